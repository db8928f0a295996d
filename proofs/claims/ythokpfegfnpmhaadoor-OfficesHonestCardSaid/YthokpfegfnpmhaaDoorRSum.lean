/- The walk of the reference's Sum. -/
import Derived.Test.YthokpfegfnpmhaaDoorRWB
import Derived.Test.YthokpfegfnpmhaaDoorRPad
namespace Go.Proofs.YthokpfegfnpmhaaDoor
open Go.RowKit Sha Cdc
set_option linter.unusedVariables false
set_option linter.unusedSimpArgs false

theorem stV_one (s : St) : (stV s).all (·.oneCell') = true := by simp [stV, Value.oneCell']
theorem stV_info (s : St) : (Tryd.prog.info? 127).map (·.size) = some (stV s).size := by
  have h : (Tryd.prog.info? 127).map (·.size) = some 8 := by kernel_rfl
  rw [h]; rfl
theorem pad_len (bs : List UInt8) : ∃ k, (pad bs).length = 64 * k ∧ 64 * k ≤ bs.length + 200 := by
  have h : (pad bs).length = bs.length + 1 + (119 - bs.length % 64) % 64 + 8 := by simp [pad, be8]; omega
  exact ⟨(bs.length + 72) / 64, by omega, by omega⟩
/-- byte i of a digest out of the state's words -/
theorem out_at (s : St) (i : Nat) (hi : i < 32) : (out s)[i]? = some (UInt8.ofNat (((stL s).getD (i / 4) 0).toNat / 256 ^ (3 - i % 4))) := by
  obtain ⟨v, hv⟩ : ∃ v, (stL s)[i / 4]? = some v := ⟨_, List.getElem?_eq_getElem (by simp; omega)⟩
  have h := flat4 (stL s) (i / 4) (i % 4) v hv (by omega)
  rw [show 4 * (i / 4) + i % 4 = i by omega] at h
  rw [out_flat, h, List.getD_eq_getElem?_getD, hv]
  rfl
/-- a digest of which i bytes have been written -/
def outB (s : St) (i : Nat) : List UInt8 := (out s).take i ++ List.replicate (32 - i) 0
theorem outB_len (s : St) (i : Nat) (h : i ≤ 32) : (outB s i).length = 32 := by simp [outB, out_len]; omega
theorem outB_all (s : St) : outB s 32 = out s := by
  rw [outB, List.take_of_length_le (by rw [out_len]; omega)]
  simp
theorem outB_set (s : St) (i : Nat) (y : UInt8) (hi : i < 32) (hy : (out s)[i]? = some y) : (outB s i).set i y = outB s (i + 1) := by
  have e : 32 - i = (32 - (i + 1)) + 1 := by omega
  have hl : ((out s).take i).length = i := by rw [List.length_take, out_len]; omega
  unfold outB
  rw [e, List.replicate_succ, List.set_append_right _ _ (by omega), hl, Nat.sub_self, List.take_add_one, hy]
  simp

theorem below_grown {w w' : World} (h : Below w.heap.size w w') (r : Option Nat) : w.grownBy w' r := ⟨h.os, h.tape, h.output, h.size, fun i hi _ => h.block i hi⟩

set_option maxRecDepth 100000 in
set_option maxHeartbeats 4000000 in
theorem rsum_dg (bs : List UInt8) (n : Nat) (hn : bs.length = n) (hb : n ≤ 100000000000) (A : Option Addr) (c : Nat) (w : World) (h : AtO w A bs) :
    Calls Tryd.prog 102 #[.slice A n c] w fun e w' => e = .returned (.agg (dg (sha bs))) ∧ Below w.heap.size w w' := by
  obtain ⟨K9, hpl, hpb⟩ := pad_len bs
  rw [hn] at hpb
  have hsha : Hid (sha bs = out (blocks init (pad bs) K9)) := Lib.hid (by rw [sha, hpl]; congr 2; omega)
  replace h := Lib.hid h
  replace hn := Lib.hid hn
  have hpd : Hid (∀ W, AtO W A bs → Calls Tryd.prog 119 #[.slice A n c] W (Fresh (pad bs) W)) := Lib.hid fun W hW => rpadded_any bs n hn.out hb A c W hW
  go_enter Tryd.func102, Tryd.ntmps102
  go_wp2_with (refine wpList_new_row' (by rfl) 127 (.tmp 3) (.tmp 8) (by rfl) (by rfl) (stV init) _ (by rfl) (by simp) (by rfl) 127 _ (stV_info init) (by rfl) (stV_one init) ?_; intro w2 h2 hz2 hB2; replace h2 := Lib.hid h2)
  have hBw : Below w.heap.size w w2 := ((Below.refl _ w).alloc (Nat.le_refl _) _).trans (hB2.mono (by omega))
  have hr2 := (hB2.block w.heap.size (by omega)).trans (heap_alloc_new w _)
  refine (hpd.out w2 (h.out.below hBw)).mono ?_
  unfold Fresh
  rintro e w3 ⟨v3, rfl, ho3, hh3, hB3⟩
  obtain ⟨A3, c3, rfl⟩ := ho3.form
  have hcap := ho3.cap
  rw [hpl] at hcap ⊢
  have hat3 := ho3.atO
  have hs3 := (hB3.block (w.heap.size + 1) (by omega)).trans h2.out
  have hr3 := (hB3.block w.heap.size (by omega)).trans hr2
  have hBw3 : Below w.heap.size w w3 := hBw.trans (hB3.mono hBw.size)
  have hlt3 : Hid (∀ g o, A3 = some ⟨g, o, none⟩ → w.heap.size + 2 ≤ g) := Lib.hid (by
    intro g o e
    have := hh3 g (by rw [e]; rfl)
    omega)
  have hsz3 : w.heap.size + 2 ≤ w3.heap.size := by have := hB3.size; omega
  clear hpd hr2 hB2 hB3 hh3 ho3 hBw h2
  replace hat3 := Lib.hid hat3
  replace hr3 := Lib.hid hr3
  replace hs3 := Lib.hid hs3
  replace hBw3 := Lib.hid hBw3
  go_wp2_with fail
  go_loopw [5] (fun s5 wr => ∃ (j q : Nat), j ≤ K9 ∧ Hid (q = 64 * j) ∧ s5 = .int .i64 (q : Int) ∧ wr.heap[w.heap.size + 1]? = some (.cells (stV (blocks init (pad bs) j)) 127 (0, 0)) ∧ w3.grownBy wr (some (w.heap.size + 1))) (fun s5 _ => 64 * K9 - (intOf s5).toNat)
  case atStart => exact ⟨0, 0, by omega, Lib.hid (by omega), rfl, hs3.out, World.grownBy.refl _ _⟩
  case round =>
    obtain ⟨j, q, hj, hq, rfl, hs, hg⟩ := hrel
    by_cases hjt : j < K9
    · obtain ⟨g, o, hA, hAt3⟩ := hat3.out.some (by rw [hpl]; omega)
      have hgl := hlt3.out g o hA
      have hgw : g < w3.heap.size := World.block_lt_of_cell? w3 ⟨g, o + 0, none⟩ (hAt3 0 _ (List.getElem?_eq_getElem (by rw [hpl]; omega)))
      have hq2 := hq.out
      have hAtw : At wr g (o + q) (((pad bs).drop q).take 64) := ((hAt3.keep (hg.block g hgw (by intro e; injection e with e; omega))).drop q).take 64
      have hlb : (((pad bs).drop q).take 64).length = 64 := by rw [List.length_take, List.length_drop, hpl]; omega
      have hnx : Hid (comp (blocks init (pad bs) j) (((pad bs).drop q).take 64) = blocks init (pad bs) (j + 1)) := Lib.hid (by rw [hq2, blocks])
      obtain ⟨⟨p0, p1, p2, p3⟩, p4, p5, p6, p7⟩ := cells8 hs
      have T1 : ((q : Int) + 64).toNat - q = 64 := by omega
      have hqb : q + 64 ≤ 64 * K9 := by omega
      have hqi : (q : Int) + 64 ≤ ((64 * K9 : Nat) : Int) := by omega
      have W1 : IntKind.i64.wrap ((q : Int) + 64) = (q : Int) + 64 := IntWalk.i64_in _ (by omega)
      have G1 : (0 : Int) ≤ (q : Int) := by omega
      have hcq : q ≤ c3 := by omega
      have hcq2 : q + 64 ≤ c3 := by omega
      generalize hst : blocks init (pad bs) j = st at *
      replace hst := Lib.hid hst
      replace hs := Lib.hid hs
      replace hAtw := Lib.hid hAtw
      replace hlb := Lib.hid hlb
      replace hq := Lib.hid hq2
      have hKb : Hid (64 * K9 ≤ n + 200) := Lib.hid hpb
      clear hq2
      subst hA
      go_wp2_with fail
      refine wp_region_quiet_tail 6 (by kernel_rfl) (by kernel_rfl) ?_
      simp only [List.take_succ_cons, List.take_zero, List.drop_succ_cons, List.drop_zero]
      repeat (go_big_quiet_step (fail))
      refine wpQuiet_nil ?_
      intro _ hw'
      obtain ⟨nq, hw''⟩ := hw'
      subst hw''
      go_wp2_with fail
      refine (rblock_any st (((pad bs).drop q).take 64) hlb.out g (o + q) (c3 - q) (wr.drewN nq) (hAtw.out.keep rfl) (by omega) (by omega)).mono ?_
      rintro e w5 ⟨rfl, hB5⟩
      rw [hnx.out]
      have hs5 := (hB5.block (w.heap.size + 1) (Array.getElem?_eq_some_iff.1 hs.out).1).trans hs.out
      have hg5 : w3.grownBy w5 (some (w.heap.size + 1)) := Lib.grownBy_trans (Lib.grownBy_trans hg ⟨rfl, rfl, rfl, Nat.le_refl _, fun _ _ _ => rfl⟩) (show wr.grownBy w5 _ from ⟨hB5.os, hB5.tape, hB5.output, hB5.size, fun i hi _ => hB5.block i hi⟩)
      generalize hst2 : blocks init (pad bs) (j + 1) = st2 at *
      replace hst2 := Lib.hid hst2
      replace hs5 := Lib.hid hs5
      have hone := Lib.hid (stV_one st2)
      have hinf := Lib.hid (stV_info st2)
      have hsz8 : Hid ((stV st).size = (stV st2).size) := Lib.hid ((stV_size st).trans (stV_size st2).symm)
      clear hB5 hg p0 p1 p2 p3 p4 p5 p6 p7
      go_wp2_with (refine wpList_set_row (by rfl) 127 (.tmp 3) (.tmp 23) (by rfl) (by rfl) (w.heap.size + 1) (stV st2) (by rfl) (by rfl) 127 (stV st) hs5.out hinf.out hsz8.out hone.out ?_; intro w6 hd6 hz6 hg6; replace hd6 := Lib.hid hd6)
      go_roundw
      case rel => exact ⟨j + 1, q + 64, by omega, Lib.hid (by have := hq.out; omega), by go_num, by rw [hst2.out]; exact hd6.out, Lib.grownBy_trans hg5 hg6⟩
      case measure => simp [intOf]; have := hq.out; omega
    · have hje : j = K9 := by omega
      have hq2 := hq.out
      rw [hje] at hs hq2
      clear hje hjt hj
      subst hq2
      have hr5 : wr.heap[w.heap.size]? = _ := (hg.block w.heap.size (Array.getElem?_eq_some_iff.1 hr3.out).1 (by intro e; injection e with e; omega)).trans hr3.out
      have hBw5 : Below w.heap.size w wr := hBw3.out.grown hg (by omega) (fun k e => by injection e with e; omega)
      replace hs := Lib.hid hs
      replace hr5 := Lib.hid hr5
      have hszr : w.heap.size + 2 ≤ wr.heap.size := by have := hg.size; omega
      clear hg hBw3 hs3 hr3 hat3 hlt3 hq
      generalize blocks init (pad bs) K9 = st at *
      have hz32 : Hid (32 = (dg (List.replicate 32 0)).size) := Lib.hid (by rw [dg_size, List.length_replicate])
      have hi32 := Lib.hid (dg_info (List.replicate 32 0) (by rw [List.length_replicate]))
      have ho32 := Lib.hid (dg_one (List.replicate 32 0))
      go_wp2_with (refine wpList_new_row (by rfl) 35 (.tmp 6) (.tmp 24) (by rfl) (by rfl) (dg (List.replicate 32 0)) (by rfl) (by rfl) 35 _ hi32.out hz32.out ho32.out ?_; intro w7 hd7 hz7 hB7; replace hd7 := Lib.hid hd7; replace hz7 := Lib.hid hz7)
      have hs7 := (hB7.block (w.heap.size + 1) (by omega)).trans hs.out
      have hr7 := (hB7.block w.heap.size (by omega)).trans hr5.out
      have hBw7 := hBw5.trans (hB7.mono (by omega))
      have hd0 : w7.heap[wr.heap.size]? = some (.cells (dg (outB st 0)) 35 (0, 0)) := hd7.out
      clear hd7 hs hr5 hBw5 hB7
      generalize hdb : wr.heap.size = db at *
      replace hdb := Lib.hid hdb
      replace hd0 := Lib.hid hd0
      replace hs7 := Lib.hid hs7
      replace hr7 := Lib.hid hr7
      go_loopw [7] (fun s7 w8 => ∃ i : Nat, i ≤ 32 ∧ s7 = .int .i64 (i : Int) ∧ w8.heap[db]? = some (.cells (dg (outB st i)) 35 (0, 0)) ∧ w7.grownBy w8 (some db)) (fun s7 _ => 32 - (intOf s7).toNat)
      case atStart => exact ⟨0, by omega, rfl, hd0.out, World.grownBy.refl _ _⟩
      case round =>
        clear hd0
        obtain ⟨i, hi, rfl, hd, hg⟩ := hrel
        by_cases hi32 : i < 32
        · have hs8 := (hg.block (w.heap.size + 1) (Array.getElem?_eq_some_iff.1 hs7.out).1 (by intro e; injection e with e; omega)).trans hs7.out
          obtain ⟨v, hv⟩ : ∃ v, (stL st)[i / 4]? = some v := ⟨_, List.getElem?_eq_getElem (by simp; omega)⟩
          have cv := cellL (l := stL st) (t := 127) hs8 hv
          have hoa := out_at st i hi32
          rw [List.getD_eq_getElem?_getD, hv, Option.getD_some] at hoa
          have hset := outB_set st i _ hi32 hoa
          obtain ⟨y0, hy0⟩ : ∃ y, (outB st i)[i]? = some y := ⟨_, List.getElem?_eq_getElem (by rw [outB_len st i hi]; omega)⟩
          have cd := rowAt hd hy0
          have cf := frozen_of_row wr db i _ _ hd
          have hval := putI_val v.toNat (3 - i % 4)
          generalize hyy : UInt8.ofNat (v.toNat / 256 ^ (3 - i % 4)) = y at *
          have hm4 : (i : Int) % 4 = ((i % 4 : Nat) : Int) := by omega
          have hd4 : (i : Int) / 4 = ((i / 4 : Nat) : Int) := by omega
          have hml : i % 4 < 4 := by omega
          have hdl : i / 4 < 8 := by omega
          have T1 : (24 - 8 * ((i % 4 : Nat) : Int)).toNat = 8 * (3 - i % 4) := by omega
          have W1 : IntKind.i64.wrap (8 * ((i % 4 : Nat) : Int)) = 8 * ((i % 4 : Nat) : Int) := IntWalk.i64_in _ (by omega)
          have W2 : IntKind.i64.wrap (24 - 8 * ((i % 4 : Nat) : Int)) = 24 - 8 * ((i % 4 : Nat) : Int) := IntWalk.i64_in _ (by omega)
          have G1 : (0 : Int) ≤ 24 - 8 * ((i % 4 : Nat) : Int) := by omega
          have G2 : (24 - 8 * ((i % 4 : Nat) : Int)) < 32 := by omega
          have G3 : 8 * (3 - i % 4) < 32 := by omega
          have G5 : 8 * ((i % 4 : Nat) : Int) ≤ 24 := by omega
          generalize i % 4 = m at *
          generalize i / 4 = d at *
          replace hset := Lib.hid hset
          replace hd := Lib.hid hd
          have hvl := v.isLt
          clear hoa hyy hv hy0 hs8
          go_wp2_with fail
          go_roundw
          case rel =>
            have h1 := heap_setCell_same wr db i _ _ (by1 y) hd.out
            refine ⟨i + 1, by omega, by go_num, ?_, Lib.grownBy_setB hg _ _⟩
            rw [← hset.out]
            refine Eq.trans h1 ?_
            simp [dg]
          case measure => simp [intOf]; omega
        · have h8 : wr.heap[db]? = some (.cells (dg (out st)) 35 (0, 0)) := by
            have e : i = 32 := by omega
            rw [hd, e, outB_all]
          have hr8 := (hg.block w.heap.size (Array.getElem?_eq_some_iff.1 hr7.out).1 (by intro e; injection e with e; omega)).trans hr7.out
          have hBwr : Below w.heap.size w wr := hBw7.grown hg (by have := hBw7.size; omega) (fun k e => by injection e with e; omega)
          have hi9 := Lib.hid (dg_info (out st) rfl)
          have ho9 := Lib.hid (dg_one (out st))
          have hz9 : Hid (32 = (dg (out st)).size) := Lib.hid (by rw [dg_size]; rfl)
          replace hr8 := Lib.hid hr8
          clear hd
          have hl8 := Lib.hid h8
          clear h8
          go_wp2_with (first | refine wpList_load_row (by rfl) 35 (.tmp 6) (by rfl) db (by rfl) 35 (dg (out st)) (0, 0) _ hl8.out Tryd.underlying35 (by rfl) hi9.out ?_ | (refine wpList_set_row (by rfl) 35 (.tmp 2) (.tmp 41) (by rfl) (by rfl) w.heap.size (dg (out st)) (by rfl) (by rfl) 35 _ hr8.out hi9.out hz9.out ho9.out ?_; intro w9 hd9 hz9 hg9; replace hd9 := Lib.hid hd9))
          refine bodyPost_ret (v := .agg (dg (out st))) (results_cell_row rfl _ _ w.heap.size 35 (dg (out st)) (0, 0) _ rfl hd9.out Tryd.underlying35 (by rfl) hi9.out) rfl ⟨by rw [hsha.out], ?_⟩
          exact hBwr.grown hg9 (by have := hBwr.size; omega) (fun k e => by injection e with e; omega)
end Go.Proofs.YthokpfegfnpmhaaDoor
