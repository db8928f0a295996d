/- The walk of the statement ChainBuilt. -/
import Derived.Test.YthokpfegfnpmhaaDoorChainSane
namespace Go.Proofs.YthokpfegfnpmhaaDoor
open Go.RowKit Cdc Sha
set_option linter.unusedVariables false
set_option linter.unusedSimpArgs false

/-- the chain that is built out of data -/
def blC (node : Int) (ds : List (List UInt8)) : List Lk := ds.foldl (fun l d => l ++ [⟨node, l.length, hdC l, d⟩]) []
theorem blC_snoc (node : Int) (ds : List (List UInt8)) (d : List UInt8) : blC node (ds ++ [d]) = blC node ds ++ [⟨node, (blC node ds).length, hdC (blC node ds), d⟩] := by simp [blC]
theorem rev_ind {α : Type} {P : List α → Prop} (h0 : P []) (h1 : ∀ l x, P l → P (l ++ [x])) (l : List α) : P l := by
  have key : ∀ m : List α, P m.reverse := by
    intro m
    induction m with
    | nil => exact h0
    | cons x m ih => rw [List.reverse_cons]; exact h1 _ _ ih
  have := key l.reverse
  rwa [List.reverse_reverse] at this
theorem blC_len (node : Int) (ds : List (List UInt8)) : (blC node ds).length = ds.length := by
  induction ds using rev_ind with
  | h0 => rfl
  | h1 l x ih => rw [blC_snoc, List.length_append, List.length_append, ih]; rfl
theorem blC_ok (node : Int) (hn : 0 ≤ node ∧ node < 24) (ds : List (List UInt8)) : (∀ d ∈ ds, d.length ≤ 300) → ds.length ≤ 1000 → OkL (blC node ds) ∧ (∀ x ∈ blC node ds, LkOk x) ∧ (∀ x ∈ blC node ds, x.node = node) := by
  induction ds using rev_ind with
  | h0 => exact fun _ _ => ⟨okL_nil, fun x hx => by simp [blC] at hx, fun x hx => by simp [blC] at hx⟩
  | h1 l d ih =>
    intro hd hlen
    rw [List.length_append] at hlen
    obtain ⟨h1, h2, h3⟩ := ih (fun e he => hd e (by simp [he])) (by omega)
    have hdl := hd d (by simp)
    rw [blC_snoc]
    have hL := blC_len node l
    refine ⟨h1.snoc ⟨fun y hy => ?_, hn.1, hn.2, rfl, by show d.length ≤ 65536; omega, by simp⟩, fun x hx => ?_, fun x hx => ?_⟩
    · cases hb : blC node l with
      | nil => rw [hb] at hy; simp at hy; rw [← hy]
      | cons z t => rw [hb] at hy; simp at hy; subst hy; exact (h3 z (by rw [hb]; simp)).symm
    · rcases List.mem_append.1 hx with h | h
      · exact h2 x h
      · simp at h
        subst h
        exact ⟨⟨by show _ ≤ node; omega, by show node ≤ _; omega⟩, ⟨by show _ ≤ ((blC node l).length : Int); omega, by show ((blC node l).length : Int) ≤ _; omega⟩, hdC_len _, by show d.length ≤ 100000; omega⟩
    · rcases List.mem_append.1 hx with h | h
      · exact h3 x h
      · simp at h
        subst h
        rfl

/-- a list of slices of bytes -/
def BsAt (w : World) (A : Option Addr) (l : List (List UInt8)) : Prop := ∀ i d, l[i]? = some d → ∃ b o Ad c, A = some ⟨b, o, none⟩ ∧ w.cell? ⟨b, o + i, none⟩ = some (.slice Ad d.length c) ∧ AtO w Ad d
theorem BsAt.below {w w' : World} {A : Option Addr} {l : List (List UInt8)} (h : BsAt w A l) (hb : Below w.heap.size w w') : BsAt w' A l := fun i d hi => by
  obtain ⟨b, o, Ad, c, h1, h2, h3⟩ := h i d hi
  exact ⟨b, o, Ad, c, h1, (hb.cell (p := ⟨b, o + i, none⟩) (World.block_lt_of_cell? w _ h2)).trans h2, h3.below hb⟩
set_option maxRecDepth 100000 in
set_option maxHeartbeats 8000000 in
theorem built_long (node : Int) (n : Nat) (A : Option Addr) (c : Nat) (w : World) (hL : Laid w) (h : 12 < n) :
    Calls Tryd.prog 4 #[.int .i64 node, .slice A n c] w fun e w' => e = .returned (.bool true) ∧ Below w.heap.size w w' := by
  have hS : Hid (Calls Tryd.prog 13 #[] w fun e w' => e = .returned (.bool true) ∧ Below w.heap.size w w') := Lib.hid (csane_any w hL)
  go_enter Tryd.func4, Tryd.ntmps4
  go_wp2_with (go_at_call 13; (with_reducible refine hS.out.mono ?_); rintro e w1 ⟨rfl, hb1⟩)
  go_ret
  exact ⟨rfl, hb1⟩
set_option maxRecDepth 100000 in
set_option maxHeartbeats 8000000 in
theorem built_lo (node : Int) (n : Nat) (A : Option Addr) (c : Nat) (w : World) (hL : Laid w) (h0 : ¬ 12 < n) (h : node < 0) :
    Calls Tryd.prog 4 #[.int .i64 node, .slice A n c] w fun e w' => e = .returned (.bool true) ∧ Below w.heap.size w w' := by
  have hS : Hid (Calls Tryd.prog 13 #[] w fun e w' => e = .returned (.bool true) ∧ Below w.heap.size w w') := Lib.hid (csane_any w hL)
  go_enter Tryd.func4, Tryd.ntmps4
  go_wp2_with (go_at_call 13; (with_reducible refine hS.out.mono ?_); rintro e w1 ⟨rfl, hb1⟩)
  go_ret
  exact ⟨rfl, hb1⟩
set_option maxRecDepth 100000 in
set_option maxHeartbeats 8000000 in
theorem built_hi (node : Int) (n : Nat) (A : Option Addr) (c : Nat) (w : World) (hL : Laid w) (h0 : ¬ 12 < n) (h1 : ¬ node < 0) (h : 24 ≤ node) :
    Calls Tryd.prog 4 #[.int .i64 node, .slice A n c] w fun e w' => e = .returned (.bool true) ∧ Below w.heap.size w w' := by
  have hS : Hid (Calls Tryd.prog 13 #[] w fun e w' => e = .returned (.bool true) ∧ Below w.heap.size w w') := Lib.hid (csane_any w hL)
  go_enter Tryd.func4, Tryd.ntmps4
  go_wp2_with (go_at_call 13; (with_reducible refine hS.out.mono ?_); rintro e w1 ⟨rfl, hb1⟩)
  go_ret
  exact ⟨rfl, hb1⟩
set_option maxRecDepth 100000 in
set_option maxHeartbeats 8000000 in
theorem built_in (node : Int) (ds : List (List UInt8)) (n : Nat) (A : Option Addr) (c : Nat) (w : World) (hn : ds.length = n) (hc : n ≤ c) (hA : BsAt w A ds) (hL : Laid w) (h12 : n ≤ 12) (hn0 : 0 ≤ node) (hn1 : node < 24) :
    Calls Tryd.prog 4 #[.int .i64 node, .slice A n c] w fun e w' => e = .returned (.bool true) ∧ Below w.heap.size w w' := by
  have hS : Hid (Calls Tryd.prog 13 #[] w fun e w' => e = .returned (.bool true) ∧ Below w.heap.size w w') := Lib.hid (csane_any w hL)
  have hnd : Hid (0 ≤ node ∧ node < 24) := Lib.hid ⟨hn0, hn1⟩
  replace hn := Lib.hid hn
  replace hA := Lib.hid hA
  replace hL := Lib.hid hL
  go_enter Tryd.func4, Tryd.ntmps4
  go_wp2_with (go_at_call 13; (with_reducible refine hS.out.mono ?_); rintro e w1 ⟨rfl, hb1⟩)
  go_loopw [5, 6] (fun s5 s6 wr => ∃ (i : Nat) (X : Option Addr) (cx : Nat), i ≤ n ∧ s5 = .slice X i cx ∧ s6 = .int .i64 i ∧ Hid (X = none → cx = 0) ∧ i ≤ cx ∧ Hid (LsAt wr X (blC node (ds.take i))) ∧ Hid (Below w.heap.size w wr) ∧ Hid (∀ d ∈ ds.take i, d.length ≤ 300)) (fun _ s6 _ => n - (intOf s6).toNat)
  case atStart => exact ⟨0, none, 0, Nat.zero_le _, rfl, rfl, Lib.hid (fun _ => rfl), Nat.le_refl _, Lib.hid (fun i x h => by simp [blC] at h), Lib.hid hb1, Lib.hid (fun d hd => by simp at hd)⟩
  case round =>
    obtain ⟨i, X, cx, hi, rfl, rfl, hx0, hcx, hls, hbw, hsm⟩ := hrel
    have htl : (ds.take i).length = i := by rw [List.length_take, hn.out]; omega
    by_cases hlt : i < n
    · obtain ⟨d, hd⟩ : ∃ d, ds[i]? = some d := ⟨_, List.getElem?_eq_getElem (by rw [hn.out]; omega)⟩
      obtain ⟨bl, ol, Ad, cd, hAe, hcl, hat⟩ := hA.out i d hd
      subst hAe
      have hclw : wr.cell? ⟨bl, ol + i, none⟩ = some (.slice Ad d.length cd) := (hbw.out.cell (p := ⟨bl, ol + i, none⟩) (World.block_lt_of_cell? w _ hcl)).trans hcl
      obtain ⟨nd, hndd⟩ : ∃ nd, d.length = nd := ⟨_, rfl⟩
      rw [hndd] at hclw
      by_cases hbig : 300 < nd
      · clear hat hcl
        have hbw2 := hbw.out
        go_wp2
        go_ret
        exact ⟨rfl, hbw2⟩
      · obtain ⟨k1, k2, k3⟩ := blC_ok node hnd.out (ds.take i) hsm.out (by omega)
        have hll : (blC node (ds.take i)).length = i := by rw [blC_len, htl]
        obtain ⟨lp, hlp⟩ : ∃ lp, blC node (ds.take i) = lp := ⟨_, rfl⟩
        have hnx : blC node (ds.take (i + 1)) = lp ++ [⟨node, i, hdC lp, d⟩] := by
          rw [List.take_add_one, hd, Option.toList_some, blC_snoc, hll, hlp]
        rw [hlp] at k1 k2 k3 hll hls
        have hAdd : Hid (Calls Tryd.prog 15 #[.slice X i cx, .int .i64 node, .slice Ad nd cd] wr fun e w' => ∃ A' c', e = .returned (.tuple #[.slice A' (i + 1) c', .int .i64 0]) ∧ i + 1 ≤ c' ∧ c' ≤ 9223372036854775807 ∧ LsAt w' A' (lp ++ [⟨node, i, hdC lp, d⟩]) ∧ Below wr.heap.size wr w') := Lib.hid
          (add_ok lp i X cx node d Ad nd cd wr hll (by omega) hcx hx0.out hls.out k2 k1 hndd (hat.below hbw.out) ⟨hnd.out.1, hnd.out.2, fun y hy => (k3 y (List.mem_of_getElem? hy)).symm, by omega⟩ (hL.out.below hbw.out))
        have hsm2 : Hid (∀ e ∈ ds.take (i + 1), e.length ≤ 300) := Lib.hid (fun e he => by
          rw [List.take_add_one, hd, Option.toList_some] at he
          rcases List.mem_append.1 he with h | h
          · exact hsm.out e h
          · simp at h; subst h; omega)
        replace k2 := Lib.hid k2
        replace hll := Lib.hid hll
        replace hndd := Lib.hid hndd
        replace hat := Lib.hid hat
        replace hcl := Lib.hid hcl
        clear k1 k3
        go_wp2_with (go_at_call 15; (with_reducible refine hAdd.out.mono ?_); rintro e w2 ⟨Y, cy, rfl, hy1, hy2, hly, hb2⟩; replace hly := Lib.hid hly; replace hb2 := Lib.hid hb2)
        have hbx : Hid (Below w.heap.size w w2) := Lib.hid (hbw.out.trans (hb2.out.mono hbw.out.size))
        have hlsx := Lib.hid (hls.out.below hb2.out)
        obtain ⟨q, hqq⟩ : ∃ q, hdC lp = q := ⟨_, rfl⟩
        have hq32 : q.length = 32 := by rw [← hqq]; exact hdC_len _
        rw [hqq] at hly hnx
        obtain ⟨bY, oY, D9, hYe, hr9, A9, c9, hD9, _, _, hat9⟩ := hly.out i ⟨node, i, q, d⟩ (by rw [List.getElem?_append_right (by rw [hll.out]; omega), hll.out]; simp)
        subst hYe hD9
        rw [hndd.out] at hr9
        have cE : ∀ dq os, Calls Tryd.prog 19 #[.slice (some ⟨bY, oY, none⟩) i cy, .slice X i cx] (Go.Sort.grow (redrawn w2 dq) os) fun e w'' => e = .returned (.bool true) ∧ ∃ p : Regrown, w'' = Go.Sort.grow (redrawn w2 p.d) p.os := fun dq os => Calls.regrown_of (by
          have hh := same_any lp lp i i (some ⟨bY, oY, none⟩) X cy cx (Go.Sort.grow (redrawn w2 dq) os) hll.out hll.out (by omega) (by omega) hcx ((by
            have := (hly.out.below (below_regrown w2 dq os)).take i
            rw [List.take_append_of_le_length (by rw [hll.out]; omega), List.take_of_length_le (by rw [hll.out]; omega)] at this
            exact this)) (hlsx.out.below (below_regrown w2 dq os)) (fun x hx => (k2.out x hx).p32) (fun x hx => (k2.out x hx).p32)
          rw [decide_eq_true rfl] at hh
          exact hh)
        have cH : ∀ dq os, Calls Tryd.prog 20 #[.slice X i cx] (Go.Sort.grow (redrawn w2 dq) os) fun e w'' => e = .returned (.agg (q.map by1).toArray) ∧ ∃ p : Regrown, w'' = Go.Sort.grow (redrawn w2 p.d) p.os := fun dq os => Calls.regrown_of (by
          rw [← hqq]
          exact head_any lp i X cx _ hll.out (by omega) hcx (hlsx.out.below (below_regrown w2 dq os)) k2.out (hL.out.below (hbx.out.trans ((below_regrown w2 dq os).mono hbx.out.size))))
        have kr := fun dq os => range_below hr9 (below_regrown w2 dq os)
        have s1 : Hid (∀ V, (∃ p : Regrown, V = Go.Sort.grow (redrawn w2 p.d) p.os) → V.rangeAt bY (oY + i * 35 + 2) (q.map by1)) := Lib.hid (by
          rintro V ⟨r, rfl⟩ j v hj
          obtain ⟨y, hy, rfl⟩ : ∃ y, q[j]? = some y ∧ by1 y = v := by simpa using hj
          have := kr r.d r.os (2 + j) _ (lkC_prev (x := ⟨node, i, q, d⟩) (D := .slice A9 nd c9) hy)
          rw [show oY + i * 35 + 2 + j = oY + i * 35 + (2 + j) by omega]
          exact this)
        have s2 := fun dq os => (show (Go.Sort.grow (redrawn w2 dq) os).cell? ⟨bY, oY + i * 35 + 1, none⟩ = some (.int .i64 i) from kr dq os 1 (.int .i64 i) (by simp [lkC]))
        have s3 := fun dq os => (show (Go.Sort.grow (redrawn w2 dq) os).cell? ⟨bY, oY + i * 35, none⟩ = some (.int .i64 node) from kr dq os 0 (.int .i64 node) (by simp [lkC]))
        have s4 := fun dq os => (show (Go.Sort.grow (redrawn w2 dq) os).cell? ⟨bY, oY + i * 35 + 34, none⟩ = some (.slice A9 nd c9) from kr dq os 34 (.slice A9 nd c9) (lkC_data (x := ⟨node, i, q, d⟩) hq32 _))
        have s5 := fun dq os => (show (convert 23 9 (.slice A9 nd c9)).run Tryd.prog (Go.Sort.grow (redrawn w2 dq) os) = .ok (.string ⟨d.toArray⟩) (Go.Sort.grow (redrawn w2 dq) os) from (hat9.below (below_regrown w2 dq os)).conv nd c9 hndd.out)
        have s6 := fun dq os => (show (Go.Sort.grow (redrawn w2 dq) os).cell? ⟨bl, ol + i, none⟩ = some (.slice Ad nd cd) from by
          have hh := ((hbx.out.trans ((below_regrown w2 dq os).mono hbx.out.size)).cell (p := ⟨bl, ol + i, none⟩) (World.block_lt_of_cell? w _ hcl.out)).trans hcl.out
          rw [hndd.out] at hh
          exact hh)
        have s7 := fun dq os => (show (convert 23 9 (.slice Ad nd cd)).run Tryd.prog (Go.Sort.grow (redrawn w2 dq) os) = .ok (.string ⟨d.toArray⟩) (Go.Sort.grow (redrawn w2 dq) os) from (hat.out.below (hbx.out.trans ((below_regrown w2 dq os).mono hbx.out.size))).conv nd cd hndd.out)
        have eq : ∀ V, (Op.equalIn 10000 35 (.agg (q.map by1).toArray) (.agg (q.map by1).toArray)).run Tryd.prog V = .ok true V := fun V => by
          have := eq_dg q q hq32 hq32 V
          rw [decide_eq_true rfl] at this
          exact this
        have hu := Lib.hid Tryd.underlying35
        have iq := Lib.hid (dg_infoL q hq32)
        have hic : i ≤ cy := by omega
        have e9 : (((i + 1 : Nat) : Int) != (i : Int) + 1) = false := by simp
        clear kr hAdd hr9 hat9 hclw
        refine wp_region_quiet_below (by kernel_rfl) (by kernel_rfl) ?_
        repeat (first
          | (go_big_quiet_want; refine quiet_load_mid 35 (.tmp 66) (by rfl) bY (oY + i * 35 + 2) (by rfl) (q.map by1) _ s1.out hu.out (by rfl) iq.out ?_; simp only [Act.put, List.setIfInBounds_toArray, List.set_cons_zero, List.set_cons_succ]; go_big_quiet_on)
          | go_big_quiet_step (first | with_reducible exact cE _ _ | with_reducible exact cH _ _))
        refine wpQuiet_nil ?_
        intro _ hw2
        obtain ⟨⟨dq, osq⟩, rfl⟩ := hw2
        have hbq := below_regrown w2 dq osq
        have hbe := Lib.hid (hbx.out.trans (hbq.mono hbx.out.size))
        have hle : Hid (LsAt (Go.Sort.grow (redrawn w2 dq) osq) (some ⟨bY, oY, none⟩) (blC node (ds.take (i + 1)))) := Lib.hid (by rw [hnx]; exact hly.out.below hbq)
        clear cE cH s1 s2 s3 s4 s5 s6 s7 eq hbq hly hlsx
        go_wp2
        go_roundw
        case rel => exact ⟨i + 1, some ⟨bY, oY, none⟩, cy, by omega, rfl, by go_num, Lib.hid (fun e => by cases e), by omega, hle, hbe, hsm2⟩
        case measure => simp [intOf]; omega
    · have hin : i = n := by omega
      subst hin
      have hall : ds.take i = ds := List.take_of_length_le (by rw [hn.out]; omega)
      obtain ⟨k1, k2, k3⟩ := blC_ok node hnd.out ds (by rw [← hall]; exact hsm.out) (by rw [hn.out]; omega)
      have hll : (blC node ds).length = i := by rw [blC_len, hn.out]
      rw [hall] at hls
      replace k1 := Lib.hid k1
      replace k2 := Lib.hid k2
      replace hll := Lib.hid hll
      clear k3 hsm
      go_wp2
      go_loopw [9] (fun s wq => ∃ j : Nat, j ≤ i + 1 ∧ s = .int .i64 j ∧ Hid (Below wr.heap.size wr wq)) (fun s _ => i + 1 - (intOf s).toNat)
      case atStart => exact ⟨0, Nat.zero_le _, rfl, Lib.hid (Below.refl _ _)⟩
      case round =>
        obtain ⟨j, hj, rfl, hbq⟩ := hrel
        by_cases hlt2 : j < i + 1
        · have hjc : j ≤ cx := by omega
          have hji : j ≤ i := by omega
          have hck : Hid (Calls Tryd.prog 21 #[.slice X j cx] wr fun e w' => e = .returned (.int .i64 0) ∧ Below wr.heap.size wr w') := Lib.hid (by
            have := check_any8 ((blC node ds).take j) j X cx wr (by rw [List.length_take, hll.out]; omega) (by omega) hjc ((hls.out.below hbq.out).take j) (fun x hx => k2.out x (List.mem_of_mem_take hx)) (hL.out.below (hbw.out.trans (hbq.out.mono hbw.out.size)))
            rw [ckC_ok (k1.out.take j)] at this
            exact this)
          go_wp2_with (go_at_call 21; (with_reducible refine hck.out.mono ?_); rintro e w3 ⟨rfl, hb3⟩; replace hb3 := Lib.hid (hbq.out.trans (hb3.mono hbq.out.size)))
          go_roundw
          case rel => exact ⟨j + 1, by omega, by go_num, hb3⟩
          case measure => simp [intOf]; omega
        · have hji : ¬ (j : Int) ≤ (i : Int) := by omega
          have hbe := hbw.out.trans (hbq.out.mono hbw.out.size)
          go_wp2
          go_ret
          exact ⟨rfl, hbe⟩

theorem built_all (node : Int) (ds : List (List UInt8)) (n : Nat) (A : Option Addr) (c : Nat) (w : World) (hn : ds.length = n) (hc : n ≤ c) (hA : BsAt w A ds) (hL : Laid w) :
    Calls Tryd.prog 4 #[.int .i64 node, .slice A n c] w fun e w' => e = .returned (.bool true) ∧ Below w.heap.size w w' := by
  by_cases h1 : 12 < n
  · exact built_long node n A c w hL h1
  · by_cases h2 : node < 0
    · exact built_lo node n A c w hL h1 h2
    · by_cases h3 : 24 ≤ node
      · exact built_hi node n A c w hL h1 h2 h3
      · exact built_in node ds n A c w hn hc hA hL (by omega) (by omega) (by omega)
end Go.Proofs.YthokpfegfnpmhaaDoor
