/- The walk of digest.Sum. -/
import Derived.Test.YtnccbhndlnkboaaDoorPutL
namespace Go.Proofs.YtnccbhndlnkboaaDoor
open Go.RowKit Sha
set_option linter.unusedVariables false
set_option linter.unusedSimpArgs false

/-- the bytes that a slice's head points at -/
def AtO (w : World) (A : Option Addr) (bs : List UInt8) : Prop := ∀ j x, bs[j]? = some x → ∃ ab ao, A = some ⟨ab, ao, none⟩ ∧ w.cell? ⟨ab, ao + j, none⟩ = some (by1 x)
theorem AtO.some {w : World} {A : Option Addr} {bs : List UInt8} (h : AtO w A bs) (hl : 0 < bs.length) : ∃ ab ao, A = some ⟨ab, ao, none⟩ ∧ At w ab ao bs := by
  obtain ⟨ab, ao, hA, _⟩ := h 0 _ (List.getElem?_eq_getElem hl)
  refine ⟨ab, ao, hA, fun j x hj => ?_⟩
  obtain ⟨ab2, ao2, hA2, hc⟩ := h j x hj
  rw [hA] at hA2
  cases hA2
  exact hc
theorem At.atO {w : World} {ab ao : Nat} {bs : List UInt8} (h : At w ab ao bs) : AtO w (some ⟨ab, ao, none⟩) bs := fun j x hj => ⟨ab, ao, rfl, h j x hj⟩
theorem AtO.below {w w' : World} {A : Option Addr} {bs : List UInt8} (h : AtO w A bs) (hb : Below w.heap.size w w') : AtO w' A bs := fun j x hj => by
  obtain ⟨ab, ao, hA, hc⟩ := h j x hj
  exact ⟨ab, ao, hA, (hb.cell (p := ⟨ab, ao + j, none⟩) (World.block_lt_of_cell? w _ hc)).trans hc⟩

/-- the laid variables of digest -/
structure Laid (w : World) : Prop where
  k : ∀ t, t < 64 → w.cell? ⟨1, t, none⟩ = some (uv (K.getD t 0))
  s : ∀ t x, (stL init)[t]? = some x → w.cell? ⟨0, t, none⟩ = some (uv x)
theorem Laid.below {w w' : World} (h : Laid w) (hb : Below w.heap.size w w') : Laid w' :=
  ⟨fun t ht => (hb.cell (p := ⟨1, t, none⟩) (World.block_lt_of_cell? w _ (h.k t ht))).trans (h.k t ht), fun t x ht => (hb.cell (p := ⟨0, t, none⟩) (World.block_lt_of_cell? w _ (h.s t x ht))).trans (h.s t x ht)⟩

theorem two_alloc (w : World) (o1 o2 : Array Value) (t1 t2 : TypeId) : ((w.alloc (.cells o1 t1)).alloc (.cells o2 t2)).heap[w.heap.size]? = some (.cells o1 t1 (0, 0)) ∧
    ((w.alloc (.cells o1 t1)).alloc (.cells o2 t2)).heap[w.heap.size + 1]? = some (.cells o2 t2 (0, 0)) ∧ Below w.heap.size w ((w.alloc (.cells o1 t1)).alloc (.cells o2 t2)) := by
  have hs : (w.alloc (.cells o1 t1)).heap.size = w.heap.size + 1 := Array.size_push ..
  refine ⟨(Below.heap_alloc _ _ _ (by omega)).trans (heap_alloc_new w _), ?_, ((Below.refl _ _).alloc (Nat.le_refl _) _).alloc (by omega) _⟩
  have := heap_alloc_new (w.alloc (.cells o1 t1)) (.cells o2 t2)
  rw [hs] at this
  exact this
def z128 : Array Value := ((List.replicate 128 (0 : UInt8)).map by1).toArray
theorem make_end (W : World) : (Instr.makeSlice 48 (.int .i64 64) (.int .i64 128)).run Tryd.prog W = .ok (.slice (some ⟨W.heap.size, 0, none⟩) 64 128) (W.alloc (.cells z128 5)) := by
  have e1 : madeCells (Value.int IntKind.u8 0).cells (Int.toNat 128 * 1) = z128 := by kernel_rfl
  have hinfo : (Tryd.prog.info? 5).map (fun i => (i.zero, i.size, i.bytes)) = some (some (.int .u8 0), 1, 1) := by kernel_rfl
  obtain ⟨i, hi, hzz⟩ := Option.map_eq_some_iff.1 hinfo
  simp only [Prod.mk.injEq] at hzz
  obtain ⟨hz, hs, hb⟩ := hzz
  have hr := run_make (P := Tryd.prog) W 48 5 i _ (by kernel_rfl) hi hz .i64 .i64 64 128 (by omega) (by omega) (by rw [hb]; decide) (by omega)
  rw [hs, e1] at hr
  exact hr
theorem addr_add (ab ao j : Nat) : (⟨ab, ao, none⟩ : Addr).add j = ⟨ab, ao + j, none⟩ := by
  unfold Addr.add
  split <;> simp_all
theorem fillM (m : Nat) (r : List UInt8) : splice ((List.replicate m (0 : UInt8)).map by1) 0 (r.map by1) = (r ++ List.replicate (m - r.length) 0).map by1 := by simp [splice]
theorem fillE (r : List UInt8) : splice ((List.replicate 128 (0 : UInt8)).map by1) 0 (r.map by1) = (r ++ List.replicate (128 - r.length) 0).map by1 := fillM 128 r
theorem put_any2 (l : List UInt8) (ty : TypeId) (v : Nat) (vi : Int) (hvi : vi = v) (hv : v < 18446744073709551616) (ab ao n c : Nat) (hn : n ≤ 8) (hc : n ≤ c) (hcm : c ≤ 9223372036854775807) (hl : ao + n ≤ l.length) (w : World)
    (h : w.heap[ab]? = some (.cells (l.map by1).toArray ty (0, 0))) :
    Calls Tryd.prog 91 #[.slice (some ⟨ab, ao, none⟩) n c, .int .u64 vi] w fun e w' => e = .returned (.tuple #[]) ∧ w'.heap[ab]? = some (.cells ((putI l (ao + n) v n).map by1).toArray ty (0, 0)) ∧ w.grownBy w' (some ab) := by
  subst hvi
  exact put_any l ty v hv ab ao n c hn hc hcm hl w h
theorem slice_eq {A : Option Addr} {p q p' q' : Nat} (hp : p = p') (hq : q = q') : Value.slice A p q = Value.slice A p' q' := by subst hp; subst hq; rfl
/-- the digest of which i words have been written -/
def outP (s : St) (i : Nat) : List UInt8 := (out s).take (4 * i) ++ List.replicate (32 - 4 * i) 0
theorem out_len (s : St) : (out s).length = 32 := rfl
theorem outP_len (s : St) (i : Nat) (h : i ≤ 8) : (outP s i).length = 32 := by simp [outP, out_len]; omega
theorem outP_all (s : St) : outP s 8 = out s := by
  rw [outP, List.take_of_length_le (by rw [out_len]; omega)]
  simp
theorem idx8 (s : St) (i : Nat) (v : W) (h : (stL s)[i]? = some v) : (#[uv s.a, uv s.b, uv s.c, uv s.d, uv s.e, uv s.f, uv s.g, uv s.h] : Array Value)[i]? = some (uv v) := by
  have e : (#[uv s.a, uv s.b, uv s.c, uv s.d, uv s.e, uv s.f, uv s.g, uv s.h] : Array Value) = ((stL s).map uv).toArray := rfl
  rw [e]
  simp only [List.getElem?_toArray, List.getElem?_map, h, Option.map_some]
theorem outP_at (s : St) (i : Nat) (hi : i ≤ 8) (j : Nat) : (outP s i)[j]? = if j < 4 * i then (out s)[j]? else if j < 32 then some 0 else none := by
  have hl := out_len s
  unfold outP
  by_cases h : j < 4 * i
  · rw [if_pos h, List.getElem?_append_left (by rw [List.length_take]; omega), List.getElem?_take, if_pos h]
  · rw [if_neg h, List.getElem?_append_right (by rw [List.length_take]; omega), List.getElem?_replicate, List.length_take]
    by_cases h2 : j < 32
    · rw [if_pos h2, if_pos (by omega)]
    · rw [if_neg h2, if_neg (by omega)]
theorem be4_at (x : W) (t : Nat) (h : t < 4) : (be4 x)[t]? = some (UInt8.ofNat (x.toNat / 256 ^ (3 - t))) := by
  have : t = 0 ∨ t = 1 ∨ t = 2 ∨ t = 3 := by omega
  rcases this with rfl | rfl | rfl | rfl <;> rfl
theorem out_flat (s : St) : out s = (stL s).flatMap be4 := by simp [out, List.append_assoc]
theorem flat4 (l : List W) (i t : Nat) (v : W) (hv : l[i]? = some v) (h : t < 4) : (l.flatMap be4)[4 * i + t]? = some (UInt8.ofNat (v.toNat / 256 ^ (3 - t))) := by
  induction l generalizing i with
  | nil => simp at hv
  | cons x l ih =>
    rw [List.flatMap_cons]
    have hb : (be4 x).length = 4 := rfl
    match i, hv with
    | 0, hv =>
      simp at hv
      subst hv
      rw [List.getElem?_append_left (by omega), Nat.mul_zero, Nat.zero_add]
      exact be4_at x t h
    | i + 1, hv =>
      rw [List.getElem?_append_right (by omega), hb, show 4 * (i + 1) + t - 4 = 4 * i + t by omega]
      exact ih i (by simpa using hv)
theorem outP_step (s : St) (i : Nat) (v : W) (hi : i < 8) (hv : (stL s)[i]? = some v) : putI (outP s i) (4 * i + 4) v.toNat 4 = outP s (i + 1) := by
  apply List.ext_getElem?
  intro j
  rw [putI, List.getElem?_mapIdx, outP_at s i (by omega), outP_at s (i + 1) (by omega)]
  by_cases h1 : j < 4 * i
  · rw [if_pos h1, if_pos (show j < 4 * (i + 1) by omega)]
    cases (out s)[j]? with
    | none => rfl
    | some x => simp only [Option.map_some, if_neg (show ¬ (4 * i + 4 - 4 ≤ j ∧ j < 4 * i + 4) by omega)]
  · rw [if_neg h1]
    by_cases h2 : j < 4 * (i + 1)
    · rw [if_pos h2, if_pos (show j < 32 by omega), Option.map_some, if_pos (show 4 * i + 4 - 4 ≤ j ∧ j < 4 * i + 4 by omega), out_flat]
      have := flat4 (stL s) i (j - 4 * i) v hv (by omega)
      rw [show 4 * i + (j - 4 * i) = j by omega] at this
      rw [this, show 4 * i + 4 - 1 - j = 3 - (j - 4 * i) by omega]
    · rw [if_neg h2]
      by_cases h3 : j < 32
      · rw [if_pos h3, Option.map_some, if_neg (show ¬ (4 * i + 4 - 4 ≤ j ∧ j < 4 * i + 4) by omega)]
      · rw [if_neg h3, Option.map_none]
theorem one_by1 (l : List UInt8) : (l.map by1).toArray.all (·.oneCell') = true := by
  rw [Array.all_eq_true_iff_forall_mem]
  intro v hv
  simp only [List.mem_toArray, List.mem_map] at hv
  obtain ⟨x, _, rfl⟩ := hv
  rfl
set_option maxRecDepth 100000 in
theorem idx_run (s : St) (i : Nat) (v : W) (hi : i < 8) (hv : (stL s)[i]? = some v) (U : World) : (Instr.index 136 (.agg #[uv s.a, uv s.b, uv s.c, uv s.d, uv s.e, uv s.f, uv s.g, uv s.h]) (.int .i64 (i : Int))).run Tryd.prog U = .ok (uv v) U := by
  match i, hi, hv with
  | 0, _, hv => (injection hv with hv; subst hv; rfl)
  | 1, _, hv => (injection hv with hv; subst hv; rfl)
  | 2, _, hv => (injection hv with hv; subst hv; rfl)
  | 3, _, hv => (injection hv with hv; subst hv; rfl)
  | 4, _, hv => (injection hv with hv; subst hv; rfl)
  | 5, _, hv => (injection hv with hv; subst hv; rfl)
  | 6, _, hv => (injection hv with hv; subst hv; rfl)
  | 7, _, hv => (injection hv with hv; subst hv; rfl)
def lenV : Value → Nat
  | .slice _ n _ => n
  | _ => 0

set_option maxRecDepth 100000 in
set_option maxHeartbeats 1000000 in
theorem sum_any (bs : List UInt8) (hbs : bs.length < 1152921504606846976) (A : Option Addr) (c : Nat) (hc : bs.length ≤ c) (hcm : c ≤ 9223372036854775807) (w : World) (h : AtO w A bs) (hL : Laid w) :
    Calls Tryd.prog 74 #[.slice A bs.length c] w fun e w' => e = .returned (.agg ((sha bs).map by1).toArray) ∧ Below w.heap.size w w' := by
  generalize hn : bs.length = n at *
  replace hn := Lib.hid hn
  replace h := Lib.hid h
  replace hL := Lib.hid hL
  have hq : ∀ (o : Obj) (t : Nat) (x : W), (stL init)[t]? = some x → (w.alloc o).cell? ⟨0, t, none⟩ = some (uv x) := fun o t x hx =>
    (((Below.refl w.heap.size w).alloc (Nat.le_refl _) o).cell (p := ⟨0, t, none⟩) (World.block_lt_of_cell? w _ (hL.out.s t x hx))).trans (hL.out.s t x hx)
  have q0 := fun o => hq o 0 _ rfl
  have q1 := fun o => hq o 1 _ rfl
  have q2 := fun o => hq o 2 _ rfl
  have q3 := fun o => hq o 3 _ rfl
  have q4 := fun o => hq o 4 _ rfl
  have q5 := fun o => hq o 5 _ rfl
  have q6 := fun o => hq o 6 _ rfl
  have q7 := fun o => hq o 7 _ rfl
  clear hq
  go_enter Tryd.func74, Tryd.ntmps74
  go_wp2_with fail
  have hst := two_alloc w ((List.replicate 32 (0 : UInt8)).map by1).toArray (stV init) 23 136
  replace hst := Lib.hid hst
  clear q0 q1 q2 q3 q4 q5 q6 q7
  go_loopw [5] (fun s5 wr => ∃ (k : Nat) (A' : Option Addr), 64 * k ≤ n ∧ s5 = .slice A' (n - 64 * k) (c - 64 * k) ∧ AtO w A' (bs.drop (64 * k)) ∧ wr.heap[w.heap.size]? = some (.cells ((List.replicate 32 (0 : UInt8)).map by1).toArray 23 (0, 0)) ∧
    wr.heap[w.heap.size + 1]? = some (.cells (stV (blocks init bs k)) 136 (0, 0)) ∧ Below w.heap.size w wr) (fun s5 _ => lenV s5)
  case atStart => exact ⟨0, A, by omega, rfl, h.out, hst.out.1, hst.out.2.1, hst.out.2.2⟩
  case round =>
    clear hst
    obtain ⟨k, A', hk, rfl, hA, hd, hs, hB⟩ := hrel
    by_cases h64 : 64 ≤ n - 64 * k
    · obtain ⟨ab, ao, rfl, hAw⟩ := hA.some (by rw [List.length_drop, hn.out]; omega)
      have hablt : ab < w.heap.size := World.block_lt_of_cell? w ⟨ab, ao + 0, none⟩ (hAw 0 _ (List.getElem?_eq_getElem (by rw [List.length_drop, hn.out]; omega)))
      have hAt := hAw.keep (hB.block ab hablt)
      have hKr := Lib.hid (hL.out.below hB).k
      have hlb : ((bs.drop (64 * k)).take 64).length = 64 := by rw [List.length_take, List.length_drop, hn.out]; omega
      have hab := Lib.hid (absorb_any (blocks init bs k) ((bs.drop (64 * k)).take 64) hlb (w.heap.size + 1) ab ao 64 (c - 64 * k) wr hs (hAt.take 64) (Nat.le_refl _) (by omega) (by omega) hKr.out)
      replace hd := Lib.hid hd
      replace hlb := Lib.hid hlb
      clear hs
      go_wp2_with fail
      refine hab.out.mono ?_
      rintro e w2 ⟨rfl, hs2, hg2⟩
      go_wp2_with fail
      have hnx : ∃ A2, (if c - 64 * k = 64 then some (⟨ab, ao, none⟩ : Addr) else some ⟨ab, ao + 64, none⟩) = A2 ∧ AtO w A2 (bs.drop (64 * (k + 1))) := by
        refine ⟨_, rfl, ?_⟩
        split
        · intro j x hx
          rw [List.drop_eq_nil_of_le (by rw [hn.out]; omega)] at hx
          simp at hx
        · have := (hAw.drop 64).atO
          rw [List.drop_drop, show 64 * k + 64 = 64 * (k + 1) by omega] at this
          exact this
      obtain ⟨A2, hA2, hnA⟩ := hnx
      rw [hA2]
      clear hA2
      go_roundw
      case rel =>
        refine ⟨k + 1, A2, by omega, ?_, hnA, (hg2.block w.heap.size ?_ ?_).trans hd.out, hs2, hB.grown hg2 hB.size (fun j e => by cases e; omega)⟩
        · rw [show n - 64 * k - 64 = n - 64 * (k + 1) by omega, show c - 64 * k - 64 = c - 64 * (k + 1) by omega]
        · exact (Array.getElem?_eq_some_iff.1 hd.out).1
        · intro e
          have e := Option.some.inj e
          omega
      case measure => simp [lenV]; omega
    · have hmk := make_end wr
      generalize hr : bs.drop (64 * k) = r at *
      have hrl : r.length = n - 64 * k := by rw [← hr, List.length_drop, hn.out]
      replace hrl := Lib.hid hrl
      replace hr := Lib.hid hr
      have hE : (wr.alloc (.cells z128 5)).heap[wr.heap.size]? = some (.cells ((List.replicate 128 (0 : UInt8)).map by1).toArray 5 (0, 0)) := heap_alloc_new wr _
      have hBr : Below wr.heap.size wr (wr.alloc (.cells z128 5)) := (Below.refl _ _).alloc (Nat.le_refl _) _
      have hAr := hA.below (hB.trans (hBr.mono hB.size))
      generalize hrz : wr.heap.size = eb at *
      generalize wr.alloc (.cells z128 5) = W1 at *
      have fn : Hid ((r.map by1).length = Nat.min (n - 64 * k) 64) := Lib.hid (by rw [List.length_map, hrl.out]; simp [Nat.min_def]; omega)
      have fpos : Hid (0 < (r.map by1).length → ∃ ad, A' = some ad ∧ ∀ j v, (r.map by1)[j]? = some v → W1.cell? (ad.add j) = some v) := Lib.hid (by
        intro hp
        obtain ⟨ab, ao, rfl, hAt⟩ := hAr.some (by simpa using hp)
        refine ⟨_, rfl, fun j v hj => ?_⟩
        rw [List.getElem?_map] at hj
        obtain ⟨x, hx, rfl⟩ := Option.map_eq_some_iff.1 hj
        rw [addr_add]
        exact hAt j x hx)
      have ffit : Hid (0 + (r.map by1).length ≤ ((List.replicate 128 (0 : UInt8)).map by1).length) := Lib.hid (by rw [List.length_map, List.length_map, List.length_replicate, hrl.out]; omega)
      have f1 : Hid (∀ v ∈ r.map by1, v.oneCell' = true) := Lib.hid (by intro v hv; obtain ⟨x, _, rfl⟩ := List.mem_map.1 hv; rfl)
      go_wp2_with (refine wpList_copy_splice (by rfl) (.tmp 22) (.tmp 23) 48 48 (by rfl) 5 Tryd.underlying48 (by kernel_rfl) (some ⟨eb, 0, none⟩) A' 64 128 (n - 64 * k) (c - 64 * k) (by rfl) (by rfl) eb 0 ((List.replicate 128 (0 : UInt8)).map by1) 5 hE (r.map by1) fn.out (fun hp => ⟨rfl, fpos.out hp⟩) ffit.out f1.out eb wr hBr (Nat.le_refl _) ?_; intro W2 HG2 hB2; have HG3 := HG2.out; rw [fillE] at HG3; have hc2 : W2.cell? ⟨eb, n - 64 * k, none⟩ = some (by1 0) := (rowAt HG3 (by rw [List.getElem?_append_right (by rw [hrl.out]; exact Nat.le_refl _), hrl.out, Nat.sub_self, List.getElem?_replicate, if_pos (by omega)])); have hf2 : W2.frozen? ⟨eb, n - 64 * k, none⟩ = false := frozen_of_row W2 eb (n - 64 * k) _ _ HG3; clear HG2; replace HG3 := Lib.hid HG3)
      · have hE3 : (W2.setCell ⟨eb, n - 64 * k, none⟩ (by1 0x80)).heap[eb]? = some (.cells ((endL r).map by1).toArray 5 (0, 0)) := by
          have h1 := heap_setCell_same W2 eb (n - 64 * k) _ _ (by1 0x80) HG3.out
          rw [← hrl.out] at h1
          rw [← hrl.out, ← endL_set r (by rw [hrl.out]; omega)]
          refine Eq.trans h1 ?_
          simp
        have hlt64 : r.length < 64 := by rw [hrl.out]; omega
        have hlen := endL_len r hlt64
        refine (put_any2 (endL r) 5 (n * 8) _ (by omega) (by omega) eb 120 8 8 (by omega) (by omega) (by omega) (by rw [hlen]; omega) _ hE3).mono ?_
        rintro e w4 ⟨rfl, hE4, hg4⟩
        have hsz0 : w.heap.size + 1 < eb := by rw [← hrz]; exact (Array.getElem?_eq_some_iff.1 hs).1
        have hB3 : Below eb wr w4 := (hB2.setCell (p := ⟨eb, n - 64 * k, none⟩) (Nat.le_refl _) _).grown hg4 (by have := hB2.size; simp [World.setCell]; omega) (fun j e => by have e := Option.some.inj e; omega)
        have hd4 := (hB3.block w.heap.size (by omega)).trans hd
        have hs4 := (hB3.block (w.heap.size + 1) (by omega)).trans hs
        have hB4 := hB.trans (hB3.mono (by omega))
        have hFl : (putI (endL r) (120 + 8) (n * 8) 8).length = 128 := by rw [putI_len, hlen]
        generalize hF : putI (endL r) (120 + 8) (n * 8) 8 = F at *
        generalize hst : blocks init bs k = st at *
        replace hF := Lib.hid hF
        replace hst := Lib.hid hst
        clear hE3 hg4 hc2 hf2 HG3 hB2 hB3 hBr hE hmk fn fpos ffit f1 hAr hA hd hs hB hlen
        replace hE4 := Lib.hid hE4
        replace hd4 := Lib.hid hd4
        replace hs4 := Lib.hid hs4
        go_wp2_with fail
        go_loopw [6] (fun s6 w5 => ∃ (j : Nat) (A3 : Option Addr), 64 * j ≤ 128 ∧ s6 = .slice A3 (128 - 64 * j) (128 - 64 * j) ∧ (64 * j < 128 → A3 = some ⟨eb, 64 * j, none⟩) ∧ w5.heap[eb]? = some (.cells (F.map by1).toArray 5 (0, 0)) ∧
          w5.heap[w.heap.size]? = some (.cells ((List.replicate 32 (0 : UInt8)).map by1).toArray 23 (0, 0)) ∧ w5.heap[w.heap.size + 1]? = some (.cells (stV (blocks st F j)) 136 (0, 0)) ∧ Below w.heap.size w w5) (fun s6 _ => lenV s6)
        case atStart => exact ⟨0, _, by omega, rfl, fun _ => rfl, hE4.out, hd4.out, hs4.out, hB4⟩
        case round =>
          clear hE4 hd4 hs4 hB4
          obtain ⟨j, A3, hj, rfl, hA3, hE, hd, hs, hB⟩ := hrel
          by_cases hj2 : 64 * j < 128
          · obtain rfl := hA3 hj2
            have hAt : At wr eb (64 * j) ((F.drop (64 * j)).take 64) := At.take (fun i x hx => by
              rw [List.getElem?_drop] at hx
              exact rowAt hE hx) 64
            have hKr := Lib.hid (hL.out.below hB).k
            have hlb : ((F.drop (64 * j)).take 64).length = 64 := by rw [List.length_take, List.length_drop, hFl]; omega
            have hab := Lib.hid (absorb_any (blocks st F j) ((F.drop (64 * j)).take 64) hlb (w.heap.size + 1) eb (64 * j) 64 (128 - 64 * j) wr hs hAt (Nat.le_refl _) (by omega) (by omega) hKr.out)
            replace hd := Lib.hid hd
            replace hE := Lib.hid hE
            replace hlb := Lib.hid hlb
            clear hs hA3 hAt
            go_wp2_with fail
            refine hab.out.mono ?_
            rintro e w2 ⟨rfl, hs2, hg2⟩
            go_wp2_with fail
            go_roundw
            case rel =>
              refine ⟨j + 1, _, by omega, slice_eq (by omega) (by omega), ?_, (hg2.block eb ?_ ?_).trans hE.out, (hg2.block w.heap.size ?_ ?_).trans hd.out, hs2, hB.grown hg2 hB.size (fun j e => by have e := Option.some.inj e; omega)⟩
              · intro h
                first | (exfalso; omega) | (rw [if_neg (by omega)]; rfl)
              · exact (Array.getElem?_eq_some_iff.1 hE.out).1
              · intro e
                have e := Option.some.inj e
                omega
              · exact (Array.getElem?_eq_some_iff.1 hd.out).1
              · intro e
                have e := Option.some.inj e
                omega
            case measure => simp [lenV]; omega
          · have hjE : 64 * j = 128 := by omega
            have hs9 : wr.heap[w.heap.size + 1]? = some (.cells (stV (blocks st F (128 / 64))) 136 (0, 0)) := by
              rw [show 128 / 64 = j by omega]
              exact hs
            clear hs hA3 hjE
            generalize hst9 : blocks st F (128 / 64) = st9 at *
            replace hst9 := Lib.hid hst9
            obtain ⟨⟨p0, p1, p2, p3⟩, p4, p5, p6, p7⟩ := cells8 hs9
            go_wp2_with fail
            have hd9 : wr.heap[w.heap.size]? = some (.cells ((outP st9 0).map by1).toArray 23 (0, 0)) := hd
            replace hd9 := Lib.hid hd9
            clear hs9 hE hd p0 p1 p2 p3 p4 p5 p6 p7
            obtain ⟨bj, hbj⟩ : ∃ bj : Bool, bj = decide (0 < 128 - 64 * j) := ⟨_, rfl⟩
            rw [← hbj]
            clear hbj
            go_loopw [54] (fun s54 w6 => ∃ i : Nat, i ≤ 8 ∧ s54 = .int .i64 i ∧ w6.heap[w.heap.size]? = some (.cells ((outP st9 i).map by1).toArray 23 (0, 0)) ∧ Below w.heap.size w w6) (fun s54 _ => 8 - (intOf s54).toNat)
            case atStart => exact ⟨0, by omega, rfl, hd9.out, hB⟩
            case round =>
              clear hd9 hB
              obtain ⟨i, hi, rfl, hd, hB⟩ := hrel
              by_cases hi8 : i < 8
              · obtain ⟨v, hv⟩ : ∃ v, (stL st9)[i]? = some v := ⟨_, List.getElem?_eq_getElem (by simpa using hi8)⟩
                have hidx := idx_run st9 i v hi8 hv wr
                have hvl := v.isLt
                have hput := Lib.hid (put_any (outP st9 i) 23 v.toNat (by omega) w.heap.size (4 * i) 4 (32 - 4 * i) (by omega) (by omega) (by omega) (by rw [outP_len st9 i hi]; omega) wr hd)
                have hstep := Lib.hid (outP_step st9 i v hi8 hv)
                have W1 : IntKind.i64.wrap (4 * (i : Int)) = 4 * (i : Int) := IntWalk.i64_in _ (by omega)
                have W2 : IntKind.i64.wrap (4 * (i : Int) + 4) = 4 * (i : Int) + 4 := IntWalk.i64_in _ (by omega)
                have T1 : (4 * (i : Int)).toNat = 4 * i := by omega
                have T2 : (4 * (i : Int) + 4).toNat = 4 * i + 4 := by omega
                have G0 : (0 : Int) ≤ (i : Int) := by omega
                have G1 : (0 : Int) ≤ 4 * (i : Int) := by omega
                have G2 : 4 * (i : Int) ≤ 4 * (i : Int) + 4 := by omega
                have G3 : 4 * (i : Int) + 4 ≤ 32 := by omega
                have G4 : (i : Int) < 8 := by omega
                have WV : IntKind.u64.wrap (v.toNat : Int) = (v.toNat : Int) := by simp [IntKind.wrap, IntKind.bits, IntKind.signed]; omega
                clear hv hd
                go_wp2_with fail
                refine hput.out.mono ?_
                rintro e w7 ⟨rfl, hd7, hg7⟩
                go_wp2_with fail
                go_roundw
                case rel => exact ⟨i + 1, by omega, by go_num, by rw [← hstep.out]; exact hd7, hB.grown hg7 hB.size (fun j e => by have e := Option.some.inj e; omega)⟩
                case measure => simp [intOf]; omega
              · have h8 : wr.heap[w.heap.size]? = some (.cells ((out st9).map by1).toArray 23 (0, 0)) := by
                  have e : i = 8 := by omega
                  rw [hd, e, outP_all]
                clear hd
                obtain ⟨D9, hD9⟩ : ∃ D9 : Array Value, D9 = ((out st9).map by1).toArray := ⟨_, rfl⟩
                rw [← hD9] at h8
                have hsz9 : D9.size = 32 := by rw [hD9]; rfl
                have hone : D9.all (·.oneCell') = true := by rw [hD9]; exact one_by1 _
                have hinf : (Tryd.prog.info? 23).map (·.size) = some D9.size := by rw [hsz9]; kernel_rfl
                replace hD9 := Lib.hid hD9
                replace hsz9 := Lib.hid hsz9
                go_wp2_with (first | refine wpList_load_row (by rfl) 23 (.tmp 2) (by rfl) w.heap.size (by rfl) 23 D9 (0, 0) _ h8 Tryd.underlying23 (by rfl) hinf ?_ | refine wpList_store_row (by rfl) 23 (.tmp 2) (.tmp 68) (by rfl) w.heap.size D9 (by rfl) (by rfl) 23 D9 h8 hinf rfl hone ?_)
                refine bodyPost_ret (v := .agg D9) (results_cell_row rfl _ _ w.heap.size 23 D9 (0, 0) _ rfl (setRow_heap wr w.heap.size D9 _ _ _ h8) Tryd.underlying23 (by rfl) hinf) rfl ⟨?_, below_setRow hB (Nat.le_refl _) D9⟩
                rw [hD9.out, sha_long bs k r hr.out (by rw [hn.out]; omega) hlt64 (by rw [hrl.out]; omega), hn.out, hF.out, hst.out, hst9.out]
      · have hE3 : (W2.setCell ⟨eb, n - 64 * k, none⟩ (by1 0x80)).heap[eb]? = some (.cells ((endL r).map by1).toArray 5 (0, 0)) := by
          have h1 := heap_setCell_same W2 eb (n - 64 * k) _ _ (by1 0x80) HG3.out
          rw [← hrl.out] at h1
          rw [← hrl.out, ← endL_set r (by rw [hrl.out]; omega)]
          refine Eq.trans h1 ?_
          simp
        have hlt64 : r.length < 64 := by rw [hrl.out]; omega
        have hlen := endL_len r hlt64
        refine (put_any2 (endL r) 5 (n * 8) _ (by omega) (by omega) eb 56 8 72 (by omega) (by omega) (by omega) (by rw [hlen]; omega) _ hE3).mono ?_
        rintro e w4 ⟨rfl, hE4, hg4⟩
        have hsz0 : w.heap.size + 1 < eb := by rw [← hrz]; exact (Array.getElem?_eq_some_iff.1 hs).1
        have hB3 : Below eb wr w4 := (hB2.setCell (p := ⟨eb, n - 64 * k, none⟩) (Nat.le_refl _) _).grown hg4 (by have := hB2.size; simp [World.setCell]; omega) (fun j e => by have e := Option.some.inj e; omega)
        have hd4 := (hB3.block w.heap.size (by omega)).trans hd
        have hs4 := (hB3.block (w.heap.size + 1) (by omega)).trans hs
        have hB4 := hB.trans (hB3.mono (by omega))
        have hFl : (putI (endL r) (56 + 8) (n * 8) 8).length = 128 := by rw [putI_len, hlen]
        generalize hF : putI (endL r) (56 + 8) (n * 8) 8 = F at *
        generalize hst : blocks init bs k = st at *
        replace hF := Lib.hid hF
        replace hst := Lib.hid hst
        clear hE3 hg4 hc2 hf2 HG3 hB2 hB3 hBr hE hmk fn fpos ffit f1 hAr hA hd hs hB hlen
        replace hE4 := Lib.hid hE4
        replace hd4 := Lib.hid hd4
        replace hs4 := Lib.hid hs4
        go_wp2_with fail
        go_loopw [6] (fun s6 w5 => ∃ (j : Nat) (A3 : Option Addr), 64 * j ≤ 64 ∧ s6 = .slice A3 (64 - 64 * j) (128 - 64 * j) ∧ (64 * j < 64 → A3 = some ⟨eb, 64 * j, none⟩) ∧ w5.heap[eb]? = some (.cells (F.map by1).toArray 5 (0, 0)) ∧
          w5.heap[w.heap.size]? = some (.cells ((List.replicate 32 (0 : UInt8)).map by1).toArray 23 (0, 0)) ∧ w5.heap[w.heap.size + 1]? = some (.cells (stV (blocks st F j)) 136 (0, 0)) ∧ Below w.heap.size w w5) (fun s6 _ => lenV s6)
        case atStart => exact ⟨0, _, by omega, rfl, fun _ => rfl, hE4.out, hd4.out, hs4.out, hB4⟩
        case round =>
          clear hE4 hd4 hs4 hB4
          obtain ⟨j, A3, hj, rfl, hA3, hE, hd, hs, hB⟩ := hrel
          by_cases hj2 : 64 * j < 64
          · obtain rfl := hA3 hj2
            have hAt : At wr eb (64 * j) ((F.drop (64 * j)).take 64) := At.take (fun i x hx => by
              rw [List.getElem?_drop] at hx
              exact rowAt hE hx) 64
            have hKr := Lib.hid (hL.out.below hB).k
            have hlb : ((F.drop (64 * j)).take 64).length = 64 := by rw [List.length_take, List.length_drop, hFl]; omega
            have hab := Lib.hid (absorb_any (blocks st F j) ((F.drop (64 * j)).take 64) hlb (w.heap.size + 1) eb (64 * j) 64 (128 - 64 * j) wr hs hAt (Nat.le_refl _) (by omega) (by omega) hKr.out)
            replace hd := Lib.hid hd
            replace hE := Lib.hid hE
            replace hlb := Lib.hid hlb
            clear hs hA3 hAt
            go_wp2_with fail
            refine hab.out.mono ?_
            rintro e w2 ⟨rfl, hs2, hg2⟩
            go_wp2_with fail
            go_roundw
            case rel =>
              refine ⟨j + 1, _, by omega, slice_eq (by omega) (by omega), ?_, (hg2.block eb ?_ ?_).trans hE.out, (hg2.block w.heap.size ?_ ?_).trans hd.out, hs2, hB.grown hg2 hB.size (fun j e => by have e := Option.some.inj e; omega)⟩
              · intro h
                first | (exfalso; omega) | (rw [if_neg (by omega)]; rfl)
              · exact (Array.getElem?_eq_some_iff.1 hE.out).1
              · intro e
                have e := Option.some.inj e
                omega
              · exact (Array.getElem?_eq_some_iff.1 hd.out).1
              · intro e
                have e := Option.some.inj e
                omega
            case measure => simp [lenV]; omega
          · have hjE : 64 * j = 64 := by omega
            have hs9 : wr.heap[w.heap.size + 1]? = some (.cells (stV (blocks st F (64 / 64))) 136 (0, 0)) := by
              rw [show 64 / 64 = j by omega]
              exact hs
            clear hs hA3 hjE
            generalize hst9 : blocks st F (64 / 64) = st9 at *
            replace hst9 := Lib.hid hst9
            obtain ⟨⟨p0, p1, p2, p3⟩, p4, p5, p6, p7⟩ := cells8 hs9
            go_wp2_with fail
            have hd9 : wr.heap[w.heap.size]? = some (.cells ((outP st9 0).map by1).toArray 23 (0, 0)) := hd
            replace hd9 := Lib.hid hd9
            clear hs9 hE hd p0 p1 p2 p3 p4 p5 p6 p7
            obtain ⟨bj, hbj⟩ : ∃ bj : Bool, bj = decide (0 < 64 - 64 * j) := ⟨_, rfl⟩
            rw [← hbj]
            clear hbj
            go_loopw [54] (fun s54 w6 => ∃ i : Nat, i ≤ 8 ∧ s54 = .int .i64 i ∧ w6.heap[w.heap.size]? = some (.cells ((outP st9 i).map by1).toArray 23 (0, 0)) ∧ Below w.heap.size w w6) (fun s54 _ => 8 - (intOf s54).toNat)
            case atStart => exact ⟨0, by omega, rfl, hd9.out, hB⟩
            case round =>
              clear hd9 hB
              obtain ⟨i, hi, rfl, hd, hB⟩ := hrel
              by_cases hi8 : i < 8
              · obtain ⟨v, hv⟩ : ∃ v, (stL st9)[i]? = some v := ⟨_, List.getElem?_eq_getElem (by simpa using hi8)⟩
                have hidx := idx_run st9 i v hi8 hv wr
                have hvl := v.isLt
                have hput := Lib.hid (put_any (outP st9 i) 23 v.toNat (by omega) w.heap.size (4 * i) 4 (32 - 4 * i) (by omega) (by omega) (by omega) (by rw [outP_len st9 i hi]; omega) wr hd)
                have hstep := Lib.hid (outP_step st9 i v hi8 hv)
                have W1 : IntKind.i64.wrap (4 * (i : Int)) = 4 * (i : Int) := IntWalk.i64_in _ (by omega)
                have W2 : IntKind.i64.wrap (4 * (i : Int) + 4) = 4 * (i : Int) + 4 := IntWalk.i64_in _ (by omega)
                have T1 : (4 * (i : Int)).toNat = 4 * i := by omega
                have T2 : (4 * (i : Int) + 4).toNat = 4 * i + 4 := by omega
                have G0 : (0 : Int) ≤ (i : Int) := by omega
                have G1 : (0 : Int) ≤ 4 * (i : Int) := by omega
                have G2 : 4 * (i : Int) ≤ 4 * (i : Int) + 4 := by omega
                have G3 : 4 * (i : Int) + 4 ≤ 32 := by omega
                have G4 : (i : Int) < 8 := by omega
                have WV : IntKind.u64.wrap (v.toNat : Int) = (v.toNat : Int) := by simp [IntKind.wrap, IntKind.bits, IntKind.signed]; omega
                clear hv hd
                go_wp2_with fail
                refine hput.out.mono ?_
                rintro e w7 ⟨rfl, hd7, hg7⟩
                go_wp2_with fail
                go_roundw
                case rel => exact ⟨i + 1, by omega, by go_num, by rw [← hstep.out]; exact hd7, hB.grown hg7 hB.size (fun j e => by have e := Option.some.inj e; omega)⟩
                case measure => simp [intOf]; omega
              · have h8 : wr.heap[w.heap.size]? = some (.cells ((out st9).map by1).toArray 23 (0, 0)) := by
                  have e : i = 8 := by omega
                  rw [hd, e, outP_all]
                clear hd
                obtain ⟨D9, hD9⟩ : ∃ D9 : Array Value, D9 = ((out st9).map by1).toArray := ⟨_, rfl⟩
                rw [← hD9] at h8
                have hsz9 : D9.size = 32 := by rw [hD9]; rfl
                have hone : D9.all (·.oneCell') = true := by rw [hD9]; exact one_by1 _
                have hinf : (Tryd.prog.info? 23).map (·.size) = some D9.size := by rw [hsz9]; kernel_rfl
                replace hD9 := Lib.hid hD9
                replace hsz9 := Lib.hid hsz9
                go_wp2_with (first | refine wpList_load_row (by rfl) 23 (.tmp 2) (by rfl) w.heap.size (by rfl) 23 D9 (0, 0) _ h8 Tryd.underlying23 (by rfl) hinf ?_ | refine wpList_store_row (by rfl) 23 (.tmp 2) (.tmp 68) (by rfl) w.heap.size D9 (by rfl) (by rfl) 23 D9 h8 hinf rfl hone ?_)
                refine bodyPost_ret (v := .agg D9) (results_cell_row rfl _ _ w.heap.size 23 D9 (0, 0) _ rfl (setRow_heap wr w.heap.size D9 _ _ _ h8) Tryd.underlying23 (by rfl) hinf) rfl ⟨?_, below_setRow hB (Nat.le_refl _) D9⟩
                rw [hD9.out, sha_short bs k r hr.out (by rw [hn.out]; omega) hlt64 (by rw [hrl.out]; omega), hn.out, hF.out, hst.out, hst9.out]
end Go.Proofs.YtnccbhndlnkboaaDoor
