/- The walk of the statement ChainChanged. -/
import Derived.Test.YthokpfegfnpmhaaDoorChainSane
import Derived.Test.YthokpfegfnpmhaaDoorClash
import Derived.Test.YthokpfegfnpmhaaDoorFewArg
import Derived.Test.YthokpfegfnpmhaaDoorChainSet
namespace Go.Proofs.YthokpfegfnpmhaaDoor
open Go.RowKit Cdc Sha
set_option linter.unusedVariables false
set_option linter.unusedSimpArgs false

set_option maxRecDepth 100000 in
set_option maxHeartbeats 4000000 in
theorem cch_few (l : List Lk) (x : Lk) (n at1 : Nat) (A : Option Addr) (c : Nat) (Ax : Option Addr) (nx cx : Nat) (w : World) (hn : l.length = n) (hc : n ≤ c) (h255 : at1 ≤ 255) (hA : LsAt w A l) (ga : ArgL l) (hxp : x.prev.length = 32) (hxn : I64 x.node) (hxo : I64 x.no) (hnx : x.data.length = nx) (hdx : DatAt w (.slice Ax nx cx) x.data) (hL : Laid w) (hf : fewC l = false) :
    Calls Tryd.prog 6 #[.slice A n c, .int .u8 at1, .agg (lkA x (.slice Ax nx cx))] w fun e w' => e = .returned (.bool true) ∧ Below w.heap.size w w' := by
  obtain ⟨W0, hW0⟩ : ∃ W0, (w.alloc (.cells (lkA x (.slice Ax nx cx)) 37)) = W0 := ⟨_, rfl⟩
  have hb0 : Below w.heap.size w W0 := by rw [← hW0]; exact (Below.refl _ _).alloc (Nat.le_refl _) _
  have hr0 : W0.heap[w.heap.size]? = some (.cells (lkA x (.slice Ax nx cx)) 37 (0, 0)) := by rw [← hW0]; exact heap_alloc_new w _
  have hS : Hid (Calls Tryd.prog 13 #[] W0 fun e w' => e = .returned (.bool true) ∧ Below W0.heap.size W0 w') := Lib.hid (csane_any W0 (hL.below hb0))
  have hbl : w.heap.size < W0.heap.size := (Array.getElem?_eq_some_iff.1 hr0).1
  have hx34 : Hid (∀ V, Below W0.heap.size W0 V → V.cell? ⟨w.heap.size, 34, none⟩ = some (.slice Ax nx cx)) := Lib.hid fun V h => by
    rw [cell_of_row _ _ _ _ _ _ ((h.block w.heap.size hbl).trans hr0)]
    have := lkC_data (x := x) hxp (.slice Ax nx cx)
    simpa [lkA] using this
  have hF : Hid (∀ V, Below W0.heap.size W0 V → Calls Tryd.prog 14 #[.slice A n c] V fun e w' => e = .returned (.bool (fewC l)) ∧ w' = V) := Lib.hid fun V h => few_any l n A c V hn hc (hA.below (hb0.trans (h.mono hb0.size))) ga.p32
  rw [hf] at hF
  go_enter Tryd.func6, Tryd.ntmps6
  go_wp2_with (first
    | (go_at_call 13; (with_reducible refine hS.out.mono ?_); rintro e w1 ⟨rfl, HB⟩; have c34 := hx34.out _ HB)
    | (go_at_call 14; (with_reducible refine (hF.out _ HB).mono ?_); rintro e w' ⟨rfl, rfl⟩))
  go_ret
  exact ⟨rfl, hb0.trans (HB.mono hb0.size)⟩
set_option maxRecDepth 100000 in
set_option maxHeartbeats 4000000 in
theorem cch_nil (l : List Lk) (x : Lk) (n at1 : Nat) (A : Option Addr) (c : Nat) (Ax : Option Addr) (nx cx : Nat) (w : World) (hn : l.length = n) (hc : n ≤ c) (h255 : at1 ≤ 255) (hA : LsAt w A l) (ga : ArgL l) (hxp : x.prev.length = 32) (hxn : I64 x.node) (hxo : I64 x.no) (hnx : x.data.length = nx) (hdx : DatAt w (.slice Ax nx cx) x.data) (hL : Laid w) (hf : fewC l = true) (h0 : n = 0) :
    Calls Tryd.prog 6 #[.slice A n c, .int .u8 at1, .agg (lkA x (.slice Ax nx cx))] w fun e w' => e = .returned (.bool true) ∧ Below w.heap.size w w' := by
  obtain ⟨W0, hW0⟩ : ∃ W0, (w.alloc (.cells (lkA x (.slice Ax nx cx)) 37)) = W0 := ⟨_, rfl⟩
  have hb0 : Below w.heap.size w W0 := by rw [← hW0]; exact (Below.refl _ _).alloc (Nat.le_refl _) _
  have hr0 : W0.heap[w.heap.size]? = some (.cells (lkA x (.slice Ax nx cx)) 37 (0, 0)) := by rw [← hW0]; exact heap_alloc_new w _
  have hS : Hid (Calls Tryd.prog 13 #[] W0 fun e w' => e = .returned (.bool true) ∧ Below W0.heap.size W0 w') := Lib.hid (csane_any W0 (hL.below hb0))
  have hbl : w.heap.size < W0.heap.size := (Array.getElem?_eq_some_iff.1 hr0).1
  have hx34 : Hid (∀ V, Below W0.heap.size W0 V → V.cell? ⟨w.heap.size, 34, none⟩ = some (.slice Ax nx cx)) := Lib.hid fun V h => by
    rw [cell_of_row _ _ _ _ _ _ ((h.block w.heap.size hbl).trans hr0)]
    have := lkC_data (x := x) hxp (.slice Ax nx cx)
    simpa [lkA] using this
  have hF : Hid (∀ V, Below W0.heap.size W0 V → Calls Tryd.prog 14 #[.slice A n c] V fun e w' => e = .returned (.bool (fewC l)) ∧ w' = V) := Lib.hid fun V h => few_any l n A c V hn hc (hA.below (hb0.trans (h.mono hb0.size))) ga.p32
  rw [hf] at hF
  clear hA ga
  subst h0
  go_enter Tryd.func6, Tryd.ntmps6
  go_wp2_with (first
    | (go_at_call 13; (with_reducible refine hS.out.mono ?_); rintro e w1 ⟨rfl, HB⟩; have c34 := hx34.out _ HB)
    | (go_at_call 14; (with_reducible refine (hF.out _ HB).mono ?_); rintro e w' ⟨rfl, rfl⟩))
  go_ret
  exact ⟨rfl, hb0.trans (HB.mono hb0.size)⟩
set_option maxRecDepth 100000 in
set_option maxHeartbeats 4000000 in
theorem cch_big (l : List Lk) (x : Lk) (n at1 : Nat) (A : Option Addr) (c : Nat) (Ax : Option Addr) (nx cx : Nat) (w : World) (hn : l.length = n) (hc : n ≤ c) (h255 : at1 ≤ 255) (hA : LsAt w A l) (ga : ArgL l) (hxp : x.prev.length = 32) (hxn : I64 x.node) (hxo : I64 x.no) (hnx : x.data.length = nx) (hdx : DatAt w (.slice Ax nx cx) x.data) (hL : Laid w) (hf : fewC l = true) (h0 : 0 < n) (hb : 300 < nx) :
    Calls Tryd.prog 6 #[.slice A n c, .int .u8 at1, .agg (lkA x (.slice Ax nx cx))] w fun e w' => e = .returned (.bool true) ∧ Below w.heap.size w w' := by
  obtain ⟨W0, hW0⟩ : ∃ W0, (w.alloc (.cells (lkA x (.slice Ax nx cx)) 37)) = W0 := ⟨_, rfl⟩
  have hb0 : Below w.heap.size w W0 := by rw [← hW0]; exact (Below.refl _ _).alloc (Nat.le_refl _) _
  have hr0 : W0.heap[w.heap.size]? = some (.cells (lkA x (.slice Ax nx cx)) 37 (0, 0)) := by rw [← hW0]; exact heap_alloc_new w _
  have hS : Hid (Calls Tryd.prog 13 #[] W0 fun e w' => e = .returned (.bool true) ∧ Below W0.heap.size W0 w') := Lib.hid (csane_any W0 (hL.below hb0))
  have hbl : w.heap.size < W0.heap.size := (Array.getElem?_eq_some_iff.1 hr0).1
  have hx34 : Hid (∀ V, Below W0.heap.size W0 V → V.cell? ⟨w.heap.size, 34, none⟩ = some (.slice Ax nx cx)) := Lib.hid fun V h => by
    rw [cell_of_row _ _ _ _ _ _ ((h.block w.heap.size hbl).trans hr0)]
    have := lkC_data (x := x) hxp (.slice Ax nx cx)
    simpa [lkA] using this
  have hF : Hid (∀ V, Below W0.heap.size W0 V → Calls Tryd.prog 14 #[.slice A n c] V fun e w' => e = .returned (.bool (fewC l)) ∧ w' = V) := Lib.hid fun V h => few_any l n A c V hn hc (hA.below (hb0.trans (h.mono hb0.size))) ga.p32
  rw [hf] at hF
  go_enter Tryd.func6, Tryd.ntmps6
  go_wp2_with (first
    | (go_at_call 13; (with_reducible refine hS.out.mono ?_); rintro e w1 ⟨rfl, HB⟩; have c34 := hx34.out _ HB)
    | (go_at_call 14; (with_reducible refine (hF.out _ HB).mono ?_); rintro e w' ⟨rfl, rfl⟩))
  go_ret
  exact ⟨rfl, hb0.trans (HB.mono hb0.size)⟩
set_option maxRecDepth 100000 in
set_option maxHeartbeats 4000000 in
theorem cch_bad (l : List Lk) (x : Lk) (n at1 : Nat) (A : Option Addr) (c : Nat) (Ax : Option Addr) (nx cx : Nat) (w : World) (hn : l.length = n) (hc : n ≤ c) (h255 : at1 ≤ 255) (hA : LsAt w A l) (ga : ArgL l) (hxp : x.prev.length = 32) (hxn : I64 x.node) (hxo : I64 x.no) (hnx : x.data.length = nx) (hdx : DatAt w (.slice Ax nx cx) x.data) (hL : Laid w) (hf : fewC l = true) (h0 : 0 < n) (hsm : ¬ 300 < nx) (k : ¬ OkL l) :
    Calls Tryd.prog 6 #[.slice A n c, .int .u8 at1, .agg (lkA x (.slice Ax nx cx))] w fun e w' => e = .returned (.bool true) ∧ Below w.heap.size w w' := by
  obtain ⟨W0, hW0⟩ : ∃ W0, (w.alloc (.cells (lkA x (.slice Ax nx cx)) 37)) = W0 := ⟨_, rfl⟩
  have hb0 : Below w.heap.size w W0 := by rw [← hW0]; exact (Below.refl _ _).alloc (Nat.le_refl _) _
  have hr0 : W0.heap[w.heap.size]? = some (.cells (lkA x (.slice Ax nx cx)) 37 (0, 0)) := by rw [← hW0]; exact heap_alloc_new w _
  have hS : Hid (Calls Tryd.prog 13 #[] W0 fun e w' => e = .returned (.bool true) ∧ Below W0.heap.size W0 w') := Lib.hid (csane_any W0 (hL.below hb0))
  have hbl : w.heap.size < W0.heap.size := (Array.getElem?_eq_some_iff.1 hr0).1
  have hx34 : Hid (∀ V, Below W0.heap.size W0 V → V.cell? ⟨w.heap.size, 34, none⟩ = some (.slice Ax nx cx)) := Lib.hid fun V h => by
    rw [cell_of_row _ _ _ _ _ _ ((h.block w.heap.size hbl).trans hr0)]
    have := lkC_data (x := x) hxp (.slice Ax nx cx)
    simpa [lkA] using this
  have hF : Hid (∀ V, Below W0.heap.size W0 V → Calls Tryd.prog 14 #[.slice A n c] V fun e w' => e = .returned (.bool (fewC l)) ∧ w' = V) := Lib.hid fun V h => few_any l n A c V hn hc (hA.below (hb0.trans (h.mono hb0.size))) ga.p32
  have ok := ga.ok hf
  have ln := few_len hf
  have hK : Hid (∀ V, Below W0.heap.size W0 V → Calls Tryd.prog 21 #[.slice A n c] V fun e w' => e = .returned (.int .i64 (ckC l)) ∧ Below V.heap.size V w') := Lib.hid fun V h => check_any8 l n A c V hn (by omega) hc (hA.below (hb0.trans (h.mono hb0.size))) ok (hL.below (hb0.trans (h.mono hb0.size)))
  rw [hf] at hF
  rw [ckC_bad k] at hK
  go_enter Tryd.func6, Tryd.ntmps6
  go_wp2_with (first
    | (go_at_call 13; (with_reducible refine hS.out.mono ?_); rintro e w1 ⟨rfl, HB⟩; have c34 := hx34.out _ HB)
    | (go_at_call 14; (with_reducible refine (hF.out _ HB).mono ?_); rintro e w' ⟨rfl, rfl⟩)
    | (go_at_call 21; (with_reducible refine (hK.out _ HB).mono ?_); rintro e w2 ⟨rfl, hb⟩; replace HB := HB.trans (hb.mono HB.size); clear hb))
  go_ret
  exact ⟨rfl, hb0.trans (HB.mono hb0.size)⟩
set_option maxRecDepth 100000 in
set_option maxHeartbeats 4000000 in
theorem cch_same (l : List Lk) (x : Lk) (n at1 : Nat) (A : Option Addr) (c : Nat) (Ax : Option Addr) (nx cx : Nat) (w : World) (hn : l.length = n) (hc : n ≤ c) (h255 : at1 ≤ 255) (hA : LsAt w A l) (ga : ArgL l) (hxp : x.prev.length = 32) (hxn : I64 x.node) (hxo : I64 x.no) (hnx : x.data.length = nx) (hdx : DatAt w (.slice Ax nx cx) x.data) (hL : Laid w) (hf : fewC l = true) (h0 : 0 < n) (hsm : ¬ 300 < nx) (kk : OkL l) (i : Nat) (hin : i < n) (hmod : ((at1 : Int) % (n : Int)) = (i : Int)) (y : Lk) (hy : l[i]? = some y) (hyx : y = x) :
    Calls Tryd.prog 6 #[.slice A n c, .int .u8 at1, .agg (lkA x (.slice Ax nx cx))] w fun e w' => e = .returned (.bool true) ∧ Below w.heap.size w w' := by
  obtain ⟨W0, hW0⟩ : ∃ W0, (w.alloc (.cells (lkA x (.slice Ax nx cx)) 37)) = W0 := ⟨_, rfl⟩
  have hb0 : Below w.heap.size w W0 := by rw [← hW0]; exact (Below.refl _ _).alloc (Nat.le_refl _) _
  have hr0 : W0.heap[w.heap.size]? = some (.cells (lkA x (.slice Ax nx cx)) 37 (0, 0)) := by rw [← hW0]; exact heap_alloc_new w _
  have hS : Hid (Calls Tryd.prog 13 #[] W0 fun e w' => e = .returned (.bool true) ∧ Below W0.heap.size W0 w') := Lib.hid (csane_any W0 (hL.below hb0))
  have hbl : w.heap.size < W0.heap.size := (Array.getElem?_eq_some_iff.1 hr0).1
  have hx34 : Hid (∀ V, Below W0.heap.size W0 V → V.cell? ⟨w.heap.size, 34, none⟩ = some (.slice Ax nx cx)) := Lib.hid fun V h => by
    rw [cell_of_row _ _ _ _ _ _ ((h.block w.heap.size hbl).trans hr0)]
    have := lkC_data (x := x) hxp (.slice Ax nx cx)
    simpa [lkA] using this
  have hF : Hid (∀ V, Below W0.heap.size W0 V → Calls Tryd.prog 14 #[.slice A n c] V fun e w' => e = .returned (.bool (fewC l)) ∧ w' = V) := Lib.hid fun V h => few_any l n A c V hn hc (hA.below (hb0.trans (h.mono hb0.size))) ga.p32
  have ok := ga.ok hf
  have ln := few_len hf
  have hK : Hid (∀ V, Below W0.heap.size W0 V → Calls Tryd.prog 21 #[.slice A n c] V fun e w' => e = .returned (.int .i64 (ckC l)) ∧ Below V.heap.size V w') := Lib.hid fun V h => check_any8 l n A c V hn (by omega) hc (hA.below (hb0.trans (h.mono hb0.size))) ok (hL.below (hb0.trans (h.mono hb0.size)))
  rw [hf] at hF
  rw [ckC_ok kk] at hK
  have en : ((n : Int) == 0) = false := by simp; omega
  have e3 : decide (300 < (nx : Int)) = false := decide_eq_false (by omega)
  have hyp := ga.p32 y (List.mem_of_getElem? hy)
  obtain ⟨b1, o1, Dy, hA1, hry, Ay, cy, hDy, hdl, hdc, haty⟩ := hA i y hy
  subst hA1 hDy
  have hatx : AtO w Ax x.data := by
    obtain ⟨A5, c5, hD5, _, _, hat5⟩ := hdx
    injection hD5 with e1 e2 e3
    rw [e1]
    exact hat5
  have iy := Lib.hid (lk_info' hyp (.slice Ay y.data.length cy))
  have ix := Lib.hid (lk_info' hxp (.slice Ax nx cx))
  have hu := Lib.hid Tryd.underlying37
  have hrx : Hid (∀ V, Below W0.heap.size W0 V → V.rangeAt w.heap.size 0 (lkC x (.slice Ax nx cx))) := Lib.hid fun V h j v hj => by
    rw [cell_of_row _ _ _ _ _ _ ((h.block w.heap.size hbl).trans hr0)]
    simpa [lkA] using hj
  have hryV : Hid (∀ V, Below W0.heap.size W0 V → V.rangeAt b1 (o1 + i * 35) (lkC y (.slice Ay y.data.length cy))) := Lib.hid fun V h => range_below hry (hb0.trans (h.mono hb0.size))
  have hE : Hid (∀ V, Below W0.heap.size W0 V → Calls Tryd.prog 23 #[.agg (lkC y (.slice Ay y.data.length cy)).toArray, .agg (lkC x (.slice Ax nx cx)).toArray] V fun e w' => e = .returned (.bool (decide (y = x))) ∧ Below V.heap.size V w') := Lib.hid fun V h => by
    exact samelink_any y x Ay Ax _ nx cy cx V hyp hxp rfl hnx (haty.below (hb0.trans (h.mono hb0.size))) (hatx.below (hb0.trans (h.mono hb0.size)))
  rw [decide_eq_true hyx] at hE
  clear hyx
  go_enter Tryd.func6, Tryd.ntmps6
  go_wp2_with (first
    | (go_at_call 13; (with_reducible refine hS.out.mono ?_); rintro e w1 ⟨rfl, HB⟩; have c34 := hx34.out _ HB)
    | (go_at_call 14; (with_reducible refine (hF.out _ HB).mono ?_); rintro e w' ⟨rfl, rfl⟩)
    | (go_at_call 21; (with_reducible refine (hK.out _ HB).mono ?_); rintro e w2 ⟨rfl, hb⟩; replace HB := HB.trans (hb.mono HB.size); clear hb))
  have hPw := Lib.hid (fun dq osq => HB.trans ((below_regrown w2 dq osq).mono HB.size))
  have cE := fun dq osq => Calls.regrown_of (hE.out _ (hPw.out dq osq))
  have s1 : Hid (∀ V, (∃ p : Regrown, V = Go.Sort.grow (redrawn w2 p.d) p.os) → V.rangeAt b1 (o1 + i * 35) (lkC y (.slice Ay y.data.length cy))) := Lib.hid (by rintro V ⟨r, rfl⟩; exact hryV.out _ (hPw.out _ _))
  have s2 : Hid (∀ V, (∃ p : Regrown, V = Go.Sort.grow (redrawn w2 p.d) p.os) → V.rangeAt w.heap.size 0 (lkC x (.slice Ax nx cx))) := Lib.hid (by rintro V ⟨r, rfl⟩; exact hrx.out _ (hPw.out _ _))
  refine wp_region_quiet_below (by kernel_rfl) (by kernel_rfl) ?_
  repeat (first
    | (go_big_quiet_want; refine quiet_load_mid 37 (.tmp 37) (by rfl) b1 (o1 + i * 35) (by rfl) (lkC y (.slice Ay y.data.length cy)) _ s1.out hu.out (by rfl) iy.out ?_; simp only [Act.put, List.setIfInBounds_toArray, List.set_cons_zero, List.set_cons_succ]; go_big_quiet_on)
    | (go_big_quiet_want; refine quiet_load_mid 37 (.tmp 5) (by rfl) w.heap.size 0 (by rfl) (lkC x (.slice Ax nx cx)) _ s2.out hu.out (by rfl) ix.out ?_; simp only [Act.put, List.setIfInBounds_toArray, List.set_cons_zero, List.set_cons_succ]; go_big_quiet_on)
    | go_big_quiet_step (with_reducible exact cE _ _))
  refine wpQuiet_nil ?_
  intro _ hw2
  obtain ⟨⟨dq, osq⟩, rfl⟩ := hw2
  have HB3 := hPw.out dq osq
  clear cE s1 s2 hPw
  go_wp2
  go_ret
  exact ⟨rfl, hb0.trans (HB3.mono hb0.size)⟩
set_option maxRecDepth 100000 in
set_option maxHeartbeats 4000000 in
theorem cch_rest (l : List Lk) (x : Lk) (n at1 : Nat) (A : Option Addr) (c : Nat) (Ax : Option Addr) (nx cx : Nat) (w : World) (hn : l.length = n) (hc : n ≤ c) (h255 : at1 ≤ 255) (hA : LsAt w A l) (ga : ArgL l) (hxp : x.prev.length = 32) (hxn : I64 x.node) (hxo : I64 x.no) (hnx : x.data.length = nx) (hdx : DatAt w (.slice Ax nx cx) x.data) (hL : Laid w) (hf : fewC l = true) (h0 : 0 < n) (hsm : ¬ 300 < nx) (kk : OkL l) (i : Nat) (hin : i < n) (hmod : ((at1 : Int) % (n : Int)) = (i : Int)) (y : Lk) (hy : l[i]? = some y) (hne : y ≠ x) :
    Calls Tryd.prog 6 #[.slice A n c, .int .u8 at1, .agg (lkA x (.slice Ax nx cx))] w fun e w' => e = .returned (.bool true) ∧ Below w.heap.size w w' := by
  obtain ⟨W0, hW0⟩ : ∃ W0, (w.alloc (.cells (lkA x (.slice Ax nx cx)) 37)) = W0 := ⟨_, rfl⟩
  have hb0 : Below w.heap.size w W0 := by rw [← hW0]; exact (Below.refl _ _).alloc (Nat.le_refl _) _
  have hr0 : W0.heap[w.heap.size]? = some (.cells (lkA x (.slice Ax nx cx)) 37 (0, 0)) := by rw [← hW0]; exact heap_alloc_new w _
  have hS : Hid (Calls Tryd.prog 13 #[] W0 fun e w' => e = .returned (.bool true) ∧ Below W0.heap.size W0 w') := Lib.hid (csane_any W0 (hL.below hb0))
  have hbl : w.heap.size < W0.heap.size := (Array.getElem?_eq_some_iff.1 hr0).1
  have hx34 : Hid (∀ V, Below W0.heap.size W0 V → V.cell? ⟨w.heap.size, 34, none⟩ = some (.slice Ax nx cx)) := Lib.hid fun V h => by
    rw [cell_of_row _ _ _ _ _ _ ((h.block w.heap.size hbl).trans hr0)]
    have := lkC_data (x := x) hxp (.slice Ax nx cx)
    simpa [lkA] using this
  have hF : Hid (∀ V, Below W0.heap.size W0 V → Calls Tryd.prog 14 #[.slice A n c] V fun e w' => e = .returned (.bool (fewC l)) ∧ w' = V) := Lib.hid fun V h => few_any l n A c V hn hc (hA.below (hb0.trans (h.mono hb0.size))) ga.p32
  have ok := ga.ok hf
  have ln := few_len hf
  have hK : Hid (∀ V, Below W0.heap.size W0 V → Calls Tryd.prog 21 #[.slice A n c] V fun e w' => e = .returned (.int .i64 (ckC l)) ∧ Below V.heap.size V w') := Lib.hid fun V h => check_any8 l n A c V hn (by omega) hc (hA.below (hb0.trans (h.mono hb0.size))) ok (hL.below (hb0.trans (h.mono hb0.size)))
  rw [hf] at hF
  rw [ckC_ok kk] at hK
  have en : ((n : Int) == 0) = false := by simp; omega
  have e3 : decide (300 < (nx : Int)) = false := decide_eq_false (by omega)
  have hyp := ga.p32 y (List.mem_of_getElem? hy)
  obtain ⟨b1, o1, Dy, hA1, hry, Ay, cy, hDy, hdl, hdc, haty⟩ := hA i y hy
  subst hA1 hDy
  have hatx : AtO w Ax x.data := by
    obtain ⟨A5, c5, hD5, _, _, hat5⟩ := hdx
    injection hD5 with e1 e2 e3
    rw [e1]
    exact hat5
  have iy := Lib.hid (lk_info' hyp (.slice Ay y.data.length cy))
  have ix := Lib.hid (lk_info' hxp (.slice Ax nx cx))
  have hu := Lib.hid Tryd.underlying37
  have hrx : Hid (∀ V, Below W0.heap.size W0 V → V.rangeAt w.heap.size 0 (lkC x (.slice Ax nx cx))) := Lib.hid fun V h j v hj => by
    rw [cell_of_row _ _ _ _ _ _ ((h.block w.heap.size hbl).trans hr0)]
    simpa [lkA] using hj
  have hryV : Hid (∀ V, Below W0.heap.size W0 V → V.rangeAt b1 (o1 + i * 35) (lkC y (.slice Ay y.data.length cy))) := Lib.hid fun V h => range_below hry (hb0.trans (h.mono hb0.size))
  have hE : Hid (∀ V, Below W0.heap.size W0 V → Calls Tryd.prog 23 #[.agg (lkC y (.slice Ay y.data.length cy)).toArray, .agg (lkC x (.slice Ax nx cx)).toArray] V fun e w' => e = .returned (.bool (decide (y = x))) ∧ Below V.heap.size V w') := Lib.hid fun V h => by
    exact samelink_any y x Ay Ax _ nx cy cx V hyp hxp rfl hnx (haty.below (hb0.trans (h.mono hb0.size))) (hatx.below (hb0.trans (h.mono hb0.size)))
  rw [decide_eq_false hne] at hE
  go_enter Tryd.func6, Tryd.ntmps6
  go_wp2_with (first
    | (go_at_call 13; (with_reducible refine hS.out.mono ?_); rintro e w1 ⟨rfl, HB⟩; have c34 := hx34.out _ HB)
    | (go_at_call 14; (with_reducible refine (hF.out _ HB).mono ?_); rintro e w' ⟨rfl, rfl⟩)
    | (go_at_call 21; (with_reducible refine (hK.out _ HB).mono ?_); rintro e w2 ⟨rfl, hb⟩; replace HB := HB.trans (hb.mono HB.size); clear hb))
  have hPw := Lib.hid (fun dq osq => HB.trans ((below_regrown w2 dq osq).mono HB.size))
  have cE := fun dq osq => Calls.regrown_of (hE.out _ (hPw.out dq osq))
  have s1 : Hid (∀ V, (∃ p : Regrown, V = Go.Sort.grow (redrawn w2 p.d) p.os) → V.rangeAt b1 (o1 + i * 35) (lkC y (.slice Ay y.data.length cy))) := Lib.hid (by rintro V ⟨r, rfl⟩; exact hryV.out _ (hPw.out _ _))
  have s2 : Hid (∀ V, (∃ p : Regrown, V = Go.Sort.grow (redrawn w2 p.d) p.os) → V.rangeAt w.heap.size 0 (lkC x (.slice Ax nx cx))) := Lib.hid (by rintro V ⟨r, rfl⟩; exact hrx.out _ (hPw.out _ _))
  refine wp_region_quiet_below (by kernel_rfl) (by kernel_rfl) ?_
  repeat (first
    | (go_big_quiet_want; refine quiet_load_mid 37 (.tmp 37) (by rfl) b1 (o1 + i * 35) (by rfl) (lkC y (.slice Ay y.data.length cy)) _ s1.out hu.out (by rfl) iy.out ?_; simp only [Act.put, List.setIfInBounds_toArray, List.set_cons_zero, List.set_cons_succ]; go_big_quiet_on)
    | (go_big_quiet_want; refine quiet_load_mid 37 (.tmp 5) (by rfl) w.heap.size 0 (by rfl) (lkC x (.slice Ax nx cx)) _ s2.out hu.out (by rfl) ix.out ?_; simp only [Act.put, List.setIfInBounds_toArray, List.set_cons_zero, List.set_cons_succ]; go_big_quiet_on)
    | go_big_quiet_step (with_reducible exact cE _ _))
  refine wpQuiet_nil ?_
  intro _ hw2
  obtain ⟨⟨dq, osq⟩, rfl⟩ := hw2
  have HB3 := hPw.out dq osq
  clear cE s1 s2 hPw
  generalize Go.Sort.grow (redrawn w2 dq) osq = w5 at HB3 ⊢
  have hbB : Below W0.heap.size W0 (w5.alloc (.cells #[] 37)) := HB3.alloc HB3.size _
  have hls6 := Lib.hid (hA.below (hb0.trans (hbB.mono hb0.size)))
  have hnH := Lib.hid hn
  have hpH := Lib.hid ga.p32
  have hdB : Hid (DatAt (w5.alloc (.cells #[] 37)) (.slice Ax nx cx) x.data) := Lib.hid (hdx.below (hb0.trans (hbB.mono hb0.size)))
  have hn16 : n ≤ 16 := by omega
  have hiA := Lib.hid (lk_info hxp (.slice Ax nx cx))
  have hiO := Lib.hid (lkA_one x Ax nx cx)
  have hsz := Lib.hid (lkA_size hxp (.slice Ax nx cx))
  have okH := Lib.hid ok
  have hLH := Lib.hid (hL.below hb0)
  have hxk : Hid (LkOk x) := Lib.hid ⟨hxn, hxo, hxp, by omega⟩
  have hAH := Lib.hid (hA.below hb0)
  have hkkH := Lib.hid kk
  have hyH := Lib.hid hy
  have hneH := Lib.hid hne
  have hb0H := Lib.hid hb0
  clear hA ga hdx hL ok kk hy hne hry haty hatx hr0 hx34 hF hK hE hS hryV hn
  go_wp2_with (first
    | (at_builtin; refine wpList_copy _ (by rfl) (.tmp 41) (.tmp 42) (by rfl) l n (some ⟨b1, o1, none⟩) c w5.heap.size (by rfl) (by rfl) hnH.out h0 (by omega) hls6.out hpH.out ?_; intro g cm w6 hcp
       have hgt := hcp.there i hin
       have hset := hcp.set i x (.slice Ax nx cx) hin hxp hdB.out
       have hcm := hcp.hc
       have hB6 : Below W0.heap.size W0 w6 := hbB.trans (hcp.hb.mono hbB.size)
       have hr6 := Lib.hid (hrx.out _ hB6)
       have hgt2 : Hid (w6.there g (i * 35) (lkA x (.slice Ax nx cx)).size) := Lib.hid (by rw [hsz.out]; exact hgt)
       replace hset := Lib.hid hset
       clear hgt hcp)
    | (refine wpList_load_mid (by rfl) 37 (.tmp 5) (by rfl) w.heap.size 0 (by rfl) (lkC x (.slice Ax nx cx)) _ hr6.out hu.out (by rfl) ix.out ?_)
    | (refine wpList_store_mid (by rfl) 37 (.tmp 47) (.tmp 46) (by rfl) g (i * 35) (lkA x (.slice Ax nx cx)) (by rfl) (by rfl) hgt2.out hiA.out hiO.out ?_))
  have hset2 : LsAt (w6.setCells g (i * 35) (lkA x (.slice Ax nx cx)).toList) (some ⟨g, 0, none⟩) (l.set i x) ∧ Below (w5.alloc (.cells #[] 37)).heap.size (w5.alloc (.cells #[] 37)) (w6.setCells g (i * 35) (lkA x (.slice Ax nx cx)).toList) := hset.out
  generalize w6.setCells g (i * 35) (lkA x (.slice Ax nx cx)).toList = w7 at hset2 ⊢
  have HB7 : Below W0.heap.size W0 w7 := hbB.trans (hset2.2.mono hbB.size)
  have hm7 := Lib.hid hset2.1
  have okm : Hid (∀ z ∈ l.set i x, LkOk z) := Lib.hid fun z hz => by
    rcases List.mem_or_eq_of_mem_set hz with h | h
    · exact okH.out z h
    · rw [h]; exact hxk.out
  have hlm : Hid ((l.set i x).length = n) := Lib.hid (by rw [List.length_set]; exact hnH.out)
  have hck := check_any8 (l.set i x) n (some ⟨g, 0, none⟩) cm w7 hlm.out (by omega) hcm hset2.1 okm.out (hLH.out.below HB7)
  clear hset hset2 hgt2 hr6 hB6 hbB hls6 hdB
  by_cases km : OkL (l.set i x)
  · rw [ckC_ok km] at hck
    refine hck.mono ?_
    rintro e w8 ⟨rfl, hb8⟩
    have HB8 := HB7.trans (hb8.mono HB7.size)
    have HBw := hb0H.out.trans (HB8.mono hb0H.out.size)
    by_cases hlast : i + 1 = n
    · have e1 : ((i : Int) == (n : Int) - 1) = true := by simp; omega
      clear hck km
      go_wp2
      go_ret
      exact ⟨rfl, HBw⟩
    · have e1 : ((i : Int) == (n : Int) - 1) = false := by simp; omega
      have hi1 : i + 1 ≤ c := by omega
      have hi2 : i + 1 ≤ cm := by omega
      have hclB := clB_true (changed_clash okH.out hxk.out hyH.out hneH.out hkkH.out km (by rw [hnH.out]; omega))
      have hm8 := Lib.hid (hm7.out.below hb8)
      have hl8 := Lib.hid (hAH.out.below HB8)
      have hL8 := Lib.hid (hLH.out.below HB8)
      have cC : ∀ dq os, Calls Tryd.prog 22 #[.slice (some ⟨b1, o1, none⟩) (i + 1) c, .slice (some ⟨g, 0, none⟩) (i + 1) cm] (Go.Sort.grow (redrawn w8 dq) os) fun e w'' => e = .returned (.bool true) ∧ ∃ p : Regrown, w'' = Go.Sort.grow (redrawn w8 p.d) p.os := fun dq os => Calls.regrown_of (by
        have hb9 := below_regrown w8 dq os
        have := clash_any (l.take (i + 1)) ((l.set i x).take (i + 1)) (i + 1) (i + 1) (some ⟨b1, o1, none⟩) (some ⟨g, 0, none⟩) c cm (Go.Sort.grow (redrawn w8 dq) os) (by rw [List.length_take, hnH.out]; omega) (by rw [List.length_take, hlm.out]; omega) (by omega) (by omega) hi1 hi2 ((hl8.out.below hb9).take (i + 1)) ((hm8.out.below hb9).take (i + 1)) (fun z hz => okH.out z (List.mem_of_mem_take hz)) (fun z hz => okm.out z (List.mem_of_mem_take hz)) (hL8.out.below hb9)
        rw [hclB] at this
        exact this)
      have hPw8 := Lib.hid (fun dq os => HBw.trans ((below_regrown w8 dq os).mono HBw.size))
      clear hck km hclB
      go_wp2_with fail
      refine wp_region_quiet_below (by kernel_rfl) (by kernel_rfl) ?_
      repeat (go_big_quiet_step (with_reducible exact cC _ _))
      refine wpQuiet_nil ?_
      intro _ hw2
      obtain ⟨⟨dq2, osq2⟩, rfl⟩ := hw2
      have HBe := hPw8.out dq2 osq2
      clear cC
      go_wp2
      go_ret
      exact ⟨rfl, HBe⟩
  · rw [ckC_bad km] at hck
    refine hck.mono ?_
    rintro e w8 ⟨rfl, hb8⟩
    have HB8 := HB7.trans (hb8.mono HB7.size)
    have HBw := hb0H.out.trans (HB8.mono hb0H.out.size)
    clear hck km
    go_wp2
    go_ret
    exact ⟨rfl, HBw⟩

theorem changed_all (l : List Lk) (x : Lk) (n at1 : Nat) (A : Option Addr) (c : Nat) (Ax : Option Addr) (nx cx : Nat) (w : World) (hn : l.length = n) (hc : n ≤ c) (h255 : at1 ≤ 255) (hA : LsAt w A l) (ga : ArgL l) (hxp : x.prev.length = 32) (hxn : I64 x.node) (hxo : I64 x.no) (hnx : x.data.length = nx) (hdx : DatAt w (.slice Ax nx cx) x.data) (hL : Laid w) :
    Calls Tryd.prog 6 #[.slice A n c, .int .u8 at1, .agg (lkA x (.slice Ax nx cx))] w fun e w' => e = .returned (.bool true) ∧ Below w.heap.size w w' := by
  cases hf : fewC l with
  | false => exact cch_few l x n at1 A c Ax nx cx w hn hc h255 hA ga hxp hxn hxo hnx hdx hL hf
  | true =>
    by_cases h0 : n = 0
    · exact cch_nil l x n at1 A c Ax nx cx w hn hc h255 hA ga hxp hxn hxo hnx hdx hL hf h0
    · have h0' : 0 < n := by omega
      by_cases hb : 300 < nx
      · exact cch_big l x n at1 A c Ax nx cx w hn hc h255 hA ga hxp hxn hxo hnx hdx hL hf h0' hb
      · by_cases kk : OkL l
        · have hin : at1 % n < n := Nat.mod_lt _ h0'
          have hmod : ((at1 : Int) % (n : Int)) = ((at1 % n : Nat) : Int) := (Int.natCast_emod at1 n).symm
          have hy : l[at1 % n]? = some (l[at1 % n]'(by rw [hn]; exact hin)) := List.getElem?_eq_getElem _
          by_cases hyx : l[at1 % n]'(by rw [hn]; exact hin) = x
          · exact cch_same l x n at1 A c Ax nx cx w hn hc h255 hA ga hxp hxn hxo hnx hdx hL hf h0' hb kk _ hin hmod _ hy hyx
          · exact cch_rest l x n at1 A c Ax nx cx w hn hc h255 hA ga hxp hxn hxo hnx hdx hL hf h0' hb kk _ hin hmod _ hy hyx
        · exact cch_bad l x n at1 A c Ax nx cx w hn hc h255 hA ga hxp hxn hxo hnx hdx hL hf h0' hb kk
theorem walk_ChainChanged (a0 : List Lk) (a1 : Int) (a2 : Lk) (A0 : Option Addr) (c0 : Nat) (A2 : Option Addr) (n2 c2 : Nat) (w : World) (lc0 : a0.length ≤ c0) (nc0 : A0 = none → c0 = 0) (ls0 : LsAt w A0 a0) (ar0 : ∀ y ∈ a0, I64 y.node ∧ I64 y.no ∧ y.prev.length = 32)
    (b1 : 0 ≤ a1 ∧ a1 ≤ 255) (ln2 : a2.data.length = n2) (dt2 : DatAt w (.slice A2 n2 c2) a2.data) (gn2 : I64 a2.node) (go2 : I64 a2.no) (pp2 : a2.prev.length = 32) (hL : Laid w) :
    Calls Tryd.prog 6 #[.slice A0 a0.length c0, .int .u8 a1, .agg (lkA a2 (.slice A2 n2 c2))] w fun e w' => e = .returned (.bool true) ∧ Below w.heap.size w w' := by
  obtain ⟨m, rfl⟩ : ∃ m : Nat, a1 = m := ⟨a1.toNat, by omega⟩
  exact changed_all a0 a2 _ m A0 c0 A2 n2 c2 w rfl lc0 (by omega) ls0 ar0 pp2 gn2 go2 ln2 dt2 hL
end Go.Proofs.YthokpfegfnpmhaaDoor
