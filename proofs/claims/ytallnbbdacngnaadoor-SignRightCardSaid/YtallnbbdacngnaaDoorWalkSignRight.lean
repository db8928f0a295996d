/- The walk of the statement SignRight. -/
import Derived.Test.YtallnbbdacngnaaDoorSSane
namespace Go.Proofs.YtallnbbdacngnaaDoor
open Go.RowKit Go.Shelf Jac Cdc Sha
set_option linter.unusedVariables false
set_option linter.unusedSimpArgs false

set_option maxRecDepth 100000 in
set_option maxHeartbeats 4000000 in
theorem right_out (x : Int) (n : Nat) (A : Option Addr) (c : Nat) (w : World) (h : n ≤ 600) (hx : x < 1 ∨ 1073741789 ≤ x) (hL : Laid w) :
    Calls Tryd.prog 11 #[.int .i64 x, .slice A n c] w fun e w' => e = .returned (.bool true) ∧ Below w.heap.size w w' := by
  have cc := fun (b : Nat) (E S : Int) (W : World) (h : W.heap[b]? = some (.cells #[.int .i64 E, .int .i64 S] 50 (0, 0))) => (show W.cell? ⟨b, 0, none⟩ = some (.int .i64 E) ∧ W.cell? ⟨b, 1, none⟩ = some (.int .i64 S) from ⟨by rw [cell_of_row _ _ _ _ _ _ h]; rfl, by rw [cell_of_row _ _ _ _ _ _ h]; rfl⟩)
  by_cases h1 : x < 1
  · go_enter Tryd.func11, Tryd.ntmps11
    go_wp2_with fail
    refine (ssane_any w hL).mono ?_
    rintro e w1 ⟨rfl, hB1⟩
    go_wp2_with fail
    refine (sign_out x _ n c _ (.inl h1)).mono ?_
    rintro e w2 ⟨rfl, hB2⟩
    have hr := heap_alloc_new w2 (.cells #[.int .i64 0, .int .i64 0] 50)
    obtain ⟨c0, c1⟩ := cc _ _ _ _ hr
    have hB3 := (hB1.trans (hB2.mono hB1.size)).alloc (Nat.le_trans hB1.size hB2.size) (.cells #[.int .i64 0, .int .i64 0] 50)
    go_wp2_with fail
    go_ret
    exact ⟨rfl, hB3⟩
  · have h2 : 1073741789 ≤ x := by omega
    go_enter Tryd.func11, Tryd.ntmps11
    go_wp2_with fail
    refine (ssane_any w hL).mono ?_
    rintro e w1 ⟨rfl, hB1⟩
    go_wp2_with fail
    refine (sign_out x _ n c _ (.inr h2)).mono ?_
    rintro e w2 ⟨rfl, hB2⟩
    have hr := heap_alloc_new w2 (.cells #[.int .i64 0, .int .i64 0] 50)
    obtain ⟨c0, c1⟩ := cc _ _ _ _ hr
    have hB3 := (hB1.trans (hB2.mono hB1.size)).alloc (Nat.le_trans hB1.size hB2.size) (.cells #[.int .i64 0, .int .i64 0] 50)
    go_wp2_with fail
    go_ret
    exact ⟨rfl, hB3⟩

set_option maxRecDepth 100000 in
set_option maxHeartbeats 4000000 in
theorem right_in (x : Int) (bs : List UInt8) (n : Nat) (A : Option Addr) (c : Nat) (w : World) (hn : bs.length = n) (h : n ≤ 600) (h1 : ¬ x < 1) (h2 : ¬ 1073741789 ≤ x) (hA : AtO w A bs) (hL : Laid w) :
    Calls Tryd.prog 11 #[.int .i64 x, .slice A n c] w fun e w' => e = .returned (.bool true) ∧ Below w.heap.size w w' := by
  have cc := fun (b : Nat) (E S : Int) (W : World) (h : W.heap[b]? = some (.cells #[.int .i64 E, .int .i64 S] 50 (0, 0))) => (show W.cell? ⟨b, 0, none⟩ = some (.int .i64 E) ∧ W.cell? ⟨b, 1, none⟩ = some (.int .i64 S) from ⟨by rw [cell_of_row _ _ _ _ _ _ h]; rfl, by rw [cell_of_row _ _ _ _ _ _ h]; rfl⟩)
  have hvf := vf_right x bs (by omega) (by omega)
  have hEb := hN_bd signB [iV (powC 4 (sgK x bs)), iV (powC 4 x), tV bs]
  rw [show hN signB [iV (powC 4 (sgK x bs)), iV (powC 4 x), tV bs] = sgE x bs from rfl] at hEb
  have hSb : 0 ≤ sgS x bs ∧ sgS x bs < 1073741789 := by unfold sgS; omega
  obtain ⟨E, hE⟩ : ∃ E, sgE x bs = E := ⟨_, rfl⟩
  obtain ⟨S, hS⟩ : ∃ S, sgS x bs = S := ⟨_, rfl⟩
  rw [hE] at hEb
  rw [hS] at hSb
  rw [hE, hS] at hvf
  replace hE := Lib.hid hE
  replace hS := Lib.hid hS
  replace hvf := Lib.hid hvf
  replace hn := Lib.hid hn
  replace hA := Lib.hid hA
  go_enter Tryd.func11, Tryd.ntmps11
  go_wp2_with fail
  refine (ssane_any w hL).mono ?_
  rintro e w1 ⟨rfl, hB⟩
  go_wp2_with fail
  refine (sign_in x bs _ n c _ (by omega) (by omega) hn.out (by omega) (hA.out.below hB) (hL.below hB)).mono ?_
  rintro e w2 ⟨rfl, hb⟩
  rw [hE.out, hS.out]
  replace hB := hB.trans (hb.mono hB.size)
  have hr2 := heap_alloc_new w2 (.cells #[.int .i64 E, .int .i64 S] 50)
  have hb2 : Below w2.heap.size w2 (w2.alloc (.cells #[.int .i64 E, .int .i64 S] 50)) := (Below.refl _ _).alloc (Nat.le_refl _) _
  replace hB := hB.trans (hb2.mono hB.size)
  clear hb hb2
  go_wp2_with fail
  refine (sign_in x bs _ n c _ (by omega) (by omega) hn.out (by omega) (hA.out.below hB) (hL.below hB)).mono ?_
  rintro e w3 ⟨rfl, hb⟩
  rw [hE.out, hS.out]
  replace hB := hB.trans (hb.mono hB.size)
  replace hr2 := (hb.block w2.heap.size (Array.getElem?_eq_some_iff.1 hr2).1).trans hr2
  have hr3 := heap_alloc_new w3 (.cells #[.int .i64 E, .int .i64 S] 50)
  have hb2 : Below w3.heap.size w3 (w3.alloc (.cells #[.int .i64 E, .int .i64 S] 50)) := (Below.refl _ _).alloc (Nat.le_refl _) _
  replace hB := hB.trans (hb2.mono hB.size)
  replace hr2 := (hb2.block w2.heap.size (Array.getElem?_eq_some_iff.1 hr2).1).trans hr2
  clear hb hb2
  go_wp2_with fail
  refine (pow_any 4 x _).mono ?_
  rintro e w4 ⟨rfl, hb⟩
  rw [show powE 4 = 0 by unfold powE; rw [valid_four]; rfl]
  replace hB := hB.trans (hb.mono hB.size)
  replace hr2 := (hb.block w2.heap.size (Array.getElem?_eq_some_iff.1 hr2).1).trans hr2
  replace hr3 := (hb.block w3.heap.size (Array.getElem?_eq_some_iff.1 hr3).1).trans hr3
  obtain ⟨c20, c21⟩ := cc _ _ _ _ hr2
  obtain ⟨c30, c31⟩ := cc _ _ _ _ hr3
  clear hb
  go_wp2_with fail
  refine (verify_any (powC 4 x) bs E S _ n c _ hn.out (by omega) (hA.out.below hB) (hL.below hB)).mono ?_
  rintro e w5 ⟨rfl, hb⟩
  rw [hvf.out]
  replace hB := hB.trans (hb.mono hB.size)
  clear hb
  go_wp2_with fail
  go_ret
  exact ⟨rfl, hB⟩

set_option maxRecDepth 100000 in
theorem walk_SignRight (x : Int) (bs : List UInt8) (A : Option Addr) (c : Nat) (w : World) (hab : -9223372036854775808 ≤ x ∧ x ≤ 9223372036854775807) (hc : bs.length ≤ c) (hcm : c ≤ 9223372036854775807) (h : AtO w A bs) (hL : Laid w) :
    Calls Tryd.prog 11 #[.int .i64 x, .slice A bs.length c] w fun e w' => e = .returned (.bool true) ∧ Below w.heap.size w w' := by
  obtain ⟨n, hn⟩ : ∃ n, bs.length = n := ⟨_, rfl⟩
  rw [hn] at hc ⊢
  by_cases hbig : 600 < n
  · go_enter Tryd.func11, Tryd.ntmps11
    go_wp2_with fail
    refine (ssane_any w hL).mono ?_
    rintro e w1 ⟨rfl, hB1⟩
    go_wp2_with fail
    go_ret
    exact ⟨rfl, hB1⟩
  by_cases h1 : x < 1
  · exact right_out x n A c w (by omega) (.inl h1) hL
  by_cases h2 : 1073741789 ≤ x
  · exact right_out x n A c w (by omega) (.inr h2) hL
  exact right_in x bs n A c w hn (by omega) h1 h2 h hL
end Go.Proofs.YtallnbbdacngnaaDoor
