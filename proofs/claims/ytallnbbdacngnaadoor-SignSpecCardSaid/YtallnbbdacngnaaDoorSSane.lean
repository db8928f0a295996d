/- The walk of the examples of the statements about sign. -/
import Derived.Test.YtallnbbdacngnaaDoorSignLaw
import Derived.Lib.SlBytesConst
namespace Go.Proofs.YtallnbbdacngnaaDoor
open Go.RowKit Go.Shelf Jac Cdc Sha
set_option linter.unusedVariables false
set_option linter.unusedSimpArgs false

def lett : List UInt8 := [108, 101, 116, 116, 101, 114]

/-- a signature's cells -/
def sgR (E S : Int) : Array Value := #[.int .i64 E, .int .i64 S]

set_option maxRecDepth 100000 in
set_option maxHeartbeats 4000000 in
theorem ssane_any (w : World) (hL : Laid w) :
    Calls Tryd.prog 33 #[] w fun e w' => e = .returned (.bool true) ∧ Below w.heap.size w w' := by
  have kc := fun (w : World) (C : Array Value) (n c : Nat) => Lib.run_convert_bytes_const (P := Tryd.prog) w 22 5 C n c Tryd.underlying22 Tryd.underlying5
  go_enter Tryd.func33, Tryd.ntmps33
  go_wp2_with fail
  have hr1 := heap_alloc_new w (.cells #[.int .u8 108, .int .u8 101, .int .u8 116, .int .u8 116, .int .u8 101, .int .u8 114] 5 (6, 7))
  have hB : Below w.heap.size w (w.alloc (.cells #[.int .u8 108, .int .u8 101, .int .u8 116, .int .u8 116, .int .u8 101, .int .u8 114] 5 (6, 7))) := (Below.refl _ _).alloc (Nat.le_refl _) _
  generalize w.alloc (.cells #[.int .u8 108, .int .u8 101, .int .u8 116, .int .u8 116, .int .u8 101, .int .u8 114] 5 (6, 7)) = w1 at *
  have hA : AtO w1 (some ⟨w.heap.size, 0, none⟩) lett := by
    apply At.atO
    intro j x hj
    rw [cell_of_row _ _ _ _ _ _ hr1]
    match j, hj with
    | 0, hj => cases hj; rfl
    | 1, hj => cases hj; rfl
    | 2, hj => cases hj; rfl
    | 3, hj => cases hj; rfl
    | 4, hj => cases hj; rfl
    | 5, hj => cases hj; rfl
  replace hA := Lib.hid hA
  clear hr1
  refine (sign_in 5 lett _ 6 6 _ (by omega) (by omega) rfl (by omega) hA.out (hL.below hB)).mono ?_
  rintro e w2 ⟨rfl, hb⟩
  replace hB := hB.trans (hb.mono hB.size)
  replace hA := Lib.hid (hA.out.below hb)
  have hr2 := heap_alloc_new w2 (.cells #[.int .i64 (sgE 5 lett), .int .i64 (sgS 5 lett)] 50)
  have hb2 : Below w2.heap.size w2 (w2.alloc (.cells #[.int .i64 (sgE 5 lett), .int .i64 (sgS 5 lett)] 50)) := (Below.refl _ _).alloc (Nat.le_refl _) _
  replace hB := hB.trans (hb2.mono hB.size)
  replace hA := Lib.hid (hA.out.below hb2)
  clear hb hb2
  go_wp2_with fail
  refine (sign_in 5 lett _ 6 6 _ (by omega) (by omega) rfl (by omega) hA.out (hL.below hB)).mono ?_
  rintro e w3 ⟨rfl, hb⟩
  replace hB := hB.trans (hb.mono hB.size)
  replace hA := Lib.hid (hA.out.below hb)
  replace hr2 := (hb.block w2.heap.size (Array.getElem?_eq_some_iff.1 hr2).1).trans hr2
  have hr3 := heap_alloc_new w3 (.cells #[.int .i64 (sgE 5 lett), .int .i64 (sgS 5 lett)] 50)
  have hb2 : Below w3.heap.size w3 (w3.alloc (.cells #[.int .i64 (sgE 5 lett), .int .i64 (sgS 5 lett)] 50)) := (Below.refl _ _).alloc (Nat.le_refl _) _
  replace hB := hB.trans (hb2.mono hB.size)
  replace hA := Lib.hid (hA.out.below hb2)
  replace hr2 := (hb2.block w2.heap.size (Array.getElem?_eq_some_iff.1 hr2).1).trans hr2
  clear hb hb2
  go_wp2_with fail
  refine (sign_out 0 _ 6 6 _ (by omega)).mono ?_
  rintro e w4 ⟨rfl, hb⟩
  replace hB := hB.trans (hb.mono hB.size)
  replace hA := Lib.hid (hA.out.below hb)
  replace hr2 := (hb.block w2.heap.size (Array.getElem?_eq_some_iff.1 hr2).1).trans hr2
  replace hr3 := (hb.block w3.heap.size (Array.getElem?_eq_some_iff.1 hr3).1).trans hr3
  have hr4 := heap_alloc_new w4 (.cells #[.int .i64 (0), .int .i64 (0)] 50)
  have hb2 : Below w4.heap.size w4 (w4.alloc (.cells #[.int .i64 (0), .int .i64 (0)] 50)) := (Below.refl _ _).alloc (Nat.le_refl _) _
  replace hB := hB.trans (hb2.mono hB.size)
  replace hA := Lib.hid (hA.out.below hb2)
  replace hr2 := (hb2.block w2.heap.size (Array.getElem?_eq_some_iff.1 hr2).1).trans hr2
  replace hr3 := (hb2.block w3.heap.size (Array.getElem?_eq_some_iff.1 hr3).1).trans hr3
  clear hb hb2
  go_wp2_with fail
  refine (sign_out 1073741789 _ 6 6 _ (by omega)).mono ?_
  rintro e w5 ⟨rfl, hb⟩
  replace hB := hB.trans (hb.mono hB.size)
  replace hA := Lib.hid (hA.out.below hb)
  replace hr2 := (hb.block w2.heap.size (Array.getElem?_eq_some_iff.1 hr2).1).trans hr2
  replace hr3 := (hb.block w3.heap.size (Array.getElem?_eq_some_iff.1 hr3).1).trans hr3
  replace hr4 := (hb.block w4.heap.size (Array.getElem?_eq_some_iff.1 hr4).1).trans hr4
  have hr5 := heap_alloc_new w5 (.cells #[.int .i64 (0), .int .i64 (0)] 50)
  have hb2 : Below w5.heap.size w5 (w5.alloc (.cells #[.int .i64 (0), .int .i64 (0)] 50)) := (Below.refl _ _).alloc (Nat.le_refl _) _
  replace hB := hB.trans (hb2.mono hB.size)
  replace hA := Lib.hid (hA.out.below hb2)
  replace hr2 := (hb2.block w2.heap.size (Array.getElem?_eq_some_iff.1 hr2).1).trans hr2
  replace hr3 := (hb2.block w3.heap.size (Array.getElem?_eq_some_iff.1 hr3).1).trans hr3
  replace hr4 := (hb2.block w4.heap.size (Array.getElem?_eq_some_iff.1 hr4).1).trans hr4
  clear hb hb2
  go_wp2_with fail
  refine (sign_in 1073741788 [] none 0 0 _ (by omega) (by omega) rfl (by omega) (fun j x h => by simp at h) (hL.below hB)).mono ?_
  rintro e w6 ⟨rfl, hb⟩
  replace hB := hB.trans (hb.mono hB.size)
  replace hA := Lib.hid (hA.out.below hb)
  replace hr2 := (hb.block w2.heap.size (Array.getElem?_eq_some_iff.1 hr2).1).trans hr2
  replace hr3 := (hb.block w3.heap.size (Array.getElem?_eq_some_iff.1 hr3).1).trans hr3
  replace hr4 := (hb.block w4.heap.size (Array.getElem?_eq_some_iff.1 hr4).1).trans hr4
  replace hr5 := (hb.block w5.heap.size (Array.getElem?_eq_some_iff.1 hr5).1).trans hr5
  have hr6 := heap_alloc_new w6 (.cells #[.int .i64 (sgE 1073741788 []), .int .i64 (sgS 1073741788 [])] 50)
  have hb2 : Below w6.heap.size w6 (w6.alloc (.cells #[.int .i64 (sgE 1073741788 []), .int .i64 (sgS 1073741788 [])] 50)) := (Below.refl _ _).alloc (Nat.le_refl _) _
  replace hB := hB.trans (hb2.mono hB.size)
  replace hA := Lib.hid (hA.out.below hb2)
  replace hr2 := (hb2.block w2.heap.size (Array.getElem?_eq_some_iff.1 hr2).1).trans hr2
  replace hr3 := (hb2.block w3.heap.size (Array.getElem?_eq_some_iff.1 hr3).1).trans hr3
  replace hr4 := (hb2.block w4.heap.size (Array.getElem?_eq_some_iff.1 hr4).1).trans hr4
  replace hr5 := (hb2.block w5.heap.size (Array.getElem?_eq_some_iff.1 hr5).1).trans hr5
  clear hb hb2
  have cc := fun (b : Nat) (E S : Int) (W : World) (h : W.heap[b]? = some (.cells #[.int .i64 E, .int .i64 S] 50 (0, 0))) => (show W.cell? ⟨b, 0, none⟩ = some (.int .i64 E) ∧ W.cell? ⟨b, 1, none⟩ = some (.int .i64 S) from ⟨by rw [cell_of_row _ _ _ _ _ _ h]; rfl, by rw [cell_of_row _ _ _ _ _ _ h]; rfl⟩)
  obtain ⟨c20, c21⟩ := cc _ _ _ _ hr2
  obtain ⟨c30, c31⟩ := cc _ _ _ _ hr3
  clear hr3 hr4 hr5
  generalize hE5 : sgE 5 lett = E5 at *
  generalize hS5 : sgS 5 lett = S5 at *
  generalize hEm : sgE 1073741788 [] = Em at *
  generalize hSm : sgS 1073741788 [] = Sm at *
  have hv1 := vf_right 5 lett (by omega) (by omega)
  rw [pow_1024, hE5, hS5] at hv1
  replace hv1 := Lib.hid hv1
  have hv4 := vf_right 1073741788 [] (by omega) (by omega)
  rw [pow_m1, hEm, hSm] at hv4
  replace hv4 := Lib.hid hv4
  have hSb : 0 ≤ S5 ∧ S5 < 1073741789 := by rw [← hS5]; unfold sgS; omega
  replace hE5 := Lib.hid hE5
  replace hS5 := Lib.hid hS5
  replace hEm := Lib.hid hEm
  replace hSm := Lib.hid hSm
  have hlt2 := (Array.getElem?_eq_some_iff.1 hr2).1
  have hs6 : (w6.alloc (.cells #[.int .i64 Em, .int .i64 Sm] 50)).heap.size = w6.heap.size + 1 := by simp
  have hr7 := heap_alloc_new (w6.alloc (.cells #[.int .i64 Em, .int .i64 Sm] 50)) (.cells #[.int .i64 E5, .int .i64 S5] 50)
  have hb7 : Below (w6.heap.size + 1) (w6.alloc (.cells #[.int .i64 Em, .int .i64 Sm] 50)) ((w6.alloc (.cells #[.int .i64 Em, .int .i64 Sm] 50)).alloc (.cells #[.int .i64 E5, .int .i64 S5] 50)) := (Below.refl _ _).alloc (by omega) _
  rw [hs6] at hr7 hlt2
  have hr72 := (hb7.block w2.heap.size hlt2).trans hr2
  obtain ⟨d20, d21⟩ := cc _ _ _ _ hr72
  obtain ⟨d70, d71⟩ := cc _ _ _ _ hr7
  have hf71 := frozen_of_row _ (w6.heap.size + 1) 1 _ _ hr7
  have hr8 := heap_setCell_same _ (w6.heap.size + 1) 1 _ _ (.int .i64 (S5 + 1073741789)) hr7
  have hb8 := hb7.setCell (p := ⟨w6.heap.size + 1, 1, none⟩) (Nat.le_refl _) (.int .i64 (S5 + 1073741789))
  have hr82 := (hb8.block w2.heap.size hlt2).trans hr2
  obtain ⟨e20, e21⟩ := cc _ _ _ _ hr82
  go_wp2_with fail
  have hr6 := (((Below.refl (w6.heap.size + 1) (w6.alloc (.cells #[.int .i64 Em, .int .i64 Sm] 50))).alloc (by omega) (.cells #[.int .i64 E5, .int .i64 (S5 + 1073741789)] 50)).block w6.heap.size (by omega)).trans hr6
  have hr9 := heap_alloc_new (w6.alloc (.cells #[.int .i64 Em, .int .i64 Sm] 50)) (.cells #[.int .i64 E5, .int .i64 (S5 + 1073741789)] 50)
  rw [hs6] at hr9
  have hr2 := (((Below.refl (w6.heap.size + 1) (w6.alloc (.cells #[.int .i64 Em, .int .i64 Sm] 50))).alloc (by omega) (.cells #[.int .i64 E5, .int .i64 (S5 + 1073741789)] 50)).block w2.heap.size (by omega)).trans hr2
  have hb2 : Below (w6.alloc (.cells #[.int .i64 Em, .int .i64 Sm] 50)).heap.size (w6.alloc (.cells #[.int .i64 Em, .int .i64 Sm] 50)) ((w6.alloc (.cells #[.int .i64 Em, .int .i64 Sm] 50)).alloc (.cells #[.int .i64 E5, .int .i64 (S5 + 1073741789)] 50)) := (Below.refl _ _).alloc (by simp) _
  replace hB := hB.trans (hb2.mono hB.size)
  replace hA := Lib.hid (hA.out.below hb2)
  clear hb2 hb7 hb8 hr7 hr8 hr72 hr82 c20 c21 c30 c31 d20 d21 d70 d71 e20 e21 hf71 hlt2 hs6
  generalize (w6.alloc (.cells #[.int .i64 Em, .int .i64 Sm] 50)).alloc (.cells #[.int .i64 E5, .int .i64 (S5 + 1073741789)] 50) = w8 at *
  obtain ⟨c20, c21⟩ := cc _ _ _ _ hr2
  obtain ⟨c60, c61⟩ := cc _ _ _ _ hr6
  obtain ⟨c90, c91⟩ := cc _ _ _ _ hr9
  clear c20 c21 c60 c61 c90 c91
  have hvb : Hid (vfB 1024 lett E5 S5 = true) := Lib.hid (by rw [hv1.out])
  refine (verify_any 1024 lett E5 S5 (some ⟨w.heap.size, 0, none⟩) 6 6 _ rfl (by simp [lett]) hA.out (hL.below hB)).mono ?_
  rintro e w9 ⟨rfl, hb⟩
  rw [hvb.out]
  clear hvb
  replace hB := hB.trans (hb.mono hB.size)
  replace hA := Lib.hid (hA.out.below hb)
  replace hr2 := (hb.block w2.heap.size (Array.getElem?_eq_some_iff.1 hr2).1).trans hr2
  replace hr6 := (hb.block w6.heap.size (Array.getElem?_eq_some_iff.1 hr6).1).trans hr6
  replace hr9 := (hb.block (w6.heap.size + 1) (Array.getElem?_eq_some_iff.1 hr9).1).trans hr9
  clear hb
  obtain ⟨c20, c21⟩ := cc _ _ _ _ hr2
  obtain ⟨c60, c61⟩ := cc _ _ _ _ hr6
  obtain ⟨c90, c91⟩ := cc _ _ _ _ hr9
  go_wp2_with fail
  clear c20 c21 c60 c61 c90 c91
  have hvb : Hid (vfB 2 lett E5 S5 = false) := Lib.hid (by unfold vfB; rw [valid_two]; simp)
  refine (verify_any 2 lett E5 S5 (some ⟨w.heap.size, 0, none⟩) 6 6 _ rfl (by simp [lett]) hA.out (hL.below hB)).mono ?_
  rintro e w10 ⟨rfl, hb⟩
  rw [hvb.out]
  clear hvb
  replace hB := hB.trans (hb.mono hB.size)
  replace hA := Lib.hid (hA.out.below hb)
  replace hr2 := (hb.block w2.heap.size (Array.getElem?_eq_some_iff.1 hr2).1).trans hr2
  replace hr6 := (hb.block w6.heap.size (Array.getElem?_eq_some_iff.1 hr6).1).trans hr6
  replace hr9 := (hb.block (w6.heap.size + 1) (Array.getElem?_eq_some_iff.1 hr9).1).trans hr9
  clear hb
  obtain ⟨c20, c21⟩ := cc _ _ _ _ hr2
  obtain ⟨c60, c61⟩ := cc _ _ _ _ hr6
  obtain ⟨c90, c91⟩ := cc _ _ _ _ hr9
  go_wp2_with fail
  clear c20 c21 c60 c61 c90 c91
  have hvb : Hid (vfB 1024 lett E5 (S5 + 1073741789) = false) := Lib.hid (by unfold vfB; rw [decide_eq_false (by omega)]; rfl)
  refine (verify_any 1024 lett E5 (S5 + 1073741789) (some ⟨w.heap.size, 0, none⟩) 6 6 _ rfl (by simp [lett]) hA.out (hL.below hB)).mono ?_
  rintro e w11 ⟨rfl, hb⟩
  rw [hvb.out]
  clear hvb
  replace hB := hB.trans (hb.mono hB.size)
  replace hA := Lib.hid (hA.out.below hb)
  replace hr2 := (hb.block w2.heap.size (Array.getElem?_eq_some_iff.1 hr2).1).trans hr2
  replace hr6 := (hb.block w6.heap.size (Array.getElem?_eq_some_iff.1 hr6).1).trans hr6
  replace hr9 := (hb.block (w6.heap.size + 1) (Array.getElem?_eq_some_iff.1 hr9).1).trans hr9
  clear hb
  obtain ⟨c20, c21⟩ := cc _ _ _ _ hr2
  obtain ⟨c60, c61⟩ := cc _ _ _ _ hr6
  obtain ⟨c90, c91⟩ := cc _ _ _ _ hr9
  go_wp2_with fail
  clear c20 c21 c60 c61 c90 c91
  have hvb : Hid (vfB 536870895 [] Em Sm = true) := Lib.hid (by rw [hv4.out])
  refine (verify_any 536870895 [] Em Sm none 0 0 _ rfl (by simp [lett]) (fun j x h => by simp at h) (hL.below hB)).mono ?_
  rintro e w12 ⟨rfl, hb⟩
  rw [hvb.out]
  clear hvb
  replace hB := hB.trans (hb.mono hB.size)
  replace hA := Lib.hid (hA.out.below hb)
  replace hr2 := (hb.block w2.heap.size (Array.getElem?_eq_some_iff.1 hr2).1).trans hr2
  replace hr6 := (hb.block w6.heap.size (Array.getElem?_eq_some_iff.1 hr6).1).trans hr6
  replace hr9 := (hb.block (w6.heap.size + 1) (Array.getElem?_eq_some_iff.1 hr9).1).trans hr9
  clear hb
  obtain ⟨c20, c21⟩ := cc _ _ _ _ hr2
  obtain ⟨c60, c61⟩ := cc _ _ _ _ hr6
  obtain ⟨c90, c91⟩ := cc _ _ _ _ hr9
  go_wp2_with fail
  clear c20 c21 c60 c61 c90 c91
  have hvb : Hid (vfB 0 [] Em Sm = false) := Lib.hid (by unfold vfB; rw [valid_zero]; simp)
  refine (verify_any 0 [] Em Sm none 0 0 _ rfl (by simp [lett]) (fun j x h => by simp at h) (hL.below hB)).mono ?_
  rintro e w13 ⟨rfl, hb⟩
  rw [hvb.out]
  clear hvb
  replace hB := hB.trans (hb.mono hB.size)
  replace hA := Lib.hid (hA.out.below hb)
  replace hr2 := (hb.block w2.heap.size (Array.getElem?_eq_some_iff.1 hr2).1).trans hr2
  replace hr6 := (hb.block w6.heap.size (Array.getElem?_eq_some_iff.1 hr6).1).trans hr6
  replace hr9 := (hb.block (w6.heap.size + 1) (Array.getElem?_eq_some_iff.1 hr9).1).trans hr9
  clear hb
  go_wp2_with fail
  go_ret
  exact ⟨rfl, hB⟩
end Go.Proofs.YtallnbbdacngnaaDoor
