/- The helpers of the statements about the group: element, mul (of two), pow; and their examples. -/
import Derived.Test.YtallnbbdacngnaaDoorGrpLaw
namespace Go.Proofs.YtallnbbdacngnaaDoor
open Go.RowKit Go.Shelf Jac
set_option linter.unusedVariables false
set_option linter.unusedSimpArgs false

theorem one_mulC {a : Int} (ha : validB a = true) : mulC 1 a = a := by
  have hr := validB_range ha
  unfold mulC
  rw [valid_one, ha, Bool.true_and, if_pos rfl, Int.one_mul, Int.emod_eq_of_lt (by omega) (by omega)]
theorem mulC_eq {a b : Int} (ha : validB a = true) (hb : validB b = true) : mulC a b = a * b % 2147483579 := by
  unfold mulC; rw [ha, hb, Bool.true_and, if_pos rfl]



theorem valid_elC {n : Int} (h : 1 ≤ n ∧ n ≤ 1073741789) : validB (elC n) = true := by
  unfold elC
  rw [if_neg (by omega)]
  by_cases c : validB n = true
  · rw [if_pos c]; exact c
  · rw [if_neg c, valid_neg (by omega)]
    simpa using c


set_option maxRecDepth 100000 in
set_option maxHeartbeats 2000000 in
theorem sane_any (w : World) :
    Calls Tryd.prog 14 #[] w fun e w' => e = .returned (.bool true) ∧ Below w.heap.size w w' := by
  have HB := Below.refl w.heap.size w
  go_enter Tryd.func14, Tryd.ntmps14
  go_wp2_with (first
    | (go_at_call 38; refine (pow_any _ _ _).mono ?_; rintro e w' ⟨rfl, hb⟩; replace HB := HB.trans (hb.mono HB.size); clear hb; first | rw [s_pow1, s_powE4] | rw [s_pow2, s_powE4] | rw [s_pow3, s_powE4] | rw [s_powE0])
    | (go_at_call 44; refine (mul_any _ _ _).mono ?_; rintro e w' ⟨rfl, rfl⟩; first | rw [s_mul1, s_mulE1] | rw [s_mulE2])
    | (go_at_call 15; refine (element_any _ _).mono ?_; rintro e w' ⟨rfl, rfl⟩; first | rw [s_el, s_elE] | rw [s_elE0] | rw [s_elEQ])
    | (go_at_call 17; refine (number_any _ _).mono ?_; rintro e w' ⟨rfl, rfl⟩; first | rw [s_num, s_numE] | rw [s_numE2])
    | (go_at_call 39; refine (valid_any _ _).mono ?_; rintro e w' ⟨rfl, rfl⟩; first | rw [valid_zero] | rw [valid_P] | rw [valid_two] | rw [valid_one] | rw [valid_four] | rw [valid_m1]))
  go_ret
  exact ⟨rfl, HB⟩
end Go.Proofs.YtallnbbdacngnaaDoor
