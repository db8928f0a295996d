/- The helpers of the statements about the group: element, mul (of two), pow; and their examples. -/
import Derived.Test.YtnfijgajhjgmaaaGrpLaw
namespace Go.Proofs.Ytnfijgajhjgmaaa
open Go.RowKit Go.Shelf Jac

theorem one_mulC {a : Int} (ha : validB a = true) : mulC 1 a = a := by
  have hr := validB_range ha
  unfold mulC
  rw [valid_one, ha, Bool.true_and, if_pos rfl, Int.one_mul, Int.emod_eq_of_lt (by omega) (by omega)]
theorem mulC_eq {a b : Int} (ha : validB a = true) (hb : validB b = true) : mulC a b = a * b % 2147483579 := by
  unfold mulC; rw [ha, hb, Bool.true_and, if_pos rfl]

set_option maxHeartbeats 1000000 in
theorem law_mul (a b : Int) (k : Nat) (w : World) (ha : validB a = true) (hb : validB b = true) (hc0 : w.cell? ⟨k, 0, none⟩ = some (.int .i64 a)) (hc1 : w.cell? ⟨k, 1, none⟩ = some (.int .i64 b)) :
    Calls Try.prog 16 #[.slice (some ⟨k, 0, none⟩) 2 2] w fun e w' => e = .returned (.int .i64 (a * b % 2147483579)) ∧ w' = w := by
  have e1 := Lib.hid (one_mulC ha)
  have e2 := Lib.hid (mulC_eq ha hb)
  have e3 := Lib.hid (mulE_valid valid_one ha)
  have e4 := Lib.hid (mulE_valid ha hb)
  clear ha hb
  go_enter Try.func16, Try.ntmps16
  go_wp2
  go_loop [3, 10] (fun c i => (i = .int .i64 0 ∧ c = .int .i64 1) ∨ (i = .int .i64 1 ∧ c = .int .i64 a) ∨ (i = .int .i64 2 ∧ c = .int .i64 (a * b % 2147483579))) (fun _ i => 2 - (intOf i).toNat)
  case atStart => exact .inl ⟨rfl, rfl⟩
  case round =>
    rcases hrel with ⟨rfl, rfl⟩ | ⟨rfl, rfl⟩ | ⟨rfl, rfl⟩
    · go_wp2_with (go_at_call 9; refine (mul_any _ _ _).mono ?_; rintro e w' ⟨rfl, rfl⟩; rw [e1.out, e3.out])
      go_round
      case rel => exact .inr (.inl ⟨rfl, rfl⟩)
      case measure => simp [intOf]
    · go_wp2_with (go_at_call 9; refine (mul_any _ _ _).mono ?_; rintro e w' ⟨rfl, rfl⟩; rw [e2.out, e4.out])
      go_round
      case rel => exact .inr (.inr ⟨rfl, rfl⟩)
      case measure => simp [intOf]
    · go_wp2
      go_ret
      exact ⟨rfl, rfl⟩

set_option maxHeartbeats 1000000 in
theorem law_pow (a n : Int) (w : World) (ha : validB a = true) :
    Calls Try.prog 17 #[.int .i64 a, .int .i64 n] w fun e w' => e = .returned (.int .i64 (powC a n)) ∧ Below w.heap.size w w' := by
  have e1 := Lib.hid (powE_valid ha)
  clear ha
  go_enter Try.func17, Try.ntmps17
  go_wp2_with (go_at_call 11; refine (pow_any _ _ _).mono ?_; rintro e w' ⟨rfl, hb⟩; rw [e1.out])
  go_ret
  exact ⟨rfl, ‹Below _ _ _›⟩

theorem valid_elC {n : Int} (h : 1 ≤ n ∧ n ≤ 1073741789) : validB (elC n) = true := by
  unfold elC
  rw [if_neg (by omega)]
  by_cases c : validB n = true
  · rw [if_pos c]; exact c
  · rw [if_neg c, valid_neg (by omega)]
    simpa using c

set_option maxHeartbeats 1000000 in
theorem law_element (x : Int) (w : World) :
    Calls Try.prog 15 #[.int .i64 x] w fun e w' => e = .returned (.int .i64 (elC (x % 1073741789 + 1))) ∧ w' = w := by
  have b1 : -1073741789 < x.tmod 1073741789 := Int.lt_tmod_of_pos _ (by decide)
  have b2 : x.tmod 1073741789 < 1073741789 := Int.tmod_lt_of_pos _ (by decide)
  have HV := Lib.hid (tmod_val x)
  by_cases h : x.tmod 1073741789 < 0
  · have HE : Hid (x.tmod 1073741789 + 1073741789 = x % 1073741789) := by rw [← HV.out, if_pos h]; rfl
    go_enter Try.func15, Try.ntmps15
    go_wp2_with (go_at_call 18; refine (element_any _ _).mono ?_; rintro e w' ⟨rfl, rfl⟩)
    go_ret
    exact ⟨congrArg (fun t : Int => Ending.returned (.int .i64 (elC (t + 1)))) HE.out, rfl⟩
  · have HE : Hid (x.tmod 1073741789 = x % 1073741789) := by rw [← HV.out, if_neg h]; rfl
    go_enter Try.func15, Try.ntmps15
    go_wp2_with (go_at_call 18; refine (element_any _ _).mono ?_; rintro e w' ⟨rfl, rfl⟩)
    go_ret
    exact ⟨congrArg (fun t : Int => Ending.returned (.int .i64 (elC (t + 1)))) HE.out, rfl⟩

set_option maxRecDepth 100000 in
set_option maxHeartbeats 2000000 in
theorem sane_any (w : World) :
    Calls Try.prog 8 #[] w fun e w' => e = .returned (.bool true) ∧ Below w.heap.size w w' := by
  have HB := Below.refl w.heap.size w
  go_enter Try.func8, Try.ntmps8
  go_wp2_with (first
    | (go_at_call 11; refine (pow_any _ _ _).mono ?_; rintro e w' ⟨rfl, hb⟩; replace HB := HB.trans (hb.mono HB.size); clear hb; first | rw [s_pow1, s_powE4] | rw [s_pow2, s_powE4] | rw [s_pow3, s_powE4] | rw [s_powE0])
    | (go_at_call 9; refine (mul_any _ _ _).mono ?_; rintro e w' ⟨rfl, rfl⟩; first | rw [s_mul1, s_mulE1] | rw [s_mulE2])
    | (go_at_call 18; refine (element_any _ _).mono ?_; rintro e w' ⟨rfl, rfl⟩; first | rw [s_el, s_elE] | rw [s_elE0] | rw [s_elEQ])
    | (go_at_call 19; refine (number_any _ _).mono ?_; rintro e w' ⟨rfl, rfl⟩; first | rw [s_num, s_numE] | rw [s_numE2])
    | (go_at_call 13; refine (valid_any _ _).mono ?_; rintro e w' ⟨rfl, rfl⟩; first | rw [valid_zero] | rw [valid_P] | rw [valid_two] | rw [valid_one] | rw [valid_four] | rw [valid_m1]))
  go_ret
  exact ⟨rfl, HB⟩
end Go.Proofs.Ytnfijgajhjgmaaa
