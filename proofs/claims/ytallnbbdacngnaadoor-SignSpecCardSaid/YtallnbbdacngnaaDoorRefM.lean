/- The contracts of the reference's exponent, Mul and Pow. -/
import Derived.Test.YtallnbbdacngnaaDoorRefV
namespace Go.Proofs.YtallnbbdacngnaaDoor
open Go.RowKit Go.Shelf Jac
set_option linter.unusedVariables false
set_option linter.unusedSimpArgs false

set_option maxHeartbeats 400000 in
theorem rexponent_any (n : Int) (w : World) :
    Calls Tryd.prog 87 #[.int .i64 n] w fun e w' => e = .returned (.int .i64 (n % 1073741789)) ∧ w' = w := by
  have b1 : -1073741789 < n.tmod 1073741789 := Int.lt_tmod_of_pos _ (by decide)
  have b2 : n.tmod 1073741789 < 1073741789 := Int.tmod_lt_of_pos _ (by decide)
  have HV := Lib.hid (tmod_val n)
  by_cases h : n.tmod 1073741789 < 0
  all_goals
    go_enter Tryd.func87, Tryd.ntmps87
    go_wp2
    go_ret
    refine ⟨congrArg (fun t : Int => Ending.returned (.int .i64 t)) ?_, rfl⟩
    rw [← HV.out]
    first | rw [if_pos h] | rw [if_neg (by omega)]

set_option maxHeartbeats 400000 in
theorem rmul_any (a b : Int) (w : World) :
    Calls Tryd.prog 88 #[.int .i64 a, .int .i64 b] w fun e w' => e = .returned (.tuple #[.int .i64 (mulC a b), .int .i64 (mulE a b)]) ∧ w' = w := by
  unfold mulC mulE
  by_cases ha : validB a = true
  · by_cases hb : validB b = true
    · have hbd := mul_bd ha hb
      rw [ha, hb, Bool.true_and, if_pos rfl, if_pos rfl]
      go_enter Tryd.func88, Tryd.ntmps88
      go_wp2_with (go_at_call 45; refine (rvalid_any _ _).mono ?_; rintro e w' ⟨rfl, rfl⟩; first | rw [ha] | rw [hb])
      go_ret2
      exact ⟨rfl, rfl⟩
    · have hb' : validB b = false := by simpa using hb
      clear hb
      rw [ha, hb', Bool.true_and, if_neg (by decide), if_neg (by decide)]
      go_enter Tryd.func88, Tryd.ntmps88
      go_wp2_with (go_at_call 45; refine (rvalid_any _ _).mono ?_; rintro e w' ⟨rfl, rfl⟩; first | rw [ha] | rw [hb'])
      go_ret2
      exact ⟨rfl, rfl⟩
  · have ha' : validB a = false := by simpa using ha
    clear ha
    rw [ha', Bool.false_and, if_neg (by decide), if_neg (by decide)]
    go_enter Tryd.func88, Tryd.ntmps88
    go_wp2_with (go_at_call 45; refine (rvalid_any _ _).mono ?_; rintro e w' ⟨rfl, rfl⟩; rw [ha'])
    go_ret2
    exact ⟨rfl, rfl⟩

set_option maxHeartbeats 400000 in
theorem rpow_any (a n : Int) (w : World) :
    Calls Tryd.prog 68 #[.int .i64 a, .int .i64 n] w fun e w' => e = .returned (.tuple #[.int .i64 (powC a n), .int .i64 (powE a)]) ∧ w' = w := by
  unfold powC powE
  by_cases ha : validB a = true
  · have hr := validB_range ha
    obtain ⟨k, rfl⟩ : ∃ k : Nat, a = k := ⟨a.toNat, by omega⟩
    rw [ha, if_pos rfl, if_pos rfl, Int.toNat_natCast]
    have hm : 0 ≤ n % 1073741789 ∧ n % 1073741789 < 1073741789 := by omega
    have hc : ∀ w : World, Calls Tryd.prog 77 #[.int .i64 k, .int .i64 (n % 1073741789)] w fun e w' => e = .returned (.int .i64 (pw k (n % 1073741789).toNat)) ∧ w' = w := fun w => by
      have := rpower_any k (n % 1073741789).toNat w (by omega) (by omega)
      rw [Int.toNat_of_nonneg hm.1] at this
      exact this
    go_enter Tryd.func68, Tryd.ntmps68
    go_wp2_with (first
      | (go_at_call 45; refine (rvalid_any _ _).mono ?_; rintro e w' ⟨rfl, rfl⟩; rw [ha])
      | (go_at_call 87; refine (rexponent_any _ _).mono ?_; rintro e w' ⟨rfl, rfl⟩)
      | (go_at_call 77; refine (hc _).mono ?_; rintro e w' ⟨rfl, rfl⟩))
    go_ret2
    exact ⟨rfl, rfl⟩
  · have ha' : validB a = false := by simpa using ha
    rw [if_neg ha, if_neg ha]
    clear ha
    go_enter Tryd.func68, Tryd.ntmps68
    go_wp2_with (go_at_call 45; refine (rvalid_any _ _).mono ?_; rintro e w' ⟨rfl, rfl⟩; rw [ha'])
    go_ret2
    exact ⟨rfl, rfl⟩

end Go.Proofs.YtallnbbdacngnaaDoor
