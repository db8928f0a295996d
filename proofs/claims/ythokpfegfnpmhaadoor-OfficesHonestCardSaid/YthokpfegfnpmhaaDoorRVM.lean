/- The contracts of the reference's power and Valid. -/
import Derived.Test.YthokpfegfnpmhaaDoorGroupA
namespace Go.Proofs.YthokpfegfnpmhaaDoor
open Go.RowKit Go.Shelf Jac
set_option linter.unusedVariables false
set_option linter.unusedSimpArgs false

/-! ### the reference -/

theorem pw_step {c a n : Nat} : c * a ^ n % 2147483579 = (if n % 2 = 1 then c * a % 2147483579 else c) * (a * a % 2147483579) ^ (n / 2) % 2147483579 := by
  have e : a ^ n = (a * a) ^ (n / 2) * a ^ (n % 2) := by
    rw [← Nat.pow_two, ← Nat.pow_mul, ← Nat.pow_add, Nat.div_add_mod]
  have sq : (a * a % 2147483579) ^ (n / 2) % 2147483579 = (a * a) ^ (n / 2) % 2147483579 := (Nat.pow_mod (a * a) (n / 2) 2147483579).symm
  rw [e]
  by_cases o : n % 2 = 1
  · rw [if_pos o, o, Nat.pow_one]
    rw [Nat.mul_mod (c * a % 2147483579), sq, Nat.mod_mod, ← Nat.mul_mod]
    rw [Nat.mul_assoc, Nat.mul_comm _ a]
  · have o' : n % 2 = 0 := by omega
    rw [if_neg o, o', Nat.pow_zero, Nat.mul_one]
    rw [Nat.mul_mod c ((a * a % 2147483579) ^ (n / 2)), sq, ← Nat.mul_mod]

set_option maxHeartbeats 1000000 in
theorem rpower_any (a n : Nat) (w : World) (ha : a < 2147483579) (hn : n ≤ 9223372036854775807) :
    Calls Tryd.prog 95 #[.int .i64 a, .int .i64 n] w fun e w' => e = .returned (.int .i64 (pw a n)) ∧ w' = w := by
  obtain ⟨T, hT⟩ : ∃ T, pw a n = T := ⟨_, rfl⟩
  have H0 : Hid (1 * a ^ n % 2147483579 = T) := by rw [Nat.one_mul]; exact hT
  rw [hT]
  clear hT
  go_enter Tryd.func95, Tryd.ntmps95
  go_wp2
  go_loop [0, 1, 5] (fun x m s => ∃ (b k c : Nat), x = .int .i64 b ∧ m = .int .i64 k ∧ s = .int .i64 c ∧ b < 2147483579 ∧ c < 2147483579 ∧ k ≤ 9223372036854775807 ∧ Hid (c * b ^ k % 2147483579 = T)) (fun _ m _ => (intOf m).toNat)
  case atStart => exact ⟨a, n, 1, rfl, rfl, rfl, ha, by decide, hn, H0⟩
  case round =>
    obtain ⟨b, k, c, rfl, rfl, rfl, hb, hc, hk, hT⟩ := hrel
    have hsq1 : ((b : Int) * (b : Int)) ≤ 4611686018427387904 := by
      have : b * b ≤ 2147483579 * 2147483579 := Nat.mul_le_mul (by omega) (by omega)
      have e : ((b * b : Nat) : Int) = (b : Int) * b := Int.natCast_mul _ _
      omega
    have hsq0 : 0 ≤ (b : Int) * (b : Int) := by
      have e : ((b * b : Nat) : Int) = (b : Int) * b := Int.natCast_mul _ _
      omega
    have hcq1 : ((c : Int) * (b : Int)) ≤ 4611686018427387904 := by
      have : c * b ≤ 2147483579 * 2147483579 := Nat.mul_le_mul (by omega) (by omega)
      have e : ((c * b : Nat) : Int) = (c : Int) * b := Int.natCast_mul _ _
      omega
    have hcq0 : 0 ≤ (c : Int) * (b : Int) := by
      have e : ((c * b : Nat) : Int) = (c : Int) * b := Int.natCast_mul _ _
      omega
    by_cases hz : k = 0
    · subst hz
      have HE : Hid (c = T) := by
        have := hT.out
        rw [Nat.pow_zero, Nat.mul_one, Nat.mod_eq_of_lt hc] at this
        exact this
      go_wp2
      go_ret
      exact ⟨congrArg (fun t : Nat => Ending.returned (.int .i64 t)) HE.out, rfl⟩
    · have hstep := pw_step (c := c) (a := b) (n := k)
      rw [hT.out] at hstep
      by_cases o : k % 2 = 1
      · have HS : Hid (c * b % 2147483579 * (b * b % 2147483579) ^ (k / 2) % 2147483579 = T) := by rw [if_pos o] at hstep; exact hstep.symm
        have t1 : ((k : Int) % 2 == 1) = true := by simp; omega
        clear hstep o
        go_wp2
        go_round
        case rel => exact ⟨b * b % 2147483579, k / 2, c * b % 2147483579, rfl, rfl, rfl, Nat.mod_lt _ (by decide), Nat.mod_lt _ (by decide), by omega, HS⟩
        case measure => simp [intOf]; omega
      · have HS : Hid (c * (b * b % 2147483579) ^ (k / 2) % 2147483579 = T) := by rw [if_neg o] at hstep; exact hstep.symm
        have t1 : ((k : Int) % 2 == 1) = false := by simp; omega
        clear hstep o
        go_wp2
        go_round
        case rel => exact ⟨b * b % 2147483579, k / 2, c, rfl, rfl, rfl, Nat.mod_lt _ (by decide), hc, by omega, HS⟩
        case measure => simp [intOf]; omega

theorem pwQ_valid {x : Int} (h : 1 ≤ x ∧ x < 2147483579) : ((pw x.toNat Qn : Int) == 1) = validB x := by
  rw [validB_in h, pw_Q (by omega) (by omega)]
  by_cases c : mu x.toNat Pn % 2 = 0
  · rw [if_pos c, decide_eq_true c]; rfl
  · rw [if_neg c, decide_eq_false c]; rfl

set_option maxHeartbeats 400000 in
theorem rvalid_any (x : Int) (w : World) :
    Calls Tryd.prog 92 #[.int .i64 x] w fun e w' => e = .returned (.bool (validB x)) ∧ w' = w := by
  by_cases h : 1 ≤ x ∧ x < 2147483579
  · have hv := pwQ_valid h
    obtain ⟨n, rfl⟩ : ∃ n : Nat, x = n := ⟨x.toNat, by omega⟩
    rw [Int.toNat_natCast] at hv
    have hc : ∀ w : World, Calls Tryd.prog 95 #[.int .i64 n, .int .i64 1073741789] w fun e w' => e = .returned (.int .i64 (pw n Qn)) ∧ w' = w := fun w => by
      have := rpower_any n Qn w (by omega) (by rw [Qn_eq]; decide)
      have e : ((Qn : Nat) : Int) = 1073741789 := by rw [Qn_eq]; rfl
      rw [e] at this
      exact this
    obtain ⟨y, hy⟩ : ∃ y, pw n Qn = y := ⟨_, rfl⟩
    rw [hy] at hv hc
    clear hy
    have HV := Lib.hid hv
    clear hv
    go_enter Tryd.func92, Tryd.ntmps92
    go_wp2_with (go_at_call 95; refine (hc _).mono ?_; rintro e w' ⟨rfl, rfl⟩)
    go_ret
    exact ⟨congrArg (fun t => Ending.returned (.bool t)) HV.out, rfl⟩
  · rw [validB_out h]
    by_cases h1 : x < 1
    · clear h
      go_enter Tryd.func92, Tryd.ntmps92
      go_wp2
      go_ret
      exact ⟨rfl, rfl⟩
    · have h2 : 2147483579 ≤ x := by omega
      clear h
      go_enter Tryd.func92, Tryd.ntmps92
      go_wp2
      go_ret
      exact ⟨rfl, rfl⟩

end Go.Proofs.YthokpfegfnpmhaaDoor
/- The contracts of the reference's exponent, Mul and Pow. -/
namespace Go.Proofs.YthokpfegfnpmhaaDoor
open Go.RowKit Go.Shelf Jac
set_option linter.unusedVariables false
set_option linter.unusedSimpArgs false

set_option maxHeartbeats 400000 in
theorem rexponent_any (n : Int) (w : World) :
    Calls Tryd.prog 96 #[.int .i64 n] w fun e w' => e = .returned (.int .i64 (n % 1073741789)) ∧ w' = w := by
  have b1 : -1073741789 < n.tmod 1073741789 := Int.lt_tmod_of_pos _ (by decide)
  have b2 : n.tmod 1073741789 < 1073741789 := Int.tmod_lt_of_pos _ (by decide)
  have HV := Lib.hid (tmod_val n)
  by_cases h : n.tmod 1073741789 < 0
  all_goals
    go_enter Tryd.func96, Tryd.ntmps96
    go_wp2
    go_ret
    refine ⟨congrArg (fun t : Int => Ending.returned (.int .i64 t)) ?_, rfl⟩
    rw [← HV.out]
    first | rw [if_pos h] | rw [if_neg (by omega)]

set_option maxHeartbeats 400000 in
theorem rmul_any (a b : Int) (w : World) :
    Calls Tryd.prog 111 #[.int .i64 a, .int .i64 b] w fun e w' => e = .returned (.tuple #[.int .i64 (mulC a b), .int .i64 (mulE a b)]) ∧ w' = w := by
  unfold mulC mulE
  by_cases ha : validB a = true
  · by_cases hb : validB b = true
    · have hbd := mul_bd ha hb
      rw [ha, hb, Bool.true_and, if_pos rfl, if_pos rfl]
      go_enter Tryd.func111, Tryd.ntmps111
      go_wp2_with (go_at_call 92; refine (rvalid_any _ _).mono ?_; rintro e w' ⟨rfl, rfl⟩; first | rw [ha] | rw [hb])
      go_ret2
      exact ⟨rfl, rfl⟩
    · have hb' : validB b = false := by simpa using hb
      clear hb
      rw [ha, hb', Bool.true_and, if_neg (by decide), if_neg (by decide)]
      go_enter Tryd.func111, Tryd.ntmps111
      go_wp2_with (go_at_call 92; refine (rvalid_any _ _).mono ?_; rintro e w' ⟨rfl, rfl⟩; first | rw [ha] | rw [hb'])
      go_ret2
      exact ⟨rfl, rfl⟩
  · have ha' : validB a = false := by simpa using ha
    clear ha
    rw [ha', Bool.false_and, if_neg (by decide), if_neg (by decide)]
    go_enter Tryd.func111, Tryd.ntmps111
    go_wp2_with (go_at_call 92; refine (rvalid_any _ _).mono ?_; rintro e w' ⟨rfl, rfl⟩; rw [ha'])
    go_ret2
    exact ⟨rfl, rfl⟩

set_option maxHeartbeats 400000 in
theorem rpow_any (a n : Int) (w : World) :
    Calls Tryd.prog 64 #[.int .i64 a, .int .i64 n] w fun e w' => e = .returned (.tuple #[.int .i64 (powC a n), .int .i64 (powE a)]) ∧ w' = w := by
  unfold powC powE
  by_cases ha : validB a = true
  · have hr := validB_range ha
    obtain ⟨k, rfl⟩ : ∃ k : Nat, a = k := ⟨a.toNat, by omega⟩
    rw [ha, if_pos rfl, if_pos rfl, Int.toNat_natCast]
    have hm : 0 ≤ n % 1073741789 ∧ n % 1073741789 < 1073741789 := by omega
    have hc : ∀ w : World, Calls Tryd.prog 95 #[.int .i64 k, .int .i64 (n % 1073741789)] w fun e w' => e = .returned (.int .i64 (pw k (n % 1073741789).toNat)) ∧ w' = w := fun w => by
      have := rpower_any k (n % 1073741789).toNat w (by omega) (by omega)
      rw [Int.toNat_of_nonneg hm.1] at this
      exact this
    go_enter Tryd.func64, Tryd.ntmps64
    go_wp2_with (first
      | (go_at_call 92; refine (rvalid_any _ _).mono ?_; rintro e w' ⟨rfl, rfl⟩; rw [ha])
      | (go_at_call 96; refine (rexponent_any _ _).mono ?_; rintro e w' ⟨rfl, rfl⟩)
      | (go_at_call 95; refine (hc _).mono ?_; rintro e w' ⟨rfl, rfl⟩))
    go_ret2
    exact ⟨rfl, rfl⟩
  · have ha' : validB a = false := by simpa using ha
    rw [if_neg ha, if_neg ha]
    clear ha
    go_enter Tryd.func64, Tryd.ntmps64
    go_wp2_with (go_at_call 92; refine (rvalid_any _ _).mono ?_; rintro e w' ⟨rfl, rfl⟩; rw [ha'])
    go_ret2
    exact ⟨rfl, rfl⟩

end Go.Proofs.YthokpfegfnpmhaaDoor
