/- The numbers of the reference of sign; two right signatures of one point tell the secret. -/
import Derived.Test.YtallnbbdacngnaaDoorPoint
import Derived.Test.YtallnbbdacngnaaDoorRefV
namespace Go.Proofs.YtallnbbdacngnaaDoor
open Go.RowKit Go.Shelf Jac Cdc Sha
set_option linter.unusedVariables false
set_option linter.unusedSimpArgs false

set_option maxHeartbeats 400000 in
theorem rmod_any (n : Int) (w : World) :
    Calls Tryd.prog 42 #[.int .i64 n] w fun e w' => e = .returned (.int .i64 (n % 1073741789)) ∧ w' = w := by
  have b1 : -1073741789 < n.tmod 1073741789 := Int.lt_tmod_of_pos _ (by decide)
  have b2 : n.tmod 1073741789 < 1073741789 := Int.tmod_lt_of_pos _ (by decide)
  have HV := Lib.hid (tmod_val n)
  by_cases h : n.tmod 1073741789 < 0
  all_goals
    go_enter Tryd.func42, Tryd.ntmps42
    go_wp2
    go_ret
    refine ⟨congrArg (fun t : Int => Ending.returned (.int .i64 t)) ?_, rfl⟩
    rw [← HV.out]
    first | rw [if_pos h] | rw [if_neg (by omega)]

set_option maxHeartbeats 400000 in
theorem rtimes_any (a b : Int) (w : World) :
    Calls Tryd.prog 70 #[.int .i64 a, .int .i64 b] w fun e w' => e = .returned (.int .i64 ((a % 1073741789) * (b % 1073741789) % 1073741789)) ∧ w' = w := by
  obtain ⟨x, hx⟩ : ∃ x, a % 1073741789 = x := ⟨_, rfl⟩
  obtain ⟨y, hy⟩ : ∃ y, b % 1073741789 = y := ⟨_, rfl⟩
  have hx0 : 0 ≤ x ∧ x < 1073741789 := by omega
  have hy0 : 0 ≤ y ∧ y < 1073741789 := by omega
  have h1 : 0 ≤ x * y := Int.mul_nonneg hx0.1 hy0.1
  have h2 : x * y ≤ 1073741789 * 1073741789 := Int.mul_le_mul (by omega) (by omega) hy0.1 (by omega)
  have h3 : x * y ≤ 9223372036854775807 := by omega
  have ha := Lib.hid (fun w => hx ▸ rmod_any a w)
  have hb := Lib.hid (fun w => hy ▸ rmod_any b w)
  rw [hx, hy]
  clear hx hy
  go_enter Tryd.func70, Tryd.ntmps70
  go_wp2_with fail
  refine (ha.out _).mono ?_
  rintro e w' ⟨rfl, rfl⟩
  go_wp2_with fail
  refine (hb.out _).mono ?_
  rintro e w' ⟨rfl, rfl⟩
  go_wp2_with fail
  go_ret
  exact ⟨rfl, rfl⟩

theorem pq_step {c a n : Nat} : c * a ^ n % 1073741789 = (if n % 2 = 1 then c * a % 1073741789 else c) * (a * a % 1073741789) ^ (n / 2) % 1073741789 := by
  have e : a ^ n = (a * a) ^ (n / 2) * a ^ (n % 2) := by
    rw [← Nat.pow_two, ← Nat.pow_mul, ← Nat.pow_add, Nat.div_add_mod]
  have sq : (a * a % 1073741789) ^ (n / 2) % 1073741789 = (a * a) ^ (n / 2) % 1073741789 := (Nat.pow_mod (a * a) (n / 2) 1073741789).symm
  rw [e]
  by_cases o : n % 2 = 1
  · rw [if_pos o, o, Nat.pow_one]
    rw [Nat.mul_mod (c * a % 1073741789), sq, Nat.mod_mod, ← Nat.mul_mod]
    rw [Nat.mul_assoc, Nat.mul_comm _ a]
  · have o' : n % 2 = 0 := by omega
    rw [if_neg o, o', Nat.pow_zero, Nat.mul_one]
    rw [Nat.mul_mod c ((a * a % 1073741789) ^ (n / 2)), sq, ← Nat.mul_mod]


set_option maxHeartbeats 1000000 in
theorem rpowerQ_any (z : Int) (a n : Nat) (w : World) (hz : z % 1073741789 = (a : Int)) (ha : a < 1073741789) (hn : n ≤ 9223372036854775807) :
    Calls Tryd.prog 76 #[.int .i64 z, .int .i64 n] w fun e w' => e = .returned (.int .i64 ((a ^ n % 1073741789 : Nat) : Int)) ∧ w' = w := by
  obtain ⟨T, hT⟩ : ∃ T, a ^ n % 1073741789 = T := ⟨_, rfl⟩
  have H0 : Hid (1 * a ^ n % 1073741789 = T) := by rw [Nat.one_mul]; exact hT
  rw [hT]
  clear hT
  have hm := Lib.hid (fun w => hz ▸ rmod_any z w)
  clear hz
  go_enter Tryd.func76, Tryd.ntmps76
  go_wp2_with fail
  refine (hm.out _).mono ?_
  rintro e w' ⟨rfl, rfl⟩
  clear hm
  go_wp2_with fail
  go_loop [0, 1, 5] (fun x m s => ∃ (b k c : Nat), x = .int .i64 b ∧ m = .int .i64 k ∧ s = .int .i64 c ∧ b < 1073741789 ∧ c < 1073741789 ∧ k ≤ 9223372036854775807 ∧ Hid (c * b ^ k % 1073741789 = T)) (fun _ m _ => (intOf m).toNat)
  case atStart => exact ⟨a, n, 1, rfl, rfl, rfl, ha, by decide, hn, H0⟩
  case round =>
    obtain ⟨b, k, c, rfl, rfl, rfl, hb, hc, hk, hT⟩ := hrel
    have hsq1 : ((b : Int) * (b : Int)) ≤ 4611686018427387904 := by
      have : b * b ≤ 1073741789 * 1073741789 := Nat.mul_le_mul (by omega) (by omega)
      have e : ((b * b : Nat) : Int) = (b : Int) * b := Int.natCast_mul _ _
      omega
    have hsq0 : 0 ≤ (b : Int) * (b : Int) := by
      have e : ((b * b : Nat) : Int) = (b : Int) * b := Int.natCast_mul _ _
      omega
    have hcq1 : ((c : Int) * (b : Int)) ≤ 4611686018427387904 := by
      have : c * b ≤ 1073741789 * 1073741789 := Nat.mul_le_mul (by omega) (by omega)
      have e : ((c * b : Nat) : Int) = (c : Int) * b := Int.natCast_mul _ _
      omega
    have hcq0 : 0 ≤ (c : Int) * (b : Int) := by
      have e : ((c * b : Nat) : Int) = (c : Int) * b := Int.natCast_mul _ _
      omega
    by_cases hz : k = 0
    · subst hz
      have HE : Hid (c = T) := by
        have := hT.out
        rw [Nat.pow_zero, Nat.mul_one, Nat.mod_eq_of_lt hc] at this
        exact this
      go_wp2
      go_ret
      exact ⟨congrArg (fun t : Nat => Ending.returned (.int .i64 t)) HE.out, rfl⟩
    · have hstep := pq_step (c := c) (a := b) (n := k)
      rw [hT.out] at hstep
      by_cases o : k % 2 = 1
      · have HS : Hid (c * b % 1073741789 * (b * b % 1073741789) ^ (k / 2) % 1073741789 = T) := by rw [if_pos o] at hstep; exact hstep.symm
        have t1 : ((k : Int) % 2 == 1) = true := by simp; omega
        clear hstep o
        go_wp2
        go_round
        case rel => exact ⟨b * b % 1073741789, k / 2, c * b % 1073741789, rfl, rfl, rfl, Nat.mod_lt _ (by decide), Nat.mod_lt _ (by decide), by omega, HS⟩
        case measure => simp [intOf]; omega
      · have HS : Hid (c * (b * b % 1073741789) ^ (k / 2) % 1073741789 = T) := by rw [if_neg o] at hstep; exact hstep.symm
        have t1 : ((k : Int) % 2 == 1) = false := by simp; omega
        clear hstep o
        go_wp2
        go_round
        case rel => exact ⟨b * b % 1073741789, k / 2, c, rfl, rfl, rfl, Nat.mod_lt _ (by decide), hc, by omega, HS⟩
        case measure => simp [intOf]; omega


theorem fermatQ {d : Nat} (h1 : 1 ≤ d) (h2 : d < 1073741789) : d * (d ^ (Qn - 2) % 1073741789) % 1073741789 = 1 := by
  have hp : ∀ k, 1 ≤ k → k < Qn → Nat.Coprime k Qn := fun k a b => by rw [Qn_eq] at b ⊢; exact coprimeQ a b
  have h := euler (a := d) (n := Qn) (by rw [Qn_eq]) (by rw [Qn_eq]; decide) hp (hp d h1 (by rw [Qn_eq]; exact h2))
  have e1 : Qn / 2 + Qn / 2 = (Qn - 2) + 1 := by rw [Qn_eq]
  have e2 : d ^ (Qn / 2) * d ^ (Qn / 2) = d ^ (Qn - 2) * d := by rw [← Nat.pow_add, e1, Nat.pow_succ]
  have e3 : d * (d ^ (Qn - 2) % 1073741789) % 1073741789 = d ^ (Qn - 2) * d % 1073741789 := by rw [Nat.mul_mod d, Nat.mod_mod, ← Nat.mul_mod, Nat.mul_comm]
  rw [e3, ← e2, Nat.mul_mod]
  generalize d ^ (Qn / 2) = r at *
  rw [Qn_eq] at h
  rw [h]
  split <;> rfl

theorem mulmod4 (a b c d P : Nat) : (a * b % P) * (c * d % P) % P = (a * c % P) * (b * d % P) % P := by
  rw [← Nat.mul_mod, ← Nat.mul_mod, Nat.mul_mul_mul_comm]

theorem two_nat {k : Nat} (hk : validB k = true) (S S' E E' nS nE nE' dS dE i : Nat)
    (H : pw 4 S * pw k nE % 2147483579 = pw 4 S' * pw k nE' % 2147483579)
    (h1 : (S + nS) % Qn = dS % Qn) (h2 : (nE + E) % Qn = 0) (h3 : (S' + nS) % Qn = 0) (h4 : (nE' + E) % Qn = dE % Qn) (h5 : (dE * i) % Qn = 1) : pw 4 (dS * i % Qn) = k := by
  have hr := validB_range hk
  have L : pw 4 (S + nS) * pw k (nE + E) % 2147483579 = pw 4 (S' + nS) * pw k (nE' + E) % 2147483579 := by
    rw [pw_add, pw_add, pw_add, pw_add, mulmod4, H, mulmod4]
  rw [← pw_modQ (a := 4) valid_four (S + nS), h1, pw_modQ (a := 4) valid_four, ← pw_modQ hk (nE + E), h2, pw_zero, ← pw_modQ (a := 4) valid_four (S' + nS), h3, pw_zero, ← pw_modQ hk (nE' + E), h4, pw_modQ hk, Nat.mul_one, Nat.one_mul, Nat.mod_eq_of_lt (pw_lt _ _), Nat.mod_eq_of_lt (pw_lt _ _)] at L
  rw [pw_modQ (a := 4) valid_four, ← pw_pw, L, pw_pw, ← pw_modQ hk, h5, pw_one (by omega)]

theorem two_law {key E S E' S' : Int} (hv : validB key = true) (h : 0 ≤ E ∧ E < 1073741789 ∧ 0 ≤ S ∧ S < 1073741789) (h' : 0 ≤ E' ∧ E' < 1073741789 ∧ 0 ≤ S' ∧ S' < 1073741789)
    (hp : ptC key E S = ptC key E' S') (i : Nat) (hi : ((E - E') % 1073741789).toNat * i % 1073741789 = 1) : powC 4 ((S - S') % 1073741789 * (i : Int) % 1073741789) = key := by
  have hr := validB_range hv
  obtain ⟨k, rfl⟩ : ∃ k : Nat, key = (k : Int) := ⟨key.toNat, by omega⟩
  have hS : 0 ≤ (S - S') % 1073741789 := Int.emod_nonneg _ (by decide)
  have hz : 0 ≤ (S - S') % 1073741789 * (i : Int) % 1073741789 := Int.emod_nonneg _ (by decide)
  have e0 : ((S - S') % 1073741789 * (i : Int) % 1073741789).toNat = ((S - S') % 1073741789).toNat * i % Qn := by
    rw [Qn_eq]
    have : (((((S - S') % 1073741789).toNat * i : Nat) % 1073741789 : Nat) : Int) = (S - S') % 1073741789 * (i : Int) % 1073741789 := by
      rw [Int.natCast_emod, Int.natCast_mul, Int.toNat_of_nonneg hS]; rfl
    omega
  rw [pow4_nat hz, e0]
  unfold ptC at hp
  rw [pow4_nat h.2.2.1, pow4_nat h'.2.2.1, powC_valid hv, powC_valid hv, mulC_valid (valid_pow (a := 4) valid_four _) (valid_pow hv _), mulC_valid (valid_pow (a := 4) valid_four _) (valid_pow hv _)] at hp
  have hp2 := Int.ofNat_inj.1 hp
  exact congrArg Nat.cast (two_nat hv _ _ E.toNat E'.toNat ((-S') % 1073741789).toNat _ _ ((S - S') % 1073741789).toNat ((E - E') % 1073741789).toNat i hp2 (by rw [Qn_eq]; omega) (by rw [Qn_eq]; omega) (by rw [Qn_eq]; omega) (by rw [Qn_eq]; omega) (by rw [Qn_eq]; exact hi))

/-- the quotient of the reference -/
noncomputable def quoQ (a b : Int) : Int := (a % 1073741789) * (((((b % 1073741789).toNat ^ (Qn - 2) % 1073741789 : Nat)) : Int)) % 1073741789
set_option maxHeartbeats 400000 in
theorem rquot_any (a b : Int) (w : World) :
    Calls Tryd.prog 43 #[.int .i64 a, .int .i64 b] w fun e w' => e = .returned (.int .i64 (quoQ a b)) ∧ w' = w := by
  obtain ⟨i, hi⟩ : ∃ i, (b % 1073741789).toNat ^ (Qn - 2) % 1073741789 = i := ⟨_, rfl⟩
  have hlt : i < 1073741789 := by rw [← hi]; exact Nat.mod_lt _ (by decide)
  have hb0 : 0 ≤ b % 1073741789 := Int.emod_nonneg _ (by decide)
  have hp := Lib.hid (fun w => rpowerQ_any b (b % 1073741789).toNat (Qn - 2) w (by omega) (by omega) (by rw [Qn_eq]; decide))
  rw [hi, show ((Qn - 2 : Nat) : Int) = 1073741787 by rw [Qn_eq]; rfl] at hp
  have hq : Hid ((a % 1073741789) * ((i : Int) % 1073741789) % 1073741789 = quoQ a b) := Lib.hid (by
    unfold quoQ
    rw [hi, Int.emod_eq_of_lt (a := (i : Int)) (by omega) (by omega)])
  clear hi hb0
  go_enter Tryd.func43, Tryd.ntmps43
  go_wp2_with fail
  refine (hp.out _).mono ?_
  rintro e w' ⟨rfl, rfl⟩
  go_wp2_with fail
  refine (rtimes_any _ _ _).mono ?_
  rintro e w' ⟨rfl, rfl⟩
  rw [hq.out]
  go_wp2_with fail
  go_ret
  exact ⟨rfl, rfl⟩
end Go.Proofs.YtallnbbdacngnaaDoor
