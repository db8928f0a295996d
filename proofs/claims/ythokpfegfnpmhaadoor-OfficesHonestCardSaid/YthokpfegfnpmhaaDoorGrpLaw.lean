/- The plain laws of the group: which numbers are elements, products, powers, inverses. -/
import Derived.Test.YthokpfegfnpmhaaDoorGroupA
namespace Go.Proofs.YthokpfegfnpmhaaDoor
open Jac
set_option linter.unusedVariables false
set_option linter.unusedSimpArgs false

theorem Qn_pos : 0 < Qn := by rw [Qn_eq]; decide

theorem pw_lt (a n : Nat) : pw a n < 2147483579 := Nat.mod_lt _ (by decide)
theorem pw_zero (a : Nat) : pw a 0 = 1 := by unfold pw; rw [Nat.pow_zero]
theorem pw_one {a : Nat} (h : a < 2147483579) : pw a 1 = a := by unfold pw; rw [Nat.pow_one, Nat.mod_eq_of_lt h]
theorem pw_two (a : Nat) : pw a 2 = a * a % 2147483579 := by unfold pw; rw [Nat.pow_two]
theorem pw_add (a m n : Nat) : pw a (m + n) = pw a m * pw a n % 2147483579 := by unfold pw; rw [Nat.pow_add, Nat.mul_mod]
theorem pw_pw (a m n : Nat) : pw (pw a m) n = pw a (m * n) := by unfold pw; rw [← Nat.pow_mod, Nat.pow_mul]
theorem pw_mul (a b n : Nat) : pw (a * b % 2147483579) n = pw a n * pw b n % 2147483579 := by unfold pw; rw [← Nat.pow_mod, Nat.mul_pow, Nat.mul_mod]
theorem pw_zero_base {n : Nat} (h : 0 < n) : pw 0 n = 0 := by unfold pw; rw [Nat.zero_pow h]
theorem pw_one_base (n : Nat) : pw 1 n = 1 := by unfold pw; rw [Nat.one_pow]

theorem validB_pw {n : Nat} (h : validB n = true) : pw n Qn = 1 := by
  have hr := validB_range h
  rw [validB_in hr, decide_eq_true_iff, Int.toNat_natCast] at h
  rw [pw_Q (by omega) (by omega), if_pos h]

theorem validB_of {n : Nat} (h1 : 1 ≤ n) (h2 : n < 2147483579) (h : pw n Qn = 1) : validB n = true := by
  rw [validB_in (by omega), decide_eq_true_iff, Int.toNat_natCast]
  rw [pw_Q h1 h2] at h
  apply Classical.byContradiction
  intro c
  rw [if_neg c] at h
  cases h

theorem pw_valid_lt {n : Nat} (h2 : n < 2147483579) (h : pw n Qn = 1) : validB n = true := by
  apply validB_of _ h2 h
  rcases Nat.eq_zero_or_pos n with e | e
  · subst e; rw [pw_zero_base Qn_pos] at h; cases h
  · exact e

theorem valid_mul {a b : Nat} (ha : validB a = true) (hb : validB b = true) : validB ((a * b % 2147483579 : Nat) : Int) = true := by
  apply pw_valid_lt (Nat.mod_lt _ (by decide))
  rw [pw_mul, validB_pw ha, validB_pw hb]

theorem valid_pow {a : Nat} (ha : validB a = true) (n : Nat) : validB ((pw a n : Nat) : Int) = true := by
  apply pw_valid_lt (pw_lt _ _)
  rw [pw_pw, Nat.mul_comm, ← pw_pw, validB_pw ha, pw_one_base]

theorem pw_modQ {a : Nat} (ha : validB a = true) (n : Nat) : pw a (n % Qn) = pw a n := by
  have e : n = Qn * (n / Qn) + n % Qn := (Nat.div_add_mod n Qn).symm
  have l := pw_lt a (n % Qn)
  conv => rhs; rw [e]
  rw [pw_add, ← pw_pw, validB_pw ha, pw_one_base, Nat.one_mul]
  exact (Nat.mod_eq_of_lt l).symm

theorem mu_neg {a n : Nat} (hodd : n % 2 = 1) (hc : Nat.Coprime a n) (ha : a ≤ n) : mu (n - a) n + mu a n = n / 2 := by
  have hn : 0 < n := by omega
  unfold mu
  rw [← S_add]
  rw [show S (fun k => up n ((n - a) * k) + up n (a * k)) (n / 2) = S (fun _ => 1) (n / 2) from ?_]
  · rw [S_const]; omega
  · apply S_congr
    intro k h1 h2
    have hk : k % n ≠ 0 := by rw [Nat.mod_eq_of_lt (by omega)]; omega
    have hak : (a * k) % n ≠ 0 := fun e => hk (coprime_mul_mod hc e)
    have l1 := Nat.mod_lt (a * k) hn
    have l2 := Nat.mod_lt ((n - a) * k) hn
    have hs : (((n - a) * k) % n + (a * k) % n) % n = 0 := by
      rw [← Nat.add_mod, ← Nat.add_mul, Nat.sub_add_cancel ha, Nat.mul_mod_right]
    have hsum : ((n - a) * k) % n + (a * k) % n = n := by
      obtain ⟨c, hc⟩ := Nat.dvd_of_mod_eq_zero hs
      rcases Nat.lt_or_ge c 1 with h | h
      · have : c = 0 := by omega
        subst this; omega
      · rcases Nat.lt_or_ge 1 c with h' | h'
        · have : n * 2 ≤ n * c := Nat.mul_le_mul_left n h'
          omega
        · have : c = 1 := by omega
          subst this; omega
    unfold up
    split <;> split <;> omega

theorem valid_neg {x : Int} (h : 1 ≤ x ∧ x < 2147483579) : validB (2147483579 - x) = !validB x := by
  obtain ⟨n, rfl⟩ : ∃ n : Nat, x = n := ⟨x.toNat, by omega⟩
  rw [validB_in h, validB_in (by omega)]
  have e : (2147483579 - (n : Int)).toNat = Pn - n := by rw [Pn_eq]; omega
  have hm := mu_neg (a := n) (n := Pn) (by rw [Pn_eq]) (by rw [Pn_eq]; exact coprimeP (by omega) (by omega)) (by rw [Pn_eq]; omega)
  have hq : Pn / 2 = 1073741789 := by rw [Pn_eq]
  rw [hq] at hm
  rw [e, Int.toNat_natCast]
  generalize mu (Pn - n) Pn = s at *
  generalize mu n Pn = t at *
  by_cases c : t % 2 = 0
  · have : ¬ s % 2 = 0 := by omega
    rw [decide_eq_true c, decide_eq_false this]; rfl
  · have : s % 2 = 0 := by omega
    rw [decide_eq_false c, decide_eq_true this]; rfl

theorem valid_one : validB 1 = true := by
  have := validB_of (n := 1) (by decide) (by decide) (pw_one_base _)
  exact this

theorem valid_two : validB 2 = false := by
  rw [validB_in (by decide), decide_eq_false_iff_not]
  have h := mu_two_parity (n := Pn) (by rw [Pn_eq])
  have e : Pn % 8 = 3 := by rw [Pn_eq]
  rw [if_pos (.inl e)] at h
  have e2 : (2 : Int).toNat = 2 := rfl
  rw [e2, h]
  decide

theorem valid_four : validB 4 = true := by
  rw [validB_in (by decide), decide_eq_true_iff]
  have hc : Nat.Coprime 2 Pn := by rw [Pn_eq]; exact coprimeP (by decide) (by decide)
  have h := mu_mul (a := 2) (b := 2) (n := Pn) (by rw [Pn_eq]) hc hc
  have e2 : (4 : Int).toNat = 2 * 2 := rfl
  rw [e2, h]
  omega

theorem valid_sq {n : Nat} (h1 : 1 ≤ n) (h2 : n < 2147483579) : validB ((n * n % 2147483579 : Nat) : Int) = true := by
  have hc : Nat.Coprime n Pn := by rw [Pn_eq]; exact coprimeP h1 h2
  have h := mu_mul (a := n) (b := n) (n := Pn) (by rw [Pn_eq]) hc hc
  have hc2 : Nat.Coprime (n * n) 2147483579 := by
    have := coprimeP h1 h2
    exact Nat.Coprime.mul_left this this
  have h0 : n * n % 2147483579 ≠ 0 := fun e => by
    have hd := Nat.dvd_of_mod_eq_zero e
    have := Nat.Coprime.eq_one_of_dvd hc2.symm hd
    cases this
  rw [validB_in (by omega), decide_eq_true_iff, Int.toNat_natCast]
  have e : mu (n * n % Pn) Pn = mu (n * n) Pn := mu_mod _ _
  rw [Pn_eq] at e
  have e' : mu (n * n % 2147483579) Pn = mu (n * n) Pn := by
    have := mu_mod (n * n) Pn
    have e3 : n * n % Pn = n * n % 2147483579 := by rw [Pn_eq]
    rw [e3] at this
    exact this
  rw [e', h]
  omega

/-- the power one below the order is the inverse -/
theorem pw_pred {a m : Nat} (h : m + 1 = Qn) (ha : validB a = true) : a * pw a m % 2147483579 = 1 := by
  have hr := validB_range ha
  have e := validB_pw ha
  rw [← h, pw_add, pw_one (by omega), Nat.mul_comm] at e
  exact e

theorem powC_valid {a : Nat} (ha : validB a = true) (n : Int) : powC a n = (pw a (n % 1073741789).toNat : Int) := by
  unfold powC; rw [if_pos ha, Int.toNat_natCast]
theorem powE_valid {a : Int} (ha : validB a = true) : powE a = 0 := by unfold powE; rw [if_pos ha]
theorem mulC_valid {a b : Nat} (ha : validB a = true) (hb : validB b = true) : mulC a b = ((a * b % 2147483579 : Nat) : Int) := by
  unfold mulC; rw [ha, hb]; rfl
theorem mulE_valid {a b : Int} (ha : validB a = true) (hb : validB b = true) : mulE a b = 0 := by unfold mulE; rw [ha, hb]; rfl

/-! the facts of the examples -/
theorem s_pow1 : powC 4 2 = 16 := by
  have := powC_valid (a := 4) valid_four 2
  have e : (2 % 1073741789 : Int).toNat = 2 := rfl
  rw [e, pw_two] at this
  exact this
theorem s_pow2 : powC 4 1073741789 = 1 := by
  have := powC_valid (a := 4) valid_four 1073741789
  have e : (1073741789 % 1073741789 : Int).toNat = 0 := rfl
  rw [e, pw_zero] at this
  exact this
theorem inv_four' (p y q : Nat) (hp : p = 2147483579) (h1 : y < p) (d : p * q + 1 = 4 * y) : y = 536870895 := by
  have hq : q < 4 := by
    apply Classical.byContradiction
    intro c
    have : p * 4 ≤ p * q := Nat.mul_le_mul_left p (by omega)
    omega
  have : q = 0 ∨ q = 1 ∨ q = 2 ∨ q = 3 := by omega
  rcases this with e | e | e | e <;> subst e <;> omega
theorem inv_four (p y : Nat) (hp : p = 2147483579) (h1 : y < p) (h2 : 4 * y % p = 1) : y = 536870895 := by
  have d := Nat.div_add_mod (4 * y) p
  rw [h2] at d
  exact inv_four' p y _ hp h1 d
theorem s_pow3 : powC 4 (-1) = 536870895 := by
  obtain ⟨m, hm⟩ : ∃ m, m = (-1 % 1073741789 : Int).toNat := ⟨_, rfl⟩
  have hq : m + 1 = Qn := by rw [Qn_eq, hm]; rfl
  have := powC_valid (a := 4) valid_four (-1)
  rw [← hm] at this
  have hp := pw_pred hq (a := 4) valid_four
  have hy := inv_four _ _ rfl (pw_lt 4 m) hp
  rw [hy] at this
  exact this
theorem s_powE4 : powE 4 = 0 := powE_valid valid_four
theorem valid_zero : validB 0 = false := validB_out (by decide)
theorem valid_P : validB 2147483579 = false := validB_out (by decide)
theorem valid_m1 : validB 2147483578 = false := by
  have := valid_neg (x := 1) (by decide)
  rw [valid_one] at this
  exact this
theorem valid_m2 : validB 2147483577 = true := by
  have := valid_neg (x := 2) (by decide)
  rw [valid_two] at this
  exact this
theorem s_powE0 : powE 0 = 100 := by unfold powE; rw [if_neg (by rw [valid_zero]; decide)]
theorem s_mul1 : mulC 4 4 = 16 := mulC_valid (a := 4) (b := 4) valid_four valid_four
theorem s_mulE1 : mulE 4 4 = 0 := mulE_valid valid_four valid_four
theorem s_mulE2 : mulE 4 2 = 100 := by unfold mulE; rw [valid_two, valid_four]; rfl
theorem s_el : elC 2 = 2147483577 := by unfold elC; rw [if_neg (by decide), if_neg (by rw [valid_two]; decide)]; rfl
theorem s_elE : elE 2 = 0 := rfl
theorem s_elE0 : elE 0 = 1 := rfl
theorem s_elEQ : elE 1073741790 = 1 := rfl
theorem s_num : numC 2147483577 = 2 := by unfold numC; rw [if_pos valid_m2]; rfl
theorem s_numE : numE 2147483577 = 0 := by unfold numE; rw [if_pos valid_m2]
theorem s_numE2 : numE 2 = 100 := by unfold numE; rw [if_neg (by rw [valid_two]; decide)]
end Go.Proofs.YthokpfegfnpmhaaDoor
