/- Plain number theory of the group: the prime, Euler's criterion, powers modulo the prime. -/
import Derived.Test.YtallnbbdacngnaaDoorJac
namespace Jac
set_option linter.unusedVariables false
set_option linter.unusedSimpArgs false

/-- a number that the kernel can't reckon with -/
noncomputable def big (n : Nat) : Nat := Classical.choose (⟨n, rfl⟩ : ∃ q, q = n)
theorem big_eq (n : Nat) : big n = n := Classical.choose_spec (⟨n, rfl⟩ : ∃ q, q = n)

/-- no number from a to a + 2 ^ k - 1 divides n -/
def chk (n : Nat) : Nat → Nat → Bool
  | 0, a => !(Nat.beq (n % a) 0)
  | k + 1, a => chk n k a && chk n k (a + 2 ^ k)

theorem chk_spec {n : Nat} : ∀ {k a : Nat}, chk n k a = true → ∀ d, a ≤ d → d < a + 2 ^ k → n % d ≠ 0
  | 0, a, h, d, h1, h2 => by
    have : d = a := by simp at h2; omega
    subst this
    intro e
    simp [chk, e] at h
  | k + 1, a, h, d, h1, h2 => by
    simp only [chk, Bool.and_eq_true] at h
    rw [Nat.pow_succ] at h2
    by_cases c : d < a + 2 ^ k
    · exact chk_spec h.1 d h1 c
    · exact chk_spec h.2 d (by omega) (by omega)

theorem coprime_of_chk {n : Nat} (h : chk n 16 2 = true) (hn : n < 65536 * 65536) {x : Nat} (h1 : 1 ≤ x) (h2 : x < n) : Nat.Coprime x n := by
  rw [Nat.coprime_iff_gcd_eq_one]
  obtain ⟨e, he⟩ := Nat.gcd_dvd_right x n
  have hg : Nat.gcd x n ≤ x := Nat.gcd_le_left n (by omega)
  have hp : 0 < Nat.gcd x n := Nat.gcd_pos_of_pos_left n (by omega)
  generalize Nat.gcd x n = g at *
  apply Classical.byContradiction
  intro hg1
  have he1 : e ≠ 1 := fun c => by subst c; omega
  have he0 : e ≠ 0 := fun c => by subst c; omega
  by_cases c : g < 65536
  · exact chk_spec h g (by omega) (by omega) (by rw [he, Nat.mul_mod_right])
  · have : e < 65536 := by
      apply Classical.byContradiction
      intro c'
      have : 65536 * 65536 ≤ g * e := Nat.mul_le_mul (by omega) (by omega)
      omega
    exact chk_spec h e (by omega) (by omega) (by rw [he, Nat.mul_mod_left])

theorem chkP : chk 2147483579 16 2 = true := by decide +kernel
theorem chkQ : chk 1073741789 16 2 = true := by decide +kernel

theorem coprimeP {x : Nat} (h1 : 1 ≤ x) (h2 : x < 2147483579) : Nat.Coprime x 2147483579 := coprime_of_chk chkP (by decide) h1 h2
theorem coprimeQ {x : Nat} (h1 : 1 ≤ x) (h2 : x < 1073741789) : Nat.Coprime x 1073741789 := coprime_of_chk chkQ (by decide) h1 h2

/-! Euler's criterion for a prime n -/

theorem Pr_mod {n : Int} {f g : Nat → Int} : ∀ h, (∀ k, 1 ≤ k → k ≤ h → n ∣ f k - g k) → n ∣ Pr f h - Pr g h
  | 0, _ => by simp [Pr]
  | h + 1, H => by
    have h1 := Pr_mod h (fun k a b => H k a (by omega))
    have h2 := H (h + 1) (by omega) (by omega)
    simp only [Pr]
    have e : Pr f h * f (h + 1) - Pr g h * g (h + 1) = (Pr f h - Pr g h) * f (h + 1) + Pr g h * (f (h + 1) - g (h + 1)) := by
      rw [Int.sub_mul, Int.mul_sub]; omega
    rw [e]
    exact Int.dvd_add (Int.dvd_trans h1 (Int.dvd_mul_right _ _)) (Int.dvd_trans h2 (Int.dvd_mul_left _ _))

theorem Pr_mul (f g : Nat → Int) : ∀ h, Pr (fun k => f k * g k) h = Pr f h * Pr g h
  | 0 => rfl
  | h + 1 => by
    simp only [Pr]; rw [Pr_mul f g h, Int.mul_assoc, Int.mul_assoc, Int.mul_left_comm (Pr g h)]

theorem Pr_const (c : Int) : ∀ h, Pr (fun _ => c) h = c ^ h
  | 0 => by simp [Pr]
  | h + 1 => by simp only [Pr]; rw [Pr_const c h, Int.pow_succ]

/-- the sign of a remainder -/
def sgn (n k : Nat) : Int := if up n k = 1 then -1 else 1

theorem sgn_aux (s u : Nat) (h : u ≤ 1) : ((if s % 2 = 0 then 1 else -1) * (if u = 1 then -1 else 1) : Int) = if (s + u) % 2 = 0 then 1 else -1 := by
  have h2 : u = 0 ∨ u = 1 := by omega
  have h1 : s % 2 = 0 ∨ s % 2 = 1 := by omega
  rcases h1 with h1 | h1 <;> rcases h2 with h2 | h2 <;> subst h2 <;> simp [h1, Nat.add_mod]

theorem Pr_sgn (n a : Nat) : ∀ h, Pr (fun k => sgn n (a * k)) h = if S (fun k => up n (a * k)) h % 2 = 0 then 1 else -1
  | 0 => rfl
  | h + 1 => by
    simp only [Pr, S]; rw [Pr_sgn n a h]
    have := up_le n (a * (h + 1))
    unfold sgn
    exact sgn_aux _ _ this

theorem Pr_coprime {n : Nat} : ∀ h, (∀ k, 1 ≤ k → k ≤ h → Nat.Coprime k n) → Nat.Coprime (Pr (fun k => (k : Int)) h).natAbs n
  | 0, _ => by simp [Pr]
  | h + 1, H => by
    simp only [Pr]; rw [Int.natAbs_mul]
    exact Nat.Coprime.mul_left (Pr_coprime h (fun k a b => H k a (by omega))) (by rw [Int.natAbs_natCast]; exact H (h + 1) (by omega) (by omega))

theorem gauss {a n : Nat} (hodd : n % 2 = 1) (hprime : ∀ k, 1 ≤ k → k < n → Nat.Coprime k n) (hc : Nat.Coprime a n) :
    (n : Int) ∣ (a : Int) ^ (n / 2) - (if mu a n % 2 = 0 then 1 else -1) := by
  have hn : 0 < n := by omega
  have h1 : (n : Int) ∣ Pr (fun k => (a : Int) * (k : Int)) (n / 2) - Pr (fun k => sgn n (a * k) * (near n (a * k) : Int)) (n / 2) := by
    apply Pr_mod
    intro k hk1 hk2
    have d := Nat.div_add_mod (a * k) n
    have l := Nat.mod_lt (a * k) hn
    have e : (a : Int) * (k : Int) = (n : Int) * ((a * k / n : Nat) : Int) + ((a * k % n : Nat) : Int) := by
      have := congrArg (fun z : Nat => (z : Int)) d
      simp only [Int.natCast_add, Int.natCast_mul] at this
      omega
    rw [e]
    unfold sgn up near
    by_cases c : 2 * (a * k % n) > n
    · rw [if_pos c, if_pos c, if_pos rfl]
      refine ⟨((a * k / n : Nat) : Int) + 1, ?_⟩
      rw [Int.mul_add, Int.mul_one]
      have : ((n - a * k % n : Nat) : Int) = (n : Int) - ((a * k % n : Nat) : Int) := by omega
      rw [this]; omega
    · rw [if_neg c, if_neg c, if_neg (by decide)]
      exact ⟨((a * k / n : Nat) : Int), by omega⟩
  rw [Pr_mul, Pr_mul, Pr_const, Pr_sgn] at h1
  have hp := Pr_perm (fun k => (k : Int)) (fun k => near n (a * k)) (n / 2) (fun k h1 h2 => near_range hodd hc h1 h2)
    (fun i j h1 h2 h3 h4 e => near_inj hodd hc h1 h2 h3 h4 e)
  have hp' : Pr (fun k => (near n (a * k) : Int)) (n / 2) = Pr (fun k => (k : Int)) (n / 2) := hp
  rw [hp'] at h1
  have hco := Pr_coprime (n := n) (n / 2) (fun k a b => hprime k a (by omega))
  generalize Pr (fun k => (k : Int)) (n / 2) = F at h1 hco
  rw [← Int.sub_mul] at h1
  have h2 : n ∣ (((a : Int) ^ (n / 2) - (if S (fun k => up n (a * k)) (n / 2) % 2 = 0 then 1 else -1)) * F).natAbs := Int.ofNat_dvd_left.mp h1
  rw [Int.natAbs_mul] at h2
  have h3 := hco.symm.dvd_of_dvd_mul_right h2
  exact Int.ofNat_dvd_left.mpr h3

theorem euler {a n : Nat} (hodd : n % 2 = 1) (h3 : 2 < n) (hprime : ∀ k, 1 ≤ k → k < n → Nat.Coprime k n) (hc : Nat.Coprime a n) :
    a ^ (n / 2) % n = if mu a n % 2 = 0 then 1 else n - 1 := by
  have h := gauss hodd hprime hc
  have hz : (0 : Int) < n := by omega
  have hm : ((a ^ (n / 2) % n : Nat) : Int) = ((a : Int) ^ (n / 2)) % n := by simp
  obtain ⟨q, hq⟩ := h
  by_cases c : mu a n % 2 = 0
  · rw [if_pos c] at hq ⊢
    have e : (a : Int) ^ (n / 2) = 1 + n * q := by omega
    rw [e, Int.add_mul_emod_self_left, Int.emod_eq_of_lt (by omega) (by omega)] at hm
    omega
  · rw [if_neg c] at hq ⊢
    have e : (a : Int) ^ (n / 2) = (n - 1) + n * (q - 1) := by rw [Int.mul_sub, Int.mul_one]; omega
    rw [e, Int.add_mul_emod_self_left, Int.emod_eq_of_lt (by omega) (by omega)] at hm
    omega

noncomputable def Qn : Nat := big 1073741789
noncomputable def Pn : Nat := big 2147483579
theorem Qn_eq : Qn = 1073741789 := big_eq _
theorem Pn_eq : Pn = 2147483579 := big_eq _

/-- a power modulo the prime -/
def pw (a n : Nat) : Nat := a ^ n % 2147483579

theorem pw_Q {x : Nat} (h1 : 1 ≤ x) (h2 : x < 2147483579) : pw x Qn = if mu x Pn % 2 = 0 then 1 else 2147483578 := by
  have hp : ∀ k, 1 ≤ k → k < Pn → Nat.Coprime k Pn := fun k a b => by rw [Pn_eq] at b ⊢; exact coprimeP a b
  have h := euler (a := x) (n := Pn) (by rw [Pn_eq]) (by rw [Pn_eq]; decide) hp (hp x h1 (by rw [Pn_eq]; exact h2))
  have e : Pn / 2 = Qn := by rw [Pn_eq, Qn_eq]
  rw [e] at h
  unfold pw
  generalize x ^ Qn = y at *
  generalize mu x Pn % 2 = c at *
  rw [Pn_eq] at h
  exact h
end Jac
