/- What is signed is right: the plain law. -/
import Derived.Test.YtallnbbdacngnaaDoorVerify
namespace Go.Proofs.YtallnbbdacngnaaDoor
open Go.RowKit Go.Shelf Jac Cdc Sha
set_option linter.unusedVariables false
set_option linter.unusedSimpArgs false

theorem exp_law (k E x : Int) : ((k + E * x) % 1073741789 + x * ((-E) % 1073741789)) % 1073741789 = k % 1073741789 := by
  rw [Int.add_emod, Int.mul_emod, Int.emod_emod, Int.emod_emod, ← Int.mul_emod, ← Int.add_emod]
  have e : k + E * x + x * -E = k := by
    rw [Int.mul_neg, Int.mul_comm x E]
    omega
  rw [e]
theorem pow4_nat {n : Int} (h : 0 ≤ n) : powC 4 n = ((pw 4 n.toNat : Nat) : Int) := by
  have h1 := powC_valid (a := 4) valid_four n
  rw [show ((4 : Nat) : Int) = 4 from rfl] at h1
  rw [h1]
  have e : (n % 1073741789).toNat = n.toNat % Qn := by rw [Qn_eq]; omega
  rw [e, pw_modQ (a := 4) valid_four]
theorem pow4_valid (n : Int) : validB (powC 4 n) = true := by
  have h1 := powC_valid (a := 4) valid_four n
  rw [show ((4 : Nat) : Int) = 4 from rfl] at h1
  rw [h1]
  exact valid_pow (a := 4) valid_four _
theorem pt_right (x k E : Int) (hx : 0 ≤ x) (hk : 0 ≤ k) : ptC (powC 4 x) E ((k + E * x) % 1073741789) = powC 4 k := by
  have hS : 0 ≤ (k + E * x) % 1073741789 := Int.emod_nonneg _ (by decide)
  have hm : 0 ≤ (-E) % 1073741789 := Int.emod_nonneg _ (by decide)
  unfold ptC
  rw [pow4_nat hx, pow4_nat hS, pow4_nat hk]
  have hv := valid_pow (a := 4) valid_four x.toNat
  rw [powC_valid hv, pw_pw]
  rw [mulC_valid (valid_pow (a := 4) valid_four _) (valid_pow (a := 4) valid_four _), ← pw_add]
  have hex := exp_law k E x
  have e : (((k + E * x) % 1073741789).toNat + x.toNat * ((-E) % 1073741789).toNat) % Qn = k.toNat % Qn := by
    rw [Qn_eq]
    have h1 : ((((k + E * x) % 1073741789).toNat + x.toNat * ((-E) % 1073741789).toNat : Nat) : Int) = (k + E * x) % 1073741789 + x * ((-E) % 1073741789) := by
      rw [Int.natCast_add, Int.natCast_mul, Int.toNat_of_nonneg hS, Int.toNat_of_nonneg hx, Int.toNat_of_nonneg hm]
    rw [← h1] at hex
    omega
  rw [← pw_modQ (a := 4) valid_four, e, pw_modQ (a := 4) valid_four]
/-- what is signed is right -/
theorem vf_right (x : Int) (bs : List UInt8) (hx : 1 ≤ x) (hx2 : x < 1073741789) : vfB (powC 4 x) bs (sgE x bs) (sgS x bs) = true := by
  have hk := sgK_bd x bs
  have hE : 0 ≤ sgE x bs ∧ sgE x bs < 1073741789 := hN_bd _ _
  have hS : 0 ≤ sgS x bs ∧ sgS x bs < 1073741789 := by unfold sgS; omega
  have hp : ptC (powC 4 x) (sgE x bs) (sgS x bs) = powC 4 (sgK x bs) := by
    unfold sgS
    exact pt_right x (sgK x bs) (sgE x bs) (by omega) (by omega)
  unfold vfB
  rw [decide_eq_true ⟨hE.1, hE.2, hS.1, hS.2⟩, pow4_valid, hp]
  simp only [Bool.true_and, beq_iff_eq]
  rfl
theorem pow_1024 : powC 4 5 = 1024 := by
  rw [pow4_nat (by decide)]
  rfl
theorem pow_m1 : powC 4 1073741788 = 536870895 := by
  rw [← s_pow3]
  unfold powC
  rfl
end Go.Proofs.YtallnbbdacngnaaDoor
