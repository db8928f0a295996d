/- The walk of the statement GroupSquares. -/
import Derived.Test.YtnfijgajhjgmaaaWalkGroupLaws
namespace Go.Proofs.Ytnfijgajhjgmaaa
open Go.RowKit Go.Shelf Jac

/-- what the walk wants to know of the number n that x stands for -/
structure SqFacts (n x : Int) (vn : Bool) : Prop where
  v1 : validB (2147483579 - n) = !vn
  v2 : validB (n * n % 2147483579) = true
  v3 : validB n = vn
  v4 : ¬ n = x → validB x = false
  pw : ∀ (a k : Int) (w : World), vn = true → a = n ∨ a = powC n 536870895 → Calls Try.prog 17 #[.int .i64 a, .int .i64 k] w fun e w' => e = .returned (.int .i64 (powC a k)) ∧ Below w.heap.size w w'
  rt : vn = true → powC (powC n 536870895) 2 = n

theorem sqFacts {n x : Int} (n1 : 1 ≤ n) (n2 : n < 2147483579) (hx : x % 2147483579 = n) : SqFacts n x (validB n) where
  v1 := valid_neg ⟨n1, n2⟩
  v2 := valid_sqI n1 n2
  v3 := rfl
  v4 := fun c => validB_out (by omega)
  pw := by
    intro a k w h1 h2
    apply law_pow
    rcases h2 with rfl | rfl
    · exact h1
    · exact valid_powI h1 _
  rt := sq_root

set_option maxRecDepth 100000 in
set_option maxHeartbeats 2000000 in
theorem squares_neg (x t : Int) (vn : Bool) (w : World) (n1 : 1 ≤ t + 2147483579) (t1 : t < 0) (hF : Hid (SqFacts (t + 2147483579) x vn)) (ht : x.tmod 2147483579 = t) (hx : (t + 2147483579 == x) = false) :
    Calls Try.prog 6 #[.int .i64 x] w fun e w' => e = .returned (.bool true) ∧ Below w.heap.size w w' := by
  have hs1 : (t + 2147483579) * (t + 2147483579) ≤ 4611686018427387904 := by
    have : (t + 2147483579) * (t + 2147483579) ≤ 2147483579 * 2147483579 := Int.mul_le_mul (by omega) (by omega) (by omega) (by omega)
    omega
  have hs0 : 0 ≤ (t + 2147483579) * (t + 2147483579) := Int.mul_nonneg (by omega) (by omega)
  have n0 : (t + 2147483579 == 0) = false := by simp; omega
  have HB := Below.refl w.heap.size w
  have V4 := Lib.hid (hF.out.v4 (by simpa using hx))
  have hx2 : (t + 2147483579 != x) = true := by rw [bne, hx]; rfl
  cases vn
  · go_enter Try.func6, Try.ntmps6
    go_wp2_with (first
      | (go_at_call 8; refine (sane_any _).mono ?_; rintro e w' ⟨rfl, hb⟩; replace HB := HB.trans (hb.mono HB.size); clear hb)
      | (go_at_call 13; refine (valid_any _ _).mono ?_; rintro e w' ⟨rfl, rfl⟩; first | rw [hF.out.v2] | rw [hF.out.v1] | rw [hF.out.v3] | rw [V4.out]))
    go_ret
    exact ⟨rfl, HB⟩
  · go_enter Try.func6, Try.ntmps6
    go_wp2_with (first
      | (go_at_call 8; refine (sane_any _).mono ?_; rintro e w' ⟨rfl, hb⟩; replace HB := HB.trans (hb.mono HB.size); clear hb)
      | (go_at_call 17; refine (hF.out.pw _ _ _ rfl ?_).mono ?_; (first | exact .inl rfl | exact .inr rfl); rintro e w' ⟨rfl, hb⟩; replace HB := HB.trans (hb.mono HB.size); clear hb; try rw [hF.out.rt rfl])
      | (go_at_call 13; refine (valid_any _ _).mono ?_; rintro e w' ⟨rfl, rfl⟩; first | rw [hF.out.v2] | rw [hF.out.v1] | rw [hF.out.v3] | rw [V4.out]))
    go_ret
    exact ⟨rfl, HB⟩

set_option maxRecDepth 100000 in
set_option maxHeartbeats 2000000 in
theorem squares_pos (x t : Int) (vn : Bool) (w : World) (n1 : 1 ≤ t) (n2 : t < 2147483579) (hF : Hid (SqFacts t x vn)) (ht : x.tmod 2147483579 = t) :
    Calls Try.prog 6 #[.int .i64 x] w fun e w' => e = .returned (.bool true) ∧ Below w.heap.size w w' := by
  have hs1 : t * t ≤ 4611686018427387904 := by
    have : t * t ≤ 2147483579 * 2147483579 := Int.mul_le_mul (by omega) (by omega) (by omega) (by omega)
    omega
  have hs0 : 0 ≤ t * t := Int.mul_nonneg (by omega) (by omega)
  have n0 : (t == 0) = false := by simp; omega
  have HB := Below.refl w.heap.size w
  have em : ((t == x) = true ∨ (t == x) = false) := by cases (t == x) <;> simp
  rcases em with hx | hx
  all_goals
    have hx2 : (t != x) = !(t == x) := rfl
    rw [hx] at hx2
    simp only [Bool.not_true, Bool.not_false] at hx2
    have V4 : (t == x) = false → validB x = false := fun c => hF.out.v4 (by simpa using c)
    have V4h := Lib.hid V4
    clear V4
    cases vn
  all_goals
    go_enter Try.func6, Try.ntmps6
    go_wp2_with (first
      | (go_at_call 8; refine (sane_any _).mono ?_; rintro e w' ⟨rfl, hb⟩; replace HB := HB.trans (hb.mono HB.size); clear hb)
      | (go_at_call 17; refine (hF.out.pw _ _ _ rfl ?_).mono ?_; (first | exact .inl rfl | exact .inr rfl); rintro e w' ⟨rfl, hb⟩; replace HB := HB.trans (hb.mono HB.size); clear hb; try rw [hF.out.rt rfl])
      | (go_at_call 13; refine (valid_any _ _).mono ?_; rintro e w' ⟨rfl, rfl⟩; first | rw [hF.out.v2] | rw [hF.out.v1] | rw [hF.out.v3] | rw [V4h.out hx]))
    go_ret
    exact ⟨rfl, HB⟩

theorem walk_GroupSquares (x : Int) (w : World) :
    Calls Try.prog 6 #[.int .i64 x] w fun e w' => e = .returned (.bool true) ∧ Below w.heap.size w w' := by
  by_cases hz : x % 2147483579 = 0
  · exact walk_squares_zero x w hz
  · have HV := tmodP_val x
    have b1 : -2147483579 < x.tmod 2147483579 := Int.lt_tmod_of_pos _ (by decide)
    have b2 : x.tmod 2147483579 < 2147483579 := Int.tmod_lt_of_pos _ (by decide)
    have b3 : 0 ≤ x → 0 ≤ x.tmod 2147483579 := fun h => Int.tmod_nonneg _ h
    split at HV
    · exact squares_neg x _ _ w (by omega) (by omega) (sqFacts (by omega) (by omega) HV.symm) rfl (by simp; omega)
    · exact squares_pos x _ _ w (by omega) (by omega) (sqFacts (by omega) (by omega) HV.symm) rfl
end Go.Proofs.Ytnfijgajhjgmaaa
