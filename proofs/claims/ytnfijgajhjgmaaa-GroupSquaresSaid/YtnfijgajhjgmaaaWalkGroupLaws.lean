/- The walks of the statements GroupLaws and GroupPowers. -/
import Derived.Test.YtnfijgajhjgmaaaLaw10A
namespace Go.Proofs.Ytnfijgajhjgmaaa
open Go.RowKit Go.Shelf Jac

theorem law_mul_new (a b : Int) (T k : Nat) (w : World) (hk : k = w.heap.size) (ha : validB a = true) (hb : validB b = true) :
    Calls Try.prog 16 #[.slice (some ⟨k, 0, none⟩) 2 2] (w.alloc (.cells #[.int .i64 a, .int .i64 b] T)) fun e w' => e = .returned (.int .i64 (a * b % 2147483579)) ∧ w' = w.alloc (.cells #[.int .i64 a, .int .i64 b] T) ∧ Below w.heap.size w w' :=
  (law_mul a b k _ ha hb (by subst hk; simp [go_sem]) (by subst hk; simp [go_sem])).mono fun _ _ ⟨h, k⟩ => ⟨h, k, k ▸ (Below.refl _ _).alloc (Nat.le_refl _) _⟩

theorem nat_of_valid {a : Int} (h : validB a = true) : ∃ n : Nat, a = n := ⟨a.toNat, by have := validB_range h; omega⟩

theorem valid_mulI {a b : Int} (ha : validB a = true) (hb : validB b = true) : validB (a * b % 2147483579) = true := by
  obtain ⟨m, rfl⟩ := nat_of_valid ha
  obtain ⟨n, rfl⟩ := nat_of_valid hb
  exact valid_mul ha hb
theorem valid_powI {a : Int} (ha : validB a = true) (n : Int) : validB (powC a n) = true := by
  obtain ⟨m, rfl⟩ := nat_of_valid ha
  rw [powC_valid ha]
  exact valid_pow ha _
theorem mul_assocI (a b c : Int) : a * (b * c % 2147483579) % 2147483579 = a * b % 2147483579 * c % 2147483579 := by
  rw [Int.mul_emod a (b * c % 2147483579), Int.emod_emod, ← Int.mul_emod, Int.mul_emod (a * b % 2147483579) c, Int.emod_emod, ← Int.mul_emod, Int.mul_assoc]
theorem mul_oneI {a : Int} (ha : validB a = true) : a * 1 % 2147483579 = a := by
  have := validB_range ha
  rw [Int.mul_one, Int.emod_eq_of_lt (by omega) (by omega)]
theorem mul_invI {a : Int} (ha : validB a = true) : a * powC a (-1) % 2147483579 = 1 := by
  obtain ⟨n, rfl⟩ := nat_of_valid ha
  rw [powC_valid ha]
  obtain ⟨m, hm⟩ : ∃ m, m = (-1 % 1073741789 : Int).toNat := ⟨_, rfl⟩
  rw [← hm]
  have h := pw_pred (m := m) (by rw [Qn_eq, hm]; rfl) ha
  have e : ((n : Int) * ((pw n m : Nat) : Int)) % 2147483579 = ((n * pw n m % 2147483579 : Nat) : Int) := rfl
  rw [e, h]; rfl
theorem mul_inv2I {a b : Int} (ha : validB a = true) (hb : validB b = true) : a * b % 2147483579 * powC b (-1) % 2147483579 = a := by
  rw [← mul_assocI, mul_invI hb, mul_oneI ha]

/-- powers to sums, to products, of products -/
theorem pow_expI {a : Int} (ha : validB a = true) {m n : Int} (h : m % 1073741789 = n % 1073741789) : powC a m = powC a n := by
  obtain ⟨x, rfl⟩ := nat_of_valid ha
  rw [powC_valid ha, powC_valid ha, h]
theorem powC_nat {a : Nat} (ha : validB a = true) {m : Int} {k : Nat} (h : m % 1073741789 = (k : Int) % 1073741789) : powC a m = (pw a k : Int) := by
  rw [powC_valid ha, h]
  have e : ((k : Int) % 1073741789).toNat = k % Qn := by rw [Qn_eq]; rfl
  rw [e, pw_modQ ha]
theorem pow_addI {a : Int} (ha : validB a = true) (m n : Int) : powC a m * powC a n % 2147483579 = powC a (m + n) := by
  obtain ⟨x, rfl⟩ := nat_of_valid ha
  rw [powC_valid ha m, powC_valid ha n]
  have h := powC_nat ha (m := m + n) (k := (m % 1073741789).toNat + (n % 1073741789).toNat) (by omega)
  rw [h, pw_add]; rfl
theorem pow_powI {a : Int} (ha : validB a = true) (m n : Int) : powC (powC a m) n = powC a (m * n) := by
  obtain ⟨x, rfl⟩ := nat_of_valid ha
  have hv := valid_pow ha (m % 1073741789).toNat
  rw [powC_valid ha m, powC_valid hv n, pw_pw]
  have h := powC_nat ha (m := m * n) (k := (m % 1073741789).toNat * (n % 1073741789).toNat) (by
    rw [Int.natCast_mul, Int.toNat_of_nonneg (by omega), Int.toNat_of_nonneg (by omega), ← Int.mul_emod])
  rw [h]
theorem pow_mulI {a b : Int} (ha : validB a = true) (hb : validB b = true) (n : Int) : powC (a * b % 2147483579) n = powC a n * powC b n % 2147483579 := by
  obtain ⟨x, rfl⟩ := nat_of_valid ha
  obtain ⟨y, rfl⟩ := nat_of_valid hb
  have hv := valid_mul ha hb
  have e : ((x : Int) * (y : Int)) % 2147483579 = ((x * y % 2147483579 : Nat) : Int) := rfl
  rw [e, powC_valid hv, powC_valid ha, powC_valid hb, pw_mul]; rfl
theorem pow_zeroI {a : Int} (ha : validB a = true) : powC a 0 = 1 := by
  obtain ⟨x, rfl⟩ := nat_of_valid ha
  have h := powC_nat ha (m := 0) (k := 0) rfl
  rw [h, pw_zero]; rfl
theorem pow_oneI {a : Int} (ha : validB a = true) : powC a 1 = a := by
  obtain ⟨x, rfl⟩ := nat_of_valid ha
  have hr := validB_range ha
  have h := powC_nat ha (m := 1) (k := 1) rfl
  rw [h, pw_one (by omega)]
theorem pow_twoI {a : Int} (ha : validB a = true) : powC a 2 = a * a % 2147483579 := by
  obtain ⟨x, rfl⟩ := nat_of_valid ha
  have h := powC_nat ha (m := 2) (k := 2) rfl
  rw [h, pw_two]; rfl

set_option maxRecDepth 100000 in
set_option maxHeartbeats 2000000 in
theorem walk_GroupLaws (x y z : Int) (w : World) :
    Calls Try.prog 4 #[.int .i64 x, .int .i64 y, .int .i64 z] w fun e w' => e = .returned (.bool true) ∧ Below w.heap.size w w' := by
  obtain ⟨a, ha⟩ : ∃ a, elC (x % 1073741789 + 1) = a := ⟨_, rfl⟩
  obtain ⟨b, hb⟩ : ∃ b, elC (y % 1073741789 + 1) = b := ⟨_, rfl⟩
  obtain ⟨c, hc⟩ : ∃ c, elC (z % 1073741789 + 1) = c := ⟨_, rfl⟩
  have va : validB a = true := by rw [← ha]; exact valid_elC (by omega)
  have vb : validB b = true := by rw [← hb]; exact valid_elC (by omega)
  have vc : validB c = true := by rw [← hc]; exact valid_elC (by omega)
  obtain ⟨ab, hab⟩ : ∃ t, a * b % 2147483579 = t := ⟨_, rfl⟩
  obtain ⟨bc, hbc⟩ : ∃ t, b * c % 2147483579 = t := ⟨_, rfl⟩
  obtain ⟨ai, hai⟩ : ∃ t, powC a (-1) = t := ⟨_, rfl⟩
  obtain ⟨bi, hbi⟩ : ∃ t, powC b (-1) = t := ⟨_, rfl⟩
  obtain ⟨abc, habc⟩ : ∃ t, ab * c % 2147483579 = t := ⟨_, rfl⟩
  obtain ⟨abi, habi⟩ : ∃ t, ai * bi % 2147483579 = t := ⟨_, rfl⟩
  have vab : validB ab = true := by rw [← hab]; exact valid_mulI va vb
  have vbc : validB bc = true := by rw [← hbc]; exact valid_mulI vb vc
  have vai : validB ai = true := by rw [← hai]; exact valid_powI va _
  have vbi : validB bi = true := by rw [← hbi]; exact valid_powI vb _
  have v1 := valid_one
  have E1 := Lib.hid ha
  have E2 := Lib.hid hb
  have E3 := Lib.hid hc
  have F1 := Lib.hid hab
  have F2 : Hid (b * a % 2147483579 = ab) := by rw [← hab, Int.mul_comm]; rfl
  have F3 := Lib.hid hbc
  have F4 := Lib.hid habc
  have F5 : Hid (a * bc % 2147483579 = abc) := by rw [← habc, ← hbc, ← hab, mul_assocI]; rfl
  have F6 := Lib.hid (mul_oneI va)
  have F7 : Hid (a * ai % 2147483579 = 1) := by rw [← hai]; exact mul_invI va
  have F8 : Hid (ab * bi % 2147483579 = a) := by rw [← hab, ← hbi]; exact mul_inv2I va vb
  have F9 := Lib.hid habi
  have G1 := Lib.hid hai
  have G2 := Lib.hid hbi
  have G3 : Hid (powC ab (-1) = abi) := by rw [← habi, ← hai, ← hbi, ← hab]; exact pow_mulI va vb _
  clear ha hb hc hab hbc hai hbi habc habi
  have HB := Below.refl w.heap.size w
  go_enter Try.func4, Try.ntmps4
  go_wp2_with (first
    | (go_at_call 8; refine (sane_any _).mono ?_; rintro e w' ⟨rfl, hb⟩; replace HB := HB.trans (hb.mono HB.size); clear hb)
    | (go_at_call 15; refine (law_element _ _).mono ?_; rintro e w' ⟨rfl, rfl⟩; first | rw [E1.out] | rw [E2.out] | rw [E3.out])
    | (go_at_call 16; refine (law_mul_new _ _ _ _ _ ?_ ?_ ?_).mono ?_; (first | rfl | simp only [World.size_alloc]); assumption; assumption; rintro e w' ⟨rfl, rfl, hb⟩; replace HB := HB.trans (hb.mono HB.size); clear hb; first | rw [F1.out] | rw [F2.out] | rw [F3.out] | rw [F4.out] | rw [F5.out] | rw [F6.out] | rw [F7.out] | rw [F8.out] | rw [F9.out])
    | (go_at_call 17; refine (law_pow _ _ _ ?_).mono ?_; assumption; rintro e w' ⟨rfl, hb⟩; replace HB := HB.trans (hb.mono HB.size); clear hb; first | rw [G1.out] | rw [G2.out] | rw [G3.out])
    | (go_at_call 13; refine (valid_any _ _).mono ?_; rintro e w' ⟨rfl, rfl⟩; first | rw [va] | rw [vab]))
  go_ret
  exact ⟨rfl, HB⟩

set_option maxRecDepth 100000 in
set_option maxHeartbeats 2000000 in
theorem walk_GroupPowers (x y i k : Int) (w : World) (hi : -2147483648 ≤ i ∧ i ≤ 2147483647) (hk : -2147483648 ≤ k ∧ k ≤ 2147483647) :
    Calls Try.prog 5 #[.int .i64 x, .int .i64 y, .int .i32 i, .int .i32 k] w fun e w' => e = .returned (.bool true) ∧ Below w.heap.size w w' := by
  obtain ⟨hi1, hi2⟩ := hi
  obtain ⟨hk1, hk2⟩ := hk
  obtain ⟨a, ha⟩ : ∃ a, elC (x % 1073741789 + 1) = a := ⟨_, rfl⟩
  obtain ⟨b, hb⟩ : ∃ b, elC (y % 1073741789 + 1) = b := ⟨_, rfl⟩
  have va : validB a = true := by rw [← ha]; exact valid_elC (by omega)
  have vb : validB b = true := by rw [← hb]; exact valid_elC (by omega)
  obtain ⟨ab, hab⟩ : ∃ t, a * b % 2147483579 = t := ⟨_, rfl⟩
  obtain ⟨aa, haa⟩ : ∃ t, a * a % 2147483579 = t := ⟨_, rfl⟩
  obtain ⟨ai, hai⟩ : ∃ t, powC a i = t := ⟨_, rfl⟩
  obtain ⟨ak, hak⟩ : ∃ t, powC a k = t := ⟨_, rfl⟩
  obtain ⟨bi, hbi⟩ : ∃ t, powC b i = t := ⟨_, rfl⟩
  obtain ⟨asm, has⟩ : ∃ t, powC a (i + k) = t := ⟨_, rfl⟩
  obtain ⟨ap, hap⟩ : ∃ t, powC a (i * k) = t := ⟨_, rfl⟩
  obtain ⟨abi, habi⟩ : ∃ t, powC ab i = t := ⟨_, rfl⟩
  have vab : validB ab = true := by rw [← hab]; exact valid_mulI va vb
  have vai : validB ai = true := by rw [← hai]; exact valid_powI va _
  have vak : validB ak = true := by rw [← hak]; exact valid_powI va _
  have vbi : validB bi = true := by rw [← hbi]; exact valid_powI vb _
  have hm : i * k ≤ 4611686018427387904 ∧ -4611686018427387904 ≤ i * k := by
    have h1 : (i * k).natAbs ≤ 2147483648 * 2147483648 := by rw [Int.natAbs_mul]; exact Nat.mul_le_mul (by omega) (by omega)
    omega
  obtain ⟨hm1, hm2⟩ := hm
  have E1 := Lib.hid ha
  have E2 := Lib.hid hb
  have F1 := Lib.hid hab
  have F2 := Lib.hid haa
  have F3 : Hid (ai * ak % 2147483579 = asm) := by rw [← hai, ← hak, ← has]; exact pow_addI va _ _
  have F4 : Hid (ai * bi % 2147483579 = abi) := by rw [← hai, ← hbi, ← habi, ← hab]; exact (pow_mulI va vb _).symm
  have G0 := Lib.hid (pow_zeroI va)
  have G1 := Lib.hid (pow_oneI va)
  have G2 : Hid (powC a 2 = aa) := by rw [← haa]; exact pow_twoI va
  have G3 : Hid (powC a 1073741789 = 1) := by rw [← pow_zeroI va]; exact pow_expI va rfl
  have G4 := Lib.hid hai
  have G5 : Hid (powC a (i + 1073741789) = ai) := by rw [← hai]; exact pow_expI va (by omega)
  have G6 : Hid (powC a (i - 1073741789) = ai) := by rw [← hai]; exact pow_expI va (by omega)
  have G7 := Lib.hid hak
  have G8 := Lib.hid has
  have G9 : Hid (powC ai k = ap) := by rw [← hai, ← hap]; exact pow_powI va _ _
  have GA := Lib.hid hap
  have GB := Lib.hid habi
  have GC := Lib.hid hbi
  clear ha hb hab haa hai hak hbi has hap habi
  have HB := Below.refl w.heap.size w
  go_enter Try.func5, Try.ntmps5
  go_wp2_with (first
    | (go_at_call 8; refine (sane_any _).mono ?_; rintro e w' ⟨rfl, hb⟩; replace HB := HB.trans (hb.mono HB.size); clear hb)
    | (go_at_call 15; refine (law_element _ _).mono ?_; rintro e w' ⟨rfl, rfl⟩; first | rw [E1.out] | rw [E2.out])
    | (go_at_call 16; refine (law_mul_new _ _ _ _ _ ?_ ?_ ?_).mono ?_; (first | rfl | simp only [World.size_alloc]); assumption; assumption; rintro e w' ⟨rfl, rfl, hb⟩; replace HB := HB.trans (hb.mono HB.size); clear hb; first | rw [F1.out] | rw [F2.out] | rw [F3.out] | rw [F4.out])
    | (go_at_call 17; refine (law_pow _ _ _ ?_).mono ?_; assumption; rintro e w' ⟨rfl, hb⟩; replace HB := HB.trans (hb.mono HB.size); clear hb; first | rw [G0.out] | rw [G1.out] | rw [G2.out] | rw [G3.out] | rw [G4.out] | rw [G5.out] | rw [G6.out] | rw [G7.out] | rw [G8.out] | rw [G9.out] | rw [GA.out] | rw [GB.out] | rw [GC.out]))
  go_ret
  exact ⟨rfl, HB⟩

theorem tmodP_val (n : Int) : (if n.tmod 2147483579 < 0 then n.tmod 2147483579 + 2147483579 else n.tmod 2147483579) = n % 2147483579 := by
  rw [Int.tmod_eq_emod]
  have := Int.emod_nonneg n (b := 2147483579) (by decide)
  have := Int.emod_lt_of_pos n (b := 2147483579) (by decide)
  split <;> split <;> simp at * <;> omega

theorem valid_m4 : validB (-4) = false := validB_out (by decide)

/-- GroupSquares where x stands for 0 -/
theorem walk_squares_zero (x : Int) (w : World) (h : x % 2147483579 = 0) :
    Calls Try.prog 6 #[.int .i64 x] w fun e w' => e = .returned (.bool true) ∧ Below w.heap.size w w' := by
  have h0 : x.tmod 2147483579 = 0 := by
    have := tmodP_val x
    rw [h] at this
    split at this <;> have := Int.lt_tmod_of_pos x (b := 2147483579) (by decide) <;> omega
  have HB := Below.refl w.heap.size w
  go_enter Try.func6, Try.ntmps6
  go_wp2_with (first
    | (go_at_call 8; refine (sane_any _).mono ?_; rintro e w' ⟨rfl, hb⟩; replace HB := HB.trans (hb.mono HB.size); clear hb)
    | (go_at_call 13; refine (valid_any _ _).mono ?_; rintro e w' ⟨rfl, rfl⟩; first | rw [valid_zero] | rw [valid_P] | rw [valid_m4]))
  go_ret
  exact ⟨rfl, HB⟩

theorem sq_root {n : Int} (h : validB n = true) : powC (powC n 536870895) 2 = n := by
  rw [pow_powI h]
  rw [pow_expI h (m := 536870895 * 2) (n := 1) (by decide), pow_oneI h]

theorem valid_sqI {n : Int} (h1 : 1 ≤ n) (h2 : n < 2147483579) : validB (n * n % 2147483579) = true := by
  obtain ⟨m, rfl⟩ : ∃ m : Nat, n = m := ⟨n.toNat, by omega⟩
  exact valid_sq (by omega) (by omega)

end Go.Proofs.Ytnfijgajhjgmaaa
