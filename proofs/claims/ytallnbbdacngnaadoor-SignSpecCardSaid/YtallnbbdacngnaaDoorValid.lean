/- The walk of group.Valid: it reckons Gauss's count of x modulo the prime, by reciprocity. -/
import Derived.Test.YtallnbbdacngnaaDoorRows
import Derived.Test.YtallnbbdacngnaaDoorJac
import Derived.WalkKit
import Derived.WalkSpells
import Derived.WalkLawsBesides
import Derived.Deep.LoopGhost
import Derived.Lib.Hide
namespace Go.Proofs.YtallnbbdacngnaaDoor
open Go.RowKit Jac
set_option linter.unusedVariables false
set_option linter.unusedSimpArgs false

/-- y over m, with the sign b, has a count as even as x -/
def GoodV (x y m : Nat) (b : Bool) : Prop := Nat.Coprime y m ∧ m % 2 = 1 ∧ (mu y m + (if b then 0 else 1)) % 2 = x % 2

theorem par_two {y n : Nat} (hodd : n % 2 = 1) (hc : Nat.Coprime (2 * y) n) : mu (2 * y) n % 2 = (mu y n + if n % 8 = 3 ∨ n % 8 = 5 then 1 else 0) % 2 := by
  have h2 : Nat.Coprime 2 n := Nat.Coprime.coprime_mul_right hc
  have hy : Nat.Coprime y n := Nat.Coprime.coprime_mul_left hc
  rw [mu_mul hodd h2 hy]
  have := mu_two_parity hodd
  omega

theorem good_flip {x y m : Nat} {b : Bool} (h : GoodV x (2 * y) m b) (h8 : m % 8 = 3 ∨ m % 8 = 5) : GoodV x y m (!b) := by
  obtain ⟨hc, ho, hb⟩ := h
  refine ⟨Nat.Coprime.coprime_mul_left hc, ho, ?_⟩
  have := par_two ho hc
  rw [if_pos h8] at this
  rw [← hb]
  cases b <;> simp <;> omega

theorem good_keep {x y m : Nat} {b : Bool} (h : GoodV x (2 * y) m b) (h8 : ¬ (m % 8 = 3 ∨ m % 8 = 5)) : GoodV x y m b := by
  obtain ⟨hc, ho, hb⟩ := h
  refine ⟨Nat.Coprime.coprime_mul_left hc, ho, ?_⟩
  have := par_two ho hc
  rw [if_neg h8] at this
  rw [← hb]
  omega

theorem good_swap {x y m : Nat} {b : Bool} (h : GoodV x y m b) (hy : y % 2 = 1) (h4 : y % 4 = 3 ∧ m % 4 = 3) : GoodV x (m % y) y (!b) := by
  obtain ⟨hc, ho, hb⟩ := h
  refine ⟨?_, hy, ?_⟩
  · rw [Nat.coprime_iff_gcd_eq_one, ← Nat.gcd_rec]; exact hc
  · have := reciprocity' hy ho hc
    rw [if_pos h4] at this
    rw [mu_mod, ← hb]
    cases b <;> simp <;> omega

theorem good_swap' {x y m : Nat} {b : Bool} (h : GoodV x y m b) (hy : y % 2 = 1) (h4 : ¬ (y % 4 = 3 ∧ m % 4 = 3)) : GoodV x (m % y) y b := by
  obtain ⟨hc, ho, hb⟩ := h
  refine ⟨?_, hy, ?_⟩
  · rw [Nat.coprime_iff_gcd_eq_one, ← Nat.gcd_rec]; exact hc
  · have := reciprocity' hy ho hc
    rw [if_neg h4] at this
    rw [mu_mod, ← hb]
    cases b <;> simp <;> omega

theorem good_pos {x y m : Nat} {b : Bool} (h : GoodV x (m % y) y b) (hy : 1 < y) : 1 ≤ m % y := by
  obtain ⟨hc, _, _⟩ := h
  rcases Nat.eq_zero_or_pos (m % y) with e | e
  · rw [e, Nat.coprime_iff_gcd_eq_one, Nat.gcd_zero_left] at hc; omega
  · exact e

theorem good_end {x m : Nat} {b : Bool} (h : GoodV x 1 m b) : b = decide (x % 2 = 0) := by
  obtain ⟨_, _, hb⟩ := h
  rw [mu_one] at hb
  cases b <;> simp_all <;> omega

theorem odd_of {y : Nat} (h : ¬ y % 2 = 0) : y % 2 = 1 := by omega

theorem good_start {x n m : Nat} (h : n = m) (hc : Nat.Coprime x n) (hn : n % 2 = 1) : GoodV (mu x n) x m true := by
  subst h; exact ⟨hc, hn, by simp only [if_true, Nat.add_zero]⟩

set_option maxHeartbeats 1000000 in
theorem valid_in (x n : Nat) (w : World) (hn : n = 2147483579) (h1 : 1 ≤ x) (h2 : x < 2147483579) (hc : Nat.Coprime x n) :
    Calls Tryd.prog 39 #[.int .i64 x] w fun e w' => e = .returned (.bool (decide (mu x n % 2 = 0))) ∧ w' = w := by
  have G0 := Lib.hid (good_start hn hc (by omega))
  clear hn
  obtain ⟨c, hcc⟩ : ∃ c, mu x n = c := ⟨_, rfl⟩
  rw [hcc] at G0 ⊢
  clear hcc
  clear hc
  go_enter Tryd.func39, Tryd.ntmps39
  go_wp2
  go_step3
  go_wp2
  go_step3
  go_wp2
  go_loop [0, 3, 4] (fun a n s => ∃ (y m : Nat) (b : Bool), a = .int .i64 y ∧ n = .int .i64 m ∧ s = .bool b ∧ 1 ≤ y ∧ y < 2147483579 ∧ m ≤ 2147483579 ∧ Hid (GoodV c y m b)) (fun a _ _ => (intOf a).toNat)
  case atStart => exact ⟨x, 2147483579, true, rfl, rfl, rfl, h1, h2, Nat.le_refl _, G0⟩
  case round =>
    obtain ⟨y, m, b, rfl, rfl, rfl, hy1, hy2, hm, hG⟩ := hrel
    by_cases hy : 1 < y
    · go_wp2
      go_loop [0, 4] (fun a s => ∃ (z : Nat) (d : Bool), a = .int .i64 z ∧ s = .bool d ∧ 1 ≤ z ∧ z ≤ y ∧ Hid (GoodV c z m d)) (fun a _ => (intOf a).toNat)
      case atStart => exact ⟨y, b, rfl, rfl, hy1, Nat.le_refl _, hG⟩
      case round =>
        obtain ⟨z, d, rfl, rfl, hz1, hzy, hGz⟩ := hrel
        by_cases hev : z % 2 = 0
        · obtain ⟨k, hk⟩ : ∃ k, k = z / 2 := ⟨_, rfl⟩
          have hzk : z = 2 * k := by omega
          subst hzk
          clear hk hev
          have t1 : ((2 * k : Nat) : Int) % 2 = 0 := by omega
          have t2 : ((2 * k : Nat) : Int) / 2 = (k : Int) := by omega
          by_cases h8 : m % 8 = 3 ∨ m % 8 = 5
          · have hG2 := Lib.hid (good_flip hGz.out h8)
            rcases h8 with h83 | h85
            · have t3 : ((m : Int) % 8 == 3) = true := by simp; omega
              go_wp2
              go_round
              case rel => exact ⟨k, !d, rfl, rfl, by omega, by omega, hG2⟩
              case measure => simp [intOf]; omega
            · have t3 : ((m : Int) % 8 == 3) = false := by simp; omega
              have t4 : ((m : Int) % 8 == 5) = true := by simp; omega
              go_wp2
              go_round
              case rel => exact ⟨k, !d, rfl, rfl, by omega, by omega, hG2⟩
              case measure => simp [intOf]; omega
          · have hG2 := Lib.hid (good_keep hGz.out h8)
            have t3 : ((m : Int) % 8 == 3) = false := by simp; omega
            have t4 : ((m : Int) % 8 == 5) = false := by simp; omega
            go_wp2
            go_round
            case rel => exact ⟨k, d, rfl, rfl, by omega, by omega, hG2⟩
            case measure => simp [intOf]; omega
        · have hodd : z % 2 = 1 := by omega
          have t1 : ((z : Int) % 2 == 0) = false := by simp; omega
          by_cases hz : z = 1
          · subst hz
            have he := Lib.hid (good_end hGz.out)
            go_wp2
            go_ret
            exact ⟨congrArg (fun b => Ending.returned (.bool b)) he.out, rfl⟩
          · by_cases h4 : z % 4 = 3 ∧ m % 4 = 3
            · have hG2 := Lib.hid (good_swap hGz.out hodd h4)
              have hp := good_pos hG2.out (by omega)
              have hlt : m % z < z := Nat.mod_lt _ (by omega)
              have t3 : ((z : Int) % 4 == 3) = true := by simp; omega
              have t4 : ((m : Int) % 4 == 3) = true := by simp; omega
              have t5 : ((z : Int) == 1) = false := by simp; omega
              have t6 : (z : Int) ≠ 0 := by omega
              clear h4
              go_wp2
              go_round
              case rel => exact ⟨m % z, z, !d, rfl, rfl, rfl, hp, by omega, by omega, hG2⟩
              case measure => simp [intOf]; omega
            · have hG2 := Lib.hid (good_swap' hGz.out hodd h4)
              have hp := good_pos hG2.out (by omega)
              have hlt : m % z < z := Nat.mod_lt _ (by omega)
              have t5 : ((z : Int) == 1) = false := by simp; omega
              have t6 : (z : Int) ≠ 0 := by omega
              by_cases h41 : z % 4 = 3
              · have t3 : ((z : Int) % 4 == 3) = true := by simp; omega
                have t4 : ((m : Int) % 4 == 3) = false := by simp; omega
                clear h4
                go_wp2
                go_round
                case rel => exact ⟨m % z, z, d, rfl, rfl, rfl, hp, by omega, by omega, hG2⟩
                case measure => simp [intOf]; omega
              · have t3 : ((z : Int) % 4 == 3) = false := by simp; omega
                clear h4
                go_wp2
                go_round
                case rel => exact ⟨m % z, z, d, rfl, rfl, rfl, hp, by omega, by omega, hG2⟩
                case measure => simp [intOf]; omega
    · obtain rfl : y = 1 := by omega
      have he := Lib.hid (good_end hG.out)
      go_wp2
      go_ret
      exact ⟨congrArg (fun b => Ending.returned (.bool b)) he.out, rfl⟩
end Go.Proofs.YtallnbbdacngnaaDoor
