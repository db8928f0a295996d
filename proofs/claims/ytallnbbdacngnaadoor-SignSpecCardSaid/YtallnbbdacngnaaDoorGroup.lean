/- The contracts of package group (but Hash), and of its reference. -/
import Derived.Test.YtallnbbdacngnaaDoorPow
namespace Go.Proofs.YtallnbbdacngnaaDoor
open Go.RowKit Go.Shelf Jac
set_option linter.unusedVariables false
set_option linter.unusedSimpArgs false

theorem tmod_val (n : Int) : (if n.tmod 1073741789 < 0 then n.tmod 1073741789 + 1073741789 else n.tmod 1073741789) = n % 1073741789 := by
  rw [Int.tmod_eq_emod]
  have := Int.emod_nonneg n (b := 1073741789) (by decide)
  have := Int.emod_lt_of_pos n (b := 1073741789) (by decide)
  split <;> split <;> simp at * <;> omega

noncomputable def powC (a n : Int) : Int := if validB a then (pw a.toNat (n % 1073741789).toNat : Int) else 0
noncomputable def powE (a : Int) : Int := if validB a then 0 else 100
noncomputable def mulC (a b : Int) : Int := if validB a && validB b then a * b % 2147483579 else 0
noncomputable def mulE (a b : Int) : Int := if validB a && validB b then 0 else 100
noncomputable def elC (n : Int) : Int := if n < 1 ∨ 1073741789 < n then 0 else if validB n then n else 2147483579 - n
noncomputable def elE (n : Int) : Int := if n < 1 ∨ 1073741789 < n then 1 else 0
noncomputable def numC (x : Int) : Int := if validB x then min x (2147483579 - x) else 0
noncomputable def numE (x : Int) : Int := if validB x then 0 else 100

set_option maxHeartbeats 400000 in
theorem pow_out (a n : Int) (w : World) (ha : validB a = false) :
    Calls Tryd.prog 38 #[.int .i64 a, .int .i64 n] w fun e w' => e = .returned (.tuple #[.int .i64 0, .int .i64 100]) ∧ Below w.heap.size w w' := by
  go_enter Tryd.func38, Tryd.ntmps38
  go_wp2_with (go_at_call 39; refine (valid_any _ _).mono ?_; rintro e w' ⟨rfl, rfl⟩; rw [ha])
  exact bodyPost_ret (v := .tuple #[.int .i64 0, .int .i64 100]) (by simp [results, Tryd.results38, go_sem]) rfl ⟨rfl, (((Below.refl _ _).alloc (Nat.le_refl _) _))⟩

theorem pow_any (a n : Int) (w : World) :
    Calls Tryd.prog 38 #[.int .i64 a, .int .i64 n] w fun e w' => e = .returned (.tuple #[.int .i64 (powC a n), .int .i64 (powE a)]) ∧ Below w.heap.size w w' := by
  unfold powC powE
  by_cases h : validB a = true
  · obtain ⟨m, rfl⟩ : ∃ m : Nat, a = m := ⟨a.toNat, by have := validB_range h; omega⟩
    rw [if_pos h, if_pos h, Int.toNat_natCast]
    exact pow_in m n w h
  · rw [if_neg h, if_neg h]
    exact pow_out a n w (by simpa using h)

theorem mul_bd {a b : Int} (ha : validB a = true) (hb : validB b = true) : 0 ≤ a * b ∧ a * b ≤ 4611686018427387904 := by
  have h1 := validB_range ha
  have h2 := validB_range hb
  refine ⟨Int.mul_nonneg (by omega) (by omega), ?_⟩
  have : a * b ≤ 2147483579 * 2147483579 := Int.mul_le_mul (by omega) (by omega) (by omega) (by omega)
  omega

set_option maxHeartbeats 400000 in
theorem mul_any (a b : Int) (w : World) :
    Calls Tryd.prog 44 #[.int .i64 a, .int .i64 b] w fun e w' => e = .returned (.tuple #[.int .i64 (mulC a b), .int .i64 (mulE a b)]) ∧ w' = w := by
  unfold mulC mulE
  by_cases ha : validB a = true
  · by_cases hb : validB b = true
    · have hbd := mul_bd ha hb
      rw [ha, hb, Bool.true_and, if_pos rfl, if_pos rfl]
      go_enter Tryd.func44, Tryd.ntmps44
      go_wp2_with (go_at_call 39; refine (valid_any _ _).mono ?_; rintro e w' ⟨rfl, rfl⟩; first | rw [ha] | rw [hb])
      go_ret2
      exact ⟨rfl, rfl⟩
    · have hb' : validB b = false := by simpa using hb
      clear hb
      rw [ha, hb', Bool.true_and, if_neg (by decide), if_neg (by decide)]
      go_enter Tryd.func44, Tryd.ntmps44
      go_wp2_with (go_at_call 39; refine (valid_any _ _).mono ?_; rintro e w' ⟨rfl, rfl⟩; first | rw [ha] | rw [hb'])
      go_ret2
      exact ⟨rfl, rfl⟩
  · have ha' : validB a = false := by simpa using ha
    clear ha
    rw [ha', Bool.false_and, if_neg (by decide), if_neg (by decide)]
    go_enter Tryd.func44, Tryd.ntmps44
    go_wp2_with (go_at_call 39; refine (valid_any _ _).mono ?_; rintro e w' ⟨rfl, rfl⟩; rw [ha'])
    go_ret2
    exact ⟨rfl, rfl⟩

set_option maxHeartbeats 400000 in
theorem element_any (n : Int) (w : World) :
    Calls Tryd.prog 15 #[.int .i64 n] w fun e w' => e = .returned (.tuple #[.int .i64 (elC n), .int .i64 (elE n)]) ∧ w' = w := by
  unfold elC elE
  by_cases h1 : n < 1
  · rw [if_pos (.inl h1), if_pos (.inl h1)]
    go_enter Tryd.func15, Tryd.ntmps15
    go_wp2
    go_ret2
    exact ⟨rfl, rfl⟩
  · by_cases h2 : 1073741789 < n
    · rw [if_pos (.inr h2), if_pos (.inr h2)]
      go_enter Tryd.func15, Tryd.ntmps15
      go_wp2
      go_ret2
      exact ⟨rfl, rfl⟩
    · have h3 : 1 ≤ n := by omega
      have h4 : n ≤ 1073741789 := by omega
      rw [if_neg (show ¬ (n < 1 ∨ 1073741789 < n) by omega), if_neg (show ¬ (n < 1 ∨ 1073741789 < n) by omega)]
      clear h1 h2
      by_cases h : validB n = true
      · rw [if_pos h]
        go_enter Tryd.func15, Tryd.ntmps15
        go_wp2_with (go_at_call 39; refine (valid_any _ _).mono ?_; rintro e w' ⟨rfl, rfl⟩; rw [h])
        go_ret2
        exact ⟨rfl, rfl⟩
      · have h' : validB n = false := by simpa using h
        rw [if_neg h]
        clear h
        go_enter Tryd.func15, Tryd.ntmps15
        go_wp2_with (go_at_call 39; refine (valid_any _ _).mono ?_; rintro e w' ⟨rfl, rfl⟩; rw [h'])
        go_ret2
        exact ⟨rfl, rfl⟩

set_option maxHeartbeats 400000 in
theorem number_any (x : Int) (w : World) :
    Calls Tryd.prog 17 #[.int .i64 x] w fun e w' => e = .returned (.tuple #[.int .i64 (numC x), .int .i64 (numE x)]) ∧ w' = w := by
  unfold numC numE
  by_cases h : validB x = true
  · have hr := validB_range h
    rw [if_pos h, if_pos h]
    go_enter Tryd.func17, Tryd.ntmps17
    go_wp2_with (go_at_call 39; refine (valid_any _ _).mono ?_; rintro e w' ⟨rfl, rfl⟩; rw [h])
    go_ret2
    exact ⟨rfl, rfl⟩
  · have h' : validB x = false := by simpa using h
    rw [if_neg h, if_neg h]
    clear h
    go_enter Tryd.func17, Tryd.ntmps17
    go_wp2_with (go_at_call 39; refine (valid_any _ _).mono ?_; rintro e w' ⟨rfl, rfl⟩; rw [h'])
    go_ret2
    exact ⟨rfl, rfl⟩

end Go.Proofs.YtallnbbdacngnaaDoor
