/- The contracts of the reference's Element and Number. -/
import Derived.Test.YtallnbbdacngnaaDoorRefV
namespace Go.Proofs.YtallnbbdacngnaaDoor
open Go.RowKit Go.Shelf Jac
set_option linter.unusedVariables false
set_option linter.unusedSimpArgs false

set_option maxHeartbeats 400000 in
theorem relement_any (n : Int) (w : World) :
    Calls Tryd.prog 16 #[.int .i64 n] w fun e w' => e = .returned (.tuple #[.int .i64 (elC n), .int .i64 (elE n)]) ∧ w' = w := by
  unfold elC elE
  by_cases h1 : n < 1
  · rw [if_pos (.inl h1), if_pos (.inl h1)]
    go_enter Tryd.func16, Tryd.ntmps16
    go_wp2
    go_ret2
    exact ⟨rfl, rfl⟩
  · by_cases h2 : 1073741789 < n
    · rw [if_pos (.inr h2), if_pos (.inr h2)]
      go_enter Tryd.func16, Tryd.ntmps16
      go_wp2
      go_ret2
      exact ⟨rfl, rfl⟩
    · have h3 : 1 ≤ n := by omega
      have h4 : n ≤ 1073741789 := by omega
      rw [if_neg (show ¬ (n < 1 ∨ 1073741789 < n) by omega), if_neg (show ¬ (n < 1 ∨ 1073741789 < n) by omega)]
      clear h1 h2
      by_cases h : validB n = true
      · rw [if_pos h]
        go_enter Tryd.func16, Tryd.ntmps16
        go_wp2_with (go_at_call 45; refine (rvalid_any _ _).mono ?_; rintro e w' ⟨rfl, rfl⟩; rw [h])
        go_ret2
        exact ⟨rfl, rfl⟩
      · have h' : validB n = false := by simpa using h
        rw [if_neg h]
        clear h
        go_enter Tryd.func16, Tryd.ntmps16
        go_wp2_with (go_at_call 45; refine (rvalid_any _ _).mono ?_; rintro e w' ⟨rfl, rfl⟩; rw [h'])
        go_ret2
        exact ⟨rfl, rfl⟩

set_option maxHeartbeats 400000 in
theorem rnumber_any (x : Int) (w : World) :
    Calls Tryd.prog 18 #[.int .i64 x] w fun e w' => e = .returned (.tuple #[.int .i64 (numC x), .int .i64 (numE x)]) ∧ w' = w := by
  unfold numC numE
  by_cases h : validB x = true
  · have hr := validB_range h
    rw [if_pos h, if_pos h]
    by_cases hx : x ≤ 1073741789
    · have e1 : min x (2147483579 - x) = x := by omega
      rw [e1]
      clear e1
      go_enter Tryd.func18, Tryd.ntmps18
      go_wp2_with (go_at_call 45; refine (rvalid_any _ _).mono ?_; rintro e w' ⟨rfl, rfl⟩; rw [h])
      go_ret2
      exact ⟨rfl, rfl⟩
    · have e1 : min x (2147483579 - x) = 2147483579 - x := by omega
      rw [e1]
      clear e1
      have hx' : 1073741789 < x := by omega
      clear hx
      go_enter Tryd.func18, Tryd.ntmps18
      go_wp2_with (go_at_call 45; refine (rvalid_any _ _).mono ?_; rintro e w' ⟨rfl, rfl⟩; rw [h])
      go_ret2
      exact ⟨rfl, rfl⟩
  · have h' : validB x = false := by simpa using h
    rw [if_neg h, if_neg h]
    clear h
    go_enter Tryd.func18, Tryd.ntmps18
    go_wp2_with (go_at_call 45; refine (rvalid_any _ _).mono ?_; rintro e w' ⟨rfl, rfl⟩; rw [h'])
    go_ret2
    exact ⟨rfl, rfl⟩
end Go.Proofs.YtallnbbdacngnaaDoor
