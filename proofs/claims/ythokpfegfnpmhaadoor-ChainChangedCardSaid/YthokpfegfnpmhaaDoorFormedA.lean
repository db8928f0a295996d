/- The walk of codec.formed at what is no list. -/
import Derived.Test.YthokpfegfnpmhaaDoorVal
import Derived.Lib.Strings
namespace Go.Proofs.YthokpfegfnpmhaaDoor
open Go.RowKit Cdc
set_option linter.unusedVariables false
set_option linter.unusedSimpArgs false

theorem str_ne {s : ByteArray} (h : ¬ s.size = 0) : s.toList.isEmpty = false := by
  rw [Lib.toList_data]
  cases hs : s.data.toList with
  | nil =>
    exfalso
    apply h
    have : s.data.toList.length = 0 := by rw [hs]; rfl
    simpa using this
  | cons _ _ => rfl

set_option maxRecDepth 100000 in
set_option maxHeartbeats 4000000 in
theorem formed_atom (k n : Int) (s : ByteArray) (m : Nat) (A : Option Addr) (c : Nat) (w : World) (b : Bool)
    (h : (k < 1 ∧ b = false) ∨ (3 < k ∧ b = false) ∨ (k = 1 ∧ ((b = true ∧ s = ByteArray.empty ∧ m = 0) ∨ (b = false ∧ (s.toList.isEmpty = false ∨ (s = ByteArray.empty ∧ 0 < m))))) ∨
      (k = 2 ∧ ((b = true ∧ n = 0 ∧ m = 0) ∨ (b = false ∧ ((n == 0) = false ∨ (n = 0 ∧ 0 < m))))) ∨ (k = 3 ∧ b = false ∧ ((n == 0) = false ∨ (n = 0 ∧ s.toList.isEmpty = false)))) :
    Calls Tryd.prog 103 #[.agg #[.int .i64 k, .int .i64 n, .string s, .slice A m c]] w fun e w' => e = .returned (.tuple #[.int .i64 0, .bool b]) ∧ Below w.heap.size w w' := by
  have hn : (n == 0) = true ∨ (n == 0) = false := by cases (n == 0) <;> simp
  have hs : s = ByteArray.empty ∨ s.toList.isEmpty = false := by
    by_cases h : s.size = 0
    · exact .inl (byte_empty h)
    · exact .inr (str_ne h)
  have hm : m = 0 ∨ 0 < m := by omega
  rcases h with ⟨h1, rfl⟩ | ⟨h1, rfl⟩ | ⟨rfl, h⟩ | ⟨rfl, h⟩ | ⟨rfl, rfl, h⟩
  · rcases hm with rfl | hm <;> rcases hs with rfl | hs <;> rcases hn with hn | hn
    all_goals
      go_enter Tryd.func103, Tryd.ntmps103
      go_wp2
      go_ret2
      exact ⟨rfl, ((Below.refl _ _).alloc (Nat.le_refl _) _).alloc (by simp) _⟩
  · have h2 : ¬ k < 1 := by omega
    rcases hm with rfl | hm <;> rcases hs with rfl | hs <;> rcases hn with hn | hn
    all_goals
      go_enter Tryd.func103, Tryd.ntmps103
      go_wp2
      go_ret2
      exact ⟨rfl, ((Below.refl _ _).alloc (Nat.le_refl _) _).alloc (by simp) _⟩
  · rcases h with ⟨rfl, rfl, rfl⟩ | ⟨rfl, hs | ⟨rfl, hm⟩⟩
    · rcases hn with hn | hn
      all_goals
        go_enter Tryd.func103, Tryd.ntmps103
        go_wp2
        go_ret2
        exact ⟨rfl, ((Below.refl _ _).alloc (Nat.le_refl _) _).alloc (by simp) _⟩
    · rcases hm with rfl | hm <;> rcases hn with hn | hn
      all_goals
        go_enter Tryd.func103, Tryd.ntmps103
        go_wp2
        go_ret2
        exact ⟨rfl, ((Below.refl _ _).alloc (Nat.le_refl _) _).alloc (by simp) _⟩
    · have hm2 : ((m : Int) == 0) = false := by simp; omega
      rcases hn with hn | hn
      all_goals
        go_enter Tryd.func103, Tryd.ntmps103
        go_wp2
        go_ret2
        exact ⟨rfl, ((Below.refl _ _).alloc (Nat.le_refl _) _).alloc (by simp) _⟩
  · rcases h with ⟨rfl, rfl, rfl⟩ | ⟨rfl, hn | ⟨rfl, hm⟩⟩
    · rcases hs with rfl | hs
      all_goals
        go_enter Tryd.func103, Tryd.ntmps103
        go_wp2
        go_ret2
        exact ⟨rfl, ((Below.refl _ _).alloc (Nat.le_refl _) _).alloc (by simp) _⟩
    · rcases hm with rfl | hm <;> rcases hs with rfl | hs
      all_goals
        go_enter Tryd.func103, Tryd.ntmps103
        go_wp2
        go_ret2
        exact ⟨rfl, ((Below.refl _ _).alloc (Nat.le_refl _) _).alloc (by simp) _⟩
    · have hm2 : ((m : Int) == 0) = false := by simp; omega
      rcases hs with rfl | hs
      all_goals
        go_enter Tryd.func103, Tryd.ntmps103
        go_wp2
        go_ret2
        exact ⟨rfl, ((Below.refl _ _).alloc (Nat.le_refl _) _).alloc (by simp) _⟩
  · rcases h with hn | ⟨rfl, hs⟩
    · rcases hm with rfl | hm <;> rcases hs with rfl | hs
      all_goals
        go_enter Tryd.func103, Tryd.ntmps103
        go_wp2
        go_ret2
        exact ⟨rfl, ((Below.refl _ _).alloc (Nat.le_refl _) _).alloc (by simp) _⟩
    · rcases hm with rfl | hm
      all_goals
        go_enter Tryd.func103, Tryd.ntmps103
        go_wp2
        go_ret2
        exact ⟨rfl, ((Below.refl _ _).alloc (Nat.le_refl _) _).alloc (by simp) _⟩

end Go.Proofs.YthokpfegfnpmhaaDoor
