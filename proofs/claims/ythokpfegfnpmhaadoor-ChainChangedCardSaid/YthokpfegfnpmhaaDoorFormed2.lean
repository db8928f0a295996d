/- The walks of codec.formed (at every value) and codec.Check. -/
import Derived.Test.YthokpfegfnpmhaaDoorFormed
import Derived.Test.YthokpfegfnpmhaaDoorFormedA
namespace Go.Proofs.YthokpfegfnpmhaaDoor
open Go.RowKit Cdc
set_option linter.unusedVariables false
set_option linter.unusedSimpArgs false

theorem size_empty : ByteArray.empty.size = 0 := rfl

theorem ne_empty {s : ByteArray} (h : ¬ s.size = 0) : ¬ s = ByteArray.empty := fun e => h (by rw [e]; rfl)

/-- what 'formed_atom' asks, of a value -/
theorem atom_case (k n : Int) (s : ByteArray) (l : List V) (h : ¬ (k = 3 ∧ n = 0 ∧ s = ByteArray.empty)) :
    fmD ⟨k, n, s, l⟩ = 0 ∧ ((k < 1 ∧ fmOk ⟨k, n, s, l⟩ = false) ∨ (3 < k ∧ fmOk ⟨k, n, s, l⟩ = false) ∨ (k = 1 ∧ ((fmOk ⟨k, n, s, l⟩ = true ∧ s = ByteArray.empty ∧ l.length = 0) ∨ (fmOk ⟨k, n, s, l⟩ = false ∧ (s.toList.isEmpty = false ∨ (s = ByteArray.empty ∧ 0 < l.length))))) ∨
      (k = 2 ∧ ((fmOk ⟨k, n, s, l⟩ = true ∧ n = 0 ∧ l.length = 0) ∨ (fmOk ⟨k, n, s, l⟩ = false ∧ ((n == 0) = false ∨ (n = 0 ∧ 0 < l.length))))) ∨ (k = 3 ∧ fmOk ⟨k, n, s, l⟩ = false ∧ ((n == 0) = false ∨ (n = 0 ∧ s.toList.isEmpty = false)))) := by
  unfold fmD fmOk
  simp only [fm]
  have hlen : l = [] ↔ l.length = 0 := List.length_eq_zero_iff.symm
  by_cases h1 : k = 1
  · subst h1
    rw [if_pos rfl]
    by_cases c : s.size = 0
    · obtain rfl := byte_empty c
      by_cases c2 : l.length = 0
      · rw [if_pos ⟨rfl, hlen.2 c2⟩]
        exact ⟨rfl, .inr (.inr (.inl ⟨rfl, .inl ⟨rfl, rfl, c2⟩⟩))⟩
      · rw [if_neg (fun e => c2 (hlen.1 e.2))]
        exact ⟨rfl, .inr (.inr (.inl ⟨rfl, .inr ⟨rfl, .inr ⟨rfl, by omega⟩⟩⟩))⟩
    · rw [if_neg (fun e => c e.1)]
      exact ⟨rfl, .inr (.inr (.inl ⟨rfl, .inr ⟨rfl, .inl (str_ne c)⟩⟩))⟩
  · rw [if_neg h1]
    by_cases h2 : k = 2
    · subst h2
      rw [if_pos rfl]
      by_cases c : n = 0
      · by_cases c2 : l.length = 0
        · rw [if_pos ⟨c, hlen.2 c2⟩]
          exact ⟨rfl, .inr (.inr (.inr (.inl ⟨rfl, .inl ⟨rfl, c, c2⟩⟩)))⟩
        · rw [if_neg (fun e => c2 (hlen.1 e.2))]
          exact ⟨rfl, .inr (.inr (.inr (.inl ⟨rfl, .inr ⟨rfl, .inr ⟨c, by omega⟩⟩⟩)))⟩
      · rw [if_neg (fun e => c e.1)]
        exact ⟨rfl, .inr (.inr (.inr (.inl ⟨rfl, .inr ⟨rfl, .inl (by simpa using c)⟩⟩)))⟩
    · rw [if_neg h2]
      by_cases h3 : k = 3
      · subst h3
        rw [if_pos rfl]
        by_cases c : n = 0
        · have c2 : ¬ s.size = 0 := fun e => h ⟨rfl, c, byte_empty e⟩
          rw [if_neg (fun e => c2 e.2)]
          exact ⟨rfl, .inr (.inr (.inr (.inr ⟨rfl, rfl, .inr ⟨c, str_ne c2⟩⟩)))⟩
        · rw [if_neg (fun e => c e.1)]
          exact ⟨rfl, .inr (.inr (.inr (.inr ⟨rfl, rfl, .inl (by simpa using c)⟩)))⟩
      · rw [if_neg h3]
        refine ⟨rfl, ?_⟩
        by_cases h4 : k < 1
        · exact .inl ⟨h4, rfl⟩
        · exact .inr (.inl ⟨by omega, rfl⟩)

mutual
/-- sizes that the walks of the codec can bear -/
def Sm : V → Prop
  | ⟨_, n, s, l⟩ => (-9223372036854775808 ≤ n ∧ n ≤ 9223372036854775807) ∧ s.size ≤ 1000000000 ∧ l.length ≤ 1000000000 ∧ SmL l
def SmL : List V → Prop
  | [] => True
  | x :: xs => Sm x ∧ SmL xs
end
theorem SmL_mem {l : List V} (h : SmL l) : ∀ x ∈ l, Sm x := by
  induction l with
  | nil => simp
  | cons x l ih =>
    simp only [SmL] at h
    intro y hy
    rcases List.mem_cons.1 hy with rfl | hy
    · exact h.1
    · exact ih h.2 y hy

theorem formed_any (d : Nat) : ∀ (x : V) (v : Value) (w : World), RS w d x.l v → Sm x → dp x ≤ 1000000000000 →
    Calls Tryd.prog 103 #[vv x v] w (FormedPost x w) := by
  induction d with
  | zero =>
    intro x v w hv hs hd
    obtain ⟨k, n, s, l⟩ := x
    obtain ⟨hl, A, c, rfl⟩ := hv
    dsimp only at hl
    subst hl
    by_cases h : k = 3 ∧ n = 0 ∧ s = ByteArray.empty
    · obtain ⟨rfl, rfl, rfl⟩ := h
      exact formed_list [] A c w (by simp) (by simp [dpL]) (Els.nil _ _ _)
    · obtain ⟨h0, h1⟩ := atom_case k n s [] h
      refine (formed_atom k n s 0 A c w _ h1).mono fun e w' hh => ⟨?_, hh.2⟩
      rw [h0]; exact hh.1
  | succ d ih =>
    intro x v w hv hs hd
    obtain ⟨k, n, s, l⟩ := x
    dsimp only at hv
    obtain ⟨A, c, rfl⟩ := hv.form
    simp only [Sm] at hs
    simp only [dp] at hd
    by_cases h : k = 3 ∧ n = 0 ∧ s = ByteArray.empty
    · obtain ⟨rfl, rfl, rfl⟩ := h
      exact formed_list l A c w (by omega) (by omega) (Els.of_RS hv fun y hy v' W hr => ih y v' W hr (SmL_mem hs.2.2.2 y hy) (by have := dp_mem hy; omega))
    · obtain ⟨h0, h1⟩ := atom_case k n s l h
      refine (formed_atom k n s l.length A c w _ h1).mono fun e w' hh => ⟨?_, hh.2⟩
      rw [h0]; exact hh.1

/-- what Check answers -/
def ckE (x : V) : Int := match fm x with
  | none => 1
  | some a => if 16 < a then 2 else 0

set_option maxHeartbeats 400000 in
theorem check_any (d : Nat) (x : V) (v : Value) (w : World) (hv : RS w d x.l v) (hs : Sm x) (hd : dp x ≤ 1000000000000) :
    Calls Tryd.prog 72 #[vv x v] w fun e w' => e = .returned (.int .i64 (ckE x)) ∧ Below w.heap.size w w' := by
  have hc := formed_any d x v (w.alloc (.cells #[.int .i64 x.k, .int .i64 x.n, .string x.s, v] 80)) (hv.below ((Below.refl _ _).alloc (Nat.le_refl _) _)) hs hd
  obtain ⟨A, c, rfl⟩ := hv.form
  cases hf : fm x with
  | none =>
    have hc2 : Hid (Calls Tryd.prog 103 #[.agg #[.int .i64 x.k, .int .i64 x.n, .string x.s, .slice A x.l.length c]] (w.alloc (.cells #[.int .i64 x.k, .int .i64 x.n, .string x.s, .slice A x.l.length c] 80)) fun e w' => e = .returned (.tuple #[.int .i64 0, .bool false]) ∧ Below w.heap.size w w') := by
      refine hc.mono fun e w' hh => ?_
      obtain ⟨he, hb'⟩ := hh
      unfold fmD fmOk at he
      rw [hf] at he
      exact ⟨he, ((Below.refl _ _).alloc (Nat.le_refl _) _).trans (hb'.mono (by simp))⟩
    have hE : ckE x = 1 := by unfold ckE; rw [hf]
    rw [hE]
    clear hc hf hE
    go_enter Tryd.func72, Tryd.ntmps72
    go_wp2_with (go_at_call 103; refine hc2.out.mono ?_; rintro e w' ⟨rfl, hb⟩)
    go_ret
    exact ⟨rfl, ‹Below _ _ _›⟩
  | some a =>
    have hc2 : Hid (Calls Tryd.prog 103 #[.agg #[.int .i64 x.k, .int .i64 x.n, .string x.s, .slice A x.l.length c]] (w.alloc (.cells #[.int .i64 x.k, .int .i64 x.n, .string x.s, .slice A x.l.length c] 80)) fun e w' => e = .returned (.tuple #[.int .i64 a, .bool true]) ∧ Below w.heap.size w w') := by
      refine hc.mono fun e w' hh => ?_
      obtain ⟨he, hb'⟩ := hh
      unfold fmD fmOk at he
      rw [hf] at he
      exact ⟨he, ((Below.refl _ _).alloc (Nat.le_refl _) _).trans (hb'.mono (by simp))⟩
    by_cases h16 : 16 < a
    · have hE : ckE x = 2 := by unfold ckE; rw [hf]; simp [h16]
      rw [hE]
      clear hc hf hE
      go_enter Tryd.func72, Tryd.ntmps72
      go_wp2_with (go_at_call 103; refine hc2.out.mono ?_; rintro e w' ⟨rfl, hb⟩)
      go_ret
      exact ⟨rfl, ‹Below _ _ _›⟩
    · have hE : ckE x = 0 := by unfold ckE; rw [hf]; simp [h16]
      have h16' : a ≤ 16 := by omega
      rw [hE]
      clear hc hf hE h16
      go_enter Tryd.func72, Tryd.ntmps72
      go_wp2_with (go_at_call 103; refine hc2.out.mono ?_; rintro e w' ⟨rfl, hb⟩)
      go_ret
      exact ⟨rfl, ‹Below _ _ _›⟩
end Go.Proofs.YthokpfegfnpmhaaDoor
