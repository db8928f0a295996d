/- Values with few parts are small. -/
import Derived.Test.YtofmkmjboekodaaFew
import Derived.Test.YtofmkmjboekodaaNumeral
namespace Go.Proofs.Ytofmkmjboekodaa
open Go.RowKit Cdc
set_option linter.unusedVariables false
set_option linter.unusedSimpArgs false

mutual
/-- numbers within the bounds of int -/
def Ib : V → Prop
  | ⟨_, n, _, l⟩ => (-9223372036854775808 ≤ n ∧ n ≤ 9223372036854775807) ∧ IbL l
def IbL : List V → Prop
  | [] => True
  | x :: xs => Ib x ∧ IbL xs
end

theorem ctL_ge (l : List V) (d n : Int) : n ≤ ctL l d n := by
  induction l generalizing n with
  | nil => exact Int.le_refl _
  | cons x l ih =>
    rw [ctL]
    split
    · have := ih (n + ct x d); have := ct_pos x d; omega
    · exact Int.le_refl _

/-- what 'few parts' says of a value -/
def Few (x : V) (d m : Int) : Prop := 0 ≤ d ∧ (dp x : Int) ≤ d + 1 ∧ ((enc x).length : Int) ≤ 211 * m ∧ Sm x

theorem few_small (x : V) : ∀ d : Int, Ib x → ct x d ≤ 200 → Few x d (ct x d) := by
  refine V.ind (P := fun x => ∀ d : Int, Ib x → ct x d ≤ 200 → Few x d (ct x d)) ?_ x
  intro k n s l ih d hi hc
  simp only [Ib] at hi
  by_cases h : d < 0 ∨ 150 < l.length
  · rw [ct, if_pos h] at hc; omega
  · have he : ct ⟨k, n, s, l⟩ d = ctL l (d - 1) (1 + (s.size : Int) / 200) := by rw [ct, if_neg h]
    rw [he] at hc ⊢
    have hL : ∀ (l : List V), (∀ x ∈ l, ∀ d : Int, Ib x → ct x d ≤ 200 → Few x d (ct x d)) → IbL l → ∀ m : Int, 1 ≤ m → ctL l (d - 1) m ≤ 200 →
        SmL l ∧ ((encL l).length : Int) ≤ 211 * (ctL l (d - 1) m - m) ∧ (dpL l : Int) ≤ d := by
      intro l
      induction l with
      | nil => intro _ _ m hm hc; refine ⟨trivial, by simp [encL, ctL], by simp [dpL]; omega⟩
      | cons y l ihl =>
        intro hy hl m hm hc
        simp only [IbL] at hl
        have hge := ctL_ge (y :: l) (d - 1) m
        have hm2 : m ≤ 1000 := by omega
        rw [ctL, if_pos hm2] at hc ⊢
        have hge2 := ctL_ge l (d - 1) (m + ct y (d - 1))
        obtain ⟨f1, f2, f3, f4⟩ := hy y (by simp) (d - 1) hl.1 (by omega)
        obtain ⟨g1, g2, g3⟩ := ihl (fun x hx => hy x (by simp [hx])) hl.2 (m + ct y (d - 1)) (by have := ct_pos y (d - 1); omega) hc
        refine ⟨⟨f4, g1⟩, ?_, ?_⟩
        · simp only [encL, List.length_append]; omega
        · simp only [dpL]; omega
    obtain ⟨h1, h2, h3⟩ := hL l ih hi.2 _ (by omega) hc
    have hge := ctL_ge l (d - 1) (1 + (s.size : Int) / 200)
    refine ⟨by omega, by simp only [dp]; omega, ?_, ?_⟩
    · have e64 : (2 : Nat) ^ 64 = 18446744073709551616 := by decide
      have q1 := num_len (uz n) (uz_lt hi.1)
      have q2 := num_len s.size (by omega)
      have q3 := num_len l.length (by omega)
      have q4 : s.data.toList.length = s.size := by rw [Array.length_toList]; rfl
      rw [enc]
      split
      · simp only [List.length_cons]; omega
      · split
        · simp only [List.length_cons, List.length_append, q4]; omega
        · simp only [List.length_cons, List.length_append]; omega
    · simp only [Sm]
      exact ⟨hi.1, by omega, by omega, h1⟩

theorem few_sm (x : V) (hi : Ib x) (h : fewB x = true) : Sm x ∧ dp x ≤ 21 ∧ (enc x).length ≤ 42200 := by
  unfold fewB at h
  have hc : ct x 20 ≤ 200 := by simpa using h
  obtain ⟨h1, h2, h3, h4⟩ := few_small x 20 hi hc
  exact ⟨h4, by omega, by omega⟩
end Go.Proofs.Ytofmkmjboekodaa
