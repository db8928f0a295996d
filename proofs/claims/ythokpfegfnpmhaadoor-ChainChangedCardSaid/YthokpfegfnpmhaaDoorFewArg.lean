/- What is known of a list of links that is an argument. -/
import Derived.Test.YthokpfegfnpmhaaDoorChainFew
namespace Go.Proofs.YthokpfegfnpmhaaDoor
open Go.RowKit Cdc Sha
set_option linter.unusedVariables false
set_option linter.unusedSimpArgs false

/-- what is known of an argument: its links' numbers and digests -/
def ArgL (l : List Lk) : Prop := ∀ x ∈ l, I64 x.node ∧ I64 x.no ∧ x.prev.length = 32
theorem ArgL.p32 {l : List Lk} (h : ArgL l) : ∀ x ∈ l, x.prev.length = 32 := fun x hx => (h x hx).2.2
theorem few_len {l : List Lk} (h : fewC l = true) : l.length ≤ 16 := by
  unfold fewC at h
  simp at h
  exact h.1
theorem ArgL.ok {l : List Lk} (h : ArgL l) (hf : fewC l = true) : ∀ x ∈ l, LkOk x := fun x hx => by
  obtain ⟨h1, h2, h3⟩ := h x hx
  unfold fewC at hf
  simp at hf
  have := hf.2 x hx
  unfold smallC at this
  simp at this
  exact ⟨h1, h2, h3, by omega⟩
end Go.Proofs.YthokpfegfnpmhaaDoor
