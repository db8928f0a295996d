/- Rows of bytes as strings and as what Decode reads. -/
import Derived.Test.YtofmkmjboekodaaDecode2
import Derived.Test.YtofmkmjboekodaaRefEncode
import Derived.Test.YtofmkmjboekodaaMake
namespace Go.Proofs.Ytofmkmjboekodaa
open Go.RowKit Cdc
set_option linter.unusedVariables false
set_option linter.unusedSimpArgs false

/-- a row of the call's own, as bytes that lie somewhere -/
theorem Own.rb {w : World} {v : Value} {xs : List UInt8} (h : Own w v xs) (r : Nat) (hr : w.heap.size ≤ r) : ∃ A c, v = .slice A xs.length c ∧ xs.length ≤ c ∧ RB w w.heap.size r A xs := by
  have hc := fun g hg => World.ownsRow.cells h (g := g) hg
  rcases h.2 with ⟨rfl, h0⟩ | ⟨g, cap, cur, rfl, _, hh, hcap, _⟩
  · have : xs = [] := List.length_eq_zero_iff.1 h0
    subst this
    exact ⟨none, 0, rfl, Nat.le_refl _, fun j b hb => by simp at hb⟩
  · have hg := (Array.getElem?_eq_some_iff.1 hh).1
    refine ⟨some ⟨g, 0, none⟩, cap, rfl, hcap, fun j b hb => ⟨⟨g, 0, none⟩, rfl, hg, ?_, ?_⟩⟩
    · show g ≠ r
      omega
    · exact hc g rfl j (bv b) (by rw [List.getElem?_map, hb]; rfl)

/-- string(v) -/
theorem Own.conv {w : World} {v : Value} {xs : List UInt8} (h : Own w v xs) : (convert 27 9 v).run Try.prog w = .ok (.string ⟨xs.toArray⟩) w := by
  obtain ⟨A, c, rfl, _, hrb⟩ := h.rb w.heap.size (Nat.le_refl _)
  exact hrb.conv _ _ rfl

theorem decode_own (xs : List UInt8) (v : Value) (w : World) (hl : xs.length ≤ 10000000) (h : Own w v xs) : Calls Try.prog 18 #[v] w (DecPost w xs) := by
  obtain ⟨A, c, rfl, hc, hrb⟩ := h.rb (w.heap.size + 1 + 1) (by omega)
  exact decode_any xs A c w hl hc hrb

/-- what an encoding is decoded as -/
theorem dcV_enc (x : V) (a : Nat) (hf : fits x) (h : fm x = some a) (ha : a ≤ 16) : dcV (enc x) = some x := by
  have := pV_enc x 16 a [] hf h ha
  rw [List.append_nil] at this
  unfold dcV
  rw [this]
end Go.Proofs.Ytofmkmjboekodaa
