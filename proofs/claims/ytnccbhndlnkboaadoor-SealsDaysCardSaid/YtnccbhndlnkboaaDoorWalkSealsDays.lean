/- The statement SealsDays, at arguments that lie in memory. -/
import Derived.Test.YtnccbhndlnkboaaDoorSDaysZ
import Derived.Test.YtnccbhndlnkboaaDoorOpenSl
namespace Go.Proofs.YtnccbhndlnkboaaDoor
open Go.RowKit Go.Shelf Cdc Sha
set_option linter.unusedVariables false
set_option linter.unusedSimpArgs false

theorem walk_SealsDays (a0 : Sl) (a1 : Op) (P1 : Option Addr) (cp1 : Nat) (w : World) (si0 : SlI a0) (lc1 : a1.path.length ≤ cp1) (ds1 : DsAt w P1 a1.path) (oi1 : OpI a1) (hL : Laid w) :
    Calls Tryd.prog 6 #[.agg (slA a0), .agg (opA a1 P1 cp1)] w fun e w' => e = .returned (.bool true) ∧ Below w.heap.size w w' := by
  obtain ⟨d, n, b, p⟩ := a1
  by_cases h1 : 100 < p.length
  · exact sdays_big a0 si0 d n b p p.length cp1 P1 oi1 rfl lc1 w ds1 hL h1
  · by_cases h2 : chkS a0 ⟨d, n, b, p⟩ = true
    · by_cases h3 : p.length = 0
      · exact sdays_zero a0 si0 d n b p p.length cp1 P1 oi1 rfl lc1 w ds1 hL h3 h2
      · exact sdays_pos a0 si0 d n b p p.length cp1 P1 oi1 rfl lc1 w ds1 hL (by omega) h2
    · exact sdays_no a0 si0 d n b p p.length cp1 P1 oi1 rfl lc1 w ds1 hL (by omega) (by simpa using h2)
end Go.Proofs.YtnccbhndlnkboaaDoor
