/- The statement AccuseSpec, at arguments that lie in memory. -/
import Derived.Test.YtnccbhndlnkboaaDoorWSpec41
namespace Go.Proofs.YtnccbhndlnkboaaDoor
open Go.RowKit Go.Shelf Cdc Sha
set_option linter.unusedVariables false
set_option linter.unusedSimpArgs false

theorem walk_AccuseSpec (a0 : Sl) (a1 : Ch) (a2 : List Op) (a3 : Int) (A2 : Option Addr) (c2 : Nat) (w : World) (si0 : SlI a0) (ci1 : ChI a1) (lc2 : a2.length ≤ c2) (nc2 : A2 = none → c2 = 0) (mx2 : a2.length ≤ maxLen) (os2 : OsAt w A2 a2) (oi2 : ∀ y ∈ a2, OpI y) (b3 : I64 a3) (hL : Laid w) :
    Calls Tryd.prog 7 #[.agg (slA a0), .agg (chA a1), .slice A2 a2.length c2, .int .i64 a3] w fun e w' => e = .returned (.bool true) ∧ Below w.heap.size w w' :=
  spec41_any a0 si0 a1 a2 a2.length A2 c2 a3 w rfl lc2 os2 oi2 hL
end Go.Proofs.YtnccbhndlnkboaaDoor
