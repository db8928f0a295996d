/- The statement SealsSpec, at arguments that lie in memory. -/
import Derived.Test.YtnccbhndlnkboaaDoorWSealsSpec
namespace Go.Proofs.YtnccbhndlnkboaaDoor
open Go.RowKit Go.Shelf Cdc Sha
set_option linter.unusedVariables false
set_option linter.unusedSimpArgs false

theorem walk_SealsSpec (a0 a1 : Int) (a2 : List Bool) (a3 : List Int) (a4 : Int) (A2 : Option Addr) (c2 : Nat) (A3 : Option Addr) (c3 : Nat) (w : World) (b0 : I64 a0) (b1 : I64 a1) (lc2 : a2.length ≤ c2) (mx2 : a2.length ≤ maxLen) (bo2 : BoAt w A2 a2) (lc3 : a3.length ≤ c3) (mx3 : a3.length ≤ maxLen) (in3 : InAt w A3 a3) (ii3 : ∀ y ∈ a3, I64 y) (b4 : I64 a4) (hL : Laid w) :
    Calls Tryd.prog 4 #[.int .i64 a0, .int .i64 a1, .slice A2 a2.length c2, .slice A3 a3.length c3, .int .i64 a4] w fun e w' => e = .returned (.bool true) ∧ Below w.heap.size w w' :=
  sspec_any a0 a1 a2 a3 a4 a2.length a3.length c2 c3 A2 A3 rfl rfl lc2 lc3 mx2 mx3 b0 b4 ii3 w bo2 in3 hL
end Go.Proofs.YtnccbhndlnkboaaDoor
