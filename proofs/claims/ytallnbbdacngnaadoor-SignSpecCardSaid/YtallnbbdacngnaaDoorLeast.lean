/- The walks of group.least (at one number), group.squares, and of the iterator that it hands back. -/
import Derived.Test.YtallnbbdacngnaaDoorRows
import Derived.Test.YtallnbbdacngnaaDoorRange
import Derived.WalkKit
import Derived.WalkSpells
import Derived.WalkLawsBesides
import Derived.OwnWalkIn
import Derived.TacticsInMore
import Derived.LoopNIn
import Derived.LoopIn
import Derived.Shelf.Abstract
import Derived.Shelf.RegionOpen
import Derived.Lib.Hide
namespace Go.Proofs.YtallnbbdacngnaaDoor
open Go.RowKit Go.Shelf
set_option linter.unusedVariables false
set_option linter.unusedSimpArgs false
attribute [local go_sem] Oper.semAt_some

theorem least_val (x : Int) : (x.tmod 1073741789 + 1073741789) % 1073741789 = x % 1073741789 := by
  rw [Int.add_emod_right, Int.tmod_eq_emod]
  split
  · simp
  · rw [Int.sub_emod]; simp

set_option maxHeartbeats 1000000 in
theorem least_one (x : Int) (b : Nat) (w : World) (hc : w.cell? ⟨b, 0, none⟩ = some (.int .i64 x)) :
    Calls Tryd.prog 73 #[.slice (some ⟨b, 0, none⟩) 1 1] w fun e w' => e = .returned (.int .i64 (x % 1073741789)) ∧ w' = w := by
  have b1 : -1073741789 < x.tmod 1073741789 := Int.lt_tmod_of_pos _ (by decide)
  have b2 : x.tmod 1073741789 < 1073741789 := Int.tmod_lt_of_pos _ (by decide)
  have HV := Lib.hid (least_val x)
  go_enter Tryd.func73, Tryd.ntmps73
  go_wp2
  go_loop [3, 8] (fun r i => (i = .int .i64 0 ∧ r = .int .i64 1) ∨ (i = .int .i64 1 ∧ r = .int .i64 (x % 1073741789))) (fun _ i => 1 - (intOf i).toNat)
  case atStart => exact .inl ⟨rfl, rfl⟩
  case round =>
    rcases hrel with ⟨rfl, rfl⟩ | ⟨rfl, rfl⟩
    · go_wp2
      go_round
      case rel => exact .inr ⟨rfl, by rw [HV.out]⟩
      case measure => simp [intOf]
    · go_wp2
      go_ret
      exact ⟨rfl, rfl⟩

/-- the iterator's variables: the number in block b + 1, the exponent in block b -/
theorem squares_any (a n : Int) (w : World) :
    Calls Tryd.prog 72 #[.int .i64 a, .int .i64 n] w fun e w' =>
      e = .returned (.func (.func 89) #[] #[.pointer (some ⟨w.heap.size + 1, 0, none⟩), .pointer (some ⟨w.heap.size, 0, none⟩)]) ∧
      w' = (w.alloc (.cells #[.int .i64 a] 3)).alloc (.cells #[.int .i64 n] 3) := by
  go_enter Tryd.func72, Tryd.ntmps72
  go_wp2
  go_ret
  exact ⟨rfl, rfl⟩
end Go.Proofs.YtallnbbdacngnaaDoor
