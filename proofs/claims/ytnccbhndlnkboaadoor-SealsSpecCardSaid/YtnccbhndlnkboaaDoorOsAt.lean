/- Openings that lie in a slice. -/
import Derived.Test.YtnccbhndlnkboaaDoorSealM
namespace Go.Proofs.YtnccbhndlnkboaaDoor
open Go.RowKit Go.Shelf Cdc Sha
set_option linter.unusedVariables false
set_option linter.unusedSimpArgs false

/-- a list of openings lies at a slice, their paths somewhere -/
def OsAt (w : World) (A : Option Addr) (l : List Op) : Prop := ∀ i y, l[i]? = some y → ∃ b o P cp, A = some ⟨b, o, none⟩ ∧ b < w.heap.size ∧ (w.cell? ⟨b, o + i * 4 + 0, none⟩ = some (.int .i64 y.day) ∧ w.cell? ⟨b, o + i * 4 + 1, none⟩ = some (.int .i64 y.salt) ∧ w.cell? ⟨b, o + i * 4 + 2, none⟩ = some (.bool y.bl) ∧ w.cell? ⟨b, o + i * 4 + 3, none⟩ = some (.slice P y.path.length cp)) ∧ y.path.length ≤ cp ∧ DsAt w P y.path
theorem cell_belowB {w w' : World} {b o : Nat} {v : Value} (h : w.cell? ⟨b, o, none⟩ = some v) (hlt : b < w.heap.size) (hb : Below w.heap.size w w') : w'.cell? ⟨b, o, none⟩ = some v :=
  (World.cell?_of_block (w := w) (a := ⟨b, o, none⟩) (hb.block b hlt)).trans h
theorem OsAt.below {w w' : World} {A : Option Addr} {l : List Op} (h : OsAt w A l) (hb : Below w.heap.size w w') : OsAt w' A l := fun i y hy => by
  obtain ⟨b, o, P, cp, hA, hlt, ⟨h0, h1, h2, h3⟩, hc, hd⟩ := h i y hy
  exact ⟨b, o, P, cp, hA, Nat.lt_of_lt_of_le hlt hb.size, ⟨cell_belowB h0 hlt hb, cell_belowB h1 hlt hb, cell_belowB h2 hlt hb, cell_belowB h3 hlt hb⟩, hc, hd.below hb⟩
theorem os_nil (w : World) (A : Option Addr) : OsAt w A [] := fun i y hy => by simp at hy
/-- a charge -/
structure Ch where
  no : Int
  team : Int
  day : Int
  due : Int
  bl : Bool
structure ChI (c : Ch) : Prop where
  no : I64 c.no
  team : I64 c.team
  day : I64 c.day
  due : I64 c.due
def chA (c : Ch) : Array Value := #[.int .i64 c.no, .int .i64 c.team, .int .i64 c.day, .int .i64 c.due, .bool c.bl]
end Go.Proofs.YtnccbhndlnkboaaDoor
