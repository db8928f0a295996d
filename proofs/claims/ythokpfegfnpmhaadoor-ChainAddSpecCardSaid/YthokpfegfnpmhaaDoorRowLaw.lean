/- Storing a whole row (an array, a struct) into a block of the call's own. -/
import Derived.Laws.Rows
import Derived.Laws.Tables
import Derived.Laws.CopyOwn
import Derived.Below
import Derived.Great.BuildSlice
namespace Go.Proofs.YthokpfegfnpmhaaDoor
open Go Go.RowKit
set_option linter.unusedVariables false
set_option linter.unusedSimpArgs false
variable {P : Program}

/-- a row is stored into the block that has just been made -/
theorem wpList_new_row {ops : Array Oper} {rest : List Oper} {o : Oper} {a : Act} {w0 : World} {Q : Exit → Act → World → Prop} (hgd : o.guard = none) (ty : TypeId) (x y : Operand) (ho : o.op = .store ty x y) (hd : o.dst = none)
    (D : Array Value) (hx : a.eval x = .pointer (some ⟨w0.heap.size, 0, none⟩)) (hy : a.eval y = .agg D) (t : TypeId) (z : Array Value) (hi : (P.info? ty).map (·.size) = some D.size) (hz : z.size = D.size) (h1 : D.all (·.oneCell') = true)
    (h : ∀ W : World, W.heap[w0.heap.size]? = some (.cells D t (0, 0)) → W.heap.size = w0.heap.size + 1 → Below w0.heap.size w0 W → wpList P ops Q rest a W) : wpList P ops Q (o :: rest) a (w0.alloc (.cells z t)) := by
  refine wpList_store_row hgd ty x y ho w0.heap.size D hx hy t z (heap_alloc_new w0 _) hi hz h1 ?_
  rw [hd]
  refine h _ (setRow_heap _ _ z D t _ (heap_alloc_new w0 _)) ?_ (below_setRow ((Below.refl _ _).alloc (Nat.le_refl _) _) (Nat.le_refl _) _)
  simp [World.setRow]

/-- the same where the block's number is spelled otherwise -/
theorem wpList_new_row' {ops : Array Oper} {rest : List Oper} {o : Oper} {a : Act} {w0 : World} {Q : Exit → Act → World → Prop} (hgd : o.guard = none) (ty : TypeId) (x y : Operand) (ho : o.op = .store ty x y) (hd : o.dst = none)
    (D : Array Value) (g : Nat) (hx : a.eval x = .pointer (some ⟨g, 0, none⟩)) (hg : g = w0.heap.size) (hy : a.eval y = .agg D) (t : TypeId) (z : Array Value) (hi : (P.info? ty).map (·.size) = some D.size) (hz : z.size = D.size) (h1 : D.all (·.oneCell') = true)
    (h : ∀ W : World, W.heap[g]? = some (.cells D t (0, 0)) → W.heap.size = g + 1 → Below g w0 W → wpList P ops Q rest a W) : wpList P ops Q (o :: rest) a (w0.alloc (.cells z t)) := by
  subst hg
  exact wpList_new_row hgd ty x y ho hd D hx hy t z hi hz h1 h

/-- a row is stored into a block that lies already -/
theorem wpList_set_row {ops : Array Oper} {rest : List Oper} {o : Oper} {a : Act} {w : World} {Q : Exit → Act → World → Prop} (hgd : o.guard = none) (ty : TypeId) (x y : Operand) (ho : o.op = .store ty x y) (hd : o.dst = none)
    (g : Nat) (D : Array Value) (hx : a.eval x = .pointer (some ⟨g, 0, none⟩)) (hy : a.eval y = .agg D) (t : TypeId) (z : Array Value) (hg : w.heap[g]? = some (.cells z t (0, 0))) (hi : (P.info? ty).map (·.size) = some D.size) (hz : z.size = D.size) (h1 : D.all (·.oneCell') = true)
    (h : ∀ W : World, W.heap[g]? = some (.cells D t (0, 0)) → W.heap.size = w.heap.size → w.grownBy W (some g) → wpList P ops Q rest a W) : wpList P ops Q (o :: rest) a w := by
  refine wpList_store_row hgd ty x y ho g D hx hy t z hg hi hz h1 ?_
  rw [hd]
  refine h _ (setRow_heap w g z D t _ hg) (by simp [World.setRow]) ⟨rfl, rfl, rfl, by simp [World.setRow], fun i hi hne => ?_⟩
  simp only [World.setRow, Array.getElem?_modify]
  rw [if_neg (fun e => hne (by rw [e]))]

/-- an array or a struct is built and stored into a block that lies already -/
theorem wpList_build_set {ops : Array Oper} {rest : List Oper} {o o2 : Oper} {a : Act} {w : World} {Q : Exit → Act → World → Prop} (hgd : o.guard = none) (ty : TypeId) (parts : Array (Nat × Operand)) (ho : o.op = .build ty parts) (d : Tmp) (hd : o.dst = some d) (D : Array Value)
    (hf : P.built ty (parts.map fun (i, x) => (i, a.eval x)).toList = some D) (hgd2 : o2.guard = none) (x : Operand) (ho2 : o2.op = .store ty x (.tmp d)) (hd2 : o2.dst = none)
    (g : Nat) (hx : (a.put (some d) (.agg D)).eval x = .pointer (some ⟨g, 0, none⟩)) (hy : (a.put (some d) (.agg D)).eval (.tmp d) = .agg D) (t : TypeId) (z : Array Value) (hg : w.heap[g]? = some (.cells z t (0, 0))) (hi : (P.info? ty).map (·.size) = some D.size) (hz : z.size = D.size) (h1 : D.all (·.oneCell') = true)
    (h : ∀ W : World, W.heap[g]? = some (.cells D t (0, 0)) → W.heap.size = w.heap.size → w.grownBy W (some g) → wpList P ops Q rest (a.put (some d) (.agg D)) W) : wpList P ops Q (o :: o2 :: rest) a w := by
  refine wpList_buildTo hgd ty parts ho (some d) hd D hf ?_
  exact wpList_set_row hgd2 ty x (.tmp d) ho2 hd2 g D hx hy t z hg hi hz h1 h
end Go.Proofs.YthokpfegfnpmhaaDoor
