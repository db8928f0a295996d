/- Openings in a row of the call's own; the append of a list of openings to one. -/
import Derived.Test.YtnccbhndlnkboaaDoorAccSane
import Derived.Test.YtnccbhndlnkboaaDoorOpenG
namespace Go.Proofs.YtnccbhndlnkboaaDoor
open Go.RowKit Go.Shelf Cdc Sha
set_option linter.unusedVariables false
set_option linter.unusedSimpArgs false

def opC4 (x : AnI) : List Value := [.int .i64 x.1.day, .int .i64 x.1.salt, .bool x.1.bl, .slice x.2.1 x.1.path.length x.2.2]
theorem osC_len (l : List AnI) : (osC l).length = l.length * 4 := by
  induction l with
  | nil => rfl
  | cons x l ih =>
    simp only [osC, List.flatMap_cons, List.length_append, List.length_cons, List.length_nil] at ih ⊢
    omega
theorem osC_append (a b : List AnI) : osC (a ++ b) = osC a ++ osC b := by simp [osC]
theorem osC_one (l : List AnI) : ∀ u ∈ osC l, u.oneCell' = true := fun u hu => by
  obtain ⟨x, _, hx⟩ := List.mem_flatMap.1 hu
  simp at hx
  rcases hx with rfl | rfl | rfl | rfl <;> rfl
theorem osC_split {l : List AnI} {j : Nat} {v : Value} (hj : (osC l)[j]? = some v) : ∃ x, l[j / 4]? = some x ∧ (opC4 x)[j % 4]? = some v := by
  have hlt := (List.getElem?_eq_some_iff.1 hj).1
  rw [osC_len] at hlt
  have hi : j / 4 < l.length := by omega
  have hx : l[j / 4]? = some (l[j / 4]'hi) := List.getElem?_eq_getElem hi
  refine ⟨_, hx, ?_⟩
  have := osC_at hx (j % 4) (by omega)
  rw [show j / 4 * 4 + j % 4 = j by omega, hj] at this
  exact this.symm
/-- a list of openings at a slice, with where their paths lie -/
def OsC (w : World) (A : Option Addr) (l : List AnI) : Prop := ∀ i x, l[i]? = some x → ∃ b o, A = some ⟨b, o, none⟩ ∧ b < w.heap.size ∧ ∀ j, j < 4 → w.cell? ⟨b, o + i * 4 + j, none⟩ = (opC4 x)[j]?
theorem OsC.below {w w' : World} {A : Option Addr} {l : List AnI} (h : OsC w A l) (hb : Below w.heap.size w w') : OsC w' A l := fun i x hx => by
  obtain ⟨b, o, hA, hlt, hc⟩ := h i x hx
  exact ⟨b, o, hA, Nat.lt_of_lt_of_le hlt hb.size, fun j hj => (World.cell?_of_block (w := w) (a := ⟨b, o + i * 4 + j, none⟩) (hb.block b hlt)).trans (hc j hj)⟩
theorem os_items {w : World} {A : Option Addr} {l : List Op} (h : OsAt w A l) : ∃ l2 : List AnI, l2.map (·.1) = l ∧ l2.length = l.length ∧ (∀ x ∈ l2, x.1.path.length ≤ x.2.2 ∧ DsAt w x.2.1 x.1.path) ∧ OsC w A l2 := by
  obtain ⟨L, hl, hq⟩ := list_of' (Q := fun i (z : AnI) => l[i]? = some z.1 ∧ (z.1.path.length ≤ z.2.2 ∧ DsAt w z.2.1 z.1.path) ∧ ∃ b o, A = some ⟨b, o, none⟩ ∧ b < w.heap.size ∧ ∀ j, j < 4 → w.cell? ⟨b, o + i * 4 + j, none⟩ = (opC4 z)[j]?) l.length fun i hi => by
    obtain ⟨y, hy⟩ : ∃ y, l[i]? = some y := ⟨_, List.getElem?_eq_getElem hi⟩
    obtain ⟨b, o, P, cp, hA, hlt, ⟨h0, h1, h2, h3⟩, hc, hd⟩ := h i y hy
    refine ⟨(y, P, cp), hy, ⟨hc, hd⟩, b, o, hA, hlt, fun j hj => ?_⟩
    match j, hj with
    | 0, _ => exact h0
    | 1, _ => exact h1
    | 2, _ => exact h2
    | 3, _ => exact h3
  refine ⟨L, List.ext_getElem? fun i => ?_, hl, fun x hx => ?_, fun i x hx => (hq i x hx).2.2⟩
  · rw [List.getElem?_map]
    by_cases hi : i < L.length
    · rw [List.getElem?_eq_getElem hi, (hq i _ (List.getElem?_eq_getElem hi)).1]
      rfl
    · rw [List.getElem?_eq_none (by omega), List.getElem?_eq_none (by omega)]
      rfl
  · obtain ⟨i, hi⟩ := List.mem_iff_getElem?.1 hx
    exact (hq i x hi).2.1

theorem op_zinfo : ∃ i0 z, Tryd.prog.info? 33 = some i0 ∧ i0.zero = some z ∧ i0.size = 4 ∧ i0.bytes = 48 ∧ z.cells.size = 4 := by
  have hinfo : (Tryd.prog.info? 33).map (fun i => (i.size, i.bytes, i.zero.map fun z => z.cells.size)) = some (4, 48, some 4) := by kernel_rfl
  obtain ⟨i, hi, h2⟩ := Option.map_eq_some_iff.1 hinfo
  simp only [Prod.mk.injEq] at h2
  obtain ⟨h3, h4, h5⟩ := h2
  obtain ⟨z, hz, h6⟩ := Option.map_eq_some_iff.1 h5
  exact ⟨i, z, hi, hz, h3, h4, h6⟩

/-- a row of openings of the call's own -/
def RowO (w : World) (b : Nat) (row : Value) (l : List AnI) : Prop := w.ownsRow b 33 4 row l.length (osC l)
theorem RowO.below {w w' : World} {b : Nat} {row : Value} {l : List AnI} (h : RowO w b row l) (hB : Below w.heap.size w w') : RowO w' b row l := ownsRow_below h hB
theorem RowO.high {w : World} {b : Nat} {row : Value} {l : List AnI} (h : RowO w b row l) {g : Nat} (hg : row.ownBlock = some g) : b ≤ g ∧ g < w.heap.size := by
  rcases h.2 with ⟨rfl, _⟩ | ⟨g', cap, cur, rfl, hb', hh, _⟩
  · cases hg
  · injection hg with hg
    dsimp only at hg
    subst hg
    exact ⟨hb', (Array.getElem?_eq_some_iff.1 hh).1⟩
theorem RowO.grown {w w' : World} {W : World} {B b : Nat} {row : Value} {l : List AnI} (h : RowO w b row l) (hB : Below B W w) (hb : B ≤ b) (hs : B ≤ w.heap.size) (hg : w.grownBy w' row.ownBlock) : Below B W w' :=
  hB.grown hg hs (fun k e => by have := (h.high e).1; omega)
theorem RowO.os {w : World} {b : Nat} {row : Value} {l : List AnI} (h : RowO w b row l) (hp : ∀ x ∈ l, x.1.path.length ≤ x.2.2 ∧ DsAt w x.2.1 x.1.path) : ∃ A c, row = .slice A l.length c ∧ l.length ≤ c ∧ OsAt w A (l.map (·.1)) := by
  rcases h.2 with ⟨rfl, h0⟩ | ⟨g, cap, cur, rfl, hb, hh, hc, hcm, hcs, htk⟩
  · obtain rfl := List.length_eq_zero_iff.1 h0
    exact ⟨none, 0, rfl, Nat.le_refl _, os_nil w none⟩
  · refine ⟨some ⟨g, 0, none⟩, cap, rfl, hc, fun i y hy => ?_⟩
    rw [List.getElem?_map] at hy
    obtain ⟨x, hx, rfl⟩ := Option.map_eq_some_iff.1 hy
    obtain ⟨h1, h2⟩ := hp x (List.mem_of_getElem? hx)
    have hil : i < l.length := (List.getElem?_eq_some_iff.1 hx).1
    have hcell : ∀ j, j < 4 → w.cell? ⟨g, 0 + i * 4 + j, none⟩ = ([.int .i64 x.1.day, .int .i64 x.1.salt, .bool x.1.bl, .slice x.2.1 x.1.path.length x.2.2] : List Value)[j]? := fun j hj => by
      have := World.ownsRow.cellAt h (i * 4 + j) (by omega)
      rw [Nat.zero_add, this, osC_at hx j hj]
    exact ⟨g, 0, x.2.1, x.2.2, rfl, (Array.getElem?_eq_some_iff.1 hh).1, ⟨hcell 0 (by decide), hcell 1 (by decide), hcell 2 (by decide), hcell 3 (by decide)⟩, h1, h2⟩
/-- a row of one opening that has just been made -/
theorem RowO.one (w : World) (b k : Nat) (hk : k = w.heap.size) (hb : b ≤ k) (x : AnI) : RowO (w.alloc (.cells (opC4 x).toArray 33)) b (.slice (some ⟨k, 0, none⟩) 1 1) [x] := by
  subst hk
  exact ⟨by rw [osC_len], .inr ⟨_, 1, (opC4 x).toArray, rfl, hb, heap_alloc_new w _, Nat.le_refl _, by simp [maxLen], by simp [opC4], by simp [osC, opC4]⟩⟩

/-- openings are appended to a row of the call's own -/
theorem run_app_os (w : World) (ty : TypeId) (b : Nat) (row : Value) (l l2 : List AnI) (A : Option Addr) (m c : Nat) (hm : l2.length = m) (hA : OsC w A l2) (hown : RowO w b row l) (hl : l.length ≤ 1000000) (hm2 : m ≤ 1000000) (hb : b ≤ w.heap.size) :
    ∃ row' w', (Builtin.append_ #[28, 28] ty #[row, .slice A m c]).run Tryd.prog w = .ok row' w' ∧ RowO w' b row' (l ++ l2) ∧ w.grownBy w' row.ownBlock := by
  obtain ⟨i0, z, hi0, hz0, hz1, hz2, hz3⟩ := op_zinfo
  by_cases h0 : m = 0
  · subst h0
    obtain rfl := List.length_eq_zero_iff.1 hm
    refine ⟨row, w, ?_, by rw [List.append_nil]; exact hown, ⟨rfl, rfl, rfl, Nat.le_refl _, fun _ _ _ => rfl⟩⟩
    rcases hown.2 with ⟨rfl, h0⟩ | ⟨g, cap, cur, rfl, hb, hh, hc, hcm, hcs, htk⟩
    · cases A <;> simp [Builtin.append_, run_underlying Tryd.underlying28, run_underlying Tryd.underlying33, sizeOf, typeInfo, hi0, Builtin.lenOf, Builtin.firstCells, loadCells, loadCellsFrom]
    · cases A <;> simp [Builtin.append_, run_underlying Tryd.underlying28, run_underlying Tryd.underlying33, sizeOf, typeInfo, hi0, Builtin.lenOf, Builtin.firstCells, loadCells, loadCellsFrom, hc, storeCells]
  · obtain ⟨x0, hx0⟩ : ∃ x0, l2[0]? = some x0 := ⟨_, List.getElem?_eq_getElem (by omega)⟩
    obtain ⟨g, o, rfl, _, _⟩ := hA 0 x0 hx0
    obtain ⟨v', w', hr, h2, h3, _, h5⟩ := run_append_own_at (P := Tryd.prog) w b 28 ty 33 i0 z 4 48 Tryd.underlying28 hi0 hz0 hz1 hz2 hz3 (by decide) row l.length (osC l) hown ⟨g, o, none⟩ m c (osC l2) (by rw [osC_len, hm])
      (fun j u hj => by
        obtain ⟨x, hx1, hx3⟩ := osC_split hj
        obtain ⟨g', o', hAe, _, hr⟩ := hA (j / 4) x hx1
        cases hAe
        have := hr (j % 4) (Nat.mod_lt _ (by decide))
        rw [Addr.add_mid, show o + j = o + j / 4 * 4 + j % 4 by omega, this, hx3]) (osC_one l2) (by simp only [maxLen]; omega) (by omega) hb
    refine ⟨v', w', hr, ?_, h3⟩
    unfold RowO
    rw [osC_append, List.length_append, hm]
    exact h2
/-- the append as a step of a region that draws -/
theorem step_appO {ops : Array Oper} {o : Oper} {a : Act} {K : Act → World → Prop} {Q : Exit → Act → World → Prop} {E : Prop} (w : World) (hgd : o.guard = none) (s x : Operand)
    (ho : o.op = .call { callee := .builtin .append, args := #[s, x], argTypes := #[28, 28] }) (b : Nat) (row : Value) (l l2 : List AnI) (A : Option Addr) (m c : Nat)
    (hs : a.eval s = row) (hx : a.eval x = .slice A m c) (hm : l2.length = m) (hA : OsC w A l2) (hown : RowO w b row l) (hl : l.length ≤ 1000000) (hm2 : m ≤ 1000000) (hb : b ≤ w.heap.size)
    (h : ∀ row' w', RowO w' b row' (l ++ l2) → w.grownBy w' row.ownBlock → K (a.put o.dst row') w') : if Region.wanted o (yielded ops a.tmps) = true then Oper.wp Tryd.prog o a w K Q else E := by
  have hw : Region.wanted o (yielded ops a.tmps) = true := by simp [Region.wanted, hgd]
  rw [if_pos hw]
  obtain ⟨v', w', hr, h2, h3⟩ := run_app_os w o.type b row l l2 A m c hm hA hown hl hm2 hb
  unfold Oper.wp execOp
  simp only [ho, resolve, invoke, builtin, Sem.run_bind, Sem.run_pure, Result.andThen_ok, List.map_toArray, List.map_cons, List.map_nil, hs, hx, hr]
  exact h v' w' h2 h3
end Go.Proofs.YtnccbhndlnkboaaDoor
