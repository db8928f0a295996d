/- Posts in a row of the call's own: appended to, and read. -/
import Derived.Test.YthokpfegfnpmhaaDoorPoEq
import Derived.Test.YthokpfegfnpmhaaDoorRowFG
import Derived.Test.YthokpfegfnpmhaaDoorOffFind
import Derived.Test.YthokpfegfnpmhaaDoorOffSane
namespace Go.Proofs.YthokpfegfnpmhaaDoor
open Go.RowKit Cdc Sha
set_option linter.unusedVariables false
set_option linter.unusedSimpArgs false

theorem po_zinfo : ∃ i0 z, Tryd.prog.info? 49 = some i0 ∧ i0.zero = some z ∧ i0.size = 35 ∧ i0.bytes = 56 ∧ z.cells.size = 35 := by
  have h : (Tryd.prog.info? 49).map (fun i => (i.zero.map (·.cells.size), i.size, i.bytes)) = some (some 35, 35, 56) := by kernel_rfl
  cases hi : Tryd.prog.info? 49 with
  | none => rw [hi] at h; cases h
  | some i0 =>
    rw [hi] at h
    simp only [Option.map_some, Option.some.injEq, Prod.mk.injEq] at h
    obtain ⟨h1, h2, h3⟩ := h
    obtain ⟨z, hz, hzs⟩ := Option.map_eq_some_iff.1 h1
    exact ⟨i0, z, rfl, hz, h2, h3, hzs⟩
theorem poC_one (p : Po) : ∀ u ∈ poC p, u.oneCell' = true := fun u hu => by
  have := poA_one p
  rw [Array.all_eq_true_iff_forall_mem] at this
  exact this u (by simpa [poA] using hu)
theorem psC_one (l : List Po) : ∀ u ∈ psC l, u.oneCell' = true := by
  induction l with
  | nil => intro u hu; cases hu
  | cons p l ih =>
    intro u hu
    rcases List.mem_append.1 hu with h | h
    · exact poC_one p u h
    · exact ih u h
theorem psC_append (a b : List Po) : psC (a ++ b) = psC a ++ psC b := by
  induction a with
  | nil => rfl
  | cons p a ih => simp only [List.cons_append, psC, ih, List.append_assoc]
/-- a cell of the row of cells lies in a post -/
theorem psC_split {l : List Po} (h : ∀ p ∈ l, p.root.length = 32) {j : Nat} {v : Value} (hj : (psC l)[j]? = some v) : ∃ p, l[j / 35]? = some p ∧ (poC p)[j % 35]? = some v := by
  have hlt := (List.getElem?_eq_some_iff.1 hj).1
  rw [psC_len h] at hlt
  have hi : j / 35 < l.length := (Nat.div_lt_iff_lt_mul (by decide)).2 hlt
  have hx : l[j / 35]? = some (l[j / 35]'hi) := List.getElem?_eq_getElem hi
  have hl := poC_len (h _ (List.mem_of_getElem? hx))
  have hm : j % 35 < (poC (l[j / 35]'hi)).length := by rw [hl]; exact Nat.mod_lt _ (by decide)
  have hv : (poC (l[j / 35]'hi))[j % 35]? = some ((poC (l[j / 35]'hi))[j % 35]'hm) := List.getElem?_eq_getElem hm
  have := psC_at h hx hv
  rw [Nat.mul_comm, Nat.div_add_mod, hj] at this
  exact ⟨_, hx, by rw [hv, this]⟩

/-- a row of posts of the call's own -/
def RowP (w : World) (b : Nat) (row : Value) (l : List Po) : Prop := w.ownsRow b 49 35 row l.length (psC l)
theorem RowP.nil (w : World) (b : Nat) : RowP w b (.slice none 0 0) [] := World.ownsRow_nil w _ _ _
theorem RowP.below {w w' : World} {b : Nat} {row : Value} {l : List Po} (h : RowP w b row l) (hB : Below w.heap.size w w') : RowP w' b row l := ownsRow_below h hB
theorem RowP.high {w : World} {b : Nat} {row : Value} {l : List Po} (h : RowP w b row l) {g : Nat} (hg : row.ownBlock = some g) : b ≤ g ∧ g < w.heap.size := by
  rcases h.2 with ⟨rfl, _⟩ | ⟨g', cap, cur, rfl, hb', hh, _⟩
  · cases hg
  · injection hg with hg
    dsimp only at hg
    subst hg
    exact ⟨hb', (Array.getElem?_eq_some_iff.1 hh).1⟩
theorem RowP.ps {w : World} {b : Nat} {row : Value} {l : List Po} (h : RowP w b row l) (hp : ∀ p ∈ l, p.root.length = 32) : ∃ A c, row = .slice A l.length c ∧ l.length ≤ c ∧ PsAt w A l := by
  rcases h.2 with ⟨rfl, h0⟩ | ⟨g, cap, cur, rfl, hb, hh, hc, hcm, hcs, htk⟩
  · obtain rfl := List.length_eq_zero_iff.1 h0
    exact ⟨none, 0, rfl, Nat.le_refl _, fun i x hx => by simp at hx⟩
  · refine ⟨some ⟨g, 0, none⟩, cap, rfl, hc, fun i x hx => ⟨g, 0, rfl, (Array.getElem?_eq_some_iff.1 hh).1, fun j u hj => ?_⟩⟩
    have hf := psC_at hp hx hj
    have hlt := (List.getElem?_eq_some_iff.1 hf).1
    have hcell := World.ownsRow.cellAt h (i * 35 + j) (by rw [h.1] at hlt; exact hlt)
    rw [Nat.zero_add, hcell, hf]
/-- an empty row, just built -/
theorem RowP.empty (w : World) (b k : Nat) (hk : k = w.heap.size) (hb : b ≤ k) : RowP (w.alloc (.cells #[] 49)) b (.slice (some ⟨k, 0, none⟩) 0 0) [] := by
  subst hk
  exact ⟨rfl, .inr ⟨_, 0, #[], rfl, hb, heap_alloc_new w _, Nat.le_refl _, by simp [maxLen], rfl, rfl⟩⟩

/-- posts are appended to a row of the call's own -/
theorem run_app_po (w : World) (ty : TypeId) (b : Nat) (row : Value) (l l2 : List Po) (A : Option Addr) (m c : Nat) (hm : l2.length = m) (hA : PsAt w A l2) (hown : RowP w b row l) (hp2 : ∀ y ∈ l2, y.root.length = 32) (hl : l.length ≤ 1000000) (hm2 : m ≤ 1000000) (hb : b ≤ w.heap.size) :
    ∃ row' w', (Builtin.append_ #[53, 53] ty #[row, .slice A m c]).run Tryd.prog w = .ok row' w' ∧ RowP w' b row' (l ++ l2) ∧ w.grownBy w' row.ownBlock := by
  obtain ⟨i0, z, hi0, hz0, hz1, hz2, hz3⟩ := po_zinfo
  by_cases h0 : m = 0
  · subst h0
    obtain rfl := List.length_eq_zero_iff.1 hm
    refine ⟨row, w, ?_, by rw [List.append_nil]; exact hown, ⟨rfl, rfl, rfl, Nat.le_refl _, fun _ _ _ => rfl⟩⟩
    rcases hown.2 with ⟨rfl, h0⟩ | ⟨g, cap, cur, rfl, hb, hh, hc, hcm, hcs, htk⟩
    · cases A <;> simp [Builtin.append_, run_underlying Tryd.underlying53, run_underlying Tryd.underlying49, sizeOf, typeInfo, hi0, Builtin.lenOf, Builtin.firstCells, loadCells, loadCellsFrom]
    · cases A <;> simp [Builtin.append_, run_underlying Tryd.underlying53, run_underlying Tryd.underlying49, sizeOf, typeInfo, hi0, Builtin.lenOf, Builtin.firstCells, loadCells, loadCellsFrom, hc, storeCells]
  · obtain ⟨x0, hx0⟩ : ∃ x0, l2[0]? = some x0 := ⟨_, List.getElem?_eq_getElem (by omega)⟩
    obtain ⟨g, o, rfl, _, _⟩ := hA 0 x0 hx0
    obtain ⟨v', w', hr, h2, h3, _, _⟩ := run_append_own_at (P := Tryd.prog) w b 53 ty 49 i0 z 35 56 Tryd.underlying53 hi0 hz0 hz1 hz2 hz3 (by decide) row l.length (psC l) hown ⟨g, o, none⟩ m c (psC l2) (by rw [psC_len hp2, hm])
      (fun j u hj => by
        obtain ⟨p, hp1, hp3⟩ := psC_split hp2 hj
        obtain ⟨g', o', hAe, _, hr⟩ := hA (j / 35) p hp1
        cases hAe
        have := hr (j % 35) u hp3
        rw [Addr.add_mid, show o + j = o + j / 35 * 35 + j % 35 by omega]
        exact this) (psC_one l2) (by simp only [maxLen]; omega) (by omega) hb
    refine ⟨v', w', hr, ?_, h3⟩
    unfold RowP
    rw [psC_append, List.length_append, hm]
    exact h2
theorem wpList_appP {ops : Array Oper} {rest : List Oper} {o : Oper} {a : Act} {Q : Exit → Act → World → Prop} (w : World) (hgd : o.guard = none) (s x : Operand)
    (ho : o.op = .call { callee := .builtin .append, args := #[s, x], argTypes := #[53, 53] }) (b : Nat) (row : Value) (l l2 : List Po) (A : Option Addr) (m c : Nat)
    (hs : a.eval s = row) (hx : a.eval x = .slice A m c) (hm : l2.length = m) (hA : PsAt w A l2) (hown : RowP w b row l) (hp2 : ∀ y ∈ l2, y.root.length = 32) (hl : l.length ≤ 1000000) (hm2 : m ≤ 1000000) (hb : b ≤ w.heap.size)
    (h : ∀ row' w', RowP w' b row' (l ++ l2) → w.grownBy w' row.ownBlock → wpList Tryd.prog ops Q rest (a.put o.dst row') w') : wpList Tryd.prog ops Q (o :: rest) a w := by
  refine wpList_plain hgd fun K hK => ?_
  obtain ⟨v', w', hr, h2, h3⟩ := run_app_po w o.type b row l l2 A m c hm hA hown hp2 hl hm2 hb
  unfold Oper.wp execOp
  simp only [ho, resolve, invoke, builtin, Sem.run_bind, Sem.run_pure, Result.andThen_ok, List.map_toArray, List.map_cons, List.map_nil, hs, hx, hr]
  exact hK _ _ (h v' w' h2 h3)
/-- the append as a step of a region that draws -/
theorem step_appP {ops : Array Oper} {o : Oper} {a : Act} {K : Act → World → Prop} {Q : Exit → Act → World → Prop} {E : Prop} (w : World) (hgd : o.guard = none) (s x : Operand)
    (ho : o.op = .call { callee := .builtin .append, args := #[s, x], argTypes := #[53, 53] }) (b : Nat) (row : Value) (l l2 : List Po) (A : Option Addr) (m c : Nat)
    (hs : a.eval s = row) (hx : a.eval x = .slice A m c) (hm : l2.length = m) (hA : PsAt w A l2) (hown : RowP w b row l) (hp2 : ∀ y ∈ l2, y.root.length = 32) (hl : l.length ≤ 1000000) (hm2 : m ≤ 1000000) (hb : b ≤ w.heap.size)
    (h : ∀ row' w', RowP w' b row' (l ++ l2) → w.grownBy w' row.ownBlock → K (a.put o.dst row') w') : if Region.wanted o (yielded ops a.tmps) = true then Oper.wp Tryd.prog o a w K Q else E := by
  have hw : Region.wanted o (yielded ops a.tmps) = true := by simp [Region.wanted, hgd]
  rw [if_pos hw]
  obtain ⟨v', w', hr, h2, h3⟩ := run_app_po w o.type b row l l2 A m c hm hA hown hp2 hl hm2 hb
  unfold Oper.wp execOp
  simp only [ho, resolve, invoke, builtin, Sem.run_bind, Sem.run_pure, Result.andThen_ok, List.map_toArray, List.map_cons, List.map_nil, hs, hx, hr]
  exact h v' w' h2 h3
/-- an empty slice of posts is made -/
theorem wpList_none {ops : Array Oper} {rest : List Oper} {o : Oper} {a : Act} {w : World} {Q : Exit → Act → World → Prop} (hgd : o.guard = none) (ho : o.op = .buildSlice 53 0 #[])
    (h : wpList Tryd.prog ops Q rest (a.put o.dst (.slice (some ⟨w.heap.size, 0, none⟩) 0 0)) (w.alloc (.cells #[] 49))) : wpList Tryd.prog ops Q (o :: rest) a w := by
  refine wpList_plain hgd fun K hK => ?_
  obtain ⟨i0, z, hi0, hz0, hz1, hz2, hz3⟩ := po_zinfo
  have hr : (Instr.buildSlice 53 0 #[]).run Tryd.prog w = .ok (.slice (some ⟨w.heap.size, 0, none⟩) 0 0) (w.alloc (.cells #[] 49)) := by
    simp [Instr.buildSlice, run_underlying Tryd.underlying53, sizeOf, typeInfo, zeroValue, hi0, hz0, newRow, Instr.fill]
    rw [show ∀ d : Value, Array.map (fun _ => d) (Array.range 0) = #[] from fun d => Array.eq_empty_of_size_eq_zero (by simp)]
  unfold Oper.wp execOp
  simp only [ho, Sem.run_bind, List.map_toArray, List.map_nil, hr, Result.andThen_ok]
  exact hK _ _ h
theorem blow1 (w : World) (o : Obj) : Below w.heap.size w (w.alloc o) := (Below.refl _ _).alloc (Nat.le_refl _) o
theorem RowP.grown {w w' : World} {W : World} {B b : Nat} {row : Value} {l : List Po} (h : RowP w b row l) (hB : Below B W w) (hb : B ≤ b) (hs : B ≤ w.heap.size) (hg : w.grownBy w' row.ownBlock) : Below B W w' :=
  hB.grown hg hs (fun k e => by have := (h.high e).1; omega)

/-- somebody is found exactly where two of the posts convict -/
theorem cv_comm (key : Int) (a b : Po) : cvP key a b = cvP key b a := by
  unfold cvP
  by_cases h1 : a.no = b.no <;> by_cases h2 : a.root = b.root <;> cases ckP key a <;> cases ckP key b <;> simp [h1, h2, eq_comm] <;> simp_all [eq_comm]
theorem FindP.any {key : Int} {l : List Po} {i j : Nat} {ok : Bool} (h : FindP key l i j ok) : ok = true ↔ ∃ a ∈ l, ∃ b ∈ l, cvP key a b = true := by
  rcases h with ⟨rfl, hij, a, b, ha, hb, hc, hl⟩ | ⟨rfl, rfl, rfl, hl⟩
  · exact ⟨fun _ => ⟨a, List.mem_of_getElem? ha, b, List.mem_of_getElem? hb, hc⟩, fun _ => rfl⟩
  · refine ⟨fun h => (by cases h), fun ⟨a, ha, b, hb, hc⟩ => ?_⟩
    obtain ⟨i, hi⟩ := List.mem_iff_getElem?.1 ha
    obtain ⟨j, hj⟩ := List.mem_iff_getElem?.1 hb
    rcases Nat.lt_trichotomy i j with h1 | h1 | h1
    · rw [hl i j a b h1 hi hj] at hc; cases hc
    · subst h1
      obtain rfl : a = b := Option.some.inj (hi.symm.trans hj)
      rw [cv_self] at hc; cases hc
    · rw [cv_comm, hl j i b a h1 hj hi] at hc; cases hc
end Go.Proofs.YthokpfegfnpmhaaDoor
