/- Rows of digests: read, made, appended to. -/
import Derived.Test.YtnccbhndlnkboaaDoorTagH
import Derived.Test.YtnccbhndlnkboaaDoorRowFG
import Derived.Test.YtnccbhndlnkboaaDoorEqDg
import Derived.Great.Walk
namespace Go.Proofs.YtnccbhndlnkboaaDoor
open Go.RowKit Go.Shelf Cdc Sha
set_option linter.unusedVariables false
set_option linter.unusedSimpArgs false

/-- a digest's cells -/
abbrev dc (d : List UInt8) : List Value := d.map by1
theorem dc_len {d : List UInt8} (h : d.length = 32) : (dc d).length = 32 := by simp [h]
def DsAt (w : World) (A : Option Addr) (l : List (List UInt8)) : Prop := ∀ i x, l[i]? = some x → ∃ b o, A = some ⟨b, o, none⟩ ∧ b < w.heap.size ∧ w.rangeAt b (o + i * 32) (dc x)
theorem range_belowB {w w' : World} {b o : Nat} {cs : List Value} (h : w.rangeAt b o cs) (hlt : b < w.heap.size) (hb : Below w.heap.size w w') : w'.rangeAt b o cs := fun j v hj => by
  rw [hb.cell (p := ⟨b, o + j, none⟩) hlt]
  exact h j v hj
theorem DsAt.below {w w' : World} {A : Option Addr} {l : List (List UInt8)} (h : DsAt w A l) (hb : Below w.heap.size w w') : DsAt w' A l := fun i x hi => by
  obtain ⟨b, o, hA, hlt, hr⟩ := h i x hi
  exact ⟨b, o, hA, Nat.lt_of_lt_of_le hlt hb.size, range_belowB hr hlt hb⟩

/-- a slice is made of values -/
theorem wp_built {o : Oper} {a : Act} {w : World} {K : Act → World → Prop} {Q : Exit → Act → World → Prop} (t e : TypeId) (n : Nat) (parts : Array (Nat × Operand)) (ho : o.op = .buildSlice t n parts) (hu : Tryd.prog.underlying t = some (.slice e))
    (cells : Array Value) (hf : Tryd.prog.builtSlice e n (parts.map fun (i, x) => (i, a.eval x)).toList = some cells)
    (h : K (a.put o.dst (.slice (some ⟨w.heap.size, 0, none⟩) n n)) (w.alloc (.cells cells e))) : Oper.wp Tryd.prog o a w K Q := by
  unfold Program.builtSlice at hf
  cases hie : Tryd.prog.info? e with
  | none => simp [hie] at hf
  | some ie =>
    simp only [hie] at hf
    cases hz : ie.zero with
    | none => simp [hz] at hf
    | some z =>
      simp only [hz] at hf
      by_cases hc : n * ie.size > 2 ^ 24 ∨ n * ie.size = 0
      · rw [if_pos hc] at hf; cases hf
      · rw [if_neg hc] at hf
        exact wp_buildSlice t e n parts ho _ ie z hu hie hz (fun h' => hc (Or.inl h')) (fun h' => hc (Or.inr h')) hf h
theorem wpList_built {ops : Array Oper} {rest : List Oper} {o : Oper} {a : Act} {w : World} {Q : Exit → Act → World → Prop} (hgd : o.guard = none) (t e : TypeId) (n : Nat) (parts : Array (Nat × Operand)) (ho : o.op = .buildSlice t n parts) (hu : Tryd.prog.underlying t = some (.slice e))
    (cells : Array Value) (hf : Tryd.prog.builtSlice e n (parts.map fun (i, x) => (i, a.eval x)).toList = some cells)
    (h : wpList Tryd.prog ops Q rest (a.put o.dst (.slice (some ⟨w.heap.size, 0, none⟩) n n)) (w.alloc (.cells cells e))) : wpList Tryd.prog ops Q (o :: rest) a w :=
  wpList_plain hgd fun _ hK => wp_built t e n parts ho hu cells hf (hK _ _ h)

theorem list32 {α : Type} (l : List α) (h : l.length = 32) : ∃ p0 p1 p2 p3 p4 p5 p6 p7 p8 p9 p10 p11 p12 p13 p14 p15 p16 p17 p18 p19 p20 p21 p22 p23 p24 p25 p26 p27 p28 p29 p30 p31 : α, l = [p0, p1, p2, p3, p4, p5, p6, p7, p8, p9, p10, p11, p12, p13, p14, p15, p16, p17, p18, p19, p20, p21, p22, p23, p24, p25, p26, p27, p28, p29, p30, p31] := by
  match l, h with
  | [p0, p1, p2, p3, p4, p5, p6, p7, p8, p9, p10, p11, p12, p13, p14, p15, p16, p17, p18, p19, p20, p21, p22, p23, p24, p25, p26, p27, p28, p29, p30, p31], _ => exact ⟨p0, p1, p2, p3, p4, p5, p6, p7, p8, p9, p10, p11, p12, p13, p14, p15, p16, p17, p18, p19, p20, p21, p22, p23, p24, p25, p26, p27, p28, p29, p30, p31, rfl⟩
set_option maxRecDepth 100000 in
theorem dc_info {d : List UInt8} (h : d.length = 32) : (Tryd.prog.info? 23).map (·.size) = some (dc d).length := by rw [dc_len h]; kernel_rfl
set_option maxRecDepth 100000 in
theorem builtSlice_d1 (d : List UInt8) (h : d.length = 32) : Tryd.prog.builtSlice 23 1 [(0, .agg (dc d).toArray)] = some (dc d).toArray := by
  obtain ⟨p0, p1, p2, p3, p4, p5, p6, p7, p8, p9, p10, p11, p12, p13, p14, p15, p16, p17, p18, p19, p20, p21, p22, p23, p24, p25, p26, p27, p28, p29, p30, p31, rfl⟩ := list32 d h
  kernel_rfl
theorem step_built {ops : Array Oper} {o : Oper} {a : Act} {w : World} {K : Act → World → Prop} {Q : Exit → Act → World → Prop} {E : Prop} (hgd : o.guard = none) (t e : TypeId) (n : Nat) (parts : Array (Nat × Operand)) (ho : o.op = .buildSlice t n parts) (hu : Tryd.prog.underlying t = some (.slice e))
    (cells : Array Value) (hf : Tryd.prog.builtSlice e n (parts.map fun (i, x) => (i, a.eval x)).toList = some cells)
    (h : K (a.put o.dst (.slice (some ⟨w.heap.size, 0, none⟩) n n)) (w.alloc (.cells cells e))) : if Region.wanted o (yielded ops a.tmps) = true then Oper.wp Tryd.prog o a w K Q else E := by
  have hw : Region.wanted o (yielded ops a.tmps) = true := by simp [Region.wanted, hgd]
  rw [if_pos hw]
  exact wp_built t e n parts ho hu cells hf h
/-- a slice of digests is cut -/
def cutV (g o n c k : Nat) : Value := .slice (some (if c = k then ⟨g, o, none⟩ else ⟨g, o + k * 32, none⟩)) (n - k) (c - k)
theorem run_cut (W : World) (g o n c k : Nat) (hk : k ≤ n) (hc : n ≤ c) : (Instr.slice 31 (.slice (some ⟨g, o, none⟩) n c) (some (.int .i64 (k : Int))) none none).run Tryd.prog W = .ok (cutV g o n c k) W := by
  have ht : Tryd.prog.underlying 31 = some (.slice 23) := Tryd.underlying31
  have ht' : Tryd.prog.underlying 31 = some (.slice (Tryd.prog.elem 31)) := by simp [Program.elem, ht]
  have he : Tryd.prog.elem 31 = 23 := by simp [Program.elem, ht]
  rw [run_slice_l W 31 _ _ _ ht' .i64 _ (by omega) (by omega), he, Tryd.sizeOf23]
  unfold cutV
  by_cases h0 : c = k
  · simp [Result.andThen, sliced, h0]
  · by_cases h1 : k = 0
    · subst h1; simp [Result.andThen, sliced, Addr.add, h0]
    · simp [Result.andThen, sliced, Addr.add, h0, h1]
      omega
theorem cut_ds {w : World} {g o n c k : Nat} {l : List (List UInt8)} (h : DsAt w (some ⟨g, o, none⟩) l) (hn : l.length = n) (hc : n ≤ c) : ∃ A, cutV g o n c k = .slice A (n - k) (c - k) ∧ DsAt w A (l.drop k) := by
  refine ⟨_, rfl, fun i x hi => ?_⟩
  rw [List.getElem?_drop] at hi
  have hlt := (List.getElem?_eq_some_iff.1 hi).1
  obtain ⟨b, o', e, hb, hr⟩ := h (k + i) x hi
  cases e
  rw [if_neg (by omega)]
  exact ⟨g, o + k * 32, rfl, hb, by rw [show o + k * 32 + i * 32 = o + (k + i) * 32 by omega]; exact hr⟩
/-- digests that lie in one row -/
def dsC : List (List UInt8) → List Value
  | [] => []
  | p :: l => dc p ++ dsC l
theorem dsC_len {l : List (List UInt8)} (h : ∀ p ∈ l, p.length = 32) : (dsC l).length = l.length * 32 := by
  induction l with
  | nil => rfl
  | cons p l ih =>
    simp only [dsC, List.length_append, List.length_cons]
    rw [dc_len (h p (by simp)), ih fun q hq => h q (by simp [hq]), Nat.add_mul]
    omega
theorem dsC_at {l : List (List UInt8)} (h : ∀ p ∈ l, p.length = 32) {i : Nat} {p : List UInt8} (hi : l[i]? = some p) {j : Nat} {v : Value} (hj : (dc p)[j]? = some v) : (dsC l)[i * 32 + j]? = some v := by
  induction l generalizing i with
  | nil => simp at hi
  | cons q l ih =>
    have hq := dc_len (h q (by simp))
    cases i with
    | zero =>
      obtain rfl : q = p := by simpa using hi
      simp only [dsC, Nat.zero_mul, Nat.zero_add]
      rw [List.getElem?_append_left (List.getElem?_eq_some_iff.1 hj).1, hj]
    | succ i =>
      simp only [dsC]
      rw [List.getElem?_append_right (by rw [hq, Nat.add_mul]; omega), hq, show (i + 1) * 32 + j - 32 = i * 32 + j by omega]
      exact ih (fun r hr => h r (by simp [hr])) (by simpa using hi)
theorem dsAt_row {W : World} {g : Nat} {l : List (List UInt8)} {C : Array Value} {ty : TypeId} (hp : ∀ p ∈ l, p.length = 32) (hg : W.heap[g]? = some (.cells C ty (0, 0))) (hC : C = (dsC l).toArray) : DsAt W (some ⟨g, 0, none⟩) l := fun i x hi =>
  ⟨g, 0, rfl, (Array.getElem?_eq_some_iff.1 hg).1, fun j v hj => by
    rw [cell_of_row _ _ _ _ _ _ hg, hC, Nat.zero_add]
    simpa using dsC_at hp hi hj⟩
theorem dg_zinfo : ∃ i0 z, Tryd.prog.info? 23 = some i0 ∧ i0.zero = some z ∧ i0.size = 32 ∧ i0.bytes = 32 ∧ z.cells.size = 32 := by
  have h : (Tryd.prog.info? 23).map (fun i => (i.zero.map (·.cells.size), i.size, i.bytes)) = some (some 32, 32, 32) := by kernel_rfl
  cases hi : Tryd.prog.info? 23 with
  | none => rw [hi] at h; cases h
  | some i0 =>
    rw [hi] at h
    simp only [Option.map_some, Option.some.injEq, Prod.mk.injEq] at h
    obtain ⟨h1, h2, h3⟩ := h
    obtain ⟨z, hz, hzs⟩ := Option.map_eq_some_iff.1 h1
    exact ⟨i0, z, rfl, hz, h2, h3, hzs⟩
theorem dc_one (p : List UInt8) : ∀ u ∈ dc p, u.oneCell' = true := fun u hu => by
  have := dg_one p
  rw [Array.all_eq_true_iff_forall_mem] at this
  exact this u (by simpa [dg] using hu)
theorem dsC_one (l : List (List UInt8)) : ∀ u ∈ dsC l, u.oneCell' = true := by
  induction l with
  | nil => intro u hu; cases hu
  | cons p l ih =>
    intro u hu
    rcases List.mem_append.1 hu with h | h
    · exact dc_one p u h
    · exact ih u h
theorem dsC_append (a b : List (List UInt8)) : dsC (a ++ b) = dsC a ++ dsC b := by
  induction a with
  | nil => rfl
  | cons p a ih => simp only [List.cons_append, dsC, ih, List.append_assoc]
/-- a cell of the row of cells lies in a digest -/
theorem dsC_split {l : List (List UInt8)} (h : ∀ p ∈ l, p.length = 32) {j : Nat} {v : Value} (hj : (dsC l)[j]? = some v) : ∃ p, l[j / 32]? = some p ∧ (dc p)[j % 32]? = some v := by
  have hlt := (List.getElem?_eq_some_iff.1 hj).1
  rw [dsC_len h] at hlt
  have hi : j / 32 < l.length := (Nat.div_lt_iff_lt_mul (by decide)).2 hlt
  have hx : l[j / 32]? = some (l[j / 32]'hi) := List.getElem?_eq_getElem hi
  have hl := dc_len (h _ (List.mem_of_getElem? hx))
  have hm : j % 32 < (dc (l[j / 32]'hi)).length := by rw [hl]; exact Nat.mod_lt _ (by decide)
  have hv : (dc (l[j / 32]'hi))[j % 32]? = some ((dc (l[j / 32]'hi))[j % 32]'hm) := List.getElem?_eq_getElem hm
  have := dsC_at h hx hv
  rw [Nat.mul_comm, Nat.div_add_mod, hj] at this
  exact ⟨_, hx, by rw [hv, this]⟩

/-- a row of digests of the call's own -/
def RowD (w : World) (b : Nat) (row : Value) (l : List (List UInt8)) : Prop := w.ownsRow b 23 32 row l.length (dsC l)
theorem RowD.nil (w : World) (b : Nat) : RowD w b (.slice none 0 0) [] := World.ownsRow_nil w _ _ _
theorem RowD.below {w w' : World} {b : Nat} {row : Value} {l : List (List UInt8)} (h : RowD w b row l) (hB : Below w.heap.size w w') : RowD w' b row l := ownsRow_below h hB
theorem RowD.high {w : World} {b : Nat} {row : Value} {l : List (List UInt8)} (h : RowD w b row l) {g : Nat} (hg : row.ownBlock = some g) : b ≤ g ∧ g < w.heap.size := by
  rcases h.2 with ⟨rfl, _⟩ | ⟨g', cap, cur, rfl, hb', hh, _⟩
  · cases hg
  · injection hg with hg
    dsimp only at hg
    subst hg
    exact ⟨hb', (Array.getElem?_eq_some_iff.1 hh).1⟩
theorem RowD.ds {w : World} {b : Nat} {row : Value} {l : List (List UInt8)} (h : RowD w b row l) (hp : ∀ p ∈ l, p.length = 32) : ∃ A c, row = .slice A l.length c ∧ l.length ≤ c ∧ DsAt w A l := by
  rcases h.2 with ⟨rfl, h0⟩ | ⟨g, cap, cur, rfl, hb, hh, hc, hcm, hcs, htk⟩
  · obtain rfl := List.length_eq_zero_iff.1 h0
    exact ⟨none, 0, rfl, Nat.le_refl _, fun i x hx => by simp at hx⟩
  · refine ⟨some ⟨g, 0, none⟩, cap, rfl, hc, fun i x hx => ⟨g, 0, rfl, (Array.getElem?_eq_some_iff.1 hh).1, fun j u hj => ?_⟩⟩
    have hf := dsC_at hp hx hj
    have hlt := (List.getElem?_eq_some_iff.1 hf).1
    have hcell := World.ownsRow.cellAt h (i * 32 + j) (by rw [h.1] at hlt; exact hlt)
    rw [Nat.zero_add, hcell, hf]
/-- an empty row, just built -/
theorem RowD.empty (w : World) (b k : Nat) (hk : k = w.heap.size) (hb : b ≤ k) : RowD (w.alloc (.cells #[] 23)) b (.slice (some ⟨k, 0, none⟩) 0 0) [] := by
  subst hk
  exact ⟨rfl, .inr ⟨_, 0, #[], rfl, hb, heap_alloc_new w _, Nat.le_refl _, by simp [maxLen], rfl, rfl⟩⟩

/-- digests are appended to a row of the call's own -/
theorem run_app_dg (w : World) (ty : TypeId) (b : Nat) (row : Value) (l l2 : List (List UInt8)) (A : Option Addr) (m c : Nat) (hm : l2.length = m) (hA : DsAt w A l2) (hown : RowD w b row l) (hp2 : ∀ y ∈ l2, y.length = 32) (hl : l.length ≤ 1000000) (hm2 : m ≤ 1000000) (hb : b ≤ w.heap.size) :
    ∃ row' w', (Builtin.append_ #[31, 31] ty #[row, .slice A m c]).run Tryd.prog w = .ok row' w' ∧ RowD w' b row' (l ++ l2) ∧ w.grownBy w' row.ownBlock ∧ (row'.ownBlock = row.ownBlock ∨ row'.ownBlock = some w.heap.size) := by
  obtain ⟨i0, z, hi0, hz0, hz1, hz2, hz3⟩ := dg_zinfo
  by_cases h0 : m = 0
  · subst h0
    obtain rfl := List.length_eq_zero_iff.1 hm
    refine ⟨row, w, ?_, by rw [List.append_nil]; exact hown, ⟨rfl, rfl, rfl, Nat.le_refl _, fun _ _ _ => rfl⟩, .inl rfl⟩
    rcases hown.2 with ⟨rfl, h0⟩ | ⟨g, cap, cur, rfl, hb, hh, hc, hcm, hcs, htk⟩
    · cases A <;> simp [Builtin.append_, run_underlying Tryd.underlying31, run_underlying Tryd.underlying23, sizeOf, typeInfo, hi0, Builtin.lenOf, Builtin.firstCells, loadCells, loadCellsFrom]
    · cases A <;> simp [Builtin.append_, run_underlying Tryd.underlying31, run_underlying Tryd.underlying23, sizeOf, typeInfo, hi0, Builtin.lenOf, Builtin.firstCells, loadCells, loadCellsFrom, hc, storeCells]
  · obtain ⟨x0, hx0⟩ : ∃ x0, l2[0]? = some x0 := ⟨_, List.getElem?_eq_getElem (by omega)⟩
    obtain ⟨g, o, rfl, _, _⟩ := hA 0 x0 hx0
    obtain ⟨v', w', hr, h2, h3, _, h5⟩ := run_append_own_at (P := Tryd.prog) w b 31 ty 23 i0 z 32 32 Tryd.underlying31 hi0 hz0 hz1 hz2 hz3 (by decide) row l.length (dsC l) hown ⟨g, o, none⟩ m c (dsC l2) (by rw [dsC_len hp2, hm])
      (fun j u hj => by
        obtain ⟨p, hp1, hp3⟩ := dsC_split hp2 hj
        obtain ⟨g', o', hAe, _, hr⟩ := hA (j / 32) p hp1
        cases hAe
        have := hr (j % 32) u hp3
        rw [Addr.add_mid, show o + j = o + j / 32 * 32 + j % 32 by omega]
        exact this) (dsC_one l2) (by simp only [maxLen]; omega) (by omega) hb
    refine ⟨v', w', hr, ?_, h3, h5⟩
    unfold RowD
    rw [dsC_append, List.length_append, hm]
    exact h2
theorem wpList_appD {ops : Array Oper} {rest : List Oper} {o : Oper} {a : Act} {Q : Exit → Act → World → Prop} (w : World) (hgd : o.guard = none) (s x : Operand)
    (ho : o.op = .call { callee := .builtin .append, args := #[s, x], argTypes := #[31, 31] }) (b : Nat) (row : Value) (l l2 : List (List UInt8)) (A : Option Addr) (m c : Nat)
    (hs : a.eval s = row) (hx : a.eval x = .slice A m c) (hm : l2.length = m) (hA : DsAt w A l2) (hown : RowD w b row l) (hp2 : ∀ y ∈ l2, y.length = 32) (hl : l.length ≤ 1000000) (hm2 : m ≤ 1000000) (hb : b ≤ w.heap.size)
    (h : ∀ row' w', RowD w' b row' (l ++ l2) → w.grownBy w' row.ownBlock → wpList Tryd.prog ops Q rest (a.put o.dst row') w') : wpList Tryd.prog ops Q (o :: rest) a w := by
  refine wpList_plain hgd fun K hK => ?_
  obtain ⟨v', w', hr, h2, h3, h5⟩ := run_app_dg w o.type b row l l2 A m c hm hA hown hp2 hl hm2 hb
  unfold Oper.wp execOp
  simp only [ho, resolve, invoke, builtin, Sem.run_bind, Sem.run_pure, Result.andThen_ok, List.map_toArray, List.map_cons, List.map_nil, hs, hx, hr]
  exact hK _ _ (h v' w' h2 h3)
/-- the append as a step of a region that draws -/
theorem step_appD {ops : Array Oper} {o : Oper} {a : Act} {K : Act → World → Prop} {Q : Exit → Act → World → Prop} {E : Prop} (w : World) (hgd : o.guard = none) (s x : Operand)
    (ho : o.op = .call { callee := .builtin .append, args := #[s, x], argTypes := #[31, 31] }) (b : Nat) (row : Value) (l l2 : List (List UInt8)) (A : Option Addr) (m c : Nat)
    (hs : a.eval s = row) (hx : a.eval x = .slice A m c) (hm : l2.length = m) (hA : DsAt w A l2) (hown : RowD w b row l) (hp2 : ∀ y ∈ l2, y.length = 32) (hl : l.length ≤ 1000000) (hm2 : m ≤ 1000000) (hb : b ≤ w.heap.size)
    (h : ∀ row' w', RowD w' b row' (l ++ l2) → w.grownBy w' row.ownBlock → K (a.put o.dst row') w') : if Region.wanted o (yielded ops a.tmps) = true then Oper.wp Tryd.prog o a w K Q else E := by
  have hw : Region.wanted o (yielded ops a.tmps) = true := by simp [Region.wanted, hgd]
  rw [if_pos hw]
  obtain ⟨v', w', hr, h2, h3, h5⟩ := run_app_dg w o.type b row l l2 A m c hm hA hown hp2 hl hm2 hb
  unfold Oper.wp execOp
  simp only [ho, resolve, invoke, builtin, Sem.run_bind, Sem.run_pure, Result.andThen_ok, List.map_toArray, List.map_cons, List.map_nil, hs, hx, hr]
  exact h v' w' h2 h3
theorem step_appD5 {ops : Array Oper} {o : Oper} {a : Act} {K : Act → World → Prop} {Q : Exit → Act → World → Prop} {E : Prop} (w : World) (hgd : o.guard = none) (s x : Operand)
    (ho : o.op = .call { callee := .builtin .append, args := #[s, x], argTypes := #[31, 31] }) (b : Nat) (row : Value) (l l2 : List (List UInt8)) (A : Option Addr) (m c : Nat)
    (hs : a.eval s = row) (hx : a.eval x = .slice A m c) (hm : l2.length = m) (hA : DsAt w A l2) (hown : RowD w b row l) (hp2 : ∀ y ∈ l2, y.length = 32) (hl : l.length ≤ 1000000) (hm2 : m ≤ 1000000) (hb : b ≤ w.heap.size)
    (h : ∀ row' w', RowD w' b row' (l ++ l2) → w.grownBy w' row.ownBlock → (row'.ownBlock = row.ownBlock ∨ row'.ownBlock = some w.heap.size) → K (a.put o.dst row') w') : if Region.wanted o (yielded ops a.tmps) = true then Oper.wp Tryd.prog o a w K Q else E := by
  have hw : Region.wanted o (yielded ops a.tmps) = true := by simp [Region.wanted, hgd]
  rw [if_pos hw]
  obtain ⟨v', w', hr, h2, h3, h5⟩ := run_app_dg w o.type b row l l2 A m c hm hA hown hp2 hl hm2 hb
  unfold Oper.wp execOp
  simp only [ho, resolve, invoke, builtin, Sem.run_bind, Sem.run_pure, Result.andThen_ok, List.map_toArray, List.map_cons, List.map_nil, hs, hx, hr]
  exact h v' w' h2 h3 h5
/-- an empty slice of digests is made -/
theorem wpList_noneD {ops : Array Oper} {rest : List Oper} {o : Oper} {a : Act} {w : World} {Q : Exit → Act → World → Prop} (hgd : o.guard = none) (ho : o.op = .buildSlice 31 0 #[])
    (h : wpList Tryd.prog ops Q rest (a.put o.dst (.slice (some ⟨w.heap.size, 0, none⟩) 0 0)) (w.alloc (.cells #[] 23))) : wpList Tryd.prog ops Q (o :: rest) a w := by
  refine wpList_plain hgd fun K hK => ?_
  obtain ⟨i0, z, hi0, hz0, hz1, hz2, hz3⟩ := dg_zinfo
  have hr : (Instr.buildSlice 31 0 #[]).run Tryd.prog w = .ok (.slice (some ⟨w.heap.size, 0, none⟩) 0 0) (w.alloc (.cells #[] 23)) := by
    simp [Instr.buildSlice, run_underlying Tryd.underlying31, sizeOf, typeInfo, zeroValue, hi0, hz0, newRow, Instr.fill]
    rw [show ∀ d : Value, Array.map (fun _ => d) (Array.range 0) = #[] from fun d => Array.eq_empty_of_size_eq_zero (by simp)]
  unfold Oper.wp execOp
  simp only [ho, Sem.run_bind, List.map_toArray, List.map_nil, hr, Result.andThen_ok]
  exact hK _ _ h
theorem blow1 (w : World) (o : Obj) : Below w.heap.size w (w.alloc o) := (Below.refl _ _).alloc (Nat.le_refl _) o
theorem RowD.grown {w w' : World} {W : World} {B b : Nat} {row : Value} {l : List (List UInt8)} (h : RowD w b row l) (hB : Below B W w) (hb : B ≤ b) (hs : B ≤ w.heap.size) (hg : w.grownBy w' row.ownBlock) : Below B W w' :=
  hB.grown hg hs (fun k e => by have := (h.high e).1; omega)

end Go.Proofs.YtnccbhndlnkboaaDoor
