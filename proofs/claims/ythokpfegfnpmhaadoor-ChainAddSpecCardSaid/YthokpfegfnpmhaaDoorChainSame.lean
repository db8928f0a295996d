/- The walks of the reference's SameLink and Same. -/
import Derived.Test.YthokpfegfnpmhaaDoorChF
import Derived.Test.YthokpfegfnpmhaaDoorEqDg
namespace Go.Proofs.YthokpfegfnpmhaaDoor
open Go.RowKit Cdc Sha
set_option linter.unusedVariables false
set_option linter.unusedSimpArgs false

theorem lk_prev_at {W : World} {g : Nat} {x : Lk} {D : Value} (h : W.heap[g]? = some (.cells (lkA x D) 37 (0, 0))) : W.rangeAt g 2 (x.prev.map by1) := fun j v hj => by
  obtain ⟨y, hy, rfl⟩ : ∃ y, x.prev[j]? = some y ∧ by1 y = v := by simpa using hj
  rw [cell_of_row _ _ _ _ _ _ h]
  have := lkC_prev (D := D) hy
  simpa [lkA] using this
theorem lk_cells {W : World} {g : Nat} {x : Lk} {D : Value} (hp : x.prev.length = 32) (h : W.heap[g]? = some (.cells (lkA x D) 37 (0, 0))) :
    W.cell? ⟨g, 0, none⟩ = some (.int .i64 x.node) ∧ W.cell? ⟨g, 1, none⟩ = some (.int .i64 x.no) ∧ W.cell? ⟨g, 34, none⟩ = some D := by
  refine ⟨by rw [cell_of_row _ _ _ _ _ _ h]; simp [lkA, lkC], by rw [cell_of_row _ _ _ _ _ _ h]; simp [lkA, lkC], ?_⟩
  rw [cell_of_row _ _ _ _ _ _ h]
  have := lkC_data hp D
  simpa [lkA] using this
theorem dg_info' (bs : List UInt8) (h : bs.length = 32) : (Tryd.prog.info? 35).map (·.size) = some (bs.map by1).length := by rw [List.length_map, h]; kernel_rfl
/-- a digest is read out of a link -/
theorem lk_load {W : World} {g : Nat} {x : Lk} {D : Value} (hp : x.prev.length = 32) (h : W.heap[g]? = some (.cells (lkA x D) 37 (0, 0))) :
    (Instr.loadAt 35 (.pointer (some ⟨g, 2, none⟩))).run Tryd.prog W = .ok (.agg (dg x.prev)) W :=
  run_loadAt_mid W g 2 _ _ _ (lk_prev_at h) Tryd.underlying35 rfl (dg_info' _ hp)

/-- a guarded load out of the middle of a block -/
theorem wpList_load_midG {P : Program} {ops : Array Oper} {rest : List Oper} {op : Oper} {a : Act} {w : World} {Q : Exit → Act → World → Prop} (hgd : Region.wanted op (yielded ops a.tmps) = true) (ty : TypeId) (x : Operand) (ho : op.op = .load ty x)
    (b o : Nat) (hx : a.eval x = .pointer (some ⟨b, o, none⟩)) (cs : List Value) (d : TypeDesc) (hc : w.rangeAt b o cs)
    (hu : P.underlying ty = some d) (hd : d.isRow = true) (hi : (P.info? ty).map (·.size) = some cs.length)
    (h : wpList P ops Q rest (a.put op.dst (.agg cs.toArray)) w) : wpList P ops Q (op :: rest) a w := by
  unfold wpList
  rw [if_pos hgd]
  exact .inl (wp_load_mid ty x ho b o hx cs d hc hu hd hi h)

/-- what SameLink meets -/
structure SLf (x y : Lk) (A B : Option Addr) (n m c d g : Nat) (W : World) : Prop where
  a0 : W.cell? ⟨g, 0, none⟩ = some (.int .i64 x.node)
  a1 : W.cell? ⟨g, 1, none⟩ = some (.int .i64 x.no)
  a2 : W.cell? ⟨g, 34, none⟩ = some (.slice A n c)
  b0 : W.cell? ⟨g + 1, 0, none⟩ = some (.int .i64 y.node)
  b1 : W.cell? ⟨g + 1, 1, none⟩ = some (.int .i64 y.no)
  b2 : W.cell? ⟨g + 1, 34, none⟩ = some (.slice B m d)
  l0 : W.rangeAt g 2 (x.prev.map by1)
  l1 : W.rangeAt (g + 1) 2 (y.prev.map by1)
  i0 : (Tryd.prog.info? 35).map (·.size) = some (x.prev.map by1).length
  i1 : (Tryd.prog.info? 35).map (·.size) = some (y.prev.map by1).length
  v0 : (convert 23 9 (.slice A n c)).run Tryd.prog W = .ok (.string ⟨x.data.toArray⟩) W
  v1 : (convert 23 9 (.slice B m d)).run Tryd.prog W = .ok (.string ⟨y.data.toArray⟩) W
  q0 : ∀ V, (Op.equalIn 10000 35 (.agg (x.prev.map by1).toArray) (.agg (y.prev.map by1).toArray)).run Tryd.prog V = .ok (decide (x.prev = y.prev)) V

theorem slf_of (x y : Lk) (A B : Option Addr) (n m c d : Nat) (w : World) (hx : x.prev.length = 32) (hy : y.prev.length = 32) (hn : x.data.length = n) (hm : y.data.length = m) (hA : AtO w A x.data) (hB : AtO w B y.data) :
    SLf x y A B n m c d w.heap.size ((w.alloc (.cells (lkA x (.slice A n c)) 37)).alloc (.cells (lkA y (.slice B m d)) 37)) := by
  have r0 := heap_alloc_new w (.cells (lkA x (.slice A n c)) 37)
  have r1 := heap_alloc_new (w.alloc (.cells (lkA x (.slice A n c)) 37)) (.cells (lkA y (.slice B m d)) 37)
  have hs0 : (w.alloc (.cells (lkA x (.slice A n c)) 37)).heap.size = w.heap.size + 1 := by simp
  rw [hs0] at r1
  replace r0 := (((Below.refl (w.heap.size + 1) (w.alloc (.cells (lkA x (.slice A n c)) 37))).alloc (by omega) (.cells (lkA y (.slice B m d)) 37)).block w.heap.size (by omega)).trans r0
  have hBB := ((Below.refl w.heap.size w).alloc (Nat.le_refl _) (.cells (lkA x (.slice A n c)) 37)).alloc (by omega) (.cells (lkA y (.slice B m d)) 37)
  obtain ⟨a0, a1, a2⟩ := lk_cells hx r0
  obtain ⟨b0, b1, b2⟩ := lk_cells hy r1
  exact ⟨a0, a1, a2, b0, b1, b2, lk_prev_at r0, lk_prev_at r1, dg_info' _ hx, dg_info' _ hy, (hA.below hBB).conv n c hn, (hB.below hBB).conv m d hm, eq_dg x.prev y.prev hx hy⟩
set_option maxRecDepth 100000 in
set_option maxHeartbeats 4000000 in
theorem sl_eq (xn : Int) (xo : Int) (xp : List UInt8) (xd : List UInt8) (A B : Option Addr) (n m c d : Nat) (w : World) (h : SLf ⟨xn, xo, xp, xd⟩ ⟨xn, xo, xp, xd⟩ A B n m c d w.heap.size ((w.alloc (.cells (lkA ⟨xn, xo, xp, xd⟩ (.slice A n c)) 37)).alloc (.cells (lkA ⟨xn, xo, xp, xd⟩ (.slice B m d)) 37))) :
    Calls Tryd.prog 23 #[.agg (lkA ⟨xn, xo, xp, xd⟩ (.slice A n c)), .agg (lkA ⟨xn, xo, xp, xd⟩ (.slice B m d))] w fun e w' => e = .returned (.bool true) ∧ w' = ((w.alloc (.cells (lkA ⟨xn, xo, xp, xd⟩ (.slice A n c)) 37)).alloc (.cells (lkA ⟨xn, xo, xp, xd⟩ (.slice B m d)) 37)) := by
  obtain ⟨a0, a1, a2, b0, b1, b2, l0, l1, i0, i1, v0, v1, q0⟩ := h
  dsimp only at a0 a1 b0 b1 l0 l1 i0 i1 v0 v1 q0
  rw [decide_eq_true rfl] at q0
  replace l0 := Lib.hid l0
  replace l1 := Lib.hid l1
  replace i0 := Lib.hid i0
  replace i1 := Lib.hid i1
  go_enter Tryd.func23, Tryd.ntmps23
  go_wp2_with (first
    | (refine wpList_load_midG (by rfl) 35 (.tmp 18) (by rfl) w.heap.size 2 (by rfl) (xp.map by1) _ l0.out Tryd.underlying35 (by rfl) i0.out ?_)
    | (refine wpList_load_midG (by rfl) 35 (.tmp 20) (by rfl) (w.heap.size + 1) 2 (by rfl) (xp.map by1) _ l1.out Tryd.underlying35 (by rfl) i1.out ?_))
  go_ret
  exact ⟨rfl, rfl⟩
set_option maxRecDepth 100000 in
set_option maxHeartbeats 4000000 in
theorem sl_data (xn : Int) (xo : Int) (xp : List UInt8) (xd : List UInt8) (yd : List UInt8) (A B : Option Addr) (n m c d : Nat) (w : World) (hh : (xd == yd) = false) (h : SLf ⟨xn, xo, xp, xd⟩ ⟨xn, xo, xp, yd⟩ A B n m c d w.heap.size ((w.alloc (.cells (lkA ⟨xn, xo, xp, xd⟩ (.slice A n c)) 37)).alloc (.cells (lkA ⟨xn, xo, xp, yd⟩ (.slice B m d)) 37))) :
    Calls Tryd.prog 23 #[.agg (lkA ⟨xn, xo, xp, xd⟩ (.slice A n c)), .agg (lkA ⟨xn, xo, xp, yd⟩ (.slice B m d))] w fun e w' => e = .returned (.bool false) ∧ w' = ((w.alloc (.cells (lkA ⟨xn, xo, xp, xd⟩ (.slice A n c)) 37)).alloc (.cells (lkA ⟨xn, xo, xp, yd⟩ (.slice B m d)) 37)) := by
  obtain ⟨a0, a1, a2, b0, b1, b2, l0, l1, i0, i1, v0, v1, q0⟩ := h
  dsimp only at a0 a1 b0 b1 l0 l1 i0 i1 v0 v1 q0
  rw [decide_eq_true rfl] at q0
  replace l0 := Lib.hid l0
  replace l1 := Lib.hid l1
  replace i0 := Lib.hid i0
  replace i1 := Lib.hid i1
  go_enter Tryd.func23, Tryd.ntmps23
  go_wp2_with (first
    | (refine wpList_load_midG (by rfl) 35 (.tmp 18) (by rfl) w.heap.size 2 (by rfl) (xp.map by1) _ l0.out Tryd.underlying35 (by rfl) i0.out ?_)
    | (refine wpList_load_midG (by rfl) 35 (.tmp 20) (by rfl) (w.heap.size + 1) 2 (by rfl) (xp.map by1) _ l1.out Tryd.underlying35 (by rfl) i1.out ?_))
  go_ret
  exact ⟨rfl, rfl⟩
set_option maxRecDepth 100000 in
set_option maxHeartbeats 4000000 in
theorem sl_prev (xn : Int) (xo : Int) (xp : List UInt8) (yp : List UInt8) (xd : List UInt8) (yd : List UInt8) (A B : Option Addr) (n m c d : Nat) (w : World) (hh : decide (xp = yp) = false) (h : SLf ⟨xn, xo, xp, xd⟩ ⟨xn, xo, yp, yd⟩ A B n m c d w.heap.size ((w.alloc (.cells (lkA ⟨xn, xo, xp, xd⟩ (.slice A n c)) 37)).alloc (.cells (lkA ⟨xn, xo, yp, yd⟩ (.slice B m d)) 37))) :
    Calls Tryd.prog 23 #[.agg (lkA ⟨xn, xo, xp, xd⟩ (.slice A n c)), .agg (lkA ⟨xn, xo, yp, yd⟩ (.slice B m d))] w fun e w' => e = .returned (.bool false) ∧ w' = ((w.alloc (.cells (lkA ⟨xn, xo, xp, xd⟩ (.slice A n c)) 37)).alloc (.cells (lkA ⟨xn, xo, yp, yd⟩ (.slice B m d)) 37)) := by
  obtain ⟨a0, a1, a2, b0, b1, b2, l0, l1, i0, i1, v0, v1, q0⟩ := h
  dsimp only at a0 a1 b0 b1 l0 l1 i0 i1 v0 v1 q0
  rw [hh] at q0
  clear v0 v1
  replace l0 := Lib.hid l0
  replace l1 := Lib.hid l1
  replace i0 := Lib.hid i0
  replace i1 := Lib.hid i1
  replace hh := Lib.hid hh
  go_enter Tryd.func23, Tryd.ntmps23
  go_wp2_with (first
    | (refine wpList_load_midG (by rfl) 35 (.tmp 18) (by rfl) w.heap.size 2 (by rfl) (xp.map by1) _ l0.out Tryd.underlying35 (by rfl) i0.out ?_)
    | (refine wpList_load_midG (by rfl) 35 (.tmp 20) (by rfl) (w.heap.size + 1) 2 (by rfl) (yp.map by1) _ l1.out Tryd.underlying35 (by rfl) i1.out ?_))
  go_ret
  exact ⟨rfl, rfl⟩
set_option maxRecDepth 100000 in
set_option maxHeartbeats 4000000 in
theorem sl_no (xn : Int) (xo : Int) (yo : Int) (xp : List UInt8) (yp : List UInt8) (xd : List UInt8) (yd : List UInt8) (A B : Option Addr) (n m c d : Nat) (w : World) (hh : xo ≠ yo) (h : SLf ⟨xn, xo, xp, xd⟩ ⟨xn, yo, yp, yd⟩ A B n m c d w.heap.size ((w.alloc (.cells (lkA ⟨xn, xo, xp, xd⟩ (.slice A n c)) 37)).alloc (.cells (lkA ⟨xn, yo, yp, yd⟩ (.slice B m d)) 37))) :
    Calls Tryd.prog 23 #[.agg (lkA ⟨xn, xo, xp, xd⟩ (.slice A n c)), .agg (lkA ⟨xn, yo, yp, yd⟩ (.slice B m d))] w fun e w' => e = .returned (.bool false) ∧ w' = ((w.alloc (.cells (lkA ⟨xn, xo, xp, xd⟩ (.slice A n c)) 37)).alloc (.cells (lkA ⟨xn, yo, yp, yd⟩ (.slice B m d)) 37)) := by
  obtain ⟨a0, a1, a2, b0, b1, b2, l0, l1, i0, i1, v0, v1, q0⟩ := h
  dsimp only at a0 a1 b0 b1 l0 l1 i0 i1 v0 v1 q0
  clear q0
  clear v0 v1
  replace l0 := Lib.hid l0
  replace l1 := Lib.hid l1
  replace i0 := Lib.hid i0
  replace i1 := Lib.hid i1
  go_enter Tryd.func23, Tryd.ntmps23
  go_wp2_with (first
    | (refine wpList_load_midG (by rfl) 35 (.tmp 18) (by rfl) w.heap.size 2 (by rfl) (xp.map by1) _ l0.out Tryd.underlying35 (by rfl) i0.out ?_)
    | (refine wpList_load_midG (by rfl) 35 (.tmp 20) (by rfl) (w.heap.size + 1) 2 (by rfl) (yp.map by1) _ l1.out Tryd.underlying35 (by rfl) i1.out ?_))
  go_ret
  exact ⟨rfl, rfl⟩
set_option maxRecDepth 100000 in
set_option maxHeartbeats 4000000 in
theorem sl_node (xn : Int) (xo : Int) (yn : Int) (yo : Int) (xp : List UInt8) (yp : List UInt8) (xd : List UInt8) (yd : List UInt8) (A B : Option Addr) (n m c d : Nat) (w : World) (hh : xn ≠ yn) (h : SLf ⟨xn, xo, xp, xd⟩ ⟨yn, yo, yp, yd⟩ A B n m c d w.heap.size ((w.alloc (.cells (lkA ⟨xn, xo, xp, xd⟩ (.slice A n c)) 37)).alloc (.cells (lkA ⟨yn, yo, yp, yd⟩ (.slice B m d)) 37))) :
    Calls Tryd.prog 23 #[.agg (lkA ⟨xn, xo, xp, xd⟩ (.slice A n c)), .agg (lkA ⟨yn, yo, yp, yd⟩ (.slice B m d))] w fun e w' => e = .returned (.bool false) ∧ w' = ((w.alloc (.cells (lkA ⟨xn, xo, xp, xd⟩ (.slice A n c)) 37)).alloc (.cells (lkA ⟨yn, yo, yp, yd⟩ (.slice B m d)) 37)) := by
  obtain ⟨a0, a1, a2, b0, b1, b2, l0, l1, i0, i1, v0, v1, q0⟩ := h
  dsimp only at a0 a1 b0 b1 l0 l1 i0 i1 v0 v1 q0
  clear q0
  clear v0 v1
  replace l0 := Lib.hid l0
  replace l1 := Lib.hid l1
  replace i0 := Lib.hid i0
  replace i1 := Lib.hid i1
  go_enter Tryd.func23, Tryd.ntmps23
  go_wp2_with (first
    | (refine wpList_load_midG (by rfl) 35 (.tmp 18) (by rfl) w.heap.size 2 (by rfl) (xp.map by1) _ l0.out Tryd.underlying35 (by rfl) i0.out ?_)
    | (refine wpList_load_midG (by rfl) 35 (.tmp 20) (by rfl) (w.heap.size + 1) 2 (by rfl) (yp.map by1) _ l1.out Tryd.underlying35 (by rfl) i1.out ?_))
  go_ret
  exact ⟨rfl, rfl⟩

theorem samelink_any (x y : Lk) (A B : Option Addr) (n m c d : Nat) (w : World) (hx : x.prev.length = 32) (hy : y.prev.length = 32) (hn : x.data.length = n) (hm : y.data.length = m) (hA : AtO w A x.data) (hB : AtO w B y.data) :
    Calls Tryd.prog 23 #[.agg (lkA x (.slice A n c)), .agg (lkA y (.slice B m d))] w fun e w' => e = .returned (.bool (decide (x = y))) ∧ Below w.heap.size w w' := by
  have h := slf_of x y A B n m c d w hx hy hn hm hA hB
  have hBB := ((Below.refl w.heap.size w).alloc (Nat.le_refl _) (.cells (lkA x (.slice A n c)) 37)).alloc (by simp) (.cells (lkA y (.slice B m d)) 37)
  obtain ⟨xn, xo, xp, xd⟩ := x
  obtain ⟨yn, yo, yp, yd⟩ := y
  by_cases h1 : xn = yn
  · subst h1
    by_cases h2 : xo = yo
    · subst h2
      by_cases h3 : xp = yp
      · subst h3
        by_cases h4 : xd = yd
        · subst h4
          refine (sl_eq _ _ _ _ A B n m c d w h).mono ?_
          rintro e w' ⟨rfl, rfl⟩
          exact ⟨by simp, hBB⟩
        · refine (sl_data _ _ _ _ _ A B n m c d w (by simpa using h4) h).mono ?_
          rintro e w' ⟨rfl, rfl⟩
          exact ⟨by simp [h4], hBB⟩
      · refine (sl_prev _ _ _ _ _ _ A B n m c d w (decide_eq_false h3) h).mono ?_
        rintro e w' ⟨rfl, rfl⟩
        exact ⟨by simp [h3], hBB⟩
    · refine (sl_no _ _ _ _ _ _ _ A B n m c d w h2 h).mono ?_
      rintro e w' ⟨rfl, rfl⟩
      exact ⟨by simp [h2], hBB⟩
  · refine (sl_node _ _ _ _ _ _ _ _ A B n m c d w h1 h).mono ?_
    rintro e w' ⟨rfl, rfl⟩
    exact ⟨by simp [h1], hBB⟩
end Go.Proofs.YthokpfegfnpmhaaDoor
