/- The walks of offices.Check and Convict. -/
import Derived.Test.YthokpfegfnpmhaaDoorEqText
import Derived.Test.YthokpfegfnpmhaaDoorSigA
import Derived.Deep.RegionHeld3
import Derived.Deep.QuietTactic
import Derived.BigQuiet
namespace Go.Proofs.YthokpfegfnpmhaaDoor
open Go.RowKit Go.Shelf Jac Cdc Sha
set_option linter.unusedVariables false
set_option linter.unusedSimpArgs false

/-- what Check answers -/
noncomputable def ckP (key : Int) (p : Po) : Bool := decide (0 ≤ p.no ∧ p.no ≤ 1048576) && vfB key (poT p) p.e p.s
/-- what Convict answers -/
noncomputable def cvP (key : Int) (a b : Po) : Bool := decide (a.no = b.no) && !decide (a.root = b.root) && ckP key a && ckP key b
/-- a guarded load out of the middle of a block -/
theorem wpList_load_midG {P : Program} {ops : Array Oper} {rest : List Oper} {op : Oper} {a : Act} {w : World} {Q : Exit → Act → World → Prop} (hgd : Region.wanted op (yielded ops a.tmps) = true) (ty : TypeId) (x : Operand) (ho : op.op = .load ty x)
    (b o : Nat) (hx : a.eval x = .pointer (some ⟨b, o, none⟩)) (cs : List Value) (d : TypeDesc) (hc : w.rangeAt b o cs)
    (hu : P.underlying ty = some d) (hd : d.isRow = true) (hi : (P.info? ty).map (·.size) = some cs.length)
    (h : wpList P ops Q rest (a.put op.dst (.agg cs.toArray)) w) : wpList P ops Q (op :: rest) a w := by
  unfold wpList
  rw [if_pos hgd]
  exact .inl (wp_load_mid ty x ho b o hx cs d hc hu hd hi h)

set_option maxRecDepth 100000 in
set_option maxHeartbeats 4000000 in
theorem ocheck_lo (key : Int) (p : Po) (hp : p.root.length = 32) (w : World) (h : p.no < 0) :
    Calls Tryd.prog 30 #[.int .i64 key, .agg (poA p)] w fun e w' => e = .returned (.bool false) ∧ Below w.heap.size w w' := by
  have hrow := heap_alloc_new w (.cells (poA p) 49)
  have hB := (Below.refl w.heap.size w).alloc (Nat.le_refl _) (.cells (poA p) 49)
  have hlt := (Array.getElem?_eq_some_iff.1 hrow).1
  have hS : Hid (∀ V, Below (w.alloc (.cells (poA p) 49)).heap.size (w.alloc (.cells (poA p) 49)) V → V.cell? ⟨w.heap.size, 0, none⟩ = some (.int .i64 p.no) ∧ V.cell? ⟨w.heap.size, 33, none⟩ = some (.int .i64 p.e) ∧ V.cell? ⟨w.heap.size, 34, none⟩ = some (.int .i64 p.s) ∧ V.rangeAt w.heap.size 0 (poC p)) := Lib.hid fun V hV => by
    have h := (hV.block w.heap.size hlt).trans hrow
    obtain ⟨c0, c1, c2⟩ := po_cells hp h
    exact ⟨c0, c1, c2, po_row h⟩
  have HB : Below (w.alloc (.cells (poA p) 49)).heap.size (w.alloc (.cells (poA p) 49)) (w.alloc (.cells (poA p) 49)).drew := (Below.refl _ _).drew
  have hi := Lib.hid (po_info' hp)
  have h9 : decide (0 ≤ p.no) = false := by simp; omega
  replace hp := Lib.hid hp
  clear hrow hlt
  go_enter Tryd.func30, Tryd.ntmps30
  go_wp2_with fail
  refine wp_region_held_drew (S := fun w' => w'.cell? ⟨w.heap.size, 0, none⟩ = some (.int .i64 p.no) ∧ w'.cell? ⟨w.heap.size, 33, none⟩ = some (.int .i64 p.e) ∧ w'.cell? ⟨w.heap.size, 34, none⟩ = some (.int .i64 p.s) ∧ w'.rangeAt w.heap.size 0 (poC p)) (by kernel_rfl) (by exact hS.out _ HB) (fun hHeld => ?_)
  refine wpAnyH_take (i := 0) (oi := { dst := some 5, op := Op.fieldAddr 49 (Operand.tmp 3) 0, type := 0, pos := "offices.go:61", after := #[], guard := none }) (v := ?_) rfl (by kernel_rfl) (by kernel_rfl) (by kernel_rfl) (fun _ _ _ h => h) (Or.inl ⟨by rfl, ?hy0⟩) hHeld ?rest0
  case hy0 =>
    intro w hSw
    try dsimp only at hSw
    go_simp
    try with_reducible rfl
  try simp only [Act.put, List.setIfInBounds_toArray, List.set_cons_zero, List.set_cons_succ]
  refine wpAnyH_take (i := 1) (oi := { dst := some 6, op := Op.load 3 (Operand.tmp 5), type := 3, pos := "offices.go:61", after := #[{ on := 0, ground := Ground.data }], guard := none }) (v := ?_) rfl (by kernel_rfl) (by kernel_rfl) (by kernel_rfl) (fun _ _ _ h => h) (Or.inl ⟨by rfl, ?hy1⟩) hHeld ?rest1
  case hy1 =>
    intro w hSw
    try dsimp only at hSw
    go_simp
    try with_reducible rfl
  try simp only [Act.put, List.setIfInBounds_toArray, List.set_cons_zero, List.set_cons_succ]
  refine wpAnyH_take (i := 2) (oi := { dst := some 7, op := Op.binOp BinOp.geq 3 (Operand.tmp 6) (Operand.const (Value.int IntKind.i64 0)) 3, type := 4, pos := "offices.go:61", after := #[{ on := 1, ground := Ground.data }], guard := none }) (v := ?_) rfl (by kernel_rfl) (by kernel_rfl) (by kernel_rfl) (fun _ _ _ h => h) (Or.inl ⟨by rfl, ?hy2⟩) hHeld ?rest2
  case hy2 =>
    intro w hSw
    try dsimp only at hSw
    go_simp
    try with_reducible rfl
  try simp only [Act.put, List.setIfInBounds_toArray, List.set_cons_zero, List.set_cons_succ]
  refine wpAnyH_take (i := 3) (oi := { dst := some 8, op := Op.move (Operand.tmp 7), type := 4, pos := "offices.go:61", after := #[{ on := 2, ground := Ground.data }], guard := none }) (v := ?_) rfl (by kernel_rfl) (by kernel_rfl) (by kernel_rfl) (fun _ _ _ h => h) (Or.inl ⟨by rfl, ?hy3⟩) hHeld ?rest3
  case hy3 =>
    intro w hSw
    try dsimp only at hSw
    go_simp
    try with_reducible rfl
  try simp only [Act.put, List.setIfInBounds_toArray, List.set_cons_zero, List.set_cons_succ]
  refine wpAnyH_take (i := 4) (oi := { dst := some 9, op := Op.fieldAddr 49 (Operand.tmp 3) 0, type := 0, pos := "offices.go:61", after := #[{ on := 3, ground := Ground.guard }], guard := some (3, true) }) (v := undef) rfl (by kernel_rfl) (by kernel_rfl) (by kernel_rfl) (fun _ _ _ h => h) (Or.inr ⟨by rfl, rfl⟩) hHeld ?_
  try simp only [Act.put, List.setIfInBounds_toArray, List.set_cons_zero, List.set_cons_succ]
  refine wpAnyH_take (i := 5) (oi := { dst := some 10, op := Op.load 3 (Operand.tmp 9), type := 3, pos := "offices.go:61", after := #[{ on := 4, ground := Ground.data }, { on := 3, ground := Ground.guard }], guard := some (3, true) }) (v := undef) rfl (by kernel_rfl) (by kernel_rfl) (by kernel_rfl) (fun _ _ _ h => h) (Or.inr ⟨by rfl, rfl⟩) hHeld ?_
  try simp only [Act.put, List.setIfInBounds_toArray, List.set_cons_zero, List.set_cons_succ]
  refine wpAnyH_take (i := 6) (oi := { dst := some 11, op := Op.binOp BinOp.leq 3 (Operand.tmp 10) (Operand.const (Value.int IntKind.i64 1048576)) 3, type := 4, pos := "offices.go:61", after := #[{ on := 5, ground := Ground.data }, { on := 3, ground := Ground.guard }], guard := some (3, true) }) (v := undef) rfl (by kernel_rfl) (by kernel_rfl) (by kernel_rfl) (fun _ _ _ h => h) (Or.inr ⟨by rfl, rfl⟩) hHeld ?_
  try simp only [Act.put, List.setIfInBounds_toArray, List.set_cons_zero, List.set_cons_succ]
  refine wpAnyH_take (i := 7) (oi := { dst := some 12, op := Op.pick (Operand.tmp 8) (Operand.tmp 11) (Operand.const (Value.bool false)), type := 4, pos := "offices.go:61", after := #[{ on := 3, ground := Ground.data }, { on := 6, ground := Ground.data }], guard := none }) (v := ?_) rfl (by kernel_rfl) (by kernel_rfl) (by kernel_rfl) (fun _ _ _ h => h) (Or.inl ⟨by rfl, ?hy7⟩) hHeld ?rest7
  case hy7 =>
    intro w hSw
    try dsimp only at hSw
    go_simp
    try with_reducible rfl
  try simp only [Act.put, List.setIfInBounds_toArray, List.set_cons_zero, List.set_cons_succ]
  refine wpAnyH_take (i := 8) (oi := { dst := some 13, op := Op.move (Operand.tmp 12), type := 4, pos := "offices.go:61", after := #[{ on := 7, ground := Ground.data }, { on := 3, ground := Ground.chain }], guard := none }) (v := ?_) rfl (by kernel_rfl) (by kernel_rfl) (by kernel_rfl) (fun _ _ _ h => h) (Or.inl ⟨by rfl, ?hy8⟩) hHeld ?rest8
  case hy8 =>
    intro w hSw
    try dsimp only at hSw
    go_simp
    try with_reducible rfl
  try simp only [Act.put, List.setIfInBounds_toArray, List.set_cons_zero, List.set_cons_succ]
  refine wpAnyH_take (i := 9) (oi := { dst := some 14, op := Op.move (Operand.tmp 0), type := 3, pos := "offices.go:61", after := #[{ on := 8, ground := Ground.guard }], guard := some (8, true) }) (v := undef) rfl (by kernel_rfl) (by kernel_rfl) (by kernel_rfl) (fun _ _ _ h => h) (Or.inr ⟨by rfl, rfl⟩) hHeld ?_
  try simp only [Act.put, List.setIfInBounds_toArray, List.set_cons_zero, List.set_cons_succ]
  refine wpAnyH_take (i := 10) (oi := { dst := some 15, op := Op.load 49 (Operand.tmp 3), type := 49, pos := "offices.go:61", after := #[{ on := 8, ground := Ground.guard }], guard := some (8, true) }) (v := undef) rfl (by kernel_rfl) (by kernel_rfl) (by kernel_rfl) (fun _ _ _ h => h) (Or.inr ⟨by rfl, rfl⟩) hHeld ?_
  try simp only [Act.put, List.setIfInBounds_toArray, List.set_cons_zero, List.set_cons_succ]
  refine wpAnyH_take (i := 11) (oi := { dst := some 16, op := Op.call { callee := Callee.value (Operand.func 57), args := #[Operand.tmp 15], argTypes := #[49] }, type := 23, pos := "offices.go:61", after := #[{ on := 10, ground := Ground.data }, { on := 8, ground := Ground.chain }, { on := 8, ground := Ground.guard }], guard := some (8, true) }) (v := undef) rfl (by kernel_rfl) (by kernel_rfl) (by kernel_rfl) (fun _ _ _ h => h) (Or.inr ⟨by rfl, rfl⟩) hHeld ?_
  try simp only [Act.put, List.setIfInBounds_toArray, List.set_cons_zero, List.set_cons_succ]
  refine wpAnyH_take (i := 12) (oi := { dst := some 17, op := Op.fieldAddr 49 (Operand.tmp 3) 2, type := 0, pos := "offices.go:61", after := #[{ on := 8, ground := Ground.guard }], guard := some (8, true) }) (v := undef) rfl (by kernel_rfl) (by kernel_rfl) (by kernel_rfl) (fun _ _ _ h => h) (Or.inr ⟨by rfl, rfl⟩) hHeld ?_
  try simp only [Act.put, List.setIfInBounds_toArray, List.set_cons_zero, List.set_cons_succ]
  refine wpAnyH_take (i := 13) (oi := { dst := some 18, op := Op.load 47 (Operand.tmp 17), type := 47, pos := "offices.go:61", after := #[{ on := 12, ground := Ground.data }, { on := 8, ground := Ground.guard }], guard := some (8, true) }) (v := undef) rfl (by kernel_rfl) (by kernel_rfl) (by kernel_rfl) (fun _ _ _ h => h) (Or.inr ⟨by rfl, rfl⟩) hHeld ?_
  try simp only [Act.put, List.setIfInBounds_toArray, List.set_cons_zero, List.set_cons_succ]
  refine wpAnyH_take (i := 14) (oi := { dst := some 19, op := Op.call { callee := Callee.value (Operand.func 61), args := #[Operand.tmp 14, Operand.tmp 16, Operand.tmp 18], argTypes := #[3, 23, 47] }, type := 4, pos := "offices.go:61", after := #[{ on := 9, ground := Ground.data }, { on := 11, ground := Ground.data }, { on := 13, ground := Ground.data }, { on := 11, ground := Ground.chain }, { on := 8, ground := Ground.guard }], guard := some (8, true) }) (v := undef) rfl (by kernel_rfl) (by kernel_rfl) (by kernel_rfl) (fun _ _ _ h => h) (Or.inr ⟨by rfl, rfl⟩) hHeld ?_
  try simp only [Act.put, List.setIfInBounds_toArray, List.set_cons_zero, List.set_cons_succ]
  refine wpAnyH_take (i := 15) (oi := { dst := some 20, op := Op.pick (Operand.tmp 13) (Operand.tmp 19) (Operand.const (Value.bool false)), type := 4, pos := "offices.go:61", after := #[{ on := 8, ground := Ground.data }, { on := 14, ground := Ground.data }], guard := none }) (v := ?_) rfl (by kernel_rfl) (by kernel_rfl) (by kernel_rfl) (fun _ _ _ h => h) (Or.inl ⟨by rfl, ?hy15⟩) hHeld ?rest15
  case hy15 =>
    intro w hSw
    try dsimp only at hSw
    go_simp
    try with_reducible rfl
  try simp only [Act.put, List.setIfInBounds_toArray, List.set_cons_zero, List.set_cons_succ]
  refine wpAnyH_take (i := 16) (oi := { dst := some 4, op := Op.assign (Operand.tmp 20), type := 4, pos := "offices.go:61", after := #[{ on := 15, ground := Ground.data }, { on := 14, ground := Ground.chain }, { on := 0, ground := Ground.phase }, { on := 1, ground := Ground.phase }, { on := 2, ground := Ground.phase }, { on := 3, ground := Ground.phase }, { on := 4, ground := Ground.phase }, { on := 5, ground := Ground.phase }, { on := 6, ground := Ground.phase }, { on := 7, ground := Ground.phase }, { on := 8, ground := Ground.phase }, { on := 9, ground := Ground.phase }, { on := 10, ground := Ground.phase }, { on := 11, ground := Ground.phase }, { on := 12, ground := Ground.phase }, { on := 13, ground := Ground.phase }, { on := 14, ground := Ground.phase }, { on := 15, ground := Ground.phase }], guard := none }) (v := ?_) rfl (by kernel_rfl) (by kernel_rfl) (by kernel_rfl) (fun _ _ _ h => h) (Or.inl ⟨by rfl, ?hy16⟩) hHeld ?rest16
  case hy16 =>
    intro w hSw
    try dsimp only at hSw
    go_simp
    try with_reducible rfl
  try simp only [Act.put, List.setIfInBounds_toArray, List.set_cons_zero, List.set_cons_succ]
  refine wpAnyH_done (by kernel_rfl) ?_ _
  go_wp2_with fail
  go_ret
  exact ⟨rfl, hB.trans (HB.mono hB.size)⟩

set_option maxRecDepth 100000 in
set_option maxHeartbeats 4000000 in
theorem ocheck_hi (key : Int) (p : Po) (hp : p.root.length = 32) (w : World) (h0 : 0 ≤ p.no) (h : 1048576 < p.no) :
    Calls Tryd.prog 30 #[.int .i64 key, .agg (poA p)] w fun e w' => e = .returned (.bool false) ∧ Below w.heap.size w w' := by
  have hrow := heap_alloc_new w (.cells (poA p) 49)
  have hB := (Below.refl w.heap.size w).alloc (Nat.le_refl _) (.cells (poA p) 49)
  have hlt := (Array.getElem?_eq_some_iff.1 hrow).1
  have hS : Hid (∀ V, Below (w.alloc (.cells (poA p) 49)).heap.size (w.alloc (.cells (poA p) 49)) V → V.cell? ⟨w.heap.size, 0, none⟩ = some (.int .i64 p.no) ∧ V.cell? ⟨w.heap.size, 33, none⟩ = some (.int .i64 p.e) ∧ V.cell? ⟨w.heap.size, 34, none⟩ = some (.int .i64 p.s) ∧ V.rangeAt w.heap.size 0 (poC p)) := Lib.hid fun V hV => by
    have h := (hV.block w.heap.size hlt).trans hrow
    obtain ⟨c0, c1, c2⟩ := po_cells hp h
    exact ⟨c0, c1, c2, po_row h⟩
  have HB : Below (w.alloc (.cells (poA p) 49)).heap.size (w.alloc (.cells (poA p) 49)) (w.alloc (.cells (poA p) 49)).drew := (Below.refl _ _).drew
  have hi := Lib.hid (po_info' hp)
  have h9 : decide (p.no ≤ 1048576) = false := by simp; omega
  replace hp := Lib.hid hp
  clear hrow hlt
  go_enter Tryd.func30, Tryd.ntmps30
  go_wp2_with fail
  refine wp_region_held_drew (S := fun w' => w'.cell? ⟨w.heap.size, 0, none⟩ = some (.int .i64 p.no) ∧ w'.cell? ⟨w.heap.size, 33, none⟩ = some (.int .i64 p.e) ∧ w'.cell? ⟨w.heap.size, 34, none⟩ = some (.int .i64 p.s) ∧ w'.rangeAt w.heap.size 0 (poC p)) (by kernel_rfl) (by exact hS.out _ HB) (fun hHeld => ?_)
  refine wpAnyH_take (i := 0) (oi := { dst := some 5, op := Op.fieldAddr 49 (Operand.tmp 3) 0, type := 0, pos := "offices.go:61", after := #[], guard := none }) (v := ?_) rfl (by kernel_rfl) (by kernel_rfl) (by kernel_rfl) (fun _ _ _ h => h) (Or.inl ⟨by rfl, ?hya0⟩) hHeld ?resta0
  case hya0 =>
    intro w hSw
    try dsimp only at hSw
    go_simp
    try with_reducible rfl
  try simp only [Act.put, List.setIfInBounds_toArray, List.set_cons_zero, List.set_cons_succ]
  refine wpAnyH_take (i := 1) (oi := { dst := some 6, op := Op.load 3 (Operand.tmp 5), type := 3, pos := "offices.go:61", after := #[{ on := 0, ground := Ground.data }], guard := none }) (v := ?_) rfl (by kernel_rfl) (by kernel_rfl) (by kernel_rfl) (fun _ _ _ h => h) (Or.inl ⟨by rfl, ?hya1⟩) hHeld ?resta1
  case hya1 =>
    intro w hSw
    try dsimp only at hSw
    go_simp
    try with_reducible rfl
  try simp only [Act.put, List.setIfInBounds_toArray, List.set_cons_zero, List.set_cons_succ]
  refine wpAnyH_take (i := 2) (oi := { dst := some 7, op := Op.binOp BinOp.geq 3 (Operand.tmp 6) (Operand.const (Value.int IntKind.i64 0)) 3, type := 4, pos := "offices.go:61", after := #[{ on := 1, ground := Ground.data }], guard := none }) (v := ?_) rfl (by kernel_rfl) (by kernel_rfl) (by kernel_rfl) (fun _ _ _ h => h) (Or.inl ⟨by rfl, ?hya2⟩) hHeld ?resta2
  case hya2 =>
    intro w hSw
    try dsimp only at hSw
    go_simp
    try with_reducible rfl
  try simp only [Act.put, List.setIfInBounds_toArray, List.set_cons_zero, List.set_cons_succ]
  refine wpAnyH_take (i := 3) (oi := { dst := some 8, op := Op.move (Operand.tmp 7), type := 4, pos := "offices.go:61", after := #[{ on := 2, ground := Ground.data }], guard := none }) (v := ?_) rfl (by kernel_rfl) (by kernel_rfl) (by kernel_rfl) (fun _ _ _ h => h) (Or.inl ⟨by rfl, ?hya3⟩) hHeld ?resta3
  case hya3 =>
    intro w hSw
    try dsimp only at hSw
    go_simp
    try with_reducible rfl
  try simp only [Act.put, List.setIfInBounds_toArray, List.set_cons_zero, List.set_cons_succ]
  refine wpAnyH_take (i := 4) (oi := { dst := some 9, op := Op.fieldAddr 49 (Operand.tmp 3) 0, type := 0, pos := "offices.go:61", after := #[{ on := 3, ground := Ground.guard }], guard := some (3, true) }) (v := ?_) rfl (by kernel_rfl) (by kernel_rfl) (by kernel_rfl) (fun _ _ _ h => h) (Or.inl ⟨by rfl, ?hya4⟩) hHeld ?resta4
  case hya4 =>
    intro w hSw
    try dsimp only at hSw
    go_simp
    try with_reducible rfl
  try simp only [Act.put, List.setIfInBounds_toArray, List.set_cons_zero, List.set_cons_succ]
  refine wpAnyH_take (i := 5) (oi := { dst := some 10, op := Op.load 3 (Operand.tmp 9), type := 3, pos := "offices.go:61", after := #[{ on := 4, ground := Ground.data }, { on := 3, ground := Ground.guard }], guard := some (3, true) }) (v := ?_) rfl (by kernel_rfl) (by kernel_rfl) (by kernel_rfl) (fun _ _ _ h => h) (Or.inl ⟨by rfl, ?hya5⟩) hHeld ?resta5
  case hya5 =>
    intro w hSw
    try dsimp only at hSw
    go_simp
    try with_reducible rfl
  try simp only [Act.put, List.setIfInBounds_toArray, List.set_cons_zero, List.set_cons_succ]
  refine wpAnyH_take (i := 6) (oi := { dst := some 11, op := Op.binOp BinOp.leq 3 (Operand.tmp 10) (Operand.const (Value.int IntKind.i64 1048576)) 3, type := 4, pos := "offices.go:61", after := #[{ on := 5, ground := Ground.data }, { on := 3, ground := Ground.guard }], guard := some (3, true) }) (v := ?_) rfl (by kernel_rfl) (by kernel_rfl) (by kernel_rfl) (fun _ _ _ h => h) (Or.inl ⟨by rfl, ?hya6⟩) hHeld ?resta6
  case hya6 =>
    intro w hSw
    try dsimp only at hSw
    go_simp
    try with_reducible rfl
  try simp only [Act.put, List.setIfInBounds_toArray, List.set_cons_zero, List.set_cons_succ]
  refine wpAnyH_take (i := 7) (oi := { dst := some 12, op := Op.pick (Operand.tmp 8) (Operand.tmp 11) (Operand.const (Value.bool false)), type := 4, pos := "offices.go:61", after := #[{ on := 3, ground := Ground.data }, { on := 6, ground := Ground.data }], guard := none }) (v := ?_) rfl (by kernel_rfl) (by kernel_rfl) (by kernel_rfl) (fun _ _ _ h => h) (Or.inl ⟨by rfl, ?hya7⟩) hHeld ?resta7
  case hya7 =>
    intro w hSw
    try dsimp only at hSw
    go_simp
    try with_reducible rfl
  try simp only [Act.put, List.setIfInBounds_toArray, List.set_cons_zero, List.set_cons_succ]
  refine wpAnyH_take (i := 8) (oi := { dst := some 13, op := Op.move (Operand.tmp 12), type := 4, pos := "offices.go:61", after := #[{ on := 7, ground := Ground.data }, { on := 3, ground := Ground.chain }], guard := none }) (v := ?_) rfl (by kernel_rfl) (by kernel_rfl) (by kernel_rfl) (fun _ _ _ h => h) (Or.inl ⟨by rfl, ?hya8⟩) hHeld ?resta8
  case hya8 =>
    intro w hSw
    try dsimp only at hSw
    go_simp
    try with_reducible rfl
  try simp only [Act.put, List.setIfInBounds_toArray, List.set_cons_zero, List.set_cons_succ]
  refine wpAnyH_take (i := 9) (oi := { dst := some 14, op := Op.move (Operand.tmp 0), type := 3, pos := "offices.go:61", after := #[{ on := 8, ground := Ground.guard }], guard := some (8, true) }) (v := undef) rfl (by kernel_rfl) (by kernel_rfl) (by kernel_rfl) (fun _ _ _ h => h) (Or.inr ⟨by rfl, rfl⟩) hHeld ?_
  try simp only [Act.put, List.setIfInBounds_toArray, List.set_cons_zero, List.set_cons_succ]
  refine wpAnyH_take (i := 10) (oi := { dst := some 15, op := Op.load 49 (Operand.tmp 3), type := 49, pos := "offices.go:61", after := #[{ on := 8, ground := Ground.guard }], guard := some (8, true) }) (v := undef) rfl (by kernel_rfl) (by kernel_rfl) (by kernel_rfl) (fun _ _ _ h => h) (Or.inr ⟨by rfl, rfl⟩) hHeld ?_
  try simp only [Act.put, List.setIfInBounds_toArray, List.set_cons_zero, List.set_cons_succ]
  refine wpAnyH_take (i := 11) (oi := { dst := some 16, op := Op.call { callee := Callee.value (Operand.func 57), args := #[Operand.tmp 15], argTypes := #[49] }, type := 23, pos := "offices.go:61", after := #[{ on := 10, ground := Ground.data }, { on := 8, ground := Ground.chain }, { on := 8, ground := Ground.guard }], guard := some (8, true) }) (v := undef) rfl (by kernel_rfl) (by kernel_rfl) (by kernel_rfl) (fun _ _ _ h => h) (Or.inr ⟨by rfl, rfl⟩) hHeld ?_
  try simp only [Act.put, List.setIfInBounds_toArray, List.set_cons_zero, List.set_cons_succ]
  refine wpAnyH_take (i := 12) (oi := { dst := some 17, op := Op.fieldAddr 49 (Operand.tmp 3) 2, type := 0, pos := "offices.go:61", after := #[{ on := 8, ground := Ground.guard }], guard := some (8, true) }) (v := undef) rfl (by kernel_rfl) (by kernel_rfl) (by kernel_rfl) (fun _ _ _ h => h) (Or.inr ⟨by rfl, rfl⟩) hHeld ?_
  try simp only [Act.put, List.setIfInBounds_toArray, List.set_cons_zero, List.set_cons_succ]
  refine wpAnyH_take (i := 13) (oi := { dst := some 18, op := Op.load 47 (Operand.tmp 17), type := 47, pos := "offices.go:61", after := #[{ on := 12, ground := Ground.data }, { on := 8, ground := Ground.guard }], guard := some (8, true) }) (v := undef) rfl (by kernel_rfl) (by kernel_rfl) (by kernel_rfl) (fun _ _ _ h => h) (Or.inr ⟨by rfl, rfl⟩) hHeld ?_
  try simp only [Act.put, List.setIfInBounds_toArray, List.set_cons_zero, List.set_cons_succ]
  refine wpAnyH_take (i := 14) (oi := { dst := some 19, op := Op.call { callee := Callee.value (Operand.func 61), args := #[Operand.tmp 14, Operand.tmp 16, Operand.tmp 18], argTypes := #[3, 23, 47] }, type := 4, pos := "offices.go:61", after := #[{ on := 9, ground := Ground.data }, { on := 11, ground := Ground.data }, { on := 13, ground := Ground.data }, { on := 11, ground := Ground.chain }, { on := 8, ground := Ground.guard }], guard := some (8, true) }) (v := undef) rfl (by kernel_rfl) (by kernel_rfl) (by kernel_rfl) (fun _ _ _ h => h) (Or.inr ⟨by rfl, rfl⟩) hHeld ?_
  try simp only [Act.put, List.setIfInBounds_toArray, List.set_cons_zero, List.set_cons_succ]
  refine wpAnyH_take (i := 15) (oi := { dst := some 20, op := Op.pick (Operand.tmp 13) (Operand.tmp 19) (Operand.const (Value.bool false)), type := 4, pos := "offices.go:61", after := #[{ on := 8, ground := Ground.data }, { on := 14, ground := Ground.data }], guard := none }) (v := ?_) rfl (by kernel_rfl) (by kernel_rfl) (by kernel_rfl) (fun _ _ _ h => h) (Or.inl ⟨by rfl, ?hya15⟩) hHeld ?resta15
  case hya15 =>
    intro w hSw
    try dsimp only at hSw
    go_simp
    try with_reducible rfl
  try simp only [Act.put, List.setIfInBounds_toArray, List.set_cons_zero, List.set_cons_succ]
  refine wpAnyH_take (i := 16) (oi := { dst := some 4, op := Op.assign (Operand.tmp 20), type := 4, pos := "offices.go:61", after := #[{ on := 15, ground := Ground.data }, { on := 14, ground := Ground.chain }, { on := 0, ground := Ground.phase }, { on := 1, ground := Ground.phase }, { on := 2, ground := Ground.phase }, { on := 3, ground := Ground.phase }, { on := 4, ground := Ground.phase }, { on := 5, ground := Ground.phase }, { on := 6, ground := Ground.phase }, { on := 7, ground := Ground.phase }, { on := 8, ground := Ground.phase }, { on := 9, ground := Ground.phase }, { on := 10, ground := Ground.phase }, { on := 11, ground := Ground.phase }, { on := 12, ground := Ground.phase }, { on := 13, ground := Ground.phase }, { on := 14, ground := Ground.phase }, { on := 15, ground := Ground.phase }], guard := none }) (v := ?_) rfl (by kernel_rfl) (by kernel_rfl) (by kernel_rfl) (fun _ _ _ h => h) (Or.inl ⟨by rfl, ?hya16⟩) hHeld ?resta16
  case hya16 =>
    intro w hSw
    try dsimp only at hSw
    go_simp
    try with_reducible rfl
  try simp only [Act.put, List.setIfInBounds_toArray, List.set_cons_zero, List.set_cons_succ]
  refine wpAnyH_done (by kernel_rfl) ?_ _
  go_wp2_with fail
  go_ret
  exact ⟨rfl, hB.trans (HB.mono hB.size)⟩

set_option maxRecDepth 100000 in
set_option maxHeartbeats 4000000 in
theorem ocheck_in (key : Int) (p : Po) (hp : p.root.length = 32) (w : World) (h0 : 0 ≤ p.no) (h1 : p.no ≤ 1048576) (hL : Laid w) :
    Calls Tryd.prog 30 #[.int .i64 key, .agg (poA p)] w fun e w' => e = .returned (.bool (vfB key (poT p) p.e p.s)) ∧ Below w.heap.size w w' := by
  have hrow := heap_alloc_new w (.cells (poA p) 49)
  have hB := (Below.refl w.heap.size w).alloc (Nat.le_refl _) (.cells (poA p) 49)
  have hlt := (Array.getElem?_eq_some_iff.1 hrow).1
  have hS : Hid (∀ V, Below (w.alloc (.cells (poA p) 49)).heap.size (w.alloc (.cells (poA p) 49)) V → V.cell? ⟨w.heap.size, 0, none⟩ = some (.int .i64 p.no) ∧ V.cell? ⟨w.heap.size, 33, none⟩ = some (.int .i64 p.e) ∧ V.cell? ⟨w.heap.size, 34, none⟩ = some (.int .i64 p.s) ∧ V.rangeAt w.heap.size 0 (poC p)) := Lib.hid fun V hV => by
    have h := (hV.block w.heap.size hlt).trans hrow
    obtain ⟨c0, c1, c2⟩ := po_cells hp h
    exact ⟨c0, c1, c2, po_row h⟩
  have HB : Below (w.alloc (.cells (poA p) 49)).heap.size (w.alloc (.cells (poA p) 49)) (w.alloc (.cells (poA p) 49)).drew := (Below.refl _ _).drew
  have hi := Lib.hid (po_info' hp)
  have hT : Hid (∀ W : World, Calls Tryd.prog 57 #[.agg (poA p)] W (Fresh (poT p) W)) := Lib.hid fun W => textOf_any p hp ⟨by omega, by omega⟩ W
  have hlen : Hid ((poT p).length ≤ 1000) := Lib.hid (po_sm p hp ⟨by omega, by omega⟩).2.1
  replace hp := Lib.hid hp
  clear hrow hlt
  go_enter Tryd.func30, Tryd.ntmps30
  go_wp2_with fail
  refine wp_region_held_drew (S := fun w' => w'.cell? ⟨w.heap.size, 0, none⟩ = some (.int .i64 p.no) ∧ w'.cell? ⟨w.heap.size, 33, none⟩ = some (.int .i64 p.e) ∧ w'.cell? ⟨w.heap.size, 34, none⟩ = some (.int .i64 p.s) ∧ w'.rangeAt w.heap.size 0 (poC p)) (by kernel_rfl) (by exact hS.out _ HB) (fun hHeld => ?_)
  refine wpAnyH_take (i := 0) (oi := { dst := some 5, op := Op.fieldAddr 49 (Operand.tmp 3) 0, type := 0, pos := "offices.go:61", after := #[], guard := none }) (v := ?_) rfl (by kernel_rfl) (by kernel_rfl) (by kernel_rfl) (fun _ _ _ h => h) (Or.inl ⟨by rfl, ?hyaa0⟩) hHeld ?restaa0
  case hyaa0 =>
    intro w hSw
    try dsimp only at hSw
    go_simp
    try with_reducible rfl
  try simp only [Act.put, List.setIfInBounds_toArray, List.set_cons_zero, List.set_cons_succ]
  refine wpAnyH_take (i := 1) (oi := { dst := some 6, op := Op.load 3 (Operand.tmp 5), type := 3, pos := "offices.go:61", after := #[{ on := 0, ground := Ground.data }], guard := none }) (v := ?_) rfl (by kernel_rfl) (by kernel_rfl) (by kernel_rfl) (fun _ _ _ h => h) (Or.inl ⟨by rfl, ?hyaa1⟩) hHeld ?restaa1
  case hyaa1 =>
    intro w hSw
    try dsimp only at hSw
    go_simp
    try with_reducible rfl
  try simp only [Act.put, List.setIfInBounds_toArray, List.set_cons_zero, List.set_cons_succ]
  refine wpAnyH_take (i := 2) (oi := { dst := some 7, op := Op.binOp BinOp.geq 3 (Operand.tmp 6) (Operand.const (Value.int IntKind.i64 0)) 3, type := 4, pos := "offices.go:61", after := #[{ on := 1, ground := Ground.data }], guard := none }) (v := ?_) rfl (by kernel_rfl) (by kernel_rfl) (by kernel_rfl) (fun _ _ _ h => h) (Or.inl ⟨by rfl, ?hyaa2⟩) hHeld ?restaa2
  case hyaa2 =>
    intro w hSw
    try dsimp only at hSw
    go_simp
    try with_reducible rfl
  try simp only [Act.put, List.setIfInBounds_toArray, List.set_cons_zero, List.set_cons_succ]
  refine wpAnyH_take (i := 3) (oi := { dst := some 8, op := Op.move (Operand.tmp 7), type := 4, pos := "offices.go:61", after := #[{ on := 2, ground := Ground.data }], guard := none }) (v := ?_) rfl (by kernel_rfl) (by kernel_rfl) (by kernel_rfl) (fun _ _ _ h => h) (Or.inl ⟨by rfl, ?hyaa3⟩) hHeld ?restaa3
  case hyaa3 =>
    intro w hSw
    try dsimp only at hSw
    go_simp
    try with_reducible rfl
  try simp only [Act.put, List.setIfInBounds_toArray, List.set_cons_zero, List.set_cons_succ]
  refine wpAnyH_take (i := 4) (oi := { dst := some 9, op := Op.fieldAddr 49 (Operand.tmp 3) 0, type := 0, pos := "offices.go:61", after := #[{ on := 3, ground := Ground.guard }], guard := some (3, true) }) (v := ?_) rfl (by kernel_rfl) (by kernel_rfl) (by kernel_rfl) (fun _ _ _ h => h) (Or.inl ⟨by rfl, ?hyaa4⟩) hHeld ?restaa4
  case hyaa4 =>
    intro w hSw
    try dsimp only at hSw
    go_simp
    try with_reducible rfl
  try simp only [Act.put, List.setIfInBounds_toArray, List.set_cons_zero, List.set_cons_succ]
  refine wpAnyH_take (i := 5) (oi := { dst := some 10, op := Op.load 3 (Operand.tmp 9), type := 3, pos := "offices.go:61", after := #[{ on := 4, ground := Ground.data }, { on := 3, ground := Ground.guard }], guard := some (3, true) }) (v := ?_) rfl (by kernel_rfl) (by kernel_rfl) (by kernel_rfl) (fun _ _ _ h => h) (Or.inl ⟨by rfl, ?hyaa5⟩) hHeld ?restaa5
  case hyaa5 =>
    intro w hSw
    try dsimp only at hSw
    go_simp
    try with_reducible rfl
  try simp only [Act.put, List.setIfInBounds_toArray, List.set_cons_zero, List.set_cons_succ]
  refine wpAnyH_take (i := 6) (oi := { dst := some 11, op := Op.binOp BinOp.leq 3 (Operand.tmp 10) (Operand.const (Value.int IntKind.i64 1048576)) 3, type := 4, pos := "offices.go:61", after := #[{ on := 5, ground := Ground.data }, { on := 3, ground := Ground.guard }], guard := some (3, true) }) (v := ?_) rfl (by kernel_rfl) (by kernel_rfl) (by kernel_rfl) (fun _ _ _ h => h) (Or.inl ⟨by rfl, ?hyaa6⟩) hHeld ?restaa6
  case hyaa6 =>
    intro w hSw
    try dsimp only at hSw
    go_simp
    try with_reducible rfl
  try simp only [Act.put, List.setIfInBounds_toArray, List.set_cons_zero, List.set_cons_succ]
  refine wpAnyH_take (i := 7) (oi := { dst := some 12, op := Op.pick (Operand.tmp 8) (Operand.tmp 11) (Operand.const (Value.bool false)), type := 4, pos := "offices.go:61", after := #[{ on := 3, ground := Ground.data }, { on := 6, ground := Ground.data }], guard := none }) (v := ?_) rfl (by kernel_rfl) (by kernel_rfl) (by kernel_rfl) (fun _ _ _ h => h) (Or.inl ⟨by rfl, ?hyaa7⟩) hHeld ?restaa7
  case hyaa7 =>
    intro w hSw
    try dsimp only at hSw
    go_simp
    try with_reducible rfl
  try simp only [Act.put, List.setIfInBounds_toArray, List.set_cons_zero, List.set_cons_succ]
  refine wpAnyH_take (i := 8) (oi := { dst := some 13, op := Op.move (Operand.tmp 12), type := 4, pos := "offices.go:61", after := #[{ on := 7, ground := Ground.data }, { on := 3, ground := Ground.chain }], guard := none }) (v := ?_) rfl (by kernel_rfl) (by kernel_rfl) (by kernel_rfl) (fun _ _ _ h => h) (Or.inl ⟨by rfl, ?hyaa8⟩) hHeld ?restaa8
  case hyaa8 =>
    intro w hSw
    try dsimp only at hSw
    go_simp
    try with_reducible rfl
  try simp only [Act.put, List.setIfInBounds_toArray, List.set_cons_zero, List.set_cons_succ]
  refine wpAnyH_take (i := 9) (oi := { dst := some 14, op := Op.move (Operand.tmp 0), type := 3, pos := "offices.go:61", after := #[{ on := 8, ground := Ground.guard }], guard := some (8, true) }) (v := ?_) rfl (by kernel_rfl) (by kernel_rfl) (by kernel_rfl) (fun _ _ _ h => h) (Or.inl ⟨by rfl, ?hyaa9⟩) hHeld ?restaa9
  case hyaa9 =>
    intro w hSw
    try dsimp only at hSw
    go_simp
    try with_reducible rfl
  try simp only [Act.put, List.setIfInBounds_toArray, List.set_cons_zero, List.set_cons_succ]
  refine wpAnyH_take (i := 10) (oi := { dst := some 15, op := Op.load 49 (Operand.tmp 3), type := 49, pos := "offices.go:61", after := #[{ on := 8, ground := Ground.guard }], guard := some (8, true) }) (v := _) rfl (by kernel_rfl) (by kernel_rfl) (by kernel_rfl) (fun _ _ _ h => h) (yieldsIf_load_mid (by rfl) 49 (.tmp 3) rfl w.heap.size 0 rfl (poC p) _ (fun _ h => h.2.2.2) Tryd.underlying49 rfl hi.out) hHeld ?_
  try simp only [Act.put, List.setIfInBounds_toArray, List.set_cons_zero, List.set_cons_succ]
  refine wpAnyH_take (i := 12) (oi := { dst := some 17, op := Op.fieldAddr 49 (Operand.tmp 3) 2, type := 0, pos := "offices.go:61", after := #[{ on := 8, ground := Ground.guard }], guard := some (8, true) }) (v := ?_) rfl (by kernel_rfl) (by kernel_rfl) (by kernel_rfl) (fun _ _ _ h => h) (Or.inl ⟨by rfl, ?hyaa12⟩) hHeld ?restaa12
  case hyaa12 =>
    intro w hSw
    try dsimp only at hSw
    go_simp
    try with_reducible rfl
  try simp only [Act.put, List.setIfInBounds_toArray, List.set_cons_zero, List.set_cons_succ]
  refine wpAnyH_take (i := 13) (oi := { dst := some 18, op := Op.load 47 (Operand.tmp 17), type := 47, pos := "offices.go:61", after := #[{ on := 12, ground := Ground.data }, { on := 8, ground := Ground.guard }], guard := some (8, true) }) (v := ?_) rfl (by kernel_rfl) (by kernel_rfl) (by kernel_rfl) (fun _ _ _ h => h) (Or.inl ⟨by rfl, ?hyaa13⟩) hHeld ?restaa13
  case hyaa13 =>
    intro w hSw
    try dsimp only at hSw
    go_simp
    try with_reducible rfl
  try simp only [Act.put, List.setIfInBounds_toArray, List.set_cons_zero, List.set_cons_succ]
  refine wpAnyH_ready (rs := [11]) (by kernel_rfl) (by simp) (AllReadyH.cons (o := { dst := some 16, op := Op.call { callee := Callee.value (Operand.func 57), args := #[Operand.tmp 15], argTypes := #[49] }, type := 23, pos := "offices.go:61", after := #[{ on := 10, ground := Ground.data }, { on := 8, ground := Ground.chain }, { on := 8, ground := Ground.guard }], guard := some (8, true) }) rfl (fun K hK => ?_) AllReadyH.nil)
  go_simp
  go_at_call 57
  refine (hT.out _).mono ?_
  unfold Fresh
  rintro e w3 ⟨v', rfl, ho, hh, hb⟩
  obtain ⟨A9, c9, rfl⟩ := ho.form
  replace ho := Lib.hid ho
  clear hh
  replace HB := HB.trans (hb.mono HB.size)
  clear hb
  refine hK.out _ _ (by exact hS.out _ HB) (fun hHeld' => ?_)
  clear hK K hHeld
  have hHeld := hHeld'
  clear hHeld'
  try simp only [Act.put, List.setIfInBounds_toArray, List.set_cons_zero, List.set_cons_succ]
  refine wpAnyH_ready (rs := [14]) (by kernel_rfl) (by simp) (AllReadyH.cons (o := { dst := some 19, op := Op.call { callee := Callee.value (Operand.func 61), args := #[Operand.tmp 14, Operand.tmp 16, Operand.tmp 18], argTypes := #[3, 23, 47] }, type := 4, pos := "offices.go:61", after := #[{ on := 9, ground := Ground.data }, { on := 11, ground := Ground.data }, { on := 13, ground := Ground.data }, { on := 11, ground := Ground.chain }, { on := 8, ground := Ground.guard }], guard := some (8, true) }) rfl (fun K hK => ?_) AllReadyH.nil)
  go_simp
  go_at_call 61
  refine (verify_any key (poT p) p.e p.s A9 _ c9 _ rfl (by have := hlen.out; omega) ho.out.atO (hL.below (hB.trans (HB.mono hB.size)))).mono ?_
  rintro e w4 ⟨rfl, hb⟩
  replace HB := HB.trans (hb.mono HB.size)
  clear hb
  refine hK.out _ _ (by exact hS.out _ HB) (fun hHeld' => ?_)
  clear hK K hHeld
  have hHeld := hHeld'
  clear hHeld'
  try simp only [Act.put, List.setIfInBounds_toArray, List.set_cons_zero, List.set_cons_succ]
  refine wpAnyH_take (i := 15) (oi := { dst := some 20, op := Op.pick (Operand.tmp 13) (Operand.tmp 19) (Operand.const (Value.bool false)), type := 4, pos := "offices.go:61", after := #[{ on := 8, ground := Ground.data }, { on := 14, ground := Ground.data }], guard := none }) (v := ?_) rfl (by kernel_rfl) (by kernel_rfl) (by kernel_rfl) (fun _ _ _ h => h) (Or.inl ⟨by rfl, ?hyaa15⟩) hHeld ?restaa15
  case hyaa15 =>
    intro w hSw
    try dsimp only at hSw
    go_simp
    try with_reducible rfl
  try simp only [Act.put, List.setIfInBounds_toArray, List.set_cons_zero, List.set_cons_succ]
  refine wpAnyH_take (i := 16) (oi := { dst := some 4, op := Op.assign (Operand.tmp 20), type := 4, pos := "offices.go:61", after := #[{ on := 15, ground := Ground.data }, { on := 14, ground := Ground.chain }, { on := 0, ground := Ground.phase }, { on := 1, ground := Ground.phase }, { on := 2, ground := Ground.phase }, { on := 3, ground := Ground.phase }, { on := 4, ground := Ground.phase }, { on := 5, ground := Ground.phase }, { on := 6, ground := Ground.phase }, { on := 7, ground := Ground.phase }, { on := 8, ground := Ground.phase }, { on := 9, ground := Ground.phase }, { on := 10, ground := Ground.phase }, { on := 11, ground := Ground.phase }, { on := 12, ground := Ground.phase }, { on := 13, ground := Ground.phase }, { on := 14, ground := Ground.phase }, { on := 15, ground := Ground.phase }], guard := none }) (v := ?_) rfl (by kernel_rfl) (by kernel_rfl) (by kernel_rfl) (fun _ _ _ h => h) (Or.inl ⟨by rfl, ?hyaa16⟩) hHeld ?restaa16
  case hyaa16 =>
    intro w hSw
    try dsimp only at hSw
    go_simp
    try with_reducible rfl
  try simp only [Act.put, List.setIfInBounds_toArray, List.set_cons_zero, List.set_cons_succ]
  refine wpAnyH_done (by kernel_rfl) ?_ _
  go_wp2_with fail
  go_ret
  exact ⟨rfl, hB.trans (HB.mono hB.size)⟩

theorem ocheck_any (key : Int) (p : Po) (hp : p.root.length = 32) (w : World) (hL : Laid w) :
    Calls Tryd.prog 30 #[.int .i64 key, .agg (poA p)] w fun e w' => e = .returned (.bool (ckP key p)) ∧ Below w.heap.size w w' := by
  by_cases h0 : 0 ≤ p.no
  · by_cases h1 : p.no ≤ 1048576
    · have e : ckP key p = vfB key (poT p) p.e p.s := by unfold ckP; rw [decide_eq_true ⟨h0, h1⟩, Bool.true_and]
      rw [e]
      exact ocheck_in key p hp w h0 h1 hL
    · have e : ckP key p = false := by unfold ckP; rw [decide_eq_false (fun h => h1 h.2), Bool.false_and]
      rw [e]
      exact ocheck_hi key p hp w h0 (by omega)
  · have e : ckP key p = false := by unfold ckP; rw [decide_eq_false (fun h => h0 h.1), Bool.false_and]
    rw [e]
    exact ocheck_lo key p hp w (by omega)

set_option maxRecDepth 100000 in
set_option maxHeartbeats 4000000 in
theorem ocv_no (key : Int) (a b : Po) (ha : a.root.length = 32) (hb : b.root.length = 32) (w : World) (h : a.no ≠ b.no) :
    Calls Tryd.prog 32 #[.int .i64 key, .agg (poA a), .agg (poA b)] w fun e w' => e = .returned (.bool false) ∧ Below w.heap.size w w' := by
  have hB : Below w.heap.size w ((w.alloc (.cells (poA a) 49)).alloc (.cells (poA b) 49)) := ((Below.refl _ _).alloc (Nat.le_refl _) _).alloc (by simp) _
  have hra := heap_alloc2_old w (.cells (poA a) 49) (.cells (poA b) 49)
  have hrb := heap_alloc2_new w (.cells (poA a) 49) (.cells (poA b) 49)
  obtain ⟨a0, _, _⟩ := po_cells ha hra
  obtain ⟨b0, _, _⟩ := po_cells hb hrb
  clear hra hrb ha hb
  obtain ⟨ma, hma⟩ : ∃ m, a.no = m := ⟨_, rfl⟩
  obtain ⟨mb, hmb⟩ : ∃ m, b.no = m := ⟨_, rfl⟩
  rw [hma, hmb] at h
  rw [hma] at a0
  rw [hmb] at b0
  clear hma hmb
  go_enter Tryd.func32, Tryd.ntmps32
  go_wp2_with fail
  go_ret
  exact ⟨rfl, hB⟩

set_option maxRecDepth 100000 in
set_option maxHeartbeats 4000000 in
theorem ocv_root (key : Int) (a b : Po) (ha : a.root.length = 32) (hb : b.root.length = 32) (w : World) (h : a.no = b.no) (hr : a.root = b.root) :
    Calls Tryd.prog 32 #[.int .i64 key, .agg (poA a), .agg (poA b)] w fun e w' => e = .returned (.bool false) ∧ Below w.heap.size w w' := by
  have hB : Below w.heap.size w ((w.alloc (.cells (poA a) 49)).alloc (.cells (poA b) 49)) := ((Below.refl _ _).alloc (Nat.le_refl _) _).alloc (by simp) _
  have hra := heap_alloc2_old w (.cells (poA a) 49) (.cells (poA b) 49)
  have hrb := heap_alloc2_new w (.cells (poA a) 49) (.cells (poA b) 49)
  obtain ⟨a0, _, _⟩ := po_cells ha hra
  obtain ⟨b0, _, _⟩ := po_cells hb hrb
  have ra := Lib.hid (po_root_at hra)
  have rb := Lib.hid (po_root_at hrb)
  have ia := Lib.hid (dg_info' a.root ha)
  have ib := Lib.hid (dg_info' b.root hb)
  have q0 : ∀ V, (Op.equalIn 10000 35 (.agg (a.root.map by1).toArray) (.agg (b.root.map by1).toArray)).run Tryd.prog V = .ok (decide (a.root = b.root)) V := eq_dg a.root b.root ha hb
  rw [decide_eq_true hr] at q0
  rw [← h] at b0
  replace h := Lib.hid h
  replace hr := Lib.hid hr
  clear hra hrb ha hb
  go_enter Tryd.func32, Tryd.ntmps32
  go_wp2_with (first
    | (refine wpList_load_midG (by rfl) 35 (.tmp 13) (by rfl) w.heap.size 1 (by rfl) (a.root.map by1) _ ra.out Tryd.underlying35 (by rfl) ia.out ?_)
    | (refine wpList_load_midG (by rfl) 35 (.tmp 15) (by rfl) (w.heap.size + 1) 1 (by rfl) (b.root.map by1) _ rb.out Tryd.underlying35 (by rfl) ib.out ?_))
  go_ret
  exact ⟨rfl, hB⟩

set_option maxRecDepth 100000 in
set_option maxHeartbeats 4000000 in
theorem ocv_a (key : Int) (a b : Po) (ha : a.root.length = 32) (hb : b.root.length = 32) (w : World) (h : a.no = b.no) (hr : ¬ a.root = b.root) (h1 : ckP key a = false) (hL : Laid w) :
    Calls Tryd.prog 32 #[.int .i64 key, .agg (poA a), .agg (poA b)] w fun e w' => e = .returned (.bool false) ∧ Below w.heap.size w w' := by
  have hB : Below w.heap.size w ((w.alloc (.cells (poA a) 49)).alloc (.cells (poA b) 49)) := ((Below.refl _ _).alloc (Nat.le_refl _) _).alloc (by simp) _
  have hra := heap_alloc2_old w (.cells (poA a) 49) (.cells (poA b) 49)
  have hrb := heap_alloc2_new w (.cells (poA a) 49) (.cells (poA b) 49)
  obtain ⟨a0, _, _⟩ := po_cells ha hra
  obtain ⟨b0, _, _⟩ := po_cells hb hrb
  have hla := (Array.getElem?_eq_some_iff.1 hra).1
  have hlb := (Array.getElem?_eq_some_iff.1 hrb).1
  have hSa : Hid (∀ V, Below ((w.alloc (.cells (poA a) 49)).alloc (.cells (poA b) 49)).heap.size ((w.alloc (.cells (poA a) 49)).alloc (.cells (poA b) 49)) V → V.rangeAt w.heap.size 0 (poC a)) := Lib.hid fun V hV => po_row ((hV.block w.heap.size hla).trans hra)
  have hSb : Hid (∀ V, Below ((w.alloc (.cells (poA a) 49)).alloc (.cells (poA b) 49)).heap.size ((w.alloc (.cells (poA a) 49)).alloc (.cells (poA b) 49)) V → V.rangeAt (w.heap.size + 1) 0 (poC b)) := Lib.hid fun V hV => po_row ((hV.block (w.heap.size + 1) hlb).trans hrb)
  have ja := Lib.hid (po_info' ha)
  have jb := Lib.hid (po_info' hb)
  have HB := Below.refl ((w.alloc (.cells (poA a) 49)).alloc (.cells (poA b) 49)).heap.size ((w.alloc (.cells (poA a) 49)).alloc (.cells (poA b) 49))
  have hCa : Hid (∀ W, Below w.heap.size w W → Calls Tryd.prog 30 #[.int .i64 key, .agg (poC a).toArray] W fun e w' => e = .returned (.bool false) ∧ Below W.heap.size W w') := Lib.hid fun W hW => h1 ▸ ocheck_any key a ha W (hL.below hW)
  have ra := Lib.hid (po_root_at hra)
  have rb := Lib.hid (po_root_at hrb)
  have ia := Lib.hid (dg_info' a.root ha)
  have ib := Lib.hid (dg_info' b.root hb)
  have q0 : ∀ V, (Op.equalIn 10000 35 (.agg (a.root.map by1).toArray) (.agg (b.root.map by1).toArray)).run Tryd.prog V = .ok (decide (a.root = b.root)) V := eq_dg a.root b.root ha hb
  rw [decide_eq_false hr] at q0
  rw [← h] at b0
  replace h := Lib.hid h
  replace hr := Lib.hid hr
  replace h1 := Lib.hid h1
  clear hra hrb ha hb
  go_enter Tryd.func32, Tryd.ntmps32
  go_wp2_with (first
    | (refine wpList_load_midG (by rfl) 35 (.tmp 13) (by rfl) w.heap.size 1 (by rfl) (a.root.map by1) _ ra.out Tryd.underlying35 (by rfl) ia.out ?_)
    | (refine wpList_load_midG (by rfl) 35 (.tmp 15) (by rfl) (w.heap.size + 1) 1 (by rfl) (b.root.map by1) _ rb.out Tryd.underlying35 (by rfl) ib.out ?_)
    | (refine wpList_load_midG (by rfl) 49 (.tmp 4) (by rfl) w.heap.size 0 (by rfl) (poC a) _ (hSa.out _ HB) Tryd.underlying49 (by rfl) ja.out ?_)
    | (refine wpList_load_midG (by rfl) 49 (.tmp 5) (by rfl) (w.heap.size + 1) 0 (by rfl) (poC b) _ (hSb.out _ HB) Tryd.underlying49 (by rfl) jb.out ?_)
    | (go_at_call 30; (with_reducible refine (hCa.out _ (hB.trans (HB.mono hB.size))).mono ?_); rintro e w4 ⟨rfl, hb⟩; replace HB := HB.trans (hb.mono HB.size); clear hb))
  go_ret
  exact ⟨rfl, hB.trans (HB.mono hB.size)⟩

set_option maxRecDepth 100000 in
set_option maxHeartbeats 4000000 in
theorem ocv_b (key : Int) (a b : Po) (ha : a.root.length = 32) (hb : b.root.length = 32) (w : World) (h : a.no = b.no) (hr : ¬ a.root = b.root) (h1 : ckP key a = true) (r : Bool) (h2 : ckP key b = r) (hL : Laid w) :
    Calls Tryd.prog 32 #[.int .i64 key, .agg (poA a), .agg (poA b)] w fun e w' => e = .returned (.bool r) ∧ Below w.heap.size w w' := by
  have hB : Below w.heap.size w ((w.alloc (.cells (poA a) 49)).alloc (.cells (poA b) 49)) := ((Below.refl _ _).alloc (Nat.le_refl _) _).alloc (by simp) _
  have hra := heap_alloc2_old w (.cells (poA a) 49) (.cells (poA b) 49)
  have hrb := heap_alloc2_new w (.cells (poA a) 49) (.cells (poA b) 49)
  obtain ⟨a0, _, _⟩ := po_cells ha hra
  obtain ⟨b0, _, _⟩ := po_cells hb hrb
  have hla := (Array.getElem?_eq_some_iff.1 hra).1
  have hlb := (Array.getElem?_eq_some_iff.1 hrb).1
  have hSa : Hid (∀ V, Below ((w.alloc (.cells (poA a) 49)).alloc (.cells (poA b) 49)).heap.size ((w.alloc (.cells (poA a) 49)).alloc (.cells (poA b) 49)) V → V.rangeAt w.heap.size 0 (poC a)) := Lib.hid fun V hV => po_row ((hV.block w.heap.size hla).trans hra)
  have hSb : Hid (∀ V, Below ((w.alloc (.cells (poA a) 49)).alloc (.cells (poA b) 49)).heap.size ((w.alloc (.cells (poA a) 49)).alloc (.cells (poA b) 49)) V → V.rangeAt (w.heap.size + 1) 0 (poC b)) := Lib.hid fun V hV => po_row ((hV.block (w.heap.size + 1) hlb).trans hrb)
  have ja := Lib.hid (po_info' ha)
  have jb := Lib.hid (po_info' hb)
  have HB := Below.refl ((w.alloc (.cells (poA a) 49)).alloc (.cells (poA b) 49)).heap.size ((w.alloc (.cells (poA a) 49)).alloc (.cells (poA b) 49))
  have hCa : Hid (∀ W, Below w.heap.size w W → Calls Tryd.prog 30 #[.int .i64 key, .agg (poC a).toArray] W fun e w' => e = .returned (.bool true) ∧ Below W.heap.size W w') := Lib.hid fun W hW => h1 ▸ ocheck_any key a ha W (hL.below hW)
  have hCb : Hid (∀ W, Below w.heap.size w W → Calls Tryd.prog 30 #[.int .i64 key, .agg (poC b).toArray] W fun e w' => e = .returned (.bool r) ∧ Below W.heap.size W w') := Lib.hid fun W hW => h2 ▸ ocheck_any key b hb W (hL.below hW)
  have ra := Lib.hid (po_root_at hra)
  have rb := Lib.hid (po_root_at hrb)
  have ia := Lib.hid (dg_info' a.root ha)
  have ib := Lib.hid (dg_info' b.root hb)
  have q0 : ∀ V, (Op.equalIn 10000 35 (.agg (a.root.map by1).toArray) (.agg (b.root.map by1).toArray)).run Tryd.prog V = .ok (decide (a.root = b.root)) V := eq_dg a.root b.root ha hb
  rw [decide_eq_false hr] at q0
  rw [← h] at b0
  replace h := Lib.hid h
  replace hr := Lib.hid hr
  replace h1 := Lib.hid h1
  replace h2 := Lib.hid h2
  clear hra hrb ha hb
  go_enter Tryd.func32, Tryd.ntmps32
  go_wp2_with (first
    | (refine wpList_load_midG (by rfl) 35 (.tmp 13) (by rfl) w.heap.size 1 (by rfl) (a.root.map by1) _ ra.out Tryd.underlying35 (by rfl) ia.out ?_)
    | (refine wpList_load_midG (by rfl) 35 (.tmp 15) (by rfl) (w.heap.size + 1) 1 (by rfl) (b.root.map by1) _ rb.out Tryd.underlying35 (by rfl) ib.out ?_)
    | (refine wpList_load_midG (by rfl) 49 (.tmp 4) (by rfl) w.heap.size 0 (by rfl) (poC a) _ (hSa.out _ HB) Tryd.underlying49 (by rfl) ja.out ?_)
    | (refine wpList_load_midG (by rfl) 49 (.tmp 5) (by rfl) (w.heap.size + 1) 0 (by rfl) (poC b) _ (hSb.out _ HB) Tryd.underlying49 (by rfl) jb.out ?_)
    | (go_at_call 30; (with_reducible refine (hCa.out _ (hB.trans (HB.mono hB.size))).mono ?_); rintro e w4 ⟨rfl, hb⟩; replace HB := HB.trans (hb.mono HB.size); clear hb)
    | (go_at_call 30; (with_reducible refine (hCb.out _ (hB.trans (HB.mono hB.size))).mono ?_); rintro e w5 ⟨rfl, hb⟩; replace HB := HB.trans (hb.mono HB.size); clear hb))
  go_ret
  exact ⟨rfl, hB.trans (HB.mono hB.size)⟩

theorem oconvict_any (key : Int) (a b : Po) (ha : a.root.length = 32) (hb : b.root.length = 32) (w : World) (hL : Laid w) :
    Calls Tryd.prog 32 #[.int .i64 key, .agg (poA a), .agg (poA b)] w fun e w' => e = .returned (.bool (cvP key a b)) ∧ Below w.heap.size w w' := by
  unfold cvP
  by_cases h : a.no = b.no
  · rw [decide_eq_true h, Bool.true_and]
    by_cases hr : a.root = b.root
    · rw [decide_eq_true hr]
      exact ocv_root key a b ha hb w h hr
    · rw [decide_eq_false hr, Bool.not_false, Bool.true_and]
      cases h1 : ckP key a with
      | false => exact ocv_a key a b ha hb w h hr h1 hL
      | true => exact ocv_b key a b ha hb w h hr h1 _ rfl hL
  · rw [decide_eq_false h]
    exact ocv_no key a b ha hb w h
end Go.Proofs.YthokpfegfnpmhaaDoor
