/- The walk of the statement AccuseSpec. -/
import Derived.Test.YtnccbhndlnkboaaDoorAccSane
import Derived.Test.YtnccbhndlnkboaaDoorRVerdict
import Derived.Test.YtnccbhndlnkboaaDoorRf1
import Derived.Test.YtnccbhndlnkboaaDoorMoreA
namespace Go.Proofs.YtnccbhndlnkboaaDoor
open Go.RowKit Go.Shelf Cdc Sha
set_option linter.unusedVariables false
set_option linter.unusedSimpArgs false

set_option maxRecDepth 100000 in
set_option maxHeartbeats 8000000 in
theorem spec41_few (s : Sl) (hs : SlI s) (c : Ch) (l : List Op) (m : Nat) (A : Option Addr) (k : Nat) (ti : Int) (w : World) (hn : l.length = m) (hk : m ≤ k) (hA : OsAt w A l) (hok : ∀ y ∈ l, OpI y) (hL : Laid w) (hf : few41 l = false) : Calls Tryd.prog 7 #[.agg (slA s), .agg (chA c), .slice A m k, .int .i64 ti] w fun e w' => e = .returned (.bool true) ∧ Below w.heap.size w w' := by
  obtain ⟨W2, hW2⟩ : ∃ W2, W2 = ((w.alloc (.cells (slA s) 25)).alloc (.cells (chA c) 27)) := ⟨_, rfl⟩
  have hz2 : W2.heap.size = w.heap.size + 2 := by rw [hW2]; simp
  have hB2 : Below w.heap.size w W2 := hW2 ▸ ((Below.refl _ w).alloc (Nat.le_refl _) _).alloc (by simp) _
  have r0 : W2.heap[w.heap.size]? = some (.cells (slA s) 25 (0, 0)) := by
    rw [hW2]
    exact (Below.heap_alloc _ _ _ (by simp)).trans (heap_alloc_new w _)
  have r1 : W2.heap[w.heap.size + 1]? = some (.cells (chA c) 27 (0, 0)) := by
    rw [hW2]
    have := heap_alloc_new (w.alloc (.cells (slA s) 25)) (.cells (chA c) 27)
    rw [World.size_alloc] at this
    exact this
  have hcl : Hid (∀ V, Below W2.heap.size W2 V → V.rangeAt w.heap.size 0 (slC s) ∧ V.cell? ⟨w.heap.size + 1, 0, none⟩ = some (.int .i64 c.no) ∧ V.cell? ⟨w.heap.size + 1, 1, none⟩ = some (.int .i64 c.team) ∧ V.cell? ⟨w.heap.size + 1, 2, none⟩ = some (.int .i64 c.day) ∧ V.cell? ⟨w.heap.size + 1, 3, none⟩ = some (.int .i64 c.due) ∧ V.cell? ⟨w.heap.size + 1, 4, none⟩ = some (.bool c.bl)) := Lib.hid fun V hV => by
    have h0 := (hV.block _ (by omega)).trans r0
    have h1 := (hV.block _ (by omega)).trans r1
    exact ⟨row_range7 (cs := slC s) h0, by rw [cell_of_row _ _ _ _ _ _ h1]; rfl, by rw [cell_of_row _ _ _ _ _ _ h1]; rfl, by rw [cell_of_row _ _ _ _ _ _ h1]; rfl, by rw [cell_of_row _ _ _ _ _ _ h1]; rfl, by rw [cell_of_row _ _ _ _ _ _ h1]; rfl⟩
  have pl : Hid ((Tryd.prog.info? 25).map (·.size) = some (slC s).length) := Lib.hid (by have := sl_info hs.root; simpa [slA] using this)
  have hSn : Hid (∀ V, Below w.heap.size w V → Calls Tryd.prog 10 #[] V fun e w' => e = .returned (.bool true) ∧ Below V.heap.size V w') := Lib.hid fun V hV => asane_any V (hL.below hV)
  have hFo : Hid (∀ V, Below w.heap.size w V → Calls Tryd.prog 11 #[.slice A m k] V fun e w' => e = .returned (.bool (few41 l)) ∧ w' = V) := Lib.hid fun V hV => rfew41_any l m hn A k hk V (hA.below hV)
  clear r0 r1 hz2
  replace hB2 := Lib.hid hB2
  clear hs hA hL hok
  go_enter Tryd.func7, Tryd.ntmps7
  go_wp2_with fail
  rw [← hW2]
  refine (hSn.out _ hB2.out).mono ?_
  rintro e w3 ⟨rfl, hb3⟩
  clear hW2
  have HB3 := hB2.out.trans (hb3.mono hB2.out.size)
  go_wp2_with fail
  refine (hFo.out _ HB3).mono ?_
  rintro e w4 ⟨rfl, hw4⟩
  have hw4b := hw4.symm
  clear hw4
  subst hw4b
  rw [hf]
  go_wp2_with fail
  go_ret
  exact ⟨rfl, HB3⟩
set_option maxRecDepth 100000 in
set_option maxHeartbeats 8000000 in
theorem spec41_main (s : Sl) (hs : SlI s) (c : Ch) (l : List Op) (m : Nat) (A : Option Addr) (k : Nat) (ti : Int) (w : World) (hn : l.length = m) (hk : m ≤ k) (hA : OsAt w A l) (hok : ∀ y ∈ l, OpI y) (hL : Laid w) (hf : few41 l = true) : Calls Tryd.prog 7 #[.agg (slA s), .agg (chA c), .slice A m k, .int .i64 ti] w fun e w' => e = .returned (.bool true) ∧ Below w.heap.size w w' := by
  obtain ⟨W2, hW2⟩ : ∃ W2, W2 = ((w.alloc (.cells (slA s) 25)).alloc (.cells (chA c) 27)) := ⟨_, rfl⟩
  have hz2 : W2.heap.size = w.heap.size + 2 := by rw [hW2]; simp
  have hB2 : Below w.heap.size w W2 := hW2 ▸ ((Below.refl _ w).alloc (Nat.le_refl _) _).alloc (by simp) _
  have r0 : W2.heap[w.heap.size]? = some (.cells (slA s) 25 (0, 0)) := by
    rw [hW2]
    exact (Below.heap_alloc _ _ _ (by simp)).trans (heap_alloc_new w _)
  have r1 : W2.heap[w.heap.size + 1]? = some (.cells (chA c) 27 (0, 0)) := by
    rw [hW2]
    have := heap_alloc_new (w.alloc (.cells (slA s) 25)) (.cells (chA c) 27)
    rw [World.size_alloc] at this
    exact this
  have hcl : Hid (∀ V, Below W2.heap.size W2 V → V.rangeAt w.heap.size 0 (slC s) ∧ V.cell? ⟨w.heap.size + 1, 0, none⟩ = some (.int .i64 c.no) ∧ V.cell? ⟨w.heap.size + 1, 1, none⟩ = some (.int .i64 c.team) ∧ V.cell? ⟨w.heap.size + 1, 2, none⟩ = some (.int .i64 c.day) ∧ V.cell? ⟨w.heap.size + 1, 3, none⟩ = some (.int .i64 c.due) ∧ V.cell? ⟨w.heap.size + 1, 4, none⟩ = some (.bool c.bl)) := Lib.hid fun V hV => by
    have h0 := (hV.block _ (by omega)).trans r0
    have h1 := (hV.block _ (by omega)).trans r1
    exact ⟨row_range7 (cs := slC s) h0, by rw [cell_of_row _ _ _ _ _ _ h1]; rfl, by rw [cell_of_row _ _ _ _ _ _ h1]; rfl, by rw [cell_of_row _ _ _ _ _ _ h1]; rfl, by rw [cell_of_row _ _ _ _ _ _ h1]; rfl, by rw [cell_of_row _ _ _ _ _ _ h1]; rfl⟩
  have pl : Hid ((Tryd.prog.info? 25).map (·.size) = some (slC s).length) := Lib.hid (by have := sl_info hs.root; simpa [slA] using this)
  have hSn : Hid (∀ V, Below w.heap.size w V → Calls Tryd.prog 10 #[] V fun e w' => e = .returned (.bool true) ∧ Below V.heap.size V w') := Lib.hid fun V hV => asane_any V (hL.below hV)
  have hFo : Hid (∀ V, Below w.heap.size w V → Calls Tryd.prog 11 #[.slice A m k] V fun e w' => e = .returned (.bool (few41 l)) ∧ w' = V) := Lib.hid fun V hV => rfew41_any l m hn A k hk V (hA.below hV)
  clear r0 r1 hz2
  replace hB2 := Lib.hid hB2
  have hl2 : ∀ y ∈ l, OpI y ∧ y.path.length ≤ 1000000 := fun z hz => by
    refine ⟨hok z hz, ?_⟩
    have h7 := hf
    rw [few41, Bool.and_eq_true, List.all_eq_true] at h7
    have := of_decide_eq_true (h7.2 z hz)
    omega
  obtain ⟨V9, hV9⟩ : ∃ V9, vdR s c l m ti = V9 := ⟨_, rfl⟩
  obtain ⟨E9, hE9⟩ : ∃ E9, vdE s c m ti = E9 := ⟨_, rfl⟩
  obtain ⟨K9, hK9⟩ : ∃ K9, chkE c = K9 := ⟨_, rfl⟩
  have hVt : Hid (∀ V, Below w.heap.size w V → Calls Tryd.prog 13 #[.agg (slC s).toArray, .agg #[.int .i64 c.no, .int .i64 c.team, .int .i64 c.day, .int .i64 c.due, .bool c.bl], .slice A m k, .int .i64 ti] V fun e w' => e = .returned (.tuple #[.int .i64 V9, .int .i64 E9]) ∧ Below V.heap.size V w') := Lib.hid fun V hV => by
    have := verdict_any s hs c l m A k ti V hn hk (hA.below hV) hl2 (hL.below hV)
    rw [hV9, hE9] at this
    exact this
  have hRt : Hid (∀ V, Below w.heap.size w V → Calls Tryd.prog 27 #[.agg (slC s).toArray, .agg #[.int .i64 c.no, .int .i64 c.team, .int .i64 c.day, .int .i64 c.due, .bool c.bl], .slice A m k, .int .i64 ti] V fun e w' => e = .returned (.tuple #[.int .i64 V9, .int .i64 E9]) ∧ Below V.heap.size V w') := Lib.hid fun V hV => by
    have := rverdict_any s hs c l m A k ti V hn hk (hA.below hV) hok
    rw [hV9, hE9] at this
    exact this
  have hC1 : Hid (∀ V, Calls Tryd.prog 28 #[.agg #[.int .i64 c.no, .int .i64 c.team, .int .i64 c.day, .int .i64 c.due, .bool c.bl]] V fun e w' => e = .returned (.int .i64 K9) ∧ Below V.heap.size V w') := Lib.hid fun V => by
    have := acheck_any c V
    rw [hK9] at this
    exact this
  have hC2 : Hid (∀ V, Calls Tryd.prog 29 #[.agg #[.int .i64 c.no, .int .i64 c.team, .int .i64 c.day, .int .i64 c.due, .bool c.bl]] V fun e w' => e = .returned (.int .i64 K9) ∧ Below V.heap.size V w') := Lib.hid fun V => by
    have := rcheck41_any c V
    rw [hK9] at this
    exact this
  clear hl2 hn hV9 hE9 hK9
  clear hs hA hL hok
  go_enter Tryd.func7, Tryd.ntmps7
  go_wp2_with fail
  rw [← hW2]
  refine (hSn.out _ hB2.out).mono ?_
  rintro e w3 ⟨rfl, hb3⟩
  clear hW2
  have HB3 := hB2.out.trans (hb3.mono hB2.out.size)
  go_wp2_with fail
  refine (hFo.out _ HB3).mono ?_
  rintro e w4 ⟨rfl, hw4⟩
  have hw4b := hw4.symm
  clear hw4
  subst hw4b
  rw [hf]
  obtain ⟨hS5, y0, y1, y2, y3, y4⟩ := hcl.out w3 hb3
  replace hS5 := Lib.hid hS5
  replace HB3 := Lib.hid HB3
  replace hb3 := Lib.hid hb3
  go_wp2_with (refine wpList_load_mid (by rfl) 25 (.tmp 4) (by rfl) w.heap.size 0 (by rfl) (slC s) _ hS5.out Tryd.underlying25 (by rfl) pl.out ?_)
  refine (hVt.out _ HB3.out).mono ?_
  rintro e w4 ⟨rfl, hb4⟩
  clear y0 y1 y2 y3 y4 hS5
  have HB4 := Lib.hid (HB3.out.trans (hb4.mono HB3.out.size))
  replace hb3 := Lib.hid (hb3.out.trans (hb4.mono hb3.out.size))
  clear hb4
  obtain ⟨hS5, y0, y1, y2, y3, y4⟩ := hcl.out w4 hb3.out
  replace hS5 := Lib.hid hS5
  go_wp2_with (refine wpList_load_mid (by rfl) 25 (.tmp 4) (by rfl) w.heap.size 0 (by rfl) (slC s) _ hS5.out Tryd.underlying25 (by rfl) pl.out ?_)
  refine (hRt.out _ HB4.out).mono ?_
  rintro e w5 ⟨rfl, hb5⟩
  clear y0 y1 y2 y3 y4 hS5
  have HB5 := Lib.hid (HB4.out.trans (hb5.mono HB4.out.size))
  have hc5 := Lib.hid (hb3.out.trans (hb5.mono hb3.out.size))
  have hSp : Hid (∀ V, Below w5.heap.size w5 V → V.cell? ⟨w.heap.size + 1, 0, none⟩ = some (.int .i64 c.no) ∧ V.cell? ⟨w.heap.size + 1, 1, none⟩ = some (.int .i64 c.team) ∧ V.cell? ⟨w.heap.size + 1, 2, none⟩ = some (.int .i64 c.day) ∧ V.cell? ⟨w.heap.size + 1, 3, none⟩ = some (.int .i64 c.due) ∧ V.cell? ⟨w.heap.size + 1, 4, none⟩ = some (.bool c.bl)) := Lib.hid fun V hV => (hcl.out V (hc5.out.trans (hV.mono hc5.out.size))).2
  clear hb5
  go_wp2_with fail
  have HB : Below w5.heap.size w5 w5.drew := (Below.refl _ _).drew
  refine wp_region_held_drew (S := fun w' => w'.cell? ⟨w.heap.size + 1, 0, none⟩ = some (.int .i64 c.no) ∧ w'.cell? ⟨w.heap.size + 1, 1, none⟩ = some (.int .i64 c.team) ∧ w'.cell? ⟨w.heap.size + 1, 2, none⟩ = some (.int .i64 c.day) ∧ w'.cell? ⟨w.heap.size + 1, 3, none⟩ = some (.int .i64 c.due) ∧ w'.cell? ⟨w.heap.size + 1, 4, none⟩ = some (.bool c.bl)) (by kernel_rfl) (by exact hSp.out _ HB) (fun hHeld => ?_)
  refine wpAnyH_take (i := 0) (oi := { dst := some 34, op := Op.move (Operand.tmp 9), type := 3, pos := "law.go:54", after := #[], guard := none }) (v := ?_) rfl (by kernel_rfl) (by kernel_rfl) (by kernel_rfl) (fun _ _ _ h => h) (Or.inl ⟨by rfl, ?hy0⟩) hHeld ?rest0
  case hy0 =>
    intro w hSw
    try dsimp only at hSw
    go_simp
    try with_reducible rfl
  try simp only [Act.put, List.setIfInBounds_toArray, List.set_cons_zero, List.set_cons_succ]
  refine wpAnyH_take (i := 1) (oi := { dst := some 35, op := Op.move (Operand.tmp 11), type := 3, pos := "law.go:54", after := #[], guard := none }) (v := ?_) rfl (by kernel_rfl) (by kernel_rfl) (by kernel_rfl) (fun _ _ _ h => h) (Or.inl ⟨by rfl, ?hy1⟩) hHeld ?rest1
  case hy1 =>
    intro w hSw
    try dsimp only at hSw
    go_simp
    try with_reducible rfl
  try simp only [Act.put, List.setIfInBounds_toArray, List.set_cons_zero, List.set_cons_succ]
  refine wpAnyH_take (i := 2) (oi := { dst := some 36, op := Op.binOp BinOp.eql 3 (Operand.tmp 34) (Operand.tmp 35) 3, type := 4, pos := "law.go:54", after := #[{ on := 0, ground := Ground.data }, { on := 1, ground := Ground.data }], guard := none }) (v := ?_) rfl (by kernel_rfl) (by kernel_rfl) (by kernel_rfl) (fun _ _ _ h => h) (Or.inl ⟨by rfl, ?hy2⟩) hHeld ?rest2
  case hy2 =>
    intro w hSw
    try dsimp only at hSw
    go_simp
    try with_reducible rfl
  try simp only [Act.put, List.setIfInBounds_toArray, List.set_cons_zero, List.set_cons_succ]
  refine wpAnyH_take (i := 3) (oi := { dst := some 37, op := Op.move (Operand.tmp 36), type := 4, pos := "law.go:54", after := #[{ on := 2, ground := Ground.data }], guard := none }) (v := ?_) rfl (by kernel_rfl) (by kernel_rfl) (by kernel_rfl) (fun _ _ _ h => h) (Or.inl ⟨by rfl, ?hy3⟩) hHeld ?rest3
  case hy3 =>
    intro w hSw
    try dsimp only at hSw
    go_simp
    try with_reducible rfl
  try simp only [Act.put, List.setIfInBounds_toArray, List.set_cons_zero, List.set_cons_succ]
  refine wpAnyH_take (i := 4) (oi := { dst := some 38, op := Op.move (Operand.tmp 10), type := 35, pos := "law.go:54", after := #[{ on := 3, ground := Ground.guard }], guard := some (3, true) }) (v := ?_) rfl (by kernel_rfl) (by kernel_rfl) (by kernel_rfl) (fun _ _ _ h => h) (Or.inl ⟨by rfl, ?hy4⟩) hHeld ?rest4
  case hy4 =>
    intro w hSw
    try dsimp only at hSw
    go_simp
    try with_reducible rfl
  try simp only [Act.put, List.setIfInBounds_toArray, List.set_cons_zero, List.set_cons_succ]
  refine wpAnyH_take (i := 5) (oi := { dst := some 39, op := Op.move (Operand.tmp 12), type := 35, pos := "law.go:54", after := #[{ on := 3, ground := Ground.guard }], guard := some (3, true) }) (v := ?_) rfl (by kernel_rfl) (by kernel_rfl) (by kernel_rfl) (fun _ _ _ h => h) (Or.inl ⟨by rfl, ?hy5⟩) hHeld ?rest5
  case hy5 =>
    intro w hSw
    try dsimp only at hSw
    go_simp
    try with_reducible rfl
  try simp only [Act.put, List.setIfInBounds_toArray, List.set_cons_zero, List.set_cons_succ]
  refine wpAnyH_take (i := 6) (oi := { dst := some 40, op := Op.binOp BinOp.eql 35 (Operand.tmp 38) (Operand.tmp 39) 35, type := 4, pos := "law.go:54", after := #[{ on := 4, ground := Ground.data }, { on := 5, ground := Ground.data }, { on := 3, ground := Ground.guard }], guard := some (3, true) }) (v := ?_) rfl (by kernel_rfl) (by kernel_rfl) (by kernel_rfl) (fun _ _ _ h => h) (Or.inl ⟨by rfl, ?hy6⟩) hHeld ?rest6
  case hy6 =>
    intro w hSw
    try dsimp only at hSw
    go_simp
    try with_reducible rfl
  try simp only [Act.put, List.setIfInBounds_toArray, List.set_cons_zero, List.set_cons_succ]
  refine wpAnyH_take (i := 7) (oi := { dst := some 41, op := Op.pick (Operand.tmp 37) (Operand.tmp 40) (Operand.const (Value.bool false)), type := 4, pos := "law.go:54", after := #[{ on := 3, ground := Ground.data }, { on := 6, ground := Ground.data }], guard := none }) (v := ?_) rfl (by kernel_rfl) (by kernel_rfl) (by kernel_rfl) (fun _ _ _ h => h) (Or.inl ⟨by rfl, ?hy7⟩) hHeld ?rest7
  case hy7 =>
    intro w hSw
    try dsimp only at hSw
    go_simp
    try with_reducible rfl
  try simp only [Act.put, List.setIfInBounds_toArray, List.set_cons_zero, List.set_cons_succ]
  refine wpAnyH_take (i := 8) (oi := { dst := some 42, op := Op.move (Operand.tmp 41), type := 4, pos := "law.go:54", after := #[{ on := 7, ground := Ground.data }, { on := 3, ground := Ground.chain }], guard := none }) (v := ?_) rfl (by kernel_rfl) (by kernel_rfl) (by kernel_rfl) (fun _ _ _ h => h) (Or.inl ⟨by rfl, ?hy8⟩) hHeld ?rest8
  case hy8 =>
    intro w hSw
    try dsimp only at hSw
    go_simp
    try with_reducible rfl
  try simp only [Act.put, List.setIfInBounds_toArray, List.set_cons_zero, List.set_cons_succ]
  refine wpAnyH_take (i := 9) (oi := { dst := some 43, op := Op.load 27 (Operand.tmp 5), type := 27, pos := "law.go:54", after := #[{ on := 8, ground := Ground.guard }], guard := some (8, true) }) (v := ?_) rfl (by kernel_rfl) (by kernel_rfl) (by kernel_rfl) (fun _ _ _ h => h) (Or.inl ⟨by rfl, ?hy9⟩) hHeld ?rest9
  case hy9 =>
    intro w hSw
    try dsimp only at hSw
    go_simp
    try with_reducible rfl
  try simp only [Act.put, List.setIfInBounds_toArray, List.set_cons_zero, List.set_cons_succ]
  refine wpAnyH_take (i := 11) (oi := { dst := some 45, op := Op.load 27 (Operand.tmp 5), type := 27, pos := "law.go:54", after := #[{ on := 8, ground := Ground.guard }], guard := some (8, true) }) (v := ?_) rfl (by kernel_rfl) (by kernel_rfl) (by kernel_rfl) (fun _ _ _ h => h) (Or.inl ⟨by rfl, ?hy11⟩) hHeld ?rest11
  case hy11 =>
    intro w hSw
    try dsimp only at hSw
    go_simp
    try with_reducible rfl
  try simp only [Act.put, List.setIfInBounds_toArray, List.set_cons_zero, List.set_cons_succ]
  refine wpAnyH_ready (rs := [10]) (by kernel_rfl) (by simp) (AllReadyH.cons (o := { dst := some 44, op := Op.call { callee := Callee.value (Operand.func 28), args := #[Operand.tmp 43], argTypes := #[27] }, type := 35, pos := "law.go:54", after := #[{ on := 9, ground := Ground.data }, { on := 8, ground := Ground.chain }, { on := 8, ground := Ground.guard }], guard := some (8, true) }) rfl (fun K hK => ?_) AllReadyH.nil)
  go_simp
  go_at_call 28
  refine (hC1.out _).mono ?_
  rintro e w6 ⟨rfl, hbx⟩
  have HB2 := HB.trans (hbx.mono HB.size)
  clear HB hbx
  have HB := HB2
  clear HB2
  refine hK.out _ _ (by exact hSp.out _ HB) (fun hHeld' => ?_)
  clear hK K hHeld
  have hHeld := hHeld'
  clear hHeld'
  try simp only [Act.put, List.setIfInBounds_toArray, List.set_cons_zero, List.set_cons_succ]
  refine wpAnyH_ready (rs := [12]) (by kernel_rfl) (by simp) (AllReadyH.cons (o := { dst := some 46, op := Op.call { callee := Callee.value (Operand.func 29), args := #[Operand.tmp 45], argTypes := #[27] }, type := 35, pos := "law.go:54", after := #[{ on := 11, ground := Ground.data }, { on := 10, ground := Ground.chain }, { on := 8, ground := Ground.guard }], guard := some (8, true) }) rfl (fun K hK => ?_) AllReadyH.nil)
  go_simp
  go_at_call 29
  refine (hC2.out _).mono ?_
  rintro e w7 ⟨rfl, hbx⟩
  have HB2 := HB.trans (hbx.mono HB.size)
  clear HB hbx
  have HB := HB2
  clear HB2
  refine hK.out _ _ (by exact hSp.out _ HB) (fun hHeld' => ?_)
  clear hK K hHeld
  have hHeld := hHeld'
  clear hHeld'
  try simp only [Act.put, List.setIfInBounds_toArray, List.set_cons_zero, List.set_cons_succ]
  refine wpAnyH_take (i := 13) (oi := { dst := some 47, op := Op.binOp BinOp.eql 35 (Operand.tmp 44) (Operand.tmp 46) 35, type := 4, pos := "law.go:54", after := #[{ on := 10, ground := Ground.data }, { on := 12, ground := Ground.data }, { on := 8, ground := Ground.guard }], guard := some (8, true) }) (v := ?_) rfl (by kernel_rfl) (by kernel_rfl) (by kernel_rfl) (fun _ _ _ h => h) (Or.inl ⟨by rfl, ?hy13⟩) hHeld ?rest13
  case hy13 =>
    intro w hSw
    try dsimp only at hSw
    go_simp
    try with_reducible rfl
  try simp only [Act.put, List.setIfInBounds_toArray, List.set_cons_zero, List.set_cons_succ]
  refine wpAnyH_take (i := 14) (oi := { dst := some 48, op := Op.pick (Operand.tmp 42) (Operand.tmp 47) (Operand.const (Value.bool false)), type := 4, pos := "law.go:54", after := #[{ on := 8, ground := Ground.data }, { on := 13, ground := Ground.data }], guard := none }) (v := ?_) rfl (by kernel_rfl) (by kernel_rfl) (by kernel_rfl) (fun _ _ _ h => h) (Or.inl ⟨by rfl, ?hy14⟩) hHeld ?rest14
  case hy14 =>
    intro w hSw
    try dsimp only at hSw
    go_simp
    try with_reducible rfl
  try simp only [Act.put, List.setIfInBounds_toArray, List.set_cons_zero, List.set_cons_succ]
  refine wpAnyH_take (i := 15) (oi := { dst := some 8, op := Op.assign (Operand.tmp 48), type := 4, pos := "law.go:54", after := #[{ on := 14, ground := Ground.data }, { on := 12, ground := Ground.chain }, { on := 0, ground := Ground.phase }, { on := 1, ground := Ground.phase }, { on := 2, ground := Ground.phase }, { on := 3, ground := Ground.phase }, { on := 4, ground := Ground.phase }, { on := 5, ground := Ground.phase }, { on := 6, ground := Ground.phase }, { on := 7, ground := Ground.phase }, { on := 8, ground := Ground.phase }, { on := 9, ground := Ground.phase }, { on := 10, ground := Ground.phase }, { on := 11, ground := Ground.phase }, { on := 12, ground := Ground.phase }, { on := 13, ground := Ground.phase }, { on := 14, ground := Ground.phase }], guard := none }) (v := ?_) rfl (by kernel_rfl) (by kernel_rfl) (by kernel_rfl) (fun _ _ _ h => h) (Or.inl ⟨by rfl, ?hy15⟩) hHeld ?rest15
  case hy15 =>
    intro w hSw
    try dsimp only at hSw
    go_simp
    try with_reducible rfl
  try simp only [Act.put, List.setIfInBounds_toArray, List.set_cons_zero, List.set_cons_succ]
  refine wpAnyH_done (by kernel_rfl) ?_ _
  have HF := Lib.hid (HB5.out.trans (HB.mono HB5.out.size))
  clear HB hHeld
  go_wp2_with fail
  go_ret
  exact ⟨rfl, HF.out⟩

theorem spec41_any (s : Sl) (hs : SlI s) (c : Ch) (l : List Op) (m : Nat) (A : Option Addr) (k : Nat) (ti : Int) (w : World) (hn : l.length = m) (hk : m ≤ k) (hA : OsAt w A l) (hok : ∀ y ∈ l, OpI y) (hL : Laid w) : Calls Tryd.prog 7 #[.agg (slA s), .agg (chA c), .slice A m k, .int .i64 ti] w fun e w' => e = .returned (.bool true) ∧ Below w.heap.size w w' := by
  by_cases hf : few41 l = true
  · exact spec41_main s hs c l m A k ti w hn hk hA hok hL hf
  · exact spec41_few s hs c l m A k ti w hn hk hA hok hL (by simpa using hf)
end Go.Proofs.YtnccbhndlnkboaaDoor
