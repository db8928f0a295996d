/- The walk of the reference's Verdict. -/
import Derived.Test.YtnccbhndlnkboaaDoorRefH
import Derived.Test.YtnccbhndlnkboaaDoorRf1
import Derived.Test.YtnccbhndlnkboaaDoorAccG
import Derived.Test.YtnccbhndlnkboaaDoorMoreA
namespace Go.Proofs.YtnccbhndlnkboaaDoor
open Go.RowKit Go.Shelf Cdc Sha
set_option linter.unusedVariables false
set_option linter.unusedSimpArgs false

set_option maxRecDepth 100000 in
set_option maxHeartbeats 8000000 in
theorem rvd_chk (s : Sl) (hs : SlI s) (c : Ch) (l : List Op) (m : Nat) (A : Option Addr) (k : Nat) (ti : Int) (w : World) (hn : l.length = m) (hk : m ≤ k) (hA : OsAt w A l) (hok : ∀ y ∈ l, OpI y) (h : chkC c = false) : Calls Tryd.prog 27 #[.agg (slA s), .agg (chA c), .slice A m k, .int .i64 ti] w fun e w' => e = .returned (.tuple #[.int .i64 0, .int .i64 410]) ∧ Below w.heap.size w w' := by
  obtain ⟨W2, hW2⟩ : ∃ W2, W2 = ((w.alloc (.cells (slA s) 25)).alloc (.cells (chA c) 27)) := ⟨_, rfl⟩
  have hz2 : W2.heap.size = w.heap.size + 2 := by rw [hW2]; simp
  have hB2 : Below w.heap.size w W2 := hW2 ▸ ((Below.refl _ w).alloc (Nat.le_refl _) _).alloc (by simp) _
  have r0 : W2.heap[w.heap.size]? = some (.cells (slA s) 25 (0, 0)) := by
    rw [hW2]
    exact (Below.heap_alloc _ _ _ (by simp)).trans (heap_alloc_new w _)
  have r1 : W2.heap[w.heap.size + 1]? = some (.cells (chA c) 27 (0, 0)) := by
    rw [hW2]
    have := heap_alloc_new (w.alloc (.cells (slA s) 25)) (.cells (chA c) 27)
    rw [World.size_alloc] at this
    exact this
  have hcl : Hid (∀ V, Below W2.heap.size W2 V → V.rangeAt w.heap.size 0 (slC s) ∧ V.cell? ⟨w.heap.size + 1, 0, none⟩ = some (.int .i64 c.no) ∧ V.cell? ⟨w.heap.size + 1, 1, none⟩ = some (.int .i64 c.team) ∧ V.cell? ⟨w.heap.size + 1, 2, none⟩ = some (.int .i64 c.day) ∧ V.cell? ⟨w.heap.size + 1, 3, none⟩ = some (.int .i64 c.due) ∧ V.cell? ⟨w.heap.size + 1, 4, none⟩ = some (.bool c.bl)) := Lib.hid fun V hV => by
    have h0 := (hV.block _ (by omega)).trans r0
    have h1 := (hV.block _ (by omega)).trans r1
    exact ⟨row_range7 (cs := slC s) h0, by rw [cell_of_row _ _ _ _ _ _ h1]; rfl, by rw [cell_of_row _ _ _ _ _ _ h1]; rfl, by rw [cell_of_row _ _ _ _ _ _ h1]; rfl, by rw [cell_of_row _ _ _ _ _ _ h1]; rfl, by rw [cell_of_row _ _ _ _ _ _ h1]; rfl⟩
  have pl : Hid ((Tryd.prog.info? 25).map (·.size) = some (slC s).length) := Lib.hid (by have := sl_info hs.root; simpa [slA] using this)
  have hKc : Hid (∀ V, Calls Tryd.prog 29 #[.agg #[.int .i64 c.no, .int .i64 c.team, .int .i64 c.day, .int .i64 c.due, .bool c.bl]] V fun e w' => e = .returned (.int .i64 (chkE c)) ∧ Below V.heap.size V w') := Lib.hid fun V => rcheck41_any c V
  have hCn : Hid (∀ V, Calls Tryd.prog 58 #[.agg (slC s).toArray, .agg #[.int .i64 c.no, .int .i64 c.team, .int .i64 c.day, .int .i64 c.due, .bool c.bl]] V fun e w' => e = .returned (.bool (rconB s c)) ∧ Below V.heap.size V w') := Lib.hid fun V => rconcerns_any s hs c V
  clear r0 r1 hz2
  have ch0 : (chA c)[0]? = some (.int .i64 c.no) := rfl
  have ch1 : (chA c)[1]? = some (.int .i64 c.team) := rfl
  have ch2 : (chA c)[2]? = some (.int .i64 c.day) := rfl
  have ch3 : (chA c)[3]? = some (.int .i64 c.due) := rfl
  have ch4 : (chA c)[4]? = some (.bool c.bl) := rfl
  have hce : chkE c = 410 := by simp [chkE, h]
  clear hs
  obtain ⟨hS5, y0, y1, y2, y3, y4⟩ := hcl.out W2 (Below.refl _ _)
  replace hB2 := Lib.hid hB2
  clear hS5
  go_enter Tryd.func27, Tryd.ntmps27
  go_wp2_with fail
  rw [← hW2]
  refine (hKc.out _).mono ?_
  rintro e w3 ⟨rfl, hb3⟩
  clear hW2 y0 y1 y2 y3 y4
  have HB3 := Lib.hid (hB2.out.trans (hb3.mono hB2.out.size))
  rw [hce]
  clear ch0 ch1 ch2 ch3 ch4
  go_wp2_with fail
  refine bodyPost_ret (v := .tuple #[.int .i64 0, .int .i64 410]) (by simp [results, Tryd.results27, go_sem]) rfl ⟨rfl, HB3.out⟩
set_option maxRecDepth 100000 in
set_option maxHeartbeats 8000000 in
theorem rvd_many (s : Sl) (hs : SlI s) (c : Ch) (l : List Op) (m : Nat) (A : Option Addr) (k : Nat) (ti : Int) (w : World) (hn : l.length = m) (hk : m ≤ k) (hA : OsAt w A l) (hok : ∀ y ∈ l, OpI y) (h : chkC c = true) (h2 : 64 < m) : Calls Tryd.prog 27 #[.agg (slA s), .agg (chA c), .slice A m k, .int .i64 ti] w fun e w' => e = .returned (.tuple #[.int .i64 0, .int .i64 2]) ∧ Below w.heap.size w w' := by
  obtain ⟨W2, hW2⟩ : ∃ W2, W2 = ((w.alloc (.cells (slA s) 25)).alloc (.cells (chA c) 27)) := ⟨_, rfl⟩
  have hz2 : W2.heap.size = w.heap.size + 2 := by rw [hW2]; simp
  have hB2 : Below w.heap.size w W2 := hW2 ▸ ((Below.refl _ w).alloc (Nat.le_refl _) _).alloc (by simp) _
  have r0 : W2.heap[w.heap.size]? = some (.cells (slA s) 25 (0, 0)) := by
    rw [hW2]
    exact (Below.heap_alloc _ _ _ (by simp)).trans (heap_alloc_new w _)
  have r1 : W2.heap[w.heap.size + 1]? = some (.cells (chA c) 27 (0, 0)) := by
    rw [hW2]
    have := heap_alloc_new (w.alloc (.cells (slA s) 25)) (.cells (chA c) 27)
    rw [World.size_alloc] at this
    exact this
  have hcl : Hid (∀ V, Below W2.heap.size W2 V → V.rangeAt w.heap.size 0 (slC s) ∧ V.cell? ⟨w.heap.size + 1, 0, none⟩ = some (.int .i64 c.no) ∧ V.cell? ⟨w.heap.size + 1, 1, none⟩ = some (.int .i64 c.team) ∧ V.cell? ⟨w.heap.size + 1, 2, none⟩ = some (.int .i64 c.day) ∧ V.cell? ⟨w.heap.size + 1, 3, none⟩ = some (.int .i64 c.due) ∧ V.cell? ⟨w.heap.size + 1, 4, none⟩ = some (.bool c.bl)) := Lib.hid fun V hV => by
    have h0 := (hV.block _ (by omega)).trans r0
    have h1 := (hV.block _ (by omega)).trans r1
    exact ⟨row_range7 (cs := slC s) h0, by rw [cell_of_row _ _ _ _ _ _ h1]; rfl, by rw [cell_of_row _ _ _ _ _ _ h1]; rfl, by rw [cell_of_row _ _ _ _ _ _ h1]; rfl, by rw [cell_of_row _ _ _ _ _ _ h1]; rfl, by rw [cell_of_row _ _ _ _ _ _ h1]; rfl⟩
  have pl : Hid ((Tryd.prog.info? 25).map (·.size) = some (slC s).length) := Lib.hid (by have := sl_info hs.root; simpa [slA] using this)
  have hKc : Hid (∀ V, Calls Tryd.prog 29 #[.agg #[.int .i64 c.no, .int .i64 c.team, .int .i64 c.day, .int .i64 c.due, .bool c.bl]] V fun e w' => e = .returned (.int .i64 (chkE c)) ∧ Below V.heap.size V w') := Lib.hid fun V => rcheck41_any c V
  have hCn : Hid (∀ V, Calls Tryd.prog 58 #[.agg (slC s).toArray, .agg #[.int .i64 c.no, .int .i64 c.team, .int .i64 c.day, .int .i64 c.due, .bool c.bl]] V fun e w' => e = .returned (.bool (rconB s c)) ∧ Below V.heap.size V w') := Lib.hid fun V => rconcerns_any s hs c V
  clear r0 r1 hz2
  have ch0 : (chA c)[0]? = some (.int .i64 c.no) := rfl
  have ch1 : (chA c)[1]? = some (.int .i64 c.team) := rfl
  have ch2 : (chA c)[2]? = some (.int .i64 c.day) := rfl
  have ch3 : (chA c)[3]? = some (.int .i64 c.due) := rfl
  have ch4 : (chA c)[4]? = some (.bool c.bl) := rfl
  have hce : chkE c = 0 := by simp [chkE, h]
  have d1 : decide ((64 : Int) < (m : Int)) = true := decide_eq_true (by omega)
  clear hs
  obtain ⟨hS5, y0, y1, y2, y3, y4⟩ := hcl.out W2 (Below.refl _ _)
  replace hB2 := Lib.hid hB2
  clear hS5
  go_enter Tryd.func27, Tryd.ntmps27
  go_wp2_with fail
  rw [← hW2]
  refine (hKc.out _).mono ?_
  rintro e w3 ⟨rfl, hb3⟩
  clear hW2 y0 y1 y2 y3 y4
  have HB3 := Lib.hid (hB2.out.trans (hb3.mono hB2.out.size))
  rw [hce]
  clear ch0 ch1 ch2 ch3 ch4
  go_wp2_with fail
  refine bodyPost_ret (v := .tuple #[.int .i64 0, .int .i64 2]) (by simp [results, Tryd.results27, go_sem]) rfl ⟨rfl, HB3.out⟩
set_option maxRecDepth 100000 in
set_option maxHeartbeats 8000000 in
theorem rvd_early (s : Sl) (hs : SlI s) (c : Ch) (l : List Op) (m : Nat) (A : Option Addr) (k : Nat) (ti : Int) (w : World) (hn : l.length = m) (hk : m ≤ k) (hA : OsAt w A l) (hok : ∀ y ∈ l, OpI y) (h : chkC c = true) (h2 : ¬ 64 < m) (h3 : ti < 0) : Calls Tryd.prog 27 #[.agg (slA s), .agg (chA c), .slice A m k, .int .i64 ti] w fun e w' => e = .returned (.tuple #[.int .i64 0, .int .i64 410]) ∧ Below w.heap.size w w' := by
  obtain ⟨W2, hW2⟩ : ∃ W2, W2 = ((w.alloc (.cells (slA s) 25)).alloc (.cells (chA c) 27)) := ⟨_, rfl⟩
  have hz2 : W2.heap.size = w.heap.size + 2 := by rw [hW2]; simp
  have hB2 : Below w.heap.size w W2 := hW2 ▸ ((Below.refl _ w).alloc (Nat.le_refl _) _).alloc (by simp) _
  have r0 : W2.heap[w.heap.size]? = some (.cells (slA s) 25 (0, 0)) := by
    rw [hW2]
    exact (Below.heap_alloc _ _ _ (by simp)).trans (heap_alloc_new w _)
  have r1 : W2.heap[w.heap.size + 1]? = some (.cells (chA c) 27 (0, 0)) := by
    rw [hW2]
    have := heap_alloc_new (w.alloc (.cells (slA s) 25)) (.cells (chA c) 27)
    rw [World.size_alloc] at this
    exact this
  have hcl : Hid (∀ V, Below W2.heap.size W2 V → V.rangeAt w.heap.size 0 (slC s) ∧ V.cell? ⟨w.heap.size + 1, 0, none⟩ = some (.int .i64 c.no) ∧ V.cell? ⟨w.heap.size + 1, 1, none⟩ = some (.int .i64 c.team) ∧ V.cell? ⟨w.heap.size + 1, 2, none⟩ = some (.int .i64 c.day) ∧ V.cell? ⟨w.heap.size + 1, 3, none⟩ = some (.int .i64 c.due) ∧ V.cell? ⟨w.heap.size + 1, 4, none⟩ = some (.bool c.bl)) := Lib.hid fun V hV => by
    have h0 := (hV.block _ (by omega)).trans r0
    have h1 := (hV.block _ (by omega)).trans r1
    exact ⟨row_range7 (cs := slC s) h0, by rw [cell_of_row _ _ _ _ _ _ h1]; rfl, by rw [cell_of_row _ _ _ _ _ _ h1]; rfl, by rw [cell_of_row _ _ _ _ _ _ h1]; rfl, by rw [cell_of_row _ _ _ _ _ _ h1]; rfl, by rw [cell_of_row _ _ _ _ _ _ h1]; rfl⟩
  have pl : Hid ((Tryd.prog.info? 25).map (·.size) = some (slC s).length) := Lib.hid (by have := sl_info hs.root; simpa [slA] using this)
  have hKc : Hid (∀ V, Calls Tryd.prog 29 #[.agg #[.int .i64 c.no, .int .i64 c.team, .int .i64 c.day, .int .i64 c.due, .bool c.bl]] V fun e w' => e = .returned (.int .i64 (chkE c)) ∧ Below V.heap.size V w') := Lib.hid fun V => rcheck41_any c V
  have hCn : Hid (∀ V, Calls Tryd.prog 58 #[.agg (slC s).toArray, .agg #[.int .i64 c.no, .int .i64 c.team, .int .i64 c.day, .int .i64 c.due, .bool c.bl]] V fun e w' => e = .returned (.bool (rconB s c)) ∧ Below V.heap.size V w') := Lib.hid fun V => rconcerns_any s hs c V
  clear r0 r1 hz2
  have ch0 : (chA c)[0]? = some (.int .i64 c.no) := rfl
  have ch1 : (chA c)[1]? = some (.int .i64 c.team) := rfl
  have ch2 : (chA c)[2]? = some (.int .i64 c.day) := rfl
  have ch3 : (chA c)[3]? = some (.int .i64 c.due) := rfl
  have ch4 : (chA c)[4]? = some (.bool c.bl) := rfl
  have hce : chkE c = 0 := by simp [chkE, h]
  have d1 : decide ((64 : Int) < (m : Int)) = false := decide_eq_false (by omega)
  have d2 : decide (ti < 0) = true := decide_eq_true (by omega)
  clear hs
  obtain ⟨hS5, y0, y1, y2, y3, y4⟩ := hcl.out W2 (Below.refl _ _)
  replace hB2 := Lib.hid hB2
  clear hS5
  go_enter Tryd.func27, Tryd.ntmps27
  go_wp2_with fail
  rw [← hW2]
  refine (hKc.out _).mono ?_
  rintro e w3 ⟨rfl, hb3⟩
  clear hW2 y0 y1 y2 y3 y4
  have HB3 := Lib.hid (hB2.out.trans (hb3.mono hB2.out.size))
  rw [hce]
  clear ch0 ch1 ch2 ch3 ch4
  go_wp2_with fail
  refine bodyPost_ret (v := .tuple #[.int .i64 0, .int .i64 410]) (by simp [results, Tryd.results27, go_sem]) rfl ⟨rfl, HB3.out⟩
set_option maxRecDepth 100000 in
set_option maxHeartbeats 8000000 in
theorem rvd_late (s : Sl) (hs : SlI s) (c : Ch) (l : List Op) (m : Nat) (A : Option Addr) (k : Nat) (ti : Int) (w : World) (hn : l.length = m) (hk : m ≤ k) (hA : OsAt w A l) (hok : ∀ y ∈ l, OpI y) (h : chkC c = true) (h2 : ¬ 64 < m) (h3 : ¬ ti < 0) (h4 : 134217728 ≤ ti) : Calls Tryd.prog 27 #[.agg (slA s), .agg (chA c), .slice A m k, .int .i64 ti] w fun e w' => e = .returned (.tuple #[.int .i64 0, .int .i64 410]) ∧ Below w.heap.size w w' := by
  obtain ⟨W2, hW2⟩ : ∃ W2, W2 = ((w.alloc (.cells (slA s) 25)).alloc (.cells (chA c) 27)) := ⟨_, rfl⟩
  have hz2 : W2.heap.size = w.heap.size + 2 := by rw [hW2]; simp
  have hB2 : Below w.heap.size w W2 := hW2 ▸ ((Below.refl _ w).alloc (Nat.le_refl _) _).alloc (by simp) _
  have r0 : W2.heap[w.heap.size]? = some (.cells (slA s) 25 (0, 0)) := by
    rw [hW2]
    exact (Below.heap_alloc _ _ _ (by simp)).trans (heap_alloc_new w _)
  have r1 : W2.heap[w.heap.size + 1]? = some (.cells (chA c) 27 (0, 0)) := by
    rw [hW2]
    have := heap_alloc_new (w.alloc (.cells (slA s) 25)) (.cells (chA c) 27)
    rw [World.size_alloc] at this
    exact this
  have hcl : Hid (∀ V, Below W2.heap.size W2 V → V.rangeAt w.heap.size 0 (slC s) ∧ V.cell? ⟨w.heap.size + 1, 0, none⟩ = some (.int .i64 c.no) ∧ V.cell? ⟨w.heap.size + 1, 1, none⟩ = some (.int .i64 c.team) ∧ V.cell? ⟨w.heap.size + 1, 2, none⟩ = some (.int .i64 c.day) ∧ V.cell? ⟨w.heap.size + 1, 3, none⟩ = some (.int .i64 c.due) ∧ V.cell? ⟨w.heap.size + 1, 4, none⟩ = some (.bool c.bl)) := Lib.hid fun V hV => by
    have h0 := (hV.block _ (by omega)).trans r0
    have h1 := (hV.block _ (by omega)).trans r1
    exact ⟨row_range7 (cs := slC s) h0, by rw [cell_of_row _ _ _ _ _ _ h1]; rfl, by rw [cell_of_row _ _ _ _ _ _ h1]; rfl, by rw [cell_of_row _ _ _ _ _ _ h1]; rfl, by rw [cell_of_row _ _ _ _ _ _ h1]; rfl, by rw [cell_of_row _ _ _ _ _ _ h1]; rfl⟩
  have pl : Hid ((Tryd.prog.info? 25).map (·.size) = some (slC s).length) := Lib.hid (by have := sl_info hs.root; simpa [slA] using this)
  have hKc : Hid (∀ V, Calls Tryd.prog 29 #[.agg #[.int .i64 c.no, .int .i64 c.team, .int .i64 c.day, .int .i64 c.due, .bool c.bl]] V fun e w' => e = .returned (.int .i64 (chkE c)) ∧ Below V.heap.size V w') := Lib.hid fun V => rcheck41_any c V
  have hCn : Hid (∀ V, Calls Tryd.prog 58 #[.agg (slC s).toArray, .agg #[.int .i64 c.no, .int .i64 c.team, .int .i64 c.day, .int .i64 c.due, .bool c.bl]] V fun e w' => e = .returned (.bool (rconB s c)) ∧ Below V.heap.size V w') := Lib.hid fun V => rconcerns_any s hs c V
  clear r0 r1 hz2
  have ch0 : (chA c)[0]? = some (.int .i64 c.no) := rfl
  have ch1 : (chA c)[1]? = some (.int .i64 c.team) := rfl
  have ch2 : (chA c)[2]? = some (.int .i64 c.day) := rfl
  have ch3 : (chA c)[3]? = some (.int .i64 c.due) := rfl
  have ch4 : (chA c)[4]? = some (.bool c.bl) := rfl
  have hce : chkE c = 0 := by simp [chkE, h]
  have d1 : decide ((64 : Int) < (m : Int)) = false := decide_eq_false (by omega)
  have d2 : decide (ti < 0) = false := decide_eq_false (by omega)
  have d3 : decide (134217728 ≤ ti) = true := decide_eq_true (by omega)
  clear hs
  obtain ⟨hS5, y0, y1, y2, y3, y4⟩ := hcl.out W2 (Below.refl _ _)
  replace hB2 := Lib.hid hB2
  clear hS5
  go_enter Tryd.func27, Tryd.ntmps27
  go_wp2_with fail
  rw [← hW2]
  refine (hKc.out _).mono ?_
  rintro e w3 ⟨rfl, hb3⟩
  clear hW2 y0 y1 y2 y3 y4
  have HB3 := Lib.hid (hB2.out.trans (hb3.mono hB2.out.size))
  rw [hce]
  clear ch0 ch1 ch2 ch3 ch4
  go_wp2_with fail
  refine bodyPost_ret (v := .tuple #[.int .i64 0, .int .i64 410]) (by simp [results, Tryd.results27, go_sem]) rfl ⟨rfl, HB3.out⟩
set_option maxRecDepth 100000 in
set_option maxHeartbeats 8000000 in
theorem rvd_other (s : Sl) (hs : SlI s) (c : Ch) (l : List Op) (m : Nat) (A : Option Addr) (k : Nat) (ti : Int) (w : World) (hn : l.length = m) (hk : m ≤ k) (hA : OsAt w A l) (hok : ∀ y ∈ l, OpI y) (h : chkC c = true) (h2 : ¬ 64 < m) (h3 : ¬ ti < 0) (h4 : ¬ 134217728 ≤ ti) (hcn : rconB s c = false) : Calls Tryd.prog 27 #[.agg (slA s), .agg (chA c), .slice A m k, .int .i64 ti] w fun e w' => e = .returned (.tuple #[.int .i64 0, .int .i64 410]) ∧ Below w.heap.size w w' := by
  obtain ⟨W2, hW2⟩ : ∃ W2, W2 = ((w.alloc (.cells (slA s) 25)).alloc (.cells (chA c) 27)) := ⟨_, rfl⟩
  have hz2 : W2.heap.size = w.heap.size + 2 := by rw [hW2]; simp
  have hB2 : Below w.heap.size w W2 := hW2 ▸ ((Below.refl _ w).alloc (Nat.le_refl _) _).alloc (by simp) _
  have r0 : W2.heap[w.heap.size]? = some (.cells (slA s) 25 (0, 0)) := by
    rw [hW2]
    exact (Below.heap_alloc _ _ _ (by simp)).trans (heap_alloc_new w _)
  have r1 : W2.heap[w.heap.size + 1]? = some (.cells (chA c) 27 (0, 0)) := by
    rw [hW2]
    have := heap_alloc_new (w.alloc (.cells (slA s) 25)) (.cells (chA c) 27)
    rw [World.size_alloc] at this
    exact this
  have hcl : Hid (∀ V, Below W2.heap.size W2 V → V.rangeAt w.heap.size 0 (slC s) ∧ V.cell? ⟨w.heap.size + 1, 0, none⟩ = some (.int .i64 c.no) ∧ V.cell? ⟨w.heap.size + 1, 1, none⟩ = some (.int .i64 c.team) ∧ V.cell? ⟨w.heap.size + 1, 2, none⟩ = some (.int .i64 c.day) ∧ V.cell? ⟨w.heap.size + 1, 3, none⟩ = some (.int .i64 c.due) ∧ V.cell? ⟨w.heap.size + 1, 4, none⟩ = some (.bool c.bl)) := Lib.hid fun V hV => by
    have h0 := (hV.block _ (by omega)).trans r0
    have h1 := (hV.block _ (by omega)).trans r1
    exact ⟨row_range7 (cs := slC s) h0, by rw [cell_of_row _ _ _ _ _ _ h1]; rfl, by rw [cell_of_row _ _ _ _ _ _ h1]; rfl, by rw [cell_of_row _ _ _ _ _ _ h1]; rfl, by rw [cell_of_row _ _ _ _ _ _ h1]; rfl, by rw [cell_of_row _ _ _ _ _ _ h1]; rfl⟩
  have pl : Hid ((Tryd.prog.info? 25).map (·.size) = some (slC s).length) := Lib.hid (by have := sl_info hs.root; simpa [slA] using this)
  have hKc : Hid (∀ V, Calls Tryd.prog 29 #[.agg #[.int .i64 c.no, .int .i64 c.team, .int .i64 c.day, .int .i64 c.due, .bool c.bl]] V fun e w' => e = .returned (.int .i64 (chkE c)) ∧ Below V.heap.size V w') := Lib.hid fun V => rcheck41_any c V
  have hCn : Hid (∀ V, Calls Tryd.prog 58 #[.agg (slC s).toArray, .agg #[.int .i64 c.no, .int .i64 c.team, .int .i64 c.day, .int .i64 c.due, .bool c.bl]] V fun e w' => e = .returned (.bool (rconB s c)) ∧ Below V.heap.size V w') := Lib.hid fun V => rconcerns_any s hs c V
  clear r0 r1 hz2
  have ch0 : (chA c)[0]? = some (.int .i64 c.no) := rfl
  have ch1 : (chA c)[1]? = some (.int .i64 c.team) := rfl
  have ch2 : (chA c)[2]? = some (.int .i64 c.day) := rfl
  have ch3 : (chA c)[3]? = some (.int .i64 c.due) := rfl
  have ch4 : (chA c)[4]? = some (.bool c.bl) := rfl
  have hce : chkE c = 0 := by simp [chkE, h]
  have d1 : decide ((64 : Int) < (m : Int)) = false := decide_eq_false (by omega)
  have d2 : decide (ti < 0) = false := decide_eq_false (by omega)
  have d3 : decide (134217728 ≤ ti) = false := decide_eq_false (by omega)
  clear hs
  obtain ⟨hS5, y0, y1, y2, y3, y4⟩ := hcl.out W2 (Below.refl _ _)
  replace hB2 := Lib.hid hB2
  clear hS5
  go_enter Tryd.func27, Tryd.ntmps27
  go_wp2_with fail
  rw [← hW2]
  refine (hKc.out _).mono ?_
  rintro e w3 ⟨rfl, hb3⟩
  clear hW2 y0 y1 y2 y3 y4
  have HB3 := Lib.hid (hB2.out.trans (hb3.mono hB2.out.size))
  rw [hce]
  clear ch0 ch1 ch2 ch3 ch4
  obtain ⟨hS5, y0, y1, y2, y3, y4⟩ := hcl.out w3 hb3
  replace hS5 := Lib.hid hS5
  go_wp2_with (refine wpList_load_midG (by rfl) 25 (.tmp 4) (by rfl) w.heap.size 0 (by rfl) (slC s) _ hS5.out Tryd.underlying25 (by rfl) pl.out ?_)
  refine (hCn.out _).mono ?_
  rintro e w4 ⟨rfl, hb4⟩
  rw [hcn]
  clear y0 y1 y2 y3 y4 hS5
  have HB4 := Lib.hid (HB3.out.trans (hb4.mono HB3.out.size))
  replace hb3 := Lib.hid (hb3.trans (hb4.mono hb3.size))
  clear hb4
  go_wp2_with fail
  refine bodyPost_ret (v := .tuple #[.int .i64 0, .int .i64 410]) (by simp [results, Tryd.results27, go_sem]) rfl ⟨rfl, HB4.out⟩
set_option maxRecDepth 100000 in
set_option maxHeartbeats 8000000 in
theorem rvd_main (s : Sl) (hs : SlI s) (c : Ch) (l : List Op) (m : Nat) (A : Option Addr) (k : Nat) (ti : Int) (w : World) (hn : l.length = m) (hk : m ≤ k) (hA : OsAt w A l) (hok : ∀ y ∈ l, OpI y) (h : chkC c = true) (h2 : ¬ 64 < m) (h3 : ¬ ti < 0) (h4 : ¬ 134217728 ≤ ti) (hcn : rconB s c = true) : Calls Tryd.prog 27 #[.agg (slA s), .agg (chA c), .slice A m k, .int .i64 ti] w fun e w' => e = .returned (.tuple #[.int .i64 (vdV s c l ti), .int .i64 0]) ∧ Below w.heap.size w w' := by
  obtain ⟨W2, hW2⟩ : ∃ W2, W2 = ((w.alloc (.cells (slA s) 25)).alloc (.cells (chA c) 27)) := ⟨_, rfl⟩
  have hz2 : W2.heap.size = w.heap.size + 2 := by rw [hW2]; simp
  have hB2 : Below w.heap.size w W2 := hW2 ▸ ((Below.refl _ w).alloc (Nat.le_refl _) _).alloc (by simp) _
  have r0 : W2.heap[w.heap.size]? = some (.cells (slA s) 25 (0, 0)) := by
    rw [hW2]
    exact (Below.heap_alloc _ _ _ (by simp)).trans (heap_alloc_new w _)
  have r1 : W2.heap[w.heap.size + 1]? = some (.cells (chA c) 27 (0, 0)) := by
    rw [hW2]
    have := heap_alloc_new (w.alloc (.cells (slA s) 25)) (.cells (chA c) 27)
    rw [World.size_alloc] at this
    exact this
  have hcl : Hid (∀ V, Below W2.heap.size W2 V → V.rangeAt w.heap.size 0 (slC s) ∧ V.cell? ⟨w.heap.size + 1, 0, none⟩ = some (.int .i64 c.no) ∧ V.cell? ⟨w.heap.size + 1, 1, none⟩ = some (.int .i64 c.team) ∧ V.cell? ⟨w.heap.size + 1, 2, none⟩ = some (.int .i64 c.day) ∧ V.cell? ⟨w.heap.size + 1, 3, none⟩ = some (.int .i64 c.due) ∧ V.cell? ⟨w.heap.size + 1, 4, none⟩ = some (.bool c.bl)) := Lib.hid fun V hV => by
    have h0 := (hV.block _ (by omega)).trans r0
    have h1 := (hV.block _ (by omega)).trans r1
    exact ⟨row_range7 (cs := slC s) h0, by rw [cell_of_row _ _ _ _ _ _ h1]; rfl, by rw [cell_of_row _ _ _ _ _ _ h1]; rfl, by rw [cell_of_row _ _ _ _ _ _ h1]; rfl, by rw [cell_of_row _ _ _ _ _ _ h1]; rfl, by rw [cell_of_row _ _ _ _ _ _ h1]; rfl⟩
  have pl : Hid ((Tryd.prog.info? 25).map (·.size) = some (slC s).length) := Lib.hid (by have := sl_info hs.root; simpa [slA] using this)
  have hKc : Hid (∀ V, Calls Tryd.prog 29 #[.agg #[.int .i64 c.no, .int .i64 c.team, .int .i64 c.day, .int .i64 c.due, .bool c.bl]] V fun e w' => e = .returned (.int .i64 (chkE c)) ∧ Below V.heap.size V w') := Lib.hid fun V => rcheck41_any c V
  have hCn : Hid (∀ V, Calls Tryd.prog 58 #[.agg (slC s).toArray, .agg #[.int .i64 c.no, .int .i64 c.team, .int .i64 c.day, .int .i64 c.due, .bool c.bl]] V fun e w' => e = .returned (.bool (rconB s c)) ∧ Below V.heap.size V w') := Lib.hid fun V => rconcerns_any s hs c V
  clear r0 r1 hz2
  have ch0 : (chA c)[0]? = some (.int .i64 c.no) := rfl
  have ch1 : (chA c)[1]? = some (.int .i64 c.team) := rfl
  have ch2 : (chA c)[2]? = some (.int .i64 c.day) := rfl
  have ch3 : (chA c)[3]? = some (.int .i64 c.due) := rfl
  have ch4 : (chA c)[4]? = some (.bool c.bl) := rfl
  have hce : chkE c = 0 := by simp [chkE, h]
  have d1 : decide ((64 : Int) < (m : Int)) = false := decide_eq_false (by omega)
  have d2 : decide (ti < 0) = false := decide_eq_false (by omega)
  have d3 : decide (134217728 ≤ ti) = false := decide_eq_false (by omega)
  obtain ⟨vv9, hvv⟩ : ∃ vv9, vdV s c l ti = vv9 := ⟨_, rfl⟩
  rw [hvv]
  replace hvv := Lib.hid hvv
  have hAn : Hid (∀ (V : World), Below w.heap.size w V → ∀ (d sa : Int) (bl : Bool) (p : List (List UInt8)) (q : Nat) (P : Option Addr) (cp : Nat), (⟨d, sa, bl, p⟩ : Op) ∈ l → p.length = q → q ≤ cp → DsAt V P p → Calls Tryd.prog 12 #[.agg (slC s).toArray, .agg #[.int .i64 c.no, .int .i64 c.team, .int .i64 c.day, .int .i64 c.due, .bool c.bl], .agg #[.int .i64 d, .int .i64 sa, .bool bl, .slice P q cp]] V fun e w' => e = .returned (.bool (ansB s c ⟨d, sa, bl, p⟩)) ∧ Below V.heap.size V w') := Lib.hid fun V hV d sa bl p q P cp hm hq hcp hd =>
    ranswers_any s hs c d sa bl p (hok _ hm) q hq P cp hcp V hd
  have hAx := Lib.hid hA
  have hnn := Lib.hid hn
  clear hn hA hok
  clear hs
  obtain ⟨hS5, y0, y1, y2, y3, y4⟩ := hcl.out W2 (Below.refl _ _)
  replace hB2 := Lib.hid hB2
  clear hS5
  go_enter Tryd.func27, Tryd.ntmps27
  go_wp2_with fail
  rw [← hW2]
  refine (hKc.out _).mono ?_
  rintro e w3 ⟨rfl, hb3⟩
  clear hW2 y0 y1 y2 y3 y4
  have HB3 := Lib.hid (hB2.out.trans (hb3.mono hB2.out.size))
  rw [hce]
  clear ch0 ch1 ch2 ch3 ch4
  obtain ⟨hS5, y0, y1, y2, y3, y4⟩ := hcl.out w3 hb3
  replace hS5 := Lib.hid hS5
  go_wp2_with (refine wpList_load_midG (by rfl) 25 (.tmp 4) (by rfl) w.heap.size 0 (by rfl) (slC s) _ hS5.out Tryd.underlying25 (by rfl) pl.out ?_)
  refine (hCn.out _).mono ?_
  rintro e w4 ⟨rfl, hb4⟩
  rw [hcn]
  clear y0 y1 y2 y3 y4 hS5
  have HB4 := Lib.hid (HB3.out.trans (hb4.mono HB3.out.size))
  replace hb3 := Lib.hid (hb3.trans (hb4.mono hb3.size))
  clear hb4
  go_wp2_with fail
  go_loopw [11, 12] (fun s11 _ wr => ∃ i : Nat, i ≤ m ∧ s11 = .int .i64 i ∧ Below w4.heap.size w4 wr ∧ Hid (l.find? (ansB s c) = (l.drop i).find? (ansB s c))) (fun s11 _ _ => m - (intOf s11).toNat)
  case atStart => exact ⟨0, Nat.zero_le _, rfl, Below.refl _ _, Lib.hid (by rw [List.drop_zero])⟩
  case round =>
    obtain ⟨i, hi, rfl, hbr, hfd⟩ := hrel
    by_cases hlt : i < m
    · obtain ⟨y, hy⟩ : ∃ y, l[i]? = some y := ⟨_, List.getElem?_eq_getElem (by rw [hnn.out]; omega)⟩
      have hbw := HB4.out.trans (hbr.mono HB4.out.size)
      have hb2 := Lib.hid (hb3.out.trans (hbr.mono hb3.out.size))
      have hmem := List.mem_of_getElem? hy
      obtain ⟨b1, o1, P, cp, rfl, hb1, ⟨z0, z1, z2, z3⟩, hcp, hds⟩ := (hAx.out.below hbw) i y hy
      have hdr : l.drop i = y :: l.drop (i + 1) := by
        rw [List.getElem?_eq_some_iff] at hy
        obtain ⟨h1, h2⟩ := hy
        rw [← h2, List.drop_eq_getElem_cons h1]
      have hfn : Hid (ansB s c y = false → l.find? (ansB s c) = (l.drop (i + 1)).find? (ansB s c)) := Lib.hid fun h => by rw [hfd.out, hdr, List.find?_cons, h]
      have hft : Hid (ansB s c y = true → vv9 = if y.bl = c.bl then 1 else 2) := Lib.hid fun h => by rw [← hvv.out, vdV, hfd.out, hdr, List.find?_cons, h]
      rw [Nat.add_zero] at z0
      obtain ⟨d, sa, bl, p⟩ := y
      dsimp only at z0 z1 z2 z3 hcp hds hft
      obtain ⟨q, hq⟩ : ∃ q, p.length = q := ⟨_, rfl⟩
      rw [hq] at z3 hcp
      obtain ⟨t, ht⟩ : ∃ t, ansB s c ⟨d, sa, bl, p⟩ = t := ⟨_, rfl⟩
      have hAns : Hid (∀ V, Below wr.heap.size wr V → Calls Tryd.prog 12 #[.agg (slC s).toArray, .agg #[.int .i64 c.no, .int .i64 c.team, .int .i64 c.day, .int .i64 c.due, .bool c.bl], .agg #[.int .i64 d, .int .i64 sa, .bool bl, .slice P q cp]] V fun e w' => e = .returned (.bool t) ∧ Below V.heap.size V w') := Lib.hid fun V hV => by
        have := hAn.out V (hbw.trans (hV.mono hbw.size)) d sa bl p q P cp hmem hq hcp (hds.below hV)
        rw [ht] at this
        exact this
      rw [ht] at hfn hft
      have hSp : Hid (∀ V, Below wr.heap.size wr V → (V.rangeAt w.heap.size 0 (slC s) ∧ V.cell? ⟨w.heap.size + 1, 0, none⟩ = some (.int .i64 c.no) ∧ V.cell? ⟨w.heap.size + 1, 1, none⟩ = some (.int .i64 c.team) ∧ V.cell? ⟨w.heap.size + 1, 2, none⟩ = some (.int .i64 c.day) ∧ V.cell? ⟨w.heap.size + 1, 3, none⟩ = some (.int .i64 c.due) ∧ V.cell? ⟨w.heap.size + 1, 4, none⟩ = some (.bool c.bl)) ∧ V.cell? ⟨b1, o1 + i * 4, none⟩ = some (.int .i64 d) ∧ V.cell? ⟨b1, o1 + i * 4 + 1, none⟩ = some (.int .i64 sa) ∧ V.cell? ⟨b1, o1 + i * 4 + 2, none⟩ = some (.bool bl) ∧ V.cell? ⟨b1, o1 + i * 4 + 3, none⟩ = some (.slice P q cp)) := Lib.hid fun V hV =>
        ⟨hcl.out V (hb2.out.trans (hV.mono hb2.out.size)), cell_belowB z0 hb1 hV, cell_belowB z1 hb1 hV, cell_belowB z2 hb1 hV, cell_belowB z3 hb1 hV⟩
      have hbx := Lib.hid hbw
      have hbn := Lib.hid hbr
      clear hq hds hcp hb1 hbw hmem hfd hdr hy hbr ht z0 z1 z2 z3
      go_wp2_with fail
      have HB : Below wr.heap.size wr wr.drew := (Below.refl _ _).drew
      refine wp_region_held_drew (S := fun w' => (w'.rangeAt w.heap.size 0 (slC s) ∧ w'.cell? ⟨w.heap.size + 1, 0, none⟩ = some (.int .i64 c.no) ∧ w'.cell? ⟨w.heap.size + 1, 1, none⟩ = some (.int .i64 c.team) ∧ w'.cell? ⟨w.heap.size + 1, 2, none⟩ = some (.int .i64 c.day) ∧ w'.cell? ⟨w.heap.size + 1, 3, none⟩ = some (.int .i64 c.due) ∧ w'.cell? ⟨w.heap.size + 1, 4, none⟩ = some (.bool c.bl)) ∧ w'.cell? ⟨b1, o1 + i * 4, none⟩ = some (.int .i64 d) ∧ w'.cell? ⟨b1, o1 + i * 4 + 1, none⟩ = some (.int .i64 sa) ∧ w'.cell? ⟨b1, o1 + i * 4 + 2, none⟩ = some (.bool bl) ∧ w'.cell? ⟨b1, o1 + i * 4 + 3, none⟩ = some (.slice P q cp)) (by kernel_rfl) (by exact hSp.out _ HB) (fun hHeld => ?_)
      refine wpAnyH_take (i := 0) (oi := { dst := some 39, op := Op.load 25 (Operand.tmp 4), type := 25, pos := "ref.go:42", after := #[], guard := none }) (v := _) rfl (by kernel_rfl) (by kernel_rfl) (by kernel_rfl) (fun _ _ _ h => h) (yieldsIf_load_mid (by rfl) 25 (.tmp 4) rfl w.heap.size 0 rfl (slC s) _ (fun _ h => h.1.1) Tryd.underlying25 rfl pl.out) hHeld ?_
      try simp only [Act.put, List.setIfInBounds_toArray, List.set_cons_zero, List.set_cons_succ]
      refine wpAnyH_take (i := 1) (oi := { dst := some 40, op := Op.load 27 (Operand.tmp 5), type := 27, pos := "ref.go:42", after := #[], guard := none }) (v := ?_) rfl (by kernel_rfl) (by kernel_rfl) (by kernel_rfl) (fun _ _ _ h => h) (Or.inl ⟨by rfl, ?hy1⟩) hHeld ?rest1
      case hy1 =>
        intro w hSw
        try dsimp only at hSw
        go_simp
        try with_reducible rfl
      try simp only [Act.put, List.setIfInBounds_toArray, List.set_cons_zero, List.set_cons_succ]
      refine wpAnyH_take (i := 2) (oi := { dst := some 41, op := Op.move (Operand.tmp 2), type := 28, pos := "ref.go:42", after := #[], guard := none }) (v := ?_) rfl (by kernel_rfl) (by kernel_rfl) (by kernel_rfl) (fun _ _ _ h => h) (Or.inl ⟨by rfl, ?hy2⟩) hHeld ?rest2
      case hy2 =>
        intro w hSw
        try dsimp only at hSw
        go_simp
        try with_reducible rfl
      try simp only [Act.put, List.setIfInBounds_toArray, List.set_cons_zero, List.set_cons_succ]
      refine wpAnyH_take (i := 3) (oi := { dst := some 42, op := Op.move (Operand.tmp 11), type := 3, pos := "ref.go:42", after := #[], guard := none }) (v := ?_) rfl (by kernel_rfl) (by kernel_rfl) (by kernel_rfl) (fun _ _ _ h => h) (Or.inl ⟨by rfl, ?hy3⟩) hHeld ?rest3
      case hy3 =>
        intro w hSw
        try dsimp only at hSw
        go_simp
        try with_reducible rfl
      try simp only [Act.put, List.setIfInBounds_toArray, List.set_cons_zero, List.set_cons_succ]
      refine wpAnyH_take (i := 4) (oi := { dst := some 43, op := Op.indexAddr 28 (Operand.tmp 41) (Operand.tmp 42), type := 0, pos := "ref.go:42", after := #[{ on := 2, ground := Ground.data }, { on := 3, ground := Ground.data }], guard := none }) (v := ?_) rfl (by kernel_rfl) (by kernel_rfl) (by kernel_rfl) (fun _ _ _ h => h) (Or.inl ⟨by rfl, ?hy4⟩) hHeld ?rest4
      case hy4 =>
        intro w hSw
        try dsimp only at hSw
        go_simp
        try with_reducible rfl
      try simp only [Act.put, List.setIfInBounds_toArray, List.set_cons_zero, List.set_cons_succ]
      refine wpAnyH_take (i := 5) (oi := { dst := some 44, op := Op.load 33 (Operand.tmp 43), type := 33, pos := "ref.go:42", after := #[{ on := 4, ground := Ground.data }], guard := none }) (v := ?_) rfl (by kernel_rfl) (by kernel_rfl) (by kernel_rfl) (fun _ _ _ h => h) (Or.inl ⟨by rfl, ?hy5⟩) hHeld ?rest5
      case hy5 =>
        intro w hSw
        try dsimp only at hSw
        go_simp
        try with_reducible rfl
      try simp only [Act.put, List.setIfInBounds_toArray, List.set_cons_zero, List.set_cons_succ]
      refine wpAnyH_ready (rs := [6]) (by kernel_rfl) (by simp) (AllReadyH.cons (o := { dst := some 45, op := Op.call { callee := Callee.value (Operand.func 12), args := #[Operand.tmp 39, Operand.tmp 40, Operand.tmp 44], argTypes := #[25, 27, 33] }, type := 4, pos := "ref.go:42", after := #[{ on := 0, ground := Ground.data }, { on := 1, ground := Ground.data }, { on := 5, ground := Ground.data }], guard := none }) rfl (fun K hK => ?_) AllReadyH.nil)
      go_simp
      go_at_call 12
      refine (hAns.out _ HB).mono ?_
      rintro e w6 ⟨rfl, hb6⟩
      have HB2 := HB.trans (hb6.mono HB.size)
      clear HB hb6
      have HB := HB2
      clear HB2
      refine hK.out _ _ (by exact hSp.out _ HB) (fun hHeld' => ?_)
      clear hK K hHeld
      have hHeld := hHeld'
      clear hHeld'
      try simp only [Act.put, List.setIfInBounds_toArray, List.set_cons_zero, List.set_cons_succ]
      refine wpAnyH_take (i := 7) (oi := { dst := some 12, op := Op.assign (Operand.tmp 45), type := 4, pos := "ref.go:42", after := #[{ on := 6, ground := Ground.data }, { on := 6, ground := Ground.chain }, { on := 0, ground := Ground.phase }, { on := 1, ground := Ground.phase }, { on := 2, ground := Ground.phase }, { on := 3, ground := Ground.phase }, { on := 4, ground := Ground.phase }, { on := 5, ground := Ground.phase }, { on := 6, ground := Ground.phase }], guard := none }) (v := ?_) rfl (by kernel_rfl) (by kernel_rfl) (by kernel_rfl) (fun _ _ _ h => h) (Or.inl ⟨by rfl, ?hy7⟩) hHeld ?rest7
      case hy7 =>
        intro w hSw
        try dsimp only at hSw
        go_simp
        try with_reducible rfl
      try simp only [Act.put, List.setIfInBounds_toArray, List.set_cons_zero, List.set_cons_succ]
      refine wpAnyH_done (by kernel_rfl) ?_ _
      have hb6 := Lib.hid HB
      clear HB hHeld
      cases t with
      | true =>
        have hvt := Lib.hid (hft.out rfl)
        have hSp2 : Hid (∀ V, Below w6.heap.size w6 V → V.cell? ⟨w.heap.size + 1, 4, none⟩ = some (.bool c.bl) ∧ V.cell? ⟨b1, o1 + i * 4 + 2, none⟩ = some (.bool bl)) := Lib.hid fun V hV => by
          have := hSp.out V (hb6.out.trans (hV.mono hb6.out.size))
          exact ⟨this.1.2.2.2.2.2, this.2.2.2.1⟩
        go_wp2_with fail
        have HB : Below w6.heap.size w6 w6.drew := (Below.refl _ _).drew
        refine wp_region_held_drew (S := fun w' => w'.cell? ⟨w.heap.size + 1, 4, none⟩ = some (.bool c.bl) ∧ w'.cell? ⟨b1, o1 + i * 4 + 2, none⟩ = some (.bool bl)) (by kernel_rfl) (by exact hSp2.out _ HB) (fun hHeld => ?_)
        refine wpAnyH_take (i := 0) (oi := { dst := some 46, op := Op.move (Operand.tmp 12), type := 4, pos := "ref.go:43", after := #[], guard := none }) (v := ?_) rfl (by kernel_rfl) (by kernel_rfl) (by kernel_rfl) (fun _ _ _ h => h) (Or.inl ⟨by rfl, ?hya0⟩) hHeld ?resta0
        case hya0 =>
          intro w hSw
          try dsimp only at hSw
          go_simp
          try with_reducible rfl
        try simp only [Act.put, List.setIfInBounds_toArray, List.set_cons_zero, List.set_cons_succ]
        refine wpAnyH_take (i := 1) (oi := { dst := some 47, op := Op.move (Operand.tmp 46), type := 4, pos := "ref.go:43", after := #[{ on := 0, ground := Ground.data }], guard := none }) (v := ?_) rfl (by kernel_rfl) (by kernel_rfl) (by kernel_rfl) (fun _ _ _ h => h) (Or.inl ⟨by rfl, ?hya1⟩) hHeld ?resta1
        case hya1 =>
          intro w hSw
          try dsimp only at hSw
          go_simp
          try with_reducible rfl
        try simp only [Act.put, List.setIfInBounds_toArray, List.set_cons_zero, List.set_cons_succ]
        refine wpAnyH_take (i := 2) (oi := { dst := some 48, op := Op.move (Operand.tmp 2), type := 28, pos := "ref.go:43", after := #[{ on := 1, ground := Ground.guard }], guard := some (1, true) }) (v := ?_) rfl (by kernel_rfl) (by kernel_rfl) (by kernel_rfl) (fun _ _ _ h => h) (Or.inl ⟨by rfl, ?hya2⟩) hHeld ?resta2
        case hya2 =>
          intro w hSw
          try dsimp only at hSw
          go_simp
          try with_reducible rfl
        try simp only [Act.put, List.setIfInBounds_toArray, List.set_cons_zero, List.set_cons_succ]
        refine wpAnyH_take (i := 3) (oi := { dst := some 49, op := Op.move (Operand.tmp 11), type := 3, pos := "ref.go:43", after := #[{ on := 1, ground := Ground.guard }], guard := some (1, true) }) (v := ?_) rfl (by kernel_rfl) (by kernel_rfl) (by kernel_rfl) (fun _ _ _ h => h) (Or.inl ⟨by rfl, ?hya3⟩) hHeld ?resta3
        case hya3 =>
          intro w hSw
          try dsimp only at hSw
          go_simp
          try with_reducible rfl
        try simp only [Act.put, List.setIfInBounds_toArray, List.set_cons_zero, List.set_cons_succ]
        refine wpAnyH_take (i := 4) (oi := { dst := some 50, op := Op.indexAddr 28 (Operand.tmp 48) (Operand.tmp 49), type := 0, pos := "ref.go:43", after := #[{ on := 2, ground := Ground.data }, { on := 3, ground := Ground.data }, { on := 1, ground := Ground.guard }], guard := some (1, true) }) (v := ?_) rfl (by kernel_rfl) (by kernel_rfl) (by kernel_rfl) (fun _ _ _ h => h) (Or.inl ⟨by rfl, ?hya4⟩) hHeld ?resta4
        case hya4 =>
          intro w hSw
          try dsimp only at hSw
          go_simp
          try with_reducible rfl
        try simp only [Act.put, List.setIfInBounds_toArray, List.set_cons_zero, List.set_cons_succ]
        refine wpAnyH_take (i := 5) (oi := { dst := some 51, op := Op.fieldAddr 33 (Operand.tmp 50) 2, type := 0, pos := "ref.go:43", after := #[{ on := 4, ground := Ground.data }, { on := 1, ground := Ground.guard }], guard := some (1, true) }) (v := ?_) rfl (by kernel_rfl) (by kernel_rfl) (by kernel_rfl) (fun _ _ _ h => h) (Or.inl ⟨by rfl, ?hya5⟩) hHeld ?resta5
        case hya5 =>
          intro w hSw
          try dsimp only at hSw
          go_simp
          try with_reducible rfl
        try simp only [Act.put, List.setIfInBounds_toArray, List.set_cons_zero, List.set_cons_succ]
        refine wpAnyH_take (i := 6) (oi := { dst := some 52, op := Op.load 4 (Operand.tmp 51), type := 4, pos := "ref.go:43", after := #[{ on := 5, ground := Ground.data }, { on := 1, ground := Ground.guard }], guard := some (1, true) }) (v := ?_) rfl (by kernel_rfl) (by kernel_rfl) (by kernel_rfl) (fun _ _ _ h => h) (Or.inl ⟨by rfl, ?hya6⟩) hHeld ?resta6
        case hya6 =>
          intro w hSw
          try dsimp only at hSw
          go_simp
          try with_reducible rfl
        try simp only [Act.put, List.setIfInBounds_toArray, List.set_cons_zero, List.set_cons_succ]
        refine wpAnyH_take (i := 7) (oi := { dst := some 53, op := Op.fieldAddr 27 (Operand.tmp 5) 4, type := 0, pos := "ref.go:43", after := #[{ on := 1, ground := Ground.guard }], guard := some (1, true) }) (v := ?_) rfl (by kernel_rfl) (by kernel_rfl) (by kernel_rfl) (fun _ _ _ h => h) (Or.inl ⟨by rfl, ?hya7⟩) hHeld ?resta7
        case hya7 =>
          intro w hSw
          try dsimp only at hSw
          go_simp
          try with_reducible rfl
        try simp only [Act.put, List.setIfInBounds_toArray, List.set_cons_zero, List.set_cons_succ]
        refine wpAnyH_take (i := 8) (oi := { dst := some 54, op := Op.load 4 (Operand.tmp 53), type := 4, pos := "ref.go:43", after := #[{ on := 7, ground := Ground.data }, { on := 1, ground := Ground.guard }], guard := some (1, true) }) (v := ?_) rfl (by kernel_rfl) (by kernel_rfl) (by kernel_rfl) (fun _ _ _ h => h) (Or.inl ⟨by rfl, ?hya8⟩) hHeld ?resta8
        case hya8 =>
          intro w hSw
          try dsimp only at hSw
          go_simp
          try with_reducible rfl
        try simp only [Act.put, List.setIfInBounds_toArray, List.set_cons_zero, List.set_cons_succ]
        refine wpAnyH_take (i := 9) (oi := { dst := some 55, op := Op.binOp BinOp.eql 4 (Operand.tmp 52) (Operand.tmp 54) 4, type := 4, pos := "ref.go:43", after := #[{ on := 6, ground := Ground.data }, { on := 8, ground := Ground.data }, { on := 1, ground := Ground.guard }], guard := some (1, true) }) (v := ?_) rfl (by kernel_rfl) (by kernel_rfl) (by kernel_rfl) (fun _ _ _ h => h) (Or.inl ⟨by rfl, ?hya9⟩) hHeld ?resta9
        case hya9 =>
          intro w hSw
          try dsimp only at hSw
          go_simp
          try with_reducible rfl
        try simp only [Act.put, List.setIfInBounds_toArray, List.set_cons_zero, List.set_cons_succ]
        refine wpAnyH_take (i := 10) (oi := { dst := some 56, op := Op.pick (Operand.tmp 47) (Operand.tmp 55) (Operand.const (Value.bool false)), type := 4, pos := "ref.go:43", after := #[{ on := 1, ground := Ground.data }, { on := 9, ground := Ground.data }], guard := none }) (v := ?_) rfl (by kernel_rfl) (by kernel_rfl) (by kernel_rfl) (fun _ _ _ h => h) (Or.inl ⟨by rfl, ?hya10⟩) hHeld ?resta10
        case hya10 =>
          intro w hSw
          try dsimp only at hSw
          go_simp
          try with_reducible rfl
        try simp only [Act.put, List.setIfInBounds_toArray, List.set_cons_zero, List.set_cons_succ]
        refine wpAnyH_done (by kernel_rfl) ?_ _
        have HF := Lib.hid (hbx.out.trans ((hb6.out.trans (HB.mono hb6.out.size)).mono hbx.out.size))
        clear HB hHeld
        by_cases hbb : bl = c.bl
        · have e1 : (bl == c.bl) = true := by simp [hbb]
          obtain rfl : vv9 = 1 := by rw [hvt.out, if_pos hbb]
          replace hbb := Lib.hid hbb
          go_wp2_with fail
          · refine bodyPost_ret (v := .tuple #[.int .i64 1, .int .i64 0]) (by simp [results, Tryd.results27, go_sem]) rfl ⟨rfl, HF.out⟩
          · exact absurd (e1.symm.trans ‹(bl == c.bl) = false›) (by decide)
        · have e1 : (bl == c.bl) = false := by simp [hbb]
          obtain rfl : vv9 = 2 := by rw [hvt.out, if_neg hbb]
          replace hbb := Lib.hid hbb
          go_wp2_with fail
          · exact absurd (e1.symm.trans ‹(bl == c.bl) = true›) (by decide)
          · refine bodyPost_ret (v := .tuple #[.int .i64 2, .int .i64 0]) (by simp [results, Tryd.results27, go_sem]) rfl ⟨rfl, HF.out⟩
      | false =>
        have hfx := Lib.hid (hfn.out rfl)
        go_wp2_with fail
        have HB : Below w6.heap.size w6 w6.drew := (Below.refl _ _).drew
        refine wp_region_held_drew (S := fun w' => True) (by kernel_rfl) (by trivial) (fun hHeld => ?_)
        refine wpAnyH_take (i := 0) (oi := { dst := some 46, op := Op.move (Operand.tmp 12), type := 4, pos := "ref.go:43", after := #[], guard := none }) (v := ?_) rfl (by kernel_rfl) (by kernel_rfl) (by kernel_rfl) (fun _ _ _ h => h) (Or.inl ⟨by rfl, ?hyaa0⟩) hHeld ?restaa0
        case hyaa0 =>
          intro w hSw
          try dsimp only at hSw
          go_simp
          try with_reducible rfl
        try simp only [Act.put, List.setIfInBounds_toArray, List.set_cons_zero, List.set_cons_succ]
        refine wpAnyH_take (i := 1) (oi := { dst := some 47, op := Op.move (Operand.tmp 46), type := 4, pos := "ref.go:43", after := #[{ on := 0, ground := Ground.data }], guard := none }) (v := ?_) rfl (by kernel_rfl) (by kernel_rfl) (by kernel_rfl) (fun _ _ _ h => h) (Or.inl ⟨by rfl, ?hyaa1⟩) hHeld ?restaa1
        case hyaa1 =>
          intro w hSw
          try dsimp only at hSw
          go_simp
          try with_reducible rfl
        try simp only [Act.put, List.setIfInBounds_toArray, List.set_cons_zero, List.set_cons_succ]
        refine wpAnyH_take (i := 2) (oi := { dst := some 48, op := Op.move (Operand.tmp 2), type := 28, pos := "ref.go:43", after := #[{ on := 1, ground := Ground.guard }], guard := some (1, true) }) (v := undef) rfl (by kernel_rfl) (by kernel_rfl) (by kernel_rfl) (fun _ _ _ h => h) (Or.inr ⟨by rfl, rfl⟩) hHeld ?_
        try simp only [Act.put, List.setIfInBounds_toArray, List.set_cons_zero, List.set_cons_succ]
        refine wpAnyH_take (i := 3) (oi := { dst := some 49, op := Op.move (Operand.tmp 11), type := 3, pos := "ref.go:43", after := #[{ on := 1, ground := Ground.guard }], guard := some (1, true) }) (v := undef) rfl (by kernel_rfl) (by kernel_rfl) (by kernel_rfl) (fun _ _ _ h => h) (Or.inr ⟨by rfl, rfl⟩) hHeld ?_
        try simp only [Act.put, List.setIfInBounds_toArray, List.set_cons_zero, List.set_cons_succ]
        refine wpAnyH_take (i := 4) (oi := { dst := some 50, op := Op.indexAddr 28 (Operand.tmp 48) (Operand.tmp 49), type := 0, pos := "ref.go:43", after := #[{ on := 2, ground := Ground.data }, { on := 3, ground := Ground.data }, { on := 1, ground := Ground.guard }], guard := some (1, true) }) (v := undef) rfl (by kernel_rfl) (by kernel_rfl) (by kernel_rfl) (fun _ _ _ h => h) (Or.inr ⟨by rfl, rfl⟩) hHeld ?_
        try simp only [Act.put, List.setIfInBounds_toArray, List.set_cons_zero, List.set_cons_succ]
        refine wpAnyH_take (i := 5) (oi := { dst := some 51, op := Op.fieldAddr 33 (Operand.tmp 50) 2, type := 0, pos := "ref.go:43", after := #[{ on := 4, ground := Ground.data }, { on := 1, ground := Ground.guard }], guard := some (1, true) }) (v := undef) rfl (by kernel_rfl) (by kernel_rfl) (by kernel_rfl) (fun _ _ _ h => h) (Or.inr ⟨by rfl, rfl⟩) hHeld ?_
        try simp only [Act.put, List.setIfInBounds_toArray, List.set_cons_zero, List.set_cons_succ]
        refine wpAnyH_take (i := 6) (oi := { dst := some 52, op := Op.load 4 (Operand.tmp 51), type := 4, pos := "ref.go:43", after := #[{ on := 5, ground := Ground.data }, { on := 1, ground := Ground.guard }], guard := some (1, true) }) (v := undef) rfl (by kernel_rfl) (by kernel_rfl) (by kernel_rfl) (fun _ _ _ h => h) (Or.inr ⟨by rfl, rfl⟩) hHeld ?_
        try simp only [Act.put, List.setIfInBounds_toArray, List.set_cons_zero, List.set_cons_succ]
        refine wpAnyH_take (i := 7) (oi := { dst := some 53, op := Op.fieldAddr 27 (Operand.tmp 5) 4, type := 0, pos := "ref.go:43", after := #[{ on := 1, ground := Ground.guard }], guard := some (1, true) }) (v := undef) rfl (by kernel_rfl) (by kernel_rfl) (by kernel_rfl) (fun _ _ _ h => h) (Or.inr ⟨by rfl, rfl⟩) hHeld ?_
        try simp only [Act.put, List.setIfInBounds_toArray, List.set_cons_zero, List.set_cons_succ]
        refine wpAnyH_take (i := 8) (oi := { dst := some 54, op := Op.load 4 (Operand.tmp 53), type := 4, pos := "ref.go:43", after := #[{ on := 7, ground := Ground.data }, { on := 1, ground := Ground.guard }], guard := some (1, true) }) (v := undef) rfl (by kernel_rfl) (by kernel_rfl) (by kernel_rfl) (fun _ _ _ h => h) (Or.inr ⟨by rfl, rfl⟩) hHeld ?_
        try simp only [Act.put, List.setIfInBounds_toArray, List.set_cons_zero, List.set_cons_succ]
        refine wpAnyH_take (i := 9) (oi := { dst := some 55, op := Op.binOp BinOp.eql 4 (Operand.tmp 52) (Operand.tmp 54) 4, type := 4, pos := "ref.go:43", after := #[{ on := 6, ground := Ground.data }, { on := 8, ground := Ground.data }, { on := 1, ground := Ground.guard }], guard := some (1, true) }) (v := undef) rfl (by kernel_rfl) (by kernel_rfl) (by kernel_rfl) (fun _ _ _ h => h) (Or.inr ⟨by rfl, rfl⟩) hHeld ?_
        try simp only [Act.put, List.setIfInBounds_toArray, List.set_cons_zero, List.set_cons_succ]
        refine wpAnyH_take (i := 10) (oi := { dst := some 56, op := Op.pick (Operand.tmp 47) (Operand.tmp 55) (Operand.const (Value.bool false)), type := 4, pos := "ref.go:43", after := #[{ on := 1, ground := Ground.data }, { on := 9, ground := Ground.data }], guard := none }) (v := ?_) rfl (by kernel_rfl) (by kernel_rfl) (by kernel_rfl) (fun _ _ _ h => h) (Or.inl ⟨by rfl, ?hyaa10⟩) hHeld ?restaa10
        case hyaa10 =>
          intro w hSw
          try dsimp only at hSw
          go_simp
          try with_reducible rfl
        try simp only [Act.put, List.setIfInBounds_toArray, List.set_cons_zero, List.set_cons_succ]
        refine wpAnyH_done (by kernel_rfl) ?_ _
        have HF := Lib.hid (hbn.out.trans ((hb6.out.trans (HB.mono hb6.out.size)).mono hbn.out.size))
        clear HB hHeld
        go_wp2_with fail
        go_roundw
        case rel => exact ⟨i + 1, by omega, by go_num, HF.out, hfx⟩
        case measure => simp [intOf]; omega
    · have e : i = m := by omega
      subst e
      have hnone : l.find? (ansB s c) = none := by rw [hfd.out, List.drop_of_length_le (by rw [hnn.out]; exact Nat.le_refl _)]; rfl
      have hbw := Lib.hid (HB4.out.trans (hbr.mono HB4.out.size))
      obtain ⟨-, -, -, -, y3, -⟩ := hcl.out wr (hb3.out.trans (hbr.mono hb3.out.size))
      have hv : vv9 = if ti ≤ c.due then 0 else 2 := by rw [← hvv.out, vdV, hnone]
      clear hnone hfd hbr
      by_cases h6 : ti ≤ c.due
      · have d6 : decide (c.due < ti) = false := decide_eq_false (by omega)
        obtain rfl : vv9 = 0 := by rw [hv, if_pos h6]
        clear hv
        replace h6 := Lib.hid h6
        go_wp2_with fail
        refine bodyPost_ret (v := .tuple #[.int .i64 0, .int .i64 0]) (by simp [results, Tryd.results27, go_sem]) rfl ⟨rfl, hbw.out⟩
      · have d6 : decide (c.due < ti) = true := decide_eq_true (by omega)
        obtain rfl : vv9 = 2 := by rw [hv, if_neg h6]
        clear hv
        replace h6 := Lib.hid h6
        go_wp2_with fail
        refine bodyPost_ret (v := .tuple #[.int .i64 2, .int .i64 0]) (by simp [results, Tryd.results27, go_sem]) rfl ⟨rfl, hbw.out⟩

/-- what the reference's Verdict answers -/
theorem rverdict_any (s : Sl) (hs : SlI s) (c : Ch) (l : List Op) (m : Nat) (A : Option Addr) (k : Nat) (ti : Int) (w : World) (hn : l.length = m) (hk : m ≤ k) (hA : OsAt w A l) (hok : ∀ y ∈ l, OpI y) : Calls Tryd.prog 27 #[.agg (slA s), .agg (chA c), .slice A m k, .int .i64 ti] w fun e w' => e = .returned (.tuple #[.int .i64 (vdR s c l m ti), .int .i64 (vdE s c m ti)]) ∧ Below w.heap.size w w' := by
  by_cases h1 : chkC c = true
  · by_cases h2 : 64 < m
    · have e : vdE s c m ti = 2 := by simp [vdE, h1, h2]
      rw [vdR_zero s c l m ti (by rw [e]; decide), e]
      exact rvd_many s hs c l m A k ti w hn hk hA hok h1 h2
    · by_cases h3 : ti < 0
      · have e : vdE s c m ti = 410 := by simp [vdE, h1, h2]; omega
        rw [vdR_zero s c l m ti (by rw [e]; decide), e]
        exact rvd_early s hs c l m A k ti w hn hk hA hok h1 h2 h3
      · by_cases h4 : 134217728 ≤ ti
        · have e : vdE s c m ti = 410 := by simp [vdE, h1, h2]; omega
          rw [vdR_zero s c l m ti (by rw [e]; decide), e]
          exact rvd_late s hs c l m A k ti w hn hk hA hok h1 h2 h3 h4
        · by_cases h5 : conB s c = true
          · have e : vdE s c m ti = 0 := by simp [vdE, h1, h2, h5]; omega
            rw [vdR, if_pos e, e]
            exact rvd_main s hs c l m A k ti w hn hk hA hok h1 h2 h3 h4 ((rconB_eq h1).trans h5)
          · have h5 : conB s c = false := by simpa using h5
            have e : vdE s c m ti = 410 := by simp [vdE, h1, h2, h5]
            rw [vdR_zero s c l m ti (by rw [e]; decide), e]
            exact rvd_other s hs c l m A k ti w hn hk hA hok h1 h2 h3 h4 ((rconB_eq h1).trans h5)
  · have h1 : chkC c = false := by simpa using h1
    have e : vdE s c m ti = 410 := by simp [vdE, h1]
    rw [vdR_zero s c l m ti (by rw [e]; decide), e]
    exact rvd_chk s hs c l m A k ti w hn hk hA hok h1
end Go.Proofs.YtnccbhndlnkboaaDoor
