/- The walk of the statement AccuseOthers. -/
import Derived.Test.YtnccbhndlnkboaaDoorAccSane
import Derived.Test.YtnccbhndlnkboaaDoorRefH
import Derived.Test.YtnccbhndlnkboaaDoorRf1
import Derived.Test.YtnccbhndlnkboaaDoorMoreA
namespace Go.Proofs.YtnccbhndlnkboaaDoor
open Go.RowKit Go.Shelf Cdc Sha
set_option linter.unusedVariables false
set_option linter.unusedSimpArgs false

theorem vdE_less {s : Sl} {c : Ch} {m m' : Nat} {t : Int} (h : vdE s c m t = 0) (hm : m' ≤ 64) : vdE s c m' t = 0 := by
  unfold vdE at h ⊢
  by_cases c1 : chkC c = true
  · rw [if_pos c1] at h ⊢
    by_cases c2 : 64 < m
    · rw [if_pos c2] at h
      exact absurd h (by decide)
    · rw [if_neg c2] at h
      rw [if_neg (by omega)]
      exact h
  · rw [if_neg c1] at h
    exact absurd h (by decide)
theorem built_y4 (d sa : Int) (bl : Bool) (P : Option Addr) (q cp : Nat) : Tryd.prog.builtSlice 33 1 [(0, .agg #[.int .i64 d, .int .i64 sa, .bool bl, .slice P q cp])] = some #[.int .i64 d, .int .i64 sa, .bool bl, .slice P q cp] := by kernel_rfl

set_option maxRecDepth 100000 in
set_option maxHeartbeats 8000000 in
theorem oth_few (s : Sl) (hs : SlI s) (c : Ch) (l : List Op) (m : Nat) (A : Option Addr) (k : Nat) (ti la : Int) (w : World) (hn : l.length = m) (hk : m ≤ k) (hA : OsAt w A l) (hok : ∀ y ∈ l, OpI y) (hL : Laid w) (hf : few41 l = false) : Calls Tryd.prog 9 #[.agg (slA s), .agg (chA c), .slice A m k, .int .i64 ti, .int .i64 la] w fun e w' => e = .returned (.bool true) ∧ Below w.heap.size w w' := by
  obtain ⟨W2, hW2⟩ : ∃ W2, W2 = ((w.alloc (.cells (slA s) 25)).alloc (.cells (chA c) 27)) := ⟨_, rfl⟩
  have hz2 : W2.heap.size = w.heap.size + 2 := by rw [hW2]; simp
  have hB2 : Below w.heap.size w W2 := hW2 ▸ ((Below.refl _ w).alloc (Nat.le_refl _) _).alloc (by simp) _
  have r0 : W2.heap[w.heap.size]? = some (.cells (slA s) 25 (0, 0)) := by
    rw [hW2]
    exact (Below.heap_alloc _ _ _ (by simp)).trans (heap_alloc_new w _)
  have r1 : W2.heap[w.heap.size + 1]? = some (.cells (chA c) 27 (0, 0)) := by
    rw [hW2]
    have := heap_alloc_new (w.alloc (.cells (slA s) 25)) (.cells (chA c) 27)
    rw [World.size_alloc] at this
    exact this
  have hcl : Hid (∀ V, Below W2.heap.size W2 V → V.rangeAt w.heap.size 0 (slC s) ∧ V.cell? ⟨w.heap.size + 1, 0, none⟩ = some (.int .i64 c.no) ∧ V.cell? ⟨w.heap.size + 1, 1, none⟩ = some (.int .i64 c.team) ∧ V.cell? ⟨w.heap.size + 1, 2, none⟩ = some (.int .i64 c.day) ∧ V.cell? ⟨w.heap.size + 1, 3, none⟩ = some (.int .i64 c.due) ∧ V.cell? ⟨w.heap.size + 1, 4, none⟩ = some (.bool c.bl)) := Lib.hid fun V hV => by
    have h0 := (hV.block _ (by omega)).trans r0
    have h1 := (hV.block _ (by omega)).trans r1
    exact ⟨row_range7 (cs := slC s) h0, by rw [cell_of_row _ _ _ _ _ _ h1]; rfl, by rw [cell_of_row _ _ _ _ _ _ h1]; rfl, by rw [cell_of_row _ _ _ _ _ _ h1]; rfl, by rw [cell_of_row _ _ _ _ _ _ h1]; rfl, by rw [cell_of_row _ _ _ _ _ _ h1]; rfl⟩
  have pl : Hid ((Tryd.prog.info? 25).map (·.size) = some (slC s).length) := Lib.hid (by have := sl_info hs.root; simpa [slA] using this)
  have hSn : Hid (∀ V, Below w.heap.size w V → Calls Tryd.prog 10 #[] V fun e w' => e = .returned (.bool true) ∧ Below V.heap.size V w') := Lib.hid fun V hV => asane_any V (hL.below hV)
  have hFo : Hid (∀ V, Below w.heap.size w V → Calls Tryd.prog 11 #[.slice A m k] V fun e w' => e = .returned (.bool (few41 l)) ∧ w' = V) := Lib.hid fun V hV => rfew41_any l m hn A k hk V (hA.below hV)
  clear r0 r1 hz2
  replace hB2 := Lib.hid hB2
  clear hs hA hL hok
  go_enter Tryd.func9, Tryd.ntmps9
  go_wp2_with fail
  rw [← hW2]
  refine (hSn.out _ hB2.out).mono ?_
  rintro e w3 ⟨rfl, hb3⟩
  clear hW2
  have HB3 := hB2.out.trans (hb3.mono hB2.out.size)
  go_wp2_with fail
  refine (hFo.out _ HB3).mono ?_
  rintro e w4 ⟨rfl, hw4⟩
  have hw4b := hw4.symm
  clear hw4
  subst hw4b
  rw [hf]
  go_wp2_with fail
  go_ret
  exact ⟨rfl, HB3⟩
set_option maxRecDepth 100000 in
set_option maxHeartbeats 8000000 in
theorem oth_many (s : Sl) (hs : SlI s) (c : Ch) (l : List Op) (m : Nat) (A : Option Addr) (k : Nat) (ti la : Int) (w : World) (hn : l.length = m) (hk : m ≤ k) (hA : OsAt w A l) (hok : ∀ y ∈ l, OpI y) (hL : Laid w) (hf : few41 l = true) (h1 : 60 < m) : Calls Tryd.prog 9 #[.agg (slA s), .agg (chA c), .slice A m k, .int .i64 ti, .int .i64 la] w fun e w' => e = .returned (.bool true) ∧ Below w.heap.size w w' := by
  obtain ⟨W2, hW2⟩ : ∃ W2, W2 = ((w.alloc (.cells (slA s) 25)).alloc (.cells (chA c) 27)) := ⟨_, rfl⟩
  have hz2 : W2.heap.size = w.heap.size + 2 := by rw [hW2]; simp
  have hB2 : Below w.heap.size w W2 := hW2 ▸ ((Below.refl _ w).alloc (Nat.le_refl _) _).alloc (by simp) _
  have r0 : W2.heap[w.heap.size]? = some (.cells (slA s) 25 (0, 0)) := by
    rw [hW2]
    exact (Below.heap_alloc _ _ _ (by simp)).trans (heap_alloc_new w _)
  have r1 : W2.heap[w.heap.size + 1]? = some (.cells (chA c) 27 (0, 0)) := by
    rw [hW2]
    have := heap_alloc_new (w.alloc (.cells (slA s) 25)) (.cells (chA c) 27)
    rw [World.size_alloc] at this
    exact this
  have hcl : Hid (∀ V, Below W2.heap.size W2 V → V.rangeAt w.heap.size 0 (slC s) ∧ V.cell? ⟨w.heap.size + 1, 0, none⟩ = some (.int .i64 c.no) ∧ V.cell? ⟨w.heap.size + 1, 1, none⟩ = some (.int .i64 c.team) ∧ V.cell? ⟨w.heap.size + 1, 2, none⟩ = some (.int .i64 c.day) ∧ V.cell? ⟨w.heap.size + 1, 3, none⟩ = some (.int .i64 c.due) ∧ V.cell? ⟨w.heap.size + 1, 4, none⟩ = some (.bool c.bl)) := Lib.hid fun V hV => by
    have h0 := (hV.block _ (by omega)).trans r0
    have h1 := (hV.block _ (by omega)).trans r1
    exact ⟨row_range7 (cs := slC s) h0, by rw [cell_of_row _ _ _ _ _ _ h1]; rfl, by rw [cell_of_row _ _ _ _ _ _ h1]; rfl, by rw [cell_of_row _ _ _ _ _ _ h1]; rfl, by rw [cell_of_row _ _ _ _ _ _ h1]; rfl, by rw [cell_of_row _ _ _ _ _ _ h1]; rfl⟩
  have pl : Hid ((Tryd.prog.info? 25).map (·.size) = some (slC s).length) := Lib.hid (by have := sl_info hs.root; simpa [slA] using this)
  have hSn : Hid (∀ V, Below w.heap.size w V → Calls Tryd.prog 10 #[] V fun e w' => e = .returned (.bool true) ∧ Below V.heap.size V w') := Lib.hid fun V hV => asane_any V (hL.below hV)
  have hFo : Hid (∀ V, Below w.heap.size w V → Calls Tryd.prog 11 #[.slice A m k] V fun e w' => e = .returned (.bool (few41 l)) ∧ w' = V) := Lib.hid fun V hV => rfew41_any l m hn A k hk V (hA.below hV)
  clear r0 r1 hz2
  replace hB2 := Lib.hid hB2
  have d60 : decide ((60 : Int) < (m : Int)) = true := decide_eq_true (by omega)
  clear hs hA hL hok
  go_enter Tryd.func9, Tryd.ntmps9
  go_wp2_with fail
  rw [← hW2]
  refine (hSn.out _ hB2.out).mono ?_
  rintro e w3 ⟨rfl, hb3⟩
  clear hW2
  have HB3 := hB2.out.trans (hb3.mono hB2.out.size)
  go_wp2_with fail
  refine (hFo.out _ HB3).mono ?_
  rintro e w4 ⟨rfl, hw4⟩
  have hw4b := hw4.symm
  clear hw4
  subst hw4b
  rw [hf]
  go_wp2_with fail
  go_ret
  exact ⟨rfl, HB3⟩
set_option maxRecDepth 100000 in
set_option maxHeartbeats 8000000 in
theorem oth_err (s : Sl) (hs : SlI s) (c : Ch) (l : List Op) (m : Nat) (A : Option Addr) (k : Nat) (ti la : Int) (w : World) (hn : l.length = m) (hk : m ≤ k) (hA : OsAt w A l) (hok : ∀ y ∈ l, OpI y) (hL : Laid w) (hf : few41 l = true) (h1 : ¬ 60 < m) (he : vdE s c m ti ≠ 0) : Calls Tryd.prog 9 #[.agg (slA s), .agg (chA c), .slice A m k, .int .i64 ti, .int .i64 la] w fun e w' => e = .returned (.bool true) ∧ Below w.heap.size w w' := by
  obtain ⟨W2, hW2⟩ : ∃ W2, W2 = ((w.alloc (.cells (slA s) 25)).alloc (.cells (chA c) 27)) := ⟨_, rfl⟩
  have hz2 : W2.heap.size = w.heap.size + 2 := by rw [hW2]; simp
  have hB2 : Below w.heap.size w W2 := hW2 ▸ ((Below.refl _ w).alloc (Nat.le_refl _) _).alloc (by simp) _
  have r0 : W2.heap[w.heap.size]? = some (.cells (slA s) 25 (0, 0)) := by
    rw [hW2]
    exact (Below.heap_alloc _ _ _ (by simp)).trans (heap_alloc_new w _)
  have r1 : W2.heap[w.heap.size + 1]? = some (.cells (chA c) 27 (0, 0)) := by
    rw [hW2]
    have := heap_alloc_new (w.alloc (.cells (slA s) 25)) (.cells (chA c) 27)
    rw [World.size_alloc] at this
    exact this
  have hcl : Hid (∀ V, Below W2.heap.size W2 V → V.rangeAt w.heap.size 0 (slC s) ∧ V.cell? ⟨w.heap.size + 1, 0, none⟩ = some (.int .i64 c.no) ∧ V.cell? ⟨w.heap.size + 1, 1, none⟩ = some (.int .i64 c.team) ∧ V.cell? ⟨w.heap.size + 1, 2, none⟩ = some (.int .i64 c.day) ∧ V.cell? ⟨w.heap.size + 1, 3, none⟩ = some (.int .i64 c.due) ∧ V.cell? ⟨w.heap.size + 1, 4, none⟩ = some (.bool c.bl)) := Lib.hid fun V hV => by
    have h0 := (hV.block _ (by omega)).trans r0
    have h1 := (hV.block _ (by omega)).trans r1
    exact ⟨row_range7 (cs := slC s) h0, by rw [cell_of_row _ _ _ _ _ _ h1]; rfl, by rw [cell_of_row _ _ _ _ _ _ h1]; rfl, by rw [cell_of_row _ _ _ _ _ _ h1]; rfl, by rw [cell_of_row _ _ _ _ _ _ h1]; rfl, by rw [cell_of_row _ _ _ _ _ _ h1]; rfl⟩
  have pl : Hid ((Tryd.prog.info? 25).map (·.size) = some (slC s).length) := Lib.hid (by have := sl_info hs.root; simpa [slA] using this)
  have hSn : Hid (∀ V, Below w.heap.size w V → Calls Tryd.prog 10 #[] V fun e w' => e = .returned (.bool true) ∧ Below V.heap.size V w') := Lib.hid fun V hV => asane_any V (hL.below hV)
  have hFo : Hid (∀ V, Below w.heap.size w V → Calls Tryd.prog 11 #[.slice A m k] V fun e w' => e = .returned (.bool (few41 l)) ∧ w' = V) := Lib.hid fun V hV => rfew41_any l m hn A k hk V (hA.below hV)
  clear r0 r1 hz2
  replace hB2 := Lib.hid hB2
  have d60 : decide ((60 : Int) < (m : Int)) = false := decide_eq_false (by omega)
  have hl2 : ∀ y ∈ l, OpI y ∧ y.path.length ≤ 1000000 := fun z hz => by
    refine ⟨hok z hz, ?_⟩
    have h7 := hf
    rw [few41, Bool.and_eq_true, List.all_eq_true] at h7
    have := of_decide_eq_true (h7.2 z hz)
    omega
  obtain ⟨V9, hV9⟩ : ∃ V9, vdR s c l m ti = V9 := ⟨_, rfl⟩
  obtain ⟨E9, hE9⟩ : ∃ E9, vdE s c m ti = E9 := ⟨_, rfl⟩
  have hVd : Hid (∀ V t, Below w.heap.size w V → Calls Tryd.prog 13 #[.agg (slC s).toArray, .agg #[.int .i64 c.no, .int .i64 c.team, .int .i64 c.day, .int .i64 c.due, .bool c.bl], .slice A m k, .int .i64 t] V fun e w' => e = .returned (.tuple #[.int .i64 (vdR s c l m t), .int .i64 (vdE s c m t)]) ∧ Below V.heap.size V w') := Lib.hid fun V t hV =>
    verdict_any s hs c l m A k t V hn hk (hA.below hV) hl2 (hL.below hV)
  have hVt : Hid (∀ V, Below w.heap.size w V → Calls Tryd.prog 13 #[.agg (slC s).toArray, .agg #[.int .i64 c.no, .int .i64 c.team, .int .i64 c.day, .int .i64 c.due, .bool c.bl], .slice A m k, .int .i64 ti] V fun e w' => e = .returned (.tuple #[.int .i64 V9, .int .i64 E9]) ∧ Below V.heap.size V w') := Lib.hid fun V hV => by
    have := hVd.out V ti hV
    rw [hV9, hE9] at this
    exact this
  have hv0 := vdR_zero s c l m ti he
  rw [hE9] at he
  rw [hV9] at hv0
  subst hv0
  have b1 : (E9 != 0) = true := by simpa using he
  clear hl2 hn hV9 hE9 he
  clear hs hA hL hok
  go_enter Tryd.func9, Tryd.ntmps9
  go_wp2_with fail
  rw [← hW2]
  refine (hSn.out _ hB2.out).mono ?_
  rintro e w3 ⟨rfl, hb3⟩
  clear hW2
  have HB3 := hB2.out.trans (hb3.mono hB2.out.size)
  go_wp2_with fail
  refine (hFo.out _ HB3).mono ?_
  rintro e w4 ⟨rfl, hw4⟩
  have hw4b := hw4.symm
  clear hw4
  subst hw4b
  rw [hf]
  obtain ⟨hS5, y0, y1, y2, y3, y4⟩ := hcl.out w3 hb3
  replace hS5 := Lib.hid hS5
  replace HB3 := Lib.hid HB3
  replace hb3 := Lib.hid hb3
  go_wp2_with (refine wpList_load_mid (by rfl) 25 (.tmp 5) (by rfl) w.heap.size 0 (by rfl) (slC s) _ hS5.out Tryd.underlying25 (by rfl) pl.out ?_)
  refine (hVt.out _ HB3.out).mono ?_
  rintro e w4 ⟨rfl, hb4⟩
  clear y0 y1 y2 y3 y4 hS5
  have HB4 := Lib.hid (HB3.out.trans (hb4.mono HB3.out.size))
  replace hb3 := Lib.hid (hb3.out.trans (hb4.mono hb3.out.size))
  clear hb4
  go_wp2_with fail
  go_ret
  exact ⟨rfl, HB4.out⟩
set_option maxRecDepth 100000 in
set_option maxHeartbeats 8000000 in
theorem oth_main (s : Sl) (hs : SlI s) (c : Ch) (l : List Op) (m : Nat) (A : Option Addr) (k : Nat) (ti la : Int) (w : World) (hn : l.length = m) (hk : m ≤ k) (hA : OsAt w A l) (hok : ∀ y ∈ l, OpI y) (hL : Laid w) (hf : few41 l = true) (h1 : ¬ 60 < m) (he : vdE s c m ti = 0) : Calls Tryd.prog 9 #[.agg (slA s), .agg (chA c), .slice A m k, .int .i64 ti, .int .i64 la] w fun e w' => e = .returned (.bool true) ∧ Below w.heap.size w w' := by
  obtain ⟨W2, hW2⟩ : ∃ W2, W2 = ((w.alloc (.cells (slA s) 25)).alloc (.cells (chA c) 27)) := ⟨_, rfl⟩
  have hz2 : W2.heap.size = w.heap.size + 2 := by rw [hW2]; simp
  have hB2 : Below w.heap.size w W2 := hW2 ▸ ((Below.refl _ w).alloc (Nat.le_refl _) _).alloc (by simp) _
  have r0 : W2.heap[w.heap.size]? = some (.cells (slA s) 25 (0, 0)) := by
    rw [hW2]
    exact (Below.heap_alloc _ _ _ (by simp)).trans (heap_alloc_new w _)
  have r1 : W2.heap[w.heap.size + 1]? = some (.cells (chA c) 27 (0, 0)) := by
    rw [hW2]
    have := heap_alloc_new (w.alloc (.cells (slA s) 25)) (.cells (chA c) 27)
    rw [World.size_alloc] at this
    exact this
  have hcl : Hid (∀ V, Below W2.heap.size W2 V → V.rangeAt w.heap.size 0 (slC s) ∧ V.cell? ⟨w.heap.size + 1, 0, none⟩ = some (.int .i64 c.no) ∧ V.cell? ⟨w.heap.size + 1, 1, none⟩ = some (.int .i64 c.team) ∧ V.cell? ⟨w.heap.size + 1, 2, none⟩ = some (.int .i64 c.day) ∧ V.cell? ⟨w.heap.size + 1, 3, none⟩ = some (.int .i64 c.due) ∧ V.cell? ⟨w.heap.size + 1, 4, none⟩ = some (.bool c.bl)) := Lib.hid fun V hV => by
    have h0 := (hV.block _ (by omega)).trans r0
    have h1 := (hV.block _ (by omega)).trans r1
    exact ⟨row_range7 (cs := slC s) h0, by rw [cell_of_row _ _ _ _ _ _ h1]; rfl, by rw [cell_of_row _ _ _ _ _ _ h1]; rfl, by rw [cell_of_row _ _ _ _ _ _ h1]; rfl, by rw [cell_of_row _ _ _ _ _ _ h1]; rfl, by rw [cell_of_row _ _ _ _ _ _ h1]; rfl⟩
  have pl : Hid ((Tryd.prog.info? 25).map (·.size) = some (slC s).length) := Lib.hid (by have := sl_info hs.root; simpa [slA] using this)
  have hSn : Hid (∀ V, Below w.heap.size w V → Calls Tryd.prog 10 #[] V fun e w' => e = .returned (.bool true) ∧ Below V.heap.size V w') := Lib.hid fun V hV => asane_any V (hL.below hV)
  have hFo : Hid (∀ V, Below w.heap.size w V → Calls Tryd.prog 11 #[.slice A m k] V fun e w' => e = .returned (.bool (few41 l)) ∧ w' = V) := Lib.hid fun V hV => rfew41_any l m hn A k hk V (hA.below hV)
  clear r0 r1 hz2
  replace hB2 := Lib.hid hB2
  have d60 : decide ((60 : Int) < (m : Int)) = false := decide_eq_false (by omega)
  have hl2 : ∀ y ∈ l, OpI y ∧ y.path.length ≤ 1000000 := fun z hz => by
    refine ⟨hok z hz, ?_⟩
    have h7 := hf
    rw [few41, Bool.and_eq_true, List.all_eq_true] at h7
    have := of_decide_eq_true (h7.2 z hz)
    omega
  obtain ⟨V9, hV9⟩ : ∃ V9, vdR s c l m ti = V9 := ⟨_, rfl⟩
  obtain ⟨E9, hE9⟩ : ∃ E9, vdE s c m ti = E9 := ⟨_, rfl⟩
  have hVd : Hid (∀ V t, Below w.heap.size w V → Calls Tryd.prog 13 #[.agg (slC s).toArray, .agg #[.int .i64 c.no, .int .i64 c.team, .int .i64 c.day, .int .i64 c.due, .bool c.bl], .slice A m k, .int .i64 t] V fun e w' => e = .returned (.tuple #[.int .i64 (vdR s c l m t), .int .i64 (vdE s c m t)]) ∧ Below V.heap.size V w') := Lib.hid fun V t hV =>
    verdict_any s hs c l m A k t V hn hk (hA.below hV) hl2 (hL.below hV)
  have hVt : Hid (∀ V, Below w.heap.size w V → Calls Tryd.prog 13 #[.agg (slC s).toArray, .agg #[.int .i64 c.no, .int .i64 c.team, .int .i64 c.day, .int .i64 c.due, .bool c.bl], .slice A m k, .int .i64 ti] V fun e w' => e = .returned (.tuple #[.int .i64 V9, .int .i64 E9]) ∧ Below V.heap.size V w') := Lib.hid fun V hV => by
    have := hVd.out V ti hV
    rw [hV9, hE9] at this
    exact this
  rw [he] at hE9
  subst hE9
  have hAn : Hid (∀ (V : World), Below w.heap.size w V → ∀ (d sa : Int) (bl : Bool) (p : List (List UInt8)) (q : Nat) (P : Option Addr) (cp : Nat), (⟨d, sa, bl, p⟩ : Op) ∈ l → p.length = q → q ≤ cp → DsAt V P p → Calls Tryd.prog 12 #[.agg (slC s).toArray, .agg #[.int .i64 c.no, .int .i64 c.team, .int .i64 c.day, .int .i64 c.due, .bool c.bl], .agg #[.int .i64 d, .int .i64 sa, .bool bl, .slice P q cp]] V fun e w' => e = .returned (.bool (ansB s c ⟨d, sa, bl, p⟩)) ∧ Below V.heap.size V w') := Lib.hid fun V hV d sa bl p q P cp hm hq hcp hd =>
    ranswers_any s hs c d sa bl p (hok _ hm) q hq P cp hcp V hd
  have hNil : Hid (l.find? (ansB s c) = none → ∀ V, Below w.heap.size w V → Calls Tryd.prog 13 #[.agg (slC s).toArray, .agg #[.int .i64 c.no, .int .i64 c.team, .int .i64 c.day, .int .i64 c.due, .bool c.bl], .slice none 0 0, .int .i64 ti] V fun e w' => e = .returned (.tuple #[.int .i64 V9, .int .i64 0]) ∧ Below V.heap.size V w') := Lib.hid fun h V hV => by
    have := verdict_nil s hs c ti V (hL.below hV)
    have h0 : vdE s c 0 ti = 0 := vdE_less he (by omega)
    have h9 : vdR s c [] 0 ti = V9 := by rw [← hV9, vdR, if_pos h0, vdR, if_pos he, vdV, vdV, h]; rfl
    rw [h0, h9] at this
    exact this
  have hOne : Hid (∀ (d sa : Int) (bl : Bool) (p : List (List UInt8)) (q : Nat) (P : Option Addr) (cp : Nat), ansB s c ⟨d, sa, bl, p⟩ = true → l.find? (ansB s c) = some ⟨d, sa, bl, p⟩ → (⟨d, sa, bl, p⟩ : Op) ∈ l → p.length = q → q ≤ cp → ∀ V, Below w.heap.size w V → DsAt V P p → Calls Tryd.prog 13 #[.agg (slC s).toArray, .agg #[.int .i64 c.no, .int .i64 c.team, .int .i64 c.day, .int .i64 c.due, .bool c.bl], .slice (some ⟨V.heap.size, 0, none⟩) 1 1, .int .i64 ti] (V.alloc (.cells #[.int .i64 d, .int .i64 sa, .bool bl, .slice P q cp] 33)) fun e w' => e = .returned (.tuple #[.int .i64 V9, .int .i64 0]) ∧ Below V.heap.size V w') := Lib.hid fun d sa bl p q P cp ha h hm hq hcp V hV hd => by
    have := verdict_one s hs c ⟨d, sa, bl, p⟩ (hok _ hm) q hq (by have := (hl2 _ hm).2; dsimp only at this; omega) P cp hcp ti V hd (hL.below hV)
    have h0 : vdE s c 1 ti = 0 := vdE_less he (by omega)
    have h9 : vdR s c [⟨d, sa, bl, p⟩] 1 ti = V9 := by rw [← hV9, vdR, if_pos h0, vdR, if_pos he, vdV, vdV, h, List.find?_cons, ha]
    rw [h0, h9] at this
    exact this
  obtain ⟨V8, hV8⟩ : ∃ V8, vdR s c l m la = V8 := ⟨_, rfl⟩
  obtain ⟨E8, hE8⟩ : ∃ E8, vdE s c m la = E8 := ⟨_, rfl⟩
  have hVl : Hid (∀ V, Below w.heap.size w V → Calls Tryd.prog 13 #[.agg (slC s).toArray, .agg #[.int .i64 c.no, .int .i64 c.team, .int .i64 c.day, .int .i64 c.due, .bool c.bl], .slice A m k, .int .i64 la] V fun e w' => e = .returned (.tuple #[.int .i64 V8, .int .i64 E8]) ∧ Below V.heap.size V w') := Lib.hid fun V hV => by
    have := hVd.out V la hV
    rw [hV8, hE8] at this
    exact this
  have hfin : Hid (∀ y, l.find? (ansB s c) = some y → V9 ≠ 0 ∧ (E8 = 0 → V8 = V9)) := Lib.hid fun y h => by
    have h9 : V9 = if y.bl = c.bl then 1 else 2 := by rw [← hV9, vdR, if_pos he, vdV, h]
    refine ⟨?_, fun h8 => ?_⟩
    · rw [h9]
      split <;> decide
    · rw [h9, ← hV8, vdR, if_pos (hE8.trans h8), vdV, h]
  have hAx := Lib.hid hA
  have hnn := Lib.hid hn
  clear hl2 hn hV9 hV8 hE8 he hVd
  clear hs hA hL hok
  go_enter Tryd.func9, Tryd.ntmps9
  go_wp2_with fail
  rw [← hW2]
  refine (hSn.out _ hB2.out).mono ?_
  rintro e w3 ⟨rfl, hb3⟩
  clear hW2
  have HB3 := hB2.out.trans (hb3.mono hB2.out.size)
  go_wp2_with fail
  refine (hFo.out _ HB3).mono ?_
  rintro e w4 ⟨rfl, hw4⟩
  have hw4b := hw4.symm
  clear hw4
  subst hw4b
  rw [hf]
  obtain ⟨hS5, y0, y1, y2, y3, y4⟩ := hcl.out w3 hb3
  replace hS5 := Lib.hid hS5
  replace HB3 := Lib.hid HB3
  replace hb3 := Lib.hid hb3
  go_wp2_with (refine wpList_load_mid (by rfl) 25 (.tmp 5) (by rfl) w.heap.size 0 (by rfl) (slC s) _ hS5.out Tryd.underlying25 (by rfl) pl.out ?_)
  refine (hVt.out _ HB3.out).mono ?_
  rintro e w4 ⟨rfl, hb4⟩
  clear y0 y1 y2 y3 y4 hS5
  have HB4 := Lib.hid (HB3.out.trans (hb4.mono HB3.out.size))
  replace hb3 := Lib.hid (hb3.out.trans (hb4.mono hb3.out.size))
  clear hb4
  go_wp2_with fail
  go_loopw [13, 44] (fun s13 s44 wr => ∃ i : Nat, i ≤ m ∧ s13 = .slice none 0 0 ∧ s44 = .int .i64 i ∧ Below w4.heap.size w4 wr ∧ Hid (l.find? (ansB s c) = (l.drop i).find? (ansB s c))) (fun _ s44 _ => m - (intOf s44).toNat)
  case atStart => exact ⟨0, Nat.zero_le _, rfl, rfl, Below.refl _ _, Lib.hid (by rw [List.drop_zero])⟩
  case round =>
    obtain ⟨i, hi, rfl, rfl, hbr, hfd⟩ := hrel
    by_cases hlt : i < m
    · obtain ⟨y, hy⟩ : ∃ y, l[i]? = some y := ⟨_, List.getElem?_eq_getElem (by rw [hnn.out]; omega)⟩
      have hbw := HB4.out.trans (hbr.mono HB4.out.size)
      have hb2 := hb3.out.trans (hbr.mono hb3.out.size)
      have hmem := List.mem_of_getElem? hy
      obtain ⟨b1, o1, P, cp, rfl, hb1, ⟨z0, z1, z2, z3⟩, hcp, hds⟩ := (hAx.out.below hbw) i y hy
      have hdr : l.drop i = y :: l.drop (i + 1) := by
        rw [List.getElem?_eq_some_iff] at hy
        obtain ⟨h1, h2⟩ := hy
        rw [← h2, List.drop_eq_getElem_cons h1]
      have hfn : Hid (ansB s c y = false → l.find? (ansB s c) = (l.drop (i + 1)).find? (ansB s c)) := Lib.hid fun h => by rw [hfd.out, hdr, List.find?_cons, h]
      have hft : Hid (ansB s c y = true → l.find? (ansB s c) = some y) := Lib.hid fun h => by rw [hfd.out, hdr, List.find?_cons, h]
      rw [Nat.add_zero] at z0
      obtain ⟨d, sa, bl, p⟩ := y
      dsimp only at z0 z1 z2 z3 hcp hds
      obtain ⟨q, hq⟩ : ∃ q, p.length = q := ⟨_, rfl⟩
      rw [hq] at z3 hcp
      obtain ⟨W5, hW5⟩ : ∃ W5, W5 = wr.alloc (.cells #[.int .i64 d, .int .i64 sa, .bool bl, .slice P q cp] 33) := ⟨_, rfl⟩
      have hB5 : Below wr.heap.size wr W5 := hW5 ▸ (Below.refl _ _).alloc (Nat.le_refl _) _
      obtain ⟨hS5, y0, y1, y2, y3, y4⟩ := hcl.out W5 (hb2.trans (hB5.mono hb2.size))
      replace hS5 := Lib.hid hS5
      have hHb := Lib.hid (hbw.trans (hB5.mono hbw.size))
      have hbn := Lib.hid (hbr.trans (hB5.mono hbr.size))
      have hro : W5.heap[wr.heap.size]? = some (.cells #[.int .i64 d, .int .i64 sa, .bool bl, .slice P q cp] 33 (0, 0)) := hW5 ▸ heap_alloc_new wr _
      have v0 : W5.cell? ⟨wr.heap.size, 0, none⟩ = some (.int .i64 d) := by rw [cell_of_row _ _ _ _ _ _ hro]; rfl
      have v1 : W5.cell? ⟨wr.heap.size, 1, none⟩ = some (.int .i64 sa) := by rw [cell_of_row _ _ _ _ _ _ hro]; rfl
      have v2 : W5.cell? ⟨wr.heap.size, 2, none⟩ = some (.bool bl) := by rw [cell_of_row _ _ _ _ _ _ hro]; rfl
      have v3 : W5.cell? ⟨wr.heap.size, 3, none⟩ = some (.slice P q cp) := by rw [cell_of_row _ _ _ _ _ _ hro]; rfl
      obtain ⟨t, ht⟩ : ∃ t, ansB s c ⟨d, sa, bl, p⟩ = t := ⟨_, rfl⟩
      have hK : Hid (Calls Tryd.prog 12 #[.agg (slC s).toArray, .agg #[.int .i64 c.no, .int .i64 c.team, .int .i64 c.day, .int .i64 c.due, .bool c.bl], .agg #[.int .i64 d, .int .i64 sa, .bool bl, .slice P q cp]] W5 fun e w' => e = .returned (.bool t) ∧ Below W5.heap.size W5 w') := Lib.hid (by
        have := hAn.out W5 hHb.out d sa bl p q P cp hmem hq hcp (hds.below hB5)
        rw [ht] at this
        exact this)
      have hw5 : wr.heap.size < W5.heap.size := by rw [hW5]; simp
      have hd5 := Lib.hid (hds.below hB5)
      have hc5 := Lib.hid (hb2.trans (hB5.mono hb2.size))
      have hOn := Lib.hid (fun ha hfd => hOne.out d sa bl p q P cp ha hfd hmem hq hcp)
      rw [ht] at hfn
      have hOn2 := Lib.hid (fun (e : t = true) => hOn.out (ht.trans e) (hft.out (ht.trans e)))
      have hft2 := Lib.hid (fun (e : t = true) => hft.out (ht.trans e))
      clear hft hOn ht
      clear hq hds hcp hb1 hbw hb2 hmem hfd hdr hy hbr hro hB5
      replace hW5 := Lib.hid hW5
      have hx0 : ∀ o, W5 = wr.alloc o → (wr.alloc o).cell? ⟨wr.heap.size, 0, none⟩ = some (.int .i64 d) := fun o h => h ▸ v0
      go_wp2_with (first
        | (rw [← hW5.out]; refine wpList_load_mid (by rfl) 25 (.tmp 5) (by rfl) w.heap.size 0 (by rfl) (slC s) _ hS5.out Tryd.underlying25 (by rfl) pl.out ?_))
      refine hK.out.mono ?_
      rintro e w6 ⟨rfl, hb6⟩
      have hbn6 := Lib.hid (hbn.out.trans (hb6.mono hbn.out.size))
      have u0 : w6.cell? ⟨wr.heap.size, 0, none⟩ = some (.int .i64 d) := cell_belowB v0 hw5 hb6
      have u1 : w6.cell? ⟨wr.heap.size, 1, none⟩ = some (.int .i64 sa) := cell_belowB v1 hw5 hb6
      have u2 : w6.cell? ⟨wr.heap.size, 2, none⟩ = some (.bool bl) := cell_belowB v2 hw5 hb6
      have u3 : w6.cell? ⟨wr.heap.size, 3, none⟩ = some (.slice P q cp) := cell_belowB v3 hw5 hb6
      have hB6 := Lib.hid (hHb.out.trans (hb6.mono hHb.out.size))
      have hc6 := Lib.hid (hc5.out.trans (hb6.mono hc5.out.size))
      have hd6 := Lib.hid (hd5.out.below hb6)
      clear hw5 hb6 y0 y1 y2 y3 y4 v0 v1 v2 v3 z0 z1 z2 z3
      cases t with
      | true =>
        have hon := Lib.hid (hOn2.out rfl w6 hB6.out hd6.out)
        obtain ⟨g9, g8⟩ := hfin.out _ (hft2.out rfl)
        have b5 : (V9 != 0) = true := by simpa using g9
        replace g8 := Lib.hid g8
        clear g9
        have hbt := built_y4 d sa bl P q cp
        have hbW := blow1 w6 (.cells #[.int .i64 d, .int .i64 sa, .bool bl, .slice P q cp] 33)
        have hc7 := hc6.out.trans (hbW.mono hc6.out.size)
        obtain ⟨W7, hW7⟩ : ∃ W7, W7 = (w6.alloc (.cells #[.int .i64 d, .int .i64 sa, .bool bl, .slice P q cp] 33)) := ⟨_, rfl⟩
        rw [← hW7] at hc7
        obtain ⟨hS7, y0, y1, y2, y3, y4⟩ := hcl.out W7 hc7
        replace hS7 := Lib.hid hS7
        replace hW7 := Lib.hid hW7
        clear hc7 hbW
        go_wp2_with (first
          | (refine wpList_built (by rfl) 28 33 1 #[(0, .tmp 52)] (by rfl) Tryd.underlying28 #[.int .i64 d, .int .i64 sa, .bool bl, .slice P q cp] (by simp only [List.map_toArray, List.map_cons, List.map_nil]; exact hbt) ?_; rw [← hW7.out])
          | (refine wpList_load_mid (by rfl) 25 (.tmp 5) (by rfl) w.heap.size 0 (by rfl) (slC s) _ hS7.out Tryd.underlying25 (by rfl) pl.out ?_))
        rw [hW7.out]
        refine hon.out.mono ?_
        rintro e w8 ⟨rfl, hb8⟩
        have hB8 := hB6.out.trans (hb8.mono hB6.out.size)
        have hc8 := hc6.out.trans (hb8.mono hc6.out.size)
        clear y0 y1 y2 y3 y4 hb8 hW7
        obtain ⟨hS8, y0, y1, y2, y3, y4⟩ := hcl.out w8 hc8
        replace hS8 := Lib.hid hS8
        replace hB8 := Lib.hid hB8
        replace hc8 := Lib.hid hc8
        go_wp2_with (refine wpList_load_mid (by rfl) 25 (.tmp 5) (by rfl) w.heap.size 0 (by rfl) (slC s) _ hS8.out Tryd.underlying25 (by rfl) pl.out ?_)
        refine (hVl.out _ hB8.out).mono ?_
        rintro e w9 ⟨rfl, hb9⟩
        have hB9 := Lib.hid (hB8.out.trans (hb9.mono hB8.out.size))
        clear y0 y1 y2 y3 y4 hb9
        by_cases a1 : E8 = 0
        · obtain rfl := g8.out a1
          subst a1
          go_wp2_with fail
          go_ret
          exact ⟨rfl, hB9.out⟩
        · have b1 : (E8 != 0) = true := by simpa using a1
          go_wp2_with fail
          go_ret
          exact ⟨rfl, hB9.out⟩
      | false =>
        have hfx := Lib.hid (hfn.out rfl)
        clear u0 u1 u2 u3
        go_wp2_with fail
        go_roundw
        case rel => exact ⟨i + 1, by omega, rfl, by go_num, hbn6.out, hfx⟩
        case measure => simp [intOf]; omega
    · have e : i = m := by omega
      subst e
      have hnone : l.find? (ansB s c) = none := by rw [hfd.out, List.drop_of_length_le (by rw [hnn.out]; exact Nat.le_refl _)]; rfl
      have hbw := Lib.hid (HB4.out.trans (hbr.mono HB4.out.size))
      have hc6 := Lib.hid (hb3.out.trans (hbr.mono hb3.out.size))
      have hnl := Lib.hid (hNil.out hnone)
      clear hnone hfd hbr
      obtain ⟨hS7, y0, y1, y2, y3, y4⟩ := hcl.out wr hc6.out
      replace hS7 := Lib.hid hS7
      go_wp2_with (refine wpList_load_mid (by rfl) 25 (.tmp 5) (by rfl) w.heap.size 0 (by rfl) (slC s) _ hS7.out Tryd.underlying25 (by rfl) pl.out ?_)
      refine (hnl.out _ hbw.out).mono ?_
      rintro e w8 ⟨rfl, hb8⟩
      have hB8 := hbw.out.trans (hb8.mono hbw.out.size)
      have hc8 := hc6.out.trans (hb8.mono hc6.out.size)
      clear y0 y1 y2 y3 y4 hb8
      obtain ⟨hS8, y0, y1, y2, y3, y4⟩ := hcl.out w8 hc8
      replace hS8 := Lib.hid hS8
      replace hB8 := Lib.hid hB8
      replace hc8 := Lib.hid hc8
      go_wp2_with (refine wpList_load_mid (by rfl) 25 (.tmp 5) (by rfl) w.heap.size 0 (by rfl) (slC s) _ hS8.out Tryd.underlying25 (by rfl) pl.out ?_)
      refine (hVl.out _ hB8.out).mono ?_
      rintro e w9 ⟨rfl, hb9⟩
      have hB9 := Lib.hid (hB8.out.trans (hb9.mono hB8.out.size))
      clear y0 y1 y2 y3 y4 hb9
      go_wp2_with fail
      go_ret
      exact ⟨rfl, hB9.out⟩

theorem others_any (s : Sl) (hs : SlI s) (c : Ch) (l : List Op) (m : Nat) (A : Option Addr) (k : Nat) (ti la : Int) (w : World) (hn : l.length = m) (hk : m ≤ k) (hA : OsAt w A l) (hok : ∀ y ∈ l, OpI y) (hL : Laid w) : Calls Tryd.prog 9 #[.agg (slA s), .agg (chA c), .slice A m k, .int .i64 ti, .int .i64 la] w fun e w' => e = .returned (.bool true) ∧ Below w.heap.size w w' := by
  by_cases hf : few41 l = true
  · by_cases h1 : 60 < m
    · exact oth_many s hs c l m A k ti la w hn hk hA hok hL hf h1
    · by_cases h2 : vdE s c m ti = 0
      · exact oth_main s hs c l m A k ti la w hn hk hA hok hL hf h1 h2
      · exact oth_err s hs c l m A k ti la w hn hk hA hok hL hf h1 h2
  · exact oth_few s hs c l m A k ti la w hn hk hA hok hL (by simpa using hf)
end Go.Proofs.YtnccbhndlnkboaaDoor
