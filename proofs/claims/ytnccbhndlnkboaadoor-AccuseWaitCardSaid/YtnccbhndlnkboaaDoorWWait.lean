/- The walk of the statement AccuseWait. -/
import Derived.Test.YtnccbhndlnkboaaDoorAccSane
import Derived.Test.YtnccbhndlnkboaaDoorRefH
import Derived.Test.YtnccbhndlnkboaaDoorRf1
import Derived.Test.YtnccbhndlnkboaaDoorMoreA
namespace Go.Proofs.YtnccbhndlnkboaaDoor
open Go.RowKit Go.Shelf Cdc Sha
set_option linter.unusedVariables false
set_option linter.unusedSimpArgs false

set_option maxRecDepth 100000 in
set_option maxHeartbeats 8000000 in
theorem wait_few (s : Sl) (hs : SlI s) (c : Ch) (l : List Op) (m : Nat) (A : Option Addr) (k : Nat) (ti er : Int) (w : World) (hn : l.length = m) (hk : m ≤ k) (hA : OsAt w A l) (hok : ∀ y ∈ l, OpI y) (hL : Laid w) (hf : few41 l = false) : Calls Tryd.prog 3 #[.agg (slA s), .agg (chA c), .slice A m k, .int .i64 ti, .int .i64 er] w fun e w' => e = .returned (.bool true) ∧ Below w.heap.size w w' := by
  obtain ⟨W2, hW2⟩ : ∃ W2, W2 = ((w.alloc (.cells (slA s) 25)).alloc (.cells (chA c) 27)) := ⟨_, rfl⟩
  have hz2 : W2.heap.size = w.heap.size + 2 := by rw [hW2]; simp
  have hB2 : Below w.heap.size w W2 := hW2 ▸ ((Below.refl _ w).alloc (Nat.le_refl _) _).alloc (by simp) _
  have r0 : W2.heap[w.heap.size]? = some (.cells (slA s) 25 (0, 0)) := by
    rw [hW2]
    exact (Below.heap_alloc _ _ _ (by simp)).trans (heap_alloc_new w _)
  have r1 : W2.heap[w.heap.size + 1]? = some (.cells (chA c) 27 (0, 0)) := by
    rw [hW2]
    have := heap_alloc_new (w.alloc (.cells (slA s) 25)) (.cells (chA c) 27)
    rw [World.size_alloc] at this
    exact this
  have hcl : Hid (∀ V, Below W2.heap.size W2 V → V.rangeAt w.heap.size 0 (slC s) ∧ V.cell? ⟨w.heap.size + 1, 0, none⟩ = some (.int .i64 c.no) ∧ V.cell? ⟨w.heap.size + 1, 1, none⟩ = some (.int .i64 c.team) ∧ V.cell? ⟨w.heap.size + 1, 2, none⟩ = some (.int .i64 c.day) ∧ V.cell? ⟨w.heap.size + 1, 3, none⟩ = some (.int .i64 c.due) ∧ V.cell? ⟨w.heap.size + 1, 4, none⟩ = some (.bool c.bl)) := Lib.hid fun V hV => by
    have h0 := (hV.block _ (by omega)).trans r0
    have h1 := (hV.block _ (by omega)).trans r1
    exact ⟨row_range7 (cs := slC s) h0, by rw [cell_of_row _ _ _ _ _ _ h1]; rfl, by rw [cell_of_row _ _ _ _ _ _ h1]; rfl, by rw [cell_of_row _ _ _ _ _ _ h1]; rfl, by rw [cell_of_row _ _ _ _ _ _ h1]; rfl, by rw [cell_of_row _ _ _ _ _ _ h1]; rfl⟩
  have pl : Hid ((Tryd.prog.info? 25).map (·.size) = some (slC s).length) := Lib.hid (by have := sl_info hs.root; simpa [slA] using this)
  have hSn : Hid (∀ V, Below w.heap.size w V → Calls Tryd.prog 10 #[] V fun e w' => e = .returned (.bool true) ∧ Below V.heap.size V w') := Lib.hid fun V hV => asane_any V (hL.below hV)
  have hFo : Hid (∀ V, Below w.heap.size w V → Calls Tryd.prog 11 #[.slice A m k] V fun e w' => e = .returned (.bool (few41 l)) ∧ w' = V) := Lib.hid fun V hV => rfew41_any l m hn A k hk V (hA.below hV)
  clear r0 r1 hz2
  replace hB2 := Lib.hid hB2
  clear hs hA hL hok
  go_enter Tryd.func3, Tryd.ntmps3
  go_wp2_with fail
  rw [← hW2]
  refine (hSn.out _ hB2.out).mono ?_
  rintro e w3 ⟨rfl, hb3⟩
  clear hW2
  have HB3 := hB2.out.trans (hb3.mono hB2.out.size)
  go_wp2_with fail
  refine (hFo.out _ HB3).mono ?_
  rintro e w4 ⟨rfl, hw4⟩
  have hw4b := hw4.symm
  clear hw4
  subst hw4b
  rw [hf]
  go_wp2_with fail
  go_ret
  exact ⟨rfl, HB3⟩
set_option maxRecDepth 100000 in
set_option maxHeartbeats 8000000 in
theorem wait_many (s : Sl) (hs : SlI s) (c : Ch) (l : List Op) (m : Nat) (A : Option Addr) (k : Nat) (ti er : Int) (w : World) (hn : l.length = m) (hk : m ≤ k) (hA : OsAt w A l) (hok : ∀ y ∈ l, OpI y) (hL : Laid w) (hf : few41 l = true) (h1 : 60 < m) : Calls Tryd.prog 3 #[.agg (slA s), .agg (chA c), .slice A m k, .int .i64 ti, .int .i64 er] w fun e w' => e = .returned (.bool true) ∧ Below w.heap.size w w' := by
  obtain ⟨W2, hW2⟩ : ∃ W2, W2 = ((w.alloc (.cells (slA s) 25)).alloc (.cells (chA c) 27)) := ⟨_, rfl⟩
  have hz2 : W2.heap.size = w.heap.size + 2 := by rw [hW2]; simp
  have hB2 : Below w.heap.size w W2 := hW2 ▸ ((Below.refl _ w).alloc (Nat.le_refl _) _).alloc (by simp) _
  have r0 : W2.heap[w.heap.size]? = some (.cells (slA s) 25 (0, 0)) := by
    rw [hW2]
    exact (Below.heap_alloc _ _ _ (by simp)).trans (heap_alloc_new w _)
  have r1 : W2.heap[w.heap.size + 1]? = some (.cells (chA c) 27 (0, 0)) := by
    rw [hW2]
    have := heap_alloc_new (w.alloc (.cells (slA s) 25)) (.cells (chA c) 27)
    rw [World.size_alloc] at this
    exact this
  have hcl : Hid (∀ V, Below W2.heap.size W2 V → V.rangeAt w.heap.size 0 (slC s) ∧ V.cell? ⟨w.heap.size + 1, 0, none⟩ = some (.int .i64 c.no) ∧ V.cell? ⟨w.heap.size + 1, 1, none⟩ = some (.int .i64 c.team) ∧ V.cell? ⟨w.heap.size + 1, 2, none⟩ = some (.int .i64 c.day) ∧ V.cell? ⟨w.heap.size + 1, 3, none⟩ = some (.int .i64 c.due) ∧ V.cell? ⟨w.heap.size + 1, 4, none⟩ = some (.bool c.bl)) := Lib.hid fun V hV => by
    have h0 := (hV.block _ (by omega)).trans r0
    have h1 := (hV.block _ (by omega)).trans r1
    exact ⟨row_range7 (cs := slC s) h0, by rw [cell_of_row _ _ _ _ _ _ h1]; rfl, by rw [cell_of_row _ _ _ _ _ _ h1]; rfl, by rw [cell_of_row _ _ _ _ _ _ h1]; rfl, by rw [cell_of_row _ _ _ _ _ _ h1]; rfl, by rw [cell_of_row _ _ _ _ _ _ h1]; rfl⟩
  have pl : Hid ((Tryd.prog.info? 25).map (·.size) = some (slC s).length) := Lib.hid (by have := sl_info hs.root; simpa [slA] using this)
  have hSn : Hid (∀ V, Below w.heap.size w V → Calls Tryd.prog 10 #[] V fun e w' => e = .returned (.bool true) ∧ Below V.heap.size V w') := Lib.hid fun V hV => asane_any V (hL.below hV)
  have hFo : Hid (∀ V, Below w.heap.size w V → Calls Tryd.prog 11 #[.slice A m k] V fun e w' => e = .returned (.bool (few41 l)) ∧ w' = V) := Lib.hid fun V hV => rfew41_any l m hn A k hk V (hA.below hV)
  clear r0 r1 hz2
  replace hB2 := Lib.hid hB2
  have d60 : decide ((60 : Int) < (m : Int)) = true := decide_eq_true (by omega)
  clear hs hA hL hok
  go_enter Tryd.func3, Tryd.ntmps3
  go_wp2_with fail
  rw [← hW2]
  refine (hSn.out _ hB2.out).mono ?_
  rintro e w3 ⟨rfl, hb3⟩
  clear hW2
  have HB3 := hB2.out.trans (hb3.mono hB2.out.size)
  go_wp2_with fail
  refine (hFo.out _ HB3).mono ?_
  rintro e w4 ⟨rfl, hw4⟩
  have hw4b := hw4.symm
  clear hw4
  subst hw4b
  rw [hf]
  go_wp2_with fail
  go_ret
  exact ⟨rfl, HB3⟩
set_option maxRecDepth 100000 in
set_option maxHeartbeats 8000000 in
theorem wait_back (s : Sl) (hs : SlI s) (c : Ch) (l : List Op) (m : Nat) (A : Option Addr) (k : Nat) (ti er : Int) (w : World) (hn : l.length = m) (hk : m ≤ k) (hA : OsAt w A l) (hok : ∀ y ∈ l, OpI y) (hL : Laid w) (hf : few41 l = true) (h1 : ¬ 60 < m) (h2 : ti < er) : Calls Tryd.prog 3 #[.agg (slA s), .agg (chA c), .slice A m k, .int .i64 ti, .int .i64 er] w fun e w' => e = .returned (.bool true) ∧ Below w.heap.size w w' := by
  obtain ⟨W2, hW2⟩ : ∃ W2, W2 = ((w.alloc (.cells (slA s) 25)).alloc (.cells (chA c) 27)) := ⟨_, rfl⟩
  have hz2 : W2.heap.size = w.heap.size + 2 := by rw [hW2]; simp
  have hB2 : Below w.heap.size w W2 := hW2 ▸ ((Below.refl _ w).alloc (Nat.le_refl _) _).alloc (by simp) _
  have r0 : W2.heap[w.heap.size]? = some (.cells (slA s) 25 (0, 0)) := by
    rw [hW2]
    exact (Below.heap_alloc _ _ _ (by simp)).trans (heap_alloc_new w _)
  have r1 : W2.heap[w.heap.size + 1]? = some (.cells (chA c) 27 (0, 0)) := by
    rw [hW2]
    have := heap_alloc_new (w.alloc (.cells (slA s) 25)) (.cells (chA c) 27)
    rw [World.size_alloc] at this
    exact this
  have hcl : Hid (∀ V, Below W2.heap.size W2 V → V.rangeAt w.heap.size 0 (slC s) ∧ V.cell? ⟨w.heap.size + 1, 0, none⟩ = some (.int .i64 c.no) ∧ V.cell? ⟨w.heap.size + 1, 1, none⟩ = some (.int .i64 c.team) ∧ V.cell? ⟨w.heap.size + 1, 2, none⟩ = some (.int .i64 c.day) ∧ V.cell? ⟨w.heap.size + 1, 3, none⟩ = some (.int .i64 c.due) ∧ V.cell? ⟨w.heap.size + 1, 4, none⟩ = some (.bool c.bl)) := Lib.hid fun V hV => by
    have h0 := (hV.block _ (by omega)).trans r0
    have h1 := (hV.block _ (by omega)).trans r1
    exact ⟨row_range7 (cs := slC s) h0, by rw [cell_of_row _ _ _ _ _ _ h1]; rfl, by rw [cell_of_row _ _ _ _ _ _ h1]; rfl, by rw [cell_of_row _ _ _ _ _ _ h1]; rfl, by rw [cell_of_row _ _ _ _ _ _ h1]; rfl, by rw [cell_of_row _ _ _ _ _ _ h1]; rfl⟩
  have pl : Hid ((Tryd.prog.info? 25).map (·.size) = some (slC s).length) := Lib.hid (by have := sl_info hs.root; simpa [slA] using this)
  have hSn : Hid (∀ V, Below w.heap.size w V → Calls Tryd.prog 10 #[] V fun e w' => e = .returned (.bool true) ∧ Below V.heap.size V w') := Lib.hid fun V hV => asane_any V (hL.below hV)
  have hFo : Hid (∀ V, Below w.heap.size w V → Calls Tryd.prog 11 #[.slice A m k] V fun e w' => e = .returned (.bool (few41 l)) ∧ w' = V) := Lib.hid fun V hV => rfew41_any l m hn A k hk V (hA.below hV)
  clear r0 r1 hz2
  replace hB2 := Lib.hid hB2
  have d60 : decide ((60 : Int) < (m : Int)) = false := decide_eq_false (by omega)
  have der : decide (ti < er) = true := decide_eq_true (by omega)
  clear hs hA hL hok
  go_enter Tryd.func3, Tryd.ntmps3
  go_wp2_with fail
  rw [← hW2]
  refine (hSn.out _ hB2.out).mono ?_
  rintro e w3 ⟨rfl, hb3⟩
  clear hW2
  have HB3 := hB2.out.trans (hb3.mono hB2.out.size)
  go_wp2_with fail
  refine (hFo.out _ HB3).mono ?_
  rintro e w4 ⟨rfl, hw4⟩
  have hw4b := hw4.symm
  clear hw4
  subst hw4b
  rw [hf]
  go_wp2_with fail
  go_ret
  exact ⟨rfl, HB3⟩
set_option maxRecDepth 100000 in
set_option maxHeartbeats 8000000 in
theorem wait_main (s : Sl) (hs : SlI s) (c : Ch) (l : List Op) (m : Nat) (A : Option Addr) (k : Nat) (ti er : Int) (w : World) (hn : l.length = m) (hk : m ≤ k) (hA : OsAt w A l) (hok : ∀ y ∈ l, OpI y) (hL : Laid w) (hf : few41 l = true) (h1 : ¬ 60 < m) (h2 : ¬ ti < er) : Calls Tryd.prog 3 #[.agg (slA s), .agg (chA c), .slice A m k, .int .i64 ti, .int .i64 er] w fun e w' => e = .returned (.bool true) ∧ Below w.heap.size w w' := by
  obtain ⟨W2, hW2⟩ : ∃ W2, W2 = ((w.alloc (.cells (slA s) 25)).alloc (.cells (chA c) 27)) := ⟨_, rfl⟩
  have hz2 : W2.heap.size = w.heap.size + 2 := by rw [hW2]; simp
  have hB2 : Below w.heap.size w W2 := hW2 ▸ ((Below.refl _ w).alloc (Nat.le_refl _) _).alloc (by simp) _
  have r0 : W2.heap[w.heap.size]? = some (.cells (slA s) 25 (0, 0)) := by
    rw [hW2]
    exact (Below.heap_alloc _ _ _ (by simp)).trans (heap_alloc_new w _)
  have r1 : W2.heap[w.heap.size + 1]? = some (.cells (chA c) 27 (0, 0)) := by
    rw [hW2]
    have := heap_alloc_new (w.alloc (.cells (slA s) 25)) (.cells (chA c) 27)
    rw [World.size_alloc] at this
    exact this
  have hcl : Hid (∀ V, Below W2.heap.size W2 V → V.rangeAt w.heap.size 0 (slC s) ∧ V.cell? ⟨w.heap.size + 1, 0, none⟩ = some (.int .i64 c.no) ∧ V.cell? ⟨w.heap.size + 1, 1, none⟩ = some (.int .i64 c.team) ∧ V.cell? ⟨w.heap.size + 1, 2, none⟩ = some (.int .i64 c.day) ∧ V.cell? ⟨w.heap.size + 1, 3, none⟩ = some (.int .i64 c.due) ∧ V.cell? ⟨w.heap.size + 1, 4, none⟩ = some (.bool c.bl)) := Lib.hid fun V hV => by
    have h0 := (hV.block _ (by omega)).trans r0
    have h1 := (hV.block _ (by omega)).trans r1
    exact ⟨row_range7 (cs := slC s) h0, by rw [cell_of_row _ _ _ _ _ _ h1]; rfl, by rw [cell_of_row _ _ _ _ _ _ h1]; rfl, by rw [cell_of_row _ _ _ _ _ _ h1]; rfl, by rw [cell_of_row _ _ _ _ _ _ h1]; rfl, by rw [cell_of_row _ _ _ _ _ _ h1]; rfl⟩
  have pl : Hid ((Tryd.prog.info? 25).map (·.size) = some (slC s).length) := Lib.hid (by have := sl_info hs.root; simpa [slA] using this)
  have hSn : Hid (∀ V, Below w.heap.size w V → Calls Tryd.prog 10 #[] V fun e w' => e = .returned (.bool true) ∧ Below V.heap.size V w') := Lib.hid fun V hV => asane_any V (hL.below hV)
  have hFo : Hid (∀ V, Below w.heap.size w V → Calls Tryd.prog 11 #[.slice A m k] V fun e w' => e = .returned (.bool (few41 l)) ∧ w' = V) := Lib.hid fun V hV => rfew41_any l m hn A k hk V (hA.below hV)
  clear r0 r1 hz2
  replace hB2 := Lib.hid hB2
  have d60 : decide ((60 : Int) < (m : Int)) = false := decide_eq_false (by omega)
  have der : decide (ti < er) = false := decide_eq_false (by omega)
  have hl2 : ∀ y ∈ l, OpI y ∧ y.path.length ≤ 1000000 := fun z hz => by
    refine ⟨hok z hz, ?_⟩
    have h7 := hf
    rw [few41, Bool.and_eq_true, List.all_eq_true] at h7
    have := of_decide_eq_true (h7.2 z hz)
    omega
  have hAn : Hid (∀ (V : World), Below w.heap.size w V → ∀ (d sa : Int) (bl : Bool) (p : List (List UInt8)) (q : Nat) (P : Option Addr) (cp : Nat), (⟨d, sa, bl, p⟩ : Op) ∈ l → p.length = q → q ≤ cp → DsAt V P p → Calls Tryd.prog 12 #[.agg (slC s).toArray, .agg #[.int .i64 c.no, .int .i64 c.team, .int .i64 c.day, .int .i64 c.due, .bool c.bl], .agg #[.int .i64 d, .int .i64 sa, .bool bl, .slice P q cp]] V fun e w' => e = .returned (.bool (ansB s c ⟨d, sa, bl, p⟩)) ∧ Below V.heap.size V w') := Lib.hid fun V hV d sa bl p q P cp hm hq hcp hd =>
    ranswers_any s hs c d sa bl p (hok _ hm) q hq P cp hcp V hd
  have hVd : Hid (∀ V t, Below w.heap.size w V → Calls Tryd.prog 13 #[.agg (slC s).toArray, .agg #[.int .i64 c.no, .int .i64 c.team, .int .i64 c.day, .int .i64 c.due, .bool c.bl], .slice A m k, .int .i64 t] V fun e w' => e = .returned (.tuple #[.int .i64 (vdR s c l m t), .int .i64 (vdE s c m t)]) ∧ Below V.heap.size V w') := Lib.hid fun V t hV =>
    verdict_any s hs c l m A k t V hn hk (hA.below hV) hl2 (hL.below hV)
  have hAx := Lib.hid hA
  have hnn := Lib.hid hn
  have hfin : Hid (l.find? (ansB s c) = none → vdE s c m ti = 0 → vdE s c m er = 0 → (ti ≤ c.due ∧ vdR s c l m ti = 0 ∧ vdR s c l m er = 0) ∨ (c.due < ti ∧ vdR s c l m ti = 2)) := Lib.hid fun h1 h2 h3 => by
    rw [vdR, vdR, if_pos h2, if_pos h3, vdV, vdV, h1]
    dsimp only
    by_cases h : ti ≤ c.due
    · exact .inl ⟨h, if_pos h, if_pos (by omega)⟩
    · exact .inr ⟨by omega, if_neg h⟩
  have hfin2 : Hid (l.find? (ansB s c) = none → vdE s c m ti = 0 → vdE s c m er = 0 → (vdR s c l m er = 0 ∨ vdR s c l m er = 2)) := Lib.hid fun h1 h2 h3 => by
    rw [vdR, if_pos h3, vdV, h1]
    dsimp only
    by_cases h : er ≤ c.due
    · exact .inl (if_pos h)
    · exact .inr (if_neg h)
  clear hl2 hn
  clear hs hA hL hok
  go_enter Tryd.func3, Tryd.ntmps3
  go_wp2_with fail
  rw [← hW2]
  refine (hSn.out _ hB2.out).mono ?_
  rintro e w3 ⟨rfl, hb3⟩
  clear hW2
  have HB3 := hB2.out.trans (hb3.mono hB2.out.size)
  go_wp2_with fail
  refine (hFo.out _ HB3).mono ?_
  rintro e w4 ⟨rfl, hw4⟩
  have hw4b := hw4.symm
  clear hw4
  subst hw4b
  rw [hf]
  replace HB3 := Lib.hid HB3
  replace hb3 := Lib.hid hb3
  go_wp2_with fail
  go_loopw [34] (fun s34 wr => ∃ i : Nat, i ≤ m ∧ s34 = .int .i64 i ∧ Below w3.heap.size w3 wr ∧ Hid (l.find? (ansB s c) = (l.drop i).find? (ansB s c))) (fun s34 _ => m - (intOf s34).toNat)
  case atStart => exact ⟨0, Nat.zero_le _, rfl, Below.refl _ _, Lib.hid (by rw [List.drop_zero])⟩
  case round =>
    obtain ⟨i, hi, rfl, hbr, hfd⟩ := hrel
    by_cases hlt : i < m
    · obtain ⟨y, hy⟩ : ∃ y, l[i]? = some y := ⟨_, List.getElem?_eq_getElem (by rw [hnn.out]; omega)⟩
      have hbw := HB3.out.trans (hbr.mono HB3.out.size)
      have hb2 := hb3.out.trans (hbr.mono hb3.out.size)
      have hmem := List.mem_of_getElem? hy
      obtain ⟨b1, o1, P, cp, rfl, hb1, ⟨z0, z1, z2, z3⟩, hcp, hds⟩ := (hAx.out.below hbw) i y hy
      have hdr : l.drop i = y :: l.drop (i + 1) := by
        rw [List.getElem?_eq_some_iff] at hy
        obtain ⟨h1, h2⟩ := hy
        rw [← h2, List.drop_eq_getElem_cons h1]
      have hfn : Hid (ansB s c y = false → l.find? (ansB s c) = (l.drop (i + 1)).find? (ansB s c)) := Lib.hid fun h => by rw [hfd.out, hdr, List.find?_cons, h]
      have hft : Hid (ansB s c y = true → l.find? (ansB s c) = some y) := Lib.hid fun h => by rw [hfd.out, hdr, List.find?_cons, h]
      rw [Nat.add_zero] at z0
      obtain ⟨d, sa, bl, p⟩ := y
      dsimp only at z0 z1 z2 z3 hcp hds
      obtain ⟨q, hq⟩ : ∃ q, p.length = q := ⟨_, rfl⟩
      rw [hq] at z3 hcp
      obtain ⟨W5, hW5⟩ : ∃ W5, W5 = wr.alloc (.cells #[.int .i64 d, .int .i64 sa, .bool bl, .slice P q cp] 33) := ⟨_, rfl⟩
      have hB5 : Below wr.heap.size wr W5 := hW5 ▸ (Below.refl _ _).alloc (Nat.le_refl _) _
      obtain ⟨hS5, y0, y1, y2, y3, y4⟩ := hcl.out W5 (hb2.trans (hB5.mono hb2.size))
      replace hS5 := Lib.hid hS5
      have hHb := Lib.hid (hbw.trans (hB5.mono hbw.size))
      have hbn := Lib.hid (hbr.trans (hB5.mono hbr.size))
      have hro : W5.heap[wr.heap.size]? = some (.cells #[.int .i64 d, .int .i64 sa, .bool bl, .slice P q cp] 33 (0, 0)) := hW5 ▸ heap_alloc_new wr _
      have v0 : W5.cell? ⟨wr.heap.size, 0, none⟩ = some (.int .i64 d) := by rw [cell_of_row _ _ _ _ _ _ hro]; rfl
      have v1 : W5.cell? ⟨wr.heap.size, 1, none⟩ = some (.int .i64 sa) := by rw [cell_of_row _ _ _ _ _ _ hro]; rfl
      have v2 : W5.cell? ⟨wr.heap.size, 2, none⟩ = some (.bool bl) := by rw [cell_of_row _ _ _ _ _ _ hro]; rfl
      have v3 : W5.cell? ⟨wr.heap.size, 3, none⟩ = some (.slice P q cp) := by rw [cell_of_row _ _ _ _ _ _ hro]; rfl
      obtain ⟨t, ht⟩ : ∃ t, ansB s c ⟨d, sa, bl, p⟩ = t := ⟨_, rfl⟩
      have hK : Hid (Calls Tryd.prog 12 #[.agg (slC s).toArray, .agg #[.int .i64 c.no, .int .i64 c.team, .int .i64 c.day, .int .i64 c.due, .bool c.bl], .agg #[.int .i64 d, .int .i64 sa, .bool bl, .slice P q cp]] W5 fun e w' => e = .returned (.bool t) ∧ Below W5.heap.size W5 w') := Lib.hid (by
        have := hAn.out W5 hHb.out d sa bl p q P cp hmem hq hcp (hds.below hB5)
        rw [ht] at this
        exact this)
      rw [ht] at hfn hft
      clear hq hds hcp hb1 hbw hb2 hmem hfd hdr hy hbr hro ht hB5
      replace hW5 := Lib.hid hW5
      have hx0 : ∀ o, W5 = wr.alloc o → (wr.alloc o).cell? ⟨wr.heap.size, 0, none⟩ = some (.int .i64 d) := fun o h => h ▸ v0
      go_wp2_with (first
        | (rw [← hW5.out]; refine wpList_load_mid (by rfl) 25 (.tmp 5) (by rfl) w.heap.size 0 (by rfl) (slC s) _ hS5.out Tryd.underlying25 (by rfl) pl.out ?_))
      refine hK.out.mono ?_
      rintro e w6 ⟨rfl, hb6⟩
      have hbn6 := Lib.hid (hbn.out.trans (hb6.mono hbn.out.size))
      clear hb6 y0 y1 y2 y3 y4 v0 v1 v2 v3 z0 z1 z2 z3
      cases t with
      | true =>
        go_wp2_with fail
        go_ret
        exact ⟨rfl, HB3.out.trans (hbn6.out.mono HB3.out.size)⟩
      | false =>
        have hfx := Lib.hid (hfn.out rfl)
        go_wp2_with fail
        go_roundw
        case rel => exact ⟨i + 1, by omega, by go_num, hbn6.out, hfx⟩
        case measure => simp [intOf]; omega
    · have e : i = m := by omega
      subst e
      have hnone : l.find? (ansB s c) = none := by rw [hfd.out, List.drop_of_length_le (by rw [hnn.out]; exact Nat.le_refl _)]; rfl
      have hbw := Lib.hid (HB3.out.trans (hbr.mono HB3.out.size))
      obtain ⟨hS5, y0, y1, y2, y3, y4⟩ := hcl.out wr (hb3.out.trans (hbr.mono hb3.out.size))
      replace hS5 := Lib.hid hS5
      have hb2 := Lib.hid (hb3.out.trans (hbr.mono hb3.out.size))
      have hf1 := Lib.hid (hfin.out hnone)
      have hf2 := Lib.hid (hfin2.out hnone)
      clear hnone hfd hbr
      obtain ⟨V9, hV9⟩ : ∃ V9, vdR s c l i ti = V9 := ⟨_, rfl⟩
      obtain ⟨E9, hE9⟩ : ∃ E9, vdE s c i ti = E9 := ⟨_, rfl⟩
      obtain ⟨V8, hV8⟩ : ∃ V8, vdR s c l i er = V8 := ⟨_, rfl⟩
      obtain ⟨E8, hE8⟩ : ∃ E8, vdE s c i er = E8 := ⟨_, rfl⟩
      have hv1 : Hid (Calls Tryd.prog 13 #[.agg (slC s).toArray, .agg #[.int .i64 c.no, .int .i64 c.team, .int .i64 c.day, .int .i64 c.due, .bool c.bl], .slice A i k, .int .i64 ti] wr fun e w' => e = .returned (.tuple #[.int .i64 V9, .int .i64 E9]) ∧ Below wr.heap.size wr w') := Lib.hid (by
        have := hVd.out wr ti hbw.out
        rw [hV9, hE9] at this
        exact this)
      have hv2 : Hid (∀ V, Below w.heap.size w V → Calls Tryd.prog 13 #[.agg (slC s).toArray, .agg #[.int .i64 c.no, .int .i64 c.team, .int .i64 c.day, .int .i64 c.due, .bool c.bl], .slice A i k, .int .i64 er] V fun e w' => e = .returned (.tuple #[.int .i64 V8, .int .i64 E8]) ∧ Below V.heap.size V w') := Lib.hid fun V hV => by
        have := hVd.out V er hV
        rw [hV8, hE8] at this
        exact this
      rw [hV9, hV8, hE9, hE8] at hf1
      rw [hV8, hE9, hE8] at hf2
      clear hV9 hV8 hE9 hE8
      go_wp2_with (refine wpList_load_mid (by rfl) 25 (.tmp 5) (by rfl) w.heap.size 0 (by rfl) (slC s) _ hS5.out Tryd.underlying25 (by rfl) pl.out ?_)
      refine hv1.out.mono ?_
      rintro e w6 ⟨rfl, hb6⟩
      have hB6 := hbw.out.trans (hb6.mono hbw.out.size)
      clear y0 y1 y2 y3 y4
      obtain ⟨hS6, y0, y1, y2, y3, y4⟩ := hcl.out w6 (hb2.out.trans (hb6.mono hb2.out.size))
      replace hS6 := Lib.hid hS6
      have hc6 := Lib.hid (hb2.out.trans (hb6.mono hb2.out.size))
      clear hb6
      replace hB6 := Lib.hid hB6
      go_wp2_with (refine wpList_load_mid (by rfl) 25 (.tmp 5) (by rfl) w.heap.size 0 (by rfl) (slC s) _ hS6.out Tryd.underlying25 (by rfl) pl.out ?_)
      refine (hv2.out _ hB6.out).mono ?_
      rintro e w7 ⟨rfl, hb7⟩
      have hB7 := Lib.hid (hB6.out.trans (hb7.mono hB6.out.size))
      obtain ⟨-, x0, x1, x2, x3, x4⟩ := hcl.out w7 (hc6.out.trans (hb7.mono hc6.out.size))
      clear hb7 y0 y1 y2 y3 y4 x0 x1 x2 x4
      by_cases a1 : E9 = 0
      · have b1 : (E9 != 0) = false := by simpa using a1
        by_cases a2 : E8 = 0
        · have b2 : (E8 != 0) = false := by simpa using a2
          rcases hf1.out a1 a2 with ⟨g1, rfl, rfl⟩ | ⟨g1, rfl⟩
          · have d1 : decide (ti ≤ c.due) = true := decide_eq_true g1
            have d2 : decide (c.due < ti) = false := decide_eq_false (by omega)
            clear g1 a1 a2
            go_wp2_with fail
            go_ret
            exact ⟨rfl, hB7.out⟩
          · have d1 : decide (ti ≤ c.due) = false := decide_eq_false (by omega)
            have d2 : decide (c.due < ti) = true := decide_eq_true g1
            have hq8 := hf2.out a1 a2
            clear g1 a1 a2
            rcases hq8 with rfl | rfl
            · go_wp2_with fail
              go_ret
              exact ⟨rfl, hB7.out⟩
            · go_wp2_with fail
              go_ret
              exact ⟨rfl, hB7.out⟩
        · have b2 : (E8 != 0) = true := by simpa using a2
          go_wp2_with fail
          go_ret
          exact ⟨rfl, hB7.out⟩
      · have b1 : (E9 != 0) = true := by simpa using a1
        go_wp2_with fail
        go_ret
        exact ⟨rfl, hB7.out⟩

theorem wait_any (s : Sl) (hs : SlI s) (c : Ch) (l : List Op) (m : Nat) (A : Option Addr) (k : Nat) (ti er : Int) (w : World) (hn : l.length = m) (hk : m ≤ k) (hA : OsAt w A l) (hok : ∀ y ∈ l, OpI y) (hL : Laid w) : Calls Tryd.prog 3 #[.agg (slA s), .agg (chA c), .slice A m k, .int .i64 ti, .int .i64 er] w fun e w' => e = .returned (.bool true) ∧ Below w.heap.size w w' := by
  by_cases hf : few41 l = true
  · by_cases h1 : 60 < m
    · exact wait_many s hs c l m A k ti er w hn hk hA hok hL hf h1
    · by_cases h2 : ti < er
      · exact wait_back s hs c l m A k ti er w hn hk hA hok hL hf h1 h2
      · exact wait_main s hs c l m A k ti er w hn hk hA hok hL hf h1 h2
  · exact wait_few s hs c l m A k ti er w hn hk hA hok hL (by simpa using hf)
end Go.Proofs.YtnccbhndlnkboaaDoor
