/- The walk of the statement OfficesFaces. -/
import Derived.Test.YthokpfegfnpmhaaDoorWalkOfficesSpec
import Derived.Test.YthokpfegfnpmhaaDoorFxSame
import Derived.Test.YthokpfegfnpmhaaDoorOwnPo
namespace Go.Proofs.YthokpfegfnpmhaaDoor
open Go.RowKit Go.Shelf Jac Cdc Sha
set_option linter.unusedVariables false
set_option linter.unusedSimpArgs false

set_option maxRecDepth 100000 in
set_option maxHeartbeats 4000000 in
theorem ofc_lo (x : Int) (a b : Cal) (n m cp dp : Nat) (A B : Option Addr) (w : World) (h : x < 1) (hL : Laid w) :
    Calls Tryd.prog 12 #[.int .i64 x, .agg #[.int .i64 a.no, .slice A n cp], .agg #[.int .i64 b.no, .slice B m dp]] w fun e w' => e = .returned (.bool true) ∧ Below w.heap.size w w' := by
  have hB0 : Below w.heap.size w ((w.alloc (.cells #[.int .i64 a.no, .slice A n cp] 45)).alloc (.cells #[.int .i64 b.no, .slice B m dp] 45)) := ((Below.refl _ _).alloc (Nat.le_refl _) _).alloc (by simp) _
  have hL0 := hL.below hB0
  have hc0 := heap_alloc2_old w (.cells #[.int .i64 a.no, .slice A n cp] 45) (.cells #[.int .i64 b.no, .slice B m dp] 45)
  have hp0 := heap_alloc2_new w (.cells #[.int .i64 a.no, .slice A n cp] 45) (.cells #[.int .i64 b.no, .slice B m dp] 45)
  have hlc := (Array.getElem?_eq_some_iff.1 hc0).1
  have hlp := (Array.getElem?_eq_some_iff.1 hp0).1
  obtain ⟨W0, hW0⟩ : ∃ W0, ((w.alloc (.cells #[.int .i64 a.no, .slice A n cp] 45)).alloc (.cells #[.int .i64 b.no, .slice B m dp] 45)) = W0 := ⟨_, rfl⟩
  rw [hW0] at hB0 hL0 hc0 hp0 hlc hlp
  have hC : Hid (∀ V, Below W0.heap.size W0 V → V.cell? ⟨w.heap.size, 0, none⟩ = some (.int .i64 a.no) ∧ V.cell? ⟨w.heap.size, 1, none⟩ = some (.slice A n cp) ∧ V.cell? ⟨w.heap.size + 1, 0, none⟩ = some (.int .i64 b.no) ∧ V.cell? ⟨w.heap.size + 1, 1, none⟩ = some (.slice B m dp)) := Lib.hid fun V hV =>
    ⟨by rw [cell_of_row _ _ _ _ _ _ ((hV.block _ hlc).trans hc0)]; rfl, by rw [cell_of_row _ _ _ _ _ _ ((hV.block _ hlc).trans hc0)]; rfl, by rw [cell_of_row _ _ _ _ _ _ ((hV.block _ hlp).trans hp0)]; rfl, by rw [cell_of_row _ _ _ _ _ _ ((hV.block _ hlp).trans hp0)]; rfl⟩
  have HB := Below.refl W0.heap.size W0
  have kS : Hid (Calls Tryd.prog 24 #[] W0 fun e w' => e = .returned (.bool true) ∧ Below W0.heap.size W0 w') := Lib.hid (osane_any W0 hL0)
  obtain ⟨sa, hsa⟩ : ∃ r, smB n = r := ⟨_, rfl⟩
  obtain ⟨sb, hsb⟩ : ∃ r, smB m = r := ⟨_, rfl⟩
  have kMa : Hid (∀ V, Calls Tryd.prog 25 #[.agg #[.int .i64 a.no, .slice A n cp]] V fun e w' => e = .returned (.bool sa) ∧ Below V.heap.size V w') := Lib.hid fun V => hsa ▸ small_any a.no n cp A V
  have kMb : Hid (∀ V, Calls Tryd.prog 25 #[.agg #[.int .i64 b.no, .slice B m dp]] V fun e w' => e = .returned (.bool sb) ∧ Below V.heap.size V w') := Lib.hid fun V => hsb ▸ small_any b.no m dp B V
  have d1 : decide (x < 1) = true := decide_eq_true (by omega)
  clear hc0 hp0 hlc hlp hL0 hL
  replace hB0 := Lib.hid hB0
  go_enter Tryd.func12, Tryd.ntmps12
  go_wp2_with fail
  try rw [hW0]
  clear hW0
  refine kS.out.mono ?_
  rintro e w1 ⟨rfl, hb⟩
  replace HB := HB.trans (hb.mono HB.size)
  clear hb
  obtain ⟨c0, c1, c2, c3⟩ := hC.out _ HB
  go_wp2_with fail
  go_ret
  exact ⟨rfl, hB0.out.trans (HB.mono hB0.out.size)⟩

set_option maxRecDepth 100000 in
set_option maxHeartbeats 4000000 in
theorem ofc_hi (x : Int) (a b : Cal) (n m cp dp : Nat) (A B : Option Addr) (w : World) (h0 : ¬ x < 1) (h : 1073741789 ≤ x) (hL : Laid w) :
    Calls Tryd.prog 12 #[.int .i64 x, .agg #[.int .i64 a.no, .slice A n cp], .agg #[.int .i64 b.no, .slice B m dp]] w fun e w' => e = .returned (.bool true) ∧ Below w.heap.size w w' := by
  have hB0 : Below w.heap.size w ((w.alloc (.cells #[.int .i64 a.no, .slice A n cp] 45)).alloc (.cells #[.int .i64 b.no, .slice B m dp] 45)) := ((Below.refl _ _).alloc (Nat.le_refl _) _).alloc (by simp) _
  have hL0 := hL.below hB0
  have hc0 := heap_alloc2_old w (.cells #[.int .i64 a.no, .slice A n cp] 45) (.cells #[.int .i64 b.no, .slice B m dp] 45)
  have hp0 := heap_alloc2_new w (.cells #[.int .i64 a.no, .slice A n cp] 45) (.cells #[.int .i64 b.no, .slice B m dp] 45)
  have hlc := (Array.getElem?_eq_some_iff.1 hc0).1
  have hlp := (Array.getElem?_eq_some_iff.1 hp0).1
  obtain ⟨W0, hW0⟩ : ∃ W0, ((w.alloc (.cells #[.int .i64 a.no, .slice A n cp] 45)).alloc (.cells #[.int .i64 b.no, .slice B m dp] 45)) = W0 := ⟨_, rfl⟩
  rw [hW0] at hB0 hL0 hc0 hp0 hlc hlp
  have hC : Hid (∀ V, Below W0.heap.size W0 V → V.cell? ⟨w.heap.size, 0, none⟩ = some (.int .i64 a.no) ∧ V.cell? ⟨w.heap.size, 1, none⟩ = some (.slice A n cp) ∧ V.cell? ⟨w.heap.size + 1, 0, none⟩ = some (.int .i64 b.no) ∧ V.cell? ⟨w.heap.size + 1, 1, none⟩ = some (.slice B m dp)) := Lib.hid fun V hV =>
    ⟨by rw [cell_of_row _ _ _ _ _ _ ((hV.block _ hlc).trans hc0)]; rfl, by rw [cell_of_row _ _ _ _ _ _ ((hV.block _ hlc).trans hc0)]; rfl, by rw [cell_of_row _ _ _ _ _ _ ((hV.block _ hlp).trans hp0)]; rfl, by rw [cell_of_row _ _ _ _ _ _ ((hV.block _ hlp).trans hp0)]; rfl⟩
  have HB := Below.refl W0.heap.size W0
  have kS : Hid (Calls Tryd.prog 24 #[] W0 fun e w' => e = .returned (.bool true) ∧ Below W0.heap.size W0 w') := Lib.hid (osane_any W0 hL0)
  obtain ⟨sa, hsa⟩ : ∃ r, smB n = r := ⟨_, rfl⟩
  obtain ⟨sb, hsb⟩ : ∃ r, smB m = r := ⟨_, rfl⟩
  have kMa : Hid (∀ V, Calls Tryd.prog 25 #[.agg #[.int .i64 a.no, .slice A n cp]] V fun e w' => e = .returned (.bool sa) ∧ Below V.heap.size V w') := Lib.hid fun V => hsa ▸ small_any a.no n cp A V
  have kMb : Hid (∀ V, Calls Tryd.prog 25 #[.agg #[.int .i64 b.no, .slice B m dp]] V fun e w' => e = .returned (.bool sb) ∧ Below V.heap.size V w') := Lib.hid fun V => hsb ▸ small_any b.no m dp B V
  have d1 : decide (x < 1) = false := decide_eq_false (by omega)
  have d2 : decide (1073741789 ≤ x) = true := decide_eq_true (by omega)
  clear hc0 hp0 hlc hlp hL0 hL
  replace hB0 := Lib.hid hB0
  go_enter Tryd.func12, Tryd.ntmps12
  go_wp2_with fail
  try rw [hW0]
  clear hW0
  refine kS.out.mono ?_
  rintro e w1 ⟨rfl, hb⟩
  replace HB := HB.trans (hb.mono HB.size)
  clear hb
  obtain ⟨c0, c1, c2, c3⟩ := hC.out _ HB
  go_wp2_with fail
  go_ret
  exact ⟨rfl, hB0.out.trans (HB.mono hB0.out.size)⟩

set_option maxRecDepth 100000 in
set_option maxHeartbeats 4000000 in
theorem ofc_sa (x : Int) (a b : Cal) (n m cp dp : Nat) (A B : Option Addr) (w : World) (h0 : ¬ x < 1) (h1 : ¬ 1073741789 ≤ x) (h : smB n = false) (hL : Laid w) :
    Calls Tryd.prog 12 #[.int .i64 x, .agg #[.int .i64 a.no, .slice A n cp], .agg #[.int .i64 b.no, .slice B m dp]] w fun e w' => e = .returned (.bool true) ∧ Below w.heap.size w w' := by
  have hB0 : Below w.heap.size w ((w.alloc (.cells #[.int .i64 a.no, .slice A n cp] 45)).alloc (.cells #[.int .i64 b.no, .slice B m dp] 45)) := ((Below.refl _ _).alloc (Nat.le_refl _) _).alloc (by simp) _
  have hL0 := hL.below hB0
  have hc0 := heap_alloc2_old w (.cells #[.int .i64 a.no, .slice A n cp] 45) (.cells #[.int .i64 b.no, .slice B m dp] 45)
  have hp0 := heap_alloc2_new w (.cells #[.int .i64 a.no, .slice A n cp] 45) (.cells #[.int .i64 b.no, .slice B m dp] 45)
  have hlc := (Array.getElem?_eq_some_iff.1 hc0).1
  have hlp := (Array.getElem?_eq_some_iff.1 hp0).1
  obtain ⟨W0, hW0⟩ : ∃ W0, ((w.alloc (.cells #[.int .i64 a.no, .slice A n cp] 45)).alloc (.cells #[.int .i64 b.no, .slice B m dp] 45)) = W0 := ⟨_, rfl⟩
  rw [hW0] at hB0 hL0 hc0 hp0 hlc hlp
  have hC : Hid (∀ V, Below W0.heap.size W0 V → V.cell? ⟨w.heap.size, 0, none⟩ = some (.int .i64 a.no) ∧ V.cell? ⟨w.heap.size, 1, none⟩ = some (.slice A n cp) ∧ V.cell? ⟨w.heap.size + 1, 0, none⟩ = some (.int .i64 b.no) ∧ V.cell? ⟨w.heap.size + 1, 1, none⟩ = some (.slice B m dp)) := Lib.hid fun V hV =>
    ⟨by rw [cell_of_row _ _ _ _ _ _ ((hV.block _ hlc).trans hc0)]; rfl, by rw [cell_of_row _ _ _ _ _ _ ((hV.block _ hlc).trans hc0)]; rfl, by rw [cell_of_row _ _ _ _ _ _ ((hV.block _ hlp).trans hp0)]; rfl, by rw [cell_of_row _ _ _ _ _ _ ((hV.block _ hlp).trans hp0)]; rfl⟩
  have HB := Below.refl W0.heap.size W0
  have kS : Hid (Calls Tryd.prog 24 #[] W0 fun e w' => e = .returned (.bool true) ∧ Below W0.heap.size W0 w') := Lib.hid (osane_any W0 hL0)
  obtain ⟨sa, hsa⟩ : ∃ r, smB n = r := ⟨_, rfl⟩
  obtain ⟨sb, hsb⟩ : ∃ r, smB m = r := ⟨_, rfl⟩
  have kMa : Hid (∀ V, Calls Tryd.prog 25 #[.agg #[.int .i64 a.no, .slice A n cp]] V fun e w' => e = .returned (.bool sa) ∧ Below V.heap.size V w') := Lib.hid fun V => hsa ▸ small_any a.no n cp A V
  have kMb : Hid (∀ V, Calls Tryd.prog 25 #[.agg #[.int .i64 b.no, .slice B m dp]] V fun e w' => e = .returned (.bool sb) ∧ Below V.heap.size V w') := Lib.hid fun V => hsb ▸ small_any b.no m dp B V
  have d1 : decide (x < 1) = false := decide_eq_false (by omega)
  have d2 : decide (1073741789 ≤ x) = false := decide_eq_false (by omega)
  obtain rfl : sa = false := hsa.symm.trans h
  clear hc0 hp0 hlc hlp hL0 hL
  replace hB0 := Lib.hid hB0
  go_enter Tryd.func12, Tryd.ntmps12
  go_wp2_with fail
  try rw [hW0]
  clear hW0
  refine kS.out.mono ?_
  rintro e w1 ⟨rfl, hb⟩
  replace HB := HB.trans (hb.mono HB.size)
  clear hb
  obtain ⟨c0, c1, c2, c3⟩ := hC.out _ HB
  go_wp2_with fail
  refine (kMa.out _).mono ?_
  rintro e w2 ⟨rfl, hb⟩
  replace HB := HB.trans (hb.mono HB.size)
  clear hb c0 c1 c2 c3
  obtain ⟨c0, c1, c2, c3⟩ := hC.out _ HB
  go_wp2_with fail
  go_ret
  exact ⟨rfl, hB0.out.trans (HB.mono hB0.out.size)⟩

set_option maxRecDepth 100000 in
set_option maxHeartbeats 4000000 in
theorem ofc_sb (x : Int) (a b : Cal) (n m cp dp : Nat) (A B : Option Addr) (w : World) (h0 : ¬ x < 1) (h1 : ¬ 1073741789 ≤ x) (h2 : smB n = true) (h : smB m = false) (hL : Laid w) :
    Calls Tryd.prog 12 #[.int .i64 x, .agg #[.int .i64 a.no, .slice A n cp], .agg #[.int .i64 b.no, .slice B m dp]] w fun e w' => e = .returned (.bool true) ∧ Below w.heap.size w w' := by
  have hB0 : Below w.heap.size w ((w.alloc (.cells #[.int .i64 a.no, .slice A n cp] 45)).alloc (.cells #[.int .i64 b.no, .slice B m dp] 45)) := ((Below.refl _ _).alloc (Nat.le_refl _) _).alloc (by simp) _
  have hL0 := hL.below hB0
  have hc0 := heap_alloc2_old w (.cells #[.int .i64 a.no, .slice A n cp] 45) (.cells #[.int .i64 b.no, .slice B m dp] 45)
  have hp0 := heap_alloc2_new w (.cells #[.int .i64 a.no, .slice A n cp] 45) (.cells #[.int .i64 b.no, .slice B m dp] 45)
  have hlc := (Array.getElem?_eq_some_iff.1 hc0).1
  have hlp := (Array.getElem?_eq_some_iff.1 hp0).1
  obtain ⟨W0, hW0⟩ : ∃ W0, ((w.alloc (.cells #[.int .i64 a.no, .slice A n cp] 45)).alloc (.cells #[.int .i64 b.no, .slice B m dp] 45)) = W0 := ⟨_, rfl⟩
  rw [hW0] at hB0 hL0 hc0 hp0 hlc hlp
  have hC : Hid (∀ V, Below W0.heap.size W0 V → V.cell? ⟨w.heap.size, 0, none⟩ = some (.int .i64 a.no) ∧ V.cell? ⟨w.heap.size, 1, none⟩ = some (.slice A n cp) ∧ V.cell? ⟨w.heap.size + 1, 0, none⟩ = some (.int .i64 b.no) ∧ V.cell? ⟨w.heap.size + 1, 1, none⟩ = some (.slice B m dp)) := Lib.hid fun V hV =>
    ⟨by rw [cell_of_row _ _ _ _ _ _ ((hV.block _ hlc).trans hc0)]; rfl, by rw [cell_of_row _ _ _ _ _ _ ((hV.block _ hlc).trans hc0)]; rfl, by rw [cell_of_row _ _ _ _ _ _ ((hV.block _ hlp).trans hp0)]; rfl, by rw [cell_of_row _ _ _ _ _ _ ((hV.block _ hlp).trans hp0)]; rfl⟩
  have HB := Below.refl W0.heap.size W0
  have kS : Hid (Calls Tryd.prog 24 #[] W0 fun e w' => e = .returned (.bool true) ∧ Below W0.heap.size W0 w') := Lib.hid (osane_any W0 hL0)
  obtain ⟨sa, hsa⟩ : ∃ r, smB n = r := ⟨_, rfl⟩
  obtain ⟨sb, hsb⟩ : ∃ r, smB m = r := ⟨_, rfl⟩
  have kMa : Hid (∀ V, Calls Tryd.prog 25 #[.agg #[.int .i64 a.no, .slice A n cp]] V fun e w' => e = .returned (.bool sa) ∧ Below V.heap.size V w') := Lib.hid fun V => hsa ▸ small_any a.no n cp A V
  have kMb : Hid (∀ V, Calls Tryd.prog 25 #[.agg #[.int .i64 b.no, .slice B m dp]] V fun e w' => e = .returned (.bool sb) ∧ Below V.heap.size V w') := Lib.hid fun V => hsb ▸ small_any b.no m dp B V
  have d1 : decide (x < 1) = false := decide_eq_false (by omega)
  have d2 : decide (1073741789 ≤ x) = false := decide_eq_false (by omega)
  obtain rfl : sa = true := hsa.symm.trans h2
  obtain rfl : sb = false := hsb.symm.trans h
  clear hc0 hp0 hlc hlp hL0 hL
  replace hB0 := Lib.hid hB0
  go_enter Tryd.func12, Tryd.ntmps12
  go_wp2_with fail
  try rw [hW0]
  clear hW0
  refine kS.out.mono ?_
  rintro e w1 ⟨rfl, hb⟩
  replace HB := HB.trans (hb.mono HB.size)
  clear hb
  obtain ⟨c0, c1, c2, c3⟩ := hC.out _ HB
  go_wp2_with fail
  refine (kMa.out _).mono ?_
  rintro e w2 ⟨rfl, hb⟩
  replace HB := HB.trans (hb.mono HB.size)
  clear hb c0 c1 c2 c3
  obtain ⟨c0, c1, c2, c3⟩ := hC.out _ HB
  go_wp2_with fail
  refine (kMb.out _).mono ?_
  rintro e w3 ⟨rfl, hb⟩
  replace HB := HB.trans (hb.mono HB.size)
  clear hb c0 c1 c2 c3
  obtain ⟨c0, c1, c2, c3⟩ := hC.out _ HB
  go_wp2_with fail
  go_ret
  exact ⟨rfl, hB0.out.trans (HB.mono hB0.out.size)⟩

set_option maxRecDepth 100000 in
set_option maxHeartbeats 4000000 in
theorem ofc_no (x : Int) (a b : Cal) (n m cp dp : Nat) (A B : Option Addr) (w : World) (h0 : ¬ x < 1) (h1 : ¬ 1073741789 ≤ x) (h2 : smB n = true) (h3 : smB m = true) (h : a.no ≠ b.no) (hL : Laid w) :
    Calls Tryd.prog 12 #[.int .i64 x, .agg #[.int .i64 a.no, .slice A n cp], .agg #[.int .i64 b.no, .slice B m dp]] w fun e w' => e = .returned (.bool true) ∧ Below w.heap.size w w' := by
  have hB0 : Below w.heap.size w ((w.alloc (.cells #[.int .i64 a.no, .slice A n cp] 45)).alloc (.cells #[.int .i64 b.no, .slice B m dp] 45)) := ((Below.refl _ _).alloc (Nat.le_refl _) _).alloc (by simp) _
  have hL0 := hL.below hB0
  have hc0 := heap_alloc2_old w (.cells #[.int .i64 a.no, .slice A n cp] 45) (.cells #[.int .i64 b.no, .slice B m dp] 45)
  have hp0 := heap_alloc2_new w (.cells #[.int .i64 a.no, .slice A n cp] 45) (.cells #[.int .i64 b.no, .slice B m dp] 45)
  have hlc := (Array.getElem?_eq_some_iff.1 hc0).1
  have hlp := (Array.getElem?_eq_some_iff.1 hp0).1
  obtain ⟨W0, hW0⟩ : ∃ W0, ((w.alloc (.cells #[.int .i64 a.no, .slice A n cp] 45)).alloc (.cells #[.int .i64 b.no, .slice B m dp] 45)) = W0 := ⟨_, rfl⟩
  rw [hW0] at hB0 hL0 hc0 hp0 hlc hlp
  have hC : Hid (∀ V, Below W0.heap.size W0 V → V.cell? ⟨w.heap.size, 0, none⟩ = some (.int .i64 a.no) ∧ V.cell? ⟨w.heap.size, 1, none⟩ = some (.slice A n cp) ∧ V.cell? ⟨w.heap.size + 1, 0, none⟩ = some (.int .i64 b.no) ∧ V.cell? ⟨w.heap.size + 1, 1, none⟩ = some (.slice B m dp)) := Lib.hid fun V hV =>
    ⟨by rw [cell_of_row _ _ _ _ _ _ ((hV.block _ hlc).trans hc0)]; rfl, by rw [cell_of_row _ _ _ _ _ _ ((hV.block _ hlc).trans hc0)]; rfl, by rw [cell_of_row _ _ _ _ _ _ ((hV.block _ hlp).trans hp0)]; rfl, by rw [cell_of_row _ _ _ _ _ _ ((hV.block _ hlp).trans hp0)]; rfl⟩
  have HB := Below.refl W0.heap.size W0
  have kS : Hid (Calls Tryd.prog 24 #[] W0 fun e w' => e = .returned (.bool true) ∧ Below W0.heap.size W0 w') := Lib.hid (osane_any W0 hL0)
  obtain ⟨sa, hsa⟩ : ∃ r, smB n = r := ⟨_, rfl⟩
  obtain ⟨sb, hsb⟩ : ∃ r, smB m = r := ⟨_, rfl⟩
  have kMa : Hid (∀ V, Calls Tryd.prog 25 #[.agg #[.int .i64 a.no, .slice A n cp]] V fun e w' => e = .returned (.bool sa) ∧ Below V.heap.size V w') := Lib.hid fun V => hsa ▸ small_any a.no n cp A V
  have kMb : Hid (∀ V, Calls Tryd.prog 25 #[.agg #[.int .i64 b.no, .slice B m dp]] V fun e w' => e = .returned (.bool sb) ∧ Below V.heap.size V w') := Lib.hid fun V => hsb ▸ small_any b.no m dp B V
  have d1 : decide (x < 1) = false := decide_eq_false (by omega)
  have d2 : decide (1073741789 ≤ x) = false := decide_eq_false (by omega)
  obtain rfl : sa = true := hsa.symm.trans h2
  obtain rfl : sb = true := hsb.symm.trans h3
  have d3 : (a.no != b.no) = true := by simp [h]
  clear hc0 hp0 hlc hlp hL0 hL
  replace hB0 := Lib.hid hB0
  go_enter Tryd.func12, Tryd.ntmps12
  go_wp2_with fail
  try rw [hW0]
  clear hW0
  refine kS.out.mono ?_
  rintro e w1 ⟨rfl, hb⟩
  replace HB := HB.trans (hb.mono HB.size)
  clear hb
  obtain ⟨c0, c1, c2, c3⟩ := hC.out _ HB
  go_wp2_with fail
  refine (kMa.out _).mono ?_
  rintro e w2 ⟨rfl, hb⟩
  replace HB := HB.trans (hb.mono HB.size)
  clear hb c0 c1 c2 c3
  obtain ⟨c0, c1, c2, c3⟩ := hC.out _ HB
  go_wp2_with fail
  refine (kMb.out _).mono ?_
  rintro e w3 ⟨rfl, hb⟩
  replace HB := HB.trans (hb.mono HB.size)
  clear hb c0 c1 c2 c3
  obtain ⟨c0, c1, c2, c3⟩ := hC.out _ HB
  go_wp2_with fail
  go_ret
  exact ⟨rfl, hB0.out.trans (HB.mono hB0.out.size)⟩

set_option maxRecDepth 100000 in
set_option maxHeartbeats 4000000 in
theorem ofc_ea (x : Int) (a b : Cal) (n m cp dp : Nat) (A B : Option Addr) (w : World) (h0 : ¬ x < 1) (h1 : ¬ 1073741789 ≤ x) (h2 : smB n = true) (h3 : smB m = true) (h : a.no = b.no) (hn : a.fx.length = n) (hm : b.fx.length = m) (hcp : n ≤ cp) (hdp : m ≤ dp) (hA : FxAt w A a.fx) (hB : FxAt w B b.fx) (hI : ∀ f ∈ a.fx, FxI f) (hJ : ∀ f ∈ b.fx, FxI f) (hi : I64 a.no) (hj : I64 b.no) (hE : ¬ CalOk a) (hL : Laid w) :
    Calls Tryd.prog 12 #[.int .i64 x, .agg #[.int .i64 a.no, .slice A n cp], .agg #[.int .i64 b.no, .slice B m dp]] w fun e w' => e = .returned (.bool true) ∧ Below w.heap.size w w' := by
  have hB0 : Below w.heap.size w ((w.alloc (.cells #[.int .i64 a.no, .slice A n cp] 45)).alloc (.cells #[.int .i64 b.no, .slice B m dp] 45)) := ((Below.refl _ _).alloc (Nat.le_refl _) _).alloc (by simp) _
  have hL0 := hL.below hB0
  have hc0 := heap_alloc2_old w (.cells #[.int .i64 a.no, .slice A n cp] 45) (.cells #[.int .i64 b.no, .slice B m dp] 45)
  have hp0 := heap_alloc2_new w (.cells #[.int .i64 a.no, .slice A n cp] 45) (.cells #[.int .i64 b.no, .slice B m dp] 45)
  have hlc := (Array.getElem?_eq_some_iff.1 hc0).1
  have hlp := (Array.getElem?_eq_some_iff.1 hp0).1
  obtain ⟨W0, hW0⟩ : ∃ W0, ((w.alloc (.cells #[.int .i64 a.no, .slice A n cp] 45)).alloc (.cells #[.int .i64 b.no, .slice B m dp] 45)) = W0 := ⟨_, rfl⟩
  rw [hW0] at hB0 hL0 hc0 hp0 hlc hlp
  have hC : Hid (∀ V, Below W0.heap.size W0 V → V.cell? ⟨w.heap.size, 0, none⟩ = some (.int .i64 a.no) ∧ V.cell? ⟨w.heap.size, 1, none⟩ = some (.slice A n cp) ∧ V.cell? ⟨w.heap.size + 1, 0, none⟩ = some (.int .i64 b.no) ∧ V.cell? ⟨w.heap.size + 1, 1, none⟩ = some (.slice B m dp)) := Lib.hid fun V hV =>
    ⟨by rw [cell_of_row _ _ _ _ _ _ ((hV.block _ hlc).trans hc0)]; rfl, by rw [cell_of_row _ _ _ _ _ _ ((hV.block _ hlc).trans hc0)]; rfl, by rw [cell_of_row _ _ _ _ _ _ ((hV.block _ hlp).trans hp0)]; rfl, by rw [cell_of_row _ _ _ _ _ _ ((hV.block _ hlp).trans hp0)]; rfl⟩
  have HB := Below.refl W0.heap.size W0
  have kS : Hid (Calls Tryd.prog 24 #[] W0 fun e w' => e = .returned (.bool true) ∧ Below W0.heap.size W0 w') := Lib.hid (osane_any W0 hL0)
  obtain ⟨sa, hsa⟩ : ∃ r, smB n = r := ⟨_, rfl⟩
  obtain ⟨sb, hsb⟩ : ∃ r, smB m = r := ⟨_, rfl⟩
  have kMa : Hid (∀ V, Calls Tryd.prog 25 #[.agg #[.int .i64 a.no, .slice A n cp]] V fun e w' => e = .returned (.bool sa) ∧ Below V.heap.size V w') := Lib.hid fun V => hsa ▸ small_any a.no n cp A V
  have kMb : Hid (∀ V, Calls Tryd.prog 25 #[.agg #[.int .i64 b.no, .slice B m dp]] V fun e w' => e = .returned (.bool sb) ∧ Below V.heap.size V w') := Lib.hid fun V => hsb ▸ small_any b.no m dp B V
  have d1 : decide (x < 1) = false := decide_eq_false (by omega)
  have d2 : decide (1073741789 ≤ x) = false := decide_eq_false (by omega)
  obtain rfl : sa = true := hsa.symm.trans h2
  obtain rfl : sb = true := hsb.symm.trans h3
  have d3 : (a.no != b.no) = false := by simp [h]
  have hx : AnIn x := ⟨by omega, by omega⟩
  have hA0 := hA.below hB0
  have hB1 := hB.below hB0
  have an : ∀ c : Cal, anE x c = calE c := fun c => if_pos hx
  obtain ⟨K, hK9⟩ : ∃ K, powC 4 x = K := ⟨_, rfl⟩
  obtain ⟨p, hp9⟩ : ∃ p, anP x a = p := ⟨_, rfl⟩
  obtain ⟨q, hq9⟩ : ∃ p, anP x b = p := ⟨_, rfl⟩
  have hpI : PoI p := hp9 ▸ anP_I x a
  have hqI : PoI q := hq9 ▸ anP_I x b
  have kK : Hid (∀ V, Calls Tryd.prog 36 #[.int .i64 x] V fun e w' => e = .returned (.int .i64 K) ∧ w' = V) := Lib.hid fun V => hK9 ▸ rkey_any x V
  have kA : Hid (∀ V, Below W0.heap.size W0 V → Calls Tryd.prog 26 #[.int .i64 x, .agg #[.int .i64 a.no, .slice A n cp]] V fun e w' => e = .returned (.tuple #[.agg (poA p), .int .i64 (calE a)]) ∧ Below V.heap.size V w') := Lib.hid fun V hV => by have := announce_any x a n cp A V hn hcp (hA0.below hV) hI (hL0.below hV); rw [hp9, an] at this; exact this
  have kB : Hid (∀ V, Below W0.heap.size W0 V → Calls Tryd.prog 26 #[.int .i64 x, .agg #[.int .i64 b.no, .slice B m dp]] V fun e w' => e = .returned (.tuple #[.agg (poA q), .int .i64 (calE b)]) ∧ Below V.heap.size V w') := Lib.hid fun V hV => by have := announce_any x b m dp B V hm hdp (hB1.below hV) hJ (hL0.below hV); rw [hq9, an] at this; exact this
  have ip := Lib.hid (po_info' hpI.root)
  have iq := Lib.hid (po_info' hqI.root)
  have jp := Lib.hid (po_info hpI.root)
  have jq := Lib.hid (po_info hqI.root)
  have sp : Hid (35 = (poA p).size) := Lib.hid (poA_size hpI.root).symm
  have sq : Hid (35 = (poA q).size) := Lib.hid (poA_size hqI.root).symm
  have op := Lib.hid (poA_one p)
  have oq := Lib.hid (poA_one q)
  have eE : calE a = 350 := if_neg hE
  rw [eE] at kA
  obtain ⟨F, hF9⟩ : ∃ F, calE b = F := ⟨_, rfl⟩
  rw [hF9] at kB
  clear eE hF9 hE
  clear hc0 hp0 hlc hlp hL0 hL
  clear h hpI hqI hn hm hA hB hI hJ hA0 hB1 hp9 hq9 hK9 hx an h0 h1 h2 h3 hsa hsb hi hj
  replace hB0 := Lib.hid hB0
  go_enter Tryd.func12, Tryd.ntmps12
  go_wp2_with fail
  try rw [hW0]
  clear hW0
  refine kS.out.mono ?_
  rintro e w1 ⟨rfl, hb⟩
  replace HB := HB.trans (hb.mono HB.size)
  clear hb
  obtain ⟨c0, c1, c2, c3⟩ := hC.out _ HB
  go_wp2_with fail
  refine (kMa.out _).mono ?_
  rintro e w2 ⟨rfl, hb⟩
  replace HB := HB.trans (hb.mono HB.size)
  clear hb c0 c1 c2 c3
  obtain ⟨c0, c1, c2, c3⟩ := hC.out _ HB
  go_wp2_with fail
  refine (kMb.out _).mono ?_
  rintro e w3 ⟨rfl, hb⟩
  replace HB := HB.trans (hb.mono HB.size)
  clear hb c0 c1 c2 c3
  obtain ⟨c0, c1, c2, c3⟩ := hC.out _ HB
  go_wp2_with fail
  refine (kK.out _).mono ?_
  rintro e wk ⟨rfl, hwk⟩
  subst hwk
  go_wp2_with fail
  refine (kA.out _ HB).mono ?_
  rintro e w4 ⟨rfl, hb⟩
  replace HB := HB.trans (hb.mono HB.size)
  clear hb c0 c1 c2 c3
  go_wp2_with (refine wpList_new_row' (by rfl) 49 (.tmp 8) (.tmp 51) (by rfl) (by rfl) (poA p) w4.heap.size (by rfl) rfl (by rfl) 49 _ jp.out sp.out op.out ?_; intro w5 hd hz hB9; replace HB := HB.trans (hB9.mono HB.size); obtain ⟨c0, c1, c2, c3⟩ := hC.out _ HB; have h8 : Hid (∀ V, Below w5.heap.size w5 V → V.rangeAt w4.heap.size 0 (poC p) ∧ V.rangeAt w4.heap.size 1 (p.root.map by1)) := Lib.hid (fun V hV => ⟨po_row ((hV.block _ (Array.getElem?_eq_some_iff.1 hd).1).trans hd), po_root_at ((hV.block _ (Array.getElem?_eq_some_iff.1 hd).1).trans hd)⟩); clear hd hz hB9)
  refine (kB.out _ HB).mono ?_
  rintro e w6 ⟨rfl, hb⟩
  replace HB := HB.trans (hb.mono HB.size)
  replace h8 := up h8 hb
  clear hb c0 c1 c2 c3
  go_wp2_with (refine wpList_new_row' (by rfl) 49 (.tmp 10) (.tmp 57) (by rfl) (by rfl) (poA q) w6.heap.size (by rfl) rfl (by rfl) 49 _ jq.out sq.out oq.out ?_; intro w7 hd hz hB9; replace HB := HB.trans (hB9.mono HB.size); obtain ⟨c0, c1, c2, c3⟩ := hC.out _ HB; have h10 : Hid (∀ V, Below w7.heap.size w7 V → V.rangeAt w6.heap.size 0 (poC q) ∧ V.rangeAt w6.heap.size 1 (q.root.map by1)) := Lib.hid (fun V hV => ⟨po_row ((hV.block _ (Array.getElem?_eq_some_iff.1 hd).1).trans hd), po_root_at ((hV.block _ (Array.getElem?_eq_some_iff.1 hd).1).trans hd)⟩); replace h8 := up h8 hB9; clear hd hz hB9)
  go_ret
  exact ⟨rfl, hB0.out.trans (HB.mono hB0.out.size)⟩

set_option maxRecDepth 100000 in
set_option maxHeartbeats 4000000 in
theorem ofc_eb (x : Int) (a b : Cal) (n m cp dp : Nat) (A B : Option Addr) (w : World) (h0 : ¬ x < 1) (h1 : ¬ 1073741789 ≤ x) (h2 : smB n = true) (h3 : smB m = true) (h : a.no = b.no) (hn : a.fx.length = n) (hm : b.fx.length = m) (hcp : n ≤ cp) (hdp : m ≤ dp) (hA : FxAt w A a.fx) (hB : FxAt w B b.fx) (hI : ∀ f ∈ a.fx, FxI f) (hJ : ∀ f ∈ b.fx, FxI f) (hi : I64 a.no) (hj : I64 b.no) (hE : CalOk a) (hF : ¬ CalOk b) (hL : Laid w) :
    Calls Tryd.prog 12 #[.int .i64 x, .agg #[.int .i64 a.no, .slice A n cp], .agg #[.int .i64 b.no, .slice B m dp]] w fun e w' => e = .returned (.bool true) ∧ Below w.heap.size w w' := by
  have hB0 : Below w.heap.size w ((w.alloc (.cells #[.int .i64 a.no, .slice A n cp] 45)).alloc (.cells #[.int .i64 b.no, .slice B m dp] 45)) := ((Below.refl _ _).alloc (Nat.le_refl _) _).alloc (by simp) _
  have hL0 := hL.below hB0
  have hc0 := heap_alloc2_old w (.cells #[.int .i64 a.no, .slice A n cp] 45) (.cells #[.int .i64 b.no, .slice B m dp] 45)
  have hp0 := heap_alloc2_new w (.cells #[.int .i64 a.no, .slice A n cp] 45) (.cells #[.int .i64 b.no, .slice B m dp] 45)
  have hlc := (Array.getElem?_eq_some_iff.1 hc0).1
  have hlp := (Array.getElem?_eq_some_iff.1 hp0).1
  obtain ⟨W0, hW0⟩ : ∃ W0, ((w.alloc (.cells #[.int .i64 a.no, .slice A n cp] 45)).alloc (.cells #[.int .i64 b.no, .slice B m dp] 45)) = W0 := ⟨_, rfl⟩
  rw [hW0] at hB0 hL0 hc0 hp0 hlc hlp
  have hC : Hid (∀ V, Below W0.heap.size W0 V → V.cell? ⟨w.heap.size, 0, none⟩ = some (.int .i64 a.no) ∧ V.cell? ⟨w.heap.size, 1, none⟩ = some (.slice A n cp) ∧ V.cell? ⟨w.heap.size + 1, 0, none⟩ = some (.int .i64 b.no) ∧ V.cell? ⟨w.heap.size + 1, 1, none⟩ = some (.slice B m dp)) := Lib.hid fun V hV =>
    ⟨by rw [cell_of_row _ _ _ _ _ _ ((hV.block _ hlc).trans hc0)]; rfl, by rw [cell_of_row _ _ _ _ _ _ ((hV.block _ hlc).trans hc0)]; rfl, by rw [cell_of_row _ _ _ _ _ _ ((hV.block _ hlp).trans hp0)]; rfl, by rw [cell_of_row _ _ _ _ _ _ ((hV.block _ hlp).trans hp0)]; rfl⟩
  have HB := Below.refl W0.heap.size W0
  have kS : Hid (Calls Tryd.prog 24 #[] W0 fun e w' => e = .returned (.bool true) ∧ Below W0.heap.size W0 w') := Lib.hid (osane_any W0 hL0)
  obtain ⟨sa, hsa⟩ : ∃ r, smB n = r := ⟨_, rfl⟩
  obtain ⟨sb, hsb⟩ : ∃ r, smB m = r := ⟨_, rfl⟩
  have kMa : Hid (∀ V, Calls Tryd.prog 25 #[.agg #[.int .i64 a.no, .slice A n cp]] V fun e w' => e = .returned (.bool sa) ∧ Below V.heap.size V w') := Lib.hid fun V => hsa ▸ small_any a.no n cp A V
  have kMb : Hid (∀ V, Calls Tryd.prog 25 #[.agg #[.int .i64 b.no, .slice B m dp]] V fun e w' => e = .returned (.bool sb) ∧ Below V.heap.size V w') := Lib.hid fun V => hsb ▸ small_any b.no m dp B V
  have d1 : decide (x < 1) = false := decide_eq_false (by omega)
  have d2 : decide (1073741789 ≤ x) = false := decide_eq_false (by omega)
  obtain rfl : sa = true := hsa.symm.trans h2
  obtain rfl : sb = true := hsb.symm.trans h3
  have d3 : (a.no != b.no) = false := by simp [h]
  have hx : AnIn x := ⟨by omega, by omega⟩
  have hA0 := hA.below hB0
  have hB1 := hB.below hB0
  have an : ∀ c : Cal, anE x c = calE c := fun c => if_pos hx
  obtain ⟨K, hK9⟩ : ∃ K, powC 4 x = K := ⟨_, rfl⟩
  obtain ⟨p, hp9⟩ : ∃ p, anP x a = p := ⟨_, rfl⟩
  obtain ⟨q, hq9⟩ : ∃ p, anP x b = p := ⟨_, rfl⟩
  have hpI : PoI p := hp9 ▸ anP_I x a
  have hqI : PoI q := hq9 ▸ anP_I x b
  have kK : Hid (∀ V, Calls Tryd.prog 36 #[.int .i64 x] V fun e w' => e = .returned (.int .i64 K) ∧ w' = V) := Lib.hid fun V => hK9 ▸ rkey_any x V
  have kA : Hid (∀ V, Below W0.heap.size W0 V → Calls Tryd.prog 26 #[.int .i64 x, .agg #[.int .i64 a.no, .slice A n cp]] V fun e w' => e = .returned (.tuple #[.agg (poA p), .int .i64 (calE a)]) ∧ Below V.heap.size V w') := Lib.hid fun V hV => by have := announce_any x a n cp A V hn hcp (hA0.below hV) hI (hL0.below hV); rw [hp9, an] at this; exact this
  have kB : Hid (∀ V, Below W0.heap.size W0 V → Calls Tryd.prog 26 #[.int .i64 x, .agg #[.int .i64 b.no, .slice B m dp]] V fun e w' => e = .returned (.tuple #[.agg (poA q), .int .i64 (calE b)]) ∧ Below V.heap.size V w') := Lib.hid fun V hV => by have := announce_any x b m dp B V hm hdp (hB1.below hV) hJ (hL0.below hV); rw [hq9, an] at this; exact this
  have ip := Lib.hid (po_info' hpI.root)
  have iq := Lib.hid (po_info' hqI.root)
  have jp := Lib.hid (po_info hpI.root)
  have jq := Lib.hid (po_info hqI.root)
  have sp : Hid (35 = (poA p).size) := Lib.hid (poA_size hpI.root).symm
  have sq : Hid (35 = (poA q).size) := Lib.hid (poA_size hqI.root).symm
  have op := Lib.hid (poA_one p)
  have oq := Lib.hid (poA_one q)
  have eE : calE a = 0 := if_pos hE
  rw [eE] at kA
  have eF : calE b = 350 := if_neg hF
  rw [eF] at kB
  clear eE eF hE hF
  clear hc0 hp0 hlc hlp hL0 hL
  clear h hpI hqI hn hm hA hB hI hJ hA0 hB1 hp9 hq9 hK9 hx an h0 h1 h2 h3 hsa hsb hi hj
  replace hB0 := Lib.hid hB0
  go_enter Tryd.func12, Tryd.ntmps12
  go_wp2_with fail
  try rw [hW0]
  clear hW0
  refine kS.out.mono ?_
  rintro e w1 ⟨rfl, hb⟩
  replace HB := HB.trans (hb.mono HB.size)
  clear hb
  obtain ⟨c0, c1, c2, c3⟩ := hC.out _ HB
  go_wp2_with fail
  refine (kMa.out _).mono ?_
  rintro e w2 ⟨rfl, hb⟩
  replace HB := HB.trans (hb.mono HB.size)
  clear hb c0 c1 c2 c3
  obtain ⟨c0, c1, c2, c3⟩ := hC.out _ HB
  go_wp2_with fail
  refine (kMb.out _).mono ?_
  rintro e w3 ⟨rfl, hb⟩
  replace HB := HB.trans (hb.mono HB.size)
  clear hb c0 c1 c2 c3
  obtain ⟨c0, c1, c2, c3⟩ := hC.out _ HB
  go_wp2_with fail
  refine (kK.out _).mono ?_
  rintro e wk ⟨rfl, hwk⟩
  subst hwk
  go_wp2_with fail
  refine (kA.out _ HB).mono ?_
  rintro e w4 ⟨rfl, hb⟩
  replace HB := HB.trans (hb.mono HB.size)
  clear hb c0 c1 c2 c3
  go_wp2_with (refine wpList_new_row' (by rfl) 49 (.tmp 8) (.tmp 51) (by rfl) (by rfl) (poA p) w4.heap.size (by rfl) rfl (by rfl) 49 _ jp.out sp.out op.out ?_; intro w5 hd hz hB9; replace HB := HB.trans (hB9.mono HB.size); obtain ⟨c0, c1, c2, c3⟩ := hC.out _ HB; have h8 : Hid (∀ V, Below w5.heap.size w5 V → V.rangeAt w4.heap.size 0 (poC p) ∧ V.rangeAt w4.heap.size 1 (p.root.map by1)) := Lib.hid (fun V hV => ⟨po_row ((hV.block _ (Array.getElem?_eq_some_iff.1 hd).1).trans hd), po_root_at ((hV.block _ (Array.getElem?_eq_some_iff.1 hd).1).trans hd)⟩); clear hd hz hB9)
  refine (kB.out _ HB).mono ?_
  rintro e w6 ⟨rfl, hb⟩
  replace HB := HB.trans (hb.mono HB.size)
  replace h8 := up h8 hb
  clear hb c0 c1 c2 c3
  go_wp2_with (refine wpList_new_row' (by rfl) 49 (.tmp 10) (.tmp 57) (by rfl) (by rfl) (poA q) w6.heap.size (by rfl) rfl (by rfl) 49 _ jq.out sq.out oq.out ?_; intro w7 hd hz hB9; replace HB := HB.trans (hB9.mono HB.size); obtain ⟨c0, c1, c2, c3⟩ := hC.out _ HB; have h10 : Hid (∀ V, Below w7.heap.size w7 V → V.rangeAt w6.heap.size 0 (poC q) ∧ V.rangeAt w6.heap.size 1 (q.root.map by1)) := Lib.hid (fun V hV => ⟨po_row ((hV.block _ (Array.getElem?_eq_some_iff.1 hd).1).trans hd), po_root_at ((hV.block _ (Array.getElem?_eq_some_iff.1 hd).1).trans hd)⟩); replace h8 := up h8 hB9; clear hd hz hB9)
  go_ret
  exact ⟨rfl, hB0.out.trans (HB.mono hB0.out.size)⟩

set_option maxRecDepth 100000 in
set_option maxHeartbeats 16000000 in
theorem ofc_tt (x : Int) (a b : Cal) (n m cp dp : Nat) (A B : Option Addr) (w : World) (h0 : ¬ x < 1) (h1 : ¬ 1073741789 ≤ x) (h2 : smB n = true) (h3 : smB m = true) (h : a.no = b.no) (hn : a.fx.length = n) (hm : b.fx.length = m) (hcp : n ≤ cp) (hdp : m ≤ dp) (hA : FxAt w A a.fx) (hB : FxAt w B b.fx) (hI : ∀ f ∈ a.fx, FxI f) (hJ : ∀ f ∈ b.fx, FxI f) (hi : I64 a.no) (hj : I64 b.no) (hE : CalOk a) (hF : CalOk b) (hc : decide (calD a = calD b) = true) (hs : decide (a.fx = b.fx) = true) (hL : Laid w) :
    Calls Tryd.prog 12 #[.int .i64 x, .agg #[.int .i64 a.no, .slice A n cp], .agg #[.int .i64 b.no, .slice B m dp]] w fun e w' => e = .returned (.bool true) ∧ Below w.heap.size w w' := by
  have hB0 : Below w.heap.size w ((w.alloc (.cells #[.int .i64 a.no, .slice A n cp] 45)).alloc (.cells #[.int .i64 b.no, .slice B m dp] 45)) := ((Below.refl _ _).alloc (Nat.le_refl _) _).alloc (by simp) _
  have hL0 := hL.below hB0
  have hc0 := heap_alloc2_old w (.cells #[.int .i64 a.no, .slice A n cp] 45) (.cells #[.int .i64 b.no, .slice B m dp] 45)
  have hp0 := heap_alloc2_new w (.cells #[.int .i64 a.no, .slice A n cp] 45) (.cells #[.int .i64 b.no, .slice B m dp] 45)
  have hlc := (Array.getElem?_eq_some_iff.1 hc0).1
  have hlp := (Array.getElem?_eq_some_iff.1 hp0).1
  obtain ⟨W0, hW0⟩ : ∃ W0, ((w.alloc (.cells #[.int .i64 a.no, .slice A n cp] 45)).alloc (.cells #[.int .i64 b.no, .slice B m dp] 45)) = W0 := ⟨_, rfl⟩
  rw [hW0] at hB0 hL0 hc0 hp0 hlc hlp
  have hC : Hid (∀ V, Below W0.heap.size W0 V → V.cell? ⟨w.heap.size, 0, none⟩ = some (.int .i64 a.no) ∧ V.cell? ⟨w.heap.size, 1, none⟩ = some (.slice A n cp) ∧ V.cell? ⟨w.heap.size + 1, 0, none⟩ = some (.int .i64 b.no) ∧ V.cell? ⟨w.heap.size + 1, 1, none⟩ = some (.slice B m dp)) := Lib.hid fun V hV =>
    ⟨by rw [cell_of_row _ _ _ _ _ _ ((hV.block _ hlc).trans hc0)]; rfl, by rw [cell_of_row _ _ _ _ _ _ ((hV.block _ hlc).trans hc0)]; rfl, by rw [cell_of_row _ _ _ _ _ _ ((hV.block _ hlp).trans hp0)]; rfl, by rw [cell_of_row _ _ _ _ _ _ ((hV.block _ hlp).trans hp0)]; rfl⟩
  have HB := Below.refl W0.heap.size W0
  have kS : Hid (Calls Tryd.prog 24 #[] W0 fun e w' => e = .returned (.bool true) ∧ Below W0.heap.size W0 w') := Lib.hid (osane_any W0 hL0)
  obtain ⟨sa, hsa⟩ : ∃ r, smB n = r := ⟨_, rfl⟩
  obtain ⟨sb, hsb⟩ : ∃ r, smB m = r := ⟨_, rfl⟩
  have kMa : Hid (∀ V, Calls Tryd.prog 25 #[.agg #[.int .i64 a.no, .slice A n cp]] V fun e w' => e = .returned (.bool sa) ∧ Below V.heap.size V w') := Lib.hid fun V => hsa ▸ small_any a.no n cp A V
  have kMb : Hid (∀ V, Calls Tryd.prog 25 #[.agg #[.int .i64 b.no, .slice B m dp]] V fun e w' => e = .returned (.bool sb) ∧ Below V.heap.size V w') := Lib.hid fun V => hsb ▸ small_any b.no m dp B V
  have d1 : decide (x < 1) = false := decide_eq_false (by omega)
  have d2 : decide (1073741789 ≤ x) = false := decide_eq_false (by omega)
  obtain rfl : sa = true := hsa.symm.trans h2
  obtain rfl : sb = true := hsb.symm.trans h3
  have d3 : (a.no != b.no) = false := by simp [h]
  have hx : AnIn x := ⟨by omega, by omega⟩
  have hA0 := hA.below hB0
  have hB1 := hB.below hB0
  have an : ∀ c : Cal, anE x c = calE c := fun c => if_pos hx
  obtain ⟨K, hK9⟩ : ∃ K, powC 4 x = K := ⟨_, rfl⟩
  obtain ⟨p, hp9⟩ : ∃ p, anP x a = p := ⟨_, rfl⟩
  obtain ⟨q, hq9⟩ : ∃ p, anP x b = p := ⟨_, rfl⟩
  have hpI : PoI p := hp9 ▸ anP_I x a
  have hqI : PoI q := hq9 ▸ anP_I x b
  have kK : Hid (∀ V, Calls Tryd.prog 36 #[.int .i64 x] V fun e w' => e = .returned (.int .i64 K) ∧ w' = V) := Lib.hid fun V => hK9 ▸ rkey_any x V
  have kA : Hid (∀ V, Below W0.heap.size W0 V → Calls Tryd.prog 26 #[.int .i64 x, .agg #[.int .i64 a.no, .slice A n cp]] V fun e w' => e = .returned (.tuple #[.agg (poA p), .int .i64 (calE a)]) ∧ Below V.heap.size V w') := Lib.hid fun V hV => by have := announce_any x a n cp A V hn hcp (hA0.below hV) hI (hL0.below hV); rw [hp9, an] at this; exact this
  have kB : Hid (∀ V, Below W0.heap.size W0 V → Calls Tryd.prog 26 #[.int .i64 x, .agg #[.int .i64 b.no, .slice B m dp]] V fun e w' => e = .returned (.tuple #[.agg (poA q), .int .i64 (calE b)]) ∧ Below V.heap.size V w') := Lib.hid fun V hV => by have := announce_any x b m dp B V hm hdp (hB1.below hV) hJ (hL0.below hV); rw [hq9, an] at this; exact this
  have ip := Lib.hid (po_info' hpI.root)
  have iq := Lib.hid (po_info' hqI.root)
  have jp := Lib.hid (po_info hpI.root)
  have jq := Lib.hid (po_info hqI.root)
  have sp : Hid (35 = (poA p).size) := Lib.hid (poA_size hpI.root).symm
  have sq : Hid (35 = (poA q).size) := Lib.hid (poA_size hqI.root).symm
  have op := Lib.hid (poA_one p)
  have oq := Lib.hid (poA_one q)
  have eE : calE a = 0 := if_pos hE
  rw [eE] at kA
  have eF : calE b = 0 := if_pos hF
  rw [eF] at kB
  have ep : p = poS x a.no (calD a) := by rw [← hp9]; exact if_pos ⟨hx, hE⟩
  have eq : q = poS x b.no (calD b) := by rw [← hq9]; exact if_pos ⟨hx, hF⟩
  have rp : p.root = calD a := by rw [ep]; rfl
  have rq : q.root = calD b := by rw [eq]; rfl
  have np : p.no = a.no := by rw [ep]; rfl
  have nq : q.no = b.no := by rw [eq]; rfl
  have ckp : ckP K p = true := by rw [ep, ← hK9]; exact ck_signed hx hE.1 hE.2.1
  have ckq : ckP K q = true := by rw [eq, ← hK9]; exact ck_signed hx hF.1 hF.2.1
  have rr : decide (p.root = q.root) = true := by rw [rp, rq]; exact hc
  have cv1 : cvP K p q = false := by
    unfold cvP
    rw [rr, ckp, ckq, np, nq, decide_eq_true h]
    rfl
  have cv2 : cvP K q p = false := by rw [cv_comm]; exact cv1
  have q0 : ∀ V, (Op.equalIn 10000 35 (.agg (p.root.map by1).toArray) (.agg (q.root.map by1).toArray)).run Tryd.prog V = .ok true V := fun V => rr ▸ eq_dg p.root q.root hpI.root hqI.root V
  have dp9 := Lib.hid (dg_info' p.root hpI.root)
  have dq9 := Lib.hid (dg_info' q.root hqI.root)
  have kCp : Hid (∀ V, Below W0.heap.size W0 V → Calls Tryd.prog 30 #[.int .i64 K, .agg (poC p).toArray] V fun e w' => e = .returned (.bool true) ∧ Below V.heap.size V w') := Lib.hid fun V hV => ckp ▸ ocheck_any K p hpI.root V (hL0.below hV)
  have kCq : Hid (∀ V, Below W0.heap.size W0 V → Calls Tryd.prog 30 #[.int .i64 K, .agg (poC q).toArray] V fun e w' => e = .returned (.bool true) ∧ Below V.heap.size V w') := Lib.hid fun V hV => ckq ▸ ocheck_any K q hqI.root V (hL0.below hV)
  have kV1 : Hid (∀ V, Below W0.heap.size W0 V → Calls Tryd.prog 32 #[.int .i64 K, .agg (poC p).toArray, .agg (poC q).toArray] V fun e w' => e = .returned (.bool false) ∧ Below V.heap.size V w') := Lib.hid fun V hV => cv1 ▸ oconvict_any K p q hpI.root hqI.root V (hL0.below hV)
  have kV2 : Hid (∀ V, Below W0.heap.size W0 V → Calls Tryd.prog 32 #[.int .i64 K, .agg (poC q).toArray, .agg (poC p).toArray] V fun e w' => e = .returned (.bool false) ∧ Below V.heap.size V w') := Lib.hid fun V hV => cv2 ▸ oconvict_any K q p hqI.root hpI.root V (hL0.below hV)
  have sh1 : shB p a = true := by
    unfold shB
    rw [eE, np, rp]
    simp
  have sh2 : shB q a = true := by
    unfold shB
    rw [eE, nq, rq, h]
    have e9 : decide (calD b = calD a) = true := by rw [← hc]; exact decide_eq_decide.2 ⟨Eq.symm, Eq.symm⟩
    rw [e9]
    simp
  have kH1 : Hid (∀ V, Below W0.heap.size W0 V → Calls Tryd.prog 28 #[.agg (poC p).toArray, .agg #[.int .i64 a.no, .slice A n cp]] V fun e w' => e = .returned (.tuple #[.bool true, .int .i64 0]) ∧ Below V.heap.size V w') := Lib.hid fun V hV => by have := oshows_any p hpI.root a n cp A V hn hcp (hA0.below hV) hI (hL0.below hV); rw [sh1, eE] at this; exact this
  have kH2 : Hid (∀ V, Below W0.heap.size W0 V → Calls Tryd.prog 28 #[.agg (poC q).toArray, .agg #[.int .i64 a.no, .slice A n cp]] V fun e w' => e = .returned (.tuple #[.bool true, .int .i64 0]) ∧ Below V.heap.size V w') := Lib.hid fun V hV => by have := oshows_any q hqI.root a n cp A V hn hcp (hA0.below hV) hI (hL0.below hV); rw [sh2, eE] at this; exact this
  have hps : ∀ y ∈ [p, q], y.root.length = 32 := fun y hy => by
    simp at hy
    rcases hy with rfl | rfl
    · exact hpI.root
    · exact hqI.root
  have kF : Hid (∀ (V : World) (g : Nat), Below W0.heap.size W0 V → PsAt V (some ⟨g, 0, none⟩) [p, q] → Calls Tryd.prog 34 #[.int .i64 K, .slice (some ⟨g, 0, none⟩) 2 2] V fun e w' => e = .returned (.tuple #[.int .i64 0, .int .i64 0, .bool false]) ∧ Below V.heap.size V w') := Lib.hid fun V g hV hP => by
    refine (ofind_any K [p, q] 2 _ 2 V rfl (by decide) (Nat.le_refl _) hP hps (hL0.below hV)).mono ?_
    rintro e w' ⟨⟨i, j, ok, rfl, hF⟩, hb⟩
    refine ⟨?_, hb⟩
    rcases hF with ⟨rfl, hij, x', y', hx', hy', hc', _⟩ | ⟨rfl, rfl, rfl, hl⟩
    · have hj2 := (List.getElem?_eq_some_iff.1 hy').1
      simp at hj2
      obtain rfl : i = 0 := by omega
      obtain rfl : j = 1 := by omega
      obtain rfl : p = x' := Option.some.inj hx'
      obtain rfl : q = y' := Option.some.inj hy'
      rw [cv1] at hc'
      cases hc'
    · rfl
  have bu := Lib.hid (builtSlice_po2 p q hpI.root hqI.root)
  have hps' := Lib.hid hps
  have h1100 := smB_le h2
  have hsm9 : decide (a.fx = b.fx) = true := hs
  have kM : Hid (∀ V, Below W0.heap.size W0 V → Calls Tryd.prog 37 #[.slice A n cp, .slice B m dp] V fun e w' => e = .returned (.bool true) ∧ Below V.heap.size V w') := Lib.hid fun V hV => hsm9 ▸ rsame_any a.fx b.fx n m cp dp A B V hn hm (hA0.below hV) (hB1.below hV) hI hJ (by omega)
  clear eE eF ep eq rp rq np nq ckp ckq rr cv1 cv2 sh1 sh2 hps hsm9 h1100 hE hF hc hs
  clear hc0 hp0 hlc hlp hL0 hL
  clear h hpI hqI hn hm hA hB hI hJ hA0 hB1 hp9 hq9 hK9 hx an h0 h1 h2 h3 hsa hsb hi hj
  replace hB0 := Lib.hid hB0
  go_enter Tryd.func12, Tryd.ntmps12
  go_wp2_with fail
  try rw [hW0]
  clear hW0
  refine kS.out.mono ?_
  rintro e w1 ⟨rfl, hb⟩
  replace HB := HB.trans (hb.mono HB.size)
  clear hb
  obtain ⟨c0, c1, c2, c3⟩ := hC.out _ HB
  go_wp2_with fail
  refine (kMa.out _).mono ?_
  rintro e w2 ⟨rfl, hb⟩
  replace HB := HB.trans (hb.mono HB.size)
  clear hb c0 c1 c2 c3
  obtain ⟨c0, c1, c2, c3⟩ := hC.out _ HB
  go_wp2_with fail
  refine (kMb.out _).mono ?_
  rintro e w3 ⟨rfl, hb⟩
  replace HB := HB.trans (hb.mono HB.size)
  clear hb c0 c1 c2 c3
  obtain ⟨c0, c1, c2, c3⟩ := hC.out _ HB
  go_wp2_with fail
  refine (kK.out _).mono ?_
  rintro e wk ⟨rfl, hwk⟩
  subst hwk
  go_wp2_with fail
  refine (kA.out _ HB).mono ?_
  rintro e w4 ⟨rfl, hb⟩
  replace HB := HB.trans (hb.mono HB.size)
  clear hb c0 c1 c2 c3
  go_wp2_with (refine wpList_new_row' (by rfl) 49 (.tmp 8) (.tmp 51) (by rfl) (by rfl) (poA p) w4.heap.size (by rfl) rfl (by rfl) 49 _ jp.out sp.out op.out ?_; intro w5 hd hz hB9; replace HB := HB.trans (hB9.mono HB.size); obtain ⟨c0, c1, c2, c3⟩ := hC.out _ HB; have h8 : Hid (∀ V, Below w5.heap.size w5 V → V.rangeAt w4.heap.size 0 (poC p) ∧ V.rangeAt w4.heap.size 1 (p.root.map by1)) := Lib.hid (fun V hV => ⟨po_row ((hV.block _ (Array.getElem?_eq_some_iff.1 hd).1).trans hd), po_root_at ((hV.block _ (Array.getElem?_eq_some_iff.1 hd).1).trans hd)⟩); clear hd hz hB9)
  refine (kB.out _ HB).mono ?_
  rintro e w6 ⟨rfl, hb⟩
  replace HB := HB.trans (hb.mono HB.size)
  replace h8 := up h8 hb
  clear hb c0 c1 c2 c3
  go_wp2_with (first
    | (refine wpList_new_row' (by rfl) 49 (.tmp 10) (.tmp 57) (by rfl) (by rfl) (poA q) w6.heap.size (by rfl) rfl (by rfl) 49 _ jq.out sq.out oq.out ?_; intro w7 hd hz hB9; replace HB := HB.trans (hB9.mono HB.size); obtain ⟨c0, c1, c2, c3⟩ := hC.out _ HB; have h10 : Hid (∀ V, Below w7.heap.size w7 V → V.rangeAt w6.heap.size 0 (poC q) ∧ V.rangeAt w6.heap.size 1 (q.root.map by1)) := Lib.hid (fun V hV => ⟨po_row ((hV.block _ (Array.getElem?_eq_some_iff.1 hd).1).trans hd), po_root_at ((hV.block _ (Array.getElem?_eq_some_iff.1 hd).1).trans hd)⟩); replace h8 := up h8 hB9; clear hd hz hB9)
    | (refine wpList_load_mid (by rfl) 49 (.tmp 8) (by rfl) w4.heap.size 0 (by rfl) (poC p) _ (h8.out _ (Below.refl _ _)).1 Tryd.underlying49 (by rfl) ip.out ?_)
    | (refine wpList_load_mid (by rfl) 49 (.tmp 10) (by rfl) w6.heap.size 0 (by rfl) (poC q) _ (h10.out _ (Below.refl _ _)).1 Tryd.underlying49 (by rfl) iq.out ?_)
    | (refine wpList_load_midG (by rfl) 49 (.tmp 8) (by rfl) w4.heap.size 0 (by rfl) (poC p) _ (h8.out _ (Below.refl _ _)).1 Tryd.underlying49 (by rfl) ip.out ?_)
    | (refine wpList_load_midG (by rfl) 49 (.tmp 10) (by rfl) w6.heap.size 0 (by rfl) (poC q) _ (h10.out _ (Below.refl _ _)).1 Tryd.underlying49 (by rfl) iq.out ?_))
  refine (kCp.out _ HB).mono ?_
  rintro e w8 ⟨rfl, hb⟩
  replace HB := HB.trans (hb.mono HB.size)
  replace h8 := up h8 hb
  replace h10 := up h10 hb
  clear hb c0 c1 c2 c3
  obtain ⟨c0, c1, c2, c3⟩ := hC.out _ HB
  go_wp2_with (first
    | (refine wpList_load_mid (by rfl) 49 (.tmp 8) (by rfl) w4.heap.size 0 (by rfl) (poC p) _ (h8.out _ (Below.refl _ _)).1 Tryd.underlying49 (by rfl) ip.out ?_)
    | (refine wpList_load_mid (by rfl) 49 (.tmp 10) (by rfl) w6.heap.size 0 (by rfl) (poC q) _ (h10.out _ (Below.refl _ _)).1 Tryd.underlying49 (by rfl) iq.out ?_)
    | (refine wpList_load_midG (by rfl) 49 (.tmp 8) (by rfl) w4.heap.size 0 (by rfl) (poC p) _ (h8.out _ (Below.refl _ _)).1 Tryd.underlying49 (by rfl) ip.out ?_)
    | (refine wpList_load_midG (by rfl) 49 (.tmp 10) (by rfl) w6.heap.size 0 (by rfl) (poC q) _ (h10.out _ (Below.refl _ _)).1 Tryd.underlying49 (by rfl) iq.out ?_))
  refine (kCq.out _ HB).mono ?_
  rintro e w9 ⟨rfl, hb⟩
  replace HB := HB.trans (hb.mono HB.size)
  replace h8 := up h8 hb
  replace h10 := up h10 hb
  clear hb c0 c1 c2 c3
  obtain ⟨c0, c1, c2, c3⟩ := hC.out _ HB
  go_wp2_with (first
    | (refine wpList_load_mid (by rfl) 49 (.tmp 8) (by rfl) w4.heap.size 0 (by rfl) (poC p) _ (h8.out _ (Below.refl _ _)).1 Tryd.underlying49 (by rfl) ip.out ?_)
    | (refine wpList_load_mid (by rfl) 49 (.tmp 10) (by rfl) w6.heap.size 0 (by rfl) (poC q) _ (h10.out _ (Below.refl _ _)).1 Tryd.underlying49 (by rfl) iq.out ?_)
    | (refine wpList_load_midG (by rfl) 49 (.tmp 8) (by rfl) w4.heap.size 0 (by rfl) (poC p) _ (h8.out _ (Below.refl _ _)).1 Tryd.underlying49 (by rfl) ip.out ?_)
    | (refine wpList_load_midG (by rfl) 49 (.tmp 10) (by rfl) w6.heap.size 0 (by rfl) (poC q) _ (h10.out _ (Below.refl _ _)).1 Tryd.underlying49 (by rfl) iq.out ?_)
    | (first | (refine wpList_load_mid (by rfl) 35 (.tmp 76) (by rfl) w4.heap.size 1 (by rfl) (p.root.map by1) _ (h8.out _ (Below.refl _ _)).2 Tryd.underlying35 (by rfl) dp9.out ?_) | (refine wpList_load_mid (by rfl) 35 (.tmp 75) (by rfl) w4.heap.size 1 (by rfl) (p.root.map by1) _ (h8.out _ (Below.refl _ _)).2 Tryd.underlying35 (by rfl) dp9.out ?_) | (refine wpList_load_mid (by rfl) 35 (.tmp 77) (by rfl) w6.heap.size 1 (by rfl) (q.root.map by1) _ (h10.out _ (Below.refl _ _)).2 Tryd.underlying35 (by rfl) dq9.out ?_)))
  have HX := (Below.refl w9.heap.size w9).drew
  refine wp_region_held_drew (S := fun w' => w'.cell? ⟨w.heap.size, 0, none⟩ = some (.int .i64 a.no) ∧ w'.cell? ⟨w.heap.size, 1, none⟩ = some (.slice A n cp) ∧ w'.cell? ⟨w.heap.size + 1, 0, none⟩ = some (.int .i64 b.no) ∧ w'.cell? ⟨w.heap.size + 1, 1, none⟩ = some (.slice B m dp)) (by kernel_rfl) (by exact hC.out _ (HB.trans (HX.mono HB.size))) (fun hHeld => ?_)
  refine wpAnyH_take (i := 0) (oi := { dst := some 80, op := Op.move (Operand.tmp 12), type := 4, pos := "law.go:152", after := #[], guard := none }) (v := ?_) rfl (by kernel_rfl) (by kernel_rfl) (by kernel_rfl) (fun _ _ _ h => h) (Or.inl ⟨by rfl, ?hy0⟩) hHeld ?rest0
  case hy0 =>
    intro w hSw
    try dsimp only at hSw
    go_simp
    try with_reducible rfl
  try simp only [Act.put, List.setIfInBounds_toArray, List.set_cons_zero, List.set_cons_succ]
  refine wpAnyH_take (i := 1) (oi := { dst := some 81, op := Op.move (Operand.tmp 80), type := 4, pos := "law.go:152", after := #[{ on := 0, ground := Ground.data }], guard := none }) (v := ?_) rfl (by kernel_rfl) (by kernel_rfl) (by kernel_rfl) (fun _ _ _ h => h) (Or.inl ⟨by rfl, ?hy1⟩) hHeld ?rest1
  case hy1 =>
    intro w hSw
    try dsimp only at hSw
    go_simp
    try with_reducible rfl
  try simp only [Act.put, List.setIfInBounds_toArray, List.set_cons_zero, List.set_cons_succ]
  refine wpAnyH_take (i := 2) (oi := { dst := some 82, op := Op.fieldAddr 45 (Operand.tmp 4) 1, type := 0, pos := "law.go:152", after := #[{ on := 1, ground := Ground.guard }], guard := some (1, true) }) (v := ?_) rfl (by kernel_rfl) (by kernel_rfl) (by kernel_rfl) (fun _ _ _ h => h) (Or.inl ⟨by rfl, ?hy2⟩) hHeld ?rest2
  case hy2 =>
    intro w hSw
    try dsimp only at hSw
    go_simp
    try with_reducible rfl
  try simp only [Act.put, List.setIfInBounds_toArray, List.set_cons_zero, List.set_cons_succ]
  refine wpAnyH_take (i := 3) (oi := { dst := some 83, op := Op.load 43 (Operand.tmp 82), type := 43, pos := "law.go:152", after := #[{ on := 2, ground := Ground.data }, { on := 1, ground := Ground.guard }], guard := some (1, true) }) (v := ?_) rfl (by kernel_rfl) (by kernel_rfl) (by kernel_rfl) (fun _ _ _ h => h) (Or.inl ⟨by rfl, ?hy3⟩) hHeld ?rest3
  case hy3 =>
    intro w hSw
    try dsimp only at hSw
    go_simp
    try with_reducible rfl
  try simp only [Act.put, List.setIfInBounds_toArray, List.set_cons_zero, List.set_cons_succ]
  refine wpAnyH_take (i := 4) (oi := { dst := some 84, op := Op.fieldAddr 45 (Operand.tmp 5) 1, type := 0, pos := "law.go:152", after := #[{ on := 1, ground := Ground.guard }], guard := some (1, true) }) (v := ?_) rfl (by kernel_rfl) (by kernel_rfl) (by kernel_rfl) (fun _ _ _ h => h) (Or.inl ⟨by rfl, ?hy4⟩) hHeld ?rest4
  case hy4 =>
    intro w hSw
    try dsimp only at hSw
    go_simp
    try with_reducible rfl
  try simp only [Act.put, List.setIfInBounds_toArray, List.set_cons_zero, List.set_cons_succ]
  refine wpAnyH_take (i := 5) (oi := { dst := some 85, op := Op.load 43 (Operand.tmp 84), type := 43, pos := "law.go:152", after := #[{ on := 4, ground := Ground.data }, { on := 1, ground := Ground.guard }], guard := some (1, true) }) (v := ?_) rfl (by kernel_rfl) (by kernel_rfl) (by kernel_rfl) (fun _ _ _ h => h) (Or.inl ⟨by rfl, ?hy5⟩) hHeld ?rest5
  case hy5 =>
    intro w hSw
    try dsimp only at hSw
    go_simp
    try with_reducible rfl
  try simp only [Act.put, List.setIfInBounds_toArray, List.set_cons_zero, List.set_cons_succ]
  refine wpAnyH_ready (rs := [6]) (by kernel_rfl) (by simp) (AllReadyH.cons (o := { dst := some 86, op := Op.call { callee := Callee.value (Operand.func 37), args := #[Operand.tmp 83, Operand.tmp 85], argTypes := #[43, 43] }, type := 4, pos := "law.go:152", after := #[{ on := 3, ground := Ground.data }, { on := 5, ground := Ground.data }, { on := 1, ground := Ground.chain }, { on := 1, ground := Ground.guard }], guard := some (1, true) }) rfl (fun K hK => ?_) AllReadyH.nil)
  go_simp
  go_at_call 37
  refine (kM.out _ (HB.trans (HX.mono HB.size))).mono ?_
  rintro e w10 ⟨rfl, hb⟩
  replace HX := HX.trans (hb.mono HX.size)
  clear hb
  refine hK.out _ _ (by exact hC.out _ (HB.trans (HX.mono HB.size))) (fun hHeld' => ?_)
  clear hK K hHeld
  have hHeld := hHeld'
  clear hHeld'
  try simp only [Act.put, List.setIfInBounds_toArray, List.set_cons_zero, List.set_cons_succ]
  refine wpAnyH_take (i := 7) (oi := { dst := some 87, op := Op.unOp UnOp.not 4 (Operand.tmp 86), type := 4, pos := "law.go:152", after := #[{ on := 6, ground := Ground.data }, { on := 1, ground := Ground.guard }], guard := some (1, true) }) (v := ?_) rfl (by kernel_rfl) (by kernel_rfl) (by kernel_rfl) (fun _ _ _ h => h) (Or.inl ⟨by rfl, ?hy7⟩) hHeld ?rest7
  case hy7 =>
    intro w hSw
    try dsimp only at hSw
    go_simp
    try with_reducible rfl
  try simp only [Act.put, List.setIfInBounds_toArray, List.set_cons_zero, List.set_cons_succ]
  refine wpAnyH_take (i := 8) (oi := { dst := some 88, op := Op.pick (Operand.tmp 81) (Operand.tmp 87) (Operand.const (Value.bool false)), type := 4, pos := "law.go:152", after := #[{ on := 1, ground := Ground.data }, { on := 7, ground := Ground.data }], guard := none }) (v := ?_) rfl (by kernel_rfl) (by kernel_rfl) (by kernel_rfl) (fun _ _ _ h => h) (Or.inl ⟨by rfl, ?hy8⟩) hHeld ?rest8
  case hy8 =>
    intro w hSw
    try dsimp only at hSw
    go_simp
    try with_reducible rfl
  try simp only [Act.put, List.setIfInBounds_toArray, List.set_cons_zero, List.set_cons_succ]
  refine wpAnyH_take (i := 9) (oi := { dst := some 89, op := Op.move (Operand.tmp 88), type := 4, pos := "law.go:152", after := #[{ on := 8, ground := Ground.data }, { on := 6, ground := Ground.chain }], guard := none }) (v := ?_) rfl (by kernel_rfl) (by kernel_rfl) (by kernel_rfl) (fun _ _ _ h => h) (Or.inl ⟨by rfl, ?hy9⟩) hHeld ?rest9
  case hy9 =>
    intro w hSw
    try dsimp only at hSw
    go_simp
    try with_reducible rfl
  try simp only [Act.put, List.setIfInBounds_toArray, List.set_cons_zero, List.set_cons_succ]
  refine wpAnyH_take (i := 10) (oi := { dst := some 90, op := Op.load 45 (Operand.tmp 4), type := 45, pos := "law.go:152", after := #[{ on := 9, ground := Ground.guard }], guard := some (9, true) }) (v := undef) rfl (by kernel_rfl) (by kernel_rfl) (by kernel_rfl) (fun _ _ _ h => h) (Or.inr ⟨by rfl, rfl⟩) hHeld ?_
  try simp only [Act.put, List.setIfInBounds_toArray, List.set_cons_zero, List.set_cons_succ]
  refine wpAnyH_take (i := 11) (oi := { dst := some 91, op := Op.call { callee := Callee.value (Operand.func 39), args := #[Operand.tmp 90], argTypes := #[45] }, type := 23, pos := "law.go:152", after := #[{ on := 10, ground := Ground.data }, { on := 9, ground := Ground.chain }, { on := 9, ground := Ground.guard }], guard := some (9, true) }) (v := undef) rfl (by kernel_rfl) (by kernel_rfl) (by kernel_rfl) (fun _ _ _ h => h) (Or.inr ⟨by rfl, rfl⟩) hHeld ?_
  try simp only [Act.put, List.setIfInBounds_toArray, List.set_cons_zero, List.set_cons_succ]
  refine wpAnyH_take (i := 12) (oi := { dst := some 92, op := Op.load 45 (Operand.tmp 5), type := 45, pos := "law.go:152", after := #[{ on := 9, ground := Ground.guard }], guard := some (9, true) }) (v := undef) rfl (by kernel_rfl) (by kernel_rfl) (by kernel_rfl) (fun _ _ _ h => h) (Or.inr ⟨by rfl, rfl⟩) hHeld ?_
  try simp only [Act.put, List.setIfInBounds_toArray, List.set_cons_zero, List.set_cons_succ]
  refine wpAnyH_take (i := 13) (oi := { dst := some 93, op := Op.call { callee := Callee.value (Operand.func 39), args := #[Operand.tmp 92], argTypes := #[45] }, type := 23, pos := "law.go:152", after := #[{ on := 12, ground := Ground.data }, { on := 11, ground := Ground.chain }, { on := 9, ground := Ground.guard }], guard := some (9, true) }) (v := undef) rfl (by kernel_rfl) (by kernel_rfl) (by kernel_rfl) (fun _ _ _ h => h) (Or.inr ⟨by rfl, rfl⟩) hHeld ?_
  try simp only [Act.put, List.setIfInBounds_toArray, List.set_cons_zero, List.set_cons_succ]
  refine wpAnyH_take (i := 14) (oi := { dst := some 94, op := Op.call { callee := Callee.value (Operand.func 38), args := #[Operand.tmp 91, Operand.tmp 93], argTypes := #[23, 23] }, type := 4, pos := "law.go:152", after := #[{ on := 11, ground := Ground.data }, { on := 13, ground := Ground.data }, { on := 13, ground := Ground.chain }, { on := 9, ground := Ground.guard }], guard := some (9, true) }) (v := undef) rfl (by kernel_rfl) (by kernel_rfl) (by kernel_rfl) (fun _ _ _ h => h) (Or.inr ⟨by rfl, rfl⟩) hHeld ?_
  try simp only [Act.put, List.setIfInBounds_toArray, List.set_cons_zero, List.set_cons_succ]
  refine wpAnyH_take (i := 15) (oi := { dst := some 95, op := Op.pick (Operand.tmp 89) (Operand.tmp 94) (Operand.const (Value.bool false)), type := 4, pos := "law.go:152", after := #[{ on := 9, ground := Ground.data }, { on := 14, ground := Ground.data }], guard := none }) (v := ?_) rfl (by kernel_rfl) (by kernel_rfl) (by kernel_rfl) (fun _ _ _ h => h) (Or.inl ⟨by rfl, ?hy15⟩) hHeld ?rest15
  case hy15 =>
    intro w hSw
    try dsimp only at hSw
    go_simp
    try with_reducible rfl
  try simp only [Act.put, List.setIfInBounds_toArray, List.set_cons_zero, List.set_cons_succ]
  refine wpAnyH_done (by kernel_rfl) ?_ _
  replace HB := HB.trans (HX.mono HB.size)
  replace h8 := up h8 HX
  replace h10 := up h10 HX
  clear HX c0 c1 c2 c3
  obtain ⟨c0, c1, c2, c3⟩ := hC.out _ HB
  go_wp2_with fail
  refine (kM.out _ HB).mono ?_
  rintro e w14 ⟨rfl, hb⟩
  replace HB := HB.trans (hb.mono HB.size)
  replace h8 := up h8 hb
  replace h10 := up h10 hb
  clear hb c0 c1 c2 c3
  obtain ⟨c0, c1, c2, c3⟩ := hC.out _ HB
  go_wp2_with (first
    | (refine wpList_load_mid (by rfl) 49 (.tmp 8) (by rfl) w4.heap.size 0 (by rfl) (poC p) _ (h8.out _ (Below.refl _ _)).1 Tryd.underlying49 (by rfl) ip.out ?_)
    | (refine wpList_load_mid (by rfl) 49 (.tmp 10) (by rfl) w6.heap.size 0 (by rfl) (poC q) _ (h10.out _ (Below.refl _ _)).1 Tryd.underlying49 (by rfl) iq.out ?_)
    | (refine wpList_load_midG (by rfl) 49 (.tmp 8) (by rfl) w4.heap.size 0 (by rfl) (poC p) _ (h8.out _ (Below.refl _ _)).1 Tryd.underlying49 (by rfl) ip.out ?_)
    | (refine wpList_load_midG (by rfl) 49 (.tmp 10) (by rfl) w6.heap.size 0 (by rfl) (poC q) _ (h10.out _ (Below.refl _ _)).1 Tryd.underlying49 (by rfl) iq.out ?_)
    | (refine wpList_built (by rfl) 53 49 2 #[(0, .tmp 107), (1, .tmp 108)] (by rfl) Tryd.underlying53 (poC p ++ poC q).toArray (by simp only [List.map_toArray, List.map_cons, List.map_nil]; exact bu.out) ?_))
  have hgs := psAt_row hps'.out (heap_alloc_new w14 (.cells (poC p ++ poC q).toArray 49)) (by simp [psC])
  replace HB := HB.alloc HB.size (.cells (poC p ++ poC q).toArray 49)
  replace h8 := up h8 (blow1 w14 (.cells (poC p ++ poC q).toArray 49))
  replace h10 := up h10 (blow1 w14 (.cells (poC p ++ poC q).toArray 49))
  refine (kF.out _ _ HB hgs).mono ?_
  rintro e w15 ⟨rfl, hb⟩
  replace HB := HB.trans (hb.mono HB.size)
  replace h8 := up h8 hb
  replace h10 := up h10 hb
  clear hb hgs c0 c1 c2 c3
  obtain ⟨c0, c1, c2, c3⟩ := hC.out _ HB
  go_wp2_with (first
    | (refine wpList_load_mid (by rfl) 49 (.tmp 8) (by rfl) w4.heap.size 0 (by rfl) (poC p) _ (h8.out _ (Below.refl _ _)).1 Tryd.underlying49 (by rfl) ip.out ?_)
    | (refine wpList_load_mid (by rfl) 49 (.tmp 10) (by rfl) w6.heap.size 0 (by rfl) (poC q) _ (h10.out _ (Below.refl _ _)).1 Tryd.underlying49 (by rfl) iq.out ?_)
    | (refine wpList_load_midG (by rfl) 49 (.tmp 8) (by rfl) w4.heap.size 0 (by rfl) (poC p) _ (h8.out _ (Below.refl _ _)).1 Tryd.underlying49 (by rfl) ip.out ?_)
    | (refine wpList_load_midG (by rfl) 49 (.tmp 10) (by rfl) w6.heap.size 0 (by rfl) (poC q) _ (h10.out _ (Below.refl _ _)).1 Tryd.underlying49 (by rfl) iq.out ?_))
  refine (kH2.out _ HB).mono ?_
  rintro e w16 ⟨rfl, hb⟩
  replace HB := HB.trans (hb.mono HB.size)
  replace h8 := up h8 hb
  replace h10 := up h10 hb
  clear hb c0 c1 c2 c3
  obtain ⟨c0, c1, c2, c3⟩ := hC.out _ HB
  go_wp2_with (first
    | (refine wpList_load_mid (by rfl) 49 (.tmp 8) (by rfl) w4.heap.size 0 (by rfl) (poC p) _ (h8.out _ (Below.refl _ _)).1 Tryd.underlying49 (by rfl) ip.out ?_)
    | (refine wpList_load_mid (by rfl) 49 (.tmp 10) (by rfl) w6.heap.size 0 (by rfl) (poC q) _ (h10.out _ (Below.refl _ _)).1 Tryd.underlying49 (by rfl) iq.out ?_)
    | (refine wpList_load_midG (by rfl) 49 (.tmp 8) (by rfl) w4.heap.size 0 (by rfl) (poC p) _ (h8.out _ (Below.refl _ _)).1 Tryd.underlying49 (by rfl) ip.out ?_)
    | (refine wpList_load_midG (by rfl) 49 (.tmp 10) (by rfl) w6.heap.size 0 (by rfl) (poC q) _ (h10.out _ (Below.refl _ _)).1 Tryd.underlying49 (by rfl) iq.out ?_))
  refine (kH1.out _ HB).mono ?_
  rintro e w17 ⟨rfl, hb⟩
  replace HB := HB.trans (hb.mono HB.size)
  replace h8 := up h8 hb
  replace h10 := up h10 hb
  clear hb c0 c1 c2 c3
  obtain ⟨c0, c1, c2, c3⟩ := hC.out _ HB
  go_wp2_with (first
    | (refine wpList_load_mid (by rfl) 49 (.tmp 8) (by rfl) w4.heap.size 0 (by rfl) (poC p) _ (h8.out _ (Below.refl _ _)).1 Tryd.underlying49 (by rfl) ip.out ?_)
    | (refine wpList_load_mid (by rfl) 49 (.tmp 10) (by rfl) w6.heap.size 0 (by rfl) (poC q) _ (h10.out _ (Below.refl _ _)).1 Tryd.underlying49 (by rfl) iq.out ?_)
    | (refine wpList_load_midG (by rfl) 49 (.tmp 8) (by rfl) w4.heap.size 0 (by rfl) (poC p) _ (h8.out _ (Below.refl _ _)).1 Tryd.underlying49 (by rfl) ip.out ?_)
    | (refine wpList_load_midG (by rfl) 49 (.tmp 10) (by rfl) w6.heap.size 0 (by rfl) (poC q) _ (h10.out _ (Below.refl _ _)).1 Tryd.underlying49 (by rfl) iq.out ?_))
  refine (kV1.out _ HB).mono ?_
  rintro e w18 ⟨rfl, hb⟩
  replace HB := HB.trans (hb.mono HB.size)
  replace h8 := up h8 hb
  replace h10 := up h10 hb
  clear hb c0 c1 c2 c3
  obtain ⟨c0, c1, c2, c3⟩ := hC.out _ HB
  go_wp2_with (first
    | (refine wpList_load_mid (by rfl) 49 (.tmp 8) (by rfl) w4.heap.size 0 (by rfl) (poC p) _ (h8.out _ (Below.refl _ _)).1 Tryd.underlying49 (by rfl) ip.out ?_)
    | (refine wpList_load_mid (by rfl) 49 (.tmp 10) (by rfl) w6.heap.size 0 (by rfl) (poC q) _ (h10.out _ (Below.refl _ _)).1 Tryd.underlying49 (by rfl) iq.out ?_)
    | (refine wpList_load_midG (by rfl) 49 (.tmp 8) (by rfl) w4.heap.size 0 (by rfl) (poC p) _ (h8.out _ (Below.refl _ _)).1 Tryd.underlying49 (by rfl) ip.out ?_)
    | (refine wpList_load_midG (by rfl) 49 (.tmp 10) (by rfl) w6.heap.size 0 (by rfl) (poC q) _ (h10.out _ (Below.refl _ _)).1 Tryd.underlying49 (by rfl) iq.out ?_))
  refine (kV2.out _ HB).mono ?_
  rintro e w19 ⟨rfl, hb⟩
  replace HB := HB.trans (hb.mono HB.size)
  replace h8 := up h8 hb
  replace h10 := up h10 hb
  clear hb c0 c1 c2 c3
  obtain ⟨c0, c1, c2, c3⟩ := hC.out _ HB
  go_wp2_with (first
    | (refine wpList_load_mid (by rfl) 49 (.tmp 8) (by rfl) w4.heap.size 0 (by rfl) (poC p) _ (h8.out _ (Below.refl _ _)).1 Tryd.underlying49 (by rfl) ip.out ?_)
    | (refine wpList_load_mid (by rfl) 49 (.tmp 10) (by rfl) w6.heap.size 0 (by rfl) (poC q) _ (h10.out _ (Below.refl _ _)).1 Tryd.underlying49 (by rfl) iq.out ?_)
    | (refine wpList_load_midG (by rfl) 49 (.tmp 8) (by rfl) w4.heap.size 0 (by rfl) (poC p) _ (h8.out _ (Below.refl _ _)).1 Tryd.underlying49 (by rfl) ip.out ?_)
    | (refine wpList_load_midG (by rfl) 49 (.tmp 10) (by rfl) w6.heap.size 0 (by rfl) (poC q) _ (h10.out _ (Below.refl _ _)).1 Tryd.underlying49 (by rfl) iq.out ?_))
  go_ret
  exact ⟨rfl, hB0.out.trans (HB.mono hB0.out.size)⟩

set_option maxRecDepth 100000 in
set_option maxHeartbeats 16000000 in
theorem ofc_tf (x : Int) (a b : Cal) (n m cp dp : Nat) (A B : Option Addr) (w : World) (h0 : ¬ x < 1) (h1 : ¬ 1073741789 ≤ x) (h2 : smB n = true) (h3 : smB m = true) (h : a.no = b.no) (hn : a.fx.length = n) (hm : b.fx.length = m) (hcp : n ≤ cp) (hdp : m ≤ dp) (hA : FxAt w A a.fx) (hB : FxAt w B b.fx) (hI : ∀ f ∈ a.fx, FxI f) (hJ : ∀ f ∈ b.fx, FxI f) (hi : I64 a.no) (hj : I64 b.no) (hE : CalOk a) (hF : CalOk b) (hc : decide (calD a = calD b) = true) (hs : decide (a.fx = b.fx) = false) (hL : Laid w) :
    Calls Tryd.prog 12 #[.int .i64 x, .agg #[.int .i64 a.no, .slice A n cp], .agg #[.int .i64 b.no, .slice B m dp]] w fun e w' => e = .returned (.bool true) ∧ Below w.heap.size w w' := by
  have hB0 : Below w.heap.size w ((w.alloc (.cells #[.int .i64 a.no, .slice A n cp] 45)).alloc (.cells #[.int .i64 b.no, .slice B m dp] 45)) := ((Below.refl _ _).alloc (Nat.le_refl _) _).alloc (by simp) _
  have hL0 := hL.below hB0
  have hc0 := heap_alloc2_old w (.cells #[.int .i64 a.no, .slice A n cp] 45) (.cells #[.int .i64 b.no, .slice B m dp] 45)
  have hp0 := heap_alloc2_new w (.cells #[.int .i64 a.no, .slice A n cp] 45) (.cells #[.int .i64 b.no, .slice B m dp] 45)
  have hlc := (Array.getElem?_eq_some_iff.1 hc0).1
  have hlp := (Array.getElem?_eq_some_iff.1 hp0).1
  obtain ⟨W0, hW0⟩ : ∃ W0, ((w.alloc (.cells #[.int .i64 a.no, .slice A n cp] 45)).alloc (.cells #[.int .i64 b.no, .slice B m dp] 45)) = W0 := ⟨_, rfl⟩
  rw [hW0] at hB0 hL0 hc0 hp0 hlc hlp
  have hC : Hid (∀ V, Below W0.heap.size W0 V → V.cell? ⟨w.heap.size, 0, none⟩ = some (.int .i64 a.no) ∧ V.cell? ⟨w.heap.size, 1, none⟩ = some (.slice A n cp) ∧ V.cell? ⟨w.heap.size + 1, 0, none⟩ = some (.int .i64 b.no) ∧ V.cell? ⟨w.heap.size + 1, 1, none⟩ = some (.slice B m dp)) := Lib.hid fun V hV =>
    ⟨by rw [cell_of_row _ _ _ _ _ _ ((hV.block _ hlc).trans hc0)]; rfl, by rw [cell_of_row _ _ _ _ _ _ ((hV.block _ hlc).trans hc0)]; rfl, by rw [cell_of_row _ _ _ _ _ _ ((hV.block _ hlp).trans hp0)]; rfl, by rw [cell_of_row _ _ _ _ _ _ ((hV.block _ hlp).trans hp0)]; rfl⟩
  have HB := Below.refl W0.heap.size W0
  have kS : Hid (Calls Tryd.prog 24 #[] W0 fun e w' => e = .returned (.bool true) ∧ Below W0.heap.size W0 w') := Lib.hid (osane_any W0 hL0)
  obtain ⟨sa, hsa⟩ : ∃ r, smB n = r := ⟨_, rfl⟩
  obtain ⟨sb, hsb⟩ : ∃ r, smB m = r := ⟨_, rfl⟩
  have kMa : Hid (∀ V, Calls Tryd.prog 25 #[.agg #[.int .i64 a.no, .slice A n cp]] V fun e w' => e = .returned (.bool sa) ∧ Below V.heap.size V w') := Lib.hid fun V => hsa ▸ small_any a.no n cp A V
  have kMb : Hid (∀ V, Calls Tryd.prog 25 #[.agg #[.int .i64 b.no, .slice B m dp]] V fun e w' => e = .returned (.bool sb) ∧ Below V.heap.size V w') := Lib.hid fun V => hsb ▸ small_any b.no m dp B V
  have d1 : decide (x < 1) = false := decide_eq_false (by omega)
  have d2 : decide (1073741789 ≤ x) = false := decide_eq_false (by omega)
  obtain rfl : sa = true := hsa.symm.trans h2
  obtain rfl : sb = true := hsb.symm.trans h3
  have d3 : (a.no != b.no) = false := by simp [h]
  have hx : AnIn x := ⟨by omega, by omega⟩
  have hA0 := hA.below hB0
  have hB1 := hB.below hB0
  have an : ∀ c : Cal, anE x c = calE c := fun c => if_pos hx
  obtain ⟨K, hK9⟩ : ∃ K, powC 4 x = K := ⟨_, rfl⟩
  obtain ⟨p, hp9⟩ : ∃ p, anP x a = p := ⟨_, rfl⟩
  obtain ⟨q, hq9⟩ : ∃ p, anP x b = p := ⟨_, rfl⟩
  have hpI : PoI p := hp9 ▸ anP_I x a
  have hqI : PoI q := hq9 ▸ anP_I x b
  have kK : Hid (∀ V, Calls Tryd.prog 36 #[.int .i64 x] V fun e w' => e = .returned (.int .i64 K) ∧ w' = V) := Lib.hid fun V => hK9 ▸ rkey_any x V
  have kA : Hid (∀ V, Below W0.heap.size W0 V → Calls Tryd.prog 26 #[.int .i64 x, .agg #[.int .i64 a.no, .slice A n cp]] V fun e w' => e = .returned (.tuple #[.agg (poA p), .int .i64 (calE a)]) ∧ Below V.heap.size V w') := Lib.hid fun V hV => by have := announce_any x a n cp A V hn hcp (hA0.below hV) hI (hL0.below hV); rw [hp9, an] at this; exact this
  have kB : Hid (∀ V, Below W0.heap.size W0 V → Calls Tryd.prog 26 #[.int .i64 x, .agg #[.int .i64 b.no, .slice B m dp]] V fun e w' => e = .returned (.tuple #[.agg (poA q), .int .i64 (calE b)]) ∧ Below V.heap.size V w') := Lib.hid fun V hV => by have := announce_any x b m dp B V hm hdp (hB1.below hV) hJ (hL0.below hV); rw [hq9, an] at this; exact this
  have ip := Lib.hid (po_info' hpI.root)
  have iq := Lib.hid (po_info' hqI.root)
  have jp := Lib.hid (po_info hpI.root)
  have jq := Lib.hid (po_info hqI.root)
  have sp : Hid (35 = (poA p).size) := Lib.hid (poA_size hpI.root).symm
  have sq : Hid (35 = (poA q).size) := Lib.hid (poA_size hqI.root).symm
  have op := Lib.hid (poA_one p)
  have oq := Lib.hid (poA_one q)
  have eE : calE a = 0 := if_pos hE
  rw [eE] at kA
  have eF : calE b = 0 := if_pos hF
  rw [eF] at kB
  have ep : p = poS x a.no (calD a) := by rw [← hp9]; exact if_pos ⟨hx, hE⟩
  have eq : q = poS x b.no (calD b) := by rw [← hq9]; exact if_pos ⟨hx, hF⟩
  have rp : p.root = calD a := by rw [ep]; rfl
  have rq : q.root = calD b := by rw [eq]; rfl
  have np : p.no = a.no := by rw [ep]; rfl
  have nq : q.no = b.no := by rw [eq]; rfl
  have ckp : ckP K p = true := by rw [ep, ← hK9]; exact ck_signed hx hE.1 hE.2.1
  have ckq : ckP K q = true := by rw [eq, ← hK9]; exact ck_signed hx hF.1 hF.2.1
  have rr : decide (p.root = q.root) = true := by rw [rp, rq]; exact hc
  have cv1 : cvP K p q = false := by
    unfold cvP
    rw [rr, ckp, ckq, np, nq, decide_eq_true h]
    rfl
  have cv2 : cvP K q p = false := by rw [cv_comm]; exact cv1
  have q0 : ∀ V, (Op.equalIn 10000 35 (.agg (p.root.map by1).toArray) (.agg (q.root.map by1).toArray)).run Tryd.prog V = .ok true V := fun V => rr ▸ eq_dg p.root q.root hpI.root hqI.root V
  have dp9 := Lib.hid (dg_info' p.root hpI.root)
  have dq9 := Lib.hid (dg_info' q.root hqI.root)
  have kCp : Hid (∀ V, Below W0.heap.size W0 V → Calls Tryd.prog 30 #[.int .i64 K, .agg (poC p).toArray] V fun e w' => e = .returned (.bool true) ∧ Below V.heap.size V w') := Lib.hid fun V hV => ckp ▸ ocheck_any K p hpI.root V (hL0.below hV)
  have kCq : Hid (∀ V, Below W0.heap.size W0 V → Calls Tryd.prog 30 #[.int .i64 K, .agg (poC q).toArray] V fun e w' => e = .returned (.bool true) ∧ Below V.heap.size V w') := Lib.hid fun V hV => ckq ▸ ocheck_any K q hqI.root V (hL0.below hV)
  have kV1 : Hid (∀ V, Below W0.heap.size W0 V → Calls Tryd.prog 32 #[.int .i64 K, .agg (poC p).toArray, .agg (poC q).toArray] V fun e w' => e = .returned (.bool false) ∧ Below V.heap.size V w') := Lib.hid fun V hV => cv1 ▸ oconvict_any K p q hpI.root hqI.root V (hL0.below hV)
  have kV2 : Hid (∀ V, Below W0.heap.size W0 V → Calls Tryd.prog 32 #[.int .i64 K, .agg (poC q).toArray, .agg (poC p).toArray] V fun e w' => e = .returned (.bool false) ∧ Below V.heap.size V w') := Lib.hid fun V hV => cv2 ▸ oconvict_any K q p hqI.root hpI.root V (hL0.below hV)
  have sh1 : shB p a = true := by
    unfold shB
    rw [eE, np, rp]
    simp
  have sh2 : shB q a = true := by
    unfold shB
    rw [eE, nq, rq, h]
    have e9 : decide (calD b = calD a) = true := by rw [← hc]; exact decide_eq_decide.2 ⟨Eq.symm, Eq.symm⟩
    rw [e9]
    simp
  have kH1 : Hid (∀ V, Below W0.heap.size W0 V → Calls Tryd.prog 28 #[.agg (poC p).toArray, .agg #[.int .i64 a.no, .slice A n cp]] V fun e w' => e = .returned (.tuple #[.bool true, .int .i64 0]) ∧ Below V.heap.size V w') := Lib.hid fun V hV => by have := oshows_any p hpI.root a n cp A V hn hcp (hA0.below hV) hI (hL0.below hV); rw [sh1, eE] at this; exact this
  have kH2 : Hid (∀ V, Below W0.heap.size W0 V → Calls Tryd.prog 28 #[.agg (poC q).toArray, .agg #[.int .i64 a.no, .slice A n cp]] V fun e w' => e = .returned (.tuple #[.bool true, .int .i64 0]) ∧ Below V.heap.size V w') := Lib.hid fun V hV => by have := oshows_any q hqI.root a n cp A V hn hcp (hA0.below hV) hI (hL0.below hV); rw [sh2, eE] at this; exact this
  have hps : ∀ y ∈ [p, q], y.root.length = 32 := fun y hy => by
    simp at hy
    rcases hy with rfl | rfl
    · exact hpI.root
    · exact hqI.root
  have kF : Hid (∀ (V : World) (g : Nat), Below W0.heap.size W0 V → PsAt V (some ⟨g, 0, none⟩) [p, q] → Calls Tryd.prog 34 #[.int .i64 K, .slice (some ⟨g, 0, none⟩) 2 2] V fun e w' => e = .returned (.tuple #[.int .i64 0, .int .i64 0, .bool false]) ∧ Below V.heap.size V w') := Lib.hid fun V g hV hP => by
    refine (ofind_any K [p, q] 2 _ 2 V rfl (by decide) (Nat.le_refl _) hP hps (hL0.below hV)).mono ?_
    rintro e w' ⟨⟨i, j, ok, rfl, hF⟩, hb⟩
    refine ⟨?_, hb⟩
    rcases hF with ⟨rfl, hij, x', y', hx', hy', hc', _⟩ | ⟨rfl, rfl, rfl, hl⟩
    · have hj2 := (List.getElem?_eq_some_iff.1 hy').1
      simp at hj2
      obtain rfl : i = 0 := by omega
      obtain rfl : j = 1 := by omega
      obtain rfl : p = x' := Option.some.inj hx'
      obtain rfl : q = y' := Option.some.inj hy'
      rw [cv1] at hc'
      cases hc'
    · rfl
  have bu := Lib.hid (builtSlice_po2 p q hpI.root hqI.root)
  have hps' := Lib.hid hps
  have h1100 := smB_le h2
  have hsm9 : decide (a.fx = b.fx) = false := hs
  have kM : Hid (∀ V, Below W0.heap.size W0 V → Calls Tryd.prog 37 #[.slice A n cp, .slice B m dp] V fun e w' => e = .returned (.bool false) ∧ Below V.heap.size V w') := Lib.hid fun V hV => hsm9 ▸ rsame_any a.fx b.fx n m cp dp A B V hn hm (hA0.below hV) (hB1.below hV) hI hJ (by omega)
  have h1101 := smB_le h3
  have hne : (enc (calV a) == enc (calV b)) = false := beq_eq_false_iff_ne.2 fun e => of_decide_eq_false hs (cal_inj hE hF e)
  have kTa : Hid (∀ V, Below W0.heap.size W0 V → Calls Tryd.prog 39 #[.agg #[.int .i64 a.no, .slice A n cp]] V (TxC (enc (calV a)) V)) := Lib.hid fun V hV => rctext_any a n cp A V (Lib.hid hn) hi (by omega) hcp (Lib.hid (hA0.below hV)) (Lib.hid hI)
  have kTb : Hid (∀ V, Below W0.heap.size W0 V → Calls Tryd.prog 39 #[.agg #[.int .i64 b.no, .slice B m dp]] V (TxC (enc (calV b)) V)) := Lib.hid fun V hV => rctext_any b m dp B V (Lib.hid hm) hj (by omega) hdp (Lib.hid (hB1.below hV)) (Lib.hid hJ)
  generalize enc (calV a) = ta at hne kTa
  generalize enc (calV b) = tb at hne kTb
  clear eE eF ep eq rp rq np nq ckp ckq rr cv1 cv2 sh1 sh2 hps hsm9 h1100 hE hF hc hs
  clear h1101
  clear hc0 hp0 hlc hlp hL0 hL
  clear h hpI hqI hn hm hA hB hI hJ hA0 hB1 hp9 hq9 hK9 hx an h0 h1 h2 h3 hsa hsb hi hj
  replace hB0 := Lib.hid hB0
  go_enter Tryd.func12, Tryd.ntmps12
  go_wp2_with fail
  try rw [hW0]
  clear hW0
  refine kS.out.mono ?_
  rintro e w1 ⟨rfl, hb⟩
  replace HB := HB.trans (hb.mono HB.size)
  clear hb
  obtain ⟨c0, c1, c2, c3⟩ := hC.out _ HB
  go_wp2_with fail
  refine (kMa.out _).mono ?_
  rintro e w2 ⟨rfl, hb⟩
  replace HB := HB.trans (hb.mono HB.size)
  clear hb c0 c1 c2 c3
  obtain ⟨c0, c1, c2, c3⟩ := hC.out _ HB
  go_wp2_with fail
  refine (kMb.out _).mono ?_
  rintro e w3 ⟨rfl, hb⟩
  replace HB := HB.trans (hb.mono HB.size)
  clear hb c0 c1 c2 c3
  obtain ⟨c0, c1, c2, c3⟩ := hC.out _ HB
  go_wp2_with fail
  refine (kK.out _).mono ?_
  rintro e wk ⟨rfl, hwk⟩
  subst hwk
  go_wp2_with fail
  refine (kA.out _ HB).mono ?_
  rintro e w4 ⟨rfl, hb⟩
  replace HB := HB.trans (hb.mono HB.size)
  clear hb c0 c1 c2 c3
  go_wp2_with (refine wpList_new_row' (by rfl) 49 (.tmp 8) (.tmp 51) (by rfl) (by rfl) (poA p) w4.heap.size (by rfl) rfl (by rfl) 49 _ jp.out sp.out op.out ?_; intro w5 hd hz hB9; replace HB := HB.trans (hB9.mono HB.size); obtain ⟨c0, c1, c2, c3⟩ := hC.out _ HB; have h8 : Hid (∀ V, Below w5.heap.size w5 V → V.rangeAt w4.heap.size 0 (poC p) ∧ V.rangeAt w4.heap.size 1 (p.root.map by1)) := Lib.hid (fun V hV => ⟨po_row ((hV.block _ (Array.getElem?_eq_some_iff.1 hd).1).trans hd), po_root_at ((hV.block _ (Array.getElem?_eq_some_iff.1 hd).1).trans hd)⟩); clear hd hz hB9)
  refine (kB.out _ HB).mono ?_
  rintro e w6 ⟨rfl, hb⟩
  replace HB := HB.trans (hb.mono HB.size)
  replace h8 := up h8 hb
  clear hb c0 c1 c2 c3
  go_wp2_with (first
    | (refine wpList_new_row' (by rfl) 49 (.tmp 10) (.tmp 57) (by rfl) (by rfl) (poA q) w6.heap.size (by rfl) rfl (by rfl) 49 _ jq.out sq.out oq.out ?_; intro w7 hd hz hB9; replace HB := HB.trans (hB9.mono HB.size); obtain ⟨c0, c1, c2, c3⟩ := hC.out _ HB; have h10 : Hid (∀ V, Below w7.heap.size w7 V → V.rangeAt w6.heap.size 0 (poC q) ∧ V.rangeAt w6.heap.size 1 (q.root.map by1)) := Lib.hid (fun V hV => ⟨po_row ((hV.block _ (Array.getElem?_eq_some_iff.1 hd).1).trans hd), po_root_at ((hV.block _ (Array.getElem?_eq_some_iff.1 hd).1).trans hd)⟩); replace h8 := up h8 hB9; clear hd hz hB9)
    | (refine wpList_load_mid (by rfl) 49 (.tmp 8) (by rfl) w4.heap.size 0 (by rfl) (poC p) _ (h8.out _ (Below.refl _ _)).1 Tryd.underlying49 (by rfl) ip.out ?_)
    | (refine wpList_load_mid (by rfl) 49 (.tmp 10) (by rfl) w6.heap.size 0 (by rfl) (poC q) _ (h10.out _ (Below.refl _ _)).1 Tryd.underlying49 (by rfl) iq.out ?_)
    | (refine wpList_load_midG (by rfl) 49 (.tmp 8) (by rfl) w4.heap.size 0 (by rfl) (poC p) _ (h8.out _ (Below.refl _ _)).1 Tryd.underlying49 (by rfl) ip.out ?_)
    | (refine wpList_load_midG (by rfl) 49 (.tmp 10) (by rfl) w6.heap.size 0 (by rfl) (poC q) _ (h10.out _ (Below.refl _ _)).1 Tryd.underlying49 (by rfl) iq.out ?_))
  refine (kCp.out _ HB).mono ?_
  rintro e w8 ⟨rfl, hb⟩
  replace HB := HB.trans (hb.mono HB.size)
  replace h8 := up h8 hb
  replace h10 := up h10 hb
  clear hb c0 c1 c2 c3
  obtain ⟨c0, c1, c2, c3⟩ := hC.out _ HB
  go_wp2_with (first
    | (refine wpList_load_mid (by rfl) 49 (.tmp 8) (by rfl) w4.heap.size 0 (by rfl) (poC p) _ (h8.out _ (Below.refl _ _)).1 Tryd.underlying49 (by rfl) ip.out ?_)
    | (refine wpList_load_mid (by rfl) 49 (.tmp 10) (by rfl) w6.heap.size 0 (by rfl) (poC q) _ (h10.out _ (Below.refl _ _)).1 Tryd.underlying49 (by rfl) iq.out ?_)
    | (refine wpList_load_midG (by rfl) 49 (.tmp 8) (by rfl) w4.heap.size 0 (by rfl) (poC p) _ (h8.out _ (Below.refl _ _)).1 Tryd.underlying49 (by rfl) ip.out ?_)
    | (refine wpList_load_midG (by rfl) 49 (.tmp 10) (by rfl) w6.heap.size 0 (by rfl) (poC q) _ (h10.out _ (Below.refl _ _)).1 Tryd.underlying49 (by rfl) iq.out ?_))
  refine (kCq.out _ HB).mono ?_
  rintro e w9 ⟨rfl, hb⟩
  replace HB := HB.trans (hb.mono HB.size)
  replace h8 := up h8 hb
  replace h10 := up h10 hb
  clear hb c0 c1 c2 c3
  obtain ⟨c0, c1, c2, c3⟩ := hC.out _ HB
  go_wp2_with (first
    | (refine wpList_load_mid (by rfl) 49 (.tmp 8) (by rfl) w4.heap.size 0 (by rfl) (poC p) _ (h8.out _ (Below.refl _ _)).1 Tryd.underlying49 (by rfl) ip.out ?_)
    | (refine wpList_load_mid (by rfl) 49 (.tmp 10) (by rfl) w6.heap.size 0 (by rfl) (poC q) _ (h10.out _ (Below.refl _ _)).1 Tryd.underlying49 (by rfl) iq.out ?_)
    | (refine wpList_load_midG (by rfl) 49 (.tmp 8) (by rfl) w4.heap.size 0 (by rfl) (poC p) _ (h8.out _ (Below.refl _ _)).1 Tryd.underlying49 (by rfl) ip.out ?_)
    | (refine wpList_load_midG (by rfl) 49 (.tmp 10) (by rfl) w6.heap.size 0 (by rfl) (poC q) _ (h10.out _ (Below.refl _ _)).1 Tryd.underlying49 (by rfl) iq.out ?_)
    | (first | (refine wpList_load_mid (by rfl) 35 (.tmp 76) (by rfl) w4.heap.size 1 (by rfl) (p.root.map by1) _ (h8.out _ (Below.refl _ _)).2 Tryd.underlying35 (by rfl) dp9.out ?_) | (refine wpList_load_mid (by rfl) 35 (.tmp 75) (by rfl) w4.heap.size 1 (by rfl) (p.root.map by1) _ (h8.out _ (Below.refl _ _)).2 Tryd.underlying35 (by rfl) dp9.out ?_) | (refine wpList_load_mid (by rfl) 35 (.tmp 77) (by rfl) w6.heap.size 1 (by rfl) (q.root.map by1) _ (h10.out _ (Below.refl _ _)).2 Tryd.underlying35 (by rfl) dq9.out ?_)))
  have HX := (Below.refl w9.heap.size w9).drew
  refine wp_region_held_drew (S := fun w' => w'.cell? ⟨w.heap.size, 0, none⟩ = some (.int .i64 a.no) ∧ w'.cell? ⟨w.heap.size, 1, none⟩ = some (.slice A n cp) ∧ w'.cell? ⟨w.heap.size + 1, 0, none⟩ = some (.int .i64 b.no) ∧ w'.cell? ⟨w.heap.size + 1, 1, none⟩ = some (.slice B m dp)) (by kernel_rfl) (by exact hC.out _ (HB.trans (HX.mono HB.size))) (fun hHeld => ?_)
  refine wpAnyH_take (i := 0) (oi := { dst := some 80, op := Op.move (Operand.tmp 12), type := 4, pos := "law.go:152", after := #[], guard := none }) (v := ?_) rfl (by kernel_rfl) (by kernel_rfl) (by kernel_rfl) (fun _ _ _ h => h) (Or.inl ⟨by rfl, ?hya0⟩) hHeld ?resta0
  case hya0 =>
    intro w hSw
    try dsimp only at hSw
    go_simp
    try with_reducible rfl
  try simp only [Act.put, List.setIfInBounds_toArray, List.set_cons_zero, List.set_cons_succ]
  refine wpAnyH_take (i := 1) (oi := { dst := some 81, op := Op.move (Operand.tmp 80), type := 4, pos := "law.go:152", after := #[{ on := 0, ground := Ground.data }], guard := none }) (v := ?_) rfl (by kernel_rfl) (by kernel_rfl) (by kernel_rfl) (fun _ _ _ h => h) (Or.inl ⟨by rfl, ?hya1⟩) hHeld ?resta1
  case hya1 =>
    intro w hSw
    try dsimp only at hSw
    go_simp
    try with_reducible rfl
  try simp only [Act.put, List.setIfInBounds_toArray, List.set_cons_zero, List.set_cons_succ]
  refine wpAnyH_take (i := 2) (oi := { dst := some 82, op := Op.fieldAddr 45 (Operand.tmp 4) 1, type := 0, pos := "law.go:152", after := #[{ on := 1, ground := Ground.guard }], guard := some (1, true) }) (v := ?_) rfl (by kernel_rfl) (by kernel_rfl) (by kernel_rfl) (fun _ _ _ h => h) (Or.inl ⟨by rfl, ?hya2⟩) hHeld ?resta2
  case hya2 =>
    intro w hSw
    try dsimp only at hSw
    go_simp
    try with_reducible rfl
  try simp only [Act.put, List.setIfInBounds_toArray, List.set_cons_zero, List.set_cons_succ]
  refine wpAnyH_take (i := 3) (oi := { dst := some 83, op := Op.load 43 (Operand.tmp 82), type := 43, pos := "law.go:152", after := #[{ on := 2, ground := Ground.data }, { on := 1, ground := Ground.guard }], guard := some (1, true) }) (v := ?_) rfl (by kernel_rfl) (by kernel_rfl) (by kernel_rfl) (fun _ _ _ h => h) (Or.inl ⟨by rfl, ?hya3⟩) hHeld ?resta3
  case hya3 =>
    intro w hSw
    try dsimp only at hSw
    go_simp
    try with_reducible rfl
  try simp only [Act.put, List.setIfInBounds_toArray, List.set_cons_zero, List.set_cons_succ]
  refine wpAnyH_take (i := 4) (oi := { dst := some 84, op := Op.fieldAddr 45 (Operand.tmp 5) 1, type := 0, pos := "law.go:152", after := #[{ on := 1, ground := Ground.guard }], guard := some (1, true) }) (v := ?_) rfl (by kernel_rfl) (by kernel_rfl) (by kernel_rfl) (fun _ _ _ h => h) (Or.inl ⟨by rfl, ?hya4⟩) hHeld ?resta4
  case hya4 =>
    intro w hSw
    try dsimp only at hSw
    go_simp
    try with_reducible rfl
  try simp only [Act.put, List.setIfInBounds_toArray, List.set_cons_zero, List.set_cons_succ]
  refine wpAnyH_take (i := 5) (oi := { dst := some 85, op := Op.load 43 (Operand.tmp 84), type := 43, pos := "law.go:152", after := #[{ on := 4, ground := Ground.data }, { on := 1, ground := Ground.guard }], guard := some (1, true) }) (v := ?_) rfl (by kernel_rfl) (by kernel_rfl) (by kernel_rfl) (fun _ _ _ h => h) (Or.inl ⟨by rfl, ?hya5⟩) hHeld ?resta5
  case hya5 =>
    intro w hSw
    try dsimp only at hSw
    go_simp
    try with_reducible rfl
  try simp only [Act.put, List.setIfInBounds_toArray, List.set_cons_zero, List.set_cons_succ]
  refine wpAnyH_ready (rs := [6]) (by kernel_rfl) (by simp) (AllReadyH.cons (o := { dst := some 86, op := Op.call { callee := Callee.value (Operand.func 37), args := #[Operand.tmp 83, Operand.tmp 85], argTypes := #[43, 43] }, type := 4, pos := "law.go:152", after := #[{ on := 3, ground := Ground.data }, { on := 5, ground := Ground.data }, { on := 1, ground := Ground.chain }, { on := 1, ground := Ground.guard }], guard := some (1, true) }) rfl (fun K hK => ?_) AllReadyH.nil)
  go_simp
  go_at_call 37
  refine (kM.out _ (HB.trans (HX.mono HB.size))).mono ?_
  rintro e w10 ⟨rfl, hb⟩
  replace HX := HX.trans (hb.mono HX.size)
  clear hb
  refine hK.out _ _ (by exact hC.out _ (HB.trans (HX.mono HB.size))) (fun hHeld' => ?_)
  clear hK K hHeld
  have hHeld := hHeld'
  clear hHeld'
  try simp only [Act.put, List.setIfInBounds_toArray, List.set_cons_zero, List.set_cons_succ]
  refine wpAnyH_take (i := 7) (oi := { dst := some 87, op := Op.unOp UnOp.not 4 (Operand.tmp 86), type := 4, pos := "law.go:152", after := #[{ on := 6, ground := Ground.data }, { on := 1, ground := Ground.guard }], guard := some (1, true) }) (v := ?_) rfl (by kernel_rfl) (by kernel_rfl) (by kernel_rfl) (fun _ _ _ h => h) (Or.inl ⟨by rfl, ?hya7⟩) hHeld ?resta7
  case hya7 =>
    intro w hSw
    try dsimp only at hSw
    go_simp
    try with_reducible rfl
  try simp only [Act.put, List.setIfInBounds_toArray, List.set_cons_zero, List.set_cons_succ]
  refine wpAnyH_take (i := 8) (oi := { dst := some 88, op := Op.pick (Operand.tmp 81) (Operand.tmp 87) (Operand.const (Value.bool false)), type := 4, pos := "law.go:152", after := #[{ on := 1, ground := Ground.data }, { on := 7, ground := Ground.data }], guard := none }) (v := ?_) rfl (by kernel_rfl) (by kernel_rfl) (by kernel_rfl) (fun _ _ _ h => h) (Or.inl ⟨by rfl, ?hya8⟩) hHeld ?resta8
  case hya8 =>
    intro w hSw
    try dsimp only at hSw
    go_simp
    try with_reducible rfl
  try simp only [Act.put, List.setIfInBounds_toArray, List.set_cons_zero, List.set_cons_succ]
  refine wpAnyH_take (i := 9) (oi := { dst := some 89, op := Op.move (Operand.tmp 88), type := 4, pos := "law.go:152", after := #[{ on := 8, ground := Ground.data }, { on := 6, ground := Ground.chain }], guard := none }) (v := ?_) rfl (by kernel_rfl) (by kernel_rfl) (by kernel_rfl) (fun _ _ _ h => h) (Or.inl ⟨by rfl, ?hya9⟩) hHeld ?resta9
  case hya9 =>
    intro w hSw
    try dsimp only at hSw
    go_simp
    try with_reducible rfl
  try simp only [Act.put, List.setIfInBounds_toArray, List.set_cons_zero, List.set_cons_succ]
  refine wpAnyH_take (i := 10) (oi := { dst := some 90, op := Op.load 45 (Operand.tmp 4), type := 45, pos := "law.go:152", after := #[{ on := 9, ground := Ground.guard }], guard := some (9, true) }) (v := ?_) rfl (by kernel_rfl) (by kernel_rfl) (by kernel_rfl) (fun _ _ _ h => h) (Or.inl ⟨by rfl, ?hya10⟩) hHeld ?resta10
  case hya10 =>
    intro w hSw
    try dsimp only at hSw
    go_simp
    try with_reducible rfl
  try simp only [Act.put, List.setIfInBounds_toArray, List.set_cons_zero, List.set_cons_succ]
  refine wpAnyH_take (i := 12) (oi := { dst := some 92, op := Op.load 45 (Operand.tmp 5), type := 45, pos := "law.go:152", after := #[{ on := 9, ground := Ground.guard }], guard := some (9, true) }) (v := ?_) rfl (by kernel_rfl) (by kernel_rfl) (by kernel_rfl) (fun _ _ _ h => h) (Or.inl ⟨by rfl, ?hya12⟩) hHeld ?resta12
  case hya12 =>
    intro w hSw
    try dsimp only at hSw
    go_simp
    try with_reducible rfl
  try simp only [Act.put, List.setIfInBounds_toArray, List.set_cons_zero, List.set_cons_succ]
  refine wpAnyH_ready (rs := [11]) (by kernel_rfl) (by simp) (AllReadyH.cons (o := { dst := some 91, op := Op.call { callee := Callee.value (Operand.func 39), args := #[Operand.tmp 90], argTypes := #[45] }, type := 23, pos := "law.go:152", after := #[{ on := 10, ground := Ground.data }, { on := 9, ground := Ground.chain }, { on := 9, ground := Ground.guard }], guard := some (9, true) }) rfl (fun K hK => ?_) AllReadyH.nil)
  go_simp
  go_at_call 39
  refine (kTa.out _ (HB.trans (HX.mono HB.size))).mono ?_
  rintro e w11 ⟨At1, mt1, ct1, rfl, hl1, _, _, ht1, hb⟩
  replace HX := HX.trans (hb.mono HX.size)
  clear hb
  refine hK.out _ _ (by exact hC.out _ (HB.trans (HX.mono HB.size))) (fun hHeld' => ?_)
  clear hK K hHeld
  have hHeld := hHeld'
  clear hHeld'
  try simp only [Act.put, List.setIfInBounds_toArray, List.set_cons_zero, List.set_cons_succ]
  refine wpAnyH_ready (rs := [13]) (by kernel_rfl) (by simp) (AllReadyH.cons (o := { dst := some 93, op := Op.call { callee := Callee.value (Operand.func 39), args := #[Operand.tmp 92], argTypes := #[45] }, type := 23, pos := "law.go:152", after := #[{ on := 12, ground := Ground.data }, { on := 11, ground := Ground.chain }, { on := 9, ground := Ground.guard }], guard := some (9, true) }) rfl (fun K hK => ?_) AllReadyH.nil)
  go_simp
  go_at_call 39
  refine (kTb.out _ (HB.trans (HX.mono HB.size))).mono ?_
  rintro e w12 ⟨At2, mt2, ct2, rfl, hl2, _, _, ht2, hb⟩
  replace HX := HX.trans (hb.mono HX.size)
  replace ht1 := ht1.below hb
  clear hb
  refine hK.out _ _ (by exact hC.out _ (HB.trans (HX.mono HB.size))) (fun hHeld' => ?_)
  clear hK K hHeld
  have hHeld := hHeld'
  clear hHeld'
  try simp only [Act.put, List.setIfInBounds_toArray, List.set_cons_zero, List.set_cons_succ]
  refine wpAnyH_ready (rs := [14]) (by kernel_rfl) (by simp) (AllReadyH.cons (o := { dst := some 94, op := Op.call { callee := Callee.value (Operand.func 38), args := #[Operand.tmp 91, Operand.tmp 93], argTypes := #[23, 23] }, type := 4, pos := "law.go:152", after := #[{ on := 11, ground := Ground.data }, { on := 13, ground := Ground.data }, { on := 13, ground := Ground.chain }, { on := 9, ground := Ground.guard }], guard := some (9, true) }) rfl (fun K hK => ?_) AllReadyH.nil)
  go_simp
  go_at_call 38
  refine (bytes_equal_no ta tb At1 At2 mt1 mt2 ct1 ct2 _ hne (AtO.conv ht1 mt1 ct1 hl1) (AtO.conv ht2 mt2 ct2 hl2)).mono ?_
  rintro e w13 ⟨rfl, hwe⟩
  subst hwe
  refine hK.out _ _ (by exact hC.out _ (HB.trans (HX.mono HB.size))) (fun hHeld' => ?_)
  clear hK K hHeld
  have hHeld := hHeld'
  clear hHeld'
  try simp only [Act.put, List.setIfInBounds_toArray, List.set_cons_zero, List.set_cons_succ]
  refine wpAnyH_take (i := 15) (oi := { dst := some 95, op := Op.pick (Operand.tmp 89) (Operand.tmp 94) (Operand.const (Value.bool false)), type := 4, pos := "law.go:152", after := #[{ on := 9, ground := Ground.data }, { on := 14, ground := Ground.data }], guard := none }) (v := ?_) rfl (by kernel_rfl) (by kernel_rfl) (by kernel_rfl) (fun _ _ _ h => h) (Or.inl ⟨by rfl, ?hya15⟩) hHeld ?resta15
  case hya15 =>
    intro w hSw
    try dsimp only at hSw
    go_simp
    try with_reducible rfl
  try simp only [Act.put, List.setIfInBounds_toArray, List.set_cons_zero, List.set_cons_succ]
  refine wpAnyH_done (by kernel_rfl) ?_ _
  replace HB := HB.trans (HX.mono HB.size)
  replace h8 := up h8 HX
  replace h10 := up h10 HX
  clear HX c0 c1 c2 c3
  obtain ⟨c0, c1, c2, c3⟩ := hC.out _ HB
  go_wp2_with fail
  refine (kM.out _ HB).mono ?_
  rintro e w14 ⟨rfl, hb⟩
  replace HB := HB.trans (hb.mono HB.size)
  replace h8 := up h8 hb
  replace h10 := up h10 hb
  clear hb c0 c1 c2 c3
  obtain ⟨c0, c1, c2, c3⟩ := hC.out _ HB
  go_wp2_with (first
    | (refine wpList_load_mid (by rfl) 49 (.tmp 8) (by rfl) w4.heap.size 0 (by rfl) (poC p) _ (h8.out _ (Below.refl _ _)).1 Tryd.underlying49 (by rfl) ip.out ?_)
    | (refine wpList_load_mid (by rfl) 49 (.tmp 10) (by rfl) w6.heap.size 0 (by rfl) (poC q) _ (h10.out _ (Below.refl _ _)).1 Tryd.underlying49 (by rfl) iq.out ?_)
    | (refine wpList_load_midG (by rfl) 49 (.tmp 8) (by rfl) w4.heap.size 0 (by rfl) (poC p) _ (h8.out _ (Below.refl _ _)).1 Tryd.underlying49 (by rfl) ip.out ?_)
    | (refine wpList_load_midG (by rfl) 49 (.tmp 10) (by rfl) w6.heap.size 0 (by rfl) (poC q) _ (h10.out _ (Below.refl _ _)).1 Tryd.underlying49 (by rfl) iq.out ?_)
    | (refine wpList_built (by rfl) 53 49 2 #[(0, .tmp 107), (1, .tmp 108)] (by rfl) Tryd.underlying53 (poC p ++ poC q).toArray (by simp only [List.map_toArray, List.map_cons, List.map_nil]; exact bu.out) ?_))
  have hgs := psAt_row hps'.out (heap_alloc_new w14 (.cells (poC p ++ poC q).toArray 49)) (by simp [psC])
  replace HB := HB.alloc HB.size (.cells (poC p ++ poC q).toArray 49)
  replace h8 := up h8 (blow1 w14 (.cells (poC p ++ poC q).toArray 49))
  replace h10 := up h10 (blow1 w14 (.cells (poC p ++ poC q).toArray 49))
  refine (kF.out _ _ HB hgs).mono ?_
  rintro e w15 ⟨rfl, hb⟩
  replace HB := HB.trans (hb.mono HB.size)
  replace h8 := up h8 hb
  replace h10 := up h10 hb
  clear hb hgs c0 c1 c2 c3
  obtain ⟨c0, c1, c2, c3⟩ := hC.out _ HB
  go_wp2_with (first
    | (refine wpList_load_mid (by rfl) 49 (.tmp 8) (by rfl) w4.heap.size 0 (by rfl) (poC p) _ (h8.out _ (Below.refl _ _)).1 Tryd.underlying49 (by rfl) ip.out ?_)
    | (refine wpList_load_mid (by rfl) 49 (.tmp 10) (by rfl) w6.heap.size 0 (by rfl) (poC q) _ (h10.out _ (Below.refl _ _)).1 Tryd.underlying49 (by rfl) iq.out ?_)
    | (refine wpList_load_midG (by rfl) 49 (.tmp 8) (by rfl) w4.heap.size 0 (by rfl) (poC p) _ (h8.out _ (Below.refl _ _)).1 Tryd.underlying49 (by rfl) ip.out ?_)
    | (refine wpList_load_midG (by rfl) 49 (.tmp 10) (by rfl) w6.heap.size 0 (by rfl) (poC q) _ (h10.out _ (Below.refl _ _)).1 Tryd.underlying49 (by rfl) iq.out ?_))
  refine (kH2.out _ HB).mono ?_
  rintro e w16 ⟨rfl, hb⟩
  replace HB := HB.trans (hb.mono HB.size)
  replace h8 := up h8 hb
  replace h10 := up h10 hb
  clear hb c0 c1 c2 c3
  obtain ⟨c0, c1, c2, c3⟩ := hC.out _ HB
  go_wp2_with (first
    | (refine wpList_load_mid (by rfl) 49 (.tmp 8) (by rfl) w4.heap.size 0 (by rfl) (poC p) _ (h8.out _ (Below.refl _ _)).1 Tryd.underlying49 (by rfl) ip.out ?_)
    | (refine wpList_load_mid (by rfl) 49 (.tmp 10) (by rfl) w6.heap.size 0 (by rfl) (poC q) _ (h10.out _ (Below.refl _ _)).1 Tryd.underlying49 (by rfl) iq.out ?_)
    | (refine wpList_load_midG (by rfl) 49 (.tmp 8) (by rfl) w4.heap.size 0 (by rfl) (poC p) _ (h8.out _ (Below.refl _ _)).1 Tryd.underlying49 (by rfl) ip.out ?_)
    | (refine wpList_load_midG (by rfl) 49 (.tmp 10) (by rfl) w6.heap.size 0 (by rfl) (poC q) _ (h10.out _ (Below.refl _ _)).1 Tryd.underlying49 (by rfl) iq.out ?_))
  refine (kH1.out _ HB).mono ?_
  rintro e w17 ⟨rfl, hb⟩
  replace HB := HB.trans (hb.mono HB.size)
  replace h8 := up h8 hb
  replace h10 := up h10 hb
  clear hb c0 c1 c2 c3
  obtain ⟨c0, c1, c2, c3⟩ := hC.out _ HB
  go_wp2_with (first
    | (refine wpList_load_mid (by rfl) 49 (.tmp 8) (by rfl) w4.heap.size 0 (by rfl) (poC p) _ (h8.out _ (Below.refl _ _)).1 Tryd.underlying49 (by rfl) ip.out ?_)
    | (refine wpList_load_mid (by rfl) 49 (.tmp 10) (by rfl) w6.heap.size 0 (by rfl) (poC q) _ (h10.out _ (Below.refl _ _)).1 Tryd.underlying49 (by rfl) iq.out ?_)
    | (refine wpList_load_midG (by rfl) 49 (.tmp 8) (by rfl) w4.heap.size 0 (by rfl) (poC p) _ (h8.out _ (Below.refl _ _)).1 Tryd.underlying49 (by rfl) ip.out ?_)
    | (refine wpList_load_midG (by rfl) 49 (.tmp 10) (by rfl) w6.heap.size 0 (by rfl) (poC q) _ (h10.out _ (Below.refl _ _)).1 Tryd.underlying49 (by rfl) iq.out ?_))
  refine (kV1.out _ HB).mono ?_
  rintro e w18 ⟨rfl, hb⟩
  replace HB := HB.trans (hb.mono HB.size)
  replace h8 := up h8 hb
  replace h10 := up h10 hb
  clear hb c0 c1 c2 c3
  obtain ⟨c0, c1, c2, c3⟩ := hC.out _ HB
  go_wp2_with (first
    | (refine wpList_load_mid (by rfl) 49 (.tmp 8) (by rfl) w4.heap.size 0 (by rfl) (poC p) _ (h8.out _ (Below.refl _ _)).1 Tryd.underlying49 (by rfl) ip.out ?_)
    | (refine wpList_load_mid (by rfl) 49 (.tmp 10) (by rfl) w6.heap.size 0 (by rfl) (poC q) _ (h10.out _ (Below.refl _ _)).1 Tryd.underlying49 (by rfl) iq.out ?_)
    | (refine wpList_load_midG (by rfl) 49 (.tmp 8) (by rfl) w4.heap.size 0 (by rfl) (poC p) _ (h8.out _ (Below.refl _ _)).1 Tryd.underlying49 (by rfl) ip.out ?_)
    | (refine wpList_load_midG (by rfl) 49 (.tmp 10) (by rfl) w6.heap.size 0 (by rfl) (poC q) _ (h10.out _ (Below.refl _ _)).1 Tryd.underlying49 (by rfl) iq.out ?_))
  refine (kV2.out _ HB).mono ?_
  rintro e w19 ⟨rfl, hb⟩
  replace HB := HB.trans (hb.mono HB.size)
  replace h8 := up h8 hb
  replace h10 := up h10 hb
  clear hb c0 c1 c2 c3
  obtain ⟨c0, c1, c2, c3⟩ := hC.out _ HB
  go_wp2_with (first
    | (refine wpList_load_mid (by rfl) 49 (.tmp 8) (by rfl) w4.heap.size 0 (by rfl) (poC p) _ (h8.out _ (Below.refl _ _)).1 Tryd.underlying49 (by rfl) ip.out ?_)
    | (refine wpList_load_mid (by rfl) 49 (.tmp 10) (by rfl) w6.heap.size 0 (by rfl) (poC q) _ (h10.out _ (Below.refl _ _)).1 Tryd.underlying49 (by rfl) iq.out ?_)
    | (refine wpList_load_midG (by rfl) 49 (.tmp 8) (by rfl) w4.heap.size 0 (by rfl) (poC p) _ (h8.out _ (Below.refl _ _)).1 Tryd.underlying49 (by rfl) ip.out ?_)
    | (refine wpList_load_midG (by rfl) 49 (.tmp 10) (by rfl) w6.heap.size 0 (by rfl) (poC q) _ (h10.out _ (Below.refl _ _)).1 Tryd.underlying49 (by rfl) iq.out ?_))
  go_ret
  exact ⟨rfl, hB0.out.trans (HB.mono hB0.out.size)⟩

set_option maxRecDepth 100000 in
set_option maxHeartbeats 16000000 in
theorem ofc_ff (x : Int) (a b : Cal) (n m cp dp : Nat) (A B : Option Addr) (w : World) (h0 : ¬ x < 1) (h1 : ¬ 1073741789 ≤ x) (h2 : smB n = true) (h3 : smB m = true) (h : a.no = b.no) (hn : a.fx.length = n) (hm : b.fx.length = m) (hcp : n ≤ cp) (hdp : m ≤ dp) (hA : FxAt w A a.fx) (hB : FxAt w B b.fx) (hI : ∀ f ∈ a.fx, FxI f) (hJ : ∀ f ∈ b.fx, FxI f) (hi : I64 a.no) (hj : I64 b.no) (hE : CalOk a) (hF : CalOk b) (hc : decide (calD a = calD b) = false) (hs : decide (a.fx = b.fx) = false) (hL : Laid w) :
    Calls Tryd.prog 12 #[.int .i64 x, .agg #[.int .i64 a.no, .slice A n cp], .agg #[.int .i64 b.no, .slice B m dp]] w fun e w' => e = .returned (.bool true) ∧ Below w.heap.size w w' := by
  have hB0 : Below w.heap.size w ((w.alloc (.cells #[.int .i64 a.no, .slice A n cp] 45)).alloc (.cells #[.int .i64 b.no, .slice B m dp] 45)) := ((Below.refl _ _).alloc (Nat.le_refl _) _).alloc (by simp) _
  have hL0 := hL.below hB0
  have hc0 := heap_alloc2_old w (.cells #[.int .i64 a.no, .slice A n cp] 45) (.cells #[.int .i64 b.no, .slice B m dp] 45)
  have hp0 := heap_alloc2_new w (.cells #[.int .i64 a.no, .slice A n cp] 45) (.cells #[.int .i64 b.no, .slice B m dp] 45)
  have hlc := (Array.getElem?_eq_some_iff.1 hc0).1
  have hlp := (Array.getElem?_eq_some_iff.1 hp0).1
  obtain ⟨W0, hW0⟩ : ∃ W0, ((w.alloc (.cells #[.int .i64 a.no, .slice A n cp] 45)).alloc (.cells #[.int .i64 b.no, .slice B m dp] 45)) = W0 := ⟨_, rfl⟩
  rw [hW0] at hB0 hL0 hc0 hp0 hlc hlp
  have hC : Hid (∀ V, Below W0.heap.size W0 V → V.cell? ⟨w.heap.size, 0, none⟩ = some (.int .i64 a.no) ∧ V.cell? ⟨w.heap.size, 1, none⟩ = some (.slice A n cp) ∧ V.cell? ⟨w.heap.size + 1, 0, none⟩ = some (.int .i64 b.no) ∧ V.cell? ⟨w.heap.size + 1, 1, none⟩ = some (.slice B m dp)) := Lib.hid fun V hV =>
    ⟨by rw [cell_of_row _ _ _ _ _ _ ((hV.block _ hlc).trans hc0)]; rfl, by rw [cell_of_row _ _ _ _ _ _ ((hV.block _ hlc).trans hc0)]; rfl, by rw [cell_of_row _ _ _ _ _ _ ((hV.block _ hlp).trans hp0)]; rfl, by rw [cell_of_row _ _ _ _ _ _ ((hV.block _ hlp).trans hp0)]; rfl⟩
  have HB := Below.refl W0.heap.size W0
  have kS : Hid (Calls Tryd.prog 24 #[] W0 fun e w' => e = .returned (.bool true) ∧ Below W0.heap.size W0 w') := Lib.hid (osane_any W0 hL0)
  obtain ⟨sa, hsa⟩ : ∃ r, smB n = r := ⟨_, rfl⟩
  obtain ⟨sb, hsb⟩ : ∃ r, smB m = r := ⟨_, rfl⟩
  have kMa : Hid (∀ V, Calls Tryd.prog 25 #[.agg #[.int .i64 a.no, .slice A n cp]] V fun e w' => e = .returned (.bool sa) ∧ Below V.heap.size V w') := Lib.hid fun V => hsa ▸ small_any a.no n cp A V
  have kMb : Hid (∀ V, Calls Tryd.prog 25 #[.agg #[.int .i64 b.no, .slice B m dp]] V fun e w' => e = .returned (.bool sb) ∧ Below V.heap.size V w') := Lib.hid fun V => hsb ▸ small_any b.no m dp B V
  have d1 : decide (x < 1) = false := decide_eq_false (by omega)
  have d2 : decide (1073741789 ≤ x) = false := decide_eq_false (by omega)
  obtain rfl : sa = true := hsa.symm.trans h2
  obtain rfl : sb = true := hsb.symm.trans h3
  have d3 : (a.no != b.no) = false := by simp [h]
  have hx : AnIn x := ⟨by omega, by omega⟩
  have hA0 := hA.below hB0
  have hB1 := hB.below hB0
  have an : ∀ c : Cal, anE x c = calE c := fun c => if_pos hx
  obtain ⟨K, hK9⟩ : ∃ K, powC 4 x = K := ⟨_, rfl⟩
  obtain ⟨p, hp9⟩ : ∃ p, anP x a = p := ⟨_, rfl⟩
  obtain ⟨q, hq9⟩ : ∃ p, anP x b = p := ⟨_, rfl⟩
  have hpI : PoI p := hp9 ▸ anP_I x a
  have hqI : PoI q := hq9 ▸ anP_I x b
  have kK : Hid (∀ V, Calls Tryd.prog 36 #[.int .i64 x] V fun e w' => e = .returned (.int .i64 K) ∧ w' = V) := Lib.hid fun V => hK9 ▸ rkey_any x V
  have kA : Hid (∀ V, Below W0.heap.size W0 V → Calls Tryd.prog 26 #[.int .i64 x, .agg #[.int .i64 a.no, .slice A n cp]] V fun e w' => e = .returned (.tuple #[.agg (poA p), .int .i64 (calE a)]) ∧ Below V.heap.size V w') := Lib.hid fun V hV => by have := announce_any x a n cp A V hn hcp (hA0.below hV) hI (hL0.below hV); rw [hp9, an] at this; exact this
  have kB : Hid (∀ V, Below W0.heap.size W0 V → Calls Tryd.prog 26 #[.int .i64 x, .agg #[.int .i64 b.no, .slice B m dp]] V fun e w' => e = .returned (.tuple #[.agg (poA q), .int .i64 (calE b)]) ∧ Below V.heap.size V w') := Lib.hid fun V hV => by have := announce_any x b m dp B V hm hdp (hB1.below hV) hJ (hL0.below hV); rw [hq9, an] at this; exact this
  have ip := Lib.hid (po_info' hpI.root)
  have iq := Lib.hid (po_info' hqI.root)
  have jp := Lib.hid (po_info hpI.root)
  have jq := Lib.hid (po_info hqI.root)
  have sp : Hid (35 = (poA p).size) := Lib.hid (poA_size hpI.root).symm
  have sq : Hid (35 = (poA q).size) := Lib.hid (poA_size hqI.root).symm
  have op := Lib.hid (poA_one p)
  have oq := Lib.hid (poA_one q)
  have eE : calE a = 0 := if_pos hE
  rw [eE] at kA
  have eF : calE b = 0 := if_pos hF
  rw [eF] at kB
  have ep : p = poS x a.no (calD a) := by rw [← hp9]; exact if_pos ⟨hx, hE⟩
  have eq : q = poS x b.no (calD b) := by rw [← hq9]; exact if_pos ⟨hx, hF⟩
  have rp : p.root = calD a := by rw [ep]; rfl
  have rq : q.root = calD b := by rw [eq]; rfl
  have np : p.no = a.no := by rw [ep]; rfl
  have nq : q.no = b.no := by rw [eq]; rfl
  have ckp : ckP K p = true := by rw [ep, ← hK9]; exact ck_signed hx hE.1 hE.2.1
  have ckq : ckP K q = true := by rw [eq, ← hK9]; exact ck_signed hx hF.1 hF.2.1
  have rr : decide (p.root = q.root) = false := by rw [rp, rq]; exact hc
  have cv1 : cvP K p q = true := by
    unfold cvP
    rw [rr, ckp, ckq, np, nq, decide_eq_true h]
    rfl
  have cv2 : cvP K q p = true := by rw [cv_comm]; exact cv1
  have q0 : ∀ V, (Op.equalIn 10000 35 (.agg (p.root.map by1).toArray) (.agg (q.root.map by1).toArray)).run Tryd.prog V = .ok false V := fun V => rr ▸ eq_dg p.root q.root hpI.root hqI.root V
  have dp9 := Lib.hid (dg_info' p.root hpI.root)
  have dq9 := Lib.hid (dg_info' q.root hqI.root)
  have kCp : Hid (∀ V, Below W0.heap.size W0 V → Calls Tryd.prog 30 #[.int .i64 K, .agg (poC p).toArray] V fun e w' => e = .returned (.bool true) ∧ Below V.heap.size V w') := Lib.hid fun V hV => ckp ▸ ocheck_any K p hpI.root V (hL0.below hV)
  have kCq : Hid (∀ V, Below W0.heap.size W0 V → Calls Tryd.prog 30 #[.int .i64 K, .agg (poC q).toArray] V fun e w' => e = .returned (.bool true) ∧ Below V.heap.size V w') := Lib.hid fun V hV => ckq ▸ ocheck_any K q hqI.root V (hL0.below hV)
  have kV1 : Hid (∀ V, Below W0.heap.size W0 V → Calls Tryd.prog 32 #[.int .i64 K, .agg (poC p).toArray, .agg (poC q).toArray] V fun e w' => e = .returned (.bool true) ∧ Below V.heap.size V w') := Lib.hid fun V hV => cv1 ▸ oconvict_any K p q hpI.root hqI.root V (hL0.below hV)
  have kV2 : Hid (∀ V, Below W0.heap.size W0 V → Calls Tryd.prog 32 #[.int .i64 K, .agg (poC q).toArray, .agg (poC p).toArray] V fun e w' => e = .returned (.bool true) ∧ Below V.heap.size V w') := Lib.hid fun V hV => cv2 ▸ oconvict_any K q p hqI.root hpI.root V (hL0.below hV)
  have sh1 : shB p a = true := by
    unfold shB
    rw [eE, np, rp]
    simp
  have sh2 : shB q a = false := by
    unfold shB
    rw [eE, nq, rq, h]
    have e9 : decide (calD b = calD a) = false := by rw [← hc]; exact decide_eq_decide.2 ⟨Eq.symm, Eq.symm⟩
    rw [e9]
    simp
  have kH1 : Hid (∀ V, Below W0.heap.size W0 V → Calls Tryd.prog 28 #[.agg (poC p).toArray, .agg #[.int .i64 a.no, .slice A n cp]] V fun e w' => e = .returned (.tuple #[.bool true, .int .i64 0]) ∧ Below V.heap.size V w') := Lib.hid fun V hV => by have := oshows_any p hpI.root a n cp A V hn hcp (hA0.below hV) hI (hL0.below hV); rw [sh1, eE] at this; exact this
  have kH2 : Hid (∀ V, Below W0.heap.size W0 V → Calls Tryd.prog 28 #[.agg (poC q).toArray, .agg #[.int .i64 a.no, .slice A n cp]] V fun e w' => e = .returned (.tuple #[.bool false, .int .i64 0]) ∧ Below V.heap.size V w') := Lib.hid fun V hV => by have := oshows_any q hqI.root a n cp A V hn hcp (hA0.below hV) hI (hL0.below hV); rw [sh2, eE] at this; exact this
  have hps : ∀ y ∈ [p, q], y.root.length = 32 := fun y hy => by
    simp at hy
    rcases hy with rfl | rfl
    · exact hpI.root
    · exact hqI.root
  have kF : Hid (∀ (V : World) (g : Nat), Below W0.heap.size W0 V → PsAt V (some ⟨g, 0, none⟩) [p, q] → Calls Tryd.prog 34 #[.int .i64 K, .slice (some ⟨g, 0, none⟩) 2 2] V fun e w' => e = .returned (.tuple #[.int .i64 0, .int .i64 1, .bool true]) ∧ Below V.heap.size V w') := Lib.hid fun V g hV hP => by
    refine (ofind_any K [p, q] 2 _ 2 V rfl (by decide) (Nat.le_refl _) hP hps (hL0.below hV)).mono ?_
    rintro e w' ⟨⟨i, j, ok, rfl, hF⟩, hb⟩
    refine ⟨?_, hb⟩
    rcases hF with ⟨rfl, hij, x', y', hx', hy', hc', _⟩ | ⟨rfl, _, _, hl⟩
    · have hj2 := (List.getElem?_eq_some_iff.1 hy').1
      simp at hj2
      obtain rfl : i = 0 := by omega
      obtain rfl : j = 1 := by omega
      rfl
    · have := hl 0 1 p q (by decide) rfl rfl
      rw [cv1] at this
      cases this
  have bu := Lib.hid (builtSlice_po2 p q hpI.root hqI.root)
  have hps' := Lib.hid hps
  have h1100 := smB_le h2
  have hsm9 : decide (a.fx = b.fx) = false := hs
  have kM : Hid (∀ V, Below W0.heap.size W0 V → Calls Tryd.prog 37 #[.slice A n cp, .slice B m dp] V fun e w' => e = .returned (.bool false) ∧ Below V.heap.size V w') := Lib.hid fun V hV => hsm9 ▸ rsame_any a.fx b.fx n m cp dp A B V hn hm (hA0.below hV) (hB1.below hV) hI hJ (by omega)
  clear eE eF ep eq rp rq np nq ckp ckq rr cv1 cv2 sh1 sh2 hps hsm9 h1100 hE hF hc hs
  clear hc0 hp0 hlc hlp hL0 hL
  clear h hpI hqI hn hm hA hB hI hJ hA0 hB1 hp9 hq9 hK9 hx an h0 h1 h2 h3 hsa hsb hi hj
  replace hB0 := Lib.hid hB0
  go_enter Tryd.func12, Tryd.ntmps12
  go_wp2_with fail
  try rw [hW0]
  clear hW0
  refine kS.out.mono ?_
  rintro e w1 ⟨rfl, hb⟩
  replace HB := HB.trans (hb.mono HB.size)
  clear hb
  obtain ⟨c0, c1, c2, c3⟩ := hC.out _ HB
  go_wp2_with fail
  refine (kMa.out _).mono ?_
  rintro e w2 ⟨rfl, hb⟩
  replace HB := HB.trans (hb.mono HB.size)
  clear hb c0 c1 c2 c3
  obtain ⟨c0, c1, c2, c3⟩ := hC.out _ HB
  go_wp2_with fail
  refine (kMb.out _).mono ?_
  rintro e w3 ⟨rfl, hb⟩
  replace HB := HB.trans (hb.mono HB.size)
  clear hb c0 c1 c2 c3
  obtain ⟨c0, c1, c2, c3⟩ := hC.out _ HB
  go_wp2_with fail
  refine (kK.out _).mono ?_
  rintro e wk ⟨rfl, hwk⟩
  subst hwk
  go_wp2_with fail
  refine (kA.out _ HB).mono ?_
  rintro e w4 ⟨rfl, hb⟩
  replace HB := HB.trans (hb.mono HB.size)
  clear hb c0 c1 c2 c3
  go_wp2_with (refine wpList_new_row' (by rfl) 49 (.tmp 8) (.tmp 51) (by rfl) (by rfl) (poA p) w4.heap.size (by rfl) rfl (by rfl) 49 _ jp.out sp.out op.out ?_; intro w5 hd hz hB9; replace HB := HB.trans (hB9.mono HB.size); obtain ⟨c0, c1, c2, c3⟩ := hC.out _ HB; have h8 : Hid (∀ V, Below w5.heap.size w5 V → V.rangeAt w4.heap.size 0 (poC p) ∧ V.rangeAt w4.heap.size 1 (p.root.map by1)) := Lib.hid (fun V hV => ⟨po_row ((hV.block _ (Array.getElem?_eq_some_iff.1 hd).1).trans hd), po_root_at ((hV.block _ (Array.getElem?_eq_some_iff.1 hd).1).trans hd)⟩); clear hd hz hB9)
  refine (kB.out _ HB).mono ?_
  rintro e w6 ⟨rfl, hb⟩
  replace HB := HB.trans (hb.mono HB.size)
  replace h8 := up h8 hb
  clear hb c0 c1 c2 c3
  go_wp2_with (first
    | (refine wpList_new_row' (by rfl) 49 (.tmp 10) (.tmp 57) (by rfl) (by rfl) (poA q) w6.heap.size (by rfl) rfl (by rfl) 49 _ jq.out sq.out oq.out ?_; intro w7 hd hz hB9; replace HB := HB.trans (hB9.mono HB.size); obtain ⟨c0, c1, c2, c3⟩ := hC.out _ HB; have h10 : Hid (∀ V, Below w7.heap.size w7 V → V.rangeAt w6.heap.size 0 (poC q) ∧ V.rangeAt w6.heap.size 1 (q.root.map by1)) := Lib.hid (fun V hV => ⟨po_row ((hV.block _ (Array.getElem?_eq_some_iff.1 hd).1).trans hd), po_root_at ((hV.block _ (Array.getElem?_eq_some_iff.1 hd).1).trans hd)⟩); replace h8 := up h8 hB9; clear hd hz hB9)
    | (refine wpList_load_mid (by rfl) 49 (.tmp 8) (by rfl) w4.heap.size 0 (by rfl) (poC p) _ (h8.out _ (Below.refl _ _)).1 Tryd.underlying49 (by rfl) ip.out ?_)
    | (refine wpList_load_mid (by rfl) 49 (.tmp 10) (by rfl) w6.heap.size 0 (by rfl) (poC q) _ (h10.out _ (Below.refl _ _)).1 Tryd.underlying49 (by rfl) iq.out ?_)
    | (refine wpList_load_midG (by rfl) 49 (.tmp 8) (by rfl) w4.heap.size 0 (by rfl) (poC p) _ (h8.out _ (Below.refl _ _)).1 Tryd.underlying49 (by rfl) ip.out ?_)
    | (refine wpList_load_midG (by rfl) 49 (.tmp 10) (by rfl) w6.heap.size 0 (by rfl) (poC q) _ (h10.out _ (Below.refl _ _)).1 Tryd.underlying49 (by rfl) iq.out ?_))
  refine (kCp.out _ HB).mono ?_
  rintro e w8 ⟨rfl, hb⟩
  replace HB := HB.trans (hb.mono HB.size)
  replace h8 := up h8 hb
  replace h10 := up h10 hb
  clear hb c0 c1 c2 c3
  obtain ⟨c0, c1, c2, c3⟩ := hC.out _ HB
  go_wp2_with (first
    | (refine wpList_load_mid (by rfl) 49 (.tmp 8) (by rfl) w4.heap.size 0 (by rfl) (poC p) _ (h8.out _ (Below.refl _ _)).1 Tryd.underlying49 (by rfl) ip.out ?_)
    | (refine wpList_load_mid (by rfl) 49 (.tmp 10) (by rfl) w6.heap.size 0 (by rfl) (poC q) _ (h10.out _ (Below.refl _ _)).1 Tryd.underlying49 (by rfl) iq.out ?_)
    | (refine wpList_load_midG (by rfl) 49 (.tmp 8) (by rfl) w4.heap.size 0 (by rfl) (poC p) _ (h8.out _ (Below.refl _ _)).1 Tryd.underlying49 (by rfl) ip.out ?_)
    | (refine wpList_load_midG (by rfl) 49 (.tmp 10) (by rfl) w6.heap.size 0 (by rfl) (poC q) _ (h10.out _ (Below.refl _ _)).1 Tryd.underlying49 (by rfl) iq.out ?_))
  refine (kCq.out _ HB).mono ?_
  rintro e w9 ⟨rfl, hb⟩
  replace HB := HB.trans (hb.mono HB.size)
  replace h8 := up h8 hb
  replace h10 := up h10 hb
  clear hb c0 c1 c2 c3
  obtain ⟨c0, c1, c2, c3⟩ := hC.out _ HB
  go_wp2_with (first
    | (refine wpList_load_mid (by rfl) 49 (.tmp 8) (by rfl) w4.heap.size 0 (by rfl) (poC p) _ (h8.out _ (Below.refl _ _)).1 Tryd.underlying49 (by rfl) ip.out ?_)
    | (refine wpList_load_mid (by rfl) 49 (.tmp 10) (by rfl) w6.heap.size 0 (by rfl) (poC q) _ (h10.out _ (Below.refl _ _)).1 Tryd.underlying49 (by rfl) iq.out ?_)
    | (refine wpList_load_midG (by rfl) 49 (.tmp 8) (by rfl) w4.heap.size 0 (by rfl) (poC p) _ (h8.out _ (Below.refl _ _)).1 Tryd.underlying49 (by rfl) ip.out ?_)
    | (refine wpList_load_midG (by rfl) 49 (.tmp 10) (by rfl) w6.heap.size 0 (by rfl) (poC q) _ (h10.out _ (Below.refl _ _)).1 Tryd.underlying49 (by rfl) iq.out ?_)
    | (first | (refine wpList_load_mid (by rfl) 35 (.tmp 76) (by rfl) w4.heap.size 1 (by rfl) (p.root.map by1) _ (h8.out _ (Below.refl _ _)).2 Tryd.underlying35 (by rfl) dp9.out ?_) | (refine wpList_load_mid (by rfl) 35 (.tmp 75) (by rfl) w4.heap.size 1 (by rfl) (p.root.map by1) _ (h8.out _ (Below.refl _ _)).2 Tryd.underlying35 (by rfl) dp9.out ?_) | (refine wpList_load_mid (by rfl) 35 (.tmp 77) (by rfl) w6.heap.size 1 (by rfl) (q.root.map by1) _ (h10.out _ (Below.refl _ _)).2 Tryd.underlying35 (by rfl) dq9.out ?_)))
  have HX := (Below.refl w9.heap.size w9).drew
  refine wp_region_held_drew (S := fun w' => w'.cell? ⟨w.heap.size, 0, none⟩ = some (.int .i64 a.no) ∧ w'.cell? ⟨w.heap.size, 1, none⟩ = some (.slice A n cp) ∧ w'.cell? ⟨w.heap.size + 1, 0, none⟩ = some (.int .i64 b.no) ∧ w'.cell? ⟨w.heap.size + 1, 1, none⟩ = some (.slice B m dp)) (by kernel_rfl) (by exact hC.out _ (HB.trans (HX.mono HB.size))) (fun hHeld => ?_)
  refine wpAnyH_take (i := 0) (oi := { dst := some 80, op := Op.move (Operand.tmp 12), type := 4, pos := "law.go:152", after := #[], guard := none }) (v := ?_) rfl (by kernel_rfl) (by kernel_rfl) (by kernel_rfl) (fun _ _ _ h => h) (Or.inl ⟨by rfl, ?hyaa0⟩) hHeld ?restaa0
  case hyaa0 =>
    intro w hSw
    try dsimp only at hSw
    go_simp
    try with_reducible rfl
  try simp only [Act.put, List.setIfInBounds_toArray, List.set_cons_zero, List.set_cons_succ]
  refine wpAnyH_take (i := 1) (oi := { dst := some 81, op := Op.move (Operand.tmp 80), type := 4, pos := "law.go:152", after := #[{ on := 0, ground := Ground.data }], guard := none }) (v := ?_) rfl (by kernel_rfl) (by kernel_rfl) (by kernel_rfl) (fun _ _ _ h => h) (Or.inl ⟨by rfl, ?hyaa1⟩) hHeld ?restaa1
  case hyaa1 =>
    intro w hSw
    try dsimp only at hSw
    go_simp
    try with_reducible rfl
  try simp only [Act.put, List.setIfInBounds_toArray, List.set_cons_zero, List.set_cons_succ]
  refine wpAnyH_take (i := 2) (oi := { dst := some 82, op := Op.fieldAddr 45 (Operand.tmp 4) 1, type := 0, pos := "law.go:152", after := #[{ on := 1, ground := Ground.guard }], guard := some (1, true) }) (v := undef) rfl (by kernel_rfl) (by kernel_rfl) (by kernel_rfl) (fun _ _ _ h => h) (Or.inr ⟨by rfl, rfl⟩) hHeld ?_
  try simp only [Act.put, List.setIfInBounds_toArray, List.set_cons_zero, List.set_cons_succ]
  refine wpAnyH_take (i := 3) (oi := { dst := some 83, op := Op.load 43 (Operand.tmp 82), type := 43, pos := "law.go:152", after := #[{ on := 2, ground := Ground.data }, { on := 1, ground := Ground.guard }], guard := some (1, true) }) (v := undef) rfl (by kernel_rfl) (by kernel_rfl) (by kernel_rfl) (fun _ _ _ h => h) (Or.inr ⟨by rfl, rfl⟩) hHeld ?_
  try simp only [Act.put, List.setIfInBounds_toArray, List.set_cons_zero, List.set_cons_succ]
  refine wpAnyH_take (i := 4) (oi := { dst := some 84, op := Op.fieldAddr 45 (Operand.tmp 5) 1, type := 0, pos := "law.go:152", after := #[{ on := 1, ground := Ground.guard }], guard := some (1, true) }) (v := undef) rfl (by kernel_rfl) (by kernel_rfl) (by kernel_rfl) (fun _ _ _ h => h) (Or.inr ⟨by rfl, rfl⟩) hHeld ?_
  try simp only [Act.put, List.setIfInBounds_toArray, List.set_cons_zero, List.set_cons_succ]
  refine wpAnyH_take (i := 5) (oi := { dst := some 85, op := Op.load 43 (Operand.tmp 84), type := 43, pos := "law.go:152", after := #[{ on := 4, ground := Ground.data }, { on := 1, ground := Ground.guard }], guard := some (1, true) }) (v := undef) rfl (by kernel_rfl) (by kernel_rfl) (by kernel_rfl) (fun _ _ _ h => h) (Or.inr ⟨by rfl, rfl⟩) hHeld ?_
  try simp only [Act.put, List.setIfInBounds_toArray, List.set_cons_zero, List.set_cons_succ]
  refine wpAnyH_take (i := 6) (oi := { dst := some 86, op := Op.call { callee := Callee.value (Operand.func 37), args := #[Operand.tmp 83, Operand.tmp 85], argTypes := #[43, 43] }, type := 4, pos := "law.go:152", after := #[{ on := 3, ground := Ground.data }, { on := 5, ground := Ground.data }, { on := 1, ground := Ground.chain }, { on := 1, ground := Ground.guard }], guard := some (1, true) }) (v := undef) rfl (by kernel_rfl) (by kernel_rfl) (by kernel_rfl) (fun _ _ _ h => h) (Or.inr ⟨by rfl, rfl⟩) hHeld ?_
  try simp only [Act.put, List.setIfInBounds_toArray, List.set_cons_zero, List.set_cons_succ]
  refine wpAnyH_take (i := 7) (oi := { dst := some 87, op := Op.unOp UnOp.not 4 (Operand.tmp 86), type := 4, pos := "law.go:152", after := #[{ on := 6, ground := Ground.data }, { on := 1, ground := Ground.guard }], guard := some (1, true) }) (v := undef) rfl (by kernel_rfl) (by kernel_rfl) (by kernel_rfl) (fun _ _ _ h => h) (Or.inr ⟨by rfl, rfl⟩) hHeld ?_
  try simp only [Act.put, List.setIfInBounds_toArray, List.set_cons_zero, List.set_cons_succ]
  refine wpAnyH_take (i := 8) (oi := { dst := some 88, op := Op.pick (Operand.tmp 81) (Operand.tmp 87) (Operand.const (Value.bool false)), type := 4, pos := "law.go:152", after := #[{ on := 1, ground := Ground.data }, { on := 7, ground := Ground.data }], guard := none }) (v := ?_) rfl (by kernel_rfl) (by kernel_rfl) (by kernel_rfl) (fun _ _ _ h => h) (Or.inl ⟨by rfl, ?hyaa8⟩) hHeld ?restaa8
  case hyaa8 =>
    intro w hSw
    try dsimp only at hSw
    go_simp
    try with_reducible rfl
  try simp only [Act.put, List.setIfInBounds_toArray, List.set_cons_zero, List.set_cons_succ]
  refine wpAnyH_take (i := 9) (oi := { dst := some 89, op := Op.move (Operand.tmp 88), type := 4, pos := "law.go:152", after := #[{ on := 8, ground := Ground.data }, { on := 6, ground := Ground.chain }], guard := none }) (v := ?_) rfl (by kernel_rfl) (by kernel_rfl) (by kernel_rfl) (fun _ _ _ h => h) (Or.inl ⟨by rfl, ?hyaa9⟩) hHeld ?restaa9
  case hyaa9 =>
    intro w hSw
    try dsimp only at hSw
    go_simp
    try with_reducible rfl
  try simp only [Act.put, List.setIfInBounds_toArray, List.set_cons_zero, List.set_cons_succ]
  refine wpAnyH_take (i := 10) (oi := { dst := some 90, op := Op.load 45 (Operand.tmp 4), type := 45, pos := "law.go:152", after := #[{ on := 9, ground := Ground.guard }], guard := some (9, true) }) (v := undef) rfl (by kernel_rfl) (by kernel_rfl) (by kernel_rfl) (fun _ _ _ h => h) (Or.inr ⟨by rfl, rfl⟩) hHeld ?_
  try simp only [Act.put, List.setIfInBounds_toArray, List.set_cons_zero, List.set_cons_succ]
  refine wpAnyH_take (i := 11) (oi := { dst := some 91, op := Op.call { callee := Callee.value (Operand.func 39), args := #[Operand.tmp 90], argTypes := #[45] }, type := 23, pos := "law.go:152", after := #[{ on := 10, ground := Ground.data }, { on := 9, ground := Ground.chain }, { on := 9, ground := Ground.guard }], guard := some (9, true) }) (v := undef) rfl (by kernel_rfl) (by kernel_rfl) (by kernel_rfl) (fun _ _ _ h => h) (Or.inr ⟨by rfl, rfl⟩) hHeld ?_
  try simp only [Act.put, List.setIfInBounds_toArray, List.set_cons_zero, List.set_cons_succ]
  refine wpAnyH_take (i := 12) (oi := { dst := some 92, op := Op.load 45 (Operand.tmp 5), type := 45, pos := "law.go:152", after := #[{ on := 9, ground := Ground.guard }], guard := some (9, true) }) (v := undef) rfl (by kernel_rfl) (by kernel_rfl) (by kernel_rfl) (fun _ _ _ h => h) (Or.inr ⟨by rfl, rfl⟩) hHeld ?_
  try simp only [Act.put, List.setIfInBounds_toArray, List.set_cons_zero, List.set_cons_succ]
  refine wpAnyH_take (i := 13) (oi := { dst := some 93, op := Op.call { callee := Callee.value (Operand.func 39), args := #[Operand.tmp 92], argTypes := #[45] }, type := 23, pos := "law.go:152", after := #[{ on := 12, ground := Ground.data }, { on := 11, ground := Ground.chain }, { on := 9, ground := Ground.guard }], guard := some (9, true) }) (v := undef) rfl (by kernel_rfl) (by kernel_rfl) (by kernel_rfl) (fun _ _ _ h => h) (Or.inr ⟨by rfl, rfl⟩) hHeld ?_
  try simp only [Act.put, List.setIfInBounds_toArray, List.set_cons_zero, List.set_cons_succ]
  refine wpAnyH_take (i := 14) (oi := { dst := some 94, op := Op.call { callee := Callee.value (Operand.func 38), args := #[Operand.tmp 91, Operand.tmp 93], argTypes := #[23, 23] }, type := 4, pos := "law.go:152", after := #[{ on := 11, ground := Ground.data }, { on := 13, ground := Ground.data }, { on := 13, ground := Ground.chain }, { on := 9, ground := Ground.guard }], guard := some (9, true) }) (v := undef) rfl (by kernel_rfl) (by kernel_rfl) (by kernel_rfl) (fun _ _ _ h => h) (Or.inr ⟨by rfl, rfl⟩) hHeld ?_
  try simp only [Act.put, List.setIfInBounds_toArray, List.set_cons_zero, List.set_cons_succ]
  refine wpAnyH_take (i := 15) (oi := { dst := some 95, op := Op.pick (Operand.tmp 89) (Operand.tmp 94) (Operand.const (Value.bool false)), type := 4, pos := "law.go:152", after := #[{ on := 9, ground := Ground.data }, { on := 14, ground := Ground.data }], guard := none }) (v := ?_) rfl (by kernel_rfl) (by kernel_rfl) (by kernel_rfl) (fun _ _ _ h => h) (Or.inl ⟨by rfl, ?hyaa15⟩) hHeld ?restaa15
  case hyaa15 =>
    intro w hSw
    try dsimp only at hSw
    go_simp
    try with_reducible rfl
  try simp only [Act.put, List.setIfInBounds_toArray, List.set_cons_zero, List.set_cons_succ]
  refine wpAnyH_done (by kernel_rfl) ?_ _
  replace HB := HB.trans (HX.mono HB.size)
  replace h8 := up h8 HX
  replace h10 := up h10 HX
  clear HX c0 c1 c2 c3
  obtain ⟨c0, c1, c2, c3⟩ := hC.out _ HB
  go_wp2_with fail
  refine (kM.out _ HB).mono ?_
  rintro e w14 ⟨rfl, hb⟩
  replace HB := HB.trans (hb.mono HB.size)
  replace h8 := up h8 hb
  replace h10 := up h10 hb
  clear hb c0 c1 c2 c3
  obtain ⟨c0, c1, c2, c3⟩ := hC.out _ HB
  go_wp2_with (first
    | (refine wpList_load_mid (by rfl) 49 (.tmp 8) (by rfl) w4.heap.size 0 (by rfl) (poC p) _ (h8.out _ (Below.refl _ _)).1 Tryd.underlying49 (by rfl) ip.out ?_)
    | (refine wpList_load_mid (by rfl) 49 (.tmp 10) (by rfl) w6.heap.size 0 (by rfl) (poC q) _ (h10.out _ (Below.refl _ _)).1 Tryd.underlying49 (by rfl) iq.out ?_)
    | (refine wpList_load_midG (by rfl) 49 (.tmp 8) (by rfl) w4.heap.size 0 (by rfl) (poC p) _ (h8.out _ (Below.refl _ _)).1 Tryd.underlying49 (by rfl) ip.out ?_)
    | (refine wpList_load_midG (by rfl) 49 (.tmp 10) (by rfl) w6.heap.size 0 (by rfl) (poC q) _ (h10.out _ (Below.refl _ _)).1 Tryd.underlying49 (by rfl) iq.out ?_)
    | (refine wpList_built (by rfl) 53 49 2 #[(0, .tmp 107), (1, .tmp 108)] (by rfl) Tryd.underlying53 (poC p ++ poC q).toArray (by simp only [List.map_toArray, List.map_cons, List.map_nil]; exact bu.out) ?_))
  have hgs := psAt_row hps'.out (heap_alloc_new w14 (.cells (poC p ++ poC q).toArray 49)) (by simp [psC])
  replace HB := HB.alloc HB.size (.cells (poC p ++ poC q).toArray 49)
  replace h8 := up h8 (blow1 w14 (.cells (poC p ++ poC q).toArray 49))
  replace h10 := up h10 (blow1 w14 (.cells (poC p ++ poC q).toArray 49))
  refine (kF.out _ _ HB hgs).mono ?_
  rintro e w15 ⟨rfl, hb⟩
  replace HB := HB.trans (hb.mono HB.size)
  replace h8 := up h8 hb
  replace h10 := up h10 hb
  clear hb hgs c0 c1 c2 c3
  obtain ⟨c0, c1, c2, c3⟩ := hC.out _ HB
  go_wp2_with (first
    | (refine wpList_load_mid (by rfl) 49 (.tmp 8) (by rfl) w4.heap.size 0 (by rfl) (poC p) _ (h8.out _ (Below.refl _ _)).1 Tryd.underlying49 (by rfl) ip.out ?_)
    | (refine wpList_load_mid (by rfl) 49 (.tmp 10) (by rfl) w6.heap.size 0 (by rfl) (poC q) _ (h10.out _ (Below.refl _ _)).1 Tryd.underlying49 (by rfl) iq.out ?_)
    | (refine wpList_load_midG (by rfl) 49 (.tmp 8) (by rfl) w4.heap.size 0 (by rfl) (poC p) _ (h8.out _ (Below.refl _ _)).1 Tryd.underlying49 (by rfl) ip.out ?_)
    | (refine wpList_load_midG (by rfl) 49 (.tmp 10) (by rfl) w6.heap.size 0 (by rfl) (poC q) _ (h10.out _ (Below.refl _ _)).1 Tryd.underlying49 (by rfl) iq.out ?_))
  refine (kH2.out _ HB).mono ?_
  rintro e w16 ⟨rfl, hb⟩
  replace HB := HB.trans (hb.mono HB.size)
  replace h8 := up h8 hb
  replace h10 := up h10 hb
  clear hb c0 c1 c2 c3
  obtain ⟨c0, c1, c2, c3⟩ := hC.out _ HB
  go_wp2_with (first
    | (refine wpList_load_mid (by rfl) 49 (.tmp 8) (by rfl) w4.heap.size 0 (by rfl) (poC p) _ (h8.out _ (Below.refl _ _)).1 Tryd.underlying49 (by rfl) ip.out ?_)
    | (refine wpList_load_mid (by rfl) 49 (.tmp 10) (by rfl) w6.heap.size 0 (by rfl) (poC q) _ (h10.out _ (Below.refl _ _)).1 Tryd.underlying49 (by rfl) iq.out ?_)
    | (refine wpList_load_midG (by rfl) 49 (.tmp 8) (by rfl) w4.heap.size 0 (by rfl) (poC p) _ (h8.out _ (Below.refl _ _)).1 Tryd.underlying49 (by rfl) ip.out ?_)
    | (refine wpList_load_midG (by rfl) 49 (.tmp 10) (by rfl) w6.heap.size 0 (by rfl) (poC q) _ (h10.out _ (Below.refl _ _)).1 Tryd.underlying49 (by rfl) iq.out ?_))
  refine (kH1.out _ HB).mono ?_
  rintro e w17 ⟨rfl, hb⟩
  replace HB := HB.trans (hb.mono HB.size)
  replace h8 := up h8 hb
  replace h10 := up h10 hb
  clear hb c0 c1 c2 c3
  obtain ⟨c0, c1, c2, c3⟩ := hC.out _ HB
  go_wp2_with (first
    | (refine wpList_load_mid (by rfl) 49 (.tmp 8) (by rfl) w4.heap.size 0 (by rfl) (poC p) _ (h8.out _ (Below.refl _ _)).1 Tryd.underlying49 (by rfl) ip.out ?_)
    | (refine wpList_load_mid (by rfl) 49 (.tmp 10) (by rfl) w6.heap.size 0 (by rfl) (poC q) _ (h10.out _ (Below.refl _ _)).1 Tryd.underlying49 (by rfl) iq.out ?_)
    | (refine wpList_load_midG (by rfl) 49 (.tmp 8) (by rfl) w4.heap.size 0 (by rfl) (poC p) _ (h8.out _ (Below.refl _ _)).1 Tryd.underlying49 (by rfl) ip.out ?_)
    | (refine wpList_load_midG (by rfl) 49 (.tmp 10) (by rfl) w6.heap.size 0 (by rfl) (poC q) _ (h10.out _ (Below.refl _ _)).1 Tryd.underlying49 (by rfl) iq.out ?_))
  refine (kV1.out _ HB).mono ?_
  rintro e w18 ⟨rfl, hb⟩
  replace HB := HB.trans (hb.mono HB.size)
  replace h8 := up h8 hb
  replace h10 := up h10 hb
  clear hb c0 c1 c2 c3
  obtain ⟨c0, c1, c2, c3⟩ := hC.out _ HB
  go_wp2_with (first
    | (refine wpList_load_mid (by rfl) 49 (.tmp 8) (by rfl) w4.heap.size 0 (by rfl) (poC p) _ (h8.out _ (Below.refl _ _)).1 Tryd.underlying49 (by rfl) ip.out ?_)
    | (refine wpList_load_mid (by rfl) 49 (.tmp 10) (by rfl) w6.heap.size 0 (by rfl) (poC q) _ (h10.out _ (Below.refl _ _)).1 Tryd.underlying49 (by rfl) iq.out ?_)
    | (refine wpList_load_midG (by rfl) 49 (.tmp 8) (by rfl) w4.heap.size 0 (by rfl) (poC p) _ (h8.out _ (Below.refl _ _)).1 Tryd.underlying49 (by rfl) ip.out ?_)
    | (refine wpList_load_midG (by rfl) 49 (.tmp 10) (by rfl) w6.heap.size 0 (by rfl) (poC q) _ (h10.out _ (Below.refl _ _)).1 Tryd.underlying49 (by rfl) iq.out ?_))
  refine (kV2.out _ HB).mono ?_
  rintro e w19 ⟨rfl, hb⟩
  replace HB := HB.trans (hb.mono HB.size)
  replace h8 := up h8 hb
  replace h10 := up h10 hb
  clear hb c0 c1 c2 c3
  obtain ⟨c0, c1, c2, c3⟩ := hC.out _ HB
  go_wp2_with (first
    | (refine wpList_load_mid (by rfl) 49 (.tmp 8) (by rfl) w4.heap.size 0 (by rfl) (poC p) _ (h8.out _ (Below.refl _ _)).1 Tryd.underlying49 (by rfl) ip.out ?_)
    | (refine wpList_load_mid (by rfl) 49 (.tmp 10) (by rfl) w6.heap.size 0 (by rfl) (poC q) _ (h10.out _ (Below.refl _ _)).1 Tryd.underlying49 (by rfl) iq.out ?_)
    | (refine wpList_load_midG (by rfl) 49 (.tmp 8) (by rfl) w4.heap.size 0 (by rfl) (poC p) _ (h8.out _ (Below.refl _ _)).1 Tryd.underlying49 (by rfl) ip.out ?_)
    | (refine wpList_load_midG (by rfl) 49 (.tmp 10) (by rfl) w6.heap.size 0 (by rfl) (poC q) _ (h10.out _ (Below.refl _ _)).1 Tryd.underlying49 (by rfl) iq.out ?_))
  go_ret
  exact ⟨rfl, hB0.out.trans (HB.mono hB0.out.size)⟩

theorem walk_OfficesFaces (a0 : Int) (a1 a2 : Cal) (A1 : Option Addr) (c1 : Nat) (A2 : Option Addr) (c2 : Nat) (w : World) (b0 : I64 a0) (no1 : I64 a1.no) (lc1 : a1.fx.length ≤ c1) (fx1 : FxAt w A1 a1.fx) (fi1 : ∀ f ∈ a1.fx, FxI f) (no2 : I64 a2.no) (lc2 : a2.fx.length ≤ c2) (fx2 : FxAt w A2 a2.fx) (fi2 : ∀ f ∈ a2.fx, FxI f) (hL : Laid w) :
    Calls Tryd.prog 12 #[.int .i64 a0, .agg #[.int .i64 a1.no, .slice A1 a1.fx.length c1], .agg #[.int .i64 a2.no, .slice A2 a2.fx.length c2]] w fun e w' => e = .returned (.bool true) ∧ Below w.heap.size w w' := by
  by_cases h0 : a0 < 1
  · exact ofc_lo a0 a1 a2 _ _ c1 c2 A1 A2 w h0 hL
  by_cases h1 : 1073741789 ≤ a0
  · exact ofc_hi a0 a1 a2 _ _ c1 c2 A1 A2 w h0 h1 hL
  cases h2 : smB a1.fx.length with
  | false => exact ofc_sa a0 a1 a2 _ _ c1 c2 A1 A2 w h0 h1 h2 hL
  | true =>
    cases h3 : smB a2.fx.length with
    | false => exact ofc_sb a0 a1 a2 _ _ c1 c2 A1 A2 w h0 h1 h2 h3 hL
    | true =>
      by_cases h : a1.no = a2.no
      · by_cases hE : CalOk a1
        · by_cases hF : CalOk a2
          · by_cases hc : calD a1 = calD a2
            · by_cases hs : a1.fx = a2.fx
              · exact ofc_tt a0 a1 a2 _ _ c1 c2 A1 A2 w h0 h1 h2 h3 h rfl rfl lc1 lc2 fx1 fx2 fi1 fi2 no1 no2 hE hF (decide_eq_true hc) (decide_eq_true hs) hL
              · exact ofc_tf a0 a1 a2 _ _ c1 c2 A1 A2 w h0 h1 h2 h3 h rfl rfl lc1 lc2 fx1 fx2 fi1 fi2 no1 no2 hE hF (decide_eq_true hc) (decide_eq_false hs) hL
            · exact ofc_ff a0 a1 a2 _ _ c1 c2 A1 A2 w h0 h1 h2 h3 h rfl rfl lc1 lc2 fx1 fx2 fi1 fi2 no1 no2 hE hF (decide_eq_false hc) (decide_eq_false fun hs => hc (by
                obtain ⟨na, fa⟩ := a1
                obtain ⟨nb, fb⟩ := a2
                dsimp only at h hs
                rw [h, hs])) hL
          · exact ofc_eb a0 a1 a2 _ _ c1 c2 A1 A2 w h0 h1 h2 h3 h rfl rfl lc1 lc2 fx1 fx2 fi1 fi2 no1 no2 hE hF hL
        · exact ofc_ea a0 a1 a2 _ _ c1 c2 A1 A2 w h0 h1 h2 h3 h rfl rfl lc1 lc2 fx1 fx2 fi1 fi2 no1 no2 hE hL
      · exact ofc_no a0 a1 a2 _ _ c1 c2 A1 A2 w h0 h1 h2 h3 h hL
end Go.Proofs.YthokpfegfnpmhaaDoor
