/- The walk of the statement AccuseHonest. -/
import Derived.Test.YtnccbhndlnkboaaDoorOwnOs
import Derived.Test.YtnccbhndlnkboaaDoorOpenG
import Derived.Test.YtnccbhndlnkboaaDoorRf1
import Derived.Test.YtnccbhndlnkboaaDoorMoreA
namespace Go.Proofs.YtnccbhndlnkboaaDoor
open Go.RowKit Go.Shelf Cdc Sha
set_option linter.unusedVariables false
set_option linter.unusedSimpArgs false

theorem built_c5 (no t dy du : Int) (told : Bool) : Tryd.prog.built 27 [(0, .int .i64 no), (1, .int .i64 t), (2, .int .i64 dy), (3, .int .i64 du), (4, .bool told)] = some #[.int .i64 no, .int .i64 t, .int .i64 dy, .int .i64 du, .bool told] := by kernel_rfl
theorem built_o4 (dy y : Int) (b : Bool) (P : Option Addr) (q cp : Nat) : Tryd.prog.builtSlice 33 1 [(0, .agg #[.int .i64 dy, .int .i64 y, .bool b, .slice P q cp])] = some #[.int .i64 dy, .int .i64 y, .bool b, .slice P q cp] := by kernel_rfl

set_option maxRecDepth 100000 in
set_option maxHeartbeats 8000000 in
theorem hon_few (t f u no du ti : Int) (bl : List Bool) (sl : List Int) (told : Bool) (mo : List Op) (nb ns m cb cs c : Nat) (B S A : Option Addr) (hI : SdI ⟨t, f, bl, sl, u, told, no, du, ti, mo⟩) (hnb : bl.length = nb) (hns : sl.length = ns) (hm : mo.length = m) (hcb : nb ≤ cb) (hcs : ns ≤ cs) (hc : m ≤ c) (w : World) (hB : BoAt w B bl) (hS : InAt w S sl) (hA : OsAt w A mo) (hL : Laid w) (hf1 : fewS nb ns = false) : Calls Tryd.prog 8 #[.agg #[.int .i64 t, .int .i64 f, .slice B nb cb, .slice S ns cs, .int .u16 u, .bool told, .int .i64 no, .int .i64 du, .int .i64 ti, .slice A m c]] w fun e w' => e = .returned (.bool true) ∧ Below w.heap.size w w' := by
  have r1 := heap_alloc_new w (.cells #[.int .i64 t, .int .i64 f, .slice B nb cb, .slice S ns cs, .int .u16 u, .bool told, .int .i64 no, .int .i64 du, .int .i64 ti, .slice A m c] 60)
  have hB1 : Below w.heap.size w (w.alloc (.cells #[.int .i64 t, .int .i64 f, .slice B nb cb, .slice S ns cs, .int .u16 u, .bool told, .int .i64 no, .int .i64 du, .int .i64 ti, .slice A m c] 60)) := blow1 w _
  have hz1 : (w.alloc (.cells #[.int .i64 t, .int .i64 f, .slice B nb cb, .slice S ns cs, .int .u16 u, .bool told, .int .i64 no, .int .i64 du, .int .i64 ti, .slice A m c] 60)).heap.size = w.heap.size + 1 := by simp
  obtain ⟨W1, hW1⟩ : ∃ W1, W1 = (w.alloc (.cells #[.int .i64 t, .int .i64 f, .slice B nb cb, .slice S ns cs, .int .u16 u, .bool told, .int .i64 no, .int .i64 du, .int .i64 ti, .slice A m c] 60)) := ⟨_, rfl⟩
  rw [← hW1] at r1 hB1 hz1
  have hcl : Hid (∀ V, Below W1.heap.size W1 V → V.heap[w.heap.size]? = some (.cells #[.int .i64 t, .int .i64 f, .slice B nb cb, .slice S ns cs, .int .u16 u, .bool told, .int .i64 no, .int .i64 du, .int .i64 ti, .slice A m c] 60 (0, 0))) := Lib.hid fun V hV => (hV.block w.heap.size (by rw [hz1]; omega)).trans r1
  have hsd : Hid (∀ V : World, V.heap[w.heap.size]? = some (.cells #[.int .i64 t, .int .i64 f, .slice B nb cb, .slice S ns cs, .int .u16 u, .bool told, .int .i64 no, .int .i64 du, .int .i64 ti, .slice A m c] 60 (0, 0)) → V.cell? ⟨w.heap.size, 0, none⟩ = some (.int .i64 t) ∧ V.cell? ⟨w.heap.size, 1, none⟩ = some (.int .i64 f) ∧ V.cell? ⟨w.heap.size, 2, none⟩ = some (.slice B nb cb) ∧ V.cell? ⟨w.heap.size, 3, none⟩ = some (.slice S ns cs) ∧ V.cell? ⟨w.heap.size, 4, none⟩ = some (.int .u16 u) ∧ V.cell? ⟨w.heap.size, 5, none⟩ = some (.bool told) ∧ V.cell? ⟨w.heap.size, 6, none⟩ = some (.int .i64 no) ∧ V.cell? ⟨w.heap.size, 7, none⟩ = some (.int .i64 du) ∧ V.cell? ⟨w.heap.size, 8, none⟩ = some (.int .i64 ti) ∧ V.cell? ⟨w.heap.size, 9, none⟩ = some (.slice A m c)) := Lib.hid fun V h1 => ⟨by rw [cell_of_row _ _ _ _ _ _ h1]; rfl, by rw [cell_of_row _ _ _ _ _ _ h1]; rfl, by rw [cell_of_row _ _ _ _ _ _ h1]; rfl, by rw [cell_of_row _ _ _ _ _ _ h1]; rfl, by rw [cell_of_row _ _ _ _ _ _ h1]; rfl, by rw [cell_of_row _ _ _ _ _ _ h1]; rfl, by rw [cell_of_row _ _ _ _ _ _ h1]; rfl, by rw [cell_of_row _ _ _ _ _ _ h1]; rfl, by rw [cell_of_row _ _ _ _ _ _ h1]; rfl, by rw [cell_of_row _ _ _ _ _ _ h1]; rfl⟩
  have hSn : Hid (∀ V, Below w.heap.size w V → Calls Tryd.prog 10 #[] V fun e w' => e = .returned (.bool true) ∧ Below V.heap.size V w') := Lib.hid fun V hV => asane_any V (hL.below hV)
  have hFo : Hid (∀ V, Below w.heap.size w V → Calls Tryd.prog 11 #[.slice A m c] V fun e w' => e = .returned (.bool (few41 mo)) ∧ w' = V) := Lib.hid fun V hV => rfew41_any mo m hm A c hc V (hA.below hV)
  have hMk : Hid (∀ V, Below w.heap.size w V → Calls Tryd.prog 16 #[.int .i64 t, .int .i64 f, .slice B nb cb, .slice S ns cs] V fun e w' => e = .returned (.tuple #[.agg (slA (mkS t f nb ns bl sl)), .int .i64 (opE t f nb ns sl)]) ∧ Below V.heap.size V w') := Lib.hid fun V hV => make_any t f bl sl nb ns cb cs B S hnb hns hcb hcs (hnb ▸ hI.mb) (hns ▸ hI.ms) hI.t hI.sl V (hB.below hV) (hS.below hV) (hL.below hV)
  clear r1 hz1
  replace hB1 := Lib.hid hB1
  clear hI hB hS hA hL
  go_enter Tryd.func8, Tryd.ntmps8
  go_wp2_with fail
  rw [← hW1]
  refine (hSn.out _ hB1.out).mono ?_
  rintro e w3 ⟨rfl, hb3⟩
  have r3 := Lib.hid (hcl.out _ hb3)
  have HB3 := hB1.out.trans (hb3.mono hB1.out.size)
  obtain ⟨x0, x1, x2, x3, x4, x5, x6, x7, x8, x9⟩ := hsd.out _ r3.out
  go_wp2_with fail
  refine (rfew39_any nb ns cb cs B S w3).mono ?_
  rintro e w4 ⟨rfl, hw4⟩
  have hw4b := hw4.symm
  clear hw4
  subst hw4b
  rw [hf1]
  go_wp2_with fail
  go_ret
  exact ⟨rfl, HB3⟩
set_option maxRecDepth 100000 in
set_option maxHeartbeats 8000000 in
theorem hon_none (t f u no du ti : Int) (bl : List Bool) (sl : List Int) (told : Bool) (mo : List Op) (nb ns m cb cs c : Nat) (B S A : Option Addr) (hI : SdI ⟨t, f, bl, sl, u, told, no, du, ti, mo⟩) (hnb : bl.length = nb) (hns : sl.length = ns) (hm : mo.length = m) (hcb : nb ≤ cb) (hcs : ns ≤ cs) (hc : m ≤ c) (w : World) (hB : BoAt w B bl) (hS : InAt w S sl) (hA : OsAt w A mo) (hL : Laid w) (hf1 : fewS 0 ns = true) (h0 : nb = 0) : Calls Tryd.prog 8 #[.agg #[.int .i64 t, .int .i64 f, .slice B nb cb, .slice S ns cs, .int .u16 u, .bool told, .int .i64 no, .int .i64 du, .int .i64 ti, .slice A m c]] w fun e w' => e = .returned (.bool true) ∧ Below w.heap.size w w' := by
  subst h0
  have r1 := heap_alloc_new w (.cells #[.int .i64 t, .int .i64 f, .slice B 0 cb, .slice S ns cs, .int .u16 u, .bool told, .int .i64 no, .int .i64 du, .int .i64 ti, .slice A m c] 60)
  have hB1 : Below w.heap.size w (w.alloc (.cells #[.int .i64 t, .int .i64 f, .slice B 0 cb, .slice S ns cs, .int .u16 u, .bool told, .int .i64 no, .int .i64 du, .int .i64 ti, .slice A m c] 60)) := blow1 w _
  have hz1 : (w.alloc (.cells #[.int .i64 t, .int .i64 f, .slice B 0 cb, .slice S ns cs, .int .u16 u, .bool told, .int .i64 no, .int .i64 du, .int .i64 ti, .slice A m c] 60)).heap.size = w.heap.size + 1 := by simp
  obtain ⟨W1, hW1⟩ : ∃ W1, W1 = (w.alloc (.cells #[.int .i64 t, .int .i64 f, .slice B 0 cb, .slice S ns cs, .int .u16 u, .bool told, .int .i64 no, .int .i64 du, .int .i64 ti, .slice A m c] 60)) := ⟨_, rfl⟩
  rw [← hW1] at r1 hB1 hz1
  have hcl : Hid (∀ V, Below W1.heap.size W1 V → V.heap[w.heap.size]? = some (.cells #[.int .i64 t, .int .i64 f, .slice B 0 cb, .slice S ns cs, .int .u16 u, .bool told, .int .i64 no, .int .i64 du, .int .i64 ti, .slice A m c] 60 (0, 0))) := Lib.hid fun V hV => (hV.block w.heap.size (by rw [hz1]; omega)).trans r1
  have hsd : Hid (∀ V : World, V.heap[w.heap.size]? = some (.cells #[.int .i64 t, .int .i64 f, .slice B 0 cb, .slice S ns cs, .int .u16 u, .bool told, .int .i64 no, .int .i64 du, .int .i64 ti, .slice A m c] 60 (0, 0)) → V.cell? ⟨w.heap.size, 0, none⟩ = some (.int .i64 t) ∧ V.cell? ⟨w.heap.size, 1, none⟩ = some (.int .i64 f) ∧ V.cell? ⟨w.heap.size, 2, none⟩ = some (.slice B 0 cb) ∧ V.cell? ⟨w.heap.size, 3, none⟩ = some (.slice S ns cs) ∧ V.cell? ⟨w.heap.size, 4, none⟩ = some (.int .u16 u) ∧ V.cell? ⟨w.heap.size, 5, none⟩ = some (.bool told) ∧ V.cell? ⟨w.heap.size, 6, none⟩ = some (.int .i64 no) ∧ V.cell? ⟨w.heap.size, 7, none⟩ = some (.int .i64 du) ∧ V.cell? ⟨w.heap.size, 8, none⟩ = some (.int .i64 ti) ∧ V.cell? ⟨w.heap.size, 9, none⟩ = some (.slice A m c)) := Lib.hid fun V h1 => ⟨by rw [cell_of_row _ _ _ _ _ _ h1]; rfl, by rw [cell_of_row _ _ _ _ _ _ h1]; rfl, by rw [cell_of_row _ _ _ _ _ _ h1]; rfl, by rw [cell_of_row _ _ _ _ _ _ h1]; rfl, by rw [cell_of_row _ _ _ _ _ _ h1]; rfl, by rw [cell_of_row _ _ _ _ _ _ h1]; rfl, by rw [cell_of_row _ _ _ _ _ _ h1]; rfl, by rw [cell_of_row _ _ _ _ _ _ h1]; rfl, by rw [cell_of_row _ _ _ _ _ _ h1]; rfl, by rw [cell_of_row _ _ _ _ _ _ h1]; rfl⟩
  have hSn : Hid (∀ V, Below w.heap.size w V → Calls Tryd.prog 10 #[] V fun e w' => e = .returned (.bool true) ∧ Below V.heap.size V w') := Lib.hid fun V hV => asane_any V (hL.below hV)
  have hFo : Hid (∀ V, Below w.heap.size w V → Calls Tryd.prog 11 #[.slice A m c] V fun e w' => e = .returned (.bool (few41 mo)) ∧ w' = V) := Lib.hid fun V hV => rfew41_any mo m hm A c hc V (hA.below hV)
  have hMk : Hid (∀ V, Below w.heap.size w V → Calls Tryd.prog 16 #[.int .i64 t, .int .i64 f, .slice B 0 cb, .slice S ns cs] V fun e w' => e = .returned (.tuple #[.agg (slA (mkS t f 0 ns bl sl)), .int .i64 (opE t f 0 ns sl)]) ∧ Below V.heap.size V w') := Lib.hid fun V hV => make_any t f bl sl 0 ns cb cs B S hnb hns hcb hcs (hnb ▸ hI.mb) (hns ▸ hI.ms) hI.t hI.sl V (hB.below hV) (hS.below hV) (hL.below hV)
  clear r1 hz1
  replace hB1 := Lib.hid hB1
  clear hI hB hS hA hL
  go_enter Tryd.func8, Tryd.ntmps8
  go_wp2_with fail
  rw [← hW1]
  refine (hSn.out _ hB1.out).mono ?_
  rintro e w3 ⟨rfl, hb3⟩
  have r3 := Lib.hid (hcl.out _ hb3)
  have HB3 := hB1.out.trans (hb3.mono hB1.out.size)
  obtain ⟨x0, x1, x2, x3, x4, x5, x6, x7, x8, x9⟩ := hsd.out _ r3.out
  go_wp2_with fail
  refine (rfew39_any 0 ns cb cs B S w3).mono ?_
  rintro e w4 ⟨rfl, hw4⟩
  have hw4b := hw4.symm
  clear hw4
  subst hw4b
  rw [hf1]
  go_wp2_with fail
  go_ret
  exact ⟨rfl, HB3⟩
set_option maxRecDepth 100000 in
set_option maxHeartbeats 8000000 in
theorem hon_long (t f u no du ti : Int) (bl : List Bool) (sl : List Int) (told : Bool) (mo : List Op) (nb ns m cb cs c : Nat) (B S A : Option Addr) (hI : SdI ⟨t, f, bl, sl, u, told, no, du, ti, mo⟩) (hnb : bl.length = nb) (hns : sl.length = ns) (hm : mo.length = m) (hcb : nb ≤ cb) (hcs : ns ≤ cs) (hc : m ≤ c) (w : World) (hB : BoAt w B bl) (hS : InAt w S sl) (hA : OsAt w A mo) (hL : Laid w) (hf1 : fewS nb ns = true) (h0 : 0 < nb) (h1 : 64 < nb) : Calls Tryd.prog 8 #[.agg #[.int .i64 t, .int .i64 f, .slice B nb cb, .slice S ns cs, .int .u16 u, .bool told, .int .i64 no, .int .i64 du, .int .i64 ti, .slice A m c]] w fun e w' => e = .returned (.bool true) ∧ Below w.heap.size w w' := by
  have r1 := heap_alloc_new w (.cells #[.int .i64 t, .int .i64 f, .slice B nb cb, .slice S ns cs, .int .u16 u, .bool told, .int .i64 no, .int .i64 du, .int .i64 ti, .slice A m c] 60)
  have hB1 : Below w.heap.size w (w.alloc (.cells #[.int .i64 t, .int .i64 f, .slice B nb cb, .slice S ns cs, .int .u16 u, .bool told, .int .i64 no, .int .i64 du, .int .i64 ti, .slice A m c] 60)) := blow1 w _
  have hz1 : (w.alloc (.cells #[.int .i64 t, .int .i64 f, .slice B nb cb, .slice S ns cs, .int .u16 u, .bool told, .int .i64 no, .int .i64 du, .int .i64 ti, .slice A m c] 60)).heap.size = w.heap.size + 1 := by simp
  obtain ⟨W1, hW1⟩ : ∃ W1, W1 = (w.alloc (.cells #[.int .i64 t, .int .i64 f, .slice B nb cb, .slice S ns cs, .int .u16 u, .bool told, .int .i64 no, .int .i64 du, .int .i64 ti, .slice A m c] 60)) := ⟨_, rfl⟩
  rw [← hW1] at r1 hB1 hz1
  have hcl : Hid (∀ V, Below W1.heap.size W1 V → V.heap[w.heap.size]? = some (.cells #[.int .i64 t, .int .i64 f, .slice B nb cb, .slice S ns cs, .int .u16 u, .bool told, .int .i64 no, .int .i64 du, .int .i64 ti, .slice A m c] 60 (0, 0))) := Lib.hid fun V hV => (hV.block w.heap.size (by rw [hz1]; omega)).trans r1
  have hsd : Hid (∀ V : World, V.heap[w.heap.size]? = some (.cells #[.int .i64 t, .int .i64 f, .slice B nb cb, .slice S ns cs, .int .u16 u, .bool told, .int .i64 no, .int .i64 du, .int .i64 ti, .slice A m c] 60 (0, 0)) → V.cell? ⟨w.heap.size, 0, none⟩ = some (.int .i64 t) ∧ V.cell? ⟨w.heap.size, 1, none⟩ = some (.int .i64 f) ∧ V.cell? ⟨w.heap.size, 2, none⟩ = some (.slice B nb cb) ∧ V.cell? ⟨w.heap.size, 3, none⟩ = some (.slice S ns cs) ∧ V.cell? ⟨w.heap.size, 4, none⟩ = some (.int .u16 u) ∧ V.cell? ⟨w.heap.size, 5, none⟩ = some (.bool told) ∧ V.cell? ⟨w.heap.size, 6, none⟩ = some (.int .i64 no) ∧ V.cell? ⟨w.heap.size, 7, none⟩ = some (.int .i64 du) ∧ V.cell? ⟨w.heap.size, 8, none⟩ = some (.int .i64 ti) ∧ V.cell? ⟨w.heap.size, 9, none⟩ = some (.slice A m c)) := Lib.hid fun V h1 => ⟨by rw [cell_of_row _ _ _ _ _ _ h1]; rfl, by rw [cell_of_row _ _ _ _ _ _ h1]; rfl, by rw [cell_of_row _ _ _ _ _ _ h1]; rfl, by rw [cell_of_row _ _ _ _ _ _ h1]; rfl, by rw [cell_of_row _ _ _ _ _ _ h1]; rfl, by rw [cell_of_row _ _ _ _ _ _ h1]; rfl, by rw [cell_of_row _ _ _ _ _ _ h1]; rfl, by rw [cell_of_row _ _ _ _ _ _ h1]; rfl, by rw [cell_of_row _ _ _ _ _ _ h1]; rfl, by rw [cell_of_row _ _ _ _ _ _ h1]; rfl⟩
  have hSn : Hid (∀ V, Below w.heap.size w V → Calls Tryd.prog 10 #[] V fun e w' => e = .returned (.bool true) ∧ Below V.heap.size V w') := Lib.hid fun V hV => asane_any V (hL.below hV)
  have hFo : Hid (∀ V, Below w.heap.size w V → Calls Tryd.prog 11 #[.slice A m c] V fun e w' => e = .returned (.bool (few41 mo)) ∧ w' = V) := Lib.hid fun V hV => rfew41_any mo m hm A c hc V (hA.below hV)
  have hMk : Hid (∀ V, Below w.heap.size w V → Calls Tryd.prog 16 #[.int .i64 t, .int .i64 f, .slice B nb cb, .slice S ns cs] V fun e w' => e = .returned (.tuple #[.agg (slA (mkS t f nb ns bl sl)), .int .i64 (opE t f nb ns sl)]) ∧ Below V.heap.size V w') := Lib.hid fun V hV => make_any t f bl sl nb ns cb cs B S hnb hns hcb hcs (hnb ▸ hI.mb) (hns ▸ hI.ms) hI.t hI.sl V (hB.below hV) (hS.below hV) (hL.below hV)
  clear r1 hz1
  replace hB1 := Lib.hid hB1
  have z1 : ((nb : Int) == 0) = false := by simp; omega
  have z2 : (nb == 0) = false := by simp; omega
  have z3 : decide (nb = 0) = false := decide_eq_false (by omega)
  have d64 : decide ((64 : Int) < (nb : Int)) = true := decide_eq_true (by omega)
  clear hI hB hS hA hL
  go_enter Tryd.func8, Tryd.ntmps8
  go_wp2_with fail
  rw [← hW1]
  refine (hSn.out _ hB1.out).mono ?_
  rintro e w3 ⟨rfl, hb3⟩
  have r3 := Lib.hid (hcl.out _ hb3)
  have HB3 := hB1.out.trans (hb3.mono hB1.out.size)
  obtain ⟨x0, x1, x2, x3, x4, x5, x6, x7, x8, x9⟩ := hsd.out _ r3.out
  go_wp2_with fail
  refine (rfew39_any nb ns cb cs B S w3).mono ?_
  rintro e w4 ⟨rfl, hw4⟩
  have hw4b := hw4.symm
  clear hw4
  subst hw4b
  rw [hf1]
  go_wp2_with fail
  go_ret
  exact ⟨rfl, HB3⟩
set_option maxRecDepth 100000 in
set_option maxHeartbeats 8000000 in
theorem hon_more (t f u no du ti : Int) (bl : List Bool) (sl : List Int) (told : Bool) (mo : List Op) (nb ns m cb cs c : Nat) (B S A : Option Addr) (hI : SdI ⟨t, f, bl, sl, u, told, no, du, ti, mo⟩) (hnb : bl.length = nb) (hns : sl.length = ns) (hm : mo.length = m) (hcb : nb ≤ cb) (hcs : ns ≤ cs) (hc : m ≤ c) (w : World) (hB : BoAt w B bl) (hS : InAt w S sl) (hA : OsAt w A mo) (hL : Laid w) (hf1 : fewS nb ns = true) (h0 : 0 < nb) (h1 : ¬ 64 < nb) (hf2 : few41 mo = false) : Calls Tryd.prog 8 #[.agg #[.int .i64 t, .int .i64 f, .slice B nb cb, .slice S ns cs, .int .u16 u, .bool told, .int .i64 no, .int .i64 du, .int .i64 ti, .slice A m c]] w fun e w' => e = .returned (.bool true) ∧ Below w.heap.size w w' := by
  have r1 := heap_alloc_new w (.cells #[.int .i64 t, .int .i64 f, .slice B nb cb, .slice S ns cs, .int .u16 u, .bool told, .int .i64 no, .int .i64 du, .int .i64 ti, .slice A m c] 60)
  have hB1 : Below w.heap.size w (w.alloc (.cells #[.int .i64 t, .int .i64 f, .slice B nb cb, .slice S ns cs, .int .u16 u, .bool told, .int .i64 no, .int .i64 du, .int .i64 ti, .slice A m c] 60)) := blow1 w _
  have hz1 : (w.alloc (.cells #[.int .i64 t, .int .i64 f, .slice B nb cb, .slice S ns cs, .int .u16 u, .bool told, .int .i64 no, .int .i64 du, .int .i64 ti, .slice A m c] 60)).heap.size = w.heap.size + 1 := by simp
  obtain ⟨W1, hW1⟩ : ∃ W1, W1 = (w.alloc (.cells #[.int .i64 t, .int .i64 f, .slice B nb cb, .slice S ns cs, .int .u16 u, .bool told, .int .i64 no, .int .i64 du, .int .i64 ti, .slice A m c] 60)) := ⟨_, rfl⟩
  rw [← hW1] at r1 hB1 hz1
  have hcl : Hid (∀ V, Below W1.heap.size W1 V → V.heap[w.heap.size]? = some (.cells #[.int .i64 t, .int .i64 f, .slice B nb cb, .slice S ns cs, .int .u16 u, .bool told, .int .i64 no, .int .i64 du, .int .i64 ti, .slice A m c] 60 (0, 0))) := Lib.hid fun V hV => (hV.block w.heap.size (by rw [hz1]; omega)).trans r1
  have hsd : Hid (∀ V : World, V.heap[w.heap.size]? = some (.cells #[.int .i64 t, .int .i64 f, .slice B nb cb, .slice S ns cs, .int .u16 u, .bool told, .int .i64 no, .int .i64 du, .int .i64 ti, .slice A m c] 60 (0, 0)) → V.cell? ⟨w.heap.size, 0, none⟩ = some (.int .i64 t) ∧ V.cell? ⟨w.heap.size, 1, none⟩ = some (.int .i64 f) ∧ V.cell? ⟨w.heap.size, 2, none⟩ = some (.slice B nb cb) ∧ V.cell? ⟨w.heap.size, 3, none⟩ = some (.slice S ns cs) ∧ V.cell? ⟨w.heap.size, 4, none⟩ = some (.int .u16 u) ∧ V.cell? ⟨w.heap.size, 5, none⟩ = some (.bool told) ∧ V.cell? ⟨w.heap.size, 6, none⟩ = some (.int .i64 no) ∧ V.cell? ⟨w.heap.size, 7, none⟩ = some (.int .i64 du) ∧ V.cell? ⟨w.heap.size, 8, none⟩ = some (.int .i64 ti) ∧ V.cell? ⟨w.heap.size, 9, none⟩ = some (.slice A m c)) := Lib.hid fun V h1 => ⟨by rw [cell_of_row _ _ _ _ _ _ h1]; rfl, by rw [cell_of_row _ _ _ _ _ _ h1]; rfl, by rw [cell_of_row _ _ _ _ _ _ h1]; rfl, by rw [cell_of_row _ _ _ _ _ _ h1]; rfl, by rw [cell_of_row _ _ _ _ _ _ h1]; rfl, by rw [cell_of_row _ _ _ _ _ _ h1]; rfl, by rw [cell_of_row _ _ _ _ _ _ h1]; rfl, by rw [cell_of_row _ _ _ _ _ _ h1]; rfl, by rw [cell_of_row _ _ _ _ _ _ h1]; rfl, by rw [cell_of_row _ _ _ _ _ _ h1]; rfl⟩
  have hSn : Hid (∀ V, Below w.heap.size w V → Calls Tryd.prog 10 #[] V fun e w' => e = .returned (.bool true) ∧ Below V.heap.size V w') := Lib.hid fun V hV => asane_any V (hL.below hV)
  have hFo : Hid (∀ V, Below w.heap.size w V → Calls Tryd.prog 11 #[.slice A m c] V fun e w' => e = .returned (.bool (few41 mo)) ∧ w' = V) := Lib.hid fun V hV => rfew41_any mo m hm A c hc V (hA.below hV)
  have hMk : Hid (∀ V, Below w.heap.size w V → Calls Tryd.prog 16 #[.int .i64 t, .int .i64 f, .slice B nb cb, .slice S ns cs] V fun e w' => e = .returned (.tuple #[.agg (slA (mkS t f nb ns bl sl)), .int .i64 (opE t f nb ns sl)]) ∧ Below V.heap.size V w') := Lib.hid fun V hV => make_any t f bl sl nb ns cb cs B S hnb hns hcb hcs (hnb ▸ hI.mb) (hns ▸ hI.ms) hI.t hI.sl V (hB.below hV) (hS.below hV) (hL.below hV)
  clear r1 hz1
  replace hB1 := Lib.hid hB1
  have z1 : ((nb : Int) == 0) = false := by simp; omega
  have z2 : (nb == 0) = false := by simp; omega
  have z3 : decide (nb = 0) = false := decide_eq_false (by omega)
  have d64 : decide ((64 : Int) < (nb : Int)) = false := decide_eq_false (by omega)
  clear hI hB hS hA hL
  go_enter Tryd.func8, Tryd.ntmps8
  go_wp2_with fail
  rw [← hW1]
  refine (hSn.out _ hB1.out).mono ?_
  rintro e w3 ⟨rfl, hb3⟩
  have r3 := Lib.hid (hcl.out _ hb3)
  have HB3 := hB1.out.trans (hb3.mono hB1.out.size)
  obtain ⟨x0, x1, x2, x3, x4, x5, x6, x7, x8, x9⟩ := hsd.out _ r3.out
  go_wp2_with fail
  refine (rfew39_any nb ns cb cs B S w3).mono ?_
  rintro e w4 ⟨rfl, hw4⟩
  have hw4b := hw4.symm
  clear hw4
  subst hw4b
  rw [hf1]
  go_wp2_with fail
  refine (hFo.out _ HB3).mono ?_
  rintro e w4 ⟨rfl, hw4⟩
  have hw4b := hw4.symm
  clear hw4
  subst hw4b
  rw [hf2]
  go_wp2_with fail
  go_ret
  exact ⟨rfl, HB3⟩
set_option maxRecDepth 100000 in
set_option maxHeartbeats 8000000 in
theorem hon_many (t f u no du ti : Int) (bl : List Bool) (sl : List Int) (told : Bool) (mo : List Op) (nb ns m cb cs c : Nat) (B S A : Option Addr) (hI : SdI ⟨t, f, bl, sl, u, told, no, du, ti, mo⟩) (hnb : bl.length = nb) (hns : sl.length = ns) (hm : mo.length = m) (hcb : nb ≤ cb) (hcs : ns ≤ cs) (hc : m ≤ c) (w : World) (hB : BoAt w B bl) (hS : InAt w S sl) (hA : OsAt w A mo) (hL : Laid w) (hf1 : fewS nb ns = true) (h0 : 0 < nb) (h1 : ¬ 64 < nb) (hf2 : few41 mo = true) (h2 : 63 < m) : Calls Tryd.prog 8 #[.agg #[.int .i64 t, .int .i64 f, .slice B nb cb, .slice S ns cs, .int .u16 u, .bool told, .int .i64 no, .int .i64 du, .int .i64 ti, .slice A m c]] w fun e w' => e = .returned (.bool true) ∧ Below w.heap.size w w' := by
  have r1 := heap_alloc_new w (.cells #[.int .i64 t, .int .i64 f, .slice B nb cb, .slice S ns cs, .int .u16 u, .bool told, .int .i64 no, .int .i64 du, .int .i64 ti, .slice A m c] 60)
  have hB1 : Below w.heap.size w (w.alloc (.cells #[.int .i64 t, .int .i64 f, .slice B nb cb, .slice S ns cs, .int .u16 u, .bool told, .int .i64 no, .int .i64 du, .int .i64 ti, .slice A m c] 60)) := blow1 w _
  have hz1 : (w.alloc (.cells #[.int .i64 t, .int .i64 f, .slice B nb cb, .slice S ns cs, .int .u16 u, .bool told, .int .i64 no, .int .i64 du, .int .i64 ti, .slice A m c] 60)).heap.size = w.heap.size + 1 := by simp
  obtain ⟨W1, hW1⟩ : ∃ W1, W1 = (w.alloc (.cells #[.int .i64 t, .int .i64 f, .slice B nb cb, .slice S ns cs, .int .u16 u, .bool told, .int .i64 no, .int .i64 du, .int .i64 ti, .slice A m c] 60)) := ⟨_, rfl⟩
  rw [← hW1] at r1 hB1 hz1
  have hcl : Hid (∀ V, Below W1.heap.size W1 V → V.heap[w.heap.size]? = some (.cells #[.int .i64 t, .int .i64 f, .slice B nb cb, .slice S ns cs, .int .u16 u, .bool told, .int .i64 no, .int .i64 du, .int .i64 ti, .slice A m c] 60 (0, 0))) := Lib.hid fun V hV => (hV.block w.heap.size (by rw [hz1]; omega)).trans r1
  have hsd : Hid (∀ V : World, V.heap[w.heap.size]? = some (.cells #[.int .i64 t, .int .i64 f, .slice B nb cb, .slice S ns cs, .int .u16 u, .bool told, .int .i64 no, .int .i64 du, .int .i64 ti, .slice A m c] 60 (0, 0)) → V.cell? ⟨w.heap.size, 0, none⟩ = some (.int .i64 t) ∧ V.cell? ⟨w.heap.size, 1, none⟩ = some (.int .i64 f) ∧ V.cell? ⟨w.heap.size, 2, none⟩ = some (.slice B nb cb) ∧ V.cell? ⟨w.heap.size, 3, none⟩ = some (.slice S ns cs) ∧ V.cell? ⟨w.heap.size, 4, none⟩ = some (.int .u16 u) ∧ V.cell? ⟨w.heap.size, 5, none⟩ = some (.bool told) ∧ V.cell? ⟨w.heap.size, 6, none⟩ = some (.int .i64 no) ∧ V.cell? ⟨w.heap.size, 7, none⟩ = some (.int .i64 du) ∧ V.cell? ⟨w.heap.size, 8, none⟩ = some (.int .i64 ti) ∧ V.cell? ⟨w.heap.size, 9, none⟩ = some (.slice A m c)) := Lib.hid fun V h1 => ⟨by rw [cell_of_row _ _ _ _ _ _ h1]; rfl, by rw [cell_of_row _ _ _ _ _ _ h1]; rfl, by rw [cell_of_row _ _ _ _ _ _ h1]; rfl, by rw [cell_of_row _ _ _ _ _ _ h1]; rfl, by rw [cell_of_row _ _ _ _ _ _ h1]; rfl, by rw [cell_of_row _ _ _ _ _ _ h1]; rfl, by rw [cell_of_row _ _ _ _ _ _ h1]; rfl, by rw [cell_of_row _ _ _ _ _ _ h1]; rfl, by rw [cell_of_row _ _ _ _ _ _ h1]; rfl, by rw [cell_of_row _ _ _ _ _ _ h1]; rfl⟩
  have hSn : Hid (∀ V, Below w.heap.size w V → Calls Tryd.prog 10 #[] V fun e w' => e = .returned (.bool true) ∧ Below V.heap.size V w') := Lib.hid fun V hV => asane_any V (hL.below hV)
  have hFo : Hid (∀ V, Below w.heap.size w V → Calls Tryd.prog 11 #[.slice A m c] V fun e w' => e = .returned (.bool (few41 mo)) ∧ w' = V) := Lib.hid fun V hV => rfew41_any mo m hm A c hc V (hA.below hV)
  have hMk : Hid (∀ V, Below w.heap.size w V → Calls Tryd.prog 16 #[.int .i64 t, .int .i64 f, .slice B nb cb, .slice S ns cs] V fun e w' => e = .returned (.tuple #[.agg (slA (mkS t f nb ns bl sl)), .int .i64 (opE t f nb ns sl)]) ∧ Below V.heap.size V w') := Lib.hid fun V hV => make_any t f bl sl nb ns cb cs B S hnb hns hcb hcs (hnb ▸ hI.mb) (hns ▸ hI.ms) hI.t hI.sl V (hB.below hV) (hS.below hV) (hL.below hV)
  clear r1 hz1
  replace hB1 := Lib.hid hB1
  have z1 : ((nb : Int) == 0) = false := by simp; omega
  have z2 : (nb == 0) = false := by simp; omega
  have z3 : decide (nb = 0) = false := decide_eq_false (by omega)
  have d64 : decide ((64 : Int) < (nb : Int)) = false := decide_eq_false (by omega)
  have d63 : decide ((63 : Int) < (m : Int)) = true := decide_eq_true (by omega)
  clear hI hB hS hA hL
  go_enter Tryd.func8, Tryd.ntmps8
  go_wp2_with fail
  rw [← hW1]
  refine (hSn.out _ hB1.out).mono ?_
  rintro e w3 ⟨rfl, hb3⟩
  have r3 := Lib.hid (hcl.out _ hb3)
  have HB3 := hB1.out.trans (hb3.mono hB1.out.size)
  obtain ⟨x0, x1, x2, x3, x4, x5, x6, x7, x8, x9⟩ := hsd.out _ r3.out
  go_wp2_with fail
  refine (rfew39_any nb ns cb cs B S w3).mono ?_
  rintro e w4 ⟨rfl, hw4⟩
  have hw4b := hw4.symm
  clear hw4
  subst hw4b
  rw [hf1]
  go_wp2_with fail
  refine (hFo.out _ HB3).mono ?_
  rintro e w4 ⟨rfl, hw4⟩
  have hw4b := hw4.symm
  clear hw4
  subst hw4b
  rw [hf2]
  go_wp2_with fail
  go_ret
  exact ⟨rfl, HB3⟩
set_option maxRecDepth 100000 in
set_option maxHeartbeats 8000000 in
theorem hon_err (t f u no du ti : Int) (bl : List Bool) (sl : List Int) (told : Bool) (mo : List Op) (nb ns m cb cs c : Nat) (B S A : Option Addr) (hI : SdI ⟨t, f, bl, sl, u, told, no, du, ti, mo⟩) (hnb : bl.length = nb) (hns : sl.length = ns) (hm : mo.length = m) (hcb : nb ≤ cb) (hcs : ns ≤ cs) (hc : m ≤ c) (w : World) (hB : BoAt w B bl) (hS : InAt w S sl) (hA : OsAt w A mo) (hL : Laid w) (hf1 : fewS nb ns = true) (h0 : 0 < nb) (h1 : ¬ 64 < nb) (hf2 : few41 mo = true) (h2 : ¬ 63 < m) (he : opE t f nb ns sl ≠ 0) : Calls Tryd.prog 8 #[.agg #[.int .i64 t, .int .i64 f, .slice B nb cb, .slice S ns cs, .int .u16 u, .bool told, .int .i64 no, .int .i64 du, .int .i64 ti, .slice A m c]] w fun e w' => e = .returned (.bool true) ∧ Below w.heap.size w w' := by
  have r1 := heap_alloc_new w (.cells #[.int .i64 t, .int .i64 f, .slice B nb cb, .slice S ns cs, .int .u16 u, .bool told, .int .i64 no, .int .i64 du, .int .i64 ti, .slice A m c] 60)
  have hB1 : Below w.heap.size w (w.alloc (.cells #[.int .i64 t, .int .i64 f, .slice B nb cb, .slice S ns cs, .int .u16 u, .bool told, .int .i64 no, .int .i64 du, .int .i64 ti, .slice A m c] 60)) := blow1 w _
  have hz1 : (w.alloc (.cells #[.int .i64 t, .int .i64 f, .slice B nb cb, .slice S ns cs, .int .u16 u, .bool told, .int .i64 no, .int .i64 du, .int .i64 ti, .slice A m c] 60)).heap.size = w.heap.size + 1 := by simp
  obtain ⟨W1, hW1⟩ : ∃ W1, W1 = (w.alloc (.cells #[.int .i64 t, .int .i64 f, .slice B nb cb, .slice S ns cs, .int .u16 u, .bool told, .int .i64 no, .int .i64 du, .int .i64 ti, .slice A m c] 60)) := ⟨_, rfl⟩
  rw [← hW1] at r1 hB1 hz1
  have hcl : Hid (∀ V, Below W1.heap.size W1 V → V.heap[w.heap.size]? = some (.cells #[.int .i64 t, .int .i64 f, .slice B nb cb, .slice S ns cs, .int .u16 u, .bool told, .int .i64 no, .int .i64 du, .int .i64 ti, .slice A m c] 60 (0, 0))) := Lib.hid fun V hV => (hV.block w.heap.size (by rw [hz1]; omega)).trans r1
  have hsd : Hid (∀ V : World, V.heap[w.heap.size]? = some (.cells #[.int .i64 t, .int .i64 f, .slice B nb cb, .slice S ns cs, .int .u16 u, .bool told, .int .i64 no, .int .i64 du, .int .i64 ti, .slice A m c] 60 (0, 0)) → V.cell? ⟨w.heap.size, 0, none⟩ = some (.int .i64 t) ∧ V.cell? ⟨w.heap.size, 1, none⟩ = some (.int .i64 f) ∧ V.cell? ⟨w.heap.size, 2, none⟩ = some (.slice B nb cb) ∧ V.cell? ⟨w.heap.size, 3, none⟩ = some (.slice S ns cs) ∧ V.cell? ⟨w.heap.size, 4, none⟩ = some (.int .u16 u) ∧ V.cell? ⟨w.heap.size, 5, none⟩ = some (.bool told) ∧ V.cell? ⟨w.heap.size, 6, none⟩ = some (.int .i64 no) ∧ V.cell? ⟨w.heap.size, 7, none⟩ = some (.int .i64 du) ∧ V.cell? ⟨w.heap.size, 8, none⟩ = some (.int .i64 ti) ∧ V.cell? ⟨w.heap.size, 9, none⟩ = some (.slice A m c)) := Lib.hid fun V h1 => ⟨by rw [cell_of_row _ _ _ _ _ _ h1]; rfl, by rw [cell_of_row _ _ _ _ _ _ h1]; rfl, by rw [cell_of_row _ _ _ _ _ _ h1]; rfl, by rw [cell_of_row _ _ _ _ _ _ h1]; rfl, by rw [cell_of_row _ _ _ _ _ _ h1]; rfl, by rw [cell_of_row _ _ _ _ _ _ h1]; rfl, by rw [cell_of_row _ _ _ _ _ _ h1]; rfl, by rw [cell_of_row _ _ _ _ _ _ h1]; rfl, by rw [cell_of_row _ _ _ _ _ _ h1]; rfl, by rw [cell_of_row _ _ _ _ _ _ h1]; rfl⟩
  have hSn : Hid (∀ V, Below w.heap.size w V → Calls Tryd.prog 10 #[] V fun e w' => e = .returned (.bool true) ∧ Below V.heap.size V w') := Lib.hid fun V hV => asane_any V (hL.below hV)
  have hFo : Hid (∀ V, Below w.heap.size w V → Calls Tryd.prog 11 #[.slice A m c] V fun e w' => e = .returned (.bool (few41 mo)) ∧ w' = V) := Lib.hid fun V hV => rfew41_any mo m hm A c hc V (hA.below hV)
  have hMk : Hid (∀ V, Below w.heap.size w V → Calls Tryd.prog 16 #[.int .i64 t, .int .i64 f, .slice B nb cb, .slice S ns cs] V fun e w' => e = .returned (.tuple #[.agg (slA (mkS t f nb ns bl sl)), .int .i64 (opE t f nb ns sl)]) ∧ Below V.heap.size V w') := Lib.hid fun V hV => make_any t f bl sl nb ns cb cs B S hnb hns hcb hcs (hnb ▸ hI.mb) (hns ▸ hI.ms) hI.t hI.sl V (hB.below hV) (hS.below hV) (hL.below hV)
  clear r1 hz1
  replace hB1 := Lib.hid hB1
  have z1 : ((nb : Int) == 0) = false := by simp; omega
  have z2 : (nb == 0) = false := by simp; omega
  have z3 : decide (nb = 0) = false := decide_eq_false (by omega)
  have d64 : decide ((64 : Int) < (nb : Int)) = false := decide_eq_false (by omega)
  have d63 : decide ((63 : Int) < (m : Int)) = false := decide_eq_false (by omega)
  obtain ⟨E9, hE9⟩ : ∃ E9, opE t f nb ns sl = E9 := ⟨_, rfl⟩
  obtain ⟨S9, hS9⟩ : ∃ S9, mkS t f nb ns bl sl = S9 := ⟨_, rfl⟩
  have s32 : S9.root.length = 32 := hS9 ▸ (mkS_I hnb hns hI.t).root
  have pi := Lib.hid (sl_info (s := S9) s32)
  have pl : Hid ((Tryd.prog.info? 25).map (·.size) = some (slC S9).length) := Lib.hid (by have := pi.out; simpa [slA] using this)
  have pz := Lib.hid (show (slA slZ).size = (slA S9).size by rw [slA_size (s := slZ) zero32_len, slA_size (s := S9) s32])
  have po := Lib.hid (slA_one S9)
  rw [hS9] at hMk
  rw [hE9] at hMk he
  have z9 : (E9 != 0) = true := by simpa using he
  clear he hE9 hS9 s32
  clear hI hB hS hA hL
  go_enter Tryd.func8, Tryd.ntmps8
  go_wp2_with fail
  rw [← hW1]
  refine (hSn.out _ hB1.out).mono ?_
  rintro e w3 ⟨rfl, hb3⟩
  have r3 := Lib.hid (hcl.out _ hb3)
  have HB3 := hB1.out.trans (hb3.mono hB1.out.size)
  obtain ⟨x0, x1, x2, x3, x4, x5, x6, x7, x8, x9⟩ := hsd.out _ r3.out
  go_wp2_with fail
  refine (rfew39_any nb ns cb cs B S w3).mono ?_
  rintro e w4 ⟨rfl, hw4⟩
  have hw4b := hw4.symm
  clear hw4
  subst hw4b
  rw [hf1]
  go_wp2_with fail
  refine (hFo.out _ HB3).mono ?_
  rintro e w4 ⟨rfl, hw4⟩
  have hw4b := hw4.symm
  clear hw4
  subst hw4b
  rw [hf2]
  go_wp2_with fail
  refine (hMk.out _ HB3).mono ?_
  rintro e w5 ⟨rfl, hb5⟩
  have HB5 := HB3.trans (hb5.mono HB3.size)
  have r5 := Lib.hid ((hb5.block _ (Array.getElem?_eq_some_iff.1 r3.out).1).trans r3.out)
  clear x0 x1 x2 x3 x4 x5 x6 x7 x8 x9
  go_wp2_with (refine wpList_set_row (by rfl) 25 (.tmp 3) (.tmp 54) (by rfl) (by rfl) w5.heap.size (slA S9) (by rfl) (by rfl) 25 _ (heap_alloc_new w5 _) pi.out pz.out po.out ?_; intro w6 hd6 hz6 hg6; have hbn := newrow_below hg6; clear hg6 hz6)
  have HB6 := HB5.trans (hbn.mono HB5.size)
  go_wp2_with fail
  go_ret
  exact ⟨rfl, HB6⟩
set_option maxRecDepth 100000 in
set_option maxHeartbeats 8000000 in
theorem hon_main (gB oB : Nat) (t f u no du ti : Int) (bl : List Bool) (sl : List Int) (told : Bool) (mo : List Op) (nb ns m cb cs c : Nat) (S A : Option Addr) (hI : SdI ⟨t, f, bl, sl, u, told, no, du, ti, mo⟩) (hnb : bl.length = nb) (hns : sl.length = ns) (hm : mo.length = m) (hcb : nb ≤ cb) (hcs : ns ≤ cs) (hc : m ≤ c) (w : World) (hB : BoAt w (some ⟨gB, oB, none⟩) bl) (hS : InAt w S sl) (hA : OsAt w A mo) (hL : Laid w) (i : Nat) (dy : Int) (b : Bool) (hf1 : fewS nb ns = true) (h0 : 0 < nb) (h1 : ¬ 64 < nb) (hf2 : few41 mo = true) (h2 : ¬ 63 < m) (he : opE t f nb ns sl = 0) (hil : i < nb) (hdy : f + (i : Int) = dy) (hbi : bl[i]? = some b) (hcB : w.cell? ⟨gB, oB + i, none⟩ = some (.bool b)) (hmod : Int.tmod u (nb : Int) = (i : Int)) (hmod2 : u % (nb : Int) = (i : Int)) : Calls Tryd.prog 8 #[.agg #[.int .i64 t, .int .i64 f, .slice (some ⟨gB, oB, none⟩) nb cb, .slice S ns cs, .int .u16 u, .bool told, .int .i64 no, .int .i64 du, .int .i64 ti, .slice A m c]] w fun e w' => e = .returned (.bool true) ∧ Below w.heap.size w w' := by
  have r1 := heap_alloc_new w (.cells #[.int .i64 t, .int .i64 f, .slice (some ⟨gB, oB, none⟩) nb cb, .slice S ns cs, .int .u16 u, .bool told, .int .i64 no, .int .i64 du, .int .i64 ti, .slice A m c] 60)
  have hB1 : Below w.heap.size w (w.alloc (.cells #[.int .i64 t, .int .i64 f, .slice (some ⟨gB, oB, none⟩) nb cb, .slice S ns cs, .int .u16 u, .bool told, .int .i64 no, .int .i64 du, .int .i64 ti, .slice A m c] 60)) := blow1 w _
  have hz1 : (w.alloc (.cells #[.int .i64 t, .int .i64 f, .slice (some ⟨gB, oB, none⟩) nb cb, .slice S ns cs, .int .u16 u, .bool told, .int .i64 no, .int .i64 du, .int .i64 ti, .slice A m c] 60)).heap.size = w.heap.size + 1 := by simp
  obtain ⟨W1, hW1⟩ : ∃ W1, W1 = (w.alloc (.cells #[.int .i64 t, .int .i64 f, .slice (some ⟨gB, oB, none⟩) nb cb, .slice S ns cs, .int .u16 u, .bool told, .int .i64 no, .int .i64 du, .int .i64 ti, .slice A m c] 60)) := ⟨_, rfl⟩
  rw [← hW1] at r1 hB1 hz1
  have hcl : Hid (∀ V, Below W1.heap.size W1 V → V.heap[w.heap.size]? = some (.cells #[.int .i64 t, .int .i64 f, .slice (some ⟨gB, oB, none⟩) nb cb, .slice S ns cs, .int .u16 u, .bool told, .int .i64 no, .int .i64 du, .int .i64 ti, .slice A m c] 60 (0, 0))) := Lib.hid fun V hV => (hV.block w.heap.size (by rw [hz1]; omega)).trans r1
  have hsd : Hid (∀ V : World, V.heap[w.heap.size]? = some (.cells #[.int .i64 t, .int .i64 f, .slice (some ⟨gB, oB, none⟩) nb cb, .slice S ns cs, .int .u16 u, .bool told, .int .i64 no, .int .i64 du, .int .i64 ti, .slice A m c] 60 (0, 0)) → V.cell? ⟨w.heap.size, 0, none⟩ = some (.int .i64 t) ∧ V.cell? ⟨w.heap.size, 1, none⟩ = some (.int .i64 f) ∧ V.cell? ⟨w.heap.size, 2, none⟩ = some (.slice (some ⟨gB, oB, none⟩) nb cb) ∧ V.cell? ⟨w.heap.size, 3, none⟩ = some (.slice S ns cs) ∧ V.cell? ⟨w.heap.size, 4, none⟩ = some (.int .u16 u) ∧ V.cell? ⟨w.heap.size, 5, none⟩ = some (.bool told) ∧ V.cell? ⟨w.heap.size, 6, none⟩ = some (.int .i64 no) ∧ V.cell? ⟨w.heap.size, 7, none⟩ = some (.int .i64 du) ∧ V.cell? ⟨w.heap.size, 8, none⟩ = some (.int .i64 ti) ∧ V.cell? ⟨w.heap.size, 9, none⟩ = some (.slice A m c)) := Lib.hid fun V h1 => ⟨by rw [cell_of_row _ _ _ _ _ _ h1]; rfl, by rw [cell_of_row _ _ _ _ _ _ h1]; rfl, by rw [cell_of_row _ _ _ _ _ _ h1]; rfl, by rw [cell_of_row _ _ _ _ _ _ h1]; rfl, by rw [cell_of_row _ _ _ _ _ _ h1]; rfl, by rw [cell_of_row _ _ _ _ _ _ h1]; rfl, by rw [cell_of_row _ _ _ _ _ _ h1]; rfl, by rw [cell_of_row _ _ _ _ _ _ h1]; rfl, by rw [cell_of_row _ _ _ _ _ _ h1]; rfl, by rw [cell_of_row _ _ _ _ _ _ h1]; rfl⟩
  have hSn : Hid (∀ V, Below w.heap.size w V → Calls Tryd.prog 10 #[] V fun e w' => e = .returned (.bool true) ∧ Below V.heap.size V w') := Lib.hid fun V hV => asane_any V (hL.below hV)
  have hFo : Hid (∀ V, Below w.heap.size w V → Calls Tryd.prog 11 #[.slice A m c] V fun e w' => e = .returned (.bool (few41 mo)) ∧ w' = V) := Lib.hid fun V hV => rfew41_any mo m hm A c hc V (hA.below hV)
  have hMk : Hid (∀ V, Below w.heap.size w V → Calls Tryd.prog 16 #[.int .i64 t, .int .i64 f, .slice (some ⟨gB, oB, none⟩) nb cb, .slice S ns cs] V fun e w' => e = .returned (.tuple #[.agg (slA (mkS t f nb ns bl sl)), .int .i64 (opE t f nb ns sl)]) ∧ Below V.heap.size V w') := Lib.hid fun V hV => make_any t f bl sl nb ns cb cs (some ⟨gB, oB, none⟩) S hnb hns hcb hcs (hnb ▸ hI.mb) (hns ▸ hI.ms) hI.t hI.sl V (hB.below hV) (hS.below hV) (hL.below hV)
  clear r1 hz1
  replace hB1 := Lib.hid hB1
  have z1 : ((nb : Int) == 0) = false := by simp; omega
  have z2 : (nb == 0) = false := by simp; omega
  have z3 : decide (nb = 0) = false := decide_eq_false (by omega)
  have d64 : decide ((64 : Int) < (nb : Int)) = false := decide_eq_false (by omega)
  have d63 : decide ((63 : Int) < (m : Int)) = false := decide_eq_false (by omega)
  have hmm := Lib.hid hm
  have hm63 : Hid (m ≤ 63) := Lib.hid (by omega)
  obtain ⟨S9, hS9⟩ : ∃ S9, mkS t f nb ns bl sl = S9 := ⟨_, rfl⟩
  have s32 : S9.root.length = 32 := hS9 ▸ (mkS_I hnb hns hI.t).root
  have pi := Lib.hid (sl_info (s := S9) s32)
  have pl : Hid ((Tryd.prog.info? 25).map (·.size) = some (slC S9).length) := Lib.hid (by have := pi.out; simpa [slA] using this)
  have pz := Lib.hid (show (slA slZ).size = (slA S9).size by rw [slA_size (s := slZ) zero32_len, slA_size (s := S9) s32])
  have po := Lib.hid (slA_one S9)
  rw [hS9] at hMk
  rw [he] at hMk
  obtain ⟨e1, e2, e3, e4⟩ := opE_zero he
  have hday : 0 ≤ f ∧ f ≤ 73048 - (ns : Int) + 1 ∧ 0 ≤ t ∧ t ≤ 63 ∧ 1 ≤ (ns : Int) ∧ (ns : Int) ≤ 512 := by have := of_decide_eq_true e3; omega
  have hwa : IntKind.i64.wrap u = u := IntWalk.i64_in _ (by have := hI.lo; have := hI.hi; dsimp only at *; omega)
  have hwd : IntKind.i64.wrap (f + (i : Int)) = dy := by rw [IntWalk.i64_in _ (by omega), hdy]
  have hno : opnE t f nb ns sl dy = 0 := by
    rw [opnE, if_pos he, if_pos (show hasB f ns dy = true from decide_eq_true (by omega))]
  have hdi : (dy - f).toNat = i := by omega
  obtain ⟨y, hy⟩ : ∃ y, sl[i]? = some y := ⟨_, List.getElem?_eq_getElem (by omega)⟩
  obtain ⟨p, hp⟩ : ∃ p, pathM ((lvs t f bl sl).map lfD) i = p := ⟨_, rfl⟩
  have hO : opnO t f nb ns bl sl dy = ⟨dy, y, b, p⟩ := by
    rw [opnO, if_pos hno, hdi, List.getD_eq_getElem?_getD, List.getD_eq_getElem?_getD, hy, hbi, hp]; rfl
  have hck : chkS S9 ⟨dy, y, b, p⟩ = true := by rw [← hS9, ← hO]; exact chk_opened hnb hns hno
  have hoI : OpI ⟨dy, y, b, p⟩ := by rw [← hO]; exact opnO_I hnb hns ⟨by omega, by omega⟩ hI.sl
  obtain ⟨q, hq⟩ : ∃ q, p.length = q := ⟨_, rfl⟩
  have hqs : q ≤ 1000000 := by
    rw [← hq, ← hp, pathM_lenM (n := ns) (by rw [lvsD_len (by omega), hns]) (by omega)]
    exact Nat.le_trans (lenM_le ns i) (by omega)
  have hOp : Hid (∀ V, Below w.heap.size w V → Calls Tryd.prog 18 #[.int .i64 t, .int .i64 f, .slice (some ⟨gB, oB, none⟩) nb cb, .slice S ns cs, .int .i64 dy] V fun e w' => ∃ (P : Option Addr) (cp : Nat), e = .returned (.tuple #[.agg #[.int .i64 dy, .int .i64 y, .bool b, .slice P q cp], .int .i64 0]) ∧ q ≤ cp ∧ DsAt w' P p ∧ Below V.heap.size V w') := Lib.hid fun V hV => by
    have := sopen_any t f bl sl nb ns cb cs (some ⟨gB, oB, none⟩) S hnb hns hcb hcs (hnb ▸ hI.mb) (hns ▸ hI.ms) hI.t hI.sl dy ⟨by omega, by omega⟩ V (hB.below hV) (hS.below hV) (hL.below hV)
    unfold OpnC at this
    rw [hO, hno] at this
    refine this.mono fun e w' h => ?_
    obtain ⟨P, cp, h1, h2, h3, h4⟩ := h
    rw [lenA, hq] at h1
    rw [hq] at h2
    exact ⟨P, cp, h1, h2, h3, h4⟩
  obtain ⟨C9, hC9⟩ : ∃ C9 : Ch, C9 = ⟨no, t, dy, du, told⟩ := ⟨_, rfl⟩
  have sI9 : SlI S9 := hS9 ▸ mkS_I hnb hns hI.t
  have hSe : S9.t = t ∧ S9.f = f ∧ S9.m = ns := by
    have : mkS t f nb ns bl sl = ⟨t, f, ns, rootM ((lvs t f bl sl).map lfD)⟩ := if_pos he
    rw [← hS9, this]; exact ⟨rfl, rfl, rfl⟩
  obtain ⟨E9, hE9⟩ : ∃ E9, vdE S9 C9 (m + 1) ti = E9 := ⟨_, rfl⟩
  obtain ⟨V9, hV9⟩ : ∃ V9, vdR S9 C9 (⟨dy, y, b, p⟩ :: mo) (m + 1) ti = V9 := ⟨_, rfl⟩
  obtain ⟨K9, hK9⟩ : ∃ K9, chkE C9 = K9 := ⟨_, rfl⟩
  have hVd : Hid (∀ V A6 c6, Below w.heap.size w V → m + 1 ≤ c6 → OsAt V A6 (⟨dy, y, b, p⟩ :: mo) → Calls Tryd.prog 13 #[.agg (slC S9).toArray, .agg #[.int .i64 no, .int .i64 t, .int .i64 dy, .int .i64 du, .bool told], .slice A6 (m + 1) c6, .int .i64 ti] V fun e w' => e = .returned (.tuple #[.int .i64 V9, .int .i64 E9]) ∧ Below V.heap.size V w') := Lib.hid fun V A6 c6 hV h6 hos => by
    have := verdict_any S9 sI9 C9 (⟨dy, y, b, p⟩ :: mo) (m + 1) A6 c6 ti V (by rw [List.length_cons, hm]) h6 hos (fun z hz => by
      rcases List.mem_cons.1 hz with rfl | hz
      · exact ⟨hoI, by dsimp only; omega⟩
      · refine ⟨hI.more z hz, ?_⟩
        have h7 := hf2
        rw [few41, Bool.and_eq_true, List.all_eq_true] at h7
        have := of_decide_eq_true (h7.2 z hz)
        omega) (hL.below hV)
    rw [hE9, hV9, hC9] at this
    exact this
  have hKc : Hid (∀ V, Calls Tryd.prog 29 #[.agg #[.int .i64 no, .int .i64 t, .int .i64 dy, .int .i64 du, .bool told]] V fun e w' => e = .returned (.int .i64 K9) ∧ Below V.heap.size V w') := Lib.hid fun V => by
    have := rcheck41_any C9 V
    rw [hK9, hC9] at this
    exact this
  have hfin : Hid ((K9 = 410 ∧ E9 = 410 ∧ V9 = 0) ∨ (K9 = 0 ∧ ti < 0 ∧ E9 = 410 ∧ V9 = 0) ∨ (K9 = 0 ∧ ¬ ti < 0 ∧ 134217728 ≤ ti ∧ E9 = 410 ∧ V9 = 0) ∨ (K9 = 0 ∧ ¬ ti < 0 ∧ ¬ 134217728 ≤ ti ∧ E9 = 0 ∧ V9 = if b = told then 1 else 2)) := Lib.hid (by
    have hcn : conB S9 C9 = true := by rw [hC9]; exact decide_eq_true (by dsimp only; rw [hSe.1, hSe.2.1, hSe.2.2]; omega)
    have hn64 : ¬ 64 < m + 1 := by omega
    by_cases c1 : chkC C9 = true
    · have hK : K9 = 0 := by rw [← hK9, chkE, if_pos c1]
      by_cases c2 : ti < 0
      · have hE : E9 = 410 := by rw [← hE9, vdE, if_pos c1, if_neg hn64, if_neg (by omega)]
        exact .inr (.inl ⟨hK, c2, hE, by rw [← hV9, vdR_zero _ _ _ _ _ (by rw [hE9, hE]; decide)]⟩)
      · by_cases c3 : 134217728 ≤ ti
        · have hE : E9 = 410 := by rw [← hE9, vdE, if_pos c1, if_neg hn64, if_neg (by omega)]
          exact .inr (.inr (.inl ⟨hK, c2, c3, hE, by rw [← hV9, vdR_zero _ _ _ _ _ (by rw [hE9, hE]; decide)]⟩))
        · have hE : E9 = 0 := by rw [← hE9, vdE, if_pos c1, if_neg hn64, if_pos ⟨by omega, by omega, hcn⟩]
          refine .inr (.inr (.inr ⟨hK, c2, c3, hE, ?_⟩))
          rw [← hV9, vdR, if_pos (hE9.trans hE), vdV, List.find?_cons_of_pos (by rw [ansB, hck, hC9]; simp), hC9]
    · have hK : K9 = 410 := by rw [← hK9, chkE, if_neg c1]
      have hE : E9 = 410 := by rw [← hE9, vdE, if_neg c1]
      exact .inl ⟨hK, hE, by rw [← hV9, vdR_zero _ _ _ _ _ (by rw [hE9, hE]; decide)]⟩)
  obtain ⟨M2, hM1, hM2, hM3, hM4⟩ := os_items hA
  rw [hm] at hM2
  have hMo := Lib.hid hM1
  have hMc : Hid (∀ V, Below w.heap.size w V → OsC V A M2 ∧ ∀ x ∈ M2, x.1.path.length ≤ x.2.2 ∧ DsAt V x.2.1 x.1.path) := Lib.hid fun V hV => ⟨hM4.below hV, fun x hx => ⟨(hM3 x hx).1, (hM3 x hx).2.below hV⟩⟩
  have hbc : Hid (∀ V, Below w.heap.size w V → V.cell? ⟨gB, oB + i, none⟩ = some (.bool b)) := Lib.hid fun V hV => (hV.cell (p := ⟨gB, oB + i, none⟩) (World.block_lt_of_cell? w _ hcB)).trans hcB
  have bc5 := built_c5 no t dy du told
  replace hM2 := Lib.hid hM2
  have hqq := Lib.hid hq
  have hin : i < nb := hil
  clear hSe sI9 hO hck hoI hqs hE9 hV9 hK9 hC9 C9 hdi hno hday e1 e2 e3 e4 he hS9 s32 hM1 hM3 hM4 hm hq hp hy hbi hil h2 hdy hcB
  clear hI hB hS hA hL
  go_enter Tryd.func8, Tryd.ntmps8
  go_wp2_with fail
  rw [← hW1]
  refine (hSn.out _ hB1.out).mono ?_
  rintro e w3 ⟨rfl, hb3⟩
  have r3 := Lib.hid (hcl.out _ hb3)
  have HB3 := hB1.out.trans (hb3.mono hB1.out.size)
  obtain ⟨x0, x1, x2, x3, x4, x5, x6, x7, x8, x9⟩ := hsd.out _ r3.out
  go_wp2_with fail
  refine (rfew39_any nb ns cb cs (some ⟨gB, oB, none⟩) S w3).mono ?_
  rintro e w4 ⟨rfl, hw4⟩
  have hw4b := hw4.symm
  clear hw4
  subst hw4b
  rw [hf1]
  go_wp2_with fail
  refine (hFo.out _ HB3).mono ?_
  rintro e w4 ⟨rfl, hw4⟩
  have hw4b := hw4.symm
  clear hw4
  subst hw4b
  rw [hf2]
  go_wp2_with fail
  refine (hMk.out _ HB3).mono ?_
  rintro e w5 ⟨rfl, hb5⟩
  have HB5 := HB3.trans (hb5.mono HB3.size)
  have r5 := Lib.hid ((hb5.block _ (Array.getElem?_eq_some_iff.1 r3.out).1).trans r3.out)
  clear x0 x1 x2 x3 x4 x5 x6 x7 x8 x9
  go_wp2_with (refine wpList_set_row (by rfl) 25 (.tmp 3) (.tmp 54) (by rfl) (by rfl) w5.heap.size (slA S9) (by rfl) (by rfl) 25 _ (heap_alloc_new w5 _) pi.out pz.out po.out ?_; intro w6 hd6 hz6 hg6; have hbn := newrow_below hg6; clear hg6 hz6; have HB6 := Lib.hid (HB5.trans (hbn.mono HB5.size)); have r6 := Lib.hid ((hbn.block _ (Array.getElem?_eq_some_iff.1 r5.out).1).trans r5.out); replace hd6 := Lib.hid hd6; clear hbn; obtain ⟨x0, x1, x2, x3, x4, x5, x6, x7, x8, x9⟩ := hsd.out _ r6.out; have k0 : ∀ o, (w6.alloc o).cell? ⟨w.heap.size, 0, none⟩ = some (.int .i64 t) := fun o => (hsd.out _ ((Below.heap_alloc w6 o _ (Array.getElem?_eq_some_iff.1 r6.out).1).trans r6.out)).1; have k1 : ∀ o, (w6.alloc o).cell? ⟨w.heap.size, 1, none⟩ = some (.int .i64 f) := fun o => (hsd.out _ ((Below.heap_alloc w6 o _ (Array.getElem?_eq_some_iff.1 r6.out).1).trans r6.out)).2.1; have k2 : ∀ o, (w6.alloc o).cell? ⟨w.heap.size, 2, none⟩ = some (.slice (some ⟨gB, oB, none⟩) nb cb) := fun o => (hsd.out _ ((Below.heap_alloc w6 o _ (Array.getElem?_eq_some_iff.1 r6.out).1).trans r6.out)).2.2.1; have k3 : ∀ o, (w6.alloc o).cell? ⟨w.heap.size, 3, none⟩ = some (.slice S ns cs) := fun o => (hsd.out _ ((Below.heap_alloc w6 o _ (Array.getElem?_eq_some_iff.1 r6.out).1).trans r6.out)).2.2.2.1)
  clear k0 k1 k2 k3
  clear x0 x1 x2 x3 x4 x5 x6 x7 x8 x9
  have n7 := heap_alloc_new w6 (.cells #[.int .i64 no, .int .i64 t, .int .i64 dy, .int .i64 du, .bool told] 27)
  have r7 := (Below.heap_alloc w6 (.cells #[.int .i64 no, .int .i64 t, .int .i64 dy, .int .i64 du, .bool told] 27) _ (Array.getElem?_eq_some_iff.1 r6.out).1).trans r6.out
  have d7 := (Below.heap_alloc w6 (.cells #[.int .i64 no, .int .i64 t, .int .i64 dy, .int .i64 du, .bool told] 27) _ (Array.getElem?_eq_some_iff.1 hd6.out).1).trans hd6.out
  have HB7 := HB6.out.alloc HB6.out.size (.cells #[.int .i64 no, .int .i64 t, .int .i64 dy, .int .i64 du, .bool told] 27)
  generalize w6.alloc (.cells #[.int .i64 no, .int .i64 t, .int .i64 dy, .int .i64 du, .bool told] 27) = W7 at n7 r7 d7 HB7 ⊢
  refine (hOp.out _ HB7).mono ?_
  rintro e w8 ⟨P, cp, rfl, hqc, hds8, hb8⟩
  have n8 := (hb8.block _ (Array.getElem?_eq_some_iff.1 n7).1).trans n7
  have r8 := (hb8.block _ (Array.getElem?_eq_some_iff.1 r7).1).trans r7
  have d8 := (hb8.block _ (Array.getElem?_eq_some_iff.1 d7).1).trans d7
  have HB8 := HB7.trans (hb8.mono HB7.size)
  clear n7 r7 d7 HB7 hb8
  go_wp2_with fail
  have q9 := heap_alloc_new w8 (.cells #[.int .i64 dy, .int .i64 y, .bool b, .slice P q cp] 33)
  have n9 := (Below.heap_alloc w8 (.cells #[.int .i64 dy, .int .i64 y, .bool b, .slice P q cp] 33) _ (Array.getElem?_eq_some_iff.1 n8).1).trans n8
  have r9 := (Below.heap_alloc w8 (.cells #[.int .i64 dy, .int .i64 y, .bool b, .slice P q cp] 33) _ (Array.getElem?_eq_some_iff.1 r8).1).trans r8
  have d9 := (Below.heap_alloc w8 (.cells #[.int .i64 dy, .int .i64 y, .bool b, .slice P q cp] 33) _ (Array.getElem?_eq_some_iff.1 d8).1).trans d8
  have hds9 := Lib.hid (hds8.below (blow1 w8 (.cells #[.int .i64 dy, .int .i64 y, .bool b, .slice P q cp] 33)))
  have HB9 := HB8.alloc HB8.size (.cells #[.int .i64 dy, .int .i64 y, .bool b, .slice P q cp] 33)
  generalize w8.alloc (.cells #[.int .i64 dy, .int .i64 y, .bool b, .slice P q cp] 33) = W9 at q9 n9 r9 d9 hds9 HB9 ⊢
  clear n8 r8 d8 HB8 hds8
  have hrw : Hid (∀ V, Below W9.heap.size W9 V → V.heap[w5.heap.size]? = some (.cells (slA S9) 25 (0, 0)) ∧ V.heap[w6.heap.size]? = some (.cells #[.int .i64 no, .int .i64 t, .int .i64 dy, .int .i64 du, .bool told] 27 (0, 0)) ∧ V.heap[w8.heap.size]? = some (.cells #[.int .i64 dy, .int .i64 y, .bool b, .slice P q cp] 33 (0, 0)) ∧ V.heap[w.heap.size]? = some (.cells #[.int .i64 t, .int .i64 f, .slice (some ⟨gB, oB, none⟩) nb cb, .slice S ns cs, .int .u16 u, .bool told, .int .i64 no, .int .i64 du, .int .i64 ti, .slice A m c] 60 (0, 0))) := Lib.hid fun V hV =>
    ⟨(hV.block _ (Array.getElem?_eq_some_iff.1 d9).1).trans d9, (hV.block _ (Array.getElem?_eq_some_iff.1 n9).1).trans n9, (hV.block _ (Array.getElem?_eq_some_iff.1 q9).1).trans q9, (hV.block _ (Array.getElem?_eq_some_iff.1 r9).1).trans r9⟩
  have hch : Hid (∀ V : World, V.heap[w6.heap.size]? = some (.cells #[.int .i64 no, .int .i64 t, .int .i64 dy, .int .i64 du, .bool told] 27 (0, 0)) → V.cell? ⟨w6.heap.size, 0, none⟩ = some (.int .i64 no) ∧ V.cell? ⟨w6.heap.size, 1, none⟩ = some (.int .i64 t) ∧ V.cell? ⟨w6.heap.size, 2, none⟩ = some (.int .i64 dy) ∧ V.cell? ⟨w6.heap.size, 3, none⟩ = some (.int .i64 du) ∧ V.cell? ⟨w6.heap.size, 4, none⟩ = some (.bool told)) := Lib.hid fun V h1 => ⟨by rw [cell_of_row _ _ _ _ _ _ h1]; rfl, by rw [cell_of_row _ _ _ _ _ _ h1]; rfl, by rw [cell_of_row _ _ _ _ _ _ h1]; rfl, by rw [cell_of_row _ _ _ _ _ _ h1]; rfl, by rw [cell_of_row _ _ _ _ _ _ h1]; rfl⟩
  have hop : Hid (∀ V : World, V.heap[w8.heap.size]? = some (.cells #[.int .i64 dy, .int .i64 y, .bool b, .slice P q cp] 33 (0, 0)) → V.cell? ⟨w8.heap.size, 0, none⟩ = some (.int .i64 dy) ∧ V.cell? ⟨w8.heap.size, 1, none⟩ = some (.int .i64 y) ∧ V.cell? ⟨w8.heap.size, 2, none⟩ = some (.bool b) ∧ V.cell? ⟨w8.heap.size, 3, none⟩ = some (.slice P q cp)) := Lib.hid fun V h1 => ⟨by rw [cell_of_row _ _ _ _ _ _ h1]; rfl, by rw [cell_of_row _ _ _ _ _ _ h1]; rfl, by rw [cell_of_row _ _ _ _ _ _ h1]; rfl, by rw [cell_of_row _ _ _ _ _ _ h1]; rfl⟩
  have hS13 : Hid (∀ V, Below W9.heap.size W9 V → V.rangeAt w5.heap.size 0 (slC S9) ∧ (V.cell? ⟨w6.heap.size, 0, none⟩ = some (.int .i64 no) ∧ V.cell? ⟨w6.heap.size, 1, none⟩ = some (.int .i64 t) ∧ V.cell? ⟨w6.heap.size, 2, none⟩ = some (.int .i64 dy) ∧ V.cell? ⟨w6.heap.size, 3, none⟩ = some (.int .i64 du) ∧ V.cell? ⟨w6.heap.size, 4, none⟩ = some (.bool told)) ∧ (V.cell? ⟨w8.heap.size, 0, none⟩ = some (.int .i64 dy) ∧ V.cell? ⟨w8.heap.size, 1, none⟩ = some (.int .i64 y) ∧ V.cell? ⟨w8.heap.size, 2, none⟩ = some (.bool b) ∧ V.cell? ⟨w8.heap.size, 3, none⟩ = some (.slice P q cp)) ∧ (V.cell? ⟨w.heap.size, 8, none⟩ = some (.int .i64 ti) ∧ V.cell? ⟨w.heap.size, 9, none⟩ = some (.slice A m c))) := Lib.hid fun V hV => by
    obtain ⟨g1, g2, g3, g4⟩ := hrw.out V hV
    have g5 := hsd.out V g4
    exact ⟨row_range g1, hch.out V g2, hop.out V g3, g5.2.2.2.2.2.2.2.2.1, g5.2.2.2.2.2.2.2.2.2⟩
  clear q9 n9 r9 d9
  replace HB9 := Lib.hid HB9
  have HB : Below W9.heap.size W9 W9.drew := (Below.refl _ _).drew
  have bo4 := built_o4 dy y b P q cp
  refine wp_region_held_drew (S := fun w' => w'.rangeAt w5.heap.size 0 (slC S9) ∧ (w'.cell? ⟨w6.heap.size, 0, none⟩ = some (.int .i64 no) ∧ w'.cell? ⟨w6.heap.size, 1, none⟩ = some (.int .i64 t) ∧ w'.cell? ⟨w6.heap.size, 2, none⟩ = some (.int .i64 dy) ∧ w'.cell? ⟨w6.heap.size, 3, none⟩ = some (.int .i64 du) ∧ w'.cell? ⟨w6.heap.size, 4, none⟩ = some (.bool told)) ∧ (w'.cell? ⟨w8.heap.size, 0, none⟩ = some (.int .i64 dy) ∧ w'.cell? ⟨w8.heap.size, 1, none⟩ = some (.int .i64 y) ∧ w'.cell? ⟨w8.heap.size, 2, none⟩ = some (.bool b) ∧ w'.cell? ⟨w8.heap.size, 3, none⟩ = some (.slice P q cp)) ∧ (w'.cell? ⟨w.heap.size, 8, none⟩ = some (.int .i64 ti) ∧ w'.cell? ⟨w.heap.size, 9, none⟩ = some (.slice A m c))) (by kernel_rfl) (by exact hS13.out _ HB) (fun hHeld => ?_)
  refine wpAnyH_take (i := 0) (oi := { dst := some 95, op := Op.load 25 (Operand.tmp 3), type := 25, pos := "law.go:86", after := #[], guard := none }) (v := _) rfl (by kernel_rfl) (by kernel_rfl) (by kernel_rfl) (fun _ _ _ h => h) (yieldsIf_load_mid (by rfl) 25 (.tmp 3) rfl w5.heap.size 0 rfl (slC S9) _ (fun _ h => h.1) Tryd.underlying25 rfl pl.out) hHeld ?_
  try simp only [Act.put, List.setIfInBounds_toArray, List.set_cons_zero, List.set_cons_succ]
  refine wpAnyH_take (i := 1) (oi := { dst := some 96, op := Op.load 27 (Operand.tmp 6), type := 27, pos := "law.go:86", after := #[], guard := none }) (v := ?_) rfl (by kernel_rfl) (by kernel_rfl) (by kernel_rfl) (fun _ _ _ h => h) (Or.inl ⟨by rfl, ?hy1⟩) hHeld ?rest1
  case hy1 =>
    intro w hSw
    try dsimp only at hSw
    go_simp
    try with_reducible rfl
  try simp only [Act.put, List.setIfInBounds_toArray, List.set_cons_zero, List.set_cons_succ]
  refine wpAnyH_take (i := 2) (oi := { dst := some 97, op := Op.load 33 (Operand.tmp 7), type := 33, pos := "law.go:86", after := #[], guard := none }) (v := ?_) rfl (by kernel_rfl) (by kernel_rfl) (by kernel_rfl) (fun _ _ _ h => h) (Or.inl ⟨by rfl, ?hy2⟩) hHeld ?rest2
  case hy2 =>
    intro w hSw
    try dsimp only at hSw
    go_simp
    try with_reducible rfl
  try simp only [Act.put, List.setIfInBounds_toArray, List.set_cons_zero, List.set_cons_succ]
  refine wpAnyH_take (i := 4) (oi := { dst := some 99, op := Op.fieldAddr 60 (Operand.tmp 1) 9, type := 0, pos := "law.go:86", after := #[], guard := none }) (v := ?_) rfl (by kernel_rfl) (by kernel_rfl) (by kernel_rfl) (fun _ _ _ h => h) (Or.inl ⟨by rfl, ?hy4⟩) hHeld ?rest4
  case hy4 =>
    intro w hSw
    try dsimp only at hSw
    go_simp
    try with_reducible rfl
  try simp only [Act.put, List.setIfInBounds_toArray, List.set_cons_zero, List.set_cons_succ]
  refine wpAnyH_take (i := 5) (oi := { dst := some 100, op := Op.load 28 (Operand.tmp 99), type := 28, pos := "law.go:86", after := #[{ on := 4, ground := Ground.data }], guard := none }) (v := ?_) rfl (by kernel_rfl) (by kernel_rfl) (by kernel_rfl) (fun _ _ _ h => h) (Or.inl ⟨by rfl, ?hy5⟩) hHeld ?rest5
  case hy5 =>
    intro w hSw
    try dsimp only at hSw
    go_simp
    try with_reducible rfl
  try simp only [Act.put, List.setIfInBounds_toArray, List.set_cons_zero, List.set_cons_succ]
  refine wpAnyH_take (i := 7) (oi := { dst := some 102, op := Op.fieldAddr 60 (Operand.tmp 1) 8, type := 0, pos := "law.go:86", after := #[], guard := none }) (v := ?_) rfl (by kernel_rfl) (by kernel_rfl) (by kernel_rfl) (fun _ _ _ h => h) (Or.inl ⟨by rfl, ?hy7⟩) hHeld ?rest7
  case hy7 =>
    intro w hSw
    try dsimp only at hSw
    go_simp
    try with_reducible rfl
  try simp only [Act.put, List.setIfInBounds_toArray, List.set_cons_zero, List.set_cons_succ]
  refine wpAnyH_take (i := 8) (oi := { dst := some 103, op := Op.load 3 (Operand.tmp 102), type := 3, pos := "law.go:86", after := #[{ on := 7, ground := Ground.data }], guard := none }) (v := ?_) rfl (by kernel_rfl) (by kernel_rfl) (by kernel_rfl) (fun _ _ _ h => h) (Or.inl ⟨by rfl, ?hy8⟩) hHeld ?rest8
  case hy8 =>
    intro w hSw
    try dsimp only at hSw
    go_simp
    try with_reducible rfl
  try simp only [Act.put, List.setIfInBounds_toArray, List.set_cons_zero, List.set_cons_succ]
  refine wpAnyH_ready (rs := [3]) (by kernel_rfl) (by simp) (AllReadyH.cons (o := { dst := some 98, op := Op.buildSlice 28 1 #[(0, Operand.tmp 97)], type := 28, pos := "law.go:86", after := #[{ on := 2, ground := Ground.data }], guard := none }) rfl (fun K hK => ?_) AllReadyH.nil)
  refine step_built (by rfl) 28 33 1 #[(0, .tmp 97)] (by rfl) Tryd.underlying28 #[.int .i64 dy, .int .i64 y, .bool b, .slice P q cp] (by simp only [List.map_toArray, List.map_cons, List.map_nil]; exact bo4) ?_
  have hrow := RowO.one W9.drew W9.heap.size W9.heap.size rfl (Nat.le_refl _) (⟨dy, y, b, p⟩, P, cp)
  have hrow2 : RowO (W9.drew.alloc (.cells #[.int .i64 dy, .int .i64 y, .bool b, .slice P q cp] 33)) W9.heap.size (.slice (some ⟨W9.heap.size, 0, none⟩) 1 1) [(⟨dy, y, b, p⟩, P, cp)] := by simpa [opC4, hqq.out] using hrow
  clear hrow
  have HB2 := HB.alloc HB.size (.cells #[.int .i64 dy, .int .i64 y, .bool b, .slice P q cp] 33)
  clear HB
  have HB := HB2
  clear HB2
  refine hK.out _ _ (by exact hS13.out _ HB) (fun hHeld' => ?_)
  clear hK K hHeld
  have hHeld := hHeld'
  clear hHeld'
  try simp only [Act.put, List.setIfInBounds_toArray, List.set_cons_zero, List.set_cons_succ]
  refine wpAnyH_ready (rs := [6]) (by kernel_rfl) (by simp) (AllReadyH.cons (o := { dst := some 101, op := Op.call { callee := Callee.builtin Builtin.append, args := #[Operand.tmp 98, Operand.tmp 100], argTypes := #[28, 28] }, type := 28, pos := "law.go:86", after := #[{ on := 3, ground := Ground.data }, { on := 5, ground := Ground.data }], guard := none }) rfl (fun K hK => ?_) AllReadyH.nil)
  refine step_appO _ (by rfl) (.tmp 98) (.tmp 100) (by rfl) W9.heap.size _ [(⟨dy, y, b, p⟩, P, cp)] M2 A m c (by rfl) (by rfl) hM2.out (hMc.out _ (HB9.out.trans (HB.mono HB9.out.size))).1 hrow2 (by simp) (by have := hm63.out; omega) HB.size ?_
  intro row6 w10 hrow6 hg6
  have HB2 := RowO.grown hrow2 HB (Nat.le_refl _) HB.size hg6
  clear HB hg6 hrow2
  have HB := HB2
  clear HB2
  have hW10 := HB9.out.trans (HB.mono HB9.out.size)
  obtain ⟨A6, c6, hr6, hc6, hos6⟩ := hrow6.os (fun x hx => by
    rcases List.mem_cons.1 hx with rfl | hx
    · exact ⟨by dsimp only; rw [hqq.out]; exact hqc, hds9.out.below HB⟩
    · exact (hMc.out _ hW10).2 x hx)
  have hlen6 : ([((⟨dy, y, b, p⟩ : Op), P, cp)] ++ M2).length = m + 1 := by rw [List.length_append, hM2.out]; simp; omega
  rw [hlen6] at hr6 hc6
  have hos7 : OsAt w10 A6 (⟨dy, y, b, p⟩ :: mo) := by
    have := hos6
    rw [List.map_append, hMo.out] at this
    exact this
  subst hr6
  clear hrow6 hos6 hlen6
  refine hK.out _ _ (by exact hS13.out _ HB) (fun hHeld' => ?_)
  clear hK K hHeld
  have hHeld := hHeld'
  clear hHeld'
  try simp only [Act.put, List.setIfInBounds_toArray, List.set_cons_zero, List.set_cons_succ]
  refine wpAnyH_ready (rs := [9]) (by kernel_rfl) (by simp) (AllReadyH.cons (o := { dst := some 104, op := Op.call { callee := Callee.value (Operand.func 13), args := #[Operand.tmp 95, Operand.tmp 96, Operand.tmp 101, Operand.tmp 103], argTypes := #[25, 27, 28, 3] }, type := 36, pos := "law.go:86", after := #[{ on := 0, ground := Ground.data }, { on := 1, ground := Ground.data }, { on := 6, ground := Ground.data }, { on := 8, ground := Ground.data }, { on := 6, ground := Ground.chain }], guard := none }) rfl (fun K hK => ?_) AllReadyH.nil)
  go_simp
  go_at_call 13
  refine (hVd.out _ _ _ hW10 hc6 hos7).mono ?_
  rintro e w11 ⟨rfl, hb⟩
  have HB2 := HB.trans (hb.mono HB.size)
  clear HB hb
  have HB := HB2
  clear HB2
  refine hK.out _ _ (by exact hS13.out _ HB) (fun hHeld' => ?_)
  clear hK K hHeld
  have hHeld := hHeld'
  clear hHeld'
  try simp only [Act.put, List.setIfInBounds_toArray, List.set_cons_zero, List.set_cons_succ]
  refine wpAnyH_take (i := 10) (oi := { dst := some 94, op := Op.move (Operand.tmp 104), type := 36, pos := "law.go:86", after := #[{ on := 9, ground := Ground.data }], guard := none }) (v := ?_) rfl (by kernel_rfl) (by kernel_rfl) (by kernel_rfl) (fun _ _ _ h => h) (Or.inl ⟨by rfl, ?hy10⟩) hHeld ?rest10
  case hy10 =>
    intro w hSw
    try dsimp only at hSw
    go_simp
    try with_reducible rfl
  try simp only [Act.put, List.setIfInBounds_toArray, List.set_cons_zero, List.set_cons_succ]
  refine wpAnyH_take (i := 11) (oi := { dst := some 105, op := Op.extract (Operand.tmp 94) 0, type := 3, pos := "law.go:86", after := #[{ on := 10, ground := Ground.data }], guard := none }) (v := ?_) rfl (by kernel_rfl) (by kernel_rfl) (by kernel_rfl) (fun _ _ _ h => h) (Or.inl ⟨by rfl, ?hy11⟩) hHeld ?rest11
  case hy11 =>
    intro w hSw
    try dsimp only at hSw
    go_simp
    try with_reducible rfl
  try simp only [Act.put, List.setIfInBounds_toArray, List.set_cons_zero, List.set_cons_succ]
  refine wpAnyH_take (i := 12) (oi := { dst := some 106, op := Op.extract (Operand.tmp 94) 1, type := 35, pos := "law.go:86", after := #[{ on := 10, ground := Ground.data }, { on := 13, ground := Ground.gcOnly Departure.lateStores }], guard := none }) (v := ?_) rfl (by kernel_rfl) (by kernel_rfl) (by kernel_rfl) (fun _ _ _ h => h) (Or.inl ⟨by rfl, ?hy12⟩) hHeld ?rest12
  case hy12 =>
    intro w hSw
    try dsimp only at hSw
    go_simp
    try with_reducible rfl
  try simp only [Act.put, List.setIfInBounds_toArray, List.set_cons_zero, List.set_cons_succ]
  refine wpAnyH_take (i := 13) (oi := { dst := some 9, op := Op.assign (Operand.tmp 105), type := 3, pos := "law.go:86", after := #[{ on := 11, ground := Ground.data }, { on := 9, ground := Ground.chain }, { on := 0, ground := Ground.phase }, { on := 1, ground := Ground.phase }, { on := 2, ground := Ground.phase }, { on := 3, ground := Ground.phase }, { on := 4, ground := Ground.phase }, { on := 5, ground := Ground.phase }, { on := 6, ground := Ground.phase }, { on := 7, ground := Ground.phase }, { on := 8, ground := Ground.phase }, { on := 9, ground := Ground.phase }, { on := 10, ground := Ground.phase }, { on := 11, ground := Ground.phase }, { on := 12, ground := Ground.textOnly Departure.lateStores }], guard := none }) (v := ?_) rfl (by kernel_rfl) (by kernel_rfl) (by kernel_rfl) (fun _ _ _ h => h) (Or.inl ⟨by rfl, ?hy13⟩) hHeld ?rest13
  case hy13 =>
    intro w hSw
    try dsimp only at hSw
    go_simp
    try with_reducible rfl
  try simp only [Act.put, List.setIfInBounds_toArray, List.set_cons_zero, List.set_cons_succ]
  refine wpAnyH_take (i := 14) (oi := { dst := some 10, op := Op.assign (Operand.tmp 106), type := 35, pos := "law.go:86", after := #[{ on := 12, ground := Ground.data }, { on := 13, ground := Ground.chain }, { on := 0, ground := Ground.phase }, { on := 1, ground := Ground.phase }, { on := 2, ground := Ground.phase }, { on := 3, ground := Ground.phase }, { on := 4, ground := Ground.phase }, { on := 5, ground := Ground.phase }, { on := 6, ground := Ground.phase }, { on := 7, ground := Ground.phase }, { on := 8, ground := Ground.phase }, { on := 9, ground := Ground.phase }, { on := 10, ground := Ground.phase }, { on := 11, ground := Ground.phase }, { on := 12, ground := Ground.phase }, { on := 13, ground := Ground.phase }], guard := none }) (v := ?_) rfl (by kernel_rfl) (by kernel_rfl) (by kernel_rfl) (fun _ _ _ h => h) (Or.inl ⟨by rfl, ?hy14⟩) hHeld ?rest14
  case hy14 =>
    intro w hSw
    try dsimp only at hSw
    go_simp
    try with_reducible rfl
  try simp only [Act.put, List.setIfInBounds_toArray, List.set_cons_zero, List.set_cons_succ]
  refine wpAnyH_done (by kernel_rfl) ?_ _
  obtain ⟨g1, g2, g3, g4⟩ := hrw.out _ HB
  obtain ⟨c0, c1, c2, c3, c4⟩ := hch.out _ g2
  clear g1 g3 hHeld hos7 hW10 hc6
  go_wp2_with fail
  refine (hKc.out _).mono ?_
  rintro e w12 ⟨rfl, hb12⟩
  have HB12 := HB.trans (hb12.mono HB.size)
  have HW12 := HB9.out.trans (HB12.mono HB9.out.size)
  have g5 := (hrw.out _ HB12).2.2.2
  obtain ⟨x0, x1, x2, x3, x4, x5, x6, x7, x8, x9⟩ := hsd.out _ g5
  clear c0 c1 c2 c3 c4 g2 g4 HB hb12
  rcases hfin.out with ⟨rfl, rfl, rfl⟩ | ⟨rfl, f1, rfl, rfl⟩ | ⟨rfl, f1, f2, rfl, rfl⟩ | ⟨rfl, f1, f2, rfl, hv9⟩
  · go_wp2_with fail
    go_ret
    exact ⟨rfl, HW12⟩
  · have f3 : decide (ti < 0) = true := decide_eq_true (by omega)
    go_wp2_with fail
    go_ret
    exact ⟨rfl, HW12⟩
  · have f3 : decide (ti < 0) = false := decide_eq_false (by omega)
    have f4 : decide (134217728 ≤ ti) = true := decide_eq_true (by omega)
    go_wp2_with fail
    go_ret
    exact ⟨rfl, HW12⟩
  · replace hv9 := Lib.hid hv9
    have f3 : decide (ti < 0) = false := decide_eq_false (by omega)
    have f4 : decide (134217728 ≤ ti) = false := decide_eq_false (by omega)
    have yb := hbc.out _ HW12
    have hS17 : Hid (∀ V, Below w12.heap.size w12 V → V.cell? ⟨w.heap.size, 5, none⟩ = some (.bool told) ∧ V.cell? ⟨w.heap.size, 2, none⟩ = some (.slice (some ⟨gB, oB, none⟩) nb cb) ∧ V.cell? ⟨gB, oB + i, none⟩ = some (.bool b)) := Lib.hid fun V hV => by
      have g6 := (hV.block _ (Array.getElem?_eq_some_iff.1 g5).1).trans g5
      have g7 := hsd.out V g6
      exact ⟨g7.2.2.2.2.2.1, g7.2.2.1, hbc.out _ (HW12.trans (hV.mono HW12.size))⟩
    go_wp2_with fail
    have HB : Below w12.heap.size w12 w12.drew := (Below.refl _ _).drew
    refine wp_region_held_drew (S := fun w' => w'.cell? ⟨w.heap.size, 5, none⟩ = some (.bool told) ∧ w'.cell? ⟨w.heap.size, 2, none⟩ = some (.slice (some ⟨gB, oB, none⟩) nb cb) ∧ w'.cell? ⟨gB, oB + i, none⟩ = some (.bool b)) (by kernel_rfl) (by exact hS17.out _ HB) (fun hHeld => ?_)
    refine wpAnyH_take (i := 0) (oi := { dst := some 126, op := Op.fieldAddr 60 (Operand.tmp 1) 5, type := 0, pos := "law.go:91", after := #[], guard := none }) (v := ?_) rfl (by kernel_rfl) (by kernel_rfl) (by kernel_rfl) (fun _ _ _ h => h) (Or.inl ⟨by rfl, ?hya0⟩) hHeld ?resta0
    case hya0 =>
      intro w hSw
      try dsimp only at hSw
      go_simp
      try with_reducible rfl
    try simp only [Act.put, List.setIfInBounds_toArray, List.set_cons_zero, List.set_cons_succ]
    refine wpAnyH_take (i := 1) (oi := { dst := some 127, op := Op.load 4 (Operand.tmp 126), type := 4, pos := "law.go:91", after := #[{ on := 0, ground := Ground.data }], guard := none }) (v := ?_) rfl (by kernel_rfl) (by kernel_rfl) (by kernel_rfl) (fun _ _ _ h => h) (Or.inl ⟨by rfl, ?hya1⟩) hHeld ?resta1
    case hya1 =>
      intro w hSw
      try dsimp only at hSw
      go_simp
      try with_reducible rfl
    try simp only [Act.put, List.setIfInBounds_toArray, List.set_cons_zero, List.set_cons_succ]
    refine wpAnyH_take (i := 2) (oi := { dst := some 128, op := Op.fieldAddr 60 (Operand.tmp 1) 2, type := 0, pos := "law.go:91", after := #[], guard := none }) (v := ?_) rfl (by kernel_rfl) (by kernel_rfl) (by kernel_rfl) (fun _ _ _ h => h) (Or.inl ⟨by rfl, ?hya2⟩) hHeld ?resta2
    case hya2 =>
      intro w hSw
      try dsimp only at hSw
      go_simp
      try with_reducible rfl
    try simp only [Act.put, List.setIfInBounds_toArray, List.set_cons_zero, List.set_cons_succ]
    refine wpAnyH_take (i := 3) (oi := { dst := some 129, op := Op.load 39 (Operand.tmp 128), type := 39, pos := "law.go:91", after := #[{ on := 2, ground := Ground.data }], guard := none }) (v := ?_) rfl (by kernel_rfl) (by kernel_rfl) (by kernel_rfl) (fun _ _ _ h => h) (Or.inl ⟨by rfl, ?hya3⟩) hHeld ?resta3
    case hya3 =>
      intro w hSw
      try dsimp only at hSw
      go_simp
      try with_reducible rfl
    try simp only [Act.put, List.setIfInBounds_toArray, List.set_cons_zero, List.set_cons_succ]
    refine wpAnyH_take (i := 4) (oi := { dst := some 130, op := Op.move (Operand.tmp 5), type := 3, pos := "law.go:91", after := #[], guard := none }) (v := ?_) rfl (by kernel_rfl) (by kernel_rfl) (by kernel_rfl) (fun _ _ _ h => h) (Or.inl ⟨by rfl, ?hya4⟩) hHeld ?resta4
    case hya4 =>
      intro w hSw
      try dsimp only at hSw
      go_simp
      try with_reducible rfl
    try simp only [Act.put, List.setIfInBounds_toArray, List.set_cons_zero, List.set_cons_succ]
    refine wpAnyH_take (i := 5) (oi := { dst := some 131, op := Op.indexAddr 39 (Operand.tmp 129) (Operand.tmp 130), type := 0, pos := "law.go:91", after := #[{ on := 3, ground := Ground.data }, { on := 4, ground := Ground.data }], guard := none }) (v := ?_) rfl (by kernel_rfl) (by kernel_rfl) (by kernel_rfl) (fun _ _ _ h => h) (Or.inl ⟨by rfl, ?hya5⟩) hHeld ?resta5
    case hya5 =>
      intro w hSw
      try dsimp only at hSw
      go_simp
      try with_reducible rfl
    try simp only [Act.put, List.setIfInBounds_toArray, List.set_cons_zero, List.set_cons_succ]
    refine wpAnyH_take (i := 6) (oi := { dst := some 132, op := Op.load 4 (Operand.tmp 131), type := 4, pos := "law.go:91", after := #[{ on := 5, ground := Ground.data }], guard := none }) (v := ?_) rfl (by kernel_rfl) (by kernel_rfl) (by kernel_rfl) (fun _ _ _ h => h) (Or.inl ⟨by rfl, ?hya6⟩) hHeld ?resta6
    case hya6 =>
      intro w hSw
      try dsimp only at hSw
      go_simp
      try with_reducible rfl
    try simp only [Act.put, List.setIfInBounds_toArray, List.set_cons_zero, List.set_cons_succ]
    refine wpAnyH_take (i := 7) (oi := { dst := some 133, op := Op.binOp BinOp.eql 4 (Operand.tmp 127) (Operand.tmp 132) 4, type := 4, pos := "law.go:91", after := #[{ on := 1, ground := Ground.data }, { on := 6, ground := Ground.data }], guard := none }) (v := ?_) rfl (by kernel_rfl) (by kernel_rfl) (by kernel_rfl) (fun _ _ _ h => h) (Or.inl ⟨by rfl, ?hya7⟩) hHeld ?resta7
    case hya7 =>
      intro w hSw
      try dsimp only at hSw
      go_simp
      try with_reducible rfl
    try simp only [Act.put, List.setIfInBounds_toArray, List.set_cons_zero, List.set_cons_succ]
    refine wpAnyH_done (by kernel_rfl) ?_ _
    have HF := HW12.trans (HB.mono HW12.size)
    replace hv9 := hv9.out
    cases told <;> cases b
    · rw [if_pos rfl] at hv9
      subst hv9
      go_wp2_with fail
      go_ret
      exact ⟨rfl, HF⟩
    · rw [if_neg (by decide)] at hv9
      subst hv9
      go_wp2_with fail
      go_ret
      exact ⟨rfl, HF⟩
    · rw [if_neg (by decide)] at hv9
      subst hv9
      go_wp2_with fail
      go_ret
      exact ⟨rfl, HF⟩
    · rw [if_pos rfl] at hv9
      subst hv9
      go_wp2_with fail
      go_ret
      exact ⟨rfl, HF⟩
end Go.Proofs.YtnccbhndlnkboaaDoor
