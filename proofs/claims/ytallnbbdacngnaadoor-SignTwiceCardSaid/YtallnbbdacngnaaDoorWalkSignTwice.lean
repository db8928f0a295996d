/- The walk of the statement SignTwice. -/
import Derived.Test.YtallnbbdacngnaaDoorRSign
namespace Go.Proofs.YtallnbbdacngnaaDoor
open Go.RowKit Go.Shelf Jac Cdc Sha
set_option linter.unusedVariables false
set_option linter.unusedSimpArgs false

set_option maxRecDepth 100000 in
set_option maxHeartbeats 4000000 in
theorem twice_g1 (key : Int) (bs : List UInt8) (n : Nat) (A : Option Addr) (c : Nat) (bs2 : List UInt8) (n2 : Nat) (A2 : Option Addr) (c2 : Nat) (bs3 : List UInt8) (n3 : Nat) (A3 : Option Addr) (c3 : Nat) (E S E2 S2 : Int) (w : World) (hn : bs.length = n) (hA : AtO w A bs) (hn2 : bs2.length = n2) (hA2 : AtO w A2 bs2) (hn3 : bs3.length = n3) (hA3 : AtO w A3 bs3) (hL : Laid w) (g1 : 600 < n) :
    Calls Tryd.prog 13 #[.int .i64 key, .slice A n c, .slice A2 n2 c2, .slice A3 n3 c3, .agg #[.int .i64 E, .int .i64 S], .agg #[.int .i64 E2, .int .i64 S2]] w fun e w' => e = .returned (.bool true) ∧ Below w.heap.size w w' := by
  replace hn := Lib.hid hn
  replace hA := Lib.hid hA
  replace hn2 := Lib.hid hn2
  replace hA2 := Lib.hid hA2
  replace hn3 := Lib.hid hn3
  replace hA3 := Lib.hid hA3
  have cc := fun (b : Nat) (E S : Int) (W : World) (h : W.heap[b]? = some (.cells #[.int .i64 E, .int .i64 S] 50 (0, 0))) => (show W.cell? ⟨b, 0, none⟩ = some (.int .i64 E) ∧ W.cell? ⟨b, 1, none⟩ = some (.int .i64 S) from ⟨by rw [cell_of_row _ _ _ _ _ _ h]; rfl, by rw [cell_of_row _ _ _ _ _ _ h]; rfl⟩)
  go_enter Tryd.func13, Tryd.ntmps13
  go_wp2_with fail
  have hr1 := heap_alloc_new w (.cells #[.int .i64 E, .int .i64 S] 50)
  have hr2 := heap_alloc_new (w.alloc (.cells #[.int .i64 E, .int .i64 S] 50)) (.cells #[.int .i64 E2, .int .i64 S2] 50)
  have hs0 : (w.alloc (.cells #[.int .i64 E, .int .i64 S] 50)).heap.size = w.heap.size + 1 := by simp
  rw [hs0] at hr2
  have hbn := (Below.refl (w.heap.size + 1) (w.alloc (.cells #[.int .i64 E, .int .i64 S] 50))).alloc (by simp) (.cells #[.int .i64 E2, .int .i64 S2] 50)
  replace hr1 := (hbn.block w.heap.size (by omega)).trans hr1
  have hB := ((Below.refl w.heap.size w).alloc (Nat.le_refl _) (.cells #[.int .i64 E, .int .i64 S] 50)).alloc (by simp) (.cells #[.int .i64 E2, .int .i64 S2] 50)
  clear hbn hs0
  refine (ssane_any _ (hL.below hB)).mono ?_
  rintro e w1 ⟨rfl, hb⟩
  replace hr1 := (hb.block w.heap.size (Array.getElem?_eq_some_iff.1 hr1).1).trans hr1
  replace hr2 := (hb.block (w.heap.size + 1) (Array.getElem?_eq_some_iff.1 hr2).1).trans hr2
  replace hB := hB.trans (hb.mono hB.size)
  clear hb
  obtain ⟨c0, c1⟩ := cc _ _ _ _ hr1
  obtain ⟨d0, d1⟩ := cc _ _ _ _ hr2
  go_wp2_with fail
  go_ret
  exact ⟨rfl, hB⟩

set_option maxRecDepth 100000 in
set_option maxHeartbeats 4000000 in
theorem twice_g2 (key : Int) (bs : List UInt8) (n : Nat) (A : Option Addr) (c : Nat) (bs2 : List UInt8) (n2 : Nat) (A2 : Option Addr) (c2 : Nat) (bs3 : List UInt8) (n3 : Nat) (A3 : Option Addr) (c3 : Nat) (E S E2 S2 : Int) (w : World) (hn : bs.length = n) (hA : AtO w A bs) (hn2 : bs2.length = n2) (hA2 : AtO w A2 bs2) (hn3 : bs3.length = n3) (hA3 : AtO w A3 bs3) (hL : Laid w) (g1 : ¬ 600 < n) (g2 : 600 < n2) :
    Calls Tryd.prog 13 #[.int .i64 key, .slice A n c, .slice A2 n2 c2, .slice A3 n3 c3, .agg #[.int .i64 E, .int .i64 S], .agg #[.int .i64 E2, .int .i64 S2]] w fun e w' => e = .returned (.bool true) ∧ Below w.heap.size w w' := by
  replace hn := Lib.hid hn
  replace hA := Lib.hid hA
  replace hn2 := Lib.hid hn2
  replace hA2 := Lib.hid hA2
  replace hn3 := Lib.hid hn3
  replace hA3 := Lib.hid hA3
  have cc := fun (b : Nat) (E S : Int) (W : World) (h : W.heap[b]? = some (.cells #[.int .i64 E, .int .i64 S] 50 (0, 0))) => (show W.cell? ⟨b, 0, none⟩ = some (.int .i64 E) ∧ W.cell? ⟨b, 1, none⟩ = some (.int .i64 S) from ⟨by rw [cell_of_row _ _ _ _ _ _ h]; rfl, by rw [cell_of_row _ _ _ _ _ _ h]; rfl⟩)
  go_enter Tryd.func13, Tryd.ntmps13
  go_wp2_with fail
  have hr1 := heap_alloc_new w (.cells #[.int .i64 E, .int .i64 S] 50)
  have hr2 := heap_alloc_new (w.alloc (.cells #[.int .i64 E, .int .i64 S] 50)) (.cells #[.int .i64 E2, .int .i64 S2] 50)
  have hs0 : (w.alloc (.cells #[.int .i64 E, .int .i64 S] 50)).heap.size = w.heap.size + 1 := by simp
  rw [hs0] at hr2
  have hbn := (Below.refl (w.heap.size + 1) (w.alloc (.cells #[.int .i64 E, .int .i64 S] 50))).alloc (by simp) (.cells #[.int .i64 E2, .int .i64 S2] 50)
  replace hr1 := (hbn.block w.heap.size (by omega)).trans hr1
  have hB := ((Below.refl w.heap.size w).alloc (Nat.le_refl _) (.cells #[.int .i64 E, .int .i64 S] 50)).alloc (by simp) (.cells #[.int .i64 E2, .int .i64 S2] 50)
  clear hbn hs0
  refine (ssane_any _ (hL.below hB)).mono ?_
  rintro e w1 ⟨rfl, hb⟩
  replace hr1 := (hb.block w.heap.size (Array.getElem?_eq_some_iff.1 hr1).1).trans hr1
  replace hr2 := (hb.block (w.heap.size + 1) (Array.getElem?_eq_some_iff.1 hr2).1).trans hr2
  replace hB := hB.trans (hb.mono hB.size)
  clear hb
  obtain ⟨c0, c1⟩ := cc _ _ _ _ hr1
  obtain ⟨d0, d1⟩ := cc _ _ _ _ hr2
  go_wp2_with fail
  go_ret
  exact ⟨rfl, hB⟩

set_option maxRecDepth 100000 in
set_option maxHeartbeats 4000000 in
theorem twice_g3 (key : Int) (bs : List UInt8) (n : Nat) (A : Option Addr) (c : Nat) (bs2 : List UInt8) (n2 : Nat) (A2 : Option Addr) (c2 : Nat) (bs3 : List UInt8) (n3 : Nat) (A3 : Option Addr) (c3 : Nat) (E S E2 S2 : Int) (w : World) (hn : bs.length = n) (hA : AtO w A bs) (hn2 : bs2.length = n2) (hA2 : AtO w A2 bs2) (hn3 : bs3.length = n3) (hA3 : AtO w A3 bs3) (hL : Laid w) (g1 : ¬ 600 < n) (g2 : ¬ 600 < n2) (g3 : 600 < n3) :
    Calls Tryd.prog 13 #[.int .i64 key, .slice A n c, .slice A2 n2 c2, .slice A3 n3 c3, .agg #[.int .i64 E, .int .i64 S], .agg #[.int .i64 E2, .int .i64 S2]] w fun e w' => e = .returned (.bool true) ∧ Below w.heap.size w w' := by
  replace hn := Lib.hid hn
  replace hA := Lib.hid hA
  replace hn2 := Lib.hid hn2
  replace hA2 := Lib.hid hA2
  replace hn3 := Lib.hid hn3
  replace hA3 := Lib.hid hA3
  have cc := fun (b : Nat) (E S : Int) (W : World) (h : W.heap[b]? = some (.cells #[.int .i64 E, .int .i64 S] 50 (0, 0))) => (show W.cell? ⟨b, 0, none⟩ = some (.int .i64 E) ∧ W.cell? ⟨b, 1, none⟩ = some (.int .i64 S) from ⟨by rw [cell_of_row _ _ _ _ _ _ h]; rfl, by rw [cell_of_row _ _ _ _ _ _ h]; rfl⟩)
  go_enter Tryd.func13, Tryd.ntmps13
  go_wp2_with fail
  have hr1 := heap_alloc_new w (.cells #[.int .i64 E, .int .i64 S] 50)
  have hr2 := heap_alloc_new (w.alloc (.cells #[.int .i64 E, .int .i64 S] 50)) (.cells #[.int .i64 E2, .int .i64 S2] 50)
  have hs0 : (w.alloc (.cells #[.int .i64 E, .int .i64 S] 50)).heap.size = w.heap.size + 1 := by simp
  rw [hs0] at hr2
  have hbn := (Below.refl (w.heap.size + 1) (w.alloc (.cells #[.int .i64 E, .int .i64 S] 50))).alloc (by simp) (.cells #[.int .i64 E2, .int .i64 S2] 50)
  replace hr1 := (hbn.block w.heap.size (by omega)).trans hr1
  have hB := ((Below.refl w.heap.size w).alloc (Nat.le_refl _) (.cells #[.int .i64 E, .int .i64 S] 50)).alloc (by simp) (.cells #[.int .i64 E2, .int .i64 S2] 50)
  clear hbn hs0
  refine (ssane_any _ (hL.below hB)).mono ?_
  rintro e w1 ⟨rfl, hb⟩
  replace hr1 := (hb.block w.heap.size (Array.getElem?_eq_some_iff.1 hr1).1).trans hr1
  replace hr2 := (hb.block (w.heap.size + 1) (Array.getElem?_eq_some_iff.1 hr2).1).trans hr2
  replace hB := hB.trans (hb.mono hB.size)
  clear hb
  obtain ⟨c0, c1⟩ := cc _ _ _ _ hr1
  obtain ⟨d0, d1⟩ := cc _ _ _ _ hr2
  go_wp2_with fail
  go_ret
  exact ⟨rfl, hB⟩

set_option maxRecDepth 100000 in
set_option maxHeartbeats 4000000 in
theorem twice_v1 (key : Int) (bs : List UInt8) (n : Nat) (A : Option Addr) (c : Nat) (bs2 : List UInt8) (n2 : Nat) (A2 : Option Addr) (c2 : Nat) (bs3 : List UInt8) (n3 : Nat) (A3 : Option Addr) (c3 : Nat) (E S E2 S2 : Int) (w : World) (hn : bs.length = n) (hA : AtO w A bs) (hn2 : bs2.length = n2) (hA2 : AtO w A2 bs2) (hn3 : bs3.length = n3) (hA3 : AtO w A3 bs3) (hL : Laid w) (g1 : ¬ 600 < n) (g2 : ¬ 600 < n2) (g3 : ¬ 600 < n3) (hv1 : Hid (vfB key bs E S = false)) :
    Calls Tryd.prog 13 #[.int .i64 key, .slice A n c, .slice A2 n2 c2, .slice A3 n3 c3, .agg #[.int .i64 E, .int .i64 S], .agg #[.int .i64 E2, .int .i64 S2]] w fun e w' => e = .returned (.bool true) ∧ Below w.heap.size w w' := by
  replace hn := Lib.hid hn
  replace hA := Lib.hid hA
  replace hn2 := Lib.hid hn2
  replace hA2 := Lib.hid hA2
  replace hn3 := Lib.hid hn3
  replace hA3 := Lib.hid hA3
  have cc := fun (b : Nat) (E S : Int) (W : World) (h : W.heap[b]? = some (.cells #[.int .i64 E, .int .i64 S] 50 (0, 0))) => (show W.cell? ⟨b, 0, none⟩ = some (.int .i64 E) ∧ W.cell? ⟨b, 1, none⟩ = some (.int .i64 S) from ⟨by rw [cell_of_row _ _ _ _ _ _ h]; rfl, by rw [cell_of_row _ _ _ _ _ _ h]; rfl⟩)
  go_enter Tryd.func13, Tryd.ntmps13
  go_wp2_with fail
  have hr1 := heap_alloc_new w (.cells #[.int .i64 E, .int .i64 S] 50)
  have hr2 := heap_alloc_new (w.alloc (.cells #[.int .i64 E, .int .i64 S] 50)) (.cells #[.int .i64 E2, .int .i64 S2] 50)
  have hs0 : (w.alloc (.cells #[.int .i64 E, .int .i64 S] 50)).heap.size = w.heap.size + 1 := by simp
  rw [hs0] at hr2
  have hbn := (Below.refl (w.heap.size + 1) (w.alloc (.cells #[.int .i64 E, .int .i64 S] 50))).alloc (by simp) (.cells #[.int .i64 E2, .int .i64 S2] 50)
  replace hr1 := (hbn.block w.heap.size (by omega)).trans hr1
  have hB := ((Below.refl w.heap.size w).alloc (Nat.le_refl _) (.cells #[.int .i64 E, .int .i64 S] 50)).alloc (by simp) (.cells #[.int .i64 E2, .int .i64 S2] 50)
  clear hbn hs0
  refine (ssane_any _ (hL.below hB)).mono ?_
  rintro e w1 ⟨rfl, hb⟩
  replace hr1 := (hb.block w.heap.size (Array.getElem?_eq_some_iff.1 hr1).1).trans hr1
  replace hr2 := (hb.block (w.heap.size + 1) (Array.getElem?_eq_some_iff.1 hr2).1).trans hr2
  replace hB := hB.trans (hb.mono hB.size)
  clear hb
  obtain ⟨c0, c1⟩ := cc _ _ _ _ hr1
  obtain ⟨d0, d1⟩ := cc _ _ _ _ hr2
  go_wp2_with fail
  refine (verify_any key bs E S A n c _ hn.out (by omega) (hA.out.below hB) (hL.below hB)).mono ?_
  rintro e w2 ⟨rfl, hb⟩
  rw [hv1.out]
  replace hr1 := (hb.block w.heap.size (Array.getElem?_eq_some_iff.1 hr1).1).trans hr1
  replace hr2 := (hb.block (w.heap.size + 1) (Array.getElem?_eq_some_iff.1 hr2).1).trans hr2
  replace hB := hB.trans (hb.mono hB.size)
  clear hb c0 c1 d0 d1
  obtain ⟨c0, c1⟩ := cc _ _ _ _ hr1
  obtain ⟨d0, d1⟩ := cc _ _ _ _ hr2
  go_wp2_with fail
  go_ret
  exact ⟨rfl, hB⟩

set_option maxRecDepth 100000 in
set_option maxHeartbeats 4000000 in
theorem twice_v2 (key : Int) (bs : List UInt8) (n : Nat) (A : Option Addr) (c : Nat) (bs2 : List UInt8) (n2 : Nat) (A2 : Option Addr) (c2 : Nat) (bs3 : List UInt8) (n3 : Nat) (A3 : Option Addr) (c3 : Nat) (E S E2 S2 : Int) (w : World) (hn : bs.length = n) (hA : AtO w A bs) (hn2 : bs2.length = n2) (hA2 : AtO w A2 bs2) (hn3 : bs3.length = n3) (hA3 : AtO w A3 bs3) (hL : Laid w) (g1 : ¬ 600 < n) (g2 : ¬ 600 < n2) (g3 : ¬ 600 < n3) (hv1 : Hid (vfB key bs E S = true)) (hv2 : Hid (vfB key bs2 E2 S2 = false)) :
    Calls Tryd.prog 13 #[.int .i64 key, .slice A n c, .slice A2 n2 c2, .slice A3 n3 c3, .agg #[.int .i64 E, .int .i64 S], .agg #[.int .i64 E2, .int .i64 S2]] w fun e w' => e = .returned (.bool true) ∧ Below w.heap.size w w' := by
  replace hn := Lib.hid hn
  replace hA := Lib.hid hA
  replace hn2 := Lib.hid hn2
  replace hA2 := Lib.hid hA2
  replace hn3 := Lib.hid hn3
  replace hA3 := Lib.hid hA3
  have cc := fun (b : Nat) (E S : Int) (W : World) (h : W.heap[b]? = some (.cells #[.int .i64 E, .int .i64 S] 50 (0, 0))) => (show W.cell? ⟨b, 0, none⟩ = some (.int .i64 E) ∧ W.cell? ⟨b, 1, none⟩ = some (.int .i64 S) from ⟨by rw [cell_of_row _ _ _ _ _ _ h]; rfl, by rw [cell_of_row _ _ _ _ _ _ h]; rfl⟩)
  go_enter Tryd.func13, Tryd.ntmps13
  go_wp2_with fail
  have hr1 := heap_alloc_new w (.cells #[.int .i64 E, .int .i64 S] 50)
  have hr2 := heap_alloc_new (w.alloc (.cells #[.int .i64 E, .int .i64 S] 50)) (.cells #[.int .i64 E2, .int .i64 S2] 50)
  have hs0 : (w.alloc (.cells #[.int .i64 E, .int .i64 S] 50)).heap.size = w.heap.size + 1 := by simp
  rw [hs0] at hr2
  have hbn := (Below.refl (w.heap.size + 1) (w.alloc (.cells #[.int .i64 E, .int .i64 S] 50))).alloc (by simp) (.cells #[.int .i64 E2, .int .i64 S2] 50)
  replace hr1 := (hbn.block w.heap.size (by omega)).trans hr1
  have hB := ((Below.refl w.heap.size w).alloc (Nat.le_refl _) (.cells #[.int .i64 E, .int .i64 S] 50)).alloc (by simp) (.cells #[.int .i64 E2, .int .i64 S2] 50)
  clear hbn hs0
  refine (ssane_any _ (hL.below hB)).mono ?_
  rintro e w1 ⟨rfl, hb⟩
  replace hr1 := (hb.block w.heap.size (Array.getElem?_eq_some_iff.1 hr1).1).trans hr1
  replace hr2 := (hb.block (w.heap.size + 1) (Array.getElem?_eq_some_iff.1 hr2).1).trans hr2
  replace hB := hB.trans (hb.mono hB.size)
  clear hb
  obtain ⟨c0, c1⟩ := cc _ _ _ _ hr1
  obtain ⟨d0, d1⟩ := cc _ _ _ _ hr2
  go_wp2_with fail
  refine (verify_any key bs E S A n c _ hn.out (by omega) (hA.out.below hB) (hL.below hB)).mono ?_
  rintro e w2 ⟨rfl, hb⟩
  rw [hv1.out]
  replace hr1 := (hb.block w.heap.size (Array.getElem?_eq_some_iff.1 hr1).1).trans hr1
  replace hr2 := (hb.block (w.heap.size + 1) (Array.getElem?_eq_some_iff.1 hr2).1).trans hr2
  replace hB := hB.trans (hb.mono hB.size)
  clear hb c0 c1 d0 d1
  obtain ⟨c0, c1⟩ := cc _ _ _ _ hr1
  obtain ⟨d0, d1⟩ := cc _ _ _ _ hr2
  go_wp2_with fail
  refine (verify_any key bs2 E2 S2 A2 n2 c2 _ hn2.out (by omega) (hA2.out.below hB) (hL.below hB)).mono ?_
  rintro e w3 ⟨rfl, hb⟩
  rw [hv2.out]
  replace hr1 := (hb.block w.heap.size (Array.getElem?_eq_some_iff.1 hr1).1).trans hr1
  replace hr2 := (hb.block (w.heap.size + 1) (Array.getElem?_eq_some_iff.1 hr2).1).trans hr2
  replace hB := hB.trans (hb.mono hB.size)
  clear hb c0 c1 d0 d1
  obtain ⟨c0, c1⟩ := cc _ _ _ _ hr1
  obtain ⟨d0, d1⟩ := cc _ _ _ _ hr2
  go_wp2_with fail
  go_ret
  exact ⟨rfl, hB⟩

set_option maxRecDepth 100000 in
set_option maxHeartbeats 4000000 in
theorem twice_pt (key : Int) (bs : List UInt8) (n : Nat) (A : Option Addr) (c : Nat) (bs2 : List UInt8) (n2 : Nat) (A2 : Option Addr) (c2 : Nat) (bs3 : List UInt8) (n3 : Nat) (A3 : Option Addr) (c3 : Nat) (E S E2 S2 : Int) (w : World) (hn : bs.length = n) (hA : AtO w A bs) (hn2 : bs2.length = n2) (hA2 : AtO w A2 bs2) (hn3 : bs3.length = n3) (hA3 : AtO w A3 bs3) (hL : Laid w) (g1 : ¬ 600 < n) (g2 : ¬ 600 < n2) (g3 : ¬ 600 < n3) (hv1 : Hid (vfB key bs E S = true)) (hv2 : Hid (vfB key bs2 E2 S2 = true)) (hk : validB key = true) (h : 0 ≤ E ∧ E < 1073741789 ∧ 0 ≤ S ∧ S < 1073741789) (h2 : 0 ≤ E2 ∧ E2 < 1073741789 ∧ 0 ≤ S2 ∧ S2 < 1073741789) (hne : ptC key E S ≠ ptC key E2 S2) :
    Calls Tryd.prog 13 #[.int .i64 key, .slice A n c, .slice A2 n2 c2, .slice A3 n3 c3, .agg #[.int .i64 E, .int .i64 S], .agg #[.int .i64 E2, .int .i64 S2]] w fun e w' => e = .returned (.bool true) ∧ Below w.heap.size w w' := by
  replace hn := Lib.hid hn
  replace hA := Lib.hid hA
  replace hn2 := Lib.hid hn2
  replace hA2 := Lib.hid hA2
  replace hn3 := Lib.hid hn3
  replace hA3 := Lib.hid hA3
  have cc := fun (b : Nat) (E S : Int) (W : World) (h : W.heap[b]? = some (.cells #[.int .i64 E, .int .i64 S] 50 (0, 0))) => (show W.cell? ⟨b, 0, none⟩ = some (.int .i64 E) ∧ W.cell? ⟨b, 1, none⟩ = some (.int .i64 S) from ⟨by rw [cell_of_row _ _ _ _ _ _ h]; rfl, by rw [cell_of_row _ _ _ _ _ _ h]; rfl⟩)
  have h0 := Lib.hid h
  have h20 := Lib.hid h2
  obtain ⟨p, hp⟩ : ∃ p, ptC key E S = p := ⟨_, rfl⟩
  obtain ⟨q, hq⟩ : ∃ q, ptC key E2 S2 = q := ⟨_, rfl⟩
  replace hp := Lib.hid hp
  replace hq := Lib.hid hq
  replace hk := Lib.hid hk
  obtain ⟨h1, h2, h3, h4⟩ := h
  obtain ⟨i1, i2, i3, i4⟩ := h20.out
  have hpq : ¬ p = q := by rw [← hp.out, ← hq.out]; exact hne
  clear hne
  go_enter Tryd.func13, Tryd.ntmps13
  go_wp2_with fail
  have hr1 := heap_alloc_new w (.cells #[.int .i64 E, .int .i64 S] 50)
  have hr2 := heap_alloc_new (w.alloc (.cells #[.int .i64 E, .int .i64 S] 50)) (.cells #[.int .i64 E2, .int .i64 S2] 50)
  have hs0 : (w.alloc (.cells #[.int .i64 E, .int .i64 S] 50)).heap.size = w.heap.size + 1 := by simp
  rw [hs0] at hr2
  have hbn := (Below.refl (w.heap.size + 1) (w.alloc (.cells #[.int .i64 E, .int .i64 S] 50))).alloc (by simp) (.cells #[.int .i64 E2, .int .i64 S2] 50)
  replace hr1 := (hbn.block w.heap.size (by omega)).trans hr1
  have hB := ((Below.refl w.heap.size w).alloc (Nat.le_refl _) (.cells #[.int .i64 E, .int .i64 S] 50)).alloc (by simp) (.cells #[.int .i64 E2, .int .i64 S2] 50)
  clear hbn hs0
  refine (ssane_any _ (hL.below hB)).mono ?_
  rintro e w1 ⟨rfl, hb⟩
  replace hr1 := (hb.block w.heap.size (Array.getElem?_eq_some_iff.1 hr1).1).trans hr1
  replace hr2 := (hb.block (w.heap.size + 1) (Array.getElem?_eq_some_iff.1 hr2).1).trans hr2
  replace hB := hB.trans (hb.mono hB.size)
  clear hb
  obtain ⟨c0, c1⟩ := cc _ _ _ _ hr1
  obtain ⟨d0, d1⟩ := cc _ _ _ _ hr2
  go_wp2_with fail
  refine (verify_any key bs E S A n c _ hn.out (by omega) (hA.out.below hB) (hL.below hB)).mono ?_
  rintro e w2 ⟨rfl, hb⟩
  rw [hv1.out]
  replace hr1 := (hb.block w.heap.size (Array.getElem?_eq_some_iff.1 hr1).1).trans hr1
  replace hr2 := (hb.block (w.heap.size + 1) (Array.getElem?_eq_some_iff.1 hr2).1).trans hr2
  replace hB := hB.trans (hb.mono hB.size)
  clear hb c0 c1 d0 d1
  obtain ⟨c0, c1⟩ := cc _ _ _ _ hr1
  obtain ⟨d0, d1⟩ := cc _ _ _ _ hr2
  go_wp2_with fail
  refine (verify_any key bs2 E2 S2 A2 n2 c2 _ hn2.out (by omega) (hA2.out.below hB) (hL.below hB)).mono ?_
  rintro e w3 ⟨rfl, hb⟩
  rw [hv2.out]
  replace hr1 := (hb.block w.heap.size (Array.getElem?_eq_some_iff.1 hr1).1).trans hr1
  replace hr2 := (hb.block (w.heap.size + 1) (Array.getElem?_eq_some_iff.1 hr2).1).trans hr2
  replace hB := hB.trans (hb.mono hB.size)
  clear hb c0 c1 d0 d1
  obtain ⟨c0, c1⟩ := cc _ _ _ _ hr1
  obtain ⟨d0, d1⟩ := cc _ _ _ _ hr2
  go_wp2_with fail
  refine (point_any key E S _ h0.out hk.out).mono ?_
  rintro e w4 ⟨rfl, hb⟩
  rw [hp.out]
  replace hr1 := (hb.block w.heap.size (Array.getElem?_eq_some_iff.1 hr1).1).trans hr1
  replace hr2 := (hb.block (w.heap.size + 1) (Array.getElem?_eq_some_iff.1 hr2).1).trans hr2
  replace hB := hB.trans (hb.mono hB.size)
  clear hb c0 c1 d0 d1
  obtain ⟨c0, c1⟩ := cc _ _ _ _ hr1
  obtain ⟨d0, d1⟩ := cc _ _ _ _ hr2
  go_wp2_with fail
  refine (point_any key E2 S2 _ h20.out hk.out).mono ?_
  rintro e w5 ⟨rfl, hb⟩
  rw [hq.out]
  replace hr1 := (hb.block w.heap.size (Array.getElem?_eq_some_iff.1 hr1).1).trans hr1
  replace hr2 := (hb.block (w.heap.size + 1) (Array.getElem?_eq_some_iff.1 hr2).1).trans hr2
  replace hB := hB.trans (hb.mono hB.size)
  clear hb c0 c1 d0 d1
  obtain ⟨c0, c1⟩ := cc _ _ _ _ hr1
  obtain ⟨d0, d1⟩ := cc _ _ _ _ hr2
  go_wp2_with fail
  go_ret
  exact ⟨rfl, hB⟩

set_option maxRecDepth 100000 in
set_option maxHeartbeats 4000000 in
theorem twice_mod (key : Int) (bs : List UInt8) (n : Nat) (A : Option Addr) (c : Nat) (bs2 : List UInt8) (n2 : Nat) (A2 : Option Addr) (c2 : Nat) (bs3 : List UInt8) (n3 : Nat) (A3 : Option Addr) (c3 : Nat) (E S E2 S2 : Int) (w : World) (hn : bs.length = n) (hA : AtO w A bs) (hn2 : bs2.length = n2) (hA2 : AtO w A2 bs2) (hn3 : bs3.length = n3) (hA3 : AtO w A3 bs3) (hL : Laid w) (g1 : ¬ 600 < n) (g2 : ¬ 600 < n2) (g3 : ¬ 600 < n3) (hv1 : Hid (vfB key bs E S = true)) (hv2 : Hid (vfB key bs2 E2 S2 = true)) (hk : validB key = true) (h : 0 ≤ E ∧ E < 1073741789 ∧ 0 ≤ S ∧ S < 1073741789) (h2 : 0 ≤ E2 ∧ E2 < 1073741789 ∧ 0 ≤ S2 ∧ S2 < 1073741789) (hpe : ptC key E S = ptC key E2 S2) (hm0 : (E - E2) % 1073741789 = 0) :
    Calls Tryd.prog 13 #[.int .i64 key, .slice A n c, .slice A2 n2 c2, .slice A3 n3 c3, .agg #[.int .i64 E, .int .i64 S], .agg #[.int .i64 E2, .int .i64 S2]] w fun e w' => e = .returned (.bool true) ∧ Below w.heap.size w w' := by
  replace hn := Lib.hid hn
  replace hA := Lib.hid hA
  replace hn2 := Lib.hid hn2
  replace hA2 := Lib.hid hA2
  replace hn3 := Lib.hid hn3
  replace hA3 := Lib.hid hA3
  have cc := fun (b : Nat) (E S : Int) (W : World) (h : W.heap[b]? = some (.cells #[.int .i64 E, .int .i64 S] 50 (0, 0))) => (show W.cell? ⟨b, 0, none⟩ = some (.int .i64 E) ∧ W.cell? ⟨b, 1, none⟩ = some (.int .i64 S) from ⟨by rw [cell_of_row _ _ _ _ _ _ h]; rfl, by rw [cell_of_row _ _ _ _ _ _ h]; rfl⟩)
  have hm := Lib.hid hm0
  clear hm0
  have h0 := Lib.hid h
  have h20 := Lib.hid h2
  obtain ⟨p, hp⟩ : ∃ p, ptC key E S = p := ⟨_, rfl⟩
  obtain ⟨q, hq⟩ : ∃ q, ptC key E2 S2 = q := ⟨_, rfl⟩
  replace hp := Lib.hid hp
  replace hq := Lib.hid hq
  replace hk := Lib.hid hk
  obtain ⟨h1, h2, h3, h4⟩ := h
  obtain ⟨i1, i2, i3, i4⟩ := h20.out
  have hpq : p = q := by rw [← hp.out, ← hq.out]; exact hpe
  clear hpe
  subst hpq
  go_enter Tryd.func13, Tryd.ntmps13
  go_wp2_with fail
  have hr1 := heap_alloc_new w (.cells #[.int .i64 E, .int .i64 S] 50)
  have hr2 := heap_alloc_new (w.alloc (.cells #[.int .i64 E, .int .i64 S] 50)) (.cells #[.int .i64 E2, .int .i64 S2] 50)
  have hs0 : (w.alloc (.cells #[.int .i64 E, .int .i64 S] 50)).heap.size = w.heap.size + 1 := by simp
  rw [hs0] at hr2
  have hbn := (Below.refl (w.heap.size + 1) (w.alloc (.cells #[.int .i64 E, .int .i64 S] 50))).alloc (by simp) (.cells #[.int .i64 E2, .int .i64 S2] 50)
  replace hr1 := (hbn.block w.heap.size (by omega)).trans hr1
  have hB := ((Below.refl w.heap.size w).alloc (Nat.le_refl _) (.cells #[.int .i64 E, .int .i64 S] 50)).alloc (by simp) (.cells #[.int .i64 E2, .int .i64 S2] 50)
  clear hbn hs0
  refine (ssane_any _ (hL.below hB)).mono ?_
  rintro e w1 ⟨rfl, hb⟩
  replace hr1 := (hb.block w.heap.size (Array.getElem?_eq_some_iff.1 hr1).1).trans hr1
  replace hr2 := (hb.block (w.heap.size + 1) (Array.getElem?_eq_some_iff.1 hr2).1).trans hr2
  replace hB := hB.trans (hb.mono hB.size)
  clear hb
  obtain ⟨c0, c1⟩ := cc _ _ _ _ hr1
  obtain ⟨d0, d1⟩ := cc _ _ _ _ hr2
  go_wp2_with fail
  refine (verify_any key bs E S A n c _ hn.out (by omega) (hA.out.below hB) (hL.below hB)).mono ?_
  rintro e w2 ⟨rfl, hb⟩
  rw [hv1.out]
  replace hr1 := (hb.block w.heap.size (Array.getElem?_eq_some_iff.1 hr1).1).trans hr1
  replace hr2 := (hb.block (w.heap.size + 1) (Array.getElem?_eq_some_iff.1 hr2).1).trans hr2
  replace hB := hB.trans (hb.mono hB.size)
  clear hb c0 c1 d0 d1
  obtain ⟨c0, c1⟩ := cc _ _ _ _ hr1
  obtain ⟨d0, d1⟩ := cc _ _ _ _ hr2
  go_wp2_with fail
  refine (verify_any key bs2 E2 S2 A2 n2 c2 _ hn2.out (by omega) (hA2.out.below hB) (hL.below hB)).mono ?_
  rintro e w3 ⟨rfl, hb⟩
  rw [hv2.out]
  replace hr1 := (hb.block w.heap.size (Array.getElem?_eq_some_iff.1 hr1).1).trans hr1
  replace hr2 := (hb.block (w.heap.size + 1) (Array.getElem?_eq_some_iff.1 hr2).1).trans hr2
  replace hB := hB.trans (hb.mono hB.size)
  clear hb c0 c1 d0 d1
  obtain ⟨c0, c1⟩ := cc _ _ _ _ hr1
  obtain ⟨d0, d1⟩ := cc _ _ _ _ hr2
  go_wp2_with fail
  refine (point_any key E S _ h0.out hk.out).mono ?_
  rintro e w4 ⟨rfl, hb⟩
  rw [hp.out]
  replace hr1 := (hb.block w.heap.size (Array.getElem?_eq_some_iff.1 hr1).1).trans hr1
  replace hr2 := (hb.block (w.heap.size + 1) (Array.getElem?_eq_some_iff.1 hr2).1).trans hr2
  replace hB := hB.trans (hb.mono hB.size)
  clear hb c0 c1 d0 d1
  obtain ⟨c0, c1⟩ := cc _ _ _ _ hr1
  obtain ⟨d0, d1⟩ := cc _ _ _ _ hr2
  go_wp2_with fail
  refine (point_any key E2 S2 _ h20.out hk.out).mono ?_
  rintro e w5 ⟨rfl, hb⟩
  rw [hq.out]
  replace hr1 := (hb.block w.heap.size (Array.getElem?_eq_some_iff.1 hr1).1).trans hr1
  replace hr2 := (hb.block (w.heap.size + 1) (Array.getElem?_eq_some_iff.1 hr2).1).trans hr2
  replace hB := hB.trans (hb.mono hB.size)
  clear hb c0 c1 d0 d1
  obtain ⟨c0, c1⟩ := cc _ _ _ _ hr1
  obtain ⟨d0, d1⟩ := cc _ _ _ _ hr2
  go_wp2_with fail
  refine (rmod_any _ _).mono ?_
  rintro e w6 ⟨rfl, rfl⟩
  rw [hm.out]
  go_wp2_with fail
  go_ret
  exact ⟨rfl, hB⟩

set_option maxRecDepth 100000 in
set_option maxHeartbeats 4000000 in
theorem twice_zero (key : Int) (bs : List UInt8) (n : Nat) (A : Option Addr) (c : Nat) (bs2 : List UInt8) (n2 : Nat) (A2 : Option Addr) (c2 : Nat) (bs3 : List UInt8) (n3 : Nat) (A3 : Option Addr) (c3 : Nat) (E S E2 S2 : Int) (w : World) (hn : bs.length = n) (hA : AtO w A bs) (hn2 : bs2.length = n2) (hA2 : AtO w A2 bs2) (hn3 : bs3.length = n3) (hA3 : AtO w A3 bs3) (hL : Laid w) (g1 : ¬ 600 < n) (g2 : ¬ 600 < n2) (g3 : ¬ 600 < n3) (hv1 : Hid (vfB key bs E S = true)) (hv2 : Hid (vfB key bs2 E2 S2 = true)) (hk : validB key = true) (h : 0 ≤ E ∧ E < 1073741789 ∧ 0 ≤ S ∧ S < 1073741789) (h2 : 0 ≤ E2 ∧ E2 < 1073741789 ∧ 0 ≤ S2 ∧ S2 < 1073741789) (hpe : ptC key E S = ptC key E2 S2) (hm0 : ¬ (E - E2) % 1073741789 = 0) (hxz : quoQ (S - S2) (E - E2) = 0) :
    Calls Tryd.prog 13 #[.int .i64 key, .slice A n c, .slice A2 n2 c2, .slice A3 n3 c3, .agg #[.int .i64 E, .int .i64 S], .agg #[.int .i64 E2, .int .i64 S2]] w fun e w' => e = .returned (.bool true) ∧ Below w.heap.size w w' := by
  replace hn := Lib.hid hn
  replace hA := Lib.hid hA
  replace hn2 := Lib.hid hn2
  replace hA2 := Lib.hid hA2
  replace hn3 := Lib.hid hn3
  replace hA3 := Lib.hid hA3
  have cc := fun (b : Nat) (E S : Int) (W : World) (h : W.heap[b]? = some (.cells #[.int .i64 E, .int .i64 S] 50 (0, 0))) => (show W.cell? ⟨b, 0, none⟩ = some (.int .i64 E) ∧ W.cell? ⟨b, 1, none⟩ = some (.int .i64 S) from ⟨by rw [cell_of_row _ _ _ _ _ _ h]; rfl, by rw [cell_of_row _ _ _ _ _ _ h]; rfl⟩)
  have e4 : powE 4 = 0 := by unfold powE; rw [valid_four]; rfl
  have hkey : Hid (powC 4 (quoQ (S - S2) (E - E2)) = key) := Lib.hid (two_law hk h h2 hpe _ (fermatQ (by omega) (by omega)))
  obtain ⟨mm, hm⟩ : ∃ mm, (E - E2) % 1073741789 = mm := ⟨_, rfl⟩
  rw [hm] at hm0
  replace hm := Lib.hid hm
  have hxb : 0 ≤ quoQ (S - S2) (E - E2) ∧ quoQ (S - S2) (E - E2) < 1073741789 := by unfold quoQ; omega
  obtain ⟨x, hx⟩ : ∃ x, quoQ (S - S2) (E - E2) = x := ⟨_, rfl⟩
  rw [hx] at hkey hxz hxb
  replace hx := Lib.hid hx
  have hx1 : x < 1 := by omega
  clear hxz
  have h0 := Lib.hid h
  have h20 := Lib.hid h2
  obtain ⟨p, hp⟩ : ∃ p, ptC key E S = p := ⟨_, rfl⟩
  obtain ⟨q, hq⟩ : ∃ q, ptC key E2 S2 = q := ⟨_, rfl⟩
  replace hp := Lib.hid hp
  replace hq := Lib.hid hq
  replace hk := Lib.hid hk
  obtain ⟨h1, h2, h3, h4⟩ := h
  obtain ⟨i1, i2, i3, i4⟩ := h20.out
  have hpq : p = q := by rw [← hp.out, ← hq.out]; exact hpe
  clear hpe
  subst hpq
  go_enter Tryd.func13, Tryd.ntmps13
  go_wp2_with fail
  have hr1 := heap_alloc_new w (.cells #[.int .i64 E, .int .i64 S] 50)
  have hr2 := heap_alloc_new (w.alloc (.cells #[.int .i64 E, .int .i64 S] 50)) (.cells #[.int .i64 E2, .int .i64 S2] 50)
  have hs0 : (w.alloc (.cells #[.int .i64 E, .int .i64 S] 50)).heap.size = w.heap.size + 1 := by simp
  rw [hs0] at hr2
  have hbn := (Below.refl (w.heap.size + 1) (w.alloc (.cells #[.int .i64 E, .int .i64 S] 50))).alloc (by simp) (.cells #[.int .i64 E2, .int .i64 S2] 50)
  replace hr1 := (hbn.block w.heap.size (by omega)).trans hr1
  have hB := ((Below.refl w.heap.size w).alloc (Nat.le_refl _) (.cells #[.int .i64 E, .int .i64 S] 50)).alloc (by simp) (.cells #[.int .i64 E2, .int .i64 S2] 50)
  clear hbn hs0
  refine (ssane_any _ (hL.below hB)).mono ?_
  rintro e w1 ⟨rfl, hb⟩
  replace hr1 := (hb.block w.heap.size (Array.getElem?_eq_some_iff.1 hr1).1).trans hr1
  replace hr2 := (hb.block (w.heap.size + 1) (Array.getElem?_eq_some_iff.1 hr2).1).trans hr2
  replace hB := hB.trans (hb.mono hB.size)
  clear hb
  obtain ⟨c0, c1⟩ := cc _ _ _ _ hr1
  obtain ⟨d0, d1⟩ := cc _ _ _ _ hr2
  go_wp2_with fail
  refine (verify_any key bs E S A n c _ hn.out (by omega) (hA.out.below hB) (hL.below hB)).mono ?_
  rintro e w2 ⟨rfl, hb⟩
  rw [hv1.out]
  replace hr1 := (hb.block w.heap.size (Array.getElem?_eq_some_iff.1 hr1).1).trans hr1
  replace hr2 := (hb.block (w.heap.size + 1) (Array.getElem?_eq_some_iff.1 hr2).1).trans hr2
  replace hB := hB.trans (hb.mono hB.size)
  clear hb c0 c1 d0 d1
  obtain ⟨c0, c1⟩ := cc _ _ _ _ hr1
  obtain ⟨d0, d1⟩ := cc _ _ _ _ hr2
  go_wp2_with fail
  refine (verify_any key bs2 E2 S2 A2 n2 c2 _ hn2.out (by omega) (hA2.out.below hB) (hL.below hB)).mono ?_
  rintro e w3 ⟨rfl, hb⟩
  rw [hv2.out]
  replace hr1 := (hb.block w.heap.size (Array.getElem?_eq_some_iff.1 hr1).1).trans hr1
  replace hr2 := (hb.block (w.heap.size + 1) (Array.getElem?_eq_some_iff.1 hr2).1).trans hr2
  replace hB := hB.trans (hb.mono hB.size)
  clear hb c0 c1 d0 d1
  obtain ⟨c0, c1⟩ := cc _ _ _ _ hr1
  obtain ⟨d0, d1⟩ := cc _ _ _ _ hr2
  go_wp2_with fail
  refine (point_any key E S _ h0.out hk.out).mono ?_
  rintro e w4 ⟨rfl, hb⟩
  rw [hp.out]
  replace hr1 := (hb.block w.heap.size (Array.getElem?_eq_some_iff.1 hr1).1).trans hr1
  replace hr2 := (hb.block (w.heap.size + 1) (Array.getElem?_eq_some_iff.1 hr2).1).trans hr2
  replace hB := hB.trans (hb.mono hB.size)
  clear hb c0 c1 d0 d1
  obtain ⟨c0, c1⟩ := cc _ _ _ _ hr1
  obtain ⟨d0, d1⟩ := cc _ _ _ _ hr2
  go_wp2_with fail
  refine (point_any key E2 S2 _ h20.out hk.out).mono ?_
  rintro e w5 ⟨rfl, hb⟩
  rw [hq.out]
  replace hr1 := (hb.block w.heap.size (Array.getElem?_eq_some_iff.1 hr1).1).trans hr1
  replace hr2 := (hb.block (w.heap.size + 1) (Array.getElem?_eq_some_iff.1 hr2).1).trans hr2
  replace hB := hB.trans (hb.mono hB.size)
  clear hb c0 c1 d0 d1
  obtain ⟨c0, c1⟩ := cc _ _ _ _ hr1
  obtain ⟨d0, d1⟩ := cc _ _ _ _ hr2
  go_wp2_with fail
  refine (rmod_any _ _).mono ?_
  rintro e w6 ⟨rfl, rfl⟩
  rw [hm.out]
  go_wp2_with fail
  refine (rquot_any _ _ _).mono ?_
  rintro e w7 ⟨rfl, rfl⟩
  rw [hx.out]
  go_wp2_with fail
  refine (pow_any 4 x _).mono ?_
  rintro e w8 ⟨rfl, hb⟩
  rw [e4, hkey.out]
  replace hr1 := (hb.block w.heap.size (Array.getElem?_eq_some_iff.1 hr1).1).trans hr1
  replace hr2 := (hb.block (w.heap.size + 1) (Array.getElem?_eq_some_iff.1 hr2).1).trans hr2
  replace hB := hB.trans (hb.mono hB.size)
  clear hb c0 c1 d0 d1
  obtain ⟨c0, c1⟩ := cc _ _ _ _ hr1
  obtain ⟨d0, d1⟩ := cc _ _ _ _ hr2
  go_wp2_with fail
  refine (sign_out x _ n3 c3 _ (.inl hx1)).mono ?_
  rintro e w9 ⟨rfl, hb⟩
  replace hB := hB.trans (hb.mono hB.size)
  clear hb c0 c1 d0 d1
  have hB9 := hB.alloc hB.size (.cells #[.int .i64 0, .int .i64 0] 50)
  go_wp2_with fail
  go_ret
  exact ⟨rfl, hB9⟩

set_option maxRecDepth 100000 in
set_option maxHeartbeats 4000000 in
theorem twice_some (key : Int) (bs : List UInt8) (n : Nat) (A : Option Addr) (c : Nat) (bs2 : List UInt8) (n2 : Nat) (A2 : Option Addr) (c2 : Nat) (bs3 : List UInt8) (n3 : Nat) (A3 : Option Addr) (c3 : Nat) (E S E2 S2 : Int) (w : World) (hn : bs.length = n) (hA : AtO w A bs) (hn2 : bs2.length = n2) (hA2 : AtO w A2 bs2) (hn3 : bs3.length = n3) (hA3 : AtO w A3 bs3) (hL : Laid w) (g1 : ¬ 600 < n) (g2 : ¬ 600 < n2) (g3 : ¬ 600 < n3) (hv1 : Hid (vfB key bs E S = true)) (hv2 : Hid (vfB key bs2 E2 S2 = true)) (hk : validB key = true) (h : 0 ≤ E ∧ E < 1073741789 ∧ 0 ≤ S ∧ S < 1073741789) (h2 : 0 ≤ E2 ∧ E2 < 1073741789 ∧ 0 ≤ S2 ∧ S2 < 1073741789) (hpe : ptC key E S = ptC key E2 S2) (hm0 : ¬ (E - E2) % 1073741789 = 0) (hxz : ¬ quoQ (S - S2) (E - E2) = 0) :
    Calls Tryd.prog 13 #[.int .i64 key, .slice A n c, .slice A2 n2 c2, .slice A3 n3 c3, .agg #[.int .i64 E, .int .i64 S], .agg #[.int .i64 E2, .int .i64 S2]] w fun e w' => e = .returned (.bool true) ∧ Below w.heap.size w w' := by
  replace hn := Lib.hid hn
  replace hA := Lib.hid hA
  replace hn2 := Lib.hid hn2
  replace hA2 := Lib.hid hA2
  replace hn3 := Lib.hid hn3
  replace hA3 := Lib.hid hA3
  have cc := fun (b : Nat) (E S : Int) (W : World) (h : W.heap[b]? = some (.cells #[.int .i64 E, .int .i64 S] 50 (0, 0))) => (show W.cell? ⟨b, 0, none⟩ = some (.int .i64 E) ∧ W.cell? ⟨b, 1, none⟩ = some (.int .i64 S) from ⟨by rw [cell_of_row _ _ _ _ _ _ h]; rfl, by rw [cell_of_row _ _ _ _ _ _ h]; rfl⟩)
  have e4 : powE 4 = 0 := by unfold powE; rw [valid_four]; rfl
  have hkey : Hid (powC 4 (quoQ (S - S2) (E - E2)) = key) := Lib.hid (two_law hk h h2 hpe _ (fermatQ (by omega) (by omega)))
  obtain ⟨mm, hm⟩ : ∃ mm, (E - E2) % 1073741789 = mm := ⟨_, rfl⟩
  rw [hm] at hm0
  replace hm := Lib.hid hm
  have hxb : 0 ≤ quoQ (S - S2) (E - E2) ∧ quoQ (S - S2) (E - E2) < 1073741789 := by unfold quoQ; omega
  obtain ⟨x, hx⟩ : ∃ x, quoQ (S - S2) (E - E2) = x := ⟨_, rfl⟩
  rw [hx] at hkey hxz hxb
  replace hx := Lib.hid hx
  have hvx := vf_right x bs3 (by omega) (by omega)
  rw [hkey.out] at hvx
  obtain ⟨E3, hE3⟩ : ∃ E3, sgE x bs3 = E3 := ⟨_, rfl⟩
  obtain ⟨S3, hS3⟩ : ∃ S3, sgS x bs3 = S3 := ⟨_, rfl⟩
  rw [hE3, hS3] at hvx
  replace hvx := Lib.hid hvx
  replace hE3 := Lib.hid hE3
  replace hS3 := Lib.hid hS3
  have h0 := Lib.hid h
  have h20 := Lib.hid h2
  obtain ⟨p, hp⟩ : ∃ p, ptC key E S = p := ⟨_, rfl⟩
  obtain ⟨q, hq⟩ : ∃ q, ptC key E2 S2 = q := ⟨_, rfl⟩
  replace hp := Lib.hid hp
  replace hq := Lib.hid hq
  replace hk := Lib.hid hk
  obtain ⟨h1, h2, h3, h4⟩ := h
  obtain ⟨i1, i2, i3, i4⟩ := h20.out
  have hpq : p = q := by rw [← hp.out, ← hq.out]; exact hpe
  clear hpe
  subst hpq
  go_enter Tryd.func13, Tryd.ntmps13
  go_wp2_with fail
  have hr1 := heap_alloc_new w (.cells #[.int .i64 E, .int .i64 S] 50)
  have hr2 := heap_alloc_new (w.alloc (.cells #[.int .i64 E, .int .i64 S] 50)) (.cells #[.int .i64 E2, .int .i64 S2] 50)
  have hs0 : (w.alloc (.cells #[.int .i64 E, .int .i64 S] 50)).heap.size = w.heap.size + 1 := by simp
  rw [hs0] at hr2
  have hbn := (Below.refl (w.heap.size + 1) (w.alloc (.cells #[.int .i64 E, .int .i64 S] 50))).alloc (by simp) (.cells #[.int .i64 E2, .int .i64 S2] 50)
  replace hr1 := (hbn.block w.heap.size (by omega)).trans hr1
  have hB := ((Below.refl w.heap.size w).alloc (Nat.le_refl _) (.cells #[.int .i64 E, .int .i64 S] 50)).alloc (by simp) (.cells #[.int .i64 E2, .int .i64 S2] 50)
  clear hbn hs0
  refine (ssane_any _ (hL.below hB)).mono ?_
  rintro e w1 ⟨rfl, hb⟩
  replace hr1 := (hb.block w.heap.size (Array.getElem?_eq_some_iff.1 hr1).1).trans hr1
  replace hr2 := (hb.block (w.heap.size + 1) (Array.getElem?_eq_some_iff.1 hr2).1).trans hr2
  replace hB := hB.trans (hb.mono hB.size)
  clear hb
  obtain ⟨c0, c1⟩ := cc _ _ _ _ hr1
  obtain ⟨d0, d1⟩ := cc _ _ _ _ hr2
  go_wp2_with fail
  refine (verify_any key bs E S A n c _ hn.out (by omega) (hA.out.below hB) (hL.below hB)).mono ?_
  rintro e w2 ⟨rfl, hb⟩
  rw [hv1.out]
  replace hr1 := (hb.block w.heap.size (Array.getElem?_eq_some_iff.1 hr1).1).trans hr1
  replace hr2 := (hb.block (w.heap.size + 1) (Array.getElem?_eq_some_iff.1 hr2).1).trans hr2
  replace hB := hB.trans (hb.mono hB.size)
  clear hb c0 c1 d0 d1
  obtain ⟨c0, c1⟩ := cc _ _ _ _ hr1
  obtain ⟨d0, d1⟩ := cc _ _ _ _ hr2
  go_wp2_with fail
  refine (verify_any key bs2 E2 S2 A2 n2 c2 _ hn2.out (by omega) (hA2.out.below hB) (hL.below hB)).mono ?_
  rintro e w3 ⟨rfl, hb⟩
  rw [hv2.out]
  replace hr1 := (hb.block w.heap.size (Array.getElem?_eq_some_iff.1 hr1).1).trans hr1
  replace hr2 := (hb.block (w.heap.size + 1) (Array.getElem?_eq_some_iff.1 hr2).1).trans hr2
  replace hB := hB.trans (hb.mono hB.size)
  clear hb c0 c1 d0 d1
  obtain ⟨c0, c1⟩ := cc _ _ _ _ hr1
  obtain ⟨d0, d1⟩ := cc _ _ _ _ hr2
  go_wp2_with fail
  refine (point_any key E S _ h0.out hk.out).mono ?_
  rintro e w4 ⟨rfl, hb⟩
  rw [hp.out]
  replace hr1 := (hb.block w.heap.size (Array.getElem?_eq_some_iff.1 hr1).1).trans hr1
  replace hr2 := (hb.block (w.heap.size + 1) (Array.getElem?_eq_some_iff.1 hr2).1).trans hr2
  replace hB := hB.trans (hb.mono hB.size)
  clear hb c0 c1 d0 d1
  obtain ⟨c0, c1⟩ := cc _ _ _ _ hr1
  obtain ⟨d0, d1⟩ := cc _ _ _ _ hr2
  go_wp2_with fail
  refine (point_any key E2 S2 _ h20.out hk.out).mono ?_
  rintro e w5 ⟨rfl, hb⟩
  rw [hq.out]
  replace hr1 := (hb.block w.heap.size (Array.getElem?_eq_some_iff.1 hr1).1).trans hr1
  replace hr2 := (hb.block (w.heap.size + 1) (Array.getElem?_eq_some_iff.1 hr2).1).trans hr2
  replace hB := hB.trans (hb.mono hB.size)
  clear hb c0 c1 d0 d1
  obtain ⟨c0, c1⟩ := cc _ _ _ _ hr1
  obtain ⟨d0, d1⟩ := cc _ _ _ _ hr2
  go_wp2_with fail
  refine (rmod_any _ _).mono ?_
  rintro e w6 ⟨rfl, rfl⟩
  rw [hm.out]
  go_wp2_with fail
  refine (rquot_any _ _ _).mono ?_
  rintro e w7 ⟨rfl, rfl⟩
  rw [hx.out]
  go_wp2_with fail
  refine (pow_any 4 x _).mono ?_
  rintro e w8 ⟨rfl, hb⟩
  rw [e4, hkey.out]
  replace hr1 := (hb.block w.heap.size (Array.getElem?_eq_some_iff.1 hr1).1).trans hr1
  replace hr2 := (hb.block (w.heap.size + 1) (Array.getElem?_eq_some_iff.1 hr2).1).trans hr2
  replace hB := hB.trans (hb.mono hB.size)
  clear hb c0 c1 d0 d1
  obtain ⟨c0, c1⟩ := cc _ _ _ _ hr1
  obtain ⟨d0, d1⟩ := cc _ _ _ _ hr2
  go_wp2_with fail
  refine (sign_in x bs3 _ n3 c3 _ (by omega) (by omega) hn3.out (by omega) (hA3.out.below hB) (hL.below hB)).mono ?_
  rintro e w9 ⟨rfl, hb⟩
  rw [hE3.out, hS3.out]
  replace hB := hB.trans (hb.mono hB.size)
  clear hb c0 c1 d0 d1
  have hr9 := heap_alloc_new w9 (.cells #[.int .i64 E3, .int .i64 S3] 50)
  have hB9 := hB.alloc hB.size (.cells #[.int .i64 E3, .int .i64 S3] 50)
  obtain ⟨c0, c1⟩ := cc _ _ _ _ hr9
  go_wp2_with fail
  refine (verify_any key bs3 E3 S3 A3 n3 c3 _ hn3.out (by omega) (hA3.out.below hB9) (hL.below hB9)).mono ?_
  rintro e w10 ⟨rfl, hb⟩
  rw [hvx.out]
  replace hB9 := hB9.trans (hb.mono hB9.size)
  clear hb c0 c1
  go_wp2_with fail
  go_ret
  exact ⟨rfl, hB9⟩

theorem vf_parts {key E S : Int} {bs : List UInt8} (h : vfB key bs E S = true) : validB key = true ∧ 0 ≤ E ∧ E < 1073741789 ∧ 0 ≤ S ∧ S < 1073741789 := by
  unfold vfB at h
  rw [Bool.and_eq_true, Bool.and_eq_true] at h
  exact ⟨h.1.2, of_decide_eq_true h.1.1⟩

theorem walk_SignTwice (key : Int) (bs bs2 bs3 : List UInt8) (E S E2 S2 : Int) (A : Option Addr) (c : Nat) (A2 : Option Addr) (c2 : Nat) (A3 : Option Addr) (c3 : Nat) (w : World) (hab : -9223372036854775808 ≤ key ∧ key ≤ 9223372036854775807) (hc : bs.length ≤ c) (hcm : c ≤ 9223372036854775807) (hA : AtO w A bs)
    (hc2 : bs2.length ≤ c2) (hcm2 : c2 ≤ 9223372036854775807) (hA2 : AtO w A2 bs2) (hc3 : bs3.length ≤ c3) (hcm3 : c3 ≤ 9223372036854775807) (hA3 : AtO w A3 bs3)
    (hE : -9223372036854775808 ≤ E ∧ E ≤ 9223372036854775807) (hS : -9223372036854775808 ≤ S ∧ S ≤ 9223372036854775807) (hE2 : -9223372036854775808 ≤ E2 ∧ E2 ≤ 9223372036854775807) (hS2 : -9223372036854775808 ≤ S2 ∧ S2 ≤ 9223372036854775807) (hL : Laid w) :
    Calls Tryd.prog 13 #[.int .i64 key, .slice A bs.length c, .slice A2 bs2.length c2, .slice A3 bs3.length c3, .agg #[.int .i64 E, .int .i64 S], .agg #[.int .i64 E2, .int .i64 S2]] w fun e w' => e = .returned (.bool true) ∧ Below w.heap.size w w' := by
  obtain ⟨n, hn⟩ : ∃ n, bs.length = n := ⟨_, rfl⟩
  obtain ⟨n2, hn2⟩ : ∃ n2, bs2.length = n2 := ⟨_, rfl⟩
  obtain ⟨n3, hn3⟩ : ∃ n3, bs3.length = n3 := ⟨_, rfl⟩
  rw [hn, hn2, hn3]
  by_cases g1 : 600 < n
  · exact twice_g1 key bs n A c bs2 n2 A2 c2 bs3 n3 A3 c3 E S E2 S2 w hn hA hn2 hA2 hn3 hA3 hL g1
  by_cases g2 : 600 < n2
  · exact twice_g2 key bs n A c bs2 n2 A2 c2 bs3 n3 A3 c3 E S E2 S2 w hn hA hn2 hA2 hn3 hA3 hL g1 g2
  by_cases g3 : 600 < n3
  · exact twice_g3 key bs n A c bs2 n2 A2 c2 bs3 n3 A3 c3 E S E2 S2 w hn hA hn2 hA2 hn3 hA3 hL g1 g2 g3
  by_cases hv1 : vfB key bs E S = true
  · by_cases hv2 : vfB key bs2 E2 S2 = true
    · obtain ⟨hk, hr⟩ := vf_parts hv1
      obtain ⟨_, hr2⟩ := vf_parts hv2
      by_cases hp : ptC key E S = ptC key E2 S2
      · by_cases hm : (E - E2) % 1073741789 = 0
        · exact twice_mod key bs n A c bs2 n2 A2 c2 bs3 n3 A3 c3 E S E2 S2 w hn hA hn2 hA2 hn3 hA3 hL g1 g2 g3 (Lib.hid hv1) (Lib.hid hv2) hk hr hr2 hp hm
        · by_cases hz : quoQ (S - S2) (E - E2) = 0
          · exact twice_zero key bs n A c bs2 n2 A2 c2 bs3 n3 A3 c3 E S E2 S2 w hn hA hn2 hA2 hn3 hA3 hL g1 g2 g3 (Lib.hid hv1) (Lib.hid hv2) hk hr hr2 hp hm hz
          · exact twice_some key bs n A c bs2 n2 A2 c2 bs3 n3 A3 c3 E S E2 S2 w hn hA hn2 hA2 hn3 hA3 hL g1 g2 g3 (Lib.hid hv1) (Lib.hid hv2) hk hr hr2 hp hm hz
      · exact twice_pt key bs n A c bs2 n2 A2 c2 bs3 n3 A3 c3 E S E2 S2 w hn hA hn2 hA2 hn3 hA3 hL g1 g2 g3 (Lib.hid hv1) (Lib.hid hv2) hk hr hr2 hp
    · exact twice_v2 key bs n A c bs2 n2 A2 c2 bs3 n3 A3 c3 E S E2 S2 w hn hA hn2 hA2 hn3 hA3 hL g1 g2 g3 (Lib.hid hv1) (Lib.hid (by simpa using hv2))
  · exact twice_v1 key bs n A c bs2 n2 A2 c2 bs3 n3 A3 c3 E S E2 S2 w hn hA hn2 hA2 hn3 hA3 hL g1 g2 g3 (Lib.hid (by simpa using hv1))
end Go.Proofs.YtallnbbdacngnaaDoor
