/- The walk of the statement SignMeans. -/
import Derived.Test.YtallnbbdacngnaaDoorPoint
import Derived.Deep.RegionHeld3
namespace Go.Proofs.YtallnbbdacngnaaDoor
open Go.RowKit Go.Shelf Jac Cdc Sha
set_option linter.unusedVariables false
set_option linter.unusedSimpArgs false

set_option maxRecDepth 100000 in
set_option maxHeartbeats 4000000 in
theorem means_big (key : Int) (bs : List UInt8) (n : Nat) (A : Option Addr) (c : Nat) (E S : Int) (w : World) (hn : bs.length = n) (hA : AtO w A bs) (hL : Laid w) (hb : 600 < n) :
    Calls Tryd.prog 12 #[.int .i64 key, .slice A n c, .agg #[.int .i64 E, .int .i64 S]] w fun e w' => e = .returned (.bool true) ∧ Below w.heap.size w w' := by
  replace hn := Lib.hid hn
  replace hA := Lib.hid hA
  have cc := fun (b : Nat) (E S : Int) (W : World) (h : W.heap[b]? = some (.cells #[.int .i64 E, .int .i64 S] 50 (0, 0))) => (show W.cell? ⟨b, 0, none⟩ = some (.int .i64 E) ∧ W.cell? ⟨b, 1, none⟩ = some (.int .i64 S) from ⟨by rw [cell_of_row _ _ _ _ _ _ h]; rfl, by rw [cell_of_row _ _ _ _ _ _ h]; rfl⟩)
  go_enter Tryd.func12, Tryd.ntmps12
  go_wp2_with fail
  have hr := heap_alloc_new w (.cells #[.int .i64 E, .int .i64 S] 50)
  have hB := (Below.refl w.heap.size w).alloc (Nat.le_refl _) (.cells #[.int .i64 E, .int .i64 S] 50)
  refine (ssane_any _ (hL.below hB)).mono ?_
  rintro e w1 ⟨rfl, hb⟩
  replace hr := (hb.block w.heap.size (Array.getElem?_eq_some_iff.1 hr).1).trans hr
  replace hB := hB.trans (hb.mono hB.size)
  clear hb
  obtain ⟨c0, c1⟩ := cc _ _ _ _ hr
  go_wp2_with fail
  go_ret
  exact ⟨rfl, hB⟩

set_option maxRecDepth 100000 in
set_option maxHeartbeats 4000000 in
theorem means_o1 (key : Int) (bs : List UInt8) (n : Nat) (A : Option Addr) (c : Nat) (E S : Int) (w : World) (hn : bs.length = n) (hA : AtO w A bs) (hL : Laid w) (hb : n ≤ 600) (h1 : E < 0) :
    Calls Tryd.prog 12 #[.int .i64 key, .slice A n c, .agg #[.int .i64 E, .int .i64 S]] w fun e w' => e = .returned (.bool true) ∧ Below w.heap.size w w' := by
  replace hn := Lib.hid hn
  replace hA := Lib.hid hA
  have cc := fun (b : Nat) (E S : Int) (W : World) (h : W.heap[b]? = some (.cells #[.int .i64 E, .int .i64 S] 50 (0, 0))) => (show W.cell? ⟨b, 0, none⟩ = some (.int .i64 E) ∧ W.cell? ⟨b, 1, none⟩ = some (.int .i64 S) from ⟨by rw [cell_of_row _ _ _ _ _ _ h]; rfl, by rw [cell_of_row _ _ _ _ _ _ h]; rfl⟩)
  have hvb : Hid (vfB key bs E S = false) := Lib.hid (by unfold vfB; rw [decide_eq_false (by omega)]; rfl)
  go_enter Tryd.func12, Tryd.ntmps12
  go_wp2_with fail
  have hr := heap_alloc_new w (.cells #[.int .i64 E, .int .i64 S] 50)
  have hB := (Below.refl w.heap.size w).alloc (Nat.le_refl _) (.cells #[.int .i64 E, .int .i64 S] 50)
  refine (ssane_any _ (hL.below hB)).mono ?_
  rintro e w1 ⟨rfl, hb⟩
  replace hr := (hb.block w.heap.size (Array.getElem?_eq_some_iff.1 hr).1).trans hr
  replace hB := hB.trans (hb.mono hB.size)
  clear hb
  obtain ⟨c0, c1⟩ := cc _ _ _ _ hr
  go_wp2_with fail
  refine (verify_any key bs E S A n c _ hn.out (by omega) (hA.out.below hB) (hL.below hB)).mono ?_
  rintro e w2 ⟨rfl, hb⟩
  rw [hvb.out]
  replace hr := (hb.block w.heap.size (Array.getElem?_eq_some_iff.1 hr).1).trans hr
  replace hB := hB.trans (hb.mono hB.size)
  clear hb c0 c1
  obtain ⟨c0, c1⟩ := cc _ _ _ _ hr
  go_wp2_with fail
  go_ret
  exact ⟨rfl, hB⟩

set_option maxRecDepth 100000 in
set_option maxHeartbeats 4000000 in
theorem means_o2 (key : Int) (bs : List UInt8) (n : Nat) (A : Option Addr) (c : Nat) (E S : Int) (w : World) (hn : bs.length = n) (hA : AtO w A bs) (hL : Laid w) (hb : n ≤ 600) (h1 : ¬ E < 0) (h2 : 1073741789 ≤ E) :
    Calls Tryd.prog 12 #[.int .i64 key, .slice A n c, .agg #[.int .i64 E, .int .i64 S]] w fun e w' => e = .returned (.bool true) ∧ Below w.heap.size w w' := by
  replace hn := Lib.hid hn
  replace hA := Lib.hid hA
  have cc := fun (b : Nat) (E S : Int) (W : World) (h : W.heap[b]? = some (.cells #[.int .i64 E, .int .i64 S] 50 (0, 0))) => (show W.cell? ⟨b, 0, none⟩ = some (.int .i64 E) ∧ W.cell? ⟨b, 1, none⟩ = some (.int .i64 S) from ⟨by rw [cell_of_row _ _ _ _ _ _ h]; rfl, by rw [cell_of_row _ _ _ _ _ _ h]; rfl⟩)
  have hvb : Hid (vfB key bs E S = false) := Lib.hid (by unfold vfB; rw [decide_eq_false (by omega)]; rfl)
  go_enter Tryd.func12, Tryd.ntmps12
  go_wp2_with fail
  have hr := heap_alloc_new w (.cells #[.int .i64 E, .int .i64 S] 50)
  have hB := (Below.refl w.heap.size w).alloc (Nat.le_refl _) (.cells #[.int .i64 E, .int .i64 S] 50)
  refine (ssane_any _ (hL.below hB)).mono ?_
  rintro e w1 ⟨rfl, hb⟩
  replace hr := (hb.block w.heap.size (Array.getElem?_eq_some_iff.1 hr).1).trans hr
  replace hB := hB.trans (hb.mono hB.size)
  clear hb
  obtain ⟨c0, c1⟩ := cc _ _ _ _ hr
  go_wp2_with fail
  refine (verify_any key bs E S A n c _ hn.out (by omega) (hA.out.below hB) (hL.below hB)).mono ?_
  rintro e w2 ⟨rfl, hb⟩
  rw [hvb.out]
  replace hr := (hb.block w.heap.size (Array.getElem?_eq_some_iff.1 hr).1).trans hr
  replace hB := hB.trans (hb.mono hB.size)
  clear hb c0 c1
  obtain ⟨c0, c1⟩ := cc _ _ _ _ hr
  go_wp2_with fail
  go_ret
  exact ⟨rfl, hB⟩

set_option maxRecDepth 100000 in
set_option maxHeartbeats 4000000 in
theorem means_o3 (key : Int) (bs : List UInt8) (n : Nat) (A : Option Addr) (c : Nat) (E S : Int) (w : World) (hn : bs.length = n) (hA : AtO w A bs) (hL : Laid w) (hb : n ≤ 600) (h1 : ¬ E < 0) (h2 : ¬ 1073741789 ≤ E) (h3 : S < 0) :
    Calls Tryd.prog 12 #[.int .i64 key, .slice A n c, .agg #[.int .i64 E, .int .i64 S]] w fun e w' => e = .returned (.bool true) ∧ Below w.heap.size w w' := by
  replace hn := Lib.hid hn
  replace hA := Lib.hid hA
  have cc := fun (b : Nat) (E S : Int) (W : World) (h : W.heap[b]? = some (.cells #[.int .i64 E, .int .i64 S] 50 (0, 0))) => (show W.cell? ⟨b, 0, none⟩ = some (.int .i64 E) ∧ W.cell? ⟨b, 1, none⟩ = some (.int .i64 S) from ⟨by rw [cell_of_row _ _ _ _ _ _ h]; rfl, by rw [cell_of_row _ _ _ _ _ _ h]; rfl⟩)
  have hvb : Hid (vfB key bs E S = false) := Lib.hid (by unfold vfB; rw [decide_eq_false (by omega)]; rfl)
  go_enter Tryd.func12, Tryd.ntmps12
  go_wp2_with fail
  have hr := heap_alloc_new w (.cells #[.int .i64 E, .int .i64 S] 50)
  have hB := (Below.refl w.heap.size w).alloc (Nat.le_refl _) (.cells #[.int .i64 E, .int .i64 S] 50)
  refine (ssane_any _ (hL.below hB)).mono ?_
  rintro e w1 ⟨rfl, hb⟩
  replace hr := (hb.block w.heap.size (Array.getElem?_eq_some_iff.1 hr).1).trans hr
  replace hB := hB.trans (hb.mono hB.size)
  clear hb
  obtain ⟨c0, c1⟩ := cc _ _ _ _ hr
  go_wp2_with fail
  refine (verify_any key bs E S A n c _ hn.out (by omega) (hA.out.below hB) (hL.below hB)).mono ?_
  rintro e w2 ⟨rfl, hb⟩
  rw [hvb.out]
  replace hr := (hb.block w.heap.size (Array.getElem?_eq_some_iff.1 hr).1).trans hr
  replace hB := hB.trans (hb.mono hB.size)
  clear hb c0 c1
  obtain ⟨c0, c1⟩ := cc _ _ _ _ hr
  go_wp2_with fail
  go_ret
  exact ⟨rfl, hB⟩

set_option maxRecDepth 100000 in
set_option maxHeartbeats 4000000 in
theorem means_o4 (key : Int) (bs : List UInt8) (n : Nat) (A : Option Addr) (c : Nat) (E S : Int) (w : World) (hn : bs.length = n) (hA : AtO w A bs) (hL : Laid w) (hb : n ≤ 600) (h1 : ¬ E < 0) (h2 : ¬ 1073741789 ≤ E) (h3 : ¬ S < 0) (h4 : 1073741789 ≤ S) :
    Calls Tryd.prog 12 #[.int .i64 key, .slice A n c, .agg #[.int .i64 E, .int .i64 S]] w fun e w' => e = .returned (.bool true) ∧ Below w.heap.size w w' := by
  replace hn := Lib.hid hn
  replace hA := Lib.hid hA
  have cc := fun (b : Nat) (E S : Int) (W : World) (h : W.heap[b]? = some (.cells #[.int .i64 E, .int .i64 S] 50 (0, 0))) => (show W.cell? ⟨b, 0, none⟩ = some (.int .i64 E) ∧ W.cell? ⟨b, 1, none⟩ = some (.int .i64 S) from ⟨by rw [cell_of_row _ _ _ _ _ _ h]; rfl, by rw [cell_of_row _ _ _ _ _ _ h]; rfl⟩)
  have hvb : Hid (vfB key bs E S = false) := Lib.hid (by unfold vfB; rw [decide_eq_false (by omega)]; rfl)
  go_enter Tryd.func12, Tryd.ntmps12
  go_wp2_with fail
  have hr := heap_alloc_new w (.cells #[.int .i64 E, .int .i64 S] 50)
  have hB := (Below.refl w.heap.size w).alloc (Nat.le_refl _) (.cells #[.int .i64 E, .int .i64 S] 50)
  refine (ssane_any _ (hL.below hB)).mono ?_
  rintro e w1 ⟨rfl, hb⟩
  replace hr := (hb.block w.heap.size (Array.getElem?_eq_some_iff.1 hr).1).trans hr
  replace hB := hB.trans (hb.mono hB.size)
  clear hb
  obtain ⟨c0, c1⟩ := cc _ _ _ _ hr
  go_wp2_with fail
  refine (verify_any key bs E S A n c _ hn.out (by omega) (hA.out.below hB) (hL.below hB)).mono ?_
  rintro e w2 ⟨rfl, hb⟩
  rw [hvb.out]
  replace hr := (hb.block w.heap.size (Array.getElem?_eq_some_iff.1 hr).1).trans hr
  replace hB := hB.trans (hb.mono hB.size)
  clear hb c0 c1
  obtain ⟨c0, c1⟩ := cc _ _ _ _ hr
  go_wp2_with fail
  go_ret
  exact ⟨rfl, hB⟩

set_option maxRecDepth 100000 in
set_option maxHeartbeats 4000000 in
theorem means_bad (key : Int) (bs : List UInt8) (n : Nat) (A : Option Addr) (c : Nat) (E S : Int) (w : World) (hn : bs.length = n) (hA : AtO w A bs) (hL : Laid w) (hb : n ≤ 600) (h1 : ¬ E < 0) (h2 : ¬ 1073741789 ≤ E) (h3 : ¬ S < 0) (h4 : ¬ 1073741789 ≤ S) (hv : validB key = false) :
    Calls Tryd.prog 12 #[.int .i64 key, .slice A n c, .agg #[.int .i64 E, .int .i64 S]] w fun e w' => e = .returned (.bool true) ∧ Below w.heap.size w w' := by
  replace hn := Lib.hid hn
  replace hA := Lib.hid hA
  have cc := fun (b : Nat) (E S : Int) (W : World) (h : W.heap[b]? = some (.cells #[.int .i64 E, .int .i64 S] 50 (0, 0))) => (show W.cell? ⟨b, 0, none⟩ = some (.int .i64 E) ∧ W.cell? ⟨b, 1, none⟩ = some (.int .i64 S) from ⟨by rw [cell_of_row _ _ _ _ _ _ h]; rfl, by rw [cell_of_row _ _ _ _ _ _ h]; rfl⟩)
  have hvb : Hid (vfB key bs E S = false) := Lib.hid (by unfold vfB; rw [hv]; simp)
  replace hv := Lib.hid hv
  go_enter Tryd.func12, Tryd.ntmps12
  go_wp2_with fail
  have hr := heap_alloc_new w (.cells #[.int .i64 E, .int .i64 S] 50)
  have hB := (Below.refl w.heap.size w).alloc (Nat.le_refl _) (.cells #[.int .i64 E, .int .i64 S] 50)
  refine (ssane_any _ (hL.below hB)).mono ?_
  rintro e w1 ⟨rfl, hb⟩
  replace hr := (hb.block w.heap.size (Array.getElem?_eq_some_iff.1 hr).1).trans hr
  replace hB := hB.trans (hb.mono hB.size)
  clear hb
  obtain ⟨c0, c1⟩ := cc _ _ _ _ hr
  go_wp2_with fail
  refine (verify_any key bs E S A n c _ hn.out (by omega) (hA.out.below hB) (hL.below hB)).mono ?_
  rintro e w2 ⟨rfl, hb⟩
  rw [hvb.out]
  replace hr := (hb.block w.heap.size (Array.getElem?_eq_some_iff.1 hr).1).trans hr
  replace hB := hB.trans (hb.mono hB.size)
  clear hb c0 c1
  obtain ⟨c0, c1⟩ := cc _ _ _ _ hr
  go_wp2_with (go_at_call 39; refine (valid_any _ _).mono ?_; rintro e w' ⟨rfl, rfl⟩; rw [hv.out])
  go_ret
  exact ⟨rfl, hB⟩

set_option maxRecDepth 100000 in
set_option maxHeartbeats 4000000 in
theorem means_in (key : Int) (bs : List UInt8) (n : Nat) (A : Option Addr) (c : Nat) (E S : Int) (w : World) (hn : bs.length = n) (hA : AtO w A bs) (hL : Laid w) (hb : n ≤ 600) (h1 : ¬ E < 0) (h2 : ¬ 1073741789 ≤ E) (h3 : ¬ S < 0) (h4 : ¬ 1073741789 ≤ S) (hv : validB key = true) :
    Calls Tryd.prog 12 #[.int .i64 key, .slice A n c, .agg #[.int .i64 E, .int .i64 S]] w fun e w' => e = .returned (.bool true) ∧ Below w.heap.size w w' := by
  replace hn := Lib.hid hn
  replace hA := Lib.hid hA
  have cc := fun (b : Nat) (E S : Int) (W : World) (h : W.heap[b]? = some (.cells #[.int .i64 E, .int .i64 S] 50 (0, 0))) => (show W.cell? ⟨b, 0, none⟩ = some (.int .i64 E) ∧ W.cell? ⟨b, 1, none⟩ = some (.int .i64 S) from ⟨by rw [cell_of_row _ _ _ _ _ _ h]; rfl, by rw [cell_of_row _ _ _ _ _ _ h]; rfl⟩)
  obtain ⟨r, hrd⟩ : ∃ r, vfB key bs E S = r := ⟨_, rfl⟩
  have hvb := Lib.hid hrd
  have hrr : Hid (r = (E == hN signB [iV (ptC key E S), iV key, tV bs])) := Lib.hid (by rw [← hrd]; unfold vfB; rw [decide_eq_true (by omega), hv]; rfl)
  have hkr := validB_range hv
  have hkI : I64 key := ⟨by omega, by omega⟩
  have hptI : I64 (ptC key E S) := i64_of (mulC_bd (powC 4 S) (powC key (-E)))
  have hs3 := sm3 (ptC key E S) key bs hptI hkI (by rw [hn.out]; omega)
  have hck := Lib.hid (ck3 (ptC key E S) key bs (by rw [hn.out]; omega))
  have hls := encB_le (lV [iV (ptC key E S), iV key, tV bs])
  have hpt := fun W => point_any key E S W (by omega) hv
  have henc : Hid (∀ (W : World) (k : Nat), k = W.heap.size → Calls Tryd.prog 41 #[.agg #[.int .i64 3, .int .i64 0, .string ⟨#[]⟩, .slice (some ⟨k, 0, none⟩) 3 3]] (W.alloc (.cells #[.int .i64 1, .int .i64 (ptC key E S), .string ⟨#[]⟩, .slice none 0 0, .int .i64 1, .int .i64 key, .string ⟨#[]⟩, .slice none 0 0, .int .i64 2, .int .i64 0, .string ⟨bs.toArray⟩, .slice none 0 0] 64)) fun e w' => ∃ A1 m c1, e = .returned (.tuple #[.slice A1 m c1, .int .i64 0]) ∧ Below W.heap.size W w' ∧ (∀ W2, Below w'.heap.size w' W2 → Laid W2 → Calls Tryd.prog 19 #[.string signB, .slice A1 m c1] W2 fun e w2 => e = .returned (.int .i64 (hN signB [iV (ptC key E S), iV key, tV bs])) ∧ Below W2.heap.size W2 w2)) := Lib.hid fun W k hk => by
    refine (encode_any 1 (lV [iV (ptC key E S), iV key, tV bs]) (.slice (some ⟨k, 0, none⟩) 3 3) _ (flat_rs W _ _ rfl k 3 3 hk rfl (by omega) (by simp [lV, iV, tV])) hs3.1 (by simp [lV, iV, tV, dp, dpL]) (by have := hn.out; omega)).mono ?_
    unfold EncPost
    rintro e w' ⟨v', rfl, ho, hh, hB⟩
    obtain ⟨A1, c1, rfl⟩ := ho.form
    rw [hck.out]
    have hc := ho.cap
    refine ⟨A1, _, c1, rfl, ((Below.refl _ _).alloc (Nat.le_refl _) _).trans (hB.mono (by simp)), fun W2 hB2 hL2 => ?_⟩
    exact hash_any signB (by decide) (encB (lV [iV (ptC key E S), iV key, tV bs])) _ rfl (by have := hn.out; omega) A1 c1 hc.1 hc.2 W2 (ho.atO.below hB2) hL2
  clear hs3 hls hck hrd
  have hconv := fun (W : World) (h : AtO W A bs) => h.conv n c hn.out
  replace hv := Lib.hid hv
  go_enter Tryd.func12, Tryd.ntmps12
  go_wp2_with fail
  have hr := heap_alloc_new w (.cells #[.int .i64 E, .int .i64 S] 50)
  have hB := (Below.refl w.heap.size w).alloc (Nat.le_refl _) (.cells #[.int .i64 E, .int .i64 S] 50)
  refine (ssane_any _ (hL.below hB)).mono ?_
  rintro e w1 ⟨rfl, hb⟩
  replace hr := (hb.block w.heap.size (Array.getElem?_eq_some_iff.1 hr).1).trans hr
  replace hB := hB.trans (hb.mono hB.size)
  clear hb
  obtain ⟨c0, c1⟩ := cc _ _ _ _ hr
  go_wp2_with fail
  refine (verify_any key bs E S A n c _ hn.out (by omega) (hA.out.below hB) (hL.below hB)).mono ?_
  rintro e w2 ⟨rfl, hb⟩
  rw [hvb.out]
  replace hr := (hb.block w.heap.size (Array.getElem?_eq_some_iff.1 hr).1).trans hr
  replace hB := hB.trans (hb.mono hB.size)
  clear hb c0 c1
  obtain ⟨c0, c1⟩ := cc _ _ _ _ hr
  go_wp2_with (go_at_call 39; refine (valid_any _ _).mono ?_; rintro e w' ⟨rfl, rfl⟩; rw [hv.out])
  refine (hpt _).mono ?_
  rintro e w3 ⟨rfl, hb⟩
  replace hr := (hb.block w.heap.size (Array.getElem?_eq_some_iff.1 hr).1).trans hr
  replace hB := hB.trans (hb.mono hB.size)
  clear hb c0 c1
  have hcv := hconv w3 (hA.out.below hB)
  clear hconv hpt
  go_wp2_with fail
  refine (henc.out w3 _ rfl).mono ?_
  rintro e w4 ⟨A4, m4, c4, rfl, hb, hH⟩
  replace hr := (hb.block w.heap.size (Array.getElem?_eq_some_iff.1 hr).1).trans hr
  replace hB := hB.trans (hb.mono hB.size)
  have hH4 := Lib.hid (fun W2 h2 => hH W2 h2 (hL.below (hB.trans (h2.mono hB.size))))
  clear hb hH
  obtain ⟨c0, c1⟩ := cc _ _ _ _ hr
  have hlw := (Array.getElem?_eq_some_iff.1 hr).1
  clear henc hcv
  have hH5 := Lib.hid (hH4.out w4.drew (Below.refl _ _).drew)
  obtain ⟨bk, hbk⟩ : ∃ bk, w.heap.size = bk := ⟨_, rfl⟩
  rw [hbk] at c0 c1 hlw
  clear hr
  go_wp2_with fail
  try rw [hbk]
  have hbk2 := Lib.hid hbk
  clear hbk
  go_region_held3 (fun w' => w'.cell? ⟨bk, 0, none⟩ = some (.int .i64 E))
    (first
      | go_keep
      | exact (hb5.cell (p := ⟨bk, 0, none⟩) hlw).trans c0)
    (first
      | (go_at_call 19; refine (hH5.out).mono ?_; rintro e w5 ⟨rfl, hb5⟩))
  have hB9 := hB.drew.trans (hb5.mono hB.drew.size)
  have hf : Hid ((r == (E == hN signB [iV (ptC key E S), iV key, tV bs])) = true) := Lib.hid (by rw [hrr.out]; exact beq_self_eq_true _)
  go_wp2_with fail
  rw [hf.out]
  go_ret
  exact ⟨rfl, hB9⟩

theorem walk_SignMeans (key : Int) (bs : List UInt8) (E S : Int) (A : Option Addr) (c : Nat) (w : World) (hab : -9223372036854775808 ≤ key ∧ key ≤ 9223372036854775807) (hc : bs.length ≤ c) (hcm : c ≤ 9223372036854775807) (h : AtO w A bs) (hE : -9223372036854775808 ≤ E ∧ E ≤ 9223372036854775807) (hS : -9223372036854775808 ≤ S ∧ S ≤ 9223372036854775807) (hL : Laid w) :
    Calls Tryd.prog 12 #[.int .i64 key, .slice A bs.length c, .agg #[.int .i64 E, .int .i64 S]] w fun e w' => e = .returned (.bool true) ∧ Below w.heap.size w w' := by
  obtain ⟨n, hn⟩ : ∃ n, bs.length = n := ⟨_, rfl⟩
  rw [hn] at hc ⊢
  by_cases hb : 600 < n
  · exact means_big key bs n A c E S w hn h hL hb
  by_cases h1 : E < 0
  · exact means_o1 key bs n A c E S w hn h hL (by omega) h1
  by_cases h2 : 1073741789 ≤ E
  · exact means_o2 key bs n A c E S w hn h hL (by omega) h1 h2
  by_cases h3 : S < 0
  · exact means_o3 key bs n A c E S w hn h hL (by omega) h1 h2 h3
  by_cases h4 : 1073741789 ≤ S
  · exact means_o4 key bs n A c E S w hn h hL (by omega) h1 h2 h3 h4
  by_cases hv : validB key = true
  · exact means_in key bs n A c E S w hn h hL (by omega) h1 h2 h3 h4 hv
  · exact means_bad key bs n A c E S w hn h hL (by omega) h1 h2 h3 h4 (by simpa using hv)
end Go.Proofs.YtallnbbdacngnaaDoor
