/- The walk of the statement OfficesSpec. -/
import Derived.Test.YthokpfegfnpmhaaDoorPoEq
import Derived.Test.YthokpfegfnpmhaaDoorOffSane
namespace Go.Proofs.YthokpfegfnpmhaaDoor
open Go.RowKit Go.Shelf Jac Cdc Sha
set_option linter.unusedVariables false
set_option linter.unusedSimpArgs false

theorem sg_bd (x : Int) (bs : List UInt8) : I64 (sgE x bs) ∧ I64 (sgS x bs) := by
  have h1 := hN_bd signB [iV (powC 4 (sgK x bs)), iV (powC 4 x), tV bs]
  refine ⟨⟨?_, ?_⟩, ?_, ?_⟩ <;> simp only [sgE, sgS] <;> omega
theorem poZ_I : PoI poZ := ⟨⟨by decide, by decide⟩, zero32_len, ⟨by decide, by decide⟩, ⟨by decide, by decide⟩⟩
theorem anP_I (x : Int) (c : Cal) : PoI (anP x c) := by
  unfold anP
  split
  · rename_i h
    have h1 := h.2.1
    have h2 := h.2.2.1
    have := sg_bd x (poT ⟨c.no, calD c, 0, 0⟩)
    exact ⟨⟨by show _ ≤ c.no; omega, by show c.no ≤ _; omega⟩, calD_len c, this.1, this.2⟩
  · exact poZ_I

set_option maxRecDepth 100000 in
set_option maxHeartbeats 4000000 in
theorem small_lo (no : Int) (n cp : Nat) (A : Option Addr) (w : World) (h : n ≤ 40) :
    Calls Tryd.prog 25 #[.agg #[.int .i64 no, .slice A n cp]] w fun e w' => e = .returned (.bool true) ∧ Below w.heap.size w w' := by
  have d1 : decide ((n : Int) ≤ 40) = true := decide_eq_true (by omega)
  have hB : Below w.heap.size w (w.alloc (.cells #[.int .i64 no, .slice A n cp] 45)) := (Below.refl _ _).alloc (Nat.le_refl _) _
  go_enter Tryd.func25, Tryd.ntmps25
  go_wp2_with fail
  go_ret
  exact ⟨rfl, hB⟩
set_option maxRecDepth 100000 in
set_option maxHeartbeats 4000000 in
theorem small_mid (no : Int) (n cp : Nat) (A : Option Addr) (w : World) (h : 40 < n) (h2 : n ≤ 1024) :
    Calls Tryd.prog 25 #[.agg #[.int .i64 no, .slice A n cp]] w fun e w' => e = .returned (.bool false) ∧ Below w.heap.size w w' := by
  have d1 : decide ((n : Int) ≤ 40) = false := decide_eq_false (by omega)
  have d2 : decide (1024 < (n : Int)) = false := decide_eq_false (by omega)
  have hB : Below w.heap.size w (w.alloc (.cells #[.int .i64 no, .slice A n cp] 45)) := (Below.refl _ _).alloc (Nat.le_refl _) _
  go_enter Tryd.func25, Tryd.ntmps25
  go_wp2_with fail
  go_ret
  exact ⟨rfl, hB⟩
set_option maxRecDepth 100000 in
set_option maxHeartbeats 4000000 in
theorem small_hi (no : Int) (n cp : Nat) (A : Option Addr) (w : World) (h : 1024 < n) (h2 : n ≤ 1100) :
    Calls Tryd.prog 25 #[.agg #[.int .i64 no, .slice A n cp]] w fun e w' => e = .returned (.bool true) ∧ Below w.heap.size w w' := by
  have d1 : decide ((n : Int) ≤ 40) = false := decide_eq_false (by omega)
  have d2 : decide (1024 < (n : Int)) = true := decide_eq_true (by omega)
  have d3 : decide ((n : Int) ≤ 1100) = true := decide_eq_true (by omega)
  have hB : Below w.heap.size w (w.alloc (.cells #[.int .i64 no, .slice A n cp] 45)) := (Below.refl _ _).alloc (Nat.le_refl _) _
  go_enter Tryd.func25, Tryd.ntmps25
  go_wp2_with fail
  go_ret
  exact ⟨rfl, hB⟩
set_option maxRecDepth 100000 in
set_option maxHeartbeats 4000000 in
theorem small_big (no : Int) (n cp : Nat) (A : Option Addr) (w : World) (h : 1100 < n) :
    Calls Tryd.prog 25 #[.agg #[.int .i64 no, .slice A n cp]] w fun e w' => e = .returned (.bool false) ∧ Below w.heap.size w w' := by
  have d1 : decide ((n : Int) ≤ 40) = false := decide_eq_false (by omega)
  have d2 : decide (1024 < (n : Int)) = true := decide_eq_true (by omega)
  have d3 : decide ((n : Int) ≤ 1100) = false := decide_eq_false (by omega)
  have hB : Below w.heap.size w (w.alloc (.cells #[.int .i64 no, .slice A n cp] 45)) := (Below.refl _ _).alloc (Nat.le_refl _) _
  go_enter Tryd.func25, Tryd.ntmps25
  go_wp2_with fail
  go_ret
  exact ⟨rfl, hB⟩
/-- is a calendar small? -/
def smB (n : Nat) : Bool := decide (n ≤ 40) || (decide (1024 < n) && decide (n ≤ 1100))
theorem smB_le {n : Nat} (h : smB n = true) : n ≤ 1100 := by
  unfold smB at h
  simp at h
  omega
theorem small_any (no : Int) (n cp : Nat) (A : Option Addr) (w : World) :
    Calls Tryd.prog 25 #[.agg #[.int .i64 no, .slice A n cp]] w fun e w' => e = .returned (.bool (smB n)) ∧ Below w.heap.size w w' := by
  unfold smB
  by_cases h1 : n ≤ 40
  · rw [decide_eq_true h1, Bool.true_or]; exact small_lo no n cp A w h1
  · rw [decide_eq_false h1, Bool.false_or]
    by_cases h2 : n ≤ 1024
    · rw [decide_eq_false (show ¬ 1024 < n by omega), Bool.false_and]; exact small_mid no n cp A w (by omega) h2
    · rw [decide_eq_true (show 1024 < n by omega), Bool.true_and]
      by_cases h3 : n ≤ 1100
      · rw [decide_eq_true h3]; exact small_hi no n cp A w (by omega) h3
      · rw [decide_eq_false h3]; exact small_big no n cp A w (by omega)

set_option maxRecDepth 100000 in
set_option maxHeartbeats 4000000 in
theorem ospec_big (x key : Int) (c : Cal) (n cp : Nat) (A : Option Addr) (p : Po) (w : World) (h : smB n = false) (hL : Laid w) :
    Calls Tryd.prog 8 #[.int .i64 x, .int .i64 key, .agg #[.int .i64 c.no, .slice A n cp], .agg (poA p)] w fun e w' => e = .returned (.bool true) ∧ Below w.heap.size w w' := by
  have hB0 : Below w.heap.size w ((w.alloc (.cells #[.int .i64 c.no, .slice A n cp] 45)).alloc (.cells (poA p) 49)) := ((Below.refl _ _).alloc (Nat.le_refl _) _).alloc (by simp) _
  have hL0 := hL.below hB0
  have hc0 := heap_alloc2_old w (.cells #[.int .i64 c.no, .slice A n cp] 45) (.cells (poA p) 49)
  have hp0 := heap_alloc2_new w (.cells #[.int .i64 c.no, .slice A n cp] 45) (.cells (poA p) 49)
  have hlc := (Array.getElem?_eq_some_iff.1 hc0).1
  have hlp := (Array.getElem?_eq_some_iff.1 hp0).1
  obtain ⟨W0, hW0⟩ : ∃ W0, ((w.alloc (.cells #[.int .i64 c.no, .slice A n cp] 45)).alloc (.cells (poA p) 49)) = W0 := ⟨_, rfl⟩
  rw [hW0] at hB0 hL0 hc0 hp0 hlc hlp
  have hC : Hid (∀ V, Below W0.heap.size W0 V → V.cell? ⟨w.heap.size, 0, none⟩ = some (.int .i64 c.no) ∧ V.cell? ⟨w.heap.size, 1, none⟩ = some (.slice A n cp)) := Lib.hid fun V hV =>
    ⟨by rw [cell_of_row _ _ _ _ _ _ ((hV.block _ hlc).trans hc0)]; rfl, by rw [cell_of_row _ _ _ _ _ _ ((hV.block _ hlc).trans hc0)]; rfl⟩
  have hPp : Hid (∀ V, Below W0.heap.size W0 V → V.rangeAt (w.heap.size + 1) 0 (poC p)) := Lib.hid fun V hV => po_row ((hV.block _ hlp).trans hp0)
  have HB := Below.refl W0.heap.size W0
  have kS : Hid (Calls Tryd.prog 24 #[] W0 fun e w' => e = .returned (.bool true) ∧ Below W0.heap.size W0 w') := Lib.hid (osane_any W0 hL0)
  have kM : Hid (∀ V, Below W0.heap.size W0 V → Calls Tryd.prog 25 #[.agg #[.int .i64 c.no, .slice A n cp]] V fun e w' => e = .returned (.bool false) ∧ Below V.heap.size V w') := Lib.hid fun V _ => h ▸ small_any c.no n cp A V
  clear hc0 hp0 hlc hlp hL0 hPp hL
  replace hB0 := Lib.hid hB0
  replace h := Lib.hid h
  go_enter Tryd.func8, Tryd.ntmps8
  go_wp2_with fail
  try rw [hW0]
  clear hW0
  refine kS.out.mono ?_
  rintro e w1 ⟨rfl, hb⟩
  replace HB := HB.trans (hb.mono HB.size)
  clear hb
  obtain ⟨c0, c1⟩ := hC.out _ HB
  go_wp2_with fail
  refine (kM.out _ HB).mono ?_
  rintro e w2 ⟨rfl, hb⟩
  replace HB := HB.trans (hb.mono HB.size)
  clear hb c0 c1
  obtain ⟨c0, c1⟩ := hC.out _ HB
  go_wp2_with fail
  go_ret
  exact ⟨rfl, hB0.out.trans (HB.mono hB0.out.size)⟩

set_option maxRecDepth 100000 in
set_option maxHeartbeats 4000000 in
theorem ospec_in (x key : Int) (c : Cal) (n cp : Nat) (A : Option Addr) (p : Po) (w : World) (h : smB n = true) (hn : c.fx.length = n) (hcp : n ≤ cp) (hA : FxAt w A c.fx) (hI : ∀ f ∈ c.fx, FxI f) (hp : PoI p) (hL : Laid w) :
    Calls Tryd.prog 8 #[.int .i64 x, .int .i64 key, .agg #[.int .i64 c.no, .slice A n cp], .agg (poA p)] w fun e w' => e = .returned (.bool true) ∧ Below w.heap.size w w' := by
  have hB0 : Below w.heap.size w ((w.alloc (.cells #[.int .i64 c.no, .slice A n cp] 45)).alloc (.cells (poA p) 49)) := ((Below.refl _ _).alloc (Nat.le_refl _) _).alloc (by simp) _
  have hL0 := hL.below hB0
  have hc0 := heap_alloc2_old w (.cells #[.int .i64 c.no, .slice A n cp] 45) (.cells (poA p) 49)
  have hp0 := heap_alloc2_new w (.cells #[.int .i64 c.no, .slice A n cp] 45) (.cells (poA p) 49)
  have hlc := (Array.getElem?_eq_some_iff.1 hc0).1
  have hlp := (Array.getElem?_eq_some_iff.1 hp0).1
  obtain ⟨W0, hW0⟩ : ∃ W0, ((w.alloc (.cells #[.int .i64 c.no, .slice A n cp] 45)).alloc (.cells (poA p) 49)) = W0 := ⟨_, rfl⟩
  rw [hW0] at hB0 hL0 hc0 hp0 hlc hlp
  have hC : Hid (∀ V, Below W0.heap.size W0 V → V.cell? ⟨w.heap.size, 0, none⟩ = some (.int .i64 c.no) ∧ V.cell? ⟨w.heap.size, 1, none⟩ = some (.slice A n cp)) := Lib.hid fun V hV =>
    ⟨by rw [cell_of_row _ _ _ _ _ _ ((hV.block _ hlc).trans hc0)]; rfl, by rw [cell_of_row _ _ _ _ _ _ ((hV.block _ hlc).trans hc0)]; rfl⟩
  have hPp : Hid (∀ V, Below W0.heap.size W0 V → V.rangeAt (w.heap.size + 1) 0 (poC p)) := Lib.hid fun V hV => po_row ((hV.block _ hlp).trans hp0)
  have HB := Below.refl W0.heap.size W0
  have kS : Hid (Calls Tryd.prog 24 #[] W0 fun e w' => e = .returned (.bool true) ∧ Below W0.heap.size W0 w') := Lib.hid (osane_any W0 hL0)
  have kM : Hid (∀ V, Below W0.heap.size W0 V → Calls Tryd.prog 25 #[.agg #[.int .i64 c.no, .slice A n cp]] V fun e w' => e = .returned (.bool true) ∧ Below V.heap.size V w') := Lib.hid fun V _ => h ▸ small_any c.no n cp A V
  have hA0 := hA.below hB0
  obtain ⟨a, ha9⟩ : ∃ a, anP x c = a := ⟨_, rfl⟩
  have haI : PoI a := ha9 ▸ anP_I x c
  obtain ⟨E, hE9⟩ : ∃ E, anE x c = E := ⟨_, rfl⟩
  obtain ⟨G, hG9⟩ : ∃ G, calE c = G := ⟨_, rfl⟩
  obtain ⟨ra, hra9⟩ : ∃ r, shB a c = r := ⟨_, rfl⟩
  obtain ⟨rp, hrp9⟩ : ∃ r, shB p c = r := ⟨_, rfl⟩
  obtain ⟨ka, hka9⟩ : ∃ r, ckP key a = r := ⟨_, rfl⟩
  obtain ⟨kp, hkp9⟩ : ∃ r, ckP key p = r := ⟨_, rfl⟩
  have kA : Hid (∀ V, Below W0.heap.size W0 V → Calls Tryd.prog 26 #[.int .i64 x, .agg #[.int .i64 c.no, .slice A n cp]] V fun e w' => e = .returned (.tuple #[.agg (poA a), .int .i64 E]) ∧ Below V.heap.size V w') := Lib.hid fun V hV => by have := announce_any x c n cp A V hn hcp (hA0.below hV) hI (hL0.below hV); rw [ha9, hE9] at this; exact this
  have kB : Hid (∀ V, Below W0.heap.size W0 V → Calls Tryd.prog 27 #[.int .i64 x, .agg #[.int .i64 c.no, .slice A n cp]] V fun e w' => e = .returned (.tuple #[.agg (poA a), .int .i64 E]) ∧ Below V.heap.size V w') := Lib.hid fun V hV => by have := roannounce_any x c n cp A V hn hcp (hA0.below hV) hI; rw [ha9, hE9] at this; exact this
  have kSa : Hid (∀ V, Below W0.heap.size W0 V → Calls Tryd.prog 28 #[.agg (poC a).toArray, .agg #[.int .i64 c.no, .slice A n cp]] V fun e w' => e = .returned (.tuple #[.bool ra, .int .i64 G]) ∧ Below V.heap.size V w') := Lib.hid fun V hV => by have := oshows_any a haI.root c n cp A V hn hcp (hA0.below hV) hI (hL0.below hV); rw [hra9, hG9] at this; exact this
  have kTa : Hid (∀ V, Below W0.heap.size W0 V → Calls Tryd.prog 29 #[.agg (poC a).toArray, .agg #[.int .i64 c.no, .slice A n cp]] V fun e w' => e = .returned (.tuple #[.bool ra, .int .i64 G]) ∧ Below V.heap.size V w') := Lib.hid fun V hV => by have := roshows_any a haI.root c n cp A V hn hcp (hA0.below hV) hI; rw [hra9, hG9] at this; exact this
  have kCa : Hid (∀ V, Below W0.heap.size W0 V → Calls Tryd.prog 30 #[.int .i64 key, .agg (poC a).toArray] V fun e w' => e = .returned (.bool ka) ∧ Below V.heap.size V w') := Lib.hid fun V hV => hka9 ▸ ocheck_any key a haI.root V (hL0.below hV)
  have kDa : Hid (∀ V, Below W0.heap.size W0 V → Calls Tryd.prog 31 #[.int .i64 key, .agg (poC a).toArray] V fun e w' => e = .returned (.bool ka) ∧ Below V.heap.size V w') := Lib.hid fun V hV => hka9 ▸ rocheck_any key a haI.root V
  have kSp : Hid (∀ V, Below W0.heap.size W0 V → Calls Tryd.prog 28 #[.agg (poC p).toArray, .agg #[.int .i64 c.no, .slice A n cp]] V fun e w' => e = .returned (.tuple #[.bool rp, .int .i64 G]) ∧ Below V.heap.size V w') := Lib.hid fun V hV => by have := oshows_any p hp.root c n cp A V hn hcp (hA0.below hV) hI (hL0.below hV); rw [hrp9, hG9] at this; exact this
  have kTp : Hid (∀ V, Below W0.heap.size W0 V → Calls Tryd.prog 29 #[.agg (poC p).toArray, .agg #[.int .i64 c.no, .slice A n cp]] V fun e w' => e = .returned (.tuple #[.bool rp, .int .i64 G]) ∧ Below V.heap.size V w') := Lib.hid fun V hV => by have := roshows_any p hp.root c n cp A V hn hcp (hA0.below hV) hI; rw [hrp9, hG9] at this; exact this
  have kCp : Hid (∀ V, Below W0.heap.size W0 V → Calls Tryd.prog 30 #[.int .i64 key, .agg (poC p).toArray] V fun e w' => e = .returned (.bool kp) ∧ Below V.heap.size V w') := Lib.hid fun V hV => hkp9 ▸ ocheck_any key p hp.root V (hL0.below hV)
  have kDp : Hid (∀ V, Below W0.heap.size W0 V → Calls Tryd.prog 31 #[.int .i64 key, .agg (poC p).toArray] V fun e w' => e = .returned (.bool kp) ∧ Below V.heap.size V w') := Lib.hid fun V hV => hkp9 ▸ rocheck_any key p hp.root V
  have eqa := eq_po haI
  have ia := Lib.hid (po_info' haI.root)
  have ip := Lib.hid (po_info' hp.root)
  have ja := Lib.hid (po_info haI.root)
  have jp := Lib.hid (po_info hp.root)
  have sa : Hid (35 = (poA a).size) := Lib.hid (poA_size haI.root).symm
  have sp : Hid (35 = (poA p).size) := Lib.hid (poA_size hp.root).symm
  have oa := Lib.hid (poA_one a)
  have op := Lib.hid (poA_one p)
  have bu := Lib.hid (builtSlice_po2 a p haI.root hp.root)
  have hps := Lib.hid (show ∀ y ∈ [a, p], y.root.length = 32 from fun y hy => by
    simp at hy
    rcases hy with rfl | rfl
    · exact haI.root
    · exact hp.root)
  have bE : (E != E) = false := by simp
  have bG : (G != G) = false := by simp
  have bra : (ra != ra) = false := by simp
  have brp : (rp != rp) = false := by simp
  have bka : (ka != ka) = false := by simp
  have bkp : (kp != kp) = false := by simp
  clear hc0 hp0 hlc hlp hL0 hL hn hA hI hp haI ha9 hE9 hG9 hra9 hrp9 hka9 hkp9 hA0
  replace hB0 := Lib.hid hB0
  replace h := Lib.hid h
  go_enter Tryd.func8, Tryd.ntmps8
  go_wp2_with fail
  try rw [hW0]
  clear hW0
  refine kS.out.mono ?_
  rintro e w1 ⟨rfl, hb⟩
  replace HB := HB.trans (hb.mono HB.size)
  clear hb
  obtain ⟨c0, c1⟩ := hC.out _ HB
  go_wp2_with fail
  refine (kM.out _ HB).mono ?_
  rintro e w2 ⟨rfl, hb⟩
  replace HB := HB.trans (hb.mono HB.size)
  clear hb c0 c1
  obtain ⟨c0, c1⟩ := hC.out _ HB
  go_wp2_with fail
  refine (kA.out _ HB).mono ?_
  rintro e w3 ⟨rfl, hb⟩
  replace HB := HB.trans (hb.mono HB.size)
  clear hb c0 c1
  go_wp2_with (refine wpList_new_row' (by rfl) 49 (.tmp 9) (.tmp 28) (by rfl) (by rfl) (poA a) w3.heap.size (by rfl) rfl (by rfl) 49 _ ja.out sa.out oa.out ?_; intro w4 hd hz hB; replace HB := HB.trans (hB.mono HB.size); obtain ⟨c0, c1⟩ := hC.out _ HB; have h9 : Hid (∀ V, Below w4.heap.size w4 V → V.rangeAt w3.heap.size 0 (poC a)) := Lib.hid (fun V hV => po_row ((hV.block _ (Array.getElem?_eq_some_iff.1 hd).1).trans hd)); clear hd hz hB)
  refine (kB.out _ HB).mono ?_
  rintro e w5 ⟨rfl, hb⟩
  replace HB := HB.trans (hb.mono HB.size)
  replace h9 := up h9 hb
  clear hb c0 c1
  go_wp2_with (first
    | (refine wpList_new_row' (by rfl) 49 (.tmp 11) (.tmp 34) (by rfl) (by rfl) (poA a) w5.heap.size (by rfl) rfl (by rfl) 49 _ ja.out sa.out oa.out ?_; intro w6 hd hz hB; replace HB := HB.trans (hB.mono HB.size); replace h9 := up h9 hB; have h11 : Hid (w6.rangeAt w5.heap.size 0 (poC a)) := Lib.hid (po_row hd); clear hd hz hB)
    | (refine wpList_load_mid (by rfl) 49 (.tmp 9) (by rfl) w3.heap.size 0 (by rfl) (poC a) _ (h9.out _ (Below.refl _ _)) Tryd.underlying49 (by rfl) ia.out ?_)
    | (refine wpList_load_mid (by rfl) 49 (.tmp 11) (by rfl) w5.heap.size 0 (by rfl) (poC a) _ h11.out Tryd.underlying49 (by rfl) ia.out ?_)
    | (refine wpList_load_mid (by rfl) 49 (.tmp 7) (by rfl) (w.heap.size + 1) 0 (by rfl) (poC p) _ (hPp.out _ HB) Tryd.underlying49 (by rfl) ip.out ?_)
    | (refine wpList_built (by rfl) 53 49 2 #[(0, .tmp 44), (1, .tmp 45)] (by rfl) Tryd.underlying53 (poC a ++ poC p).toArray (by simp only [List.map_toArray, List.map_cons, List.map_nil]; exact bu.out) ?_))
  have hgs : Hid (∀ V, Below (w6.alloc (.cells (poC a ++ poC p).toArray 49)).heap.size (w6.alloc (.cells (poC a ++ poC p).toArray 49)) V → PsAt V (some ⟨w6.heap.size, 0, none⟩) [a, p]) := Lib.hid fun V hV =>
    (psAt_row hps.out (heap_alloc_new w6 (.cells (poC a ++ poC p).toArray 49)) (by simp [psC])).below hV
  have HBs := HB.alloc HB.size (.cells (poC a ++ poC p).toArray 49)
  clear h9 h11 eqa HB
  go_loopw [48] (fun s48 wr => (s48 = .int .i64 0 ∨ s48 = .int .i64 1 ∨ s48 = .int .i64 2) ∧ Below (w6.alloc (.cells (poC a ++ poC p).toArray 49)).heap.size (w6.alloc (.cells (poC a ++ poC p).toArray 49)) wr) (fun s48 _ => 2 - (intOf s48).toNat)
  case atStart => exact ⟨.inl rfl, Below.refl _ _⟩
  case round =>
    obtain ⟨hs, hB⟩ := hrel
    have HB := HBs.trans (hB.mono HBs.size)
    have hpsr := hgs.out _ hB
    obtain ⟨c0, c1⟩ := hC.out _ HB
    rcases hs with rfl | rfl | rfl
    · obtain ⟨_, _, hAe, _, hrow⟩ := hpsr 0 a (by rfl)
      obtain ⟨rfl, rfl⟩ : w6.heap.size = _ ∧ 0 = _ := by injection hAe with h; injection h with h1 h2; exact ⟨h1, h2⟩
      replace hrow : Hid (wr.rangeAt w6.heap.size 0 (poC a)) := Lib.hid (by simpa using hrow)
      clear hAe hpsr
      go_wp2_with (first
        | (refine wpList_load_mid (by rfl) 49 (.tmp 50) (by rfl) w6.heap.size 0 (by rfl) (poC a) _ hrow.out Tryd.underlying49 (by rfl) ia.out ?_)
        | (refine wpList_new_row' (by rfl) 49 (.tmp 14) (.tmp 51) (by rfl) (by rfl) (poA a) wr.heap.size (by rfl) rfl (by rfl) 49 _ ja.out sa.out oa.out ?_; intro w7 hd hz hB7; replace HB := HB.trans (hB7.mono HB.size); replace hB := hB.trans (hB7.mono hB.size); clear c0 c1; obtain ⟨c0, c1⟩ := hC.out _ HB; have h14 : Hid (∀ V, Below w7.heap.size w7 V → V.rangeAt wr.heap.size 0 (poC a)) := Lib.hid (fun V hV => po_row ((hV.block _ (Array.getElem?_eq_some_iff.1 hd).1).trans hd)); clear hd hz hB7)
        | (refine wpList_load_mid (by rfl) 49 (.tmp 14) (by rfl) wr.heap.size 0 (by rfl) (poC a) _ (h14.out _ (Below.refl _ _)) Tryd.underlying49 (by rfl) ia.out ?_))
      refine (kSa.out _ HB).mono ?_
      rintro e w8 ⟨rfl, hb⟩
      replace HB := HB.trans (hb.mono HB.size)
      replace hB := hB.trans (hb.mono hB.size)
      replace h14 := up h14 hb
      clear hb c0 c1
      obtain ⟨c0, c1⟩ := hC.out _ HB
      go_wp2_with (refine wpList_load_mid (by rfl) 49 (.tmp 14) (by rfl) wr.heap.size 0 (by rfl) (poC a) _ (h14.out _ (Below.refl _ _)) Tryd.underlying49 (by rfl) ia.out ?_)
      refine (kTa.out _ HB).mono ?_
      rintro e w9 ⟨rfl, hb⟩
      replace HB := HB.trans (hb.mono HB.size)
      replace hB := hB.trans (hb.mono hB.size)
      replace h14 := up h14 hb
      clear hb c0 c1
      have HB9 := Below.refl w9.heap.size w9
      have HX := HB9.drew
      go_wp2_with fail
      refine wp_region_held_drew (S := fun w' => w'.rangeAt wr.heap.size 0 (poC a)) (by kernel_rfl) (by exact h14.out _ HX) (fun hHeld => ?_)
      refine wpAnyH_take (i := 0) (oi := { dst := some 64, op := Op.move (Operand.tmp 1), type := 3, pos := "law.go:54", after := #[], guard := none }) (v := ?_) rfl (by kernel_rfl) (by kernel_rfl) (by kernel_rfl) (fun _ _ _ h => h) (Or.inl ⟨by rfl, ?hy0⟩) hHeld ?rest0
      case hy0 =>
        intro w hSw
        try dsimp only at hSw
        go_simp
        try with_reducible rfl
      try simp only [Act.put, List.setIfInBounds_toArray, List.set_cons_zero, List.set_cons_succ]
      refine wpAnyH_take (i := 1) (oi := { dst := some 65, op := Op.load 49 (Operand.tmp 14), type := 49, pos := "law.go:54", after := #[], guard := none }) (v := _) rfl (by kernel_rfl) (by kernel_rfl) (by kernel_rfl) (fun _ _ _ h => h) (yieldsIf_load_mid (by rfl) 49 (.tmp 14) rfl wr.heap.size 0 rfl (poC a) _ (fun _ h => h) Tryd.underlying49 rfl ia.out) hHeld ?_
      try simp only [Act.put, List.setIfInBounds_toArray, List.set_cons_zero, List.set_cons_succ]
      refine wpAnyH_take (i := 3) (oi := { dst := some 67, op := Op.move (Operand.tmp 1), type := 3, pos := "law.go:54", after := #[], guard := none }) (v := ?_) rfl (by kernel_rfl) (by kernel_rfl) (by kernel_rfl) (fun _ _ _ h => h) (Or.inl ⟨by rfl, ?hy3⟩) hHeld ?rest3
      case hy3 =>
        intro w hSw
        try dsimp only at hSw
        go_simp
        try with_reducible rfl
      try simp only [Act.put, List.setIfInBounds_toArray, List.set_cons_zero, List.set_cons_succ]
      refine wpAnyH_take (i := 4) (oi := { dst := some 68, op := Op.load 49 (Operand.tmp 14), type := 49, pos := "law.go:54", after := #[], guard := none }) (v := _) rfl (by kernel_rfl) (by kernel_rfl) (by kernel_rfl) (fun _ _ _ h => h) (yieldsIf_load_mid (by rfl) 49 (.tmp 14) rfl wr.heap.size 0 rfl (poC a) _ (fun _ h => h) Tryd.underlying49 rfl ia.out) hHeld ?_
      try simp only [Act.put, List.setIfInBounds_toArray, List.set_cons_zero, List.set_cons_succ]
      refine wpAnyH_ready (rs := [2]) (by kernel_rfl) (by simp) (AllReadyH.cons (o := { dst := some 66, op := Op.call { callee := Callee.value (Operand.func 30), args := #[Operand.tmp 64, Operand.tmp 65], argTypes := #[3, 49] }, type := 4, pos := "law.go:54", after := #[{ on := 0, ground := Ground.data }, { on := 1, ground := Ground.data }], guard := none }) rfl (fun K hK => ?_) AllReadyH.nil)
      go_simp
      go_at_call 30
      refine (kCa.out _ (HB.trans (HX.mono HB.size))).mono ?_
      rintro e w10 ⟨rfl, hb⟩
      replace HX := HX.trans (hb.mono HX.size)
      clear hb
      refine hK.out _ _ (by exact h14.out _ HX) (fun hHeld' => ?_)
      clear hK K hHeld
      have hHeld := hHeld'
      clear hHeld'
      try simp only [Act.put, List.setIfInBounds_toArray, List.set_cons_zero, List.set_cons_succ]
      refine wpAnyH_ready (rs := [5]) (by kernel_rfl) (by simp) (AllReadyH.cons (o := { dst := some 69, op := Op.call { callee := Callee.value (Operand.func 31), args := #[Operand.tmp 67, Operand.tmp 68], argTypes := #[3, 49] }, type := 4, pos := "law.go:54", after := #[{ on := 3, ground := Ground.data }, { on := 4, ground := Ground.data }, { on := 2, ground := Ground.chain }], guard := none }) rfl (fun K hK => ?_) AllReadyH.nil)
      go_simp
      go_at_call 31
      refine (kDa.out _ (HB.trans (HX.mono HB.size))).mono ?_
      rintro e w11 ⟨rfl, hb⟩
      replace HX := HX.trans (hb.mono HX.size)
      clear hb
      refine hK.out _ _ (by exact h14.out _ HX) (fun hHeld' => ?_)
      clear hK K hHeld
      have hHeld := hHeld'
      clear hHeld'
      try simp only [Act.put, List.setIfInBounds_toArray, List.set_cons_zero, List.set_cons_succ]
      refine wpAnyH_take (i := 6) (oi := { dst := some 70, op := Op.binOp BinOp.neq 4 (Operand.tmp 66) (Operand.tmp 69) 4, type := 4, pos := "law.go:54", after := #[{ on := 2, ground := Ground.data }, { on := 5, ground := Ground.data }], guard := none }) (v := ?_) rfl (by kernel_rfl) (by kernel_rfl) (by kernel_rfl) (fun _ _ _ h => h) (Or.inl ⟨by rfl, ?hy6⟩) hHeld ?rest6
      case hy6 =>
        intro w hSw
        try dsimp only at hSw
        go_simp
        try with_reducible rfl
      try simp only [Act.put, List.setIfInBounds_toArray, List.set_cons_zero, List.set_cons_succ]
      refine wpAnyH_take (i := 7) (oi := { dst := some 71, op := Op.move (Operand.tmp 70), type := 4, pos := "law.go:54", after := #[{ on := 6, ground := Ground.data }, { on := 5, ground := Ground.chain }], guard := none }) (v := ?_) rfl (by kernel_rfl) (by kernel_rfl) (by kernel_rfl) (fun _ _ _ h => h) (Or.inl ⟨by rfl, ?hy7⟩) hHeld ?rest7
      case hy7 =>
        intro w hSw
        try dsimp only at hSw
        go_simp
        try with_reducible rfl
      try simp only [Act.put, List.setIfInBounds_toArray, List.set_cons_zero, List.set_cons_succ]
      refine wpAnyH_take (i := 8) (oi := { dst := some 72, op := Op.move (Operand.tmp 15), type := 4, pos := "law.go:54", after := #[{ on := 7, ground := Ground.guard }], guard := some (7, false) }) (v := ?_) rfl (by kernel_rfl) (by kernel_rfl) (by kernel_rfl) (fun _ _ _ h => h) (Or.inl ⟨by rfl, ?hy8⟩) hHeld ?rest8
      case hy8 =>
        intro w hSw
        try dsimp only at hSw
        go_simp
        try with_reducible rfl
      try simp only [Act.put, List.setIfInBounds_toArray, List.set_cons_zero, List.set_cons_succ]
      refine wpAnyH_take (i := 9) (oi := { dst := some 73, op := Op.move (Operand.tmp 17), type := 4, pos := "law.go:54", after := #[{ on := 7, ground := Ground.guard }], guard := some (7, false) }) (v := ?_) rfl (by kernel_rfl) (by kernel_rfl) (by kernel_rfl) (fun _ _ _ h => h) (Or.inl ⟨by rfl, ?hy9⟩) hHeld ?rest9
      case hy9 =>
        intro w hSw
        try dsimp only at hSw
        go_simp
        try with_reducible rfl
      try simp only [Act.put, List.setIfInBounds_toArray, List.set_cons_zero, List.set_cons_succ]
      refine wpAnyH_take (i := 10) (oi := { dst := some 74, op := Op.binOp BinOp.neq 4 (Operand.tmp 72) (Operand.tmp 73) 4, type := 4, pos := "law.go:54", after := #[{ on := 8, ground := Ground.data }, { on := 9, ground := Ground.data }, { on := 7, ground := Ground.guard }], guard := some (7, false) }) (v := ?_) rfl (by kernel_rfl) (by kernel_rfl) (by kernel_rfl) (fun _ _ _ h => h) (Or.inl ⟨by rfl, ?hy10⟩) hHeld ?rest10
      case hy10 =>
        intro w hSw
        try dsimp only at hSw
        go_simp
        try with_reducible rfl
      try simp only [Act.put, List.setIfInBounds_toArray, List.set_cons_zero, List.set_cons_succ]
      refine wpAnyH_take (i := 11) (oi := { dst := some 75, op := Op.pick (Operand.tmp 71) (Operand.const (Value.bool true)) (Operand.tmp 74), type := 4, pos := "law.go:54", after := #[{ on := 7, ground := Ground.data }, { on := 10, ground := Ground.data }], guard := none }) (v := ?_) rfl (by kernel_rfl) (by kernel_rfl) (by kernel_rfl) (fun _ _ _ h => h) (Or.inl ⟨by rfl, ?hy11⟩) hHeld ?rest11
      case hy11 =>
        intro w hSw
        try dsimp only at hSw
        go_simp
        try with_reducible rfl
      try simp only [Act.put, List.setIfInBounds_toArray, List.set_cons_zero, List.set_cons_succ]
      refine wpAnyH_take (i := 12) (oi := { dst := some 76, op := Op.move (Operand.tmp 75), type := 4, pos := "law.go:54", after := #[{ on := 11, ground := Ground.data }, { on := 7, ground := Ground.chain }], guard := none }) (v := ?_) rfl (by kernel_rfl) (by kernel_rfl) (by kernel_rfl) (fun _ _ _ h => h) (Or.inl ⟨by rfl, ?hy12⟩) hHeld ?rest12
      case hy12 =>
        intro w hSw
        try dsimp only at hSw
        go_simp
        try with_reducible rfl
      try simp only [Act.put, List.setIfInBounds_toArray, List.set_cons_zero, List.set_cons_succ]
      refine wpAnyH_take (i := 13) (oi := { dst := some 77, op := Op.move (Operand.tmp 16), type := 26, pos := "law.go:54", after := #[{ on := 12, ground := Ground.guard }], guard := some (12, false) }) (v := ?_) rfl (by kernel_rfl) (by kernel_rfl) (by kernel_rfl) (fun _ _ _ h => h) (Or.inl ⟨by rfl, ?hy13⟩) hHeld ?rest13
      case hy13 =>
        intro w hSw
        try dsimp only at hSw
        go_simp
        try with_reducible rfl
      try simp only [Act.put, List.setIfInBounds_toArray, List.set_cons_zero, List.set_cons_succ]
      refine wpAnyH_take (i := 14) (oi := { dst := some 78, op := Op.move (Operand.tmp 18), type := 26, pos := "law.go:54", after := #[{ on := 12, ground := Ground.guard }], guard := some (12, false) }) (v := ?_) rfl (by kernel_rfl) (by kernel_rfl) (by kernel_rfl) (fun _ _ _ h => h) (Or.inl ⟨by rfl, ?hy14⟩) hHeld ?rest14
      case hy14 =>
        intro w hSw
        try dsimp only at hSw
        go_simp
        try with_reducible rfl
      try simp only [Act.put, List.setIfInBounds_toArray, List.set_cons_zero, List.set_cons_succ]
      refine wpAnyH_take (i := 15) (oi := { dst := some 79, op := Op.binOp BinOp.neq 26 (Operand.tmp 77) (Operand.tmp 78) 26, type := 4, pos := "law.go:54", after := #[{ on := 13, ground := Ground.data }, { on := 14, ground := Ground.data }, { on := 12, ground := Ground.guard }], guard := some (12, false) }) (v := ?_) rfl (by kernel_rfl) (by kernel_rfl) (by kernel_rfl) (fun _ _ _ h => h) (Or.inl ⟨by rfl, ?hy15⟩) hHeld ?rest15
      case hy15 =>
        intro w hSw
        try dsimp only at hSw
        go_simp
        try with_reducible rfl
      try simp only [Act.put, List.setIfInBounds_toArray, List.set_cons_zero, List.set_cons_succ]
      refine wpAnyH_take (i := 16) (oi := { dst := some 80, op := Op.pick (Operand.tmp 76) (Operand.const (Value.bool true)) (Operand.tmp 79), type := 4, pos := "law.go:54", after := #[{ on := 12, ground := Ground.data }, { on := 15, ground := Ground.data }], guard := none }) (v := ?_) rfl (by kernel_rfl) (by kernel_rfl) (by kernel_rfl) (fun _ _ _ h => h) (Or.inl ⟨by rfl, ?hy16⟩) hHeld ?rest16
      case hy16 =>
        intro w hSw
        try dsimp only at hSw
        go_simp
        try with_reducible rfl
      try simp only [Act.put, List.setIfInBounds_toArray, List.set_cons_zero, List.set_cons_succ]
      refine wpAnyH_done (by kernel_rfl) ?_ _
      replace hB := hB.trans (HX.mono hB.size)
      clear HX HB9
      go_wp2_with fail
      go_roundw
      case rel => exact ⟨.inr (.inl rfl), hB⟩
      case measure => simp [intOf]
    · obtain ⟨_, _, hAe, _, hrow⟩ := hpsr 1 p (by rfl)
      obtain ⟨rfl, rfl⟩ : w6.heap.size = _ ∧ 0 = _ := by injection hAe with h; injection h with h1 h2; exact ⟨h1, h2⟩
      replace hrow : Hid (wr.rangeAt w6.heap.size 35 (poC p)) := Lib.hid (by simpa using hrow)
      clear hAe hpsr
      go_wp2_with (first
        | (refine wpList_load_mid (by rfl) 49 (.tmp 50) (by rfl) w6.heap.size 35 (by rfl) (poC p) _ hrow.out Tryd.underlying49 (by rfl) ip.out ?_)
        | (refine wpList_new_row' (by rfl) 49 (.tmp 14) (.tmp 51) (by rfl) (by rfl) (poA p) wr.heap.size (by rfl) rfl (by rfl) 49 _ jp.out sp.out op.out ?_; intro w7 hd hz hB7; replace HB := HB.trans (hB7.mono HB.size); replace hB := hB.trans (hB7.mono hB.size); clear c0 c1; obtain ⟨c0, c1⟩ := hC.out _ HB; have h14 : Hid (∀ V, Below w7.heap.size w7 V → V.rangeAt wr.heap.size 0 (poC p)) := Lib.hid (fun V hV => po_row ((hV.block _ (Array.getElem?_eq_some_iff.1 hd).1).trans hd)); clear hd hz hB7)
        | (refine wpList_load_mid (by rfl) 49 (.tmp 14) (by rfl) wr.heap.size 0 (by rfl) (poC p) _ (h14.out _ (Below.refl _ _)) Tryd.underlying49 (by rfl) ip.out ?_))
      refine (kSp.out _ HB).mono ?_
      rintro e w8 ⟨rfl, hb⟩
      replace HB := HB.trans (hb.mono HB.size)
      replace hB := hB.trans (hb.mono hB.size)
      replace h14 := up h14 hb
      clear hb c0 c1
      obtain ⟨c0, c1⟩ := hC.out _ HB
      go_wp2_with (refine wpList_load_mid (by rfl) 49 (.tmp 14) (by rfl) wr.heap.size 0 (by rfl) (poC p) _ (h14.out _ (Below.refl _ _)) Tryd.underlying49 (by rfl) ip.out ?_)
      refine (kTp.out _ HB).mono ?_
      rintro e w9 ⟨rfl, hb⟩
      replace HB := HB.trans (hb.mono HB.size)
      replace hB := hB.trans (hb.mono hB.size)
      replace h14 := up h14 hb
      clear hb c0 c1
      have HB9 := Below.refl w9.heap.size w9
      have HX := HB9.drew
      go_wp2_with fail
      refine wp_region_held_drew (S := fun w' => w'.rangeAt wr.heap.size 0 (poC p)) (by kernel_rfl) (by exact h14.out _ HX) (fun hHeld => ?_)
      refine wpAnyH_take (i := 0) (oi := { dst := some 64, op := Op.move (Operand.tmp 1), type := 3, pos := "law.go:54", after := #[], guard := none }) (v := ?_) rfl (by kernel_rfl) (by kernel_rfl) (by kernel_rfl) (fun _ _ _ h => h) (Or.inl ⟨by rfl, ?hya0⟩) hHeld ?resta0
      case hya0 =>
        intro w hSw
        try dsimp only at hSw
        go_simp
        try with_reducible rfl
      try simp only [Act.put, List.setIfInBounds_toArray, List.set_cons_zero, List.set_cons_succ]
      refine wpAnyH_take (i := 1) (oi := { dst := some 65, op := Op.load 49 (Operand.tmp 14), type := 49, pos := "law.go:54", after := #[], guard := none }) (v := _) rfl (by kernel_rfl) (by kernel_rfl) (by kernel_rfl) (fun _ _ _ h => h) (yieldsIf_load_mid (by rfl) 49 (.tmp 14) rfl wr.heap.size 0 rfl (poC p) _ (fun _ h => h) Tryd.underlying49 rfl ip.out) hHeld ?_
      try simp only [Act.put, List.setIfInBounds_toArray, List.set_cons_zero, List.set_cons_succ]
      refine wpAnyH_take (i := 3) (oi := { dst := some 67, op := Op.move (Operand.tmp 1), type := 3, pos := "law.go:54", after := #[], guard := none }) (v := ?_) rfl (by kernel_rfl) (by kernel_rfl) (by kernel_rfl) (fun _ _ _ h => h) (Or.inl ⟨by rfl, ?hya3⟩) hHeld ?resta3
      case hya3 =>
        intro w hSw
        try dsimp only at hSw
        go_simp
        try with_reducible rfl
      try simp only [Act.put, List.setIfInBounds_toArray, List.set_cons_zero, List.set_cons_succ]
      refine wpAnyH_take (i := 4) (oi := { dst := some 68, op := Op.load 49 (Operand.tmp 14), type := 49, pos := "law.go:54", after := #[], guard := none }) (v := _) rfl (by kernel_rfl) (by kernel_rfl) (by kernel_rfl) (fun _ _ _ h => h) (yieldsIf_load_mid (by rfl) 49 (.tmp 14) rfl wr.heap.size 0 rfl (poC p) _ (fun _ h => h) Tryd.underlying49 rfl ip.out) hHeld ?_
      try simp only [Act.put, List.setIfInBounds_toArray, List.set_cons_zero, List.set_cons_succ]
      refine wpAnyH_ready (rs := [2]) (by kernel_rfl) (by simp) (AllReadyH.cons (o := { dst := some 66, op := Op.call { callee := Callee.value (Operand.func 30), args := #[Operand.tmp 64, Operand.tmp 65], argTypes := #[3, 49] }, type := 4, pos := "law.go:54", after := #[{ on := 0, ground := Ground.data }, { on := 1, ground := Ground.data }], guard := none }) rfl (fun K hK => ?_) AllReadyH.nil)
      go_simp
      go_at_call 30
      refine (kCp.out _ (HB.trans (HX.mono HB.size))).mono ?_
      rintro e w10 ⟨rfl, hb⟩
      replace HX := HX.trans (hb.mono HX.size)
      clear hb
      refine hK.out _ _ (by exact h14.out _ HX) (fun hHeld' => ?_)
      clear hK K hHeld
      have hHeld := hHeld'
      clear hHeld'
      try simp only [Act.put, List.setIfInBounds_toArray, List.set_cons_zero, List.set_cons_succ]
      refine wpAnyH_ready (rs := [5]) (by kernel_rfl) (by simp) (AllReadyH.cons (o := { dst := some 69, op := Op.call { callee := Callee.value (Operand.func 31), args := #[Operand.tmp 67, Operand.tmp 68], argTypes := #[3, 49] }, type := 4, pos := "law.go:54", after := #[{ on := 3, ground := Ground.data }, { on := 4, ground := Ground.data }, { on := 2, ground := Ground.chain }], guard := none }) rfl (fun K hK => ?_) AllReadyH.nil)
      go_simp
      go_at_call 31
      refine (kDp.out _ (HB.trans (HX.mono HB.size))).mono ?_
      rintro e w11 ⟨rfl, hb⟩
      replace HX := HX.trans (hb.mono HX.size)
      clear hb
      refine hK.out _ _ (by exact h14.out _ HX) (fun hHeld' => ?_)
      clear hK K hHeld
      have hHeld := hHeld'
      clear hHeld'
      try simp only [Act.put, List.setIfInBounds_toArray, List.set_cons_zero, List.set_cons_succ]
      refine wpAnyH_take (i := 6) (oi := { dst := some 70, op := Op.binOp BinOp.neq 4 (Operand.tmp 66) (Operand.tmp 69) 4, type := 4, pos := "law.go:54", after := #[{ on := 2, ground := Ground.data }, { on := 5, ground := Ground.data }], guard := none }) (v := ?_) rfl (by kernel_rfl) (by kernel_rfl) (by kernel_rfl) (fun _ _ _ h => h) (Or.inl ⟨by rfl, ?hya6⟩) hHeld ?resta6
      case hya6 =>
        intro w hSw
        try dsimp only at hSw
        go_simp
        try with_reducible rfl
      try simp only [Act.put, List.setIfInBounds_toArray, List.set_cons_zero, List.set_cons_succ]
      refine wpAnyH_take (i := 7) (oi := { dst := some 71, op := Op.move (Operand.tmp 70), type := 4, pos := "law.go:54", after := #[{ on := 6, ground := Ground.data }, { on := 5, ground := Ground.chain }], guard := none }) (v := ?_) rfl (by kernel_rfl) (by kernel_rfl) (by kernel_rfl) (fun _ _ _ h => h) (Or.inl ⟨by rfl, ?hya7⟩) hHeld ?resta7
      case hya7 =>
        intro w hSw
        try dsimp only at hSw
        go_simp
        try with_reducible rfl
      try simp only [Act.put, List.setIfInBounds_toArray, List.set_cons_zero, List.set_cons_succ]
      refine wpAnyH_take (i := 8) (oi := { dst := some 72, op := Op.move (Operand.tmp 15), type := 4, pos := "law.go:54", after := #[{ on := 7, ground := Ground.guard }], guard := some (7, false) }) (v := ?_) rfl (by kernel_rfl) (by kernel_rfl) (by kernel_rfl) (fun _ _ _ h => h) (Or.inl ⟨by rfl, ?hya8⟩) hHeld ?resta8
      case hya8 =>
        intro w hSw
        try dsimp only at hSw
        go_simp
        try with_reducible rfl
      try simp only [Act.put, List.setIfInBounds_toArray, List.set_cons_zero, List.set_cons_succ]
      refine wpAnyH_take (i := 9) (oi := { dst := some 73, op := Op.move (Operand.tmp 17), type := 4, pos := "law.go:54", after := #[{ on := 7, ground := Ground.guard }], guard := some (7, false) }) (v := ?_) rfl (by kernel_rfl) (by kernel_rfl) (by kernel_rfl) (fun _ _ _ h => h) (Or.inl ⟨by rfl, ?hya9⟩) hHeld ?resta9
      case hya9 =>
        intro w hSw
        try dsimp only at hSw
        go_simp
        try with_reducible rfl
      try simp only [Act.put, List.setIfInBounds_toArray, List.set_cons_zero, List.set_cons_succ]
      refine wpAnyH_take (i := 10) (oi := { dst := some 74, op := Op.binOp BinOp.neq 4 (Operand.tmp 72) (Operand.tmp 73) 4, type := 4, pos := "law.go:54", after := #[{ on := 8, ground := Ground.data }, { on := 9, ground := Ground.data }, { on := 7, ground := Ground.guard }], guard := some (7, false) }) (v := ?_) rfl (by kernel_rfl) (by kernel_rfl) (by kernel_rfl) (fun _ _ _ h => h) (Or.inl ⟨by rfl, ?hya10⟩) hHeld ?resta10
      case hya10 =>
        intro w hSw
        try dsimp only at hSw
        go_simp
        try with_reducible rfl
      try simp only [Act.put, List.setIfInBounds_toArray, List.set_cons_zero, List.set_cons_succ]
      refine wpAnyH_take (i := 11) (oi := { dst := some 75, op := Op.pick (Operand.tmp 71) (Operand.const (Value.bool true)) (Operand.tmp 74), type := 4, pos := "law.go:54", after := #[{ on := 7, ground := Ground.data }, { on := 10, ground := Ground.data }], guard := none }) (v := ?_) rfl (by kernel_rfl) (by kernel_rfl) (by kernel_rfl) (fun _ _ _ h => h) (Or.inl ⟨by rfl, ?hya11⟩) hHeld ?resta11
      case hya11 =>
        intro w hSw
        try dsimp only at hSw
        go_simp
        try with_reducible rfl
      try simp only [Act.put, List.setIfInBounds_toArray, List.set_cons_zero, List.set_cons_succ]
      refine wpAnyH_take (i := 12) (oi := { dst := some 76, op := Op.move (Operand.tmp 75), type := 4, pos := "law.go:54", after := #[{ on := 11, ground := Ground.data }, { on := 7, ground := Ground.chain }], guard := none }) (v := ?_) rfl (by kernel_rfl) (by kernel_rfl) (by kernel_rfl) (fun _ _ _ h => h) (Or.inl ⟨by rfl, ?hya12⟩) hHeld ?resta12
      case hya12 =>
        intro w hSw
        try dsimp only at hSw
        go_simp
        try with_reducible rfl
      try simp only [Act.put, List.setIfInBounds_toArray, List.set_cons_zero, List.set_cons_succ]
      refine wpAnyH_take (i := 13) (oi := { dst := some 77, op := Op.move (Operand.tmp 16), type := 26, pos := "law.go:54", after := #[{ on := 12, ground := Ground.guard }], guard := some (12, false) }) (v := ?_) rfl (by kernel_rfl) (by kernel_rfl) (by kernel_rfl) (fun _ _ _ h => h) (Or.inl ⟨by rfl, ?hya13⟩) hHeld ?resta13
      case hya13 =>
        intro w hSw
        try dsimp only at hSw
        go_simp
        try with_reducible rfl
      try simp only [Act.put, List.setIfInBounds_toArray, List.set_cons_zero, List.set_cons_succ]
      refine wpAnyH_take (i := 14) (oi := { dst := some 78, op := Op.move (Operand.tmp 18), type := 26, pos := "law.go:54", after := #[{ on := 12, ground := Ground.guard }], guard := some (12, false) }) (v := ?_) rfl (by kernel_rfl) (by kernel_rfl) (by kernel_rfl) (fun _ _ _ h => h) (Or.inl ⟨by rfl, ?hya14⟩) hHeld ?resta14
      case hya14 =>
        intro w hSw
        try dsimp only at hSw
        go_simp
        try with_reducible rfl
      try simp only [Act.put, List.setIfInBounds_toArray, List.set_cons_zero, List.set_cons_succ]
      refine wpAnyH_take (i := 15) (oi := { dst := some 79, op := Op.binOp BinOp.neq 26 (Operand.tmp 77) (Operand.tmp 78) 26, type := 4, pos := "law.go:54", after := #[{ on := 13, ground := Ground.data }, { on := 14, ground := Ground.data }, { on := 12, ground := Ground.guard }], guard := some (12, false) }) (v := ?_) rfl (by kernel_rfl) (by kernel_rfl) (by kernel_rfl) (fun _ _ _ h => h) (Or.inl ⟨by rfl, ?hya15⟩) hHeld ?resta15
      case hya15 =>
        intro w hSw
        try dsimp only at hSw
        go_simp
        try with_reducible rfl
      try simp only [Act.put, List.setIfInBounds_toArray, List.set_cons_zero, List.set_cons_succ]
      refine wpAnyH_take (i := 16) (oi := { dst := some 80, op := Op.pick (Operand.tmp 76) (Operand.const (Value.bool true)) (Operand.tmp 79), type := 4, pos := "law.go:54", after := #[{ on := 12, ground := Ground.data }, { on := 15, ground := Ground.data }], guard := none }) (v := ?_) rfl (by kernel_rfl) (by kernel_rfl) (by kernel_rfl) (fun _ _ _ h => h) (Or.inl ⟨by rfl, ?hya16⟩) hHeld ?resta16
      case hya16 =>
        intro w hSw
        try dsimp only at hSw
        go_simp
        try with_reducible rfl
      try simp only [Act.put, List.setIfInBounds_toArray, List.set_cons_zero, List.set_cons_succ]
      refine wpAnyH_done (by kernel_rfl) ?_ _
      replace hB := hB.trans (HX.mono hB.size)
      clear HX HB9
      go_wp2_with fail
      go_roundw
      case rel => exact ⟨.inr (.inr rfl), hB⟩
      case measure => simp [intOf]
    · go_wp2_with fail
      go_ret
      exact ⟨rfl, hB0.out.trans (HB.mono hB0.out.size)⟩

theorem walk_OfficesSpec (a0 a1 : Int) (a2 : Cal) (a3 : Po) (A2 : Option Addr) (c2 : Nat) (w : World) (b0 : -9223372036854775808 ≤ a0 ∧ a0 ≤ 9223372036854775807) (b1 : -9223372036854775808 ≤ a1 ∧ a1 ≤ 9223372036854775807) (no2 : I64 a2.no) (lc2 : a2.fx.length ≤ c2) (fx2 : FxAt w A2 a2.fx) (fi2 : ∀ f ∈ a2.fx, FxI f) (po3 : PoI a3) (hL : Laid w) :
    Calls Tryd.prog 8 #[.int .i64 a0, .int .i64 a1, .agg #[.int .i64 a2.no, .slice A2 a2.fx.length c2], .agg (poA a3)] w fun e w' => e = .returned (.bool true) ∧ Below w.heap.size w w' := by
  cases h : smB a2.fx.length with
  | false => exact ospec_big a0 a1 a2 _ c2 A2 a3 w h hL
  | true => exact ospec_in a0 a1 a2 _ c2 A2 a3 w h rfl lc2 fx2 fi2 po3 hL
end Go.Proofs.YthokpfegfnpmhaaDoor
