/- The walk of fastilaw39.sane. -/
import Derived.Test.YtnccbhndlnkboaaDoorSealM
namespace Go.Proofs.YtnccbhndlnkboaaDoor
open Go.RowKit Go.Shelf Cdc Sha
set_option linter.unusedVariables false
set_option linter.unusedSimpArgs false

theorem row_range {W : World} {g : Nat} {cs : List Value} {t : TypeId} {fr : Nat × Nat} (h : W.heap[g]? = some (.cells cs.toArray t fr)) : W.rangeAt g 0 cs := fun j v hj => by
  rw [cell_of_row _ _ _ _ _ _ h, Nat.zero_add]
  simpa using hj
theorem bo_row {W : World} {g : Nat} {bl : List Bool} {t : TypeId} {fr : Nat × Nat} (h : W.heap[g]? = some (.cells (bl.map Value.bool).toArray t fr)) : BoAt W (some ⟨g, 0, none⟩) bl := fun i b hi => ⟨g, 0, rfl, by
  rw [Nat.zero_add, cell_of_row _ _ _ _ _ _ h]
  simp [hi]⟩
theorem in_row {W : World} {g : Nat} {sl : List Int} {t : TypeId} {fr : Nat × Nat} (h : W.heap[g]? = some (.cells (sl.map (Value.int .i64)).toArray t fr)) : InAt W (some ⟨g, 0, none⟩) sl := fun i b hi => ⟨g, 0, rfl, by
  rw [Nat.zero_add, cell_of_row _ _ _ _ _ _ h]
  simp [hi]⟩
theorem bo_nil (W : World) : BoAt W none [] := fun i b hi => by simp at hi
theorem in_nil (W : World) : InAt W none [] := fun i b hi => by simp at hi
theorem newrow_below {w2 w3 : World} {X : Obj} (hg : (w2.alloc X).grownBy w3 (some w2.heap.size)) : Below w2.heap.size w2 w3 :=
  ((Below.refl _ _).alloc (Nat.le_refl _) X).grown hg (by simp) (fun k e => by have := Option.some.inj e; omega)
theorem sane_i : ∀ x ∈ [(7 : Int), 9], I64 x := fun x hx => by simp at hx; rcases hx with rfl | rfl <;> exact ⟨by omega, by omega⟩
/-- the seal and the opening of the chapter's example -/
theorem sane_facts : ∃ (r : List UInt8) (p : List (List UInt8)), r.length = 32 ∧ p.length = 1 ∧ (∀ d ∈ p, d.length = 32) ∧ mkS 3 5 2 2 [false, true] [7, 9] = ⟨3, 5, 2, r⟩ ∧ opnO 3 5 2 2 [false, true] [7, 9] 6 = ⟨6, 9, true, p⟩ ∧ chkS ⟨3, 5, 2, r⟩ ⟨6, 9, true, p⟩ = true := by
  have he : opnE 3 5 2 2 [7, 9] 6 = 0 := by decide
  have h1 := chk_opened (t := 3) (f := 5) (d := 6) (nb := 2) (ns := 2) (bl := [false, true]) (sl := [7, 9]) rfl rfl he
  have h2 : opE 3 5 2 2 [7, 9] = 0 := by decide
  have hS : mkS 3 5 2 2 [false, true] [7, 9] = ⟨3, 5, 2, rootM ((lvs 3 5 [false, true] [7, 9]).map lfD)⟩ := if_pos h2
  have hO : opnO 3 5 2 2 [false, true] [7, 9] 6 = ⟨6, 9, true, pathM ((lvs 3 5 [false, true] [7, 9]).map lfD) 1⟩ := if_pos he
  rw [hS, hO] at h1
  exact ⟨_, _, rootM_len 2 _ rfl (lvsD_ne rfl (by decide)) lvsD_32, by rw [pathM_lenM (n := 2) rfl (by decide), lenM_big (by decide), lenM_one (by decide)]; rfl, pathM_all 2 _ _ rfl lvsD_32, hS, hO, h1⟩

set_option maxRecDepth 100000 in
set_option maxHeartbeats 8000000 in
theorem ssane_any (w : World) (hL : Laid w) : Calls Tryd.prog 14 #[] w fun e w' => e = .returned (.bool true) ∧ Below w.heap.size w w' := by
  obtain ⟨r, p, hr, hp1, hp32, hS, hO, hck⟩ := sane_facts
  have hB2 : Below w.heap.size w ((w.alloc (.cells #[.bool false, .bool true] 4)).alloc (.cells #[.int .i64 7, .int .i64 9] 3)) := ((Below.refl _ _).alloc (Nat.le_refl _) _).alloc (by simp) _
  have r2 := heap_alloc_new (w.alloc (.cells #[.bool false, .bool true] 4)) (.cells #[.int .i64 7, .int .i64 9] 3)
  have r1 := (Below.heap_alloc (w.alloc (.cells #[.bool false, .bool true] 4)) (.cells #[.int .i64 7, .int .i64 9] 3) w.heap.size (by simp)).trans (heap_alloc_new w (.cells #[.bool false, .bool true] 4))
  rw [World.size_alloc] at r2
  obtain ⟨W2, hW2⟩ : ∃ W2, W2 = ((w.alloc (.cells #[.bool false, .bool true] 4)).alloc (.cells #[.int .i64 7, .int .i64 9] 3)) := ⟨_, rfl⟩
  rw [← hW2] at r1 r2 hB2
  have hbo := bo_row (bl := [false, true]) r1
  have hin := in_row (sl := [7, 9]) r2
  have hx2 : (2 : Nat) ≤ maxLen := by decide
  have hx1 : (1 : Nat) ≤ maxLen := by decide
  have hx0 : (0 : Nat) ≤ maxLen := by decide
  have M1 : Hid (∀ V, Below W2.heap.size W2 V → Calls Tryd.prog 16 #[.int .i64 3, .int .i64 5, .slice (some ⟨w.heap.size, 0, none⟩) 2 2, .slice (some ⟨w.heap.size + 1, 0, none⟩) 2 2] V fun e w' => e = .returned (.tuple #[.agg (slA ⟨3, 5, 2, r⟩), .int .i64 0]) ∧ Below V.heap.size V w') := Lib.hid fun V hV => by
    have := make_any 3 5 [false, true] [7, 9] 2 2 2 2 (some ⟨w.heap.size, 0, none⟩) (some ⟨w.heap.size + 1, 0, none⟩) rfl rfl (by decide) (by decide) hx2 hx2 ⟨by omega, by omega⟩ sane_i V (hbo.below hV) (hin.below hV) (hL.below (hB2.trans (hV.mono hB2.size)))
    rw [hS] at this
    exact this
  have M2 : Hid (∀ V, Below W2.heap.size W2 V → Calls Tryd.prog 18 #[.int .i64 3, .int .i64 5, .slice (some ⟨w.heap.size, 0, none⟩) 2 2, .slice (some ⟨w.heap.size + 1, 0, none⟩) 2 2, .int .i64 6] V fun e w' => ∃ (P : Option Addr) (cp : Nat), e = .returned (.tuple #[.agg #[.int .i64 6, .int .i64 9, .bool true, .slice P 1 cp], .int .i64 0]) ∧ 1 ≤ cp ∧ DsAt w' P p ∧ Below V.heap.size V w') := Lib.hid fun V hV => by
    have := sopen_any 3 5 [false, true] [7, 9] 2 2 2 2 (some ⟨w.heap.size, 0, none⟩) (some ⟨w.heap.size + 1, 0, none⟩) rfl rfl (by decide) (by decide) hx2 hx2 ⟨by omega, by omega⟩ sane_i 6 ⟨by omega, by omega⟩ V (hbo.below hV) (hin.below hV) (hL.below (hB2.trans (hV.mono hB2.size)))
    unfold OpnC at this
    rw [hO, show opnE 3 5 2 2 [7, 9] 6 = 0 by decide] at this
    refine this.mono fun e w' h => ?_
    obtain ⟨P, cp, h1, h2, h3, h4⟩ := h
    rw [lenA, hp1] at h1
    rw [hp1] at h2
    exact ⟨P, cp, h1, h2, h3, h4⟩
  have M3 : Hid (∀ V B S, Below W2.heap.size W2 V → BoAt V B [true] → InAt V S [0] → Calls Tryd.prog 16 #[.int .i64 64, .int .i64 0, .slice B 1 1, .slice S 1 1] V fun e w' => e = .returned (.tuple #[.agg (slA slZ), .int .i64 390]) ∧ Below V.heap.size V w') := Lib.hid fun V B S hV h1 h2 => make_any 64 0 [true] [0] 1 1 1 1 B S rfl rfl (by decide) (by decide) hx1 hx1 ⟨by omega, by omega⟩ (fun x hx => by simp at hx; subst hx; exact i64_zero) V h1 h2 (hL.below (hB2.trans (hV.mono hB2.size)))
  have M4 : Hid (∀ V, Below W2.heap.size W2 V → Calls Tryd.prog 16 #[.int .i64 0, .int .i64 73048, .slice (some ⟨w.heap.size, 0, none⟩) 2 2, .slice (some ⟨w.heap.size + 1, 0, none⟩) 2 2] V fun e w' => e = .returned (.tuple #[.agg (slA slZ), .int .i64 390]) ∧ Below V.heap.size V w') := Lib.hid fun V hV => make_any 0 73048 [false, true] [7, 9] 2 2 2 2 (some ⟨w.heap.size, 0, none⟩) (some ⟨w.heap.size + 1, 0, none⟩) rfl rfl (by decide) (by decide) hx2 hx2 ⟨by omega, by omega⟩ sane_i V (hbo.below hV) (hin.below hV) (hL.below (hB2.trans (hV.mono hB2.size)))
  have M5 : Hid (∀ V, Below W2.heap.size W2 V → Calls Tryd.prog 16 #[.int .i64 0, .int .i64 0, .slice none 0 0, .slice none 0 0] V fun e w' => e = .returned (.tuple #[.agg (slA slZ), .int .i64 390]) ∧ Below V.heap.size V w') := Lib.hid fun V hV => make_any 0 0 [] [] 0 0 0 0 none none rfl rfl (by decide) (by decide) hx0 hx0 ⟨by omega, by omega⟩ (fun x hx => by simp at hx) V (bo_nil _) (in_nil _) (hL.below (hB2.trans (hV.mono hB2.size)))
  have M6 : Hid (∀ V, Below W2.heap.size W2 V → Calls Tryd.prog 18 #[.int .i64 0, .int .i64 5, .slice (some ⟨w.heap.size, 0, none⟩) 2 2, .slice (some ⟨w.heap.size + 1, 0, none⟩) 2 2, .int .i64 7] V fun e w' => ∃ (P : Option Addr) (cp : Nat), e = .returned (.tuple #[.agg #[.int .i64 0, .int .i64 0, .bool false, .slice P 0 cp], .int .i64 1]) ∧ Below V.heap.size V w') := Lib.hid fun V hV => by
    have := sopen_any 0 5 [false, true] [7, 9] 2 2 2 2 (some ⟨w.heap.size, 0, none⟩) (some ⟨w.heap.size + 1, 0, none⟩) rfl rfl (by decide) (by decide) hx2 hx2 ⟨by omega, by omega⟩ sane_i 7 ⟨by omega, by omega⟩ V (hbo.below hV) (hin.below hV) (hL.below (hB2.trans (hV.mono hB2.size)))
    unfold OpnC at this
    rw [show opnO 0 5 2 2 [false, true] [7, 9] 7 = opZ from rfl, show opnE 0 5 2 2 [7, 9] 7 = 1 by decide] at this
    refine this.mono fun e w' h => ?_
    obtain ⟨P, cp, h1, h2, h3, h4⟩ := h
    exact ⟨P, cp, h1, h4⟩
  have sI : SlI ⟨3, 5, 2, r⟩ := ⟨⟨by dsimp only; omega, by dsimp only; omega⟩, ⟨by dsimp only; omega, by dsimp only; omega⟩, ⟨by dsimp only; omega, by dsimp only; omega⟩, hr⟩
  have zI : SlI slZ := ⟨i64_zero, i64_zero, i64_zero, zero32_len⟩
  have oI : OpI ⟨6, 9, true, p⟩ := ⟨⟨by dsimp only; omega, by dsimp only; omega⟩, ⟨by dsimp only; omega, by dsimp only; omega⟩, hp32⟩
  have o4I : OpI ⟨4, 9, true, p⟩ := ⟨⟨by dsimp only; omega, by dsimp only; omega⟩, ⟨by dsimp only; omega, by dsimp only; omega⟩, hp32⟩
  have k4 : chkS ⟨3, 5, 2, r⟩ ⟨4, 9, true, p⟩ = false := rfl
  have kz : chkS slZ ⟨6, 9, true, p⟩ = false := rfl
  have C1 : Hid (∀ V P cp, Below W2.heap.size W2 V → 1 ≤ cp → DsAt V P p → Calls Tryd.prog 23 #[.agg (slC ⟨3, 5, 2, r⟩).toArray, .agg #[.int .i64 6, .int .i64 9, .bool true, .slice P 1 cp]] V fun e w' => e = .returned (.bool true) ∧ Below V.heap.size V w') := Lib.hid fun V P cp hV hc hd => by
    have := scheck_any ⟨3, 5, 2, r⟩ sI ⟨6, 9, true, p⟩ oI 1 hp1 P cp hc (by decide) V hd (hL.below (hB2.trans (hV.mono hB2.size)))
    rw [hck] at this
    exact this
  have C2 : Hid (∀ V P cp, Below W2.heap.size W2 V → 1 ≤ cp → DsAt V P p → Calls Tryd.prog 23 #[.agg (slC ⟨3, 5, 2, r⟩).toArray, .agg #[.int .i64 4, .int .i64 9, .bool true, .slice P 1 cp]] V fun e w' => e = .returned (.bool false) ∧ Below V.heap.size V w') := Lib.hid fun V P cp hV hc hd => by
    have := scheck_any ⟨3, 5, 2, r⟩ sI ⟨4, 9, true, p⟩ o4I 1 hp1 P cp hc (by decide) V hd (hL.below (hB2.trans (hV.mono hB2.size)))
    rw [k4] at this
    exact this
  have C3 : Hid (∀ V P cp, Below W2.heap.size W2 V → 1 ≤ cp → DsAt V P p → Calls Tryd.prog 23 #[.agg (slA slZ), .agg #[.int .i64 6, .int .i64 9, .bool true, .slice P 1 cp]] V fun e w' => e = .returned (.bool false) ∧ Below V.heap.size V w') := Lib.hid fun V P cp hV hc hd => by
    have := scheck_any slZ zI ⟨6, 9, true, p⟩ oI 1 hp1 P cp hc (by decide) V hd (hL.below (hB2.trans (hV.mono hB2.size)))
    rw [kz] at this
    exact this
  have C4 : Hid (∀ V P cp, Below W2.heap.size W2 V → 1 ≤ cp → DsAt V P p → Calls Tryd.prog 21 #[.agg (slC ⟨3, 5, 2, r⟩).toArray, .agg #[.int .i64 6, .int .i64 9, .bool true, .slice P 1 cp], .agg #[.int .i64 6, .int .i64 9, .bool true, .slice P 1 cp]] V fun e w' => e = .returned (.tuple #[.slice none 0 0, .slice none 0 0, .bool false]) ∧ Below V.heap.size V w') := Lib.hid fun V P cp hV hc hd => sclash_no ⟨3, 5, 2, r⟩ sI ⟨6, 9, true, p⟩ ⟨6, 9, true, p⟩ oI oI 1 1 hp1 hp1 P P cp cp hc hc (by decide) (by decide) V hd hd (hL.below (hB2.trans (hV.mono hB2.size))) (by simp [clG])
  have pi := Lib.hid (sl_info (s := ⟨3, 5, 2, r⟩) hr)
  have pl : Hid ((Tryd.prog.info? 25).map (·.size) = some (slC ⟨3, 5, 2, r⟩).length) := Lib.hid (by have := pi.out; simpa [slA] using this)
  have pz := Lib.hid (show (slA slZ).size = (slA ⟨3, 5, 2, r⟩).size by rw [slA_size (s := slZ) zero32_len, slA_size (s := ⟨3, 5, 2, r⟩) hr])
  have po := Lib.hid (slA_one ⟨3, 5, 2, r⟩)
  have qi := Lib.hid (sl_info (s := slZ) zero32_len)
  have qo := Lib.hid (slA_one slZ)
  clear hS hO hck hp32 sI zI oI o4I k4 kz hx0 hx1 hx2 hbo hin r1 r2 hL hp1 hr
  replace hB2 := Lib.hid hB2
  go_enter Tryd.func14, Tryd.ntmps14
  go_wp2_with fail
  rw [← hW2]
  have HB := Below.refl W2.heap.size W2
  refine (M1.out _ HB).mono ?_
  rintro e w3 ⟨rfl, hb⟩
  replace HB := HB.trans (hb.mono HB.size)
  clear hb
  go_wp2_with (refine wpList_set_row (by rfl) 25 (.tmp 3) (.tmp 26) (by rfl) (by rfl) w3.heap.size (slA ⟨3, 5, 2, r⟩) (by rfl) (by rfl) 25 _ (heap_alloc_new w3 _) pi.out pz.out po.out ?_; intro w4 hd hz hg; have hbn := newrow_below hg; clear hg hz)
  replace hd := Lib.hid hd
  replace HB := HB.trans (hbn.mono HB.size)
  clear hbn
  have hs := hd
  clear hd
  refine (M2.out _ HB).mono ?_
  rintro e w5 ⟨P, cp, rfl, hcp, hds, hb⟩
  have hs_ := Lib.hid ((hb.block _ (Array.getElem?_eq_some_iff.1 hs.out).1).trans hs.out)
  clear hs
  have hs := hs_
  clear hs_
  replace HB := HB.trans (hb.mono HB.size)
  clear hb
  replace hds := Lib.hid hds
  go_wp2_with fail
  have n0 := heap_alloc_new w5 (.cells #[.int .i64 6, .int .i64 9, .bool true, .slice P 1 cp] 33)
  have n1 := heap_alloc_new (w5.alloc (.cells #[.int .i64 6, .int .i64 9, .bool true, .slice P 1 cp] 33)) (.cells #[.bool true] 4)
  have n2 := heap_alloc_new ((w5.alloc (.cells #[.int .i64 6, .int .i64 9, .bool true, .slice P 1 cp] 33)).alloc (.cells #[.bool true] 4)) (.cells #[.int .i64 0] 3)
  have hb : Below w5.heap.size w5 (((w5.alloc (.cells #[.int .i64 6, .int .i64 9, .bool true, .slice P 1 cp] 33)).alloc (.cells #[.bool true] 4)).alloc (.cells #[.int .i64 0] 3)) := ((((Below.refl _ _).alloc (Nat.le_refl _) _).alloc (by simp) _).alloc (by simp; omega) _)
  replace n0 := (Below.heap_alloc (w5.alloc (.cells #[.int .i64 6, .int .i64 9, .bool true, .slice P 1 cp] 33)) (.cells #[.bool true] 4) _ (by simp)).trans n0
  replace n0 := (Below.heap_alloc ((w5.alloc (.cells #[.int .i64 6, .int .i64 9, .bool true, .slice P 1 cp] 33)).alloc (.cells #[.bool true] 4)) (.cells #[.int .i64 0] 3) _ (by simp; omega)).trans n0
  replace n1 := (Below.heap_alloc ((w5.alloc (.cells #[.int .i64 6, .int .i64 9, .bool true, .slice P 1 cp] 33)).alloc (.cells #[.bool true] 4)) (.cells #[.int .i64 0] 3) _ (by simp)).trans n1
  simp only [World.size_alloc] at n0 n1 n2
  generalize ((w5.alloc (.cells #[.int .i64 6, .int .i64 9, .bool true, .slice P 1 cp] 33)).alloc (.cells #[.bool true] 4)).alloc (.cells #[.int .i64 0] 3) = w6 at *
  have hs_ := Lib.hid ((hb.block _ (Array.getElem?_eq_some_iff.1 hs.out).1).trans hs.out)
  clear hs
  have hs := hs_
  clear hs_
  have hds_ := Lib.hid (hds.out.below hb)
  clear hds
  have hds := hds_
  clear hds_
  replace HB := HB.trans (hb.mono HB.size)
  clear hb
  have ho := Lib.hid n0
  clear n0
  have h1 := Lib.hid n1
  clear n1
  have h2 := Lib.hid n2
  clear n2
  refine (M3.out _ (some ⟨w5.heap.size + 1, 0, none⟩) (some ⟨w5.heap.size + 1 + 1, 0, none⟩) HB (bo_row (bl := [true]) h1.out) (in_row (sl := [0]) h2.out)).mono ?_
  rintro e w7 ⟨rfl, hb⟩
  have hs_ := Lib.hid ((hb.block _ (Array.getElem?_eq_some_iff.1 hs.out).1).trans hs.out)
  clear hs
  have hs := hs_
  clear hs_
  have ho_ := Lib.hid ((hb.block _ (Array.getElem?_eq_some_iff.1 ho.out).1).trans ho.out)
  clear ho
  have ho := ho_
  clear ho_
  have h1_ := Lib.hid ((hb.block _ (Array.getElem?_eq_some_iff.1 h1.out).1).trans h1.out)
  clear h1
  have h1 := h1_
  clear h1_
  have h2_ := Lib.hid ((hb.block _ (Array.getElem?_eq_some_iff.1 h2.out).1).trans h2.out)
  clear h2
  have h2 := h2_
  clear h2_
  have hds_ := Lib.hid (hds.out.below hb)
  clear hds
  have hds := hds_
  clear hds_
  replace HB := HB.trans (hb.mono HB.size)
  clear hb
  clear h1 h2
  go_wp2_with (refine wpList_set_row (by rfl) 25 (.tmp 7) (.tmp 38) (by rfl) (by rfl) w7.heap.size (slA slZ) (by rfl) (by rfl) 25 _ (heap_alloc_new w7 _) qi.out rfl qo.out ?_; intro w8 hd hz hg; have hbn := newrow_below hg; clear hg hz)
  have hs_ := Lib.hid ((hbn.block _ (Array.getElem?_eq_some_iff.1 hs.out).1).trans hs.out)
  clear hs
  have hs := hs_
  clear hs_
  have ho_ := Lib.hid ((hbn.block _ (Array.getElem?_eq_some_iff.1 ho.out).1).trans ho.out)
  clear ho
  have ho := ho_
  clear ho_
  have hds_ := Lib.hid (hds.out.below hbn)
  clear hds
  have hds := hds_
  clear hds_
  replace HB := HB.trans (hbn.mono HB.size)
  clear hbn hd
  refine (M4.out _ HB).mono ?_
  rintro e w9 ⟨rfl, hb⟩
  have hs_ := Lib.hid ((hb.block _ (Array.getElem?_eq_some_iff.1 hs.out).1).trans hs.out)
  clear hs
  have hs := hs_
  clear hs_
  have ho_ := Lib.hid ((hb.block _ (Array.getElem?_eq_some_iff.1 ho.out).1).trans ho.out)
  clear ho
  have ho := ho_
  clear ho_
  have hds_ := Lib.hid (hds.out.below hb)
  clear hds
  have hds := hds_
  clear hds_
  replace HB := HB.trans (hb.mono HB.size)
  clear hb
  go_wp2_with (refine wpList_set_row (by rfl) 25 (.tmp 9) (.tmp 44) (by rfl) (by rfl) w9.heap.size (slA slZ) (by rfl) (by rfl) 25 _ (heap_alloc_new w9 _) qi.out rfl qo.out ?_; intro w10 hd hz hg; have hbn := newrow_below hg; clear hg hz)
  have hs_ := Lib.hid ((hbn.block _ (Array.getElem?_eq_some_iff.1 hs.out).1).trans hs.out)
  clear hs
  have hs := hs_
  clear hs_
  have ho_ := Lib.hid ((hbn.block _ (Array.getElem?_eq_some_iff.1 ho.out).1).trans ho.out)
  clear ho
  have ho := ho_
  clear ho_
  have hds_ := Lib.hid (hds.out.below hbn)
  clear hds
  have hds := hds_
  clear hds_
  replace HB := HB.trans (hbn.mono HB.size)
  clear hbn hd
  refine (M5.out _ HB).mono ?_
  rintro e w11 ⟨rfl, hb⟩
  have hs_ := Lib.hid ((hb.block _ (Array.getElem?_eq_some_iff.1 hs.out).1).trans hs.out)
  clear hs
  have hs := hs_
  clear hs_
  have ho_ := Lib.hid ((hb.block _ (Array.getElem?_eq_some_iff.1 ho.out).1).trans ho.out)
  clear ho
  have ho := ho_
  clear ho_
  have hds_ := Lib.hid (hds.out.below hb)
  clear hds
  have hds := hds_
  clear hds_
  replace HB := HB.trans (hb.mono HB.size)
  clear hb
  go_wp2_with (refine wpList_set_row (by rfl) 25 (.tmp 11) (.tmp 48) (by rfl) (by rfl) w11.heap.size (slA slZ) (by rfl) (by rfl) 25 _ (heap_alloc_new w11 _) qi.out rfl qo.out ?_; intro w12 hd hz hg; have hbn := newrow_below hg; clear hg hz)
  have hs_ := Lib.hid ((hbn.block _ (Array.getElem?_eq_some_iff.1 hs.out).1).trans hs.out)
  clear hs
  have hs := hs_
  clear hs_
  have ho_ := Lib.hid ((hbn.block _ (Array.getElem?_eq_some_iff.1 ho.out).1).trans ho.out)
  clear ho
  have ho := ho_
  clear ho_
  have hds_ := Lib.hid (hds.out.below hbn)
  clear hds
  have hds := hds_
  clear hds_
  replace HB := HB.trans (hbn.mono HB.size)
  clear hbn hd
  refine (M6.out _ HB).mono ?_
  rintro e w13 ⟨P0, cp0, rfl, hb⟩
  have hs_ := Lib.hid ((hb.block _ (Array.getElem?_eq_some_iff.1 hs.out).1).trans hs.out)
  clear hs
  have hs := hs_
  clear hs_
  have ho_ := Lib.hid ((hb.block _ (Array.getElem?_eq_some_iff.1 ho.out).1).trans ho.out)
  clear ho
  have ho := ho_
  clear ho_
  have hds_ := Lib.hid (hds.out.below hb)
  clear hds
  have hds := hds_
  clear hds_
  replace HB := HB.trans (hb.mono HB.size)
  clear hb
  have hon := Lib.hid ((Below.heap_alloc w13 (.cells #[.int .i64 0, .int .i64 0, .bool false, .slice P0 0 cp0] 33) _ (Array.getElem?_eq_some_iff.1 ho.out).1).trans ho.out)
  have hsn := Lib.hid ((Below.heap_alloc w13 (.cells #[.int .i64 0, .int .i64 0, .bool false, .slice P0 0 cp0] 33) _ (Array.getElem?_eq_some_iff.1 hs.out).1).trans hs.out)
  have y0 : (w13.alloc (.cells #[.int .i64 0, .int .i64 0, .bool false, .slice P0 0 cp0] 33)).cell? ⟨w5.heap.size, 0, none⟩ = some (.int .i64 6) := by rw [cell_of_row _ _ _ _ _ _ hon.out]; rfl
  have y1 : (w13.alloc (.cells #[.int .i64 0, .int .i64 0, .bool false, .slice P0 0 cp0] 33)).cell? ⟨w5.heap.size, 1, none⟩ = some (.int .i64 9) := by rw [cell_of_row _ _ _ _ _ _ hon.out]; rfl
  have y2 : (w13.alloc (.cells #[.int .i64 0, .int .i64 0, .bool false, .slice P0 0 cp0] 33)).cell? ⟨w5.heap.size, 2, none⟩ = some (.bool true) := by rw [cell_of_row _ _ _ _ _ _ hon.out]; rfl
  have y3 : (w13.alloc (.cells #[.int .i64 0, .int .i64 0, .bool false, .slice P0 0 cp0] 33)).cell? ⟨w5.heap.size, 3, none⟩ = some (.slice P 1 cp) := by rw [cell_of_row _ _ _ _ _ _ hon.out]; rfl
  go_wp2_with (refine wpList_load_midG (by rfl) 25 (.tmp 3) (by rfl) w3.heap.size 0 (by rfl) (slC ⟨3, 5, 2, r⟩) _ (row_range hsn.out) Tryd.underlying25 (by rfl) pl.out ?_)
  clear hon hsn
  clear y0 y1 y2 y3
  have n0 := heap_alloc_new w13 (.cells #[.int .i64 0, .int .i64 0, .bool false, .slice P0 0 cp0] 33)
  have hb : Below w13.heap.size w13 (w13.alloc (.cells #[.int .i64 0, .int .i64 0, .bool false, .slice P0 0 cp0] 33)) := ((Below.refl _ _).alloc (Nat.le_refl _) _)
  generalize w13.alloc (.cells #[.int .i64 0, .int .i64 0, .bool false, .slice P0 0 cp0] 33) = w14 at *
  have hs_ := Lib.hid ((hb.block _ (Array.getElem?_eq_some_iff.1 hs.out).1).trans hs.out)
  clear hs
  have hs := hs_
  clear hs_
  have ho_ := Lib.hid ((hb.block _ (Array.getElem?_eq_some_iff.1 ho.out).1).trans ho.out)
  clear ho
  have ho := ho_
  clear ho_
  have hds_ := Lib.hid (hds.out.below hb)
  clear hds
  have hds := hds_
  clear hds_
  replace HB := HB.trans (hb.mono HB.size)
  clear hb
  clear n0
  refine (C1.out _ P cp HB hcp hds.out).mono ?_
  rintro e w15 ⟨rfl, hb⟩
  have hs_ := Lib.hid ((hb.block _ (Array.getElem?_eq_some_iff.1 hs.out).1).trans hs.out)
  clear hs
  have hs := hs_
  clear hs_
  have ho_ := Lib.hid ((hb.block _ (Array.getElem?_eq_some_iff.1 ho.out).1).trans ho.out)
  clear ho
  have ho := ho_
  clear ho_
  have hds_ := Lib.hid (hds.out.below hb)
  clear hds
  have hds := hds_
  clear hds_
  replace HB := HB.trans (hb.mono HB.size)
  clear hb
  have y0 : w15.cell? ⟨w5.heap.size, 0, none⟩ = some (.int .i64 6) := by rw [cell_of_row _ _ _ _ _ _ ho.out]; rfl
  have y1 : w15.cell? ⟨w5.heap.size, 1, none⟩ = some (.int .i64 9) := by rw [cell_of_row _ _ _ _ _ _ ho.out]; rfl
  have y2 : w15.cell? ⟨w5.heap.size, 2, none⟩ = some (.bool true) := by rw [cell_of_row _ _ _ _ _ _ ho.out]; rfl
  have y3 : w15.cell? ⟨w5.heap.size, 3, none⟩ = some (.slice P 1 cp) := by rw [cell_of_row _ _ _ _ _ _ ho.out]; rfl
  have hon := Lib.hid ((Below.heap_alloc w15 (.cells #[.int .i64 4, .int .i64 9, .bool true, .slice P 1 cp] 33) _ (Array.getElem?_eq_some_iff.1 ho.out).1).trans ho.out)
  have hsn := Lib.hid ((Below.heap_alloc w15 (.cells #[.int .i64 4, .int .i64 9, .bool true, .slice P 1 cp] 33) _ (Array.getElem?_eq_some_iff.1 hs.out).1).trans hs.out)
  have z0 : (w15.alloc (.cells #[.int .i64 4, .int .i64 9, .bool true, .slice P 1 cp] 33)).cell? ⟨w5.heap.size, 0, none⟩ = some (.int .i64 6) := by rw [cell_of_row _ _ _ _ _ _ hon.out]; rfl
  have z1 : (w15.alloc (.cells #[.int .i64 4, .int .i64 9, .bool true, .slice P 1 cp] 33)).cell? ⟨w5.heap.size, 1, none⟩ = some (.int .i64 9) := by rw [cell_of_row _ _ _ _ _ _ hon.out]; rfl
  have z2 : (w15.alloc (.cells #[.int .i64 4, .int .i64 9, .bool true, .slice P 1 cp] 33)).cell? ⟨w5.heap.size, 2, none⟩ = some (.bool true) := by rw [cell_of_row _ _ _ _ _ _ hon.out]; rfl
  have z3 : (w15.alloc (.cells #[.int .i64 4, .int .i64 9, .bool true, .slice P 1 cp] 33)).cell? ⟨w5.heap.size, 3, none⟩ = some (.slice P 1 cp) := by rw [cell_of_row _ _ _ _ _ _ hon.out]; rfl
  go_wp2_with (refine wpList_load_midG (by rfl) 25 (.tmp 3) (by rfl) w3.heap.size 0 (by rfl) (slC ⟨3, 5, 2, r⟩) _ (row_range hsn.out) Tryd.underlying25 (by rfl) pl.out ?_)
  clear y0 y1 y2 y3
  clear z0 z1 z2 z3 hon hsn
  have n0 := heap_alloc_new w15 (.cells #[.int .i64 4, .int .i64 9, .bool true, .slice P 1 cp] 33)
  have hb : Below w15.heap.size w15 (w15.alloc (.cells #[.int .i64 4, .int .i64 9, .bool true, .slice P 1 cp] 33)) := ((Below.refl _ _).alloc (Nat.le_refl _) _)
  generalize w15.alloc (.cells #[.int .i64 4, .int .i64 9, .bool true, .slice P 1 cp] 33) = w16 at *
  have hs_ := Lib.hid ((hb.block _ (Array.getElem?_eq_some_iff.1 hs.out).1).trans hs.out)
  clear hs
  have hs := hs_
  clear hs_
  have ho_ := Lib.hid ((hb.block _ (Array.getElem?_eq_some_iff.1 ho.out).1).trans ho.out)
  clear ho
  have ho := ho_
  clear ho_
  have hds_ := Lib.hid (hds.out.below hb)
  clear hds
  have hds := hds_
  clear hds_
  replace HB := HB.trans (hb.mono HB.size)
  clear hb
  have h4 := Lib.hid n0
  clear n0
  refine (C4.out _ P cp HB hcp hds.out).mono ?_
  rintro e w17 ⟨rfl, hb⟩
  have hs_ := Lib.hid ((hb.block _ (Array.getElem?_eq_some_iff.1 hs.out).1).trans hs.out)
  clear hs
  have hs := hs_
  clear hs_
  have ho_ := Lib.hid ((hb.block _ (Array.getElem?_eq_some_iff.1 ho.out).1).trans ho.out)
  clear ho
  have ho := ho_
  clear ho_
  have h4_ := Lib.hid ((hb.block _ (Array.getElem?_eq_some_iff.1 h4.out).1).trans h4.out)
  clear h4
  have h4 := h4_
  clear h4_
  have hds_ := Lib.hid (hds.out.below hb)
  clear hds
  have hds := hds_
  clear hds_
  replace HB := HB.trans (hb.mono HB.size)
  clear hb
  have y0 : w17.cell? ⟨w5.heap.size, 0, none⟩ = some (.int .i64 6) := by rw [cell_of_row _ _ _ _ _ _ ho.out]; rfl
  have y1 : w17.cell? ⟨w5.heap.size, 1, none⟩ = some (.int .i64 9) := by rw [cell_of_row _ _ _ _ _ _ ho.out]; rfl
  have y2 : w17.cell? ⟨w5.heap.size, 2, none⟩ = some (.bool true) := by rw [cell_of_row _ _ _ _ _ _ ho.out]; rfl
  have y3 : w17.cell? ⟨w5.heap.size, 3, none⟩ = some (.slice P 1 cp) := by rw [cell_of_row _ _ _ _ _ _ ho.out]; rfl
  have x0 : w17.cell? ⟨w3.heap.size, 0, none⟩ = some (.int .i64 3) := by rw [cell_of_row _ _ _ _ _ _ hs.out]; rfl
  have x1 : w17.cell? ⟨w3.heap.size, 1, none⟩ = some (.int .i64 5) := by rw [cell_of_row _ _ _ _ _ _ hs.out]; rfl
  have x2 : w17.cell? ⟨w3.heap.size, 2, none⟩ = some (.int .i64 2) := by rw [cell_of_row _ _ _ _ _ _ hs.out]; rfl
  have z0 : w17.cell? ⟨w15.heap.size, 0, none⟩ = some (.int .i64 4) := by rw [cell_of_row _ _ _ _ _ _ h4.out]; rfl
  have z1 : w17.cell? ⟨w15.heap.size, 1, none⟩ = some (.int .i64 9) := by rw [cell_of_row _ _ _ _ _ _ h4.out]; rfl
  have z2 : w17.cell? ⟨w15.heap.size, 2, none⟩ = some (.bool true) := by rw [cell_of_row _ _ _ _ _ _ h4.out]; rfl
  have z3 : w17.cell? ⟨w15.heap.size, 3, none⟩ = some (.slice P 1 cp) := by rw [cell_of_row _ _ _ _ _ _ h4.out]; rfl
  go_wp2_with (refine wpList_load_midG (by rfl) 25 (.tmp 3) (by rfl) w3.heap.size 0 (by rfl) (slC ⟨3, 5, 2, r⟩) _ (row_range hs.out) Tryd.underlying25 (by rfl) pl.out ?_)
  clear y0 y1 y2 y3 z0 z1 z2 z3 x0 x1 x2
  refine (C2.out _ P cp HB hcp hds.out).mono ?_
  rintro e w18 ⟨rfl, hb⟩
  have hs_ := Lib.hid ((hb.block _ (Array.getElem?_eq_some_iff.1 hs.out).1).trans hs.out)
  clear hs
  have hs := hs_
  clear hs_
  have ho_ := Lib.hid ((hb.block _ (Array.getElem?_eq_some_iff.1 ho.out).1).trans ho.out)
  clear ho
  have ho := ho_
  clear ho_
  have h4_ := Lib.hid ((hb.block _ (Array.getElem?_eq_some_iff.1 h4.out).1).trans h4.out)
  clear h4
  have h4 := h4_
  clear h4_
  have hds_ := Lib.hid (hds.out.below hb)
  clear hds
  have hds := hds_
  clear hds_
  replace HB := HB.trans (hb.mono HB.size)
  clear hb
  have y0 : w18.cell? ⟨w5.heap.size, 0, none⟩ = some (.int .i64 6) := by rw [cell_of_row _ _ _ _ _ _ ho.out]; rfl
  have y1 : w18.cell? ⟨w5.heap.size, 1, none⟩ = some (.int .i64 9) := by rw [cell_of_row _ _ _ _ _ _ ho.out]; rfl
  have y2 : w18.cell? ⟨w5.heap.size, 2, none⟩ = some (.bool true) := by rw [cell_of_row _ _ _ _ _ _ ho.out]; rfl
  have y3 : w18.cell? ⟨w5.heap.size, 3, none⟩ = some (.slice P 1 cp) := by rw [cell_of_row _ _ _ _ _ _ ho.out]; rfl
  go_wp2_with (refine wpList_buildG (by rfl) 25 #[] (by rfl) (slA slZ) built_slZ ?_)
  refine (C3.out _ P cp HB hcp hds.out).mono ?_
  rintro e w19 ⟨rfl, hb⟩
  have hs_ := Lib.hid ((hb.block _ (Array.getElem?_eq_some_iff.1 hs.out).1).trans hs.out)
  clear hs
  have hs := hs_
  clear hs_
  have ho_ := Lib.hid ((hb.block _ (Array.getElem?_eq_some_iff.1 ho.out).1).trans ho.out)
  clear ho
  have ho := ho_
  clear ho_
  have h4_ := Lib.hid ((hb.block _ (Array.getElem?_eq_some_iff.1 h4.out).1).trans h4.out)
  clear h4
  have h4 := h4_
  clear h4_
  have hds_ := Lib.hid (hds.out.below hb)
  clear hds
  have hds := hds_
  clear hds_
  replace HB := HB.trans (hb.mono HB.size)
  clear hb
  go_wp2_with fail
  go_ret
  exact ⟨rfl, hB2.out.trans (HB.mono hB2.out.size)⟩
end Go.Proofs.YtnccbhndlnkboaaDoor
