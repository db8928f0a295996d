/- The reference's Same of openings; the walk of SealsSpec. -/
import Derived.Test.YtnccbhndlnkboaaDoorTreeR
import Derived.Test.YtnccbhndlnkboaaDoorSealSane
import Derived.Test.YtnccbhndlnkboaaDoorRf1
namespace Go.Proofs.YtnccbhndlnkboaaDoor
open Go.RowKit Go.Shelf Cdc Sha
set_option linter.unusedVariables false
set_option linter.unusedSimpArgs false

set_option maxRecDepth 100000 in
set_option maxHeartbeats 8000000 in
theorem rsame39_any (d y : Int) (b : Bool) (p : List (List UInt8)) (q : Nat) (hq : p.length = q) (hq5 : q ≤ 100000) (h32 : ∀ x ∈ p, x.length = 32) (P P' : Option Addr) (cp cp' : Nat) (w : World) (hA : DsAt w P p) (hB : DsAt w P' p) :
    Calls Tryd.prog 20 #[.agg #[.int .i64 d, .int .i64 y, .bool b, .slice P q cp], .agg #[.int .i64 d, .int .i64 y, .bool b, .slice P' q cp']] w fun e w' => e = .returned (.bool true) ∧ Below w.heap.size w w' := by
  obtain ⟨W2, hW2⟩ : ∃ W2, W2 = ((w.alloc (.cells #[.int .i64 d, .int .i64 y, .bool b, .slice P q cp] 33)).alloc (.cells #[.int .i64 d, .int .i64 y, .bool b, .slice P' q cp'] 33)) := ⟨_, rfl⟩
  have hB2 : Below w.heap.size w W2 := hW2 ▸ ((Below.refl _ w).alloc (Nat.le_refl _) _).alloc (by simp <;> omega) _
  have hS := Lib.hid (rsame7_any p p q q hq5 hq hq P P' cp cp' W2 (hA.below hB2) (hB.below hB2) h32 h32)
  rw [decide_eq_true (rfl : p = p)] at hS
  clear hA hB h32 hq
  replace hB2 := Lib.hid hB2
  cases b <;>
    (go_enter Tryd.func20, Tryd.ntmps20
     go_wp2_with fail
     rw [← hW2]
     refine hS.out.mono ?_
     rintro e w3 ⟨rfl, hb3⟩
     have HF := hB2.out.trans (hb3.mono hB2.out.size)
     clear hW2
     go_wp2_with fail
     go_ret
     exact ⟨rfl, HF⟩)
set_option maxRecDepth 100000 in
set_option maxHeartbeats 8000000 in
theorem sspec_few (t f : Int) (bl : List Bool) (sl : List Int) (d : Int) (nb ns cb c : Nat) (B S : Option Addr) (hnb : bl.length = nb) (hn : sl.length = ns) (hcb : nb ≤ cb) (hc : ns ≤ c) (hxb : nb ≤ maxLen) (hxs : ns ≤ maxLen) (ht : I64 t) (hdI : I64 d) (hsl : ∀ x ∈ sl, I64 x) (w : World) (hB : BoAt w B bl) (hS : InAt w S sl) (hL : Laid w) (hf1 : fewS nb ns = false) : Calls Tryd.prog 4 #[.int .i64 t, .int .i64 f, .slice B nb cb, .slice S ns c, .int .i64 d] w fun e w' => e = .returned (.bool true) ∧ Below w.heap.size w w' := by
  have hSn : Hid (Calls Tryd.prog 14 #[] w fun e w' => e = .returned (.bool true) ∧ Below w.heap.size w w') := Lib.hid (ssane_any w hL)
  clear hnb hn hB hS hL hsl
  go_enter Tryd.func4, Tryd.ntmps4
  go_wp2_with fail
  refine hSn.out.mono ?_
  rintro e w3 ⟨rfl, HB3⟩
  go_wp2_with fail
  refine (rfew39_any nb ns cb c B S w3).mono ?_
  rintro e w4 ⟨rfl, hw4⟩
  have hw4b := hw4.symm
  clear hw4
  subst hw4b
  rw [hf1]
  go_wp2_with fail
  go_ret
  exact ⟨rfl, HB3⟩
set_option maxRecDepth 100000 in
set_option maxHeartbeats 8000000 in
theorem sspec_main (t f : Int) (bl : List Bool) (sl : List Int) (d : Int) (nb ns cb c : Nat) (B S : Option Addr) (hnb : bl.length = nb) (hn : sl.length = ns) (hcb : nb ≤ cb) (hc : ns ≤ c) (hxb : nb ≤ maxLen) (hxs : ns ≤ maxLen) (ht : I64 t) (hdI : I64 d) (hsl : ∀ x ∈ sl, I64 x) (w : World) (hB : BoAt w B bl) (hS : InAt w S sl) (hL : Laid w) (hf1 : fewS nb ns = true) : Calls Tryd.prog 4 #[.int .i64 t, .int .i64 f, .slice B nb cb, .slice S ns c, .int .i64 d] w fun e w' => e = .returned (.bool true) ∧ Below w.heap.size w w' := by
  have hSn : Hid (Calls Tryd.prog 14 #[] w fun e w' => e = .returned (.bool true) ∧ Below w.heap.size w w') := Lib.hid (ssane_any w hL)
  have sI := mkS_I (t := t) (f := f) (bl := bl) hnb hn ht
  have oI := opnO_I (t := t) (f := f) (bl := bl) (nb := nb) (ns := ns) hnb hn hdI hsl
  have hM1 : Hid (∀ V, Below w.heap.size w V → Calls Tryd.prog 16 #[.int .i64 t, .int .i64 f, .slice B nb cb, .slice S ns c] V fun e w' => e = .returned (.tuple #[.agg (slA (mkS t f nb ns bl sl)), .int .i64 (opE t f nb ns sl)]) ∧ Below V.heap.size V w') := Lib.hid fun V hV => make_any t f bl sl nb ns cb c B S hnb hn hcb hc hxb hxs ht hsl V (hB.below hV) (hS.below hV) (hL.below hV)
  have hM2 : Hid (∀ V, Below w.heap.size w V → Calls Tryd.prog 17 #[.int .i64 t, .int .i64 f, .slice B nb cb, .slice S ns c] V fun e w' => e = .returned (.tuple #[.agg (slA (mkS t f nb ns bl sl)), .int .i64 (opE t f nb ns sl)]) ∧ Below V.heap.size V w') := Lib.hid fun V hV => rmake_any t f bl sl nb ns cb c B S hnb hn hcb hc ht hsl V (hB.below hV) (hS.below hV)
  have hO1 : Hid (∀ V, Below w.heap.size w V → Calls Tryd.prog 18 #[.int .i64 t, .int .i64 f, .slice B nb cb, .slice S ns c, .int .i64 d] V (OpnC t f nb ns bl sl d V)) := Lib.hid fun V hV => sopen_any t f bl sl nb ns cb c B S hnb hn hcb hc hxb hxs ht hsl d hdI V (hB.below hV) (hS.below hV) (hL.below hV)
  have hO2 : Hid (∀ V, Below w.heap.size w V → Calls Tryd.prog 19 #[.int .i64 t, .int .i64 f, .slice B nb cb, .slice S ns c, .int .i64 d] V (OpnC t f nb ns bl sl d V)) := Lib.hid fun V hV => ropen_any t f bl sl nb ns cb c B S hnb hn hcb hc ht hsl d hdI V (hB.below hV) (hS.below hV)
  have hpl : (opnO t f nb ns bl sl d).path.length ≤ 100000 := by
    unfold opnO
    by_cases h : opnE t f nb ns sl d = 0
    · rw [if_pos h]
      dsimp only
      have he : opE t f nb ns sl = 0 := by
        by_cases h2 : opE t f nb ns sl = 0
        · exact h2
        · rw [opnE, if_neg h2] at h
          exact h
      obtain ⟨e1, e2, e3, e4⟩ := opE_zero he
      have h3 : hasB f ns d = true := by
        by_cases h2 : hasB f ns d = true
        · exact h2
        · rw [opnE, if_pos he, if_neg h2] at h
          exact absurd h (by decide)
      have hd := of_decide_eq_true e3
      have hh := of_decide_eq_true h3
      rw [pathM_lenM (n := ns) (by rw [lvsD_len (by omega), hn]) (by omega)]
      exact Nat.le_trans (lenM_le ns _) (by omega)
    · rw [if_neg h]
      simp [opZ]
  obtain ⟨S9, hS9⟩ : ∃ S9, mkS t f nb ns bl sl = S9 := ⟨_, rfl⟩
  obtain ⟨E9, hE9⟩ : ∃ E9, opE t f nb ns sl = E9 := ⟨_, rfl⟩
  obtain ⟨O9, hO9⟩ : ∃ O9, opnO t f nb ns bl sl d = O9 := ⟨_, rfl⟩
  obtain ⟨F9, hF9⟩ : ∃ F9, opnE t f nb ns sl d = F9 := ⟨_, rfl⟩
  unfold OpnC at hO1 hO2
  rw [hS9, hE9] at hM1 hM2
  rw [hO9, hF9] at hO1 hO2
  rw [hS9] at sI
  rw [hO9] at oI hpl
  have h32 := oI.path
  obtain ⟨dd, y, b, p⟩ := O9
  dsimp only [opA] at hO1 hO2 h32 hpl
  obtain ⟨q, hq⟩ : ∃ q, p.length = q := ⟨_, rfl⟩
  rw [hq] at hO1 hO2 hpl
  have hSa : Hid (∀ V P P' cp cp', DsAt V P p → DsAt V P' p → Calls Tryd.prog 20 #[.agg #[.int .i64 dd, .int .i64 y, .bool b, .slice P q cp], .agg #[.int .i64 dd, .int .i64 y, .bool b, .slice P' q cp']] V fun e w' => e = .returned (.bool true) ∧ Below V.heap.size V w') := Lib.hid fun V P P' cp cp' h1 h2 => rsame39_any dd y b p q hq hpl h32 P P' cp cp' V h1 h2
  have hEq := eq_sl sI
  have pi := Lib.hid (sl_info (s := S9) sI.root)
  have pl : Hid ((Tryd.prog.info? 25).map (·.size) = some (slC S9).length) := Lib.hid (by have := pi.out; simpa [slA] using this)
  have pz := Lib.hid (show (slA slZ).size = (slA S9).size by rw [slA_size (s := slZ) zero32_len, slA_size (s := S9) sI.root])
  have po := Lib.hid (slA_one S9)
  clear hS9 hE9 hO9 hF9 sI oI h32 hq hpl hnb hn hB hS hL hsl
  go_enter Tryd.func4, Tryd.ntmps4
  go_wp2_with fail
  refine hSn.out.mono ?_
  rintro e w3 ⟨rfl, HB3⟩
  go_wp2_with fail
  refine (rfew39_any nb ns cb c B S w3).mono ?_
  rintro e w4 ⟨rfl, hw4⟩
  have hw4b := hw4.symm
  clear hw4
  subst hw4b
  rw [hf1]
  go_wp2_with fail
  refine (hM1.out _ HB3).mono ?_
  rintro e w5 ⟨rfl, hb5⟩
  have HB5 := Lib.hid (HB3.trans (hb5.mono HB3.size))
  clear hb5 HB3
  go_wp2_with (refine wpList_set_row (by rfl) 25 (.tmp 11) (.tmp 31) (by rfl) (by rfl) w5.heap.size (slA S9) (by rfl) (by rfl) 25 _ (heap_alloc_new w5 _) pi.out pz.out po.out ?_; intro w6 hdw6 hz6 hg6; have hbn := newrow_below hg6; clear hg6 hz6; have HB6 := Lib.hid (HB5.out.trans (hbn.mono HB5.out.size)); clear hbn; replace hdw6 := Lib.hid hdw6)
  refine (hM2.out _ HB6.out).mono ?_
  rintro e w7 ⟨rfl, hb7⟩
  have HB7 := Lib.hid (HB6.out.trans (hb7.mono HB6.out.size))
  have r7 := Lib.hid ((hb7.block _ (Array.getElem?_eq_some_iff.1 hdw6.out).1).trans hdw6.out)
  clear hb7 HB6 hdw6
  go_wp2_with (refine wpList_set_row (by rfl) 25 (.tmp 13) (.tmp 39) (by rfl) (by rfl) w7.heap.size (slA S9) (by rfl) (by rfl) 25 _ (heap_alloc_new w7 _) pi.out pz.out po.out ?_; intro w8 hdw8 hz6 hg6; have hbn := newrow_below hg6; clear hg6 hz6; have HB8 := Lib.hid (HB7.out.trans (hbn.mono HB7.out.size)); have ra8 := Lib.hid ((hbn.block _ (Array.getElem?_eq_some_iff.1 r7.out).1).trans r7.out); clear hbn; replace hdw8 := Lib.hid hdw8)
  refine (hO1.out _ HB8.out).mono ?_
  rintro e w9 ⟨P, cp, rfl, hcp, hds, hb9⟩
  have HB9 := HB8.out.trans (hb9.mono HB8.out.size)
  have ra9 := (hb9.block _ (Array.getElem?_eq_some_iff.1 ra8.out).1).trans ra8.out
  have rb9 := (hb9.block _ (Array.getElem?_eq_some_iff.1 hdw8.out).1).trans hdw8.out
  have hx := blow1 w9 (.cells #[.int .i64 dd, .int .i64 y, .bool b, .slice P q cp] 33)
  have n10 := heap_alloc_new w9 (.cells #[.int .i64 dd, .int .i64 y, .bool b, .slice P q cp] 33)
  obtain ⟨W10, hW10⟩ : ∃ W10, W10 = w9.alloc (.cells #[.int .i64 dd, .int .i64 y, .bool b, .slice P q cp] 33) := ⟨_, rfl⟩
  rw [← hW10] at hx n10
  have HB10 := Lib.hid (HB9.trans (hx.mono HB9.size))
  have ra10 := Lib.hid ((hx.block _ (Array.getElem?_eq_some_iff.1 ra9).1).trans ra9)
  have rb10 := Lib.hid ((hx.block _ (Array.getElem?_eq_some_iff.1 rb9).1).trans rb9)
  have hds10 := Lib.hid (hds.below hx)
  replace n10 := Lib.hid n10
  clear hb9 HB9 HB8 ra8 ra9 rb9 hdw8 hx hds hcp
  go_wp2_with fail
  rw [← hW10]
  refine (hO2.out _ HB10.out).mono ?_
  rintro e w11 ⟨P', cp', rfl, hcp', hds', hb11⟩
  clear hW10
  have HB11 := HB10.out.trans (hb11.mono HB10.out.size)
  have hx := blow1 w11 (.cells #[.int .i64 dd, .int .i64 y, .bool b, .slice P' q cp'] 33)
  have n12 := heap_alloc_new w11 (.cells #[.int .i64 dd, .int .i64 y, .bool b, .slice P' q cp'] 33)
  obtain ⟨W12, hW12⟩ : ∃ W12, W12 = w11.alloc (.cells #[.int .i64 dd, .int .i64 y, .bool b, .slice P' q cp'] 33) := ⟨_, rfl⟩
  rw [← hW12] at hx n12
  have hx2 := hb11.trans (hx.mono hb11.size)
  have HB12 := Lib.hid (HB11.trans (hx.mono HB11.size))
  have ra12 := Lib.hid (row_range7 (cs := slC S9) ((hx2.block _ (Array.getElem?_eq_some_iff.1 ra10.out).1).trans ra10.out))
  have rb12 := Lib.hid (row_range7 (cs := slC S9) ((hx2.block _ (Array.getElem?_eq_some_iff.1 rb10.out).1).trans rb10.out))
  have n12b := (hx2.block _ (Array.getElem?_eq_some_iff.1 n10.out).1).trans n10.out
  have hda := Lib.hid (hds10.out.below hx2)
  have hdb := Lib.hid (hds'.below hx)
  have x0 : W12.cell? ⟨w9.heap.size, 0, none⟩ = some (.int .i64 dd) := by rw [cell_of_row _ _ _ _ _ _ n12b]; rfl
  have x1 : W12.cell? ⟨w9.heap.size, 1, none⟩ = some (.int .i64 y) := by rw [cell_of_row _ _ _ _ _ _ n12b]; rfl
  have x2 : W12.cell? ⟨w9.heap.size, 2, none⟩ = some (.bool b) := by rw [cell_of_row _ _ _ _ _ _ n12b]; rfl
  have x3 : W12.cell? ⟨w9.heap.size, 3, none⟩ = some (.slice P q cp) := by rw [cell_of_row _ _ _ _ _ _ n12b]; rfl
  have y0 : W12.cell? ⟨w11.heap.size, 0, none⟩ = some (.int .i64 dd) := by rw [cell_of_row _ _ _ _ _ _ n12]; rfl
  have y1 : W12.cell? ⟨w11.heap.size, 1, none⟩ = some (.int .i64 y) := by rw [cell_of_row _ _ _ _ _ _ n12]; rfl
  have y2 : W12.cell? ⟨w11.heap.size, 2, none⟩ = some (.bool b) := by rw [cell_of_row _ _ _ _ _ _ n12]; rfl
  have y3 : W12.cell? ⟨w11.heap.size, 3, none⟩ = some (.slice P' q cp') := by rw [cell_of_row _ _ _ _ _ _ n12]; rfl
  replace hW12 := Lib.hid hW12
  clear hb11 HB11 HB10 ra10 rb10 n10 n12 n12b hx hx2 hds10 hds' hcp'
  go_wp2_with (first
    | (rw [← hW12.out]; refine wpList_load_mid (by rfl) 25 (.tmp 11) (by rfl) w5.heap.size 0 (by rfl) (slC S9) _ ra12.out Tryd.underlying25 (by rfl) pl.out ?_)
    | (refine wpList_load_mid (by rfl) 25 (.tmp 13) (by rfl) w7.heap.size 0 (by rfl) (slC S9) _ rb12.out Tryd.underlying25 (by rfl) pl.out ?_))
  refine (hSa.out _ _ _ _ _ hda.out hdb.out).mono ?_
  rintro e w13 ⟨rfl, hb13⟩
  have HF := Lib.hid (HB12.out.trans (hb13.mono HB12.out.size))
  clear hb13 x0 x1 x2 x3 y0 y1 y2 y3
  go_wp2_with fail
  go_ret
  exact ⟨rfl, HF.out⟩
theorem sspec_any (t f : Int) (bl : List Bool) (sl : List Int) (d : Int) (nb ns cb c : Nat) (B S : Option Addr) (hnb : bl.length = nb) (hn : sl.length = ns) (hcb : nb ≤ cb) (hc : ns ≤ c) (hxb : nb ≤ maxLen) (hxs : ns ≤ maxLen) (ht : I64 t) (hdI : I64 d) (hsl : ∀ x ∈ sl, I64 x) (w : World) (hB : BoAt w B bl) (hS : InAt w S sl) (hL : Laid w) : Calls Tryd.prog 4 #[.int .i64 t, .int .i64 f, .slice B nb cb, .slice S ns c, .int .i64 d] w fun e w' => e = .returned (.bool true) ∧ Below w.heap.size w w' := by
  by_cases hf : fewS nb ns = true
  · exact sspec_main t f bl sl d nb ns cb c B S hnb hn hcb hc hxb hxs ht hdI hsl w hB hS hL hf
  · exact sspec_few t f bl sl d nb ns cb c B S hnb hn hcb hc hxb hxs ht hdI hsl w hB hS hL (by simpa using hf)
end Go.Proofs.YtnccbhndlnkboaaDoor
