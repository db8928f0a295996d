/- The walk of the examples of the statements about offices. -/
import Derived.Test.YthokpfegfnpmhaaDoorOffAnn
import Derived.Test.YthokpfegfnpmhaaDoorOffFind
import Derived.Test.YthokpfegfnpmhaaDoorOffShows
import Derived.Test.YthokpfegfnpmhaaDoorSigA
import Derived.Test.YthokpfegfnpmhaaDoorRVM
namespace Go.Proofs.YthokpfegfnpmhaaDoor
open Go.RowKit Go.Shelf Jac Cdc Sha
set_option linter.unusedVariables false
set_option linter.unusedSimpArgs false

theorem up {w w' : World} {F : World → Prop} (h : Hid (∀ V, Below w.heap.size w V → F V)) (hb : Below w.heap.size w w') : Hid (∀ V, Below w'.heap.size w' V → F V) := Lib.hid fun V hV => h.out V (hb.trans (hV.mono hb.size))
def scal (n : Int) : Cal := ⟨n, [⟨5, 0, 0⟩]⟩
def scalN : Cal := ⟨-1, []⟩
theorem scal_ok : CalOk (scal 3) ∧ CalOk (scal 4) ∧ ¬ CalOk scalN := by decide
theorem scal_fx (n : Int) : ∀ f ∈ (scal n).fx, FxI f := by
  intro f hf
  simp [scal] at hf
  subst hf
  exact ⟨⟨by decide, by decide⟩, ⟨by decide, by decide⟩, ⟨by decide, by decide⟩⟩
theorem fxAt_new (W : World) (k : Nat) (hk : k = W.heap.size) (n : Int) : FxAt (W.alloc (.cells #[.int .i64 5, .int .i64 0, .int .i64 0] 90)) (some ⟨k, 0, none⟩) (scal n).fx := fun i x hx => by
  subst hk
  have hr := heap_alloc_new W (.cells #[.int .i64 5, .int .i64 0, .int .i64 0] 90)
  match i, hx with
  | 0, hx =>
    obtain rfl : (⟨5, 0, 0⟩ : Fx) = x := by simpa [scal] using hx
    exact ⟨W.heap.size, 0, rfl, by simp, by rw [cell_of_row _ _ _ _ _ _ hr]; rfl, by rw [cell_of_row _ _ _ _ _ _ hr]; rfl, by rw [cell_of_row _ _ _ _ _ _ hr]; rfl⟩
  | i + 1, hx => simp [scal] at hx
theorem fxAt_none (W : World) (A : Option Addr) : FxAt W A [] := fun i x hx => by simp at hx
theorem anP_ok {x : Int} {c : Cal} (hx : AnIn x) (hc : CalOk c) : anP x c = poS x c.no (calD c) := if_pos ⟨hx, hc⟩
theorem anP_bad {x : Int} {c : Cal} (h : ¬ (AnIn x ∧ CalOk c)) : anP x c = poZ := if_neg h
/-- what is announced is signed -/
theorem ck_signed {x : Int} {no : Int} {root : List UInt8} (hx : AnIn x) (h0 : 0 ≤ no) (h1 : no ≤ 1048576) : ckP (powC 4 x) (poS x no root) = true := by
  unfold ckP
  have e : poT (poS x no root) = poT ⟨no, root, 0, 0⟩ := rfl
  rw [decide_eq_true (show 0 ≤ (poS x no root).no ∧ (poS x no root).no ≤ 1048576 from ⟨h0, h1⟩), Bool.true_and, e]
  exact vf_right x (poT ⟨no, root, 0, 0⟩) hx.1 hx.2
theorem ck_zero (p : Po) : ckP 0 p = false := by
  have : validB 0 = false := validB_out (by omega)
  unfold ckP vfB
  rw [this]
  simp
theorem cv_self (key : Int) (p : Po) : cvP key p p = false := by simp [cvP]
theorem cv_no {key : Int} {p q : Po} (h : p.no ≠ q.no) : cvP key p q = false := by simp [cvP, h]
theorem find_nil {key : Int} {i j : Nat} {ok : Bool} (h : FindP key [] i j ok) : i = 0 ∧ j = 0 ∧ ok = false := by
  rcases h with ⟨_, _, a, _, ha, _⟩ | ⟨h1, h2, h3, _⟩
  · simp at ha
  · exact ⟨h2, h3, h1⟩

theorem rkey_any (x : Int) (w : World) :
    Calls Tryd.prog 36 #[.int .i64 x] w fun e w' => e = .returned (.int .i64 (powC 4 x)) ∧ w' = w := by
  go_enter Tryd.func36, Tryd.ntmps36
  go_wp2_with fail
  refine (rpow_any _ _ _).mono ?_
  rintro e w1 ⟨rfl, rfl⟩
  go_wp2_with fail
  go_ret
  exact ⟨rfl, rfl⟩

set_option maxRecDepth 100000 in
set_option maxHeartbeats 8000000 in
theorem osane_any (w : World) (hL : Laid w) :
    Calls Tryd.prog 24 #[] w fun e w' => e = .returned (.bool true) ∧ Below w.heap.size w w' := by
  obtain ⟨p, hp9⟩ : ∃ p, anP 7 (scal 3) = p := ⟨_, rfl⟩
  obtain ⟨q, hq9⟩ : ∃ q, anP 7 (scal 4) = q := ⟨_, rfl⟩
  obtain ⟨key, hkey⟩ : ∃ k, powC 4 7 = k := ⟨_, rfl⟩
  have hpl : p.root.length = 32 := by rw [← hp9]; exact anP_len 7 (scal 3)
  have hql : q.root.length = 32 := by rw [← hq9]; exact anP_len 7 (scal 4)
  have hpe : p = poS 7 3 (calD (scal 3)) := by rw [← hp9]; exact anP_ok (by decide) scal_ok.1
  have hqe : q = poS 7 4 (calD (scal 4)) := by rw [← hq9]; exact anP_ok (by decide) scal_ok.2.1
  have hpn : p.no = 3 := by rw [hpe]; rfl
  have hqn : q.no = 4 := by rw [hqe]; rfl
  have hpr : p.root = calD (scal 3) := by rw [hpe]; rfl
  have hpq : p.no ≠ q.no := by rw [hpn, hqn]; decide
  have hcp : ckP key p = true := by rw [← hkey, hpe]; exact ck_signed (by decide) (by decide) (by decide)
  have hcq : ckP key q = true := by rw [← hkey, hqe]; exact ck_signed (by decide) (by decide) (by decide)
  have hshA : shB p (scal 3) = true := by
    unfold shB
    rw [hpn, hpr, show calE (scal 3) = 0 by decide]
    simp [scal]
  have hshB : shB p (scal 4) = false := by
    unfold shB
    rw [hpn]
    simp [scal]
  have hshN : shB p scalN = false := by
    unfold shB
    rw [show calE scalN = 350 by decide]
    simp
  have hkk : Hid (∀ V, Calls Tryd.prog 36 #[.int .i64 7] V fun e w' => e = .returned (.int .i64 key) ∧ w' = V) := Lib.hid fun V => hkey ▸ rkey_any 7 V
  have hB0 : Below w.heap.size w ((((w.alloc (.cells #[.int .i64 5, .int .i64 0, .int .i64 0] 90)).alloc (.cells #[.int .i64 3, .slice (some ⟨w.heap.size, 0, none⟩) 1 1] 45)).alloc (.cells #[.int .i64 5, .int .i64 0, .int .i64 0] 90)).alloc (.cells #[.int .i64 4, .slice (some ⟨w.heap.size + 1 + 1, 0, none⟩) 1 1] 45)) := ((((Below.refl _ w).alloc (Nat.le_refl _) _).alloc (by simp) _).alloc (by simp <;> omega) _).alloc (by simp <;> omega) _
  have hL0 : Laid ((((w.alloc (.cells #[.int .i64 5, .int .i64 0, .int .i64 0] 90)).alloc (.cells #[.int .i64 3, .slice (some ⟨w.heap.size, 0, none⟩) 1 1] 45)).alloc (.cells #[.int .i64 5, .int .i64 0, .int .i64 0] 90)).alloc (.cells #[.int .i64 4, .slice (some ⟨w.heap.size + 1 + 1, 0, none⟩) 1 1] 45)) := hL.below hB0
  have hfA : FxAt ((((w.alloc (.cells #[.int .i64 5, .int .i64 0, .int .i64 0] 90)).alloc (.cells #[.int .i64 3, .slice (some ⟨w.heap.size, 0, none⟩) 1 1] 45)).alloc (.cells #[.int .i64 5, .int .i64 0, .int .i64 0] 90)).alloc (.cells #[.int .i64 4, .slice (some ⟨w.heap.size + 1 + 1, 0, none⟩) 1 1] 45)) (some ⟨w.heap.size, 0, none⟩) (scal 3).fx := ((((fxAt_new w _ rfl 3).below ((Below.refl _ _).alloc (Nat.le_refl _) _)).below ((Below.refl _ _).alloc (Nat.le_refl _) _)).below ((Below.refl _ _).alloc (Nat.le_refl _) _))
  have hfB : FxAt ((((w.alloc (.cells #[.int .i64 5, .int .i64 0, .int .i64 0] 90)).alloc (.cells #[.int .i64 3, .slice (some ⟨w.heap.size, 0, none⟩) 1 1] 45)).alloc (.cells #[.int .i64 5, .int .i64 0, .int .i64 0] 90)).alloc (.cells #[.int .i64 4, .slice (some ⟨w.heap.size + 1 + 1, 0, none⟩) 1 1] 45)) (some ⟨w.heap.size + 1 + 1, 0, none⟩) (scal 4).fx := (fxAt_new ((w.alloc (.cells #[.int .i64 5, .int .i64 0, .int .i64 0] 90)).alloc (.cells #[.int .i64 3, .slice (some ⟨w.heap.size, 0, none⟩) 1 1] 45)) (w.heap.size + 1 + 1) (by simp) 4).below ((Below.refl _ _).alloc (Nat.le_refl _) _)
  have r1 : ((((w.alloc (.cells #[.int .i64 5, .int .i64 0, .int .i64 0] 90)).alloc (.cells #[.int .i64 3, .slice (some ⟨w.heap.size, 0, none⟩) 1 1] 45)).alloc (.cells #[.int .i64 5, .int .i64 0, .int .i64 0] 90)).alloc (.cells #[.int .i64 4, .slice (some ⟨w.heap.size + 1 + 1, 0, none⟩) 1 1] 45)).heap[w.heap.size + 1]? = some (.cells #[.int .i64 3, .slice (some ⟨w.heap.size, 0, none⟩) 1 1] 45 (0, 0)) :=
    (Below.heap_alloc (((w.alloc (.cells #[.int .i64 5, .int .i64 0, .int .i64 0] 90)).alloc (.cells #[.int .i64 3, .slice (some ⟨w.heap.size, 0, none⟩) 1 1] 45)).alloc (.cells #[.int .i64 5, .int .i64 0, .int .i64 0] 90)) _ _ (by simp <;> omega)).trans ((Below.heap_alloc ((w.alloc (.cells #[.int .i64 5, .int .i64 0, .int .i64 0] 90)).alloc (.cells #[.int .i64 3, .slice (some ⟨w.heap.size, 0, none⟩) 1 1] 45)) _ _ (by simp)).trans (heap_alloc2_new w _ _))
  have r3 : ((((w.alloc (.cells #[.int .i64 5, .int .i64 0, .int .i64 0] 90)).alloc (.cells #[.int .i64 3, .slice (some ⟨w.heap.size, 0, none⟩) 1 1] 45)).alloc (.cells #[.int .i64 5, .int .i64 0, .int .i64 0] 90)).alloc (.cells #[.int .i64 4, .slice (some ⟨w.heap.size + 1 + 1, 0, none⟩) 1 1] 45)).heap[w.heap.size + 1 + 1 + 1]? = some (.cells #[.int .i64 4, .slice (some ⟨w.heap.size + 1 + 1, 0, none⟩) 1 1] 45 (0, 0)) := by
    have h := heap_alloc_new (((w.alloc (.cells #[.int .i64 5, .int .i64 0, .int .i64 0] 90)).alloc (.cells #[.int .i64 3, .slice (some ⟨w.heap.size, 0, none⟩) 1 1] 45)).alloc (.cells #[.int .i64 5, .int .i64 0, .int .i64 0] 90)) (.cells #[.int .i64 4, .slice (some ⟨w.heap.size + 1 + 1, 0, none⟩) 1 1] 45)
    have e : (((w.alloc (.cells #[.int .i64 5, .int .i64 0, .int .i64 0] 90)).alloc (.cells #[.int .i64 3, .slice (some ⟨w.heap.size, 0, none⟩) 1 1] 45)).alloc (.cells #[.int .i64 5, .int .i64 0, .int .i64 0] 90)).heap.size = w.heap.size + 1 + 1 + 1 := by simp
    rw [e] at h
    exact h
  obtain ⟨W0, hW0⟩ : ∃ W0, ((((w.alloc (.cells #[.int .i64 5, .int .i64 0, .int .i64 0] 90)).alloc (.cells #[.int .i64 3, .slice (some ⟨w.heap.size, 0, none⟩) 1 1] 45)).alloc (.cells #[.int .i64 5, .int .i64 0, .int .i64 0] 90)).alloc (.cells #[.int .i64 4, .slice (some ⟨w.heap.size + 1 + 1, 0, none⟩) 1 1] 45)) = W0 := ⟨_, rfl⟩
  rw [hW0] at hB0 hL0 hfA hfB r1 r3
  have l1 := (Array.getElem?_eq_some_iff.1 r1).1
  have l3 := (Array.getElem?_eq_some_iff.1 r3).1
  have hC : Hid (∀ V, Below W0.heap.size W0 V → V.cell? ⟨w.heap.size + 1, 0, none⟩ = some (.int .i64 3) ∧ V.cell? ⟨w.heap.size + 1, 1, none⟩ = some (.slice (some ⟨w.heap.size, 0, none⟩) 1 1) ∧ V.cell? ⟨w.heap.size + 1 + 1 + 1, 0, none⟩ = some (.int .i64 4) ∧ V.cell? ⟨w.heap.size + 1 + 1 + 1, 1, none⟩ = some (.slice (some ⟨w.heap.size + 1 + 1, 0, none⟩) 1 1)) := Lib.hid fun V hV =>
    ⟨by rw [cell_of_row _ _ _ _ _ _ ((hV.block _ l1).trans r1)]; rfl, by rw [cell_of_row _ _ _ _ _ _ ((hV.block _ l1).trans r1)]; rfl, by rw [cell_of_row _ _ _ _ _ _ ((hV.block _ l3).trans r3)]; rfl, by rw [cell_of_row _ _ _ _ _ _ ((hV.block _ l3).trans r3)]; rfl⟩
  have kA : Hid (∀ V, Below W0.heap.size W0 V → Calls Tryd.prog 26 #[.int .i64 7, .agg #[.int .i64 3, .slice (some ⟨w.heap.size, 0, none⟩) 1 1]] V fun e w' => e = .returned (.tuple #[.agg (poA p), .int .i64 0]) ∧ Below V.heap.size V w') := Lib.hid fun V hV => by have := announce_any 7 (scal 3) 1 1 _ V rfl (by decide) (hfA.below hV) (scal_fx 3) (hL0.below hV); rw [hp9, show anE 7 (scal 3) = 0 by decide] at this; exact this
  have kB : Hid (∀ V, Below W0.heap.size W0 V → Calls Tryd.prog 26 #[.int .i64 7, .agg #[.int .i64 4, .slice (some ⟨w.heap.size + 1 + 1, 0, none⟩) 1 1]] V fun e w' => e = .returned (.tuple #[.agg (poA q), .int .i64 0]) ∧ Below V.heap.size V w') := Lib.hid fun V hV => by have := announce_any 7 (scal 4) 1 1 _ V rfl (by decide) (hfB.below hV) (scal_fx 4) (hL0.below hV); rw [hq9, show anE 7 (scal 4) = 0 by decide] at this; exact this
  have kZ : Hid (∀ V, Below W0.heap.size W0 V → Calls Tryd.prog 26 #[.int .i64 0, .agg #[.int .i64 3, .slice (some ⟨w.heap.size, 0, none⟩) 1 1]] V fun e w' => e = .returned (.tuple #[.agg (poA poZ), .int .i64 110]) ∧ Below V.heap.size V w') := Lib.hid fun V hV => by have := announce_any 0 (scal 3) 1 1 _ V rfl (by decide) (hfA.below hV) (scal_fx 3) (hL0.below hV); rw [anP_bad (by decide), show anE 0 (scal 3) = 110 by decide] at this; exact this
  have kN : Hid (∀ V, Below W0.heap.size W0 V → Calls Tryd.prog 26 #[.int .i64 1, .agg #[.int .i64 (-1), .slice none 0 0]] V fun e w' => e = .returned (.tuple #[.agg (poA poZ), .int .i64 350]) ∧ Below V.heap.size V w') := Lib.hid fun V hV => by have := announce_any 1 scalN 0 0 none V rfl (by decide) (fxAt_none V none) (fun f hf => by simp [scalN] at hf) (hL0.below hV); rw [anP_bad (by decide), show anE 1 scalN = 350 by decide] at this; exact this
  have kSA : Hid (∀ V, Below W0.heap.size W0 V → Calls Tryd.prog 28 #[.agg (poC p).toArray, .agg #[.int .i64 3, .slice (some ⟨w.heap.size, 0, none⟩) 1 1]] V fun e w' => e = .returned (.tuple #[.bool true, .int .i64 0]) ∧ Below V.heap.size V w') := Lib.hid fun V hV => by have := oshows_any p hpl (scal 3) 1 1 _ V rfl (by decide) (hfA.below hV) (scal_fx 3) (hL0.below hV); rw [hshA, show calE (scal 3) = 0 by decide] at this; exact this
  have kSB : Hid (∀ V, Below W0.heap.size W0 V → Calls Tryd.prog 28 #[.agg (poC p).toArray, .agg #[.int .i64 4, .slice (some ⟨w.heap.size + 1 + 1, 0, none⟩) 1 1]] V fun e w' => e = .returned (.tuple #[.bool false, .int .i64 0]) ∧ Below V.heap.size V w') := Lib.hid fun V hV => by have := oshows_any p hpl (scal 4) 1 1 _ V rfl (by decide) (hfB.below hV) (scal_fx 4) (hL0.below hV); rw [hshB, show calE (scal 4) = 0 by decide] at this; exact this
  have kSN : Hid (∀ V, Below W0.heap.size W0 V → Calls Tryd.prog 28 #[.agg (poC p).toArray, .agg #[.int .i64 (-1), .slice none 0 0]] V fun e w' => e = .returned (.tuple #[.bool false, .int .i64 350]) ∧ Below V.heap.size V w') := Lib.hid fun V hV => by have := oshows_any p hpl scalN 0 0 none V rfl (by decide) (fxAt_none V none) (fun f hf => by simp [scalN] at hf) (hL0.below hV); rw [hshN, show calE scalN = 350 by decide] at this; exact this
  have kCp : Hid (∀ V, Below W0.heap.size W0 V → Calls Tryd.prog 30 #[.int .i64 key, .agg (poC p).toArray] V fun e w' => e = .returned (.bool true) ∧ Below V.heap.size V w') := Lib.hid fun V hV => hcp ▸ ocheck_any key p hpl V (hL0.below hV)
  have kCq : Hid (∀ V, Below W0.heap.size W0 V → Calls Tryd.prog 30 #[.int .i64 key, .agg (poC q).toArray] V fun e w' => e = .returned (.bool true) ∧ Below V.heap.size V w') := Lib.hid fun V hV => hcq ▸ ocheck_any key q hql V (hL0.below hV)
  have kC0 : Hid (∀ V, Below W0.heap.size W0 V → Calls Tryd.prog 30 #[.int .i64 0, .agg (poC p).toArray] V fun e w' => e = .returned (.bool false) ∧ Below V.heap.size V w') := Lib.hid fun V hV => ck_zero p ▸ ocheck_any 0 p hpl V (hL0.below hV)
  have kVp : Hid (∀ V, Below W0.heap.size W0 V → Calls Tryd.prog 32 #[.int .i64 key, .agg (poC p).toArray, .agg (poC p).toArray] V fun e w' => e = .returned (.bool false) ∧ Below V.heap.size V w') := Lib.hid fun V hV => cv_self key p ▸ oconvict_any key p p hpl hpl V (hL0.below hV)
  have kVq : Hid (∀ V, Below W0.heap.size W0 V → Calls Tryd.prog 32 #[.int .i64 key, .agg (poC p).toArray, .agg (poC q).toArray] V fun e w' => e = .returned (.bool false) ∧ Below V.heap.size V w') := Lib.hid fun V hV => cv_no hpq ▸ oconvict_any key p q hpl hql V (hL0.below hV)
  have kF : Hid (∀ V, Below W0.heap.size W0 V → Calls Tryd.prog 34 #[.int .i64 key, .slice none 0 0] V fun e w' => e = .returned (.tuple #[.int .i64 0, .int .i64 0, .bool false]) ∧ Below V.heap.size V w') := Lib.hid fun V hV => (ofind_any key [] 0 none 0 V rfl (by decide) (by decide) (fun i x h => by simp at h) (fun x h => by simp at h) (hL0.below hV)).mono fun e w' ⟨⟨i, j, ok, he, hf⟩, hb⟩ => by obtain ⟨rfl, rfl, rfl⟩ := find_nil hf; exact ⟨he, hb⟩
  have ip := Lib.hid (po_info' hpl)
  have iq := Lib.hid (po_info' hql)
  have jp := Lib.hid (po_info hpl)
  have jq := Lib.hid (po_info hql)
  have jz := Lib.hid (po_info (p := poZ) zero32_len)
  have sp : Hid (35 = (poA p).size) := Lib.hid (poA_size hpl).symm
  have sq : Hid (35 = (poA q).size) := Lib.hid (poA_size hql).symm
  have sz : Hid (35 = (poA poZ).size) := Lib.hid (poA_size zero32_len).symm
  have op := Lib.hid (poA_one p)
  have oq := Lib.hid (poA_one q)
  have oz := Lib.hid (poA_one poZ)
  replace hpn := Lib.hid hpn
  replace hpl := Lib.hid hpl
  replace hB0 := Lib.hid hB0
  have HB := Below.refl W0.heap.size W0
  clear hp9 hq9 hkey hql hpe hqe hqn hpr hpq hcp hcq hshA hshB hshN hL0 hfA hfB r1 r3 l1 l3 hL
  go_enter Tryd.func24, Tryd.ntmps24
  go_wp2_with fail
  try rw [hW0]
  clear hW0
  refine (hkk.out _).mono ?_
  rintro e w0 ⟨rfl, rfl⟩
  obtain ⟨c0, c1, c2, c3⟩ := hC.out _ HB
  go_wp2_with fail
  refine (kA.out _ HB).mono ?_
  rintro e w1 ⟨rfl, hb⟩
  replace HB := HB.trans (hb.mono HB.size)
  clear c0 c1 c2 c3
  go_wp2_with (refine wpList_new_row' (by rfl) 49 (.tmp 4) (.tmp 31) (by rfl) (by rfl) (poA p) w1.heap.size (by rfl) rfl (by rfl) 49 _ jp.out sp.out op.out ?_; intro w2 hd hz hB; replace HB := HB.trans (hB.mono HB.size); have hP : Hid (∀ V, Below w2.heap.size w2 V → V.rangeAt w1.heap.size 0 (poC p)) := Lib.hid (fun V hV => po_row ((hV.block _ (Array.getElem?_eq_some_iff.1 hd).1).trans hd)); obtain ⟨c0, c1, c2, c3⟩ := hC.out _ HB; clear hb hd hz hB)
  refine (kB.out _ HB).mono ?_
  rintro e w3 ⟨rfl, hb⟩
  replace HB := HB.trans (hb.mono HB.size)
  clear c0 c1 c2 c3
  go_wp2_with (refine wpList_new_row' (by rfl) 49 (.tmp 6) (.tmp 36) (by rfl) (by rfl) (poA q) w3.heap.size (by rfl) rfl (by rfl) 49 _ jq.out sq.out oq.out ?_; intro w4 hd hz hB; replace HB := HB.trans (hB.mono HB.size); replace hP := up (up hP hb) hB; have hQ : Hid (∀ V, Below w4.heap.size w4 V → V.rangeAt w3.heap.size 0 (poC q)) := Lib.hid (fun V hV => po_row ((hV.block _ (Array.getElem?_eq_some_iff.1 hd).1).trans hd)); obtain ⟨c0, c1, c2, c3⟩ := hC.out _ HB; clear hb hd hz hB)
  refine (kZ.out _ HB).mono ?_
  rintro e w5 ⟨rfl, hb⟩
  replace HB := HB.trans (hb.mono HB.size)
  clear c0 c1 c2 c3
  go_wp2_with (refine wpList_new_row' (by rfl) 49 (.tmp 8) (.tmp 41) (by rfl) (by rfl) (poA poZ) w5.heap.size (by rfl) rfl (by rfl) 49 _ jz.out sz.out oz.out ?_; intro w6 hd hz hB; replace HB := HB.trans (hB.mono HB.size); replace hP := up (up hP hb) hB; replace hQ := up (up hQ hb) hB; obtain ⟨c0, c1, c2, c3⟩ := hC.out _ HB; clear hb hd hz hB)
  refine (kN.out _ HB).mono ?_
  rintro e w7 ⟨rfl, hb⟩
  replace HB := HB.trans (hb.mono HB.size)
  clear c0 c1 c2 c3
  go_wp2_with (first
    | (refine wpList_new_row' (by rfl) 49 (.tmp 10) (.tmp 46) (by rfl) (by rfl) (poA poZ) w7.heap.size (by rfl) rfl (by rfl) 49 _ jz.out sz.out oz.out ?_; intro w8 hd hz hB; replace HB := HB.trans (hB.mono HB.size); replace hP := up (up hP hb) hB; replace hQ := up (up hQ hb) hB; obtain ⟨c0, c1, c2, c3⟩ := hC.out _ HB; clear hb hd hz hB)
    | (refine wpList_load_mid (by rfl) 49 (.tmp 4) (by rfl) w1.heap.size 0 (by rfl) (poC p) _ (hP.out _ (Below.refl _ _)) Tryd.underlying49 (by rfl) ip.out ?_))
  refine (kSA.out _ HB).mono ?_
  rintro e w9 ⟨rfl, hb⟩
  replace HB := HB.trans (hb.mono HB.size)
  replace hP := up hP hb
  replace hQ := up hQ hb
  clear c0 c1 c2 c3 hb
  obtain ⟨c0, c1, c2, c3⟩ := hC.out _ HB
  go_wp2_with (refine wpList_load_mid (by rfl) 49 (.tmp 4) (by rfl) w1.heap.size 0 (by rfl) (poC p) _ (hP.out _ (Below.refl _ _)) Tryd.underlying49 (by rfl) ip.out ?_)
  refine (kSB.out _ HB).mono ?_
  rintro e w10 ⟨rfl, hb⟩
  replace HB := HB.trans (hb.mono HB.size)
  replace hP := up hP hb
  replace hQ := up hQ hb
  clear c0 c1 c2 c3 hb
  obtain ⟨c0, c1, c2, c3⟩ := hC.out _ HB
  go_wp2_with (refine wpList_load_mid (by rfl) 49 (.tmp 4) (by rfl) w1.heap.size 0 (by rfl) (poC p) _ (hP.out _ (Below.refl _ _)) Tryd.underlying49 (by rfl) ip.out ?_)
  refine (kSN.out _ HB).mono ?_
  rintro e w11 ⟨rfl, hb⟩
  replace HB := HB.trans (hb.mono HB.size)
  replace hP := up hP hb
  replace hQ := up hQ hb
  clear c0 c1 c2 c3 hb
  obtain ⟨c0, c1, c2, c3⟩ := hC.out _ HB
  go_wp2_with fail
  refine (kF.out _ HB).mono ?_
  rintro e w12 ⟨rfl, hb⟩
  replace HB := HB.trans (hb.mono HB.size)
  replace hP := up hP hb
  replace hQ := up hQ hb
  clear c0 c1 c2 c3 hb
  obtain ⟨c0, c1, c2, c3⟩ := hC.out _ HB
  have p0 : w12.cell? ⟨w1.heap.size, 0, none⟩ = some (.int .i64 3) := hpn.out ▸ (hP.out w12 (Below.refl _ _)) 0 _ rfl
  go_wp2_with (first
    | (refine wpList_load_midG (by rfl) 49 (.tmp 4) (by rfl) w1.heap.size 0 (by rfl) (poC p) _ (hP.out _ (Below.refl _ _)) Tryd.underlying49 (by rfl) ip.out ?_)
    | (refine wpList_load_midG (by rfl) 49 (.tmp 6) (by rfl) w3.heap.size 0 (by rfl) (poC q) _ (hQ.out _ (Below.refl _ _)) Tryd.underlying49 (by rfl) iq.out ?_))
  refine (kCp.out _ HB).mono ?_
  rintro e w13 ⟨rfl, hb⟩
  replace HB := HB.trans (hb.mono HB.size)
  replace hP := up hP hb
  replace hQ := up hQ hb
  clear hb
  go_wp2_with (first
    | (refine wpList_load_midG (by rfl) 49 (.tmp 4) (by rfl) w1.heap.size 0 (by rfl) (poC p) _ (hP.out _ (Below.refl _ _)) Tryd.underlying49 (by rfl) ip.out ?_)
    | (refine wpList_load_midG (by rfl) 49 (.tmp 6) (by rfl) w3.heap.size 0 (by rfl) (poC q) _ (hQ.out _ (Below.refl _ _)) Tryd.underlying49 (by rfl) iq.out ?_))
  refine (kCq.out _ HB).mono ?_
  rintro e w14 ⟨rfl, hb⟩
  replace HB := HB.trans (hb.mono HB.size)
  replace hP := up hP hb
  replace hQ := up hQ hb
  clear hb
  go_wp2_with (first
    | (refine wpList_load_midG (by rfl) 49 (.tmp 4) (by rfl) w1.heap.size 0 (by rfl) (poC p) _ (hP.out _ (Below.refl _ _)) Tryd.underlying49 (by rfl) ip.out ?_)
    | (refine wpList_load_midG (by rfl) 49 (.tmp 6) (by rfl) w3.heap.size 0 (by rfl) (poC q) _ (hQ.out _ (Below.refl _ _)) Tryd.underlying49 (by rfl) iq.out ?_))
  refine (kC0.out _ HB).mono ?_
  rintro e w15 ⟨rfl, hb⟩
  replace HB := HB.trans (hb.mono HB.size)
  replace hP := up hP hb
  replace hQ := up hQ hb
  clear hb
  go_wp2_with (first
    | (refine wpList_load_midG (by rfl) 49 (.tmp 4) (by rfl) w1.heap.size 0 (by rfl) (poC p) _ (hP.out _ (Below.refl _ _)) Tryd.underlying49 (by rfl) ip.out ?_)
    | (refine wpList_load_midG (by rfl) 49 (.tmp 6) (by rfl) w3.heap.size 0 (by rfl) (poC q) _ (hQ.out _ (Below.refl _ _)) Tryd.underlying49 (by rfl) iq.out ?_))
  refine (kVp.out _ HB).mono ?_
  rintro e w16 ⟨rfl, hb⟩
  replace HB := HB.trans (hb.mono HB.size)
  replace hP := up hP hb
  replace hQ := up hQ hb
  clear hb
  go_wp2_with (first
    | (refine wpList_load_midG (by rfl) 49 (.tmp 4) (by rfl) w1.heap.size 0 (by rfl) (poC p) _ (hP.out _ (Below.refl _ _)) Tryd.underlying49 (by rfl) ip.out ?_)
    | (refine wpList_load_midG (by rfl) 49 (.tmp 6) (by rfl) w3.heap.size 0 (by rfl) (poC q) _ (hQ.out _ (Below.refl _ _)) Tryd.underlying49 (by rfl) iq.out ?_))
  refine (kVq.out _ HB).mono ?_
  rintro e w17 ⟨rfl, hb⟩
  replace HB := HB.trans (hb.mono HB.size)
  replace hP := up hP hb
  replace hQ := up hQ hb
  clear hb
  go_wp2_with (first
    | (refine wpList_load_midG (by rfl) 49 (.tmp 4) (by rfl) w1.heap.size 0 (by rfl) (poC p) _ (hP.out _ (Below.refl _ _)) Tryd.underlying49 (by rfl) ip.out ?_)
    | (refine wpList_load_midG (by rfl) 49 (.tmp 6) (by rfl) w3.heap.size 0 (by rfl) (poC q) _ (hQ.out _ (Below.refl _ _)) Tryd.underlying49 (by rfl) iq.out ?_))
  go_ret
  exact ⟨rfl, hB0.out.trans (HB.mono hB0.out.size)⟩
end Go.Proofs.YthokpfegfnpmhaaDoor
