/- The walk of offices.Shows. -/
import Derived.Test.YthokpfegfnpmhaaDoorOffCheck
namespace Go.Proofs.YthokpfegfnpmhaaDoor
open Go.RowKit Go.Shelf Jac Cdc Sha
set_option linter.unusedVariables false
set_option linter.unusedSimpArgs false

/-- what Shows answers -/
def shB (p : Po) (c : Cal) : Bool := decide (calE c = 0) && decide (p.no = c.no) && decide (p.root = calD c)

set_option maxRecDepth 100000 in
set_option maxHeartbeats 8000000 in
theorem oshows_err (p : Po) (hp : p.root.length = 32) (no : Int) (n cp : Nat) (A : Option Addr) (w : World) (E : Int) (D : List UInt8) (hlen : D.length = 32) (hD : Hid (Calls Tryd.prog 54 #[.agg #[.int .i64 no, .slice A n cp]] ((w.alloc (.cells (poA p) 49)).alloc (.cells #[.int .i64 no, .slice A n cp] 45)) fun e w' => e = .returned (.tuple #[.agg (dg D), .int .i64 E]) ∧ Below ((w.alloc (.cells (poA p) 49)).alloc (.cells #[.int .i64 no, .slice A n cp] 45)).heap.size ((w.alloc (.cells (poA p) 49)).alloc (.cells #[.int .i64 no, .slice A n cp] 45)) w')) (hE : E = 350) :
    Calls Tryd.prog 28 #[.agg (poA p), .agg #[.int .i64 no, .slice A n cp]] w fun e w' => e = .returned (.tuple #[.bool false, .int .i64 350]) ∧ Below w.heap.size w w' := by
  subst hE
  have hB : Below w.heap.size w ((w.alloc (.cells (poA p) 49)).alloc (.cells #[.int .i64 no, .slice A n cp] 45)) := ((Below.refl _ _).alloc (Nat.le_refl _) _).alloc (by simp) _
  have hra := heap_alloc2_old w (.cells (poA p) 49) (.cells #[.int .i64 no, .slice A n cp] 45)
  have hrb := heap_alloc2_new w (.cells (poA p) 49) (.cells #[.int .i64 no, .slice A n cp] 45)
  have hla := (Array.getElem?_eq_some_iff.1 hra).1
  have hlb := (Array.getElem?_eq_some_iff.1 hrb).1
  have hiD := Lib.hid (dg_info D hlen)
  have hoD := Lib.hid (dg_one D)
  have hsD : Hid (32 = (dg D).size) := Lib.hid (by rw [dg_size, hlen])
  have ip := Lib.hid (dg_info' p.root hp)
  have iD := Lib.hid (dg_info' D hlen)
  obtain ⟨pn, hpn⟩ : ∃ m, p.no = m := ⟨_, rfl⟩
  skip
  replace hpn := Lib.hid hpn
  replace hp := Lib.hid hp
  go_enter Tryd.func28, Tryd.ntmps28
  go_wp2_with fail
  refine hD.out.mono ?_
  rintro e w1 ⟨rfl, hb⟩
  have hB1 := Lib.hid (hB.trans (hb.mono hB.size))
  have hra1 := Lib.hid ((hb.block w.heap.size hla).trans hra)
  have hrb1 := Lib.hid ((hb.block (w.heap.size + 1) hlb).trans hrb)
  have hl1 := Lib.hid ((Array.getElem?_eq_some_iff.1 hrb1.out).1)
  clear hra hrb hla hlb hb hD hB
  go_wp2_with (first
    | (refine wpList_new_row' (by rfl) 35 (.tmp 6) (.tmp 10) (by rfl) (by rfl) (dg D) w1.heap.size (by rfl) rfl (by rfl) 35 _ hiD.out hsD.out hoD.out ?_; intro w2 hd2 hz2 hB2; have hB3 := Lib.hid (hB1.out.trans (hB2.mono hB1.out.size)); have hra2 := (hB2.block w.heap.size (by have := hl1.out; omega)).trans hra1.out; have hrb2 := (hB2.block (w.heap.size + 1) hl1.out).trans hrb1.out; obtain ⟨p0, _, _⟩ := po_cells hp.out hra2; rw [hpn.out] at p0; have rp := Lib.hid (po_root_at hra2); have rd : Hid (w2.rangeAt w1.heap.size 0 (D.map by1)) := Lib.hid (fun j v hj => by (rw [cell_of_row _ _ _ _ _ _ hd2, Nat.zero_add]; simpa [dg] using hj)); have c0 : w2.cell? ⟨w.heap.size + 1, 0, none⟩ = some (.int .i64 no) := by (rw [cell_of_row _ _ _ _ _ _ hrb2]; rfl)
       clear hd2 hz2 hB2 hra2 hrb2)
    | (refine wpList_load_midG (by rfl) 35 (.tmp 21) (by rfl) w.heap.size 1 (by rfl) (p.root.map by1) _ rp.out Tryd.underlying35 (by rfl) ip.out ?_)
    | (refine wpList_load_midG (by rfl) 35 (.tmp 6) (by rfl) w1.heap.size 0 (by rfl) (D.map by1) _ rd.out Tryd.underlying35 (by rfl) iD.out ?_))
  go_ret2
  exact ⟨rfl, hB3.out⟩
set_option maxRecDepth 100000 in
set_option maxHeartbeats 8000000 in
theorem oshows_no (p : Po) (hp : p.root.length = 32) (no : Int) (n cp : Nat) (A : Option Addr) (w : World) (E : Int) (D : List UInt8) (hlen : D.length = 32) (hD : Hid (Calls Tryd.prog 54 #[.agg #[.int .i64 no, .slice A n cp]] ((w.alloc (.cells (poA p) 49)).alloc (.cells #[.int .i64 no, .slice A n cp] 45)) fun e w' => e = .returned (.tuple #[.agg (dg D), .int .i64 E]) ∧ Below ((w.alloc (.cells (poA p) 49)).alloc (.cells #[.int .i64 no, .slice A n cp] 45)).heap.size ((w.alloc (.cells (poA p) 49)).alloc (.cells #[.int .i64 no, .slice A n cp] 45)) w')) (hE : E = 0) (hN : ¬ p.no = no) :
    Calls Tryd.prog 28 #[.agg (poA p), .agg #[.int .i64 no, .slice A n cp]] w fun e w' => e = .returned (.tuple #[.bool false, .int .i64 0]) ∧ Below w.heap.size w w' := by
  subst hE
  have hB : Below w.heap.size w ((w.alloc (.cells (poA p) 49)).alloc (.cells #[.int .i64 no, .slice A n cp] 45)) := ((Below.refl _ _).alloc (Nat.le_refl _) _).alloc (by simp) _
  have hra := heap_alloc2_old w (.cells (poA p) 49) (.cells #[.int .i64 no, .slice A n cp] 45)
  have hrb := heap_alloc2_new w (.cells (poA p) 49) (.cells #[.int .i64 no, .slice A n cp] 45)
  have hla := (Array.getElem?_eq_some_iff.1 hra).1
  have hlb := (Array.getElem?_eq_some_iff.1 hrb).1
  have hiD := Lib.hid (dg_info D hlen)
  have hoD := Lib.hid (dg_one D)
  have hsD : Hid (32 = (dg D).size) := Lib.hid (by rw [dg_size, hlen])
  have ip := Lib.hid (dg_info' p.root hp)
  have iD := Lib.hid (dg_info' D hlen)
  obtain ⟨pn, hpn⟩ : ∃ m, p.no = m := ⟨_, rfl⟩
  rw [hpn] at hN
  replace hpn := Lib.hid hpn
  replace hp := Lib.hid hp
  go_enter Tryd.func28, Tryd.ntmps28
  go_wp2_with fail
  refine hD.out.mono ?_
  rintro e w1 ⟨rfl, hb⟩
  have hB1 := Lib.hid (hB.trans (hb.mono hB.size))
  have hra1 := Lib.hid ((hb.block w.heap.size hla).trans hra)
  have hrb1 := Lib.hid ((hb.block (w.heap.size + 1) hlb).trans hrb)
  have hl1 := Lib.hid ((Array.getElem?_eq_some_iff.1 hrb1.out).1)
  clear hra hrb hla hlb hb hD hB
  go_wp2_with (first
    | (refine wpList_new_row' (by rfl) 35 (.tmp 6) (.tmp 10) (by rfl) (by rfl) (dg D) w1.heap.size (by rfl) rfl (by rfl) 35 _ hiD.out hsD.out hoD.out ?_; intro w2 hd2 hz2 hB2; have hB3 := Lib.hid (hB1.out.trans (hB2.mono hB1.out.size)); have hra2 := (hB2.block w.heap.size (by have := hl1.out; omega)).trans hra1.out; have hrb2 := (hB2.block (w.heap.size + 1) hl1.out).trans hrb1.out; obtain ⟨p0, _, _⟩ := po_cells hp.out hra2; rw [hpn.out] at p0; have rp := Lib.hid (po_root_at hra2); have rd : Hid (w2.rangeAt w1.heap.size 0 (D.map by1)) := Lib.hid (fun j v hj => by (rw [cell_of_row _ _ _ _ _ _ hd2, Nat.zero_add]; simpa [dg] using hj)); have c0 : w2.cell? ⟨w.heap.size + 1, 0, none⟩ = some (.int .i64 no) := by (rw [cell_of_row _ _ _ _ _ _ hrb2]; rfl)
       clear hd2 hz2 hB2 hra2 hrb2)
    | (refine wpList_load_midG (by rfl) 35 (.tmp 21) (by rfl) w.heap.size 1 (by rfl) (p.root.map by1) _ rp.out Tryd.underlying35 (by rfl) ip.out ?_)
    | (refine wpList_load_midG (by rfl) 35 (.tmp 6) (by rfl) w1.heap.size 0 (by rfl) (D.map by1) _ rd.out Tryd.underlying35 (by rfl) iD.out ?_))
  go_ret2
  exact ⟨rfl, hB3.out⟩
set_option maxRecDepth 100000 in
set_option maxHeartbeats 8000000 in
theorem oshows_dg (p : Po) (hp : p.root.length = 32) (no : Int) (n cp : Nat) (A : Option Addr) (w : World) (E : Int) (D : List UInt8) (hlen : D.length = 32) (hD : Hid (Calls Tryd.prog 54 #[.agg #[.int .i64 no, .slice A n cp]] ((w.alloc (.cells (poA p) 49)).alloc (.cells #[.int .i64 no, .slice A n cp] 45)) fun e w' => e = .returned (.tuple #[.agg (dg D), .int .i64 E]) ∧ Below ((w.alloc (.cells (poA p) 49)).alloc (.cells #[.int .i64 no, .slice A n cp] 45)).heap.size ((w.alloc (.cells (poA p) 49)).alloc (.cells #[.int .i64 no, .slice A n cp] 45)) w')) (hE : E = 0) (hN : p.no = no) (r : Bool) (hr : decide (p.root = D) = r) :
    Calls Tryd.prog 28 #[.agg (poA p), .agg #[.int .i64 no, .slice A n cp]] w fun e w' => e = .returned (.tuple #[.bool r, .int .i64 0]) ∧ Below w.heap.size w w' := by
  subst hE
  have q0 : ∀ V, (Op.equalIn 10000 35 (.agg (p.root.map by1).toArray) (.agg (D.map by1).toArray)).run Tryd.prog V = .ok r V := hr ▸ eq_dg p.root D hp hlen
  clear hr
  have hB : Below w.heap.size w ((w.alloc (.cells (poA p) 49)).alloc (.cells #[.int .i64 no, .slice A n cp] 45)) := ((Below.refl _ _).alloc (Nat.le_refl _) _).alloc (by simp) _
  have hra := heap_alloc2_old w (.cells (poA p) 49) (.cells #[.int .i64 no, .slice A n cp] 45)
  have hrb := heap_alloc2_new w (.cells (poA p) 49) (.cells #[.int .i64 no, .slice A n cp] 45)
  have hla := (Array.getElem?_eq_some_iff.1 hra).1
  have hlb := (Array.getElem?_eq_some_iff.1 hrb).1
  have hiD := Lib.hid (dg_info D hlen)
  have hoD := Lib.hid (dg_one D)
  have hsD : Hid (32 = (dg D).size) := Lib.hid (by rw [dg_size, hlen])
  have ip := Lib.hid (dg_info' p.root hp)
  have iD := Lib.hid (dg_info' D hlen)
  have hpn := Lib.hid hN
  clear hN
  replace hp := Lib.hid hp
  go_enter Tryd.func28, Tryd.ntmps28
  go_wp2_with fail
  refine hD.out.mono ?_
  rintro e w1 ⟨rfl, hb⟩
  have hB1 := Lib.hid (hB.trans (hb.mono hB.size))
  have hra1 := Lib.hid ((hb.block w.heap.size hla).trans hra)
  have hrb1 := Lib.hid ((hb.block (w.heap.size + 1) hlb).trans hrb)
  have hl1 := Lib.hid ((Array.getElem?_eq_some_iff.1 hrb1.out).1)
  clear hra hrb hla hlb hb hD hB
  go_wp2_with (first
    | (refine wpList_new_row' (by rfl) 35 (.tmp 6) (.tmp 10) (by rfl) (by rfl) (dg D) w1.heap.size (by rfl) rfl (by rfl) 35 _ hiD.out hsD.out hoD.out ?_; intro w2 hd2 hz2 hB2; have hB3 := Lib.hid (hB1.out.trans (hB2.mono hB1.out.size)); have hra2 := (hB2.block w.heap.size (by have := hl1.out; omega)).trans hra1.out; have hrb2 := (hB2.block (w.heap.size + 1) hl1.out).trans hrb1.out; obtain ⟨p0, _, _⟩ := po_cells hp.out hra2; rw [hpn.out] at p0; have rp := Lib.hid (po_root_at hra2); have rd : Hid (w2.rangeAt w1.heap.size 0 (D.map by1)) := Lib.hid (fun j v hj => by (rw [cell_of_row _ _ _ _ _ _ hd2, Nat.zero_add]; simpa [dg] using hj)); have c0 : w2.cell? ⟨w.heap.size + 1, 0, none⟩ = some (.int .i64 no) := by (rw [cell_of_row _ _ _ _ _ _ hrb2]; rfl)
       clear hd2 hz2 hB2 hra2 hrb2)
    | (refine wpList_load_midG (by rfl) 35 (.tmp 21) (by rfl) w.heap.size 1 (by rfl) (p.root.map by1) _ rp.out Tryd.underlying35 (by rfl) ip.out ?_)
    | (refine wpList_load_midG (by rfl) 35 (.tmp 6) (by rfl) w1.heap.size 0 (by rfl) (D.map by1) _ rd.out Tryd.underlying35 (by rfl) iD.out ?_))
  go_ret2
  exact ⟨rfl, hB3.out⟩
theorem oshows_any (p : Po) (hp : p.root.length = 32) (c : Cal) (n cp : Nat) (A : Option Addr) (w : World) (hn : c.fx.length = n) (hc : n ≤ cp) (hA : FxAt w A c.fx) (hI : ∀ f ∈ c.fx, FxI f) (hL : Laid w) :
    Calls Tryd.prog 28 #[.agg (poA p), .agg #[.int .i64 c.no, .slice A n cp]] w fun e w' => e = .returned (.tuple #[.bool (shB p c), .int .i64 (calE c)]) ∧ Below w.heap.size w w' := by
  have hlen := calD_len c
  have hB : Below w.heap.size w ((w.alloc (.cells (poA p) 49)).alloc (.cells #[.int .i64 c.no, .slice A n cp] 45)) := ((Below.refl _ _).alloc (Nat.le_refl _) _).alloc (by simp) _
  have hD := Lib.hid (cdig_any c n cp A _ hn hc (hA.below hB) hI (hL.below hB))
  unfold shB
  by_cases hE : calE c = 0
  · rw [decide_eq_true hE, Bool.true_and]
    rw [hE] at hD ⊢
    by_cases hN : p.no = c.no
    · rw [decide_eq_true hN, Bool.true_and]
      exact oshows_dg p hp c.no n cp A w _ _ hlen hD rfl hN _ rfl
    · rw [decide_eq_false hN, Bool.false_and]
      exact oshows_no p hp c.no n cp A w _ _ hlen hD rfl hN
  · have hE' : calE c = 350 := by
      unfold calE at hE ⊢
      split
      · rename_i h; exact absurd (if_pos h) hE
      · rfl
    rw [decide_eq_false hE, Bool.false_and, Bool.false_and]
    rw [hE'] at hD ⊢
    exact oshows_err p hp c.no n cp A w _ _ hlen hD rfl

end Go.Proofs.YthokpfegfnpmhaaDoor
