/- The walk of sign.Verify. -/
import Derived.Test.YtallnbbdacngnaaDoorSign
import Derived.Deep.RegionHeld3
namespace Go.Proofs.YtallnbbdacngnaaDoor
open Go.RowKit Go.Shelf Jac Cdc Sha
set_option linter.unusedVariables false
set_option linter.unusedSimpArgs false

/-- the point of a signature -/
noncomputable def ptC (key E S : Int) : Int := mulC (powC 4 S) (powC key (-E))
/-- what Verify answers -/
noncomputable def vfB (key : Int) (bs : List UInt8) (E S : Int) : Bool :=
  decide (0 ≤ E ∧ E < 1073741789 ∧ 0 ≤ S ∧ S < 1073741789) && validB key && (E == hN signB [iV (ptC key E S), iV key, tV bs])

theorem mulC_bd (a b : Int) : 0 ≤ mulC a b ∧ mulC a b < 2147483579 := by
  unfold mulC
  split
  · omega
  · omega

set_option maxRecDepth 100000 in
set_option maxHeartbeats 4000000 in
theorem verify_out (key E S : Int) (A : Option Addr) (n c : Nat) (w : World) (h : E < 0 ∨ 1073741789 ≤ E ∨ S < 0 ∨ 1073741789 ≤ S) :
    Calls Tryd.prog 36 #[.int .i64 key, .slice A n c, .agg #[.int .i64 E, .int .i64 S]] w fun e w' => e = .returned (.bool false) ∧ Below w.heap.size w w' := by
  by_cases h1 : min E S < 0
  · go_enter Tryd.func36, Tryd.ntmps36
    go_wp2_with fail
    go_ret
    exact ⟨rfl, (Below.refl _ _).alloc (Nat.le_refl _) _⟩
  · have h2 : 1073741789 ≤ max E S := by omega
    go_enter Tryd.func36, Tryd.ntmps36
    go_wp2_with fail
    go_ret
    exact ⟨rfl, (Below.refl _ _).alloc (Nat.le_refl _) _⟩

set_option maxRecDepth 100000 in
set_option maxHeartbeats 4000000 in
theorem verify_bad (key E S : Int) (A : Option Addr) (n c : Nat) (w : World) (h : 0 ≤ E ∧ E < 1073741789 ∧ 0 ≤ S ∧ S < 1073741789) (hv : validB key = false) :
    Calls Tryd.prog 36 #[.int .i64 key, .slice A n c, .agg #[.int .i64 E, .int .i64 S]] w fun e w' => e = .returned (.bool false) ∧ Below w.heap.size w w' := by
  have h1 : ¬ min E S < 0 := by omega
  have h2 : ¬ 1073741789 ≤ max E S := by omega
  have hv2 := Lib.hid hv
  clear hv
  go_enter Tryd.func36, Tryd.ntmps36
  go_wp2_with (go_at_call 39; refine (valid_any _ _).mono ?_; rintro e w' ⟨rfl, rfl⟩; rw [hv2.out])
  go_ret
  exact ⟨rfl, (Below.refl _ _).alloc (Nat.le_refl _) _⟩

set_option maxRecDepth 100000 in
set_option maxHeartbeats 4000000 in
theorem verify_in (key : Int) (bs : List UInt8) (E S : Int) (A : Option Addr) (n c : Nat) (w : World) (h : 0 ≤ E ∧ E < 1073741789 ∧ 0 ≤ S ∧ S < 1073741789) (hv : validB key = true) (hn : bs.length = n) (hb : n ≤ 100000) (hA : AtO w A bs) (hL : Laid w) :
    Calls Tryd.prog 36 #[.int .i64 key, .slice A n c, .agg #[.int .i64 E, .int .i64 S]] w fun e w' => e = .returned (.bool ((E == hN signB [iV (ptC key E S), iV key, tV bs]))) ∧ Below w.heap.size w w' := by
  have h1 : ¬ min E S < 0 := by omega
  have h2 : ¬ 1073741789 ≤ max E S := by omega
  have hkr := validB_range hv
  have hv2 := Lib.hid hv
  replace hn := Lib.hid hn
  replace hA := Lib.hid hA
  clear hv
  go_enter Tryd.func36, Tryd.ntmps36
  go_wp2_with (go_at_call 39; refine (valid_any _ _).mono ?_; rintro e w' ⟨rfl, rfl⟩; rw [hv2.out])
  obtain ⟨W0, hW0⟩ : ∃ W0, w.alloc (Obj.cells #[Value.int IntKind.i64 E, Value.int IntKind.i64 S] 50) = W0 := ⟨_, rfl⟩
  have hr0 : W0.heap[w.heap.size]? = some (.cells #[.int .i64 E, .int .i64 S] 50 (0, 0)) := by rw [← hW0]; exact heap_alloc_new w _
  have hB0 : Below w.heap.size w W0 := by rw [← hW0]; exact (Below.refl _ _).alloc (Nat.le_refl _) _
  rw [hW0]
  clear hW0
  have hlt0 := (Array.getElem?_eq_some_iff.1 hr0).1
  have c0 : W0.cell? ⟨w.heap.size, 0, none⟩ = some (.int .i64 E) := by rw [cell_of_row _ _ _ _ _ _ hr0]; rfl
  have c1 : W0.cell? ⟨w.heap.size, 1, none⟩ = some (.int .i64 S) := by rw [cell_of_row _ _ _ _ _ _ hr0]; rfl
  have G1 : -9223372036854775808 ≤ -E := by omega
  have G2 : -E ≤ 0 := by omega
  have hne : IntKind.i64.wrap (-E) = -E := IntWalk.i64_in _ (by omega)
  obtain ⟨b, hbe⟩ : ∃ b, w.heap.size = b := ⟨_, rfl⟩
  rw [hbe] at c0 c1 hlt0 ⊢
  replace hbe := Lib.hid hbe
  have hp1 : Hid (∀ W : World, Calls Tryd.prog 61 #[.int .i64 4, .int .i64 S] W fun e w' => e = .returned (.int .i64 (powC 4 S)) ∧ Below W.heap.size W w') := Lib.hid fun W => power_any 4 S W
  have hp2 : Hid (∀ W : World, Calls Tryd.prog 61 #[.int .i64 key, .int .i64 (-E)] W fun e w' => e = .returned (.int .i64 (powC key (-E))) ∧ Below W.heap.size W w') := Lib.hid fun W => power_any key (-E) W
  have hm1 : Hid (∀ W : World, Calls Tryd.prog 44 #[.int .i64 (powC 4 S), .int .i64 (powC key (-E))] W fun e w' => e = .returned (.tuple #[.int .i64 (ptC key E S), .int .i64 (mulE (powC 4 S) (powC key (-E)))]) ∧ w' = W) := Lib.hid fun W => mul_any _ _ W
  go_region_held3 (fun w' => w'.cell? ⟨b, 0, none⟩ = some (.int .i64 E) ∧ w'.cell? ⟨b, 1, none⟩ = some (.int .i64 S))
    (first
      | go_keep
      | (refine ⟨?_, ?_⟩
         · exact (hb1.cell (p := ⟨b, 0, none⟩) (by simp; omega)).trans c0
         · exact (hb1.cell (p := ⟨b, 1, none⟩) (by simp; omega)).trans c1)
      | (have hs1 := hb1.size
         refine ⟨?_, ?_⟩
         · exact (hb2.cell (p := ⟨b, 0, none⟩) (by simp at hs1 ⊢; omega)).trans ((hb1.cell (p := ⟨b, 0, none⟩) (by simp; omega)).trans c0)
         · exact (hb2.cell (p := ⟨b, 1, none⟩) (by simp at hs1 ⊢; omega)).trans ((hb1.cell (p := ⟨b, 1, none⟩) (by simp; omega)).trans c1)))
    (first
      | (go_at_call 61; (with_reducible refine (hp1.out _).mono ?_); rintro e w1 ⟨rfl, hb1⟩)
      | (go_at_call 61; (with_reducible refine (hp2.out _).mono ?_); rintro e w2 ⟨rfl, hb2⟩)
      | (go_at_call 44; (with_reducible refine (hm1.out _).mono ?_); rintro e w' ⟨rfl, rfl⟩))
  have hs1 := hb1.size
  have hs2 := hb2.size
  have hl1 : W0.heap.size ≤ w1.heap.size := hs1
  have d0 : w'.cell? ⟨b, 0, none⟩ = some (.int .i64 E) := (hb2.cell (p := ⟨b, 0, none⟩) (by simp; omega)).trans ((hb1.cell (p := ⟨b, 0, none⟩) (by simp; omega)).trans c0)
  have hBw : Below w.heap.size w w' := (hB0.drew.trans (hb1.mono hB0.size)).trans (hb2.mono (Nat.le_trans hB0.size hl1))
  have hlw : b < w'.heap.size := by omega
  clear hb1 hb2 hB0 hr0 c0 c1 hp1 hp2 hm1 hs1 hs2 hl1 hlt0
  have hpt := i64_of (mulC_bd (powC 4 S) (powC key (-E)))
  have hptI : I64 (ptC key E S) := hpt
  have hkI : I64 key := ⟨by omega, by omega⟩
  have hll : Hid (∀ (W : World) (k : Nat), k = W.heap.size → Below w.heap.size w W → Calls Tryd.prog 60 #[.slice (some ⟨k, 0, none⟩) 3 3] (W.alloc (.cells #[.iface 3 (.int .i64 (ptC key E S)), .iface 3 (.int .i64 key), .iface 22 (.slice A n c)] 20)) fun e w1 => ∃ A1 m c1, e = .returned (.slice A1 m c1) ∧ Below w.heap.size w w1 ∧ Below W.heap.size W w1 ∧
      Calls Tryd.prog 19 #[.string signB, .slice A1 m c1] w1 fun e w2 => e = .returned (.int .i64 (hN signB [iV (ptC key E S), iV key, tV bs])) ∧ Below w1.heap.size w1 w2) := Lib.hid fun W k hk hB => lh3 signB (by decide) (ptC key E S) key bs A n c hn.out hb hptI hkI w W k hk hB hA.out hL
  have hl9 := Lib.hid (hll.out w'.drew w'.heap.size rfl hBw.drew)
  go_wp2_with fail
  go_region_held3 (fun w9 => w9.cell? ⟨b, 0, none⟩ = some (.int .i64 E))
    (first
      | go_keep
      | exact (hb3.cell (p := ⟨b, 0, none⟩) hlw).trans d0
      | (have hs3 := hb3.size
         exact (hb4.cell (p := ⟨b, 0, none⟩) (Nat.lt_of_lt_of_le hlw hs3)).trans ((hb3.cell (p := ⟨b, 0, none⟩) hlw).trans d0)))
    (first
      | (go_at_call 60; refine (hl9.out).mono ?_; rintro e w3 ⟨A3, m3, c3, rfl, hB3, hb3, hH3⟩)
      | (go_at_call 19; refine hH3.mono ?_; rintro e w4 ⟨rfl, hb4⟩))
  go_wp2_with fail
  go_ret
  exact ⟨rfl, hB3.trans (hb4.mono hB3.size)⟩

theorem verify_any (key : Int) (bs : List UInt8) (E S : Int) (A : Option Addr) (n c : Nat) (w : World) (hn : bs.length = n) (hb : n ≤ 100000) (hA : AtO w A bs) (hL : Laid w) :
    Calls Tryd.prog 36 #[.int .i64 key, .slice A n c, .agg #[.int .i64 E, .int .i64 S]] w fun e w' => e = .returned (.bool (vfB key bs E S)) ∧ Below w.heap.size w w' := by
  by_cases h : 0 ≤ E ∧ E < 1073741789 ∧ 0 ≤ S ∧ S < 1073741789
  · by_cases hv : validB key = true
    · refine (verify_in key bs E S A n c w h hv hn hb hA hL).mono ?_
      rintro e w' ⟨rfl, hB⟩
      refine ⟨?_, hB⟩
      unfold vfB
      rw [decide_eq_true h, hv]
      rfl
    · have hv2 : validB key = false := by simpa using hv
      refine (verify_bad key E S A n c w h hv2).mono ?_
      rintro e w' ⟨rfl, hB⟩
      refine ⟨?_, hB⟩
      unfold vfB
      rw [decide_eq_true h, hv2]
      rfl
  · refine (verify_out key E S A n c w (by omega)).mono ?_
    rintro e w' ⟨rfl, hB⟩
    refine ⟨?_, hB⟩
    unfold vfB
    rw [decide_eq_false h]
    rfl
end Go.Proofs.YtallnbbdacngnaaDoor
