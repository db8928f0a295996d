/- The walks of seals.open and of slices.ContainsFunc at it. -/
import Derived.Test.YtnccbhndlnkboaaDoorSeal2
import Derived.Test.YtnccbhndlnkboaaDoorMClimbF
namespace Go.Proofs.YtnccbhndlnkboaaDoor
open Go.RowKit Go.Shelf Cdc Sha
set_option linter.unusedVariables false
set_option linter.unusedSimpArgs false

/-- a list of booleans, of integers, in memory -/
def BoAt (w : World) (B : Option Addr) (bl : List Bool) : Prop := ∀ i b, bl[i]? = some b → ∃ g o, B = some ⟨g, o, none⟩ ∧ w.cell? ⟨g, o + i, none⟩ = some (.bool b)
def InAt (w : World) (S : Option Addr) (sl : List Int) : Prop := ∀ i n, sl[i]? = some n → ∃ g o, S = some ⟨g, o, none⟩ ∧ w.cell? ⟨g, o + i, none⟩ = some (.int .i64 n)
theorem BoAt.below {w w' : World} {B : Option Addr} {bl : List Bool} (h : BoAt w B bl) (hb : Below w.heap.size w w') : BoAt w' B bl := fun i b hi => by
  obtain ⟨g, o, e, hc⟩ := h i b hi
  exact ⟨g, o, e, (hb.cell (p := ⟨g, o + i, none⟩) (World.block_lt_of_cell? w _ hc)).trans hc⟩
theorem InAt.below {w w' : World} {S : Option Addr} {sl : List Int} (h : InAt w S sl) (hb : Below w.heap.size w w') : InAt w' S sl := fun i b hi => by
  obtain ⟨g, o, e, hc⟩ := h i b hi
  exact ⟨g, o, e, (hb.cell (p := ⟨g, o + i, none⟩) (World.block_lt_of_cell? w _ hc)).trans hc⟩

theorem open1_any (n : Int) (w : World) : Calls Tryd.prog 62 #[.int .i64 n] w fun e w' => e = .returned (.bool (!salB n)) ∧ w' = w := by
  go_enter Tryd.func62, Tryd.ntmps62
  go_wp2_with fail
  refine (salt_any _ _).mono ?_
  rintro e w2 ⟨rfl, hw⟩
  have hw2 := hw.symm
  clear hw
  subst hw2
  go_wp2_with fail
  go_ret
  exact ⟨rfl, rfl⟩

set_option maxRecDepth 100000 in
set_option maxHeartbeats 4000000 in
theorem idx_any (sl : List Int) (n : Nat) (hn : sl.length = n) (hx : n ≤ 1000000) (S : Option Addr) (c : Nat) (hc : n ≤ c) (w : World) (h : InAt w S sl) :
    Calls Tryd.prog 80 #[.slice S n c, .func (.func 62) #[] #[]] w fun e w' => ∃ r : Int, e = .returned (.int .i64 r) ∧ decide (0 ≤ r) = (!sl.all salB) ∧ w' = w := by
  replace hn := Lib.hid hn
  replace h := Lib.hid h
  go_enter Tryd.func80, Tryd.ntmps80
  go_wp2_with fail
  go_loopw [8] (fun s8 wr => ∃ k : Nat, k ≤ n ∧ s8 = .int .i64 (k : Int) ∧ wr = w ∧ Hid (∀ y ∈ sl.take k, salB y = true)) (fun s8 _ => n - (intOf s8).toNat)
  case atStart => exact ⟨0, by omega, rfl, rfl, Lib.hid (by simp)⟩
  case round =>
    obtain ⟨k, hk, rfl, hwr, hall⟩ := hrel
    subst hwr
    by_cases hkn : k < n
    · obtain ⟨y, hy⟩ : ∃ y, sl[k]? = some y := ⟨_, List.getElem?_eq_getElem (by rw [hn.out]; omega)⟩
      obtain ⟨g, o, rfl, hcy⟩ := h.out k y hy
      have hcall : ∀ n, Calls Tryd.prog 62 #[.int .i64 n] wr fun e w' => e = .returned (.bool (!salB n)) ∧ w' = wr := fun n => open1_any n wr
      cases hs : salB y with
      | true =>
        have hall2 : Hid (∀ y ∈ sl.take (k + 1), salB y = true) := Lib.hid (by
          rw [List.take_add_one, hy]
          intro z hz
          rcases List.mem_append.1 hz with hz | hz
          · exact hall.out z hz
          · simp at hz; subst hz; exact hs)
        go_wp2_with fail
        refine (hcall y).mono ?_
        rintro e w2 ⟨rfl, hw⟩
        have hw2 := hw.symm
        clear hw
        subst hw2
        rw [hs]
        go_wp2_with fail
        go_roundw
        case rel => exact ⟨k + 1, by omega, by go_num, trivial, hall2⟩
        case measure => simp [intOf]; omega
      | false =>
        have hany : Hid ((!sl.all salB) = true) := Lib.hid (by
          rw [Bool.not_eq_true', List.all_eq_false]
          exact ⟨y, List.mem_of_getElem? hy, by rw [hs]; simp⟩)
        go_wp2_with fail
        refine (hcall y).mono ?_
        rintro e w2 ⟨rfl, hw⟩
        have hw2 := hw.symm
        clear hw
        subst hw2
        rw [hs]
        go_wp2_with fail
        go_ret
        exact ⟨_, rfl, by rw [hany.out]; simp, rfl⟩
    · have hall3 : Hid ((!sl.all salB) = false) := Lib.hid (by
        rw [Bool.not_eq_false', List.all_eq_true]
        intro z hz
        exact hall.out z (by rw [List.take_of_length_le (by rw [hn.out]; omega)]; exact hz))
      go_wp2_with fail
      go_ret
      exact ⟨_, rfl, by rw [hall3.out]; rfl, rfl⟩

theorem cont_any (sl : List Int) (n : Nat) (hn : sl.length = n) (hx : n ≤ 1000000) (S : Option Addr) (c : Nat) (hc : n ≤ c) (w : World) (h : InAt w S sl) :
    Calls Tryd.prog 61 #[.slice S n c, .func (.func 62) #[] #[]] w fun e w' => e = .returned (.bool (!sl.all salB)) ∧ w' = w := by
  have hC := Lib.hid (idx_any sl n hn hx S c hc w h)
  go_enter Tryd.func61, Tryd.ntmps61
  go_wp2_with fail
  refine hC.out.mono ?_
  rintro e w2 ⟨r, rfl, hr, hw⟩
  have hw2 := hw.symm
  clear hw
  subst hw2
  go_wp2_with fail
  go_ret
  exact ⟨by rw [← hr]; rfl, rfl⟩

theorem set5 (w : World) (g : Nat) (a b c d e a0 b0 c0 d0 e0 : Value) (t : TypeId) (h : w.heap[g]? = some (.cells #[a0, b0, c0, d0, e0] t (0, 0))) :
    (((((w.setCell ⟨g, 0, none⟩ a).setCell ⟨g, 1, none⟩ b).setCell ⟨g, 2, none⟩ c).setCell ⟨g, 3, none⟩ d).setCell ⟨g, 4, none⟩ e).heap[g]? = some (.cells #[a, b, c, d, e] t (0, 0)) ∧ w.grownBy (((((w.setCell ⟨g, 0, none⟩ a).setCell ⟨g, 1, none⟩ b).setCell ⟨g, 2, none⟩ c).setCell ⟨g, 3, none⟩ d).setCell ⟨g, 4, none⟩ e) (some g) := by
  refine ⟨?_, ?_⟩
  · have h1 := heap_setCell_same _ g 4 _ _ e (heap_setCell_same _ g 3 _ _ d (heap_setCell_same _ g 2 _ _ c (heap_setCell_same _ g 1 _ _ b (heap_setCell_same w g 0 _ _ a h))))
    rw [h1]
    rfl
  · exact grown_trans (grown_trans (grown_trans (grown_trans (setCell_grown _ g 0 a) (setCell_grown _ g 1 b)) (setCell_grown _ g 2 c)) (setCell_grown _ g 3 d)) (setCell_grown _ g 4 e)

/-- open's error -/
def opE (t f : Int) (nb ns : Nat) (sl : List Int) : Int := if 512 < nb ∨ 512 < ns then 2 else if nb = ns ∧ dayB t f ns = true ∧ sl.all salB = true then 0 else 390

set_option maxRecDepth 100000 in
set_option maxHeartbeats 4000000 in
theorem open_any (t f : Int) (nb ns cb c : Nat) (B S : Option Addr) (sl : List Int) (hn : sl.length = ns) (hc : ns ≤ c) (hxb : nb ≤ maxLen) (hxs : ns ≤ maxLen) (w : World) (h : InAt w S sl) :
    Calls Tryd.prog 33 #[.int .i64 t, .int .i64 f, .slice B nb cb, .slice S ns c] w fun e w' => e = .returned (.tuple #[.agg (if 512 < nb ∨ 512 < ns then #[.int .i64 0, .int .i64 0, .int .i64 0, .slice none 0 0, .slice none 0 0] else #[.int .i64 t, .int .i64 f, .int .i64 ns, .slice B nb cb, .slice S ns c]), .int .i64 (opE t f nb ns sl)]) ∧ Below w.heap.size w w' := by
  unfold opE
  have hmx : maxLen = 9223372036854775807 := rfl
  have hB0 : Below w.heap.size w (w.alloc (.cells #[.int .i64 0, .int .i64 0, .int .i64 0, .slice none 0 0, .slice none 0 0] 71)) := (Below.refl _ _).alloc (Nat.le_refl _) _
  by_cases c1 : 512 < nb
  · rw [if_pos (Or.inl c1), if_pos (Or.inl c1)]
    have k1 : (512 : Int) < (nb : Int) := by omega
    have d1 : decide ((512 : Int) < (nb : Int)) = true := decide_eq_true (by omega)
    clear hn h
    go_enter Tryd.func33, Tryd.ntmps33
    go_wp2_with fail
    exact bodyPost_ret (v := .tuple #[.agg #[.int .i64 0, .int .i64 0, .int .i64 0, .slice none 0 0, .slice none 0 0], .int .i64 2]) (results_row_tmp rfl _ _ w.heap.size 71 #[.int .i64 0, .int .i64 0, .int .i64 0, .slice none 0 0, .slice none 0 0] (0, 0) _ _ rfl rfl (heap_alloc_new w _) Tryd.underlying71 (by rfl) (by kernel_rfl)) rfl ⟨rfl, hB0⟩
  · have k1 : ¬ (512 : Int) < (nb : Int) := by omega
    have d1 : decide ((512 : Int) < (nb : Int)) = false := decide_eq_false (by omega)
    by_cases c2 : 512 < ns
    · rw [if_pos (Or.inr c2), if_pos (Or.inr c2)]
      have d2 : decide ((512 : Int) < (ns : Int)) = true := decide_eq_true (by omega)
      clear hn h
      go_enter Tryd.func33, Tryd.ntmps33
      go_wp2_with fail
      exact bodyPost_ret (v := .tuple #[.agg #[.int .i64 0, .int .i64 0, .int .i64 0, .slice none 0 0, .slice none 0 0], .int .i64 2]) (results_row_tmp rfl _ _ w.heap.size 71 #[.int .i64 0, .int .i64 0, .int .i64 0, .slice none 0 0, .slice none 0 0] (0, 0) _ _ rfl rfl (heap_alloc_new w _) Tryd.underlying71 (by rfl) (by kernel_rfl)) rfl ⟨rfl, hB0⟩
    · have hlim : ¬ (512 < nb ∨ 512 < ns) := by omega
      rw [if_neg hlim, if_neg hlim]
      have d2 : decide ((512 : Int) < (ns : Int)) = false := decide_eq_false (by omega)
      have hV : Hid (∀ V, Below w.heap.size w V → Calls Tryd.prog 48 #[.agg #[.int .i64 t, .int .i64 f, .int .i64 (ns : Int)]] V fun e w' => e = .returned (.bool (dayB t f ns)) ∧ Below V.heap.size V w') := Lib.hid fun V _ => valid_any8 t f ns V
      have hC : Hid (∀ V, Below w.heap.size w V → Calls Tryd.prog 61 #[.slice S ns c, .func (.func 62) #[] #[]] V fun e w' => e = .returned (.bool (!sl.all salB)) ∧ w' = V) := Lib.hid fun V hV => cont_any sl ns hn (by omega) S c hc V (h.below hV)
      clear hn h
      have hW1 := heap_alloc_new w (.cells #[.int .i64 t, .int .i64 f, .int .i64 (ns : Int), .slice B nb cb, .slice S ns c] 71)
      have hB1 : Below w.heap.size w (w.alloc (.cells #[.int .i64 t, .int .i64 f, .int .i64 (ns : Int), .slice B nb cb, .slice S ns c] 71)) := (Below.refl _ _).alloc (Nat.le_refl _) _
      clear hB0
      by_cases c3 : nb = ns
      · subst c3
        have d3 : ((nb : Int) == (nb : Int)) = true := by simp
        cases c4 : dayB t f nb with
        | true =>
          cases c5 : sl.all salB with
          | true =>
            rw [if_pos ⟨rfl, rfl, rfl⟩]
            go_enter Tryd.func33, Tryd.ntmps33
            go_wp2_with fail
            refine (hV.out _ hB1).mono ?_
            rintro e w2 ⟨rfl, hb2⟩
            rw [c4]
            have hr2 := (hb2.block w.heap.size (by simp)).trans hW1
            have x0 : w2.cell? ⟨w.heap.size, 0, none⟩ = some (.int .i64 t) := by rw [cell_of_row _ _ _ _ _ _ hr2]; rfl
            have x1 : w2.cell? ⟨w.heap.size, 1, none⟩ = some (.int .i64 f) := by rw [cell_of_row _ _ _ _ _ _ hr2]; rfl
            have x2 : w2.cell? ⟨w.heap.size, 2, none⟩ = some (.int .i64 (nb : Int)) := by rw [cell_of_row _ _ _ _ _ _ hr2]; rfl
            have x3 : w2.cell? ⟨w.heap.size, 3, none⟩ = some (.slice B nb cb) := by rw [cell_of_row _ _ _ _ _ _ hr2]; rfl
            have x4 : w2.cell? ⟨w.heap.size, 4, none⟩ = some (.slice S nb c) := by rw [cell_of_row _ _ _ _ _ _ hr2]; rfl
            have hB2 := hB1.trans (hb2.mono hB1.size)
            have f0 := frozen_of_row w2 w.heap.size 0 _ _ hr2
            have f1 := frozen_of_row w2 w.heap.size 1 _ _ hr2
            have f2 := frozen_of_row w2 w.heap.size 2 _ _ hr2
            have f3 := frozen_of_row w2 w.heap.size 3 _ _ hr2
            have f4 := frozen_of_row w2 w.heap.size 4 _ _ hr2
            replace hr2 := Lib.hid hr2
            go_wp2_with fail
            refine (hC.out _ hB2).mono ?_
            rintro e w3 ⟨rfl, hw⟩
            have hw2 := hw.symm
            clear hw
            subst hw2
            rw [c5]
            go_wp2_with fail
            obtain ⟨h5a, h5b⟩ := set5 w2 w.heap.size (.int .i64 t) (.int .i64 f) (.int .i64 (nb : Int)) (.slice B nb cb) (.slice S nb c) _ _ _ _ _ _ hr2.out
            exact bodyPost_ret (v := .tuple #[.agg #[.int .i64 t, .int .i64 f, .int .i64 (nb : Int), .slice B nb cb, .slice S nb c], .int .i64 0]) (results_row_tmp rfl _ _ w.heap.size 71 #[.int .i64 t, .int .i64 f, .int .i64 (nb : Int), .slice B nb cb, .slice S nb c] (0, 0) _ _ rfl rfl (h5a) Tryd.underlying71 (by rfl) (by kernel_rfl)) rfl ⟨rfl, hB2.grown h5b hB2.size (fun k e => by have := Option.some.inj e; omega)⟩
          | false =>
            rw [if_neg (fun h => by cases h.2.2)]
            go_enter Tryd.func33, Tryd.ntmps33
            go_wp2_with fail
            refine (hV.out _ hB1).mono ?_
            rintro e w2 ⟨rfl, hb2⟩
            rw [c4]
            have hr2 := (hb2.block w.heap.size (by simp)).trans hW1
            have x0 : w2.cell? ⟨w.heap.size, 0, none⟩ = some (.int .i64 t) := by rw [cell_of_row _ _ _ _ _ _ hr2]; rfl
            have x1 : w2.cell? ⟨w.heap.size, 1, none⟩ = some (.int .i64 f) := by rw [cell_of_row _ _ _ _ _ _ hr2]; rfl
            have x2 : w2.cell? ⟨w.heap.size, 2, none⟩ = some (.int .i64 (nb : Int)) := by rw [cell_of_row _ _ _ _ _ _ hr2]; rfl
            have x3 : w2.cell? ⟨w.heap.size, 3, none⟩ = some (.slice B nb cb) := by rw [cell_of_row _ _ _ _ _ _ hr2]; rfl
            have x4 : w2.cell? ⟨w.heap.size, 4, none⟩ = some (.slice S nb c) := by rw [cell_of_row _ _ _ _ _ _ hr2]; rfl
            have hB2 := hB1.trans (hb2.mono hB1.size)
            have f0 := frozen_of_row w2 w.heap.size 0 _ _ hr2
            have f1 := frozen_of_row w2 w.heap.size 1 _ _ hr2
            have f2 := frozen_of_row w2 w.heap.size 2 _ _ hr2
            have f3 := frozen_of_row w2 w.heap.size 3 _ _ hr2
            have f4 := frozen_of_row w2 w.heap.size 4 _ _ hr2
            replace hr2 := Lib.hid hr2
            go_wp2_with fail
            refine (hC.out _ hB2).mono ?_
            rintro e w3 ⟨rfl, hw⟩
            have hw2 := hw.symm
            clear hw
            subst hw2
            rw [c5]
            go_wp2_with fail
            obtain ⟨h5a, h5b⟩ := set5 w2 w.heap.size (.int .i64 t) (.int .i64 f) (.int .i64 (nb : Int)) (.slice B nb cb) (.slice S nb c) _ _ _ _ _ _ hr2.out
            exact bodyPost_ret (v := .tuple #[.agg #[.int .i64 t, .int .i64 f, .int .i64 (nb : Int), .slice B nb cb, .slice S nb c], .int .i64 390]) (results_row_tmp rfl _ _ w.heap.size 71 #[.int .i64 t, .int .i64 f, .int .i64 (nb : Int), .slice B nb cb, .slice S nb c] (0, 0) _ _ rfl rfl (h5a) Tryd.underlying71 (by rfl) (by kernel_rfl)) rfl ⟨rfl, hB2.grown h5b hB2.size (fun k e => by have := Option.some.inj e; omega)⟩
        | false =>
          rw [if_neg (fun h => by cases h.2.1)]
          go_enter Tryd.func33, Tryd.ntmps33
          go_wp2_with fail
          refine (hV.out _ hB1).mono ?_
          rintro e w2 ⟨rfl, hb2⟩
          rw [c4]
          have hr2 := (hb2.block w.heap.size (by simp)).trans hW1
          have x0 : w2.cell? ⟨w.heap.size, 0, none⟩ = some (.int .i64 t) := by rw [cell_of_row _ _ _ _ _ _ hr2]; rfl
          have x1 : w2.cell? ⟨w.heap.size, 1, none⟩ = some (.int .i64 f) := by rw [cell_of_row _ _ _ _ _ _ hr2]; rfl
          have x2 : w2.cell? ⟨w.heap.size, 2, none⟩ = some (.int .i64 (nb : Int)) := by rw [cell_of_row _ _ _ _ _ _ hr2]; rfl
          have x3 : w2.cell? ⟨w.heap.size, 3, none⟩ = some (.slice B nb cb) := by rw [cell_of_row _ _ _ _ _ _ hr2]; rfl
          have x4 : w2.cell? ⟨w.heap.size, 4, none⟩ = some (.slice S nb c) := by rw [cell_of_row _ _ _ _ _ _ hr2]; rfl
          have hB2 := hB1.trans (hb2.mono hB1.size)
          have f0 := frozen_of_row w2 w.heap.size 0 _ _ hr2
          have f1 := frozen_of_row w2 w.heap.size 1 _ _ hr2
          have f2 := frozen_of_row w2 w.heap.size 2 _ _ hr2
          have f3 := frozen_of_row w2 w.heap.size 3 _ _ hr2
          have f4 := frozen_of_row w2 w.heap.size 4 _ _ hr2
          replace hr2 := Lib.hid hr2
          go_wp2_with fail
          obtain ⟨h5a, h5b⟩ := set5 w2 w.heap.size (.int .i64 t) (.int .i64 f) (.int .i64 (nb : Int)) (.slice B nb cb) (.slice S nb c) _ _ _ _ _ _ hr2.out
          exact bodyPost_ret (v := .tuple #[.agg #[.int .i64 t, .int .i64 f, .int .i64 (nb : Int), .slice B nb cb, .slice S nb c], .int .i64 390]) (results_row_tmp rfl _ _ w.heap.size 71 #[.int .i64 t, .int .i64 f, .int .i64 (nb : Int), .slice B nb cb, .slice S nb c] (0, 0) _ _ rfl rfl (h5a) Tryd.underlying71 (by rfl) (by kernel_rfl)) rfl ⟨rfl, hB2.grown h5b hB2.size (fun k e => by have := Option.some.inj e; omega)⟩
      · rw [if_neg (fun h => c3 h.1)]
        have d3 : ((nb : Int) == (ns : Int)) = false := by simp; omega
        go_enter Tryd.func33, Tryd.ntmps33
        go_wp2_with fail
        exact bodyPost_ret (v := .tuple #[.agg #[.int .i64 t, .int .i64 f, .int .i64 (ns : Int), .slice B nb cb, .slice S ns c], .int .i64 390]) (results_row_tmp rfl _ _ w.heap.size 71 #[.int .i64 t, .int .i64 f, .int .i64 (ns : Int), .slice B nb cb, .slice S ns c] (0, 0) _ _ rfl rfl (hW1) Tryd.underlying71 (by rfl) (by kernel_rfl)) rfl ⟨rfl, hB1⟩
end Go.Proofs.YtnccbhndlnkboaaDoor
