/- The walk of sign.list. -/
import Derived.Test.YthokpfegfnpmhaaDoorRowFG
import Derived.Test.YthokpfegfnpmhaaDoorRPad
namespace Go.Proofs.YthokpfegfnpmhaaDoor
open Go.RowKit Cdc Sha
set_option linter.unusedVariables false
set_option linter.unusedSimpArgs false

/-- an argument of the type any -/
def ArgAt (w : World) (v : Value) (y : V) : Prop :=
  (∃ n : Int, v = .iface 3 (.int .i64 n) ∧ y = ⟨1, n, ⟨#[]⟩, []⟩) ∨ (∃ (A : Option Addr) (c : Nat) (xs : List UInt8), v = .iface 23 (.slice A xs.length c) ∧ y = ⟨2, 0, ⟨xs.toArray⟩, []⟩ ∧ AtO w A xs)
theorem ArgAt.below {w w' : World} {v : Value} {y : V} (h : ArgAt w v y) (hb : Below w.heap.size w w') : ArgAt w' v y := by
  rcases h with h | ⟨A, c, xs, h1, h2, h3⟩
  · exact .inl h
  · exact .inr ⟨A, c, xs, h1, h2, h3.below hb⟩
theorem ArgAt.atom {w : World} {v : Value} {y : V} (h : ArgAt w v y) : y.l = [] := by
  rcases h with ⟨n, _, rfl⟩ | ⟨A, c, xs, _, rfl, _⟩ <;> rfl
/-- a row of arguments -/
def ArgsAt (w : World) (cb : Nat) (l : List V) : Prop := ∀ i y, l[i]? = some y → ∃ v, w.cell? ⟨cb, i, none⟩ = some v ∧ ArgAt w v y
theorem ArgsAt.below {w w' : World} {cb : Nat} {l : List V} (h : ArgsAt w cb l) (hb : Below w.heap.size w w') : ArgsAt w' cb l := fun i y hi => by
  obtain ⟨v, hc, hv⟩ := h i y hi
  exact ⟨v, (hb.cell (p := ⟨cb, i, none⟩) (World.block_lt_of_cell? w _ hc)).trans hc, hv.below hb⟩
theorem dpL_atoms {l : List V} (h : ∀ y ∈ l, y.l = []) : dpL l ≤ 1 := by
  induction l with
  | nil => simp [dpL]
  | cons y l ih =>
    have h1 := ih fun z hz => h z (by simp [hz])
    have h2 := h y (by simp)
    obtain ⟨k, n, s, m⟩ := y
    dsimp only at h2
    subst h2
    simp [dpL, dp]
    omega
theorem take_snocV {l : List V} {k : Nat} {y : V} (h : l[k]? = some y) : l.take (k + 1) = l.take k ++ [y] := by
  rw [List.take_add_one, h]
  rfl

theorem ta_int (m : Int) (W : World) : (Instr.typeAssert (.iface 3 (.int .i64 m)) 20 3 true).run Tryd.prog W = .ok (.tuple #[.int .i64 m, .bool true]) W := by kernel_rfl
theorem ta_no (v : Value) (W : World) : (Instr.typeAssert (.iface 23 v) 20 3 true).run Tryd.prog W = .ok (.tuple #[.int .i64 0, .bool false]) W := by kernel_rfl
theorem ta_bytes (v : Value) (W : World) : (Instr.typeAssert (.iface 23 v) 20 23 true).run Tryd.prog W = .ok (.tuple #[v, .bool true]) W := by kernel_rfl

set_option maxRecDepth 100000 in
set_option maxHeartbeats 2000000 in
theorem list_any (l : List V) (cb n c : Nat) (hn : l.length = n) (hnm : n ≤ 100000) (w : World) (h : ArgsAt w cb l) (hsm : Sm ⟨3, 0, ⟨#[]⟩, l⟩) (hen : (enc ⟨3, 0, ⟨#[]⟩, l⟩).length ≤ 1000000000) :
    Calls Tryd.prog 80 #[.slice (some ⟨cb, 0, none⟩) n c] w (Fresh (encB ⟨3, 0, ⟨#[]⟩, l⟩) w) := by
  have hat : Hid (∀ y ∈ l, y.l = []) := Lib.hid fun y hy => by
    obtain ⟨i, hi⟩ := List.mem_iff_getElem?.1 hy
    obtain ⟨v, _, hv⟩ := h i y hi
    exact hv.atom
  replace hn := Lib.hid hn
  replace h := Lib.hid h
  unfold Fresh
  go_enter Tryd.func80, Tryd.ntmps80
  go_wp2_with fail
  have hv0 := heap_alloc_new w (.cells #[.int .i64 3, .int .i64 0, .string ⟨#[]⟩, .slice none 0 0] 80)
  have hB0 : Below w.heap.size w (w.alloc (.cells #[.int .i64 3, .int .i64 0, .string ⟨#[]⟩, .slice none 0 0] 80)) := (Below.refl _ _).alloc (Nat.le_refl _) _
  replace hv0 := Lib.hid hv0
  go_loopw [13] (fun s13 wr => ∃ (k : Nat) (row : Value), k ≤ n ∧ s13 = .int .i64 (k : Int) ∧ wr.heap[w.heap.size]? = some (.cells #[.int .i64 3, .int .i64 0, .string ⟨#[]⟩, row] 80 (0, 0)) ∧ RowF wr (w.heap.size + 1) row (l.take k) ∧ Below w.heap.size w wr) (fun s13 _ => n - (intOf s13).toNat)
  case atStart => exact ⟨0, _, by omega, rfl, hv0.out, RowF.nil _ _, hB0⟩
  case round =>
    clear hv0 hB0
    obtain ⟨k, row, hk, rfl, hv, hrow, hB⟩ := hrel
    have hlt0 := (Array.getElem?_eq_some_iff.1 hv).1
    by_cases hkn : k < n
    · obtain ⟨y, hy⟩ : ∃ y, l[k]? = some y := ⟨_, List.getElem?_eq_getElem (by rw [hn.out]; omega)⟩
      obtain ⟨v, hcv, hav⟩ := h.out.below hB k y hy
      have hts := Lib.hid (take_snocV hy)
      have hc3 : wr.cell? ⟨w.heap.size, 3, none⟩ = some row := by rw [cell_of_row _ _ _ _ _ _ hv]; rfl
      have hf3 := frozen_of_row wr w.heap.size 3 _ _ hv
      have hltk : Hid ((l.take k).length ≤ 1000000000) := Lib.hid (by rw [List.length_take]; omega)
      rcases hav with ⟨m, rfl, rfl⟩ | ⟨A, c2, xs, rfl, rfl, hA⟩
      · replace hv := Lib.hid hv
        have hta := ta_int
        have hnew : Hid (∀ (W : World) (g : Nat), g = W.heap.size → (W.alloc (.cells #[.int .i64 1, .int .i64 m, .string ⟨#[]⟩, .slice none 0 0] 80)).heap[g]? = some (.cells #[.int .i64 1, .int .i64 m, .string ⟨#[]⟩, .slice none 0 0] 80 (0, 0))) := Lib.hid fun W g hg => by subst hg; exact heap_alloc_new W _
        have hsz : w.heap.size + 1 ≤ wr.heap.size := hlt0
        replace hrow := Lib.hid hrow
        go_wp2_with (at_builtin; refine wpList_appF _ (by rfl) (.tmp 22) (.tmp 25) (by rfl) (w.heap.size + 1) row (l.take k) ⟨1, m, ⟨#[]⟩, []⟩ wr.heap.size (by rfl) (by rfl) (hrow.out.alloc _) (hnew.out _ _ rfl) hltk.out (by simp; omega) ?_; intro row' w2 hrow2 hg2; obtain ⟨A1, m1, c1, rfl⟩ := hrow2.form3; replace hrow2 := Lib.hid hrow2; have hv2 := (hg2.block w.heap.size (by simp; omega) (fun e => by have := (hrow.out.high e.symm).1; omega)).trans ((Below.heap_alloc wr _ w.heap.size (by omega)).trans hv.out); have hB2 : Below w.heap.size w w2 := (hB.alloc hB.size _).grown hg2 (by simp; omega) (fun g e => by have := (hrow.out.high e).1; omega); have hf2 := frozen_of_row w2 w.heap.size 3 _ _ hv2; have hc2 : w2.cell? ⟨w.heap.size, 3, none⟩ = some row := by rw [cell_of_row _ _ _ _ _ _ hv2]; rfl)
        replace hv2 := Lib.hid hv2
        go_roundw
        case rel =>
          have h3 := (heap_setCell_same w2 w.heap.size 3 _ _ (.slice A1 m1 c1) hv2.out).trans (show some (Obj.cells (#[.int .i64 3, .int .i64 0, .string ⟨#[]⟩, row].setIfInBounds 3 (.slice A1 m1 c1)) 80) = some (Obj.cells #[.int .i64 3, .int .i64 0, .string ⟨#[]⟩, .slice A1 m1 c1] 80) by simp)
          refine ⟨k + 1, _, by omega, by go_num, h3, ?_, hB2.setCell (p := ⟨w.heap.size, 3, none⟩) (Nat.le_refl _) _⟩
          rw [hts.out]
          exact ownsRow_setCell_below hrow2.out (a := ⟨w.heap.size, 3, none⟩) (Nat.lt_succ_self _) _
        case measure => simp [intOf]; omega
      · have hconv := hA.conv xs.length c2 rfl
        have hta := ta_no
        have htb := ta_bytes
        have hnew : Hid (∀ (W : World) (g : Nat), g = W.heap.size → (W.alloc (.cells #[.int .i64 2, .int .i64 0, .string ⟨xs.toArray⟩, .slice none 0 0] 80)).heap[g]? = some (.cells #[.int .i64 2, .int .i64 0, .string ⟨xs.toArray⟩, .slice none 0 0] 80 (0, 0))) := Lib.hid fun W g hg => by subst hg; exact heap_alloc_new W _
        have hsz : w.heap.size + 1 ≤ wr.heap.size := hlt0
        replace hv := Lib.hid hv
        replace hrow := Lib.hid hrow
        replace hA := Lib.hid hA
        go_wp2_with (at_builtin; refine wpList_appF _ (by rfl) (.tmp 32) (.tmp 36) (by rfl) (w.heap.size + 1) row (l.take k) ⟨2, 0, ⟨xs.toArray⟩, []⟩ wr.heap.size (by rfl) (by rfl) (hrow.out.alloc _) (hnew.out _ _ rfl) hltk.out (by simp; omega) ?_; intro row' w2 hrow2 hg2; obtain ⟨A1, m1, c1, rfl⟩ := hrow2.form3; replace hrow2 := Lib.hid hrow2; have hv2 := (hg2.block w.heap.size (by simp; omega) (fun e => by have := (hrow.out.high e.symm).1; omega)).trans ((Below.heap_alloc wr _ w.heap.size (by omega)).trans hv.out); have hB2 : Below w.heap.size w w2 := (hB.alloc hB.size _).grown hg2 (by simp; omega) (fun g e => by have := (hrow.out.high e).1; omega); have hf2 := frozen_of_row w2 w.heap.size 3 _ _ hv2; have hc2 : w2.cell? ⟨w.heap.size, 3, none⟩ = some row := by rw [cell_of_row _ _ _ _ _ _ hv2]; rfl)
        replace hv2 := Lib.hid hv2
        go_roundw
        case rel =>
          have h3 := (heap_setCell_same w2 w.heap.size 3 _ _ (.slice A1 m1 c1) hv2.out).trans (show some (Obj.cells (#[.int .i64 3, .int .i64 0, .string ⟨#[]⟩, row].setIfInBounds 3 (.slice A1 m1 c1)) 80) = some (Obj.cells #[.int .i64 3, .int .i64 0, .string ⟨#[]⟩, .slice A1 m1 c1] 80) by simp)
          refine ⟨k + 1, _, by omega, by go_num, h3, ?_, hB2.setCell (p := ⟨w.heap.size, 3, none⟩) (Nat.le_refl _) _⟩
          rw [hts.out]
          exact ownsRow_setCell_below hrow2.out (a := ⟨w.heap.size, 3, none⟩) (Nat.lt_succ_self _) _
        case measure => simp [intOf]; omega
    · have hkl : l.take k = l := List.take_of_length_le (by rw [hn.out]; omega)
      rw [hkl] at hrow
      obtain ⟨A1, m1, c1, rfl⟩ := hrow.form3
      have hrs := hrow.rs hat.out
      have hc0 : wr.cell? ⟨w.heap.size, 0, none⟩ = some (.int .i64 3) := by rw [cell_of_row _ _ _ _ _ _ hv]; rfl
      have hc1 : wr.cell? ⟨w.heap.size, 1, none⟩ = some (.int .i64 0) := by rw [cell_of_row _ _ _ _ _ _ hv]; rfl
      have hc2 : wr.cell? ⟨w.heap.size, 2, none⟩ = some (.string ⟨#[]⟩) := by rw [cell_of_row _ _ _ _ _ _ hv]; rfl
      have hc3 : wr.cell? ⟨w.heap.size, 3, none⟩ = some (.slice A1 m1 c1) := by rw [cell_of_row _ _ _ _ _ _ hv]; rfl
      have hdp : dp ⟨3, 0, ⟨#[]⟩, l⟩ ≤ 1000000000000 := by have := dpL_atoms hat.out; simp only [dp]; omega
      have hen2 := Lib.hid (encode_any 1 ⟨3, 0, ⟨#[]⟩, l⟩ (.slice A1 m1 c1) wr hrs hsm hdp hen)
      clear hkl hrow hrs hv
      go_wp2_with fail
      refine hen2.out.mono ?_
      unfold EncPost
      rintro e w2 ⟨v', rfl, ho, hh, hb⟩
      obtain ⟨A9, c9, rfl⟩ := ho.form
      replace ho := Lib.hid ho
      replace hh := Lib.hid hh
      go_wp2_with fail
      go_ret
      exact ⟨_, rfl, ho.out, fun g hg => Nat.le_trans hB.size (hh.out g hg), hB.trans (hb.mono hB.size)⟩
end Go.Proofs.YthokpfegfnpmhaaDoor
