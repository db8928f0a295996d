/- The walks of the reference's Ints (layer 1), in, Text and Digest (layer 35). -/
import Derived.Test.YthokpfegfnpmhaaDoorEqText
import Derived.Test.YthokpfegfnpmhaaDoorRefSig
import Derived.Test.YthokpfegfnpmhaaDoorMoreA
namespace Go.Proofs.YthokpfegfnpmhaaDoor
open Go.RowKit Go.Shelf Jac Cdc Sha
set_option linter.unusedVariables false
set_option linter.unusedSimpArgs false

theorem RowF.rsb {w : World} {b : Nat} {row : Value} {l : List V} (h : RowF w b row l) (hl : ∀ y ∈ l, y.l = []) : RSb (fun k => b ≤ k ∧ k < w.heap.size) w 1 l row := by
  rcases h.2 with ⟨rfl, h0⟩ | ⟨g, cap, cur, rfl, hb, hh, hc, _⟩
  · obtain rfl : l = [] := List.length_eq_zero_iff.1 h0
    exact RSb.nil _ _ _
  · refine ⟨some ⟨g, 0, none⟩, cap, rfl, hc, fun i y hy => ?_⟩
    have hlt : i < l.length := (List.getElem?_eq_some_iff.1 hy).1
    obtain ⟨f0, f1, f2, f3⟩ := flatF_at hy
    have hcell := fun j hj => World.ownsRow.cellAt h j hj
    refine ⟨g, 0, .slice none 0 0, rfl, ⟨hb, (Array.getElem?_eq_some_iff.1 hh).1⟩, ?_, ?_, ?_, ?_, hl y (List.mem_of_getElem? hy), none, 0, rfl⟩
    · rw [Nat.zero_add, hcell _ (by omega), f0]
    · rw [Nat.zero_add, hcell _ (by omega), f1]
    · rw [Nat.zero_add, hcell _ (by omega), f2]
    · rw [Nat.zero_add, hcell _ (by omega), f3]

/-- whole numbers that lie somewhere -/
def NsAt (w : World) (A : Option Addr) (l : List Int) : Prop := ∀ i n, l[i]? = some n → ∃ b o, A = some ⟨b, o, none⟩ ∧ b < w.heap.size ∧ w.cell? ⟨b, o + i, none⟩ = some (.int .i64 n)
theorem NsAt.below {w w' : World} {A : Option Addr} {l : List Int} (h : NsAt w A l) (hb : Below w.heap.size w w') : NsAt w' A l := fun i n hi => by
  obtain ⟨b, o, hA, hlt, hc⟩ := h i n hi
  exact ⟨b, o, hA, Nat.lt_of_lt_of_le hlt hb.size, (hb.cell (p := ⟨b, _, none⟩) hlt).trans hc⟩
theorem iV_atoms (l : List Int) : ∀ y ∈ l.map iV, y.l = [] := fun y hy => by
  obtain ⟨n, _, rfl⟩ := List.mem_map.1 hy
  rfl
theorem v_size (x : Value) : (Tryd.prog.info? 80).map (·.size) = some (#[Value.int .i64 3, Value.int .i64 0, Value.string ⟨#[]⟩, x] : Array Value).size := by
  have h : (Tryd.prog.info? 80).map (·.size) = some 4 := by kernel_rfl
  rw [h]; rfl
theorem v_one (A : Option Addr) (n c : Nat) : (#[Value.int .i64 3, Value.int .i64 0, Value.string ⟨#[]⟩, .slice A n c] : Array Value).all (·.oneCell') = true := by simp [Value.oneCell']

set_option maxRecDepth 100000 in
set_option maxHeartbeats 8000000 in
theorem rints_any (ns : List Int) (n : Nat) (A : Option Addr) (cp : Nat) (w : World) (hn : Hid (ns.length = n)) (hnm : n ≤ 1000000) (hc : n ≤ cp) (h : Hid (NsAt w A ns)) :
    Calls Tryd.prog 66 #[.slice A n cp] w fun e w' => ∃ A' c', e = .returned (.agg #[.int .i64 3, .int .i64 0, .string ⟨#[]⟩, .slice A' n c']) ∧ RSb (fun k => w.heap.size ≤ k ∧ k < w'.heap.size) w' 1 (ns.map iV) (.slice A' n c') ∧ Below w.heap.size w w' := by
  have hB0 : Below w.heap.size w ((w.alloc (.cells #[.int .i64 0, .int .i64 0, .string ⟨#[]⟩, .slice none 0 0] 80)).alloc (.cells #[.int .i64 3, .int .i64 0, .string ⟨#[]⟩, .slice none 0 0] 80)) := ((Below.refl _ _).alloc (Nat.le_refl _) _).alloc (by simp) _
  have hz0 := heap_alloc2_old w (.cells #[.int .i64 0, .int .i64 0, .string ⟨#[]⟩, .slice none 0 0] 80) (.cells #[.int .i64 3, .int .i64 0, .string ⟨#[]⟩, .slice none 0 0] 80)
  have hv0 := heap_alloc2_new w (.cells #[.int .i64 0, .int .i64 0, .string ⟨#[]⟩, .slice none 0 0] 80) (.cells #[.int .i64 3, .int .i64 0, .string ⟨#[]⟩, .slice none 0 0] 80)
  replace hz0 := Lib.hid hz0
  replace hv0 := Lib.hid hv0
  replace hB0 := Lib.hid hB0
  go_enter Tryd.func66, Tryd.ntmps66
  go_wp2_with fail
  go_loopw [4] (fun s4 wr => ∃ (k : Nat) (row : Value), k ≤ n ∧ s4 = .int .i64 (k : Int) ∧ wr.heap[w.heap.size]? = some (.cells #[.int .i64 0, .int .i64 0, .string ⟨#[]⟩, .slice none 0 0] 80 (0, 0)) ∧ wr.heap[w.heap.size + 1]? = some (.cells #[.int .i64 3, .int .i64 0, .string ⟨#[]⟩, row] 80 (0, 0)) ∧ RowF wr (w.heap.size + 1 + 1) row ((ns.take k).map iV) ∧ Below w.heap.size w wr) (fun s4 _ => n - (intOf s4).toNat)
  case atStart => exact ⟨0, _, Nat.zero_le _, rfl, hz0.out, hv0.out, RowF.nil _ _, hB0.out⟩
  case round =>
    clear hz0 hv0 hB0
    obtain ⟨k, row, hk, rfl, hz, hv, hrow, hB⟩ := hrel
    have hlt0 := (Array.getElem?_eq_some_iff.1 hv).1
    replace hz := Lib.hid hz
    by_cases hkn : k < n
    · obtain ⟨m, hm⟩ : ∃ m, ns[k]? = some m := ⟨_, List.getElem?_eq_getElem (by rw [hn.out]; exact hkn)⟩
      obtain ⟨b, ob, rfl, hbl0, hcm0⟩ := h.out k m hm
      have hbl : b < wr.heap.size := by omega
      have hcm := (hB.cell (p := ⟨b, ob + k, none⟩) hbl0).trans hcm0
      clear hcm0
      have hts : Hid ((ns.take (k + 1)).map iV = (ns.take k).map iV ++ [iV m]) := Lib.hid (by rw [take_snocA hm, List.map_append]; rfl)
      have hltk : Hid (((ns.take k).map iV).length ≤ 1000000000) := Lib.hid (by rw [List.length_map, List.length_take]; omega)
      have i0 : (0 : Int) ≤ (k : Int) := by omega
      have i1 : (k : Int) < (n : Int) := by omega
      have hS : Hid (∀ V, Below wr.heap.size wr V → V.cell? ⟨w.heap.size + 1, 3, none⟩ = some row ∧ V.cell? ⟨b, ob + k, none⟩ = some (.int .i64 m)) := Lib.hid fun V hV =>
        ⟨by rw [cell_of_row _ _ _ _ _ _ ((hV.block _ hlt0).trans hv)]; rfl, (hV.cell (p := ⟨b, ob + k, none⟩) hbl).trans hcm⟩
      have HB : Below wr.heap.size wr wr.drew := (Below.refl _ _).drew
      replace hv := Lib.hid hv
      replace hcm := Lib.hid hcm
      go_wp2_with fail
      refine wp_region_T 9 (fun w' => w'.cell? ⟨w.heap.size + 1, 3, none⟩ = some row ∧ w'.cell? ⟨b, ob + k, none⟩ = some (.int .i64 m)) (by kernel_rfl) (by exact hS.out _ HB) (fun hHeld => ?_)
      refine wpAnyT_take (i := 0) (oi := { dst := some 12, op := Op.fieldAddr 80 (Operand.tmp 3) 3, type := 0, pos := "ref.go:193", after := #[], guard := none }) (v := ?_) rfl (by kernel_rfl) (by kernel_rfl) (by kernel_rfl) (by kernel_rfl) (fun _ _ _ h => h) (Or.inl ⟨by rfl, ?hy0⟩) hHeld ?rest0
      case hy0 =>
        intro w hSw
        try dsimp only at hSw
        go_simp
        try with_reducible rfl
      try simp only [Act.put, List.setIfInBounds_toArray, List.set_cons_zero, List.set_cons_succ]
      refine wpAnyT_take (i := 1) (oi := { dst := some 13, op := Op.load 78 (Operand.tmp 12), type := 78, pos := "ref.go:193", after := #[{ on := 0, ground := Ground.data }], guard := none }) (v := ?_) rfl (by kernel_rfl) (by kernel_rfl) (by kernel_rfl) (by kernel_rfl) (fun _ _ _ h => h) (Or.inl ⟨by rfl, ?hy1⟩) hHeld ?rest1
      case hy1 =>
        intro w hSw
        try dsimp only at hSw
        go_simp
        try with_reducible rfl
      try simp only [Act.put, List.setIfInBounds_toArray, List.set_cons_zero, List.set_cons_succ]
      refine wpAnyT_take (i := 2) (oi := { dst := some 14, op := Op.move (Operand.tmp 0), type := 124, pos := "ref.go:193", after := #[], guard := none }) (v := ?_) rfl (by kernel_rfl) (by kernel_rfl) (by kernel_rfl) (by kernel_rfl) (fun _ _ _ h => h) (Or.inl ⟨by rfl, ?hy2⟩) hHeld ?rest2
      case hy2 =>
        intro w hSw
        try dsimp only at hSw
        go_simp
        try with_reducible rfl
      try simp only [Act.put, List.setIfInBounds_toArray, List.set_cons_zero, List.set_cons_succ]
      refine wpAnyT_take (i := 3) (oi := { dst := some 15, op := Op.move (Operand.tmp 4), type := 3, pos := "ref.go:193", after := #[], guard := none }) (v := ?_) rfl (by kernel_rfl) (by kernel_rfl) (by kernel_rfl) (by kernel_rfl) (fun _ _ _ h => h) (Or.inl ⟨by rfl, ?hy3⟩) hHeld ?rest3
      case hy3 =>
        intro w hSw
        try dsimp only at hSw
        go_simp
        try with_reducible rfl
      try simp only [Act.put, List.setIfInBounds_toArray, List.set_cons_zero, List.set_cons_succ]
      refine wpAnyT_take (i := 4) (oi := { dst := some 16, op := Op.indexAddr 124 (Operand.tmp 14) (Operand.tmp 15), type := 0, pos := "ref.go:193", after := #[{ on := 2, ground := Ground.data }, { on := 3, ground := Ground.data }], guard := none }) (v := ?_) rfl (by kernel_rfl) (by kernel_rfl) (by kernel_rfl) (by kernel_rfl) (fun _ _ _ h => h) (Or.inl ⟨by rfl, ?hy4⟩) hHeld ?rest4
      case hy4 =>
        intro w hSw
        try dsimp only at hSw
        go_simp
        try with_reducible rfl
      try simp only [Act.put, List.setIfInBounds_toArray, List.set_cons_zero, List.set_cons_succ]
      refine wpAnyT_take (i := 5) (oi := { dst := some 17, op := Op.load 3 (Operand.tmp 16), type := 3, pos := "ref.go:193", after := #[{ on := 4, ground := Ground.data }], guard := none }) (v := ?_) rfl (by kernel_rfl) (by kernel_rfl) (by kernel_rfl) (by kernel_rfl) (fun _ _ _ h => h) (Or.inl ⟨by rfl, ?hy5⟩) hHeld ?rest5
      case hy5 =>
        intro w hSw
        try dsimp only at hSw
        go_simp
        try with_reducible rfl
      try simp only [Act.put, List.setIfInBounds_toArray, List.set_cons_zero, List.set_cons_succ]
      refine wpAnyT_one (i := 6) (o := { dst := some 18, op := Op.call { callee := Callee.value (Operand.func 68), args := #[Operand.tmp 17], argTypes := #[3] }, type := 80, pos := "ref.go:193", after := #[{ on := 5, ground := Ground.data }], guard := none }) (by kernel_rfl) rfl (fun K hK => ?_)
      go_simp
      go_at_call 68
      refine (mint_any _ _).mono ?_
      rintro e w4 ⟨rfl, hb⟩
      replace HB := HB.trans (hb.mono HB.size)
      clear hb
      refine hK.out _ _ (by exact hS.out _ HB) (fun hHeld' => ?_)
      clear hK K hHeld
      have hHeld := hHeld'
      clear hHeld'
      try simp only [Act.put, List.setIfInBounds_toArray, List.set_cons_zero, List.set_cons_succ]
      refine wpAnyT_one (i := 7) (o := { dst := some 19, op := Op.buildSlice 78 1 #[(0, Operand.tmp 18)], type := 78, pos := "ref.go:193", after := #[{ on := 6, ground := Ground.data }], guard := none }) (by kernel_rfl) rfl (fun K hK => ?_)
      go_simp
      refine hK.out _ _ (by exact hS.out _ (HB.alloc HB.size _)) (fun hHeld' => ?_)
      clear hK K hHeld
      have hHeld := hHeld'
      clear hHeld'
      try simp only [Act.put, List.setIfInBounds_toArray, List.set_cons_zero, List.set_cons_succ]
      refine wpAnyT_one (i := 8) (o := { dst := some 20, op := Op.call { callee := Callee.builtin Builtin.append, args := #[Operand.tmp 13, Operand.tmp 19], argTypes := #[78, 78] }, type := 78, pos := "ref.go:193", after := #[{ on := 1, ground := Ground.data }, { on := 7, ground := Ground.data }, { on := 6, ground := Ground.chain }], guard := none }) (by kernel_rfl) rfl (fun K hK => ?_)
      have hz4 := HB.size
      refine step_appF _ (by rfl) (.tmp 13) (.tmp 19) (by rfl) (w.heap.size + 1 + 1) row ((ns.take k).map iV) (iV m) w4.heap.size (by rfl) (by rfl) (show RowF _ _ _ _ from ownsRow_below (w := wr) hrow (HB.alloc HB.size _)) (heap_alloc_new _ _) hltk.out (by simp; omega) ?_
      intro row' w5 hrow5 hg5
      obtain ⟨A1, m1, c1, rfl⟩ := hrow5.form3
      have HBa := HB.alloc HB.size (.cells #[.int .i64 1, .int .i64 m, .string ⟨#[]⟩, .slice none 0 0] 80)
      have hne : ∀ j, j < wr.heap.size → row.ownBlock ≠ some j → w5.heap[j]? = wr.heap[j]? := fun j hj hx => (hg5.block j (by simp; omega) (fun e => hx e.symm)).trans (HBa.block j hj)
      have hrh := fun g (e : row.ownBlock = some g) => hrow.high e
      have hv5 := (hne (w.heap.size + 1) hlt0 (fun e => by have := (hrh _ e).1; omega)).trans hv.out
      have hz5 := (hne w.heap.size (by omega) (fun e => by have := (hrh _ e).1; omega)).trans hz.out
      have hf5 := frozen_of_row w5 (w.heap.size + 1) 3 _ _ hv5
      have hc5 : w5.cell? ⟨w.heap.size + 1, 3, none⟩ = some row := by rw [cell_of_row _ _ _ _ _ _ hv5]; rfl
      have hrd5 : w5.cell? ⟨b, ob + k, none⟩ = some (.int .i64 m) := (World.cell?_of_block (a := ⟨b, ob + k, none⟩) (hne b hbl (fun e => by have := (hrh _ e).1; omega))).trans hcm.out
      clear hz4
      refine hK.out _ _ (by exact ⟨hc5, hrd5⟩) (fun hHeld' => ?_)
      clear hK K hHeld
      have hHeld := hHeld'
      clear hHeld'
      try simp only [Act.put, List.setIfInBounds_toArray, List.set_cons_zero, List.set_cons_succ]
      refine wpAnyT_tail (i := 9) (o := { dst := some 21, op := Op.fieldAddr 80 (Operand.tmp 3) 3, type := 0, pos := "ref.go:193", after := #[{ on := 0, ground := Ground.phase }, { on := 1, ground := Ground.phase }, { on := 2, ground := Ground.phase }, { on := 3, ground := Ground.phase }, { on := 4, ground := Ground.phase }, { on := 5, ground := Ground.phase }, { on := 6, ground := Ground.phase }, { on := 7, ground := Ground.phase }, { on := 8, ground := Ground.phase }], guard := none }) (by kernel_rfl) rfl (by rfl) (fun K hK => ?_)
      go_simp
      refine hK.out _ _ ?_
      clear hK K
      try simp only [Act.put, List.setIfInBounds_toArray, List.set_cons_zero, List.set_cons_succ]
      refine wpAnyT_tail (i := 10) (o := { dst := none, op := Op.store 78 (Operand.tmp 21) (Operand.tmp 20), type := 0, pos := "ref.go:193", after := #[{ on := 9, ground := Ground.data }, { on := 8, ground := Ground.data }, { on := 8, ground := Ground.chain }, { on := 0, ground := Ground.phase }, { on := 1, ground := Ground.phase }, { on := 2, ground := Ground.phase }, { on := 3, ground := Ground.phase }, { on := 4, ground := Ground.phase }, { on := 5, ground := Ground.phase }, { on := 6, ground := Ground.phase }, { on := 7, ground := Ground.phase }, { on := 8, ground := Ground.phase }], guard := none }) (by kernel_rfl) rfl (by rfl) (fun K hK => ?_)
      go_simp
      refine hK.out _ _ ?_
      clear hK K
      try simp only [Act.put, List.setIfInBounds_toArray, List.set_cons_zero, List.set_cons_succ]
      refine wpAnyT_done (by kernel_rfl) ?_ _
      have hBl : Below wr.heap.size wr w4 := HB
      go_wp2_with fail
      go_roundw
      case rel =>
        have h3 := (heap_setCell_same w5 (w.heap.size + 1) 3 _ _ (.slice A1 m1 c1) hv5).trans (show some (Obj.cells (#[.int .i64 3, .int .i64 0, .string ⟨#[]⟩, row].setIfInBounds 3 (.slice A1 m1 c1)) 80) = some (Obj.cells #[.int .i64 3, .int .i64 0, .string ⟨#[]⟩, .slice A1 m1 c1] 80) by simp)
        have hst := setCell_grown w5 (w.heap.size + 1) 3 (.slice A1 m1 c1)
        refine ⟨k + 1, _, by omega, by go_num, (hst.block w.heap.size (by have := (Array.getElem?_eq_some_iff.1 hz5).1; exact this) (fun e => by have := Option.some.inj e; omega)).trans hz5, h3, ?_, ((hB.trans (HBa.mono hB.size)).grown hg5 (hB.trans (HBa.mono hB.size)).size (fun g e => by have := (hrh g e).1; omega)).setCell (p := ⟨w.heap.size + 1, 3, none⟩) (by show w.heap.size ≤ w.heap.size + 1; omega) _⟩
        rw [hts.out]
        exact ownsRow_setCell_below hrow5 (a := ⟨w.heap.size + 1, 3, none⟩) (Nat.lt_succ_self _) _
      case measure => simp [intOf]; omega
    · obtain rfl : k = n := by omega
      have hkl : ns.take k = ns := List.take_of_length_le (by rw [hn.out]; omega)
      rw [hkl] at hrow
      have hrsb := hrow.rsb (iV_atoms ns)
      obtain ⟨A1, c1, he⟩ := hrow.form
      rw [List.length_map, hn.out] at he
      subst he
      have iv := Lib.hid (v_size (.slice A1 k c1))
      have ov := Lib.hid (v_one A1 k c1)
      have hzz : Hid ((#[.int .i64 0, .int .i64 0, .string ⟨#[]⟩, .slice none 0 0] : Array Value).size = (#[.int .i64 3, .int .i64 0, .string ⟨#[]⟩, .slice A1 k c1] : Array Value).size) := Lib.hid rfl
      replace hv := Lib.hid hv
      go_wp2_with (first
        | (refine wpList_load_row (by rfl) 80 (.tmp 3) (by rfl) (w.heap.size + 1) (by rfl) 80 #[.int .i64 3, .int .i64 0, .string ⟨#[]⟩, .slice A1 k c1] (0, 0) _ hv.out Tryd.underlying80 (by rfl) iv.out ?_)
        | (refine wpList_set_row (by rfl) 80 (.tmp 2) (.tmp 22) (by rfl) (by rfl) w.heap.size #[.int .i64 3, .int .i64 0, .string ⟨#[]⟩, .slice A1 k c1] (by rfl) (by rfl) 80 _ hz.out iv.out hzz.out ov.out ?_; intro w6 hd6 hz6 hg6))
      refine bodyPost_ret (v := .agg #[.int .i64 3, .int .i64 0, .string ⟨#[]⟩, .slice A1 k c1]) (results_cell_row rfl _ _ w.heap.size 80 #[.int .i64 3, .int .i64 0, .string ⟨#[]⟩, .slice A1 k c1] (0, 0) _ rfl hd6 Tryd.underlying80 (by rfl) iv.out) rfl ⟨A1, c1, rfl, ?_, hB.grown hg6 hB.size (fun g e => by have := Option.some.inj e; omega)⟩
      exact hrsb.keep (fun j hj => ⟨by omega, by rw [hz6]; exact hj.2⟩) fun j hj => hg6.block j hj.2 (fun e => by have := Option.some.inj e; omega)

set_option maxRecDepth 100000 in
set_option maxHeartbeats 1000000 in
theorem rin_true (n m : Int) (w : World) (h1 : -1 ≤ n) (h2 : n ≤ m) :
    Calls Tryd.prog 85 #[.int .i64 n, .int .i64 m] w fun e w' => e = .returned (.bool true) ∧ w' = w := by
  go_enter Tryd.func85, Tryd.ntmps85
  go_wp2_with fail
  go_ret
  exact ⟨rfl, rfl⟩
set_option maxRecDepth 100000 in
set_option maxHeartbeats 1000000 in
theorem rin_false (n m : Int) (w : World) (h : ¬ (-1 ≤ n ∧ n ≤ m)) :
    Calls Tryd.prog 85 #[.int .i64 n, .int .i64 m] w fun e w' => e = .returned (.bool false) ∧ w' = w := by
  by_cases h1 : ¬ -1 ≤ n
  · have h2 : decide (-1 ≤ n) = false := decide_eq_false h1
    clear h h1
    go_enter Tryd.func85, Tryd.ntmps85
    go_wp2_with fail
    go_ret
    exact ⟨rfl, rfl⟩
  · have h2 : decide (n ≤ m) = false := decide_eq_false (by omega)
    have h3 : decide (-1 ≤ n) = true := decide_eq_true (by omega)
    clear h h1
    go_enter Tryd.func85, Tryd.ntmps85
    go_wp2_with fail
    go_ret
    exact ⟨rfl, rfl⟩
theorem rencode_fit (d : Nat) (x : V) (v : Value) (w : World) (hv : RS w d x.l v) (hs : Sm x) (hd : dp x ≤ 1000000000000) (hlen : (enc x).length ≤ 1000000000) (hck : ckE x = 0) :
    Calls Tryd.prog 67 #[vv x v] w (EncC (enc x) w) := by
  refine (rEncode_any d x v w hv hs hd hlen).mono ?_
  unfold EncPost
  rw [hck, show encB x = enc x by unfold encB; rw [if_pos hck]]
  rintro e w' ⟨v', rfl, ho, hh, hB⟩
  obtain ⟨A, c, rfl⟩ := ho.form
  have hc := ho.cap
  exact ⟨A, _, c, rfl, rfl, hc.1, hc.2, ho.atO, hB⟩
theorem nsAt3 (W : World) (k : Nat) (hk : k = W.heap.size) (f : Fx) : NsAt (W.alloc (.cells #[.int .i64 f.d, .int .i64 f.g, .int .i64 f.s] 3)) (some ⟨k, 0, none⟩) [f.d, f.g, f.s] := fun i n hi => by
  subst hk
  have hr := heap_alloc_new W (.cells #[.int .i64 f.d, .int .i64 f.g, .int .i64 f.s] 3)
  have hcell := fun j => cell_of_row _ _ j _ _ _ hr
  match i, hi with
  | 0, hi =>
    obtain rfl : f.d = n := by simpa using hi
    exact ⟨W.heap.size, 0, rfl, by simp, by rw [hcell]; rfl⟩
  | 1, hi =>
    obtain rfl : f.g = n := by simpa using hi
    exact ⟨W.heap.size, 0, rfl, by simp, by rw [hcell]; rfl⟩
  | 2, hi =>
    obtain rfl : f.s = n := by simpa using hi
    exact ⟨W.heap.size, 0, rfl, by simp, by rw [hcell]; rfl⟩
  | i + 3, hi => simp at hi
/-- what a text's contract says -/
def TxC (bs : List UInt8) (W : World) (e : Ending) (w' : World) : Prop :=
  ∃ A m c, e = .returned (.slice A m c) ∧ bs.length = m ∧ m ≤ c ∧ c ≤ 9223372036854775807 ∧ AtO w' A bs ∧ Below W.heap.size W w'

set_option maxRecDepth 100000 in
set_option maxHeartbeats 8000000 in
theorem rctext_any (c : Cal) (n cp : Nat) (A : Option Addr) (w : World) (hn : Hid (c.fx.length = n)) (h0 : I64 c.no) (h3 : n ≤ 2000) (hc : n ≤ cp) (hA : Hid (FxAt w A c.fx)) (hI : Hid (∀ f ∈ c.fx, FxI f)) :
    Calls Tryd.prog 39 #[.agg #[.int .i64 c.no, .slice A n cp]] w (TxC (enc (calV c)) w) := by
  have hsm : Hid (Sm (calV c) ∧ (enc (calV c)).length ≤ 300000) := Lib.hid (cal_sm h0 (by rw [hn.out]; omega) hI.out)
  have hbox := heap_alloc_new w (.cells #[.int .i64 c.no, .slice A n cp] 45)
  have hBx : Below w.heap.size w (w.alloc (.cells #[.int .i64 c.no, .slice A n cp] 45)) := (Below.refl _ _).alloc (Nat.le_refl _) _
  unfold TxC
  go_enter Tryd.func39, Tryd.ntmps39
  go_wp2_with fail
  refine (mlist_any _ _ _ _).mono ?_
  rintro e w1 ⟨rfl, hb1⟩
  have hbox1 := (hb1.block w.heap.size (by simp)).trans hbox
  have hB1 := Lib.hid (hBx.trans (hb1.mono hBx.size))
  have hlt0 : w.heap.size < w1.heap.size := (Array.getElem?_eq_some_iff.1 hbox1).1
  have hq0 : w1.cell? ⟨w.heap.size, 0, none⟩ = some (.int .i64 c.no) := by rw [cell_of_row _ _ _ _ _ _ hbox1]; rfl
  have hq1 : w1.cell? ⟨w.heap.size, 1, none⟩ = some (.slice A n cp) := by rw [cell_of_row _ _ _ _ _ _ hbox1]; rfl
  clear hb1 hbox hBx hbox1
  go_wp2_with fail
  have hv0 := Lib.hid (heap_alloc_new w1 (.cells #[.int .i64 3, .int .i64 0, .string ⟨#[]⟩, .slice none 0 0] 80))
  have hBv : Below w1.heap.size w1 (w1.alloc (.cells #[.int .i64 3, .int .i64 0, .string ⟨#[]⟩, .slice none 0 0] 80)) := (Below.refl _ _).alloc (Nat.le_refl _) _
  go_loopw [4] (fun s4 wr => ∃ (k : Nat) (ps : List (V × Value)) (row : Value), k ≤ n ∧ s4 = .int .i64 (k : Int) ∧ Hid (ps.map (·.1) = (c.fx.take k).map fxV) ∧ wr.heap[w1.heap.size]? = some (.cells #[.int .i64 3, .int .i64 0, .string ⟨#[]⟩, row] 80 (0, 0)) ∧ RowV wr w1.heap.size 1 row ps ∧ Below w1.heap.size w1 wr) (fun s4 _ => n - (intOf s4).toNat)
  case atStart => exact ⟨0, [], _, Nat.zero_le _, rfl, Lib.hid (by simp), hv0.out, RowV.nil _ _ _, hBv⟩
  case round =>
    clear hv0 hBv
    obtain ⟨k, ps, row, hk, rfl, hps, hv, hrow, hB⟩ := hrel
    have hvlt := (Array.getElem?_eq_some_iff.1 hv).1
    have hpl : Hid (ps.length = k) := Lib.hid (by
      have := congrArg List.length hps.out
      simp [hn.out] at this
      omega)
    have hw0 := hB1.out.trans (hB.mono hB1.out.size)
    have p0 : wr.cell? ⟨w.heap.size, 0, none⟩ = some (.int .i64 c.no) := (hB.cell (p := ⟨w.heap.size, 0, none⟩) hlt0).trans hq0
    have p9 : wr.cell? ⟨w.heap.size, 1, none⟩ = some (.slice A n cp) := (hB.cell (p := ⟨w.heap.size, 1, none⟩) hlt0).trans hq1
    by_cases hkn : k < n
    · obtain ⟨f, hf⟩ : ∃ f, c.fx[k]? = some f := ⟨_, List.getElem?_eq_getElem (by rw [hn.out]; exact hkn)⟩
      obtain ⟨b, ob, rfl, hblt, g0, g1, g2⟩ := hA.out.below hw0 k f hf
      have i0 : (0 : Int) ≤ (k : Int) := by omega
      have i1 : (k : Int) < (n : Int) := by omega
      have hv9 := Lib.hid hv
      go_wp2_with fail
      have hrw := heap_alloc_new wr (.cells #[.int .i64 f.d, .int .i64 f.g, .int .i64 f.s] 90)
      have hWr : Hid (Below wr.heap.size wr (wr.alloc (.cells #[.int .i64 f.d, .int .i64 f.g, .int .i64 f.s] 90))) := Lib.hid ((Below.refl _ _).alloc (Nat.le_refl _) _)
      obtain ⟨W, hW⟩ : ∃ W, wr.alloc (.cells #[.int .i64 f.d, .int .i64 f.g, .int .i64 f.s] 90) = W := ⟨_, rfl⟩
      rw [hW] at hrw hWr ⊢
      clear hW
      have hrwlt := (Array.getElem?_eq_some_iff.1 hrw).1
      have hvW := (hWr.out.block w1.heap.size hvlt).trans hv
      have hS : Hid (∀ V, Below W.heap.size W V → V.cell? ⟨w1.heap.size, 3, none⟩ = some row ∧ V.cell? ⟨wr.heap.size, 0, none⟩ = some (.int .i64 f.d) ∧ V.cell? ⟨wr.heap.size, 1, none⟩ = some (.int .i64 f.g) ∧ V.cell? ⟨wr.heap.size, 2, none⟩ = some (.int .i64 f.s)) := Lib.hid fun V hV =>
        ⟨by rw [cell_of_row _ _ _ _ _ _ ((hV.block w1.heap.size (by omega)).trans hvW)]; rfl, by rw [cell_of_row _ _ _ _ _ _ ((hV.block wr.heap.size hrwlt).trans hrw)]; rfl, by rw [cell_of_row _ _ _ _ _ _ ((hV.block wr.heap.size hrwlt).trans hrw)]; rfl, by rw [cell_of_row _ _ _ _ _ _ ((hV.block wr.heap.size hrwlt).trans hrw)]; rfl⟩
      have HB : Below W.heap.size W W.drew := (Below.refl _ _).drew
      refine wp_region_T 12 (fun w' => w'.cell? ⟨w1.heap.size, 3, none⟩ = some row ∧ w'.cell? ⟨wr.heap.size, 0, none⟩ = some (.int .i64 f.d) ∧ w'.cell? ⟨wr.heap.size, 1, none⟩ = some (.int .i64 f.g) ∧ w'.cell? ⟨wr.heap.size, 2, none⟩ = some (.int .i64 f.s)) (by kernel_rfl) (by exact hS.out _ HB) (fun hHeld => ?_)
      refine wpAnyT_take (i := 0) (oi := { dst := some 21, op := Op.fieldAddr 80 (Operand.tmp 3) 3, type := 0, pos := "ref.go:148", after := #[], guard := none }) (v := ?_) rfl (by kernel_rfl) (by kernel_rfl) (by kernel_rfl) (by kernel_rfl) (fun _ _ _ h => h) (Or.inl ⟨by rfl, ?hya0⟩) hHeld ?resta0
      case hya0 =>
        intro w hSw
        try dsimp only at hSw
        go_simp
        try with_reducible rfl
      try simp only [Act.put, List.setIfInBounds_toArray, List.set_cons_zero, List.set_cons_succ]
      refine wpAnyT_take (i := 1) (oi := { dst := some 22, op := Op.load 78 (Operand.tmp 21), type := 78, pos := "ref.go:148", after := #[{ on := 0, ground := Ground.data }], guard := none }) (v := ?_) rfl (by kernel_rfl) (by kernel_rfl) (by kernel_rfl) (by kernel_rfl) (fun _ _ _ h => h) (Or.inl ⟨by rfl, ?hya1⟩) hHeld ?resta1
      case hya1 =>
        intro w hSw
        try dsimp only at hSw
        go_simp
        try with_reducible rfl
      try simp only [Act.put, List.setIfInBounds_toArray, List.set_cons_zero, List.set_cons_succ]
      refine wpAnyT_take (i := 2) (oi := { dst := some 23, op := Op.fieldAddr 90 (Operand.tmp 5) 0, type := 0, pos := "ref.go:148", after := #[], guard := none }) (v := ?_) rfl (by kernel_rfl) (by kernel_rfl) (by kernel_rfl) (by kernel_rfl) (fun _ _ _ h => h) (Or.inl ⟨by rfl, ?hya2⟩) hHeld ?resta2
      case hya2 =>
        intro w hSw
        try dsimp only at hSw
        go_simp
        try with_reducible rfl
      try simp only [Act.put, List.setIfInBounds_toArray, List.set_cons_zero, List.set_cons_succ]
      refine wpAnyT_take (i := 3) (oi := { dst := some 24, op := Op.load 3 (Operand.tmp 23), type := 3, pos := "ref.go:148", after := #[{ on := 2, ground := Ground.data }], guard := none }) (v := ?_) rfl (by kernel_rfl) (by kernel_rfl) (by kernel_rfl) (by kernel_rfl) (fun _ _ _ h => h) (Or.inl ⟨by rfl, ?hya3⟩) hHeld ?resta3
      case hya3 =>
        intro w hSw
        try dsimp only at hSw
        go_simp
        try with_reducible rfl
      try simp only [Act.put, List.setIfInBounds_toArray, List.set_cons_zero, List.set_cons_succ]
      refine wpAnyT_take (i := 4) (oi := { dst := some 25, op := Op.fieldAddr 90 (Operand.tmp 5) 1, type := 0, pos := "ref.go:148", after := #[], guard := none }) (v := ?_) rfl (by kernel_rfl) (by kernel_rfl) (by kernel_rfl) (by kernel_rfl) (fun _ _ _ h => h) (Or.inl ⟨by rfl, ?hya4⟩) hHeld ?resta4
      case hya4 =>
        intro w hSw
        try dsimp only at hSw
        go_simp
        try with_reducible rfl
      try simp only [Act.put, List.setIfInBounds_toArray, List.set_cons_zero, List.set_cons_succ]
      refine wpAnyT_take (i := 5) (oi := { dst := some 26, op := Op.load 3 (Operand.tmp 25), type := 3, pos := "ref.go:148", after := #[{ on := 4, ground := Ground.data }], guard := none }) (v := ?_) rfl (by kernel_rfl) (by kernel_rfl) (by kernel_rfl) (by kernel_rfl) (fun _ _ _ h => h) (Or.inl ⟨by rfl, ?hya5⟩) hHeld ?resta5
      case hya5 =>
        intro w hSw
        try dsimp only at hSw
        go_simp
        try with_reducible rfl
      try simp only [Act.put, List.setIfInBounds_toArray, List.set_cons_zero, List.set_cons_succ]
      refine wpAnyT_take (i := 6) (oi := { dst := some 27, op := Op.fieldAddr 90 (Operand.tmp 5) 2, type := 0, pos := "ref.go:148", after := #[], guard := none }) (v := ?_) rfl (by kernel_rfl) (by kernel_rfl) (by kernel_rfl) (by kernel_rfl) (fun _ _ _ h => h) (Or.inl ⟨by rfl, ?hya6⟩) hHeld ?resta6
      case hya6 =>
        intro w hSw
        try dsimp only at hSw
        go_simp
        try with_reducible rfl
      try simp only [Act.put, List.setIfInBounds_toArray, List.set_cons_zero, List.set_cons_succ]
      refine wpAnyT_take (i := 7) (oi := { dst := some 28, op := Op.load 3 (Operand.tmp 27), type := 3, pos := "ref.go:148", after := #[{ on := 6, ground := Ground.data }], guard := none }) (v := ?_) rfl (by kernel_rfl) (by kernel_rfl) (by kernel_rfl) (by kernel_rfl) (fun _ _ _ h => h) (Or.inl ⟨by rfl, ?hya7⟩) hHeld ?resta7
      case hya7 =>
        intro w hSw
        try dsimp only at hSw
        go_simp
        try with_reducible rfl
      try simp only [Act.put, List.setIfInBounds_toArray, List.set_cons_zero, List.set_cons_succ]
      refine wpAnyT_one (i := 8) (o := { dst := some 29, op := Op.buildSlice 124 3 #[(0, Operand.tmp 24), (1, Operand.tmp 26), (2, Operand.tmp 28)], type := 124, pos := "ref.go:148", after := #[{ on := 3, ground := Ground.data }, { on := 5, ground := Ground.data }, { on := 7, ground := Ground.data }], guard := none }) (by kernel_rfl) rfl (fun K hK => ?_)
      have HB0 := HB
      go_simp
      refine hK.out _ _ (by exact hS.out _ (HB.alloc HB.size _)) (fun hHeld' => ?_)
      clear hK K hHeld
      have hHeld := hHeld'
      clear hHeld'
      try simp only [Act.put, List.setIfInBounds_toArray, List.set_cons_zero, List.set_cons_succ]
      refine wpAnyT_one (i := 9) (o := { dst := some 30, op := Op.call { callee := Callee.value (Operand.func 66), args := #[Operand.tmp 29], argTypes := #[124] }, type := 80, pos := "ref.go:148", after := #[{ on := 8, ground := Ground.data }], guard := none }) (by kernel_rfl) rfl (fun K hK => ?_)
      go_simp
      go_at_call 66
      refine (rints_any [f.d, f.g, f.s] 3 (some ⟨W.heap.size, 0, none⟩) 3 ((W.alloc (.cells #[.int .i64 f.d, .int .i64 f.g, .int .i64 f.s] 3)).drew) (Lib.hid rfl) (by decide) (by decide) (Lib.hid (show NsAt ((W.alloc (.cells #[.int .i64 f.d, .int .i64 f.g, .int .i64 f.s] 3)).drew) _ _ from nsAt3 W _ rfl f))).mono ?_
      rintro e wL ⟨A7, c7, rfl, hrs7, hbL⟩
      have hBi : Below W.heap.size W ((W.alloc (.cells #[.int .i64 f.d, .int .i64 f.g, .int .i64 f.s] 3)).drew) := ((Below.refl _ _).alloc (Nat.le_refl _) _).drew
      replace HB := hBi.trans (hbL.mono hBi.size)
      refine hK.out _ _ (by exact hS.out _ HB) (fun hHeld' => ?_)
      clear hK K hHeld
      have hHeld := hHeld'
      clear hHeld'
      try simp only [Act.put, List.setIfInBounds_toArray, List.set_cons_zero, List.set_cons_succ]
      refine wpAnyT_one (i := 10) (o := { dst := some 31, op := Op.buildSlice 78 1 #[(0, Operand.tmp 30)], type := 78, pos := "ref.go:148", after := #[{ on := 9, ground := Ground.data }], guard := none }) (by kernel_rfl) rfl (fun K hK => ?_)
      go_simp
      refine hK.out _ _ (by exact hS.out _ (HB.alloc HB.size _)) (fun hHeld' => ?_)
      clear hK K hHeld
      have hHeld := hHeld'
      clear hHeld'
      try simp only [Act.put, List.setIfInBounds_toArray, List.set_cons_zero, List.set_cons_succ]
      refine wpAnyT_one (i := 11) (o := { dst := some 32, op := Op.call { callee := Callee.builtin Builtin.append, args := #[Operand.tmp 22, Operand.tmp 31], argTypes := #[78, 78] }, type := 78, pos := "ref.go:148", after := #[{ on := 1, ground := Ground.data }, { on := 10, ground := Ground.data }, { on := 9, ground := Ground.chain }], guard := none }) (by kernel_rfl) rfl (fun K hK => ?_)
      refine step_appV _ (by rfl) (.tmp 22) (.tmp 31) (by rfl) w1.heap.size row ps (fxV f, .slice A7 3 c7) wL.heap.size (by rfl) (by rfl) (hrow.below (hWr.out.trans (HB.mono hWr.out.size) |>.alloc (hWr.out.trans (HB.mono hWr.out.size)).size _)).own (heap_alloc_new _ _) ⟨_, _, rfl⟩ (by have := hpl.out; omega) (by have := hWr.out.size; have := HB.size; simp; omega) ?_
      intro row' w3 hown3 hg3 hlie3
      obtain ⟨g3, cap3, rfl, _, _⟩ := hown3.form (by simp)
      have hold3 : ∀ j, j < W.heap.size → row.ownBlock ≠ some j → w3.heap[j]? = W.heap[j]? := fun j hj hne => (hg3.block j (by have := HB.size; simp; omega) (fun e => hne e.symm)).trans (((HB.alloc HB.size _).block j hj))
      have hb3 : w3.heap[w1.heap.size]? = some (.cells #[.int .i64 3, .int .i64 0, .string ⟨#[]⟩, row] 80 (0, 0)) := (hold3 _ (by omega) (fun e => by have := (hrow.lt e).1; omega)).trans hvW
      have hr3 : w3.heap[wr.heap.size]? = some (.cells #[.int .i64 f.d, .int .i64 f.g, .int .i64 f.s] 90 (0, 0)) := (hold3 _ hrwlt (fun e => by have := (hrow.lt e).2; omega)).trans hrw
      obtain ⟨⟨t0, t1, t2, t3⟩, _, _, _, e3⟩ := cells4 hb3
      refine hK.out _ _ (by exact ⟨t3, by rw [cell_of_row _ _ _ _ _ _ hr3]; rfl, by rw [cell_of_row _ _ _ _ _ _ hr3]; rfl, by rw [cell_of_row _ _ _ _ _ _ hr3]; rfl⟩) (fun hHeld' => ?_)
      clear hK K hHeld
      have hHeld := hHeld'
      clear hHeld'
      try simp only [Act.put, List.setIfInBounds_toArray, List.set_cons_zero, List.set_cons_succ]
      refine wpAnyT_tail (i := 12) (o := { dst := some 33, op := Op.fieldAddr 80 (Operand.tmp 3) 3, type := 0, pos := "ref.go:148", after := #[{ on := 0, ground := Ground.phase }, { on := 1, ground := Ground.phase }, { on := 2, ground := Ground.phase }, { on := 3, ground := Ground.phase }, { on := 4, ground := Ground.phase }, { on := 5, ground := Ground.phase }, { on := 6, ground := Ground.phase }, { on := 7, ground := Ground.phase }, { on := 8, ground := Ground.phase }, { on := 9, ground := Ground.phase }, { on := 10, ground := Ground.phase }, { on := 11, ground := Ground.phase }], guard := none }) (by kernel_rfl) rfl (by rfl) (fun K hK => ?_)
      go_simp
      refine hK.out _ _ ?_
      clear hK K
      try simp only [Act.put, List.setIfInBounds_toArray, List.set_cons_zero, List.set_cons_succ]
      refine wpAnyT_tail (i := 13) (o := { dst := none, op := Op.store 78 (Operand.tmp 33) (Operand.tmp 32), type := 0, pos := "ref.go:148", after := #[{ on := 12, ground := Ground.data }, { on := 11, ground := Ground.data }, { on := 11, ground := Ground.chain }, { on := 0, ground := Ground.phase }, { on := 1, ground := Ground.phase }, { on := 2, ground := Ground.phase }, { on := 3, ground := Ground.phase }, { on := 4, ground := Ground.phase }, { on := 5, ground := Ground.phase }, { on := 6, ground := Ground.phase }, { on := 7, ground := Ground.phase }, { on := 8, ground := Ground.phase }, { on := 9, ground := Ground.phase }, { on := 10, ground := Ground.phase }, { on := 11, ground := Ground.phase }], guard := none }) (by kernel_rfl) rfl (by rfl) (fun K hK => ?_)
      go_simp
      refine hK.out _ _ ?_
      clear hK K
      try simp only [Act.put, List.setIfInBounds_toArray, List.set_cons_zero, List.set_cons_succ]
      refine wpAnyT_done (by kernel_rfl) ?_ _
      go_wp2_with fail
      go_roundw
      case rel =>
        have h3 := (heap_setCell_same w3 w1.heap.size 3 _ _ (.slice (some ⟨g3, 0, none⟩) (ps ++ [(fxV f, Value.slice A7 3 c7)]).length cap3) hb3).trans (show some (Obj.cells (#[.int .i64 3, .int .i64 0, .string ⟨#[]⟩, row].setIfInBounds 3 (.slice (some ⟨g3, 0, none⟩) (ps ++ [(fxV f, Value.slice A7 3 c7)]).length cap3)) 80) = some (Obj.cells #[.int .i64 3, .int .i64 0, .string ⟨#[]⟩, .slice (some ⟨g3, 0, none⟩) (ps ++ [(fxV f, Value.slice A7 3 c7)]).length cap3] 80) by simp)
        have hBL : Below wr.heap.size wr wL := hWr.out.trans (HB.mono hWr.out.size)
        have hwz := hWr.out.size
        have hp : RSb (fun j => wr.heap.size ≤ j ∧ j < wL.heap.size) wL 1 (fxV f).l (.slice A7 3 c7) := hrs7.keep (fun j hj => ⟨by have h1 := hj.1; have h2 := hBi.size; omega, hj.2⟩) (fun _ _ => rfl)
        have hst : w3.grownBy (w3.setCell ⟨w1.heap.size, 3, none⟩ (.slice (some ⟨g3, 0, none⟩) (ps ++ [(fxV f, Value.slice A7 3 c7)]).length cap3)) (some w1.heap.size) := setCell_grown _ _ _ _
        have hrow2 := RowV.put hrow hvlt hBL hp hown3 hg3 hlie3 hst
        have hB3 := hB.trans (hBL.mono hB.size)
        have hlen2 : (ps ++ [(fxV f, Value.slice A7 3 c7)]).length = ps.length + 1 := by simp
        rw [hlen2] at h3 hrow2
        refine ⟨k + 1, ps ++ [(fxV f, Value.slice A7 3 c7)], _, by omega, by go_num, ?_, h3, hrow2, ((hB3.alloc hB3.size _).grown hg3 (hB3.alloc hB3.size _).size (fun g e => by have := (hrow.lt e).1; omega)).setCell (p := ⟨w1.heap.size, 3, none⟩) (Nat.le_refl _) _⟩
        refine Lib.hid ?_
        rw [take_snocA hf, List.map_append, List.map_append, hps.out]
        rfl
      case measure => simp [intOf]; omega
    · obtain rfl : k = n := by omega
      have hkl : c.fx.take k = c.fx := List.take_of_length_le (by rw [hn.out]; omega)
      have hps2 := hps.out
      rw [hkl] at hps2
      have hrs2 := hrow.rsb.rs (fun j hj => hj.2)
      obtain ⟨A3, c3, hrowe⟩ := hrow.rsb.form
      generalize hm3 : (ps.map (·.1)).length = m3 at hrowe
      subst hrowe
      rw [hps2] at hrs2
      have p1 : wr.cell? ⟨w1.heap.size, 0, none⟩ = some (.int .i64 3) := by rw [cell_of_row _ _ _ _ _ _ hv]; rfl
      have p2 : wr.cell? ⟨w1.heap.size, 1, none⟩ = some (.int .i64 0) := by rw [cell_of_row _ _ _ _ _ _ hv]; rfl
      have p3 : wr.cell? ⟨w1.heap.size, 2, none⟩ = some (.string ⟨#[]⟩) := by rw [cell_of_row _ _ _ _ _ _ hv]; rfl
      have p4 : wr.cell? ⟨w1.heap.size, 3, none⟩ = some (.slice A3 m3 c3) := by rw [cell_of_row _ _ _ _ _ _ hv]; rfl
      have hlw : w.heap.size < wr.heap.size := by omega
      have hS : Hid (∀ w', Below wr.heap.size wr w' → w'.cell? ⟨w.heap.size, 0, none⟩ = some (.int .i64 c.no) ∧ w'.cell? ⟨w1.heap.size, 0, none⟩ = some (.int .i64 3) ∧ w'.cell? ⟨w1.heap.size, 1, none⟩ = some (.int .i64 0) ∧ w'.cell? ⟨w1.heap.size, 2, none⟩ = some (.string ⟨#[]⟩) ∧ w'.cell? ⟨w1.heap.size, 3, none⟩ = some (.slice A3 m3 c3)) := Lib.hid fun V hV =>
        ⟨(hV.cell (p := ⟨w.heap.size, 0, none⟩) hlw).trans p0, (hV.cell (p := ⟨w1.heap.size, 0, none⟩) hvlt).trans p1, (hV.cell (p := ⟨w1.heap.size, 1, none⟩) hvlt).trans p2, (hV.cell (p := ⟨w1.heap.size, 2, none⟩) hvlt).trans p3, (hV.cell (p := ⟨w1.heap.size, 3, none⟩) hvlt).trans p4⟩
      have henc : Hid (∀ (W : World) (j : Nat), j = W.heap.size → Below wr.heap.size wr W → ∀ W2, Below (W.alloc (.cells #[.int .i64 1, .int .i64 c.no, .string ⟨#[]⟩, .slice none 0 0, .int .i64 3, .int .i64 0, .string ⟨#[]⟩, .slice A3 m3 c3] 80)).heap.size (W.alloc (.cells #[.int .i64 1, .int .i64 c.no, .string ⟨#[]⟩, .slice none 0 0, .int .i64 3, .int .i64 0, .string ⟨#[]⟩, .slice A3 m3 c3] 80)) W2 →
          Calls Tryd.prog 67 #[.agg #[.int .i64 3, .int .i64 0, .string ⟨#[]⟩, .slice (some ⟨j, 0, none⟩) 2 2]] W2 (EncC (enc (calV c)) W2)) := Lib.hid fun W j hj hBW W2 hB2 =>
        rencode_fit 3 (calV c) (.slice (some ⟨j, 0, none⟩) 2 2) W2 (rs_two W j hj (iV c.no) (lV (c.fx.map fxV)) (.slice none 0 0) (.slice A3 m3 c3) 2 W2 hB2 (RS.nil _ _ _ _) (hrs2.below (hBW.trans (((Below.refl _ W).alloc (Nat.le_refl _) _).trans (hB2.mono (by simp)) |>.mono hBW.size)))) hsm.out.1 (by have := dp_calV c; omega) (by have := hsm.out.2; omega) (ck_cal c)
      have HB : Below wr.heap.size wr wr.drew := (Below.refl _ _).drew
      clear hps hrow hv hrs2 hps2 hkl hpl hm3 hq0 hq1
      go_wp2_with fail
      go_region_held3 (fun w' => w'.cell? ⟨w.heap.size, 0, none⟩ = some (.int .i64 c.no) ∧ w'.cell? ⟨w1.heap.size, 0, none⟩ = some (.int .i64 3) ∧ w'.cell? ⟨w1.heap.size, 1, none⟩ = some (.int .i64 0) ∧ w'.cell? ⟨w1.heap.size, 2, none⟩ = some (.string ⟨#[]⟩) ∧ w'.cell? ⟨w1.heap.size, 3, none⟩ = some (.slice A3 m3 c3))
        (first
          | exact hS.out _ HB
          | exact hS.out _ (HB.alloc HB.size _)
          | exact hS.out _ (Below.refl _ _)
          | go_keep)
        (first
          | (go_at_call 68; (with_reducible refine (mint_any _ _).mono ?_); rintro e w4 ⟨rfl, hb⟩; replace HB := HB.trans (hb.mono HB.size); clear hb)
          | (go_at_call 65; refine (mlist_any _ _ _ _).mono ?_; rintro e w5 ⟨rfl, hb4⟩; have HB4 := HB; replace HB := (HB.alloc HB.size _).trans (hb4.mono (HB.alloc HB.size _).size))
          | (go_at_call 67; refine (henc.out _ _ rfl HB4 _ hb4).mono ?_; unfold EncC; rintro e w6 ⟨A6, m6, c6, rfl, hm6, hc6, hcm6, hat6, hb6⟩; replace HB := HB.trans (hb6.mono HB.size)))
      have hB6 := Lib.hid (hw0.trans (HB.mono hw0.size))
      replace hm6 := Lib.hid hm6
      replace hat6 := Lib.hid hat6
      clear hS henc hb4 hb6 HB4 HB p0 p1 p2 p3 p4 p9
      go_wp2_with fail
      go_ret
      exact ⟨A6, m6, c6, rfl, hm6.out, hc6, hcm6, hat6.out, hB6.out⟩
set_option maxRecDepth 100000 in
set_option maxHeartbeats 8000000 in
theorem rcdig_bad (c : Cal) (n cp : Nat) (A : Option Addr) (w : World) (h : c.no < 0 ∨ 1048576 < c.no ∨ 1024 < n) :
    Calls Tryd.prog 58 #[.agg #[.int .i64 c.no, .slice A n cp]] w fun e w' => e = .returned (.tuple #[.agg (dg zero32), .int .i64 350]) ∧ Below w.heap.size w w' := by
  have hiZ := Lib.hid (dg_info zero32 zero32_len)
  have hoZ := Lib.hid (dg_one zero32)
  have hsZ : Hid ((dg zero32).size = (dg zero32).size) := Lib.hid rfl
  have hB : Below w.heap.size w ((w.alloc (.cells #[.int .i64 c.no, .slice A n cp] 45)).alloc (.cells (dg zero32) 35)) := ((Below.refl _ _).alloc (Nat.le_refl _) _).alloc (by simp) _
  have hdZ := Lib.hid (heap_alloc2_new w (.cells #[.int .i64 c.no, .slice A n cp] 45) (.cells (dg zero32) 35))
  by_cases h1 : c.no < 0
  · go_enter Tryd.func58, Tryd.ntmps58
    go_wp2_with (refine wpList_set_row (by rfl) 35 (.tmp 2) (.tmp 20) (by rfl) (by rfl) (w.heap.size + 1) (dg zero32) (by rfl) (by rfl) 35 _ hdZ.out hiZ.out rfl hoZ.out ?_; intro w6 hd6 hz6 hg6; replace hd6 := Lib.hid hd6)
    refine bodyPost_ret (v := .tuple #[.agg (dg zero32), .int .i64 350]) (results_row_tmp rfl _ _ (w.heap.size + 1) 35 (dg zero32) (0, 0) _ _ rfl rfl hd6.out Tryd.underlying35 (by rfl) hiZ.out) rfl ⟨rfl, hB.grown hg6 hB.size (fun k e => by have := Option.some.inj e; omega)⟩
  
  by_cases h2 : 1048576 < c.no
  · go_enter Tryd.func58, Tryd.ntmps58
    go_wp2_with (refine wpList_set_row (by rfl) 35 (.tmp 2) (.tmp 20) (by rfl) (by rfl) (w.heap.size + 1) (dg zero32) (by rfl) (by rfl) 35 _ hdZ.out hiZ.out rfl hoZ.out ?_; intro w6 hd6 hz6 hg6; replace hd6 := Lib.hid hd6)
    refine bodyPost_ret (v := .tuple #[.agg (dg zero32), .int .i64 350]) (results_row_tmp rfl _ _ (w.heap.size + 1) 35 (dg zero32) (0, 0) _ _ rfl rfl hd6.out Tryd.underlying35 (by rfl) hiZ.out) rfl ⟨rfl, hB.grown hg6 hB.size (fun k e => by have := Option.some.inj e; omega)⟩
  
  have h3 : 1024 < n := by omega
  · go_enter Tryd.func58, Tryd.ntmps58
    go_wp2_with (refine wpList_set_row (by rfl) 35 (.tmp 2) (.tmp 20) (by rfl) (by rfl) (w.heap.size + 1) (dg zero32) (by rfl) (by rfl) 35 _ hdZ.out hiZ.out rfl hoZ.out ?_; intro w6 hd6 hz6 hg6; replace hd6 := Lib.hid hd6)
    refine bodyPost_ret (v := .tuple #[.agg (dg zero32), .int .i64 350]) (results_row_tmp rfl _ _ (w.heap.size + 1) 35 (dg zero32) (0, 0) _ _ rfl rfl hd6.out Tryd.underlying35 (by rfl) hiZ.out) rfl ⟨rfl, hB.grown hg6 hB.size (fun k e => by have := Option.some.inj e; omega)⟩
set_option maxRecDepth 100000 in
set_option maxHeartbeats 8000000 in
theorem rcdig_main (c : Cal) (n cp : Nat) (A : Option Addr) (w : World) (hn : Hid (c.fx.length = n)) (h1 : 0 ≤ c.no) (h2 : c.no ≤ 1048576) (h3 : n ≤ 1024) (hc : n ≤ cp) (hA : Hid (FxAt w A c.fx)) (hI : Hid (∀ f ∈ c.fx, FxI f)) :
    Calls Tryd.prog 58 #[.agg #[.int .i64 c.no, .slice A n cp]] w fun e w' => e = .returned (.tuple #[.agg (dg (calD c)), .int .i64 (calE c)]) ∧ Below w.heap.size w w' := by
  have hiZ := Lib.hid (dg_info zero32 zero32_len)
  have hoZ := Lib.hid (dg_one zero32)
  have hbad : Hid ((∃ f ∈ c.fx, ¬ FxOk f) → calD c = zero32 ∧ calE c = 350) := Lib.hid fun ⟨f, hf, hno⟩ => by
    have : ¬ CalOk c := fun h => hno (h.2.2.2 f hf)
    exact ⟨if_neg this, if_neg this⟩
  have hgood : Hid ((∀ f ∈ c.fx, FxOk f) → calD c = tgd calB.data.toList (enc (calV c)) ∧ calE c = 0) := Lib.hid fun h => by
    have : CalOk c := ⟨h1, h2, by rw [hn.out]; exact h3, h⟩
    exact ⟨if_pos this, if_pos this⟩
  have hlen : Hid ((calD c).length = 32) := Lib.hid (calD_len c)
  have hsm : Hid ((enc (calV c)).length ≤ 300000) := Lib.hid (cal_sm ⟨by omega, by omega⟩ (by rw [hn.out]; omega) hI.out).2
  have hB0 : Below w.heap.size w ((w.alloc (.cells #[.int .i64 c.no, .slice A n cp] 45)).alloc (.cells (dg zero32) 35)) := ((Below.refl _ _).alloc (Nat.le_refl _) _).alloc (by simp) _
  have hT : Hid (∀ V, Below w.heap.size w V → Calls Tryd.prog 39 #[.agg #[.int .i64 c.no, .slice A n cp]] V (TxC (enc (calV c)) V)) := Lib.hid fun V hV => rctext_any c n cp A V hn ⟨by omega, by omega⟩ (by omega) hc (Lib.hid (hA.out.below hV)) hI
  have hbox := heap_alloc2_old w (.cells #[.int .i64 c.no, .slice A n cp] 45) (.cells (dg zero32) 35)
  have hdz := heap_alloc2_new w (.cells #[.int .i64 c.no, .slice A n cp] 45) (.cells (dg zero32) 35)
  have hlb := (Array.getElem?_eq_some_iff.1 hbox).1
  have hld := (Array.getElem?_eq_some_iff.1 hdz).1
  have hS0 : Hid (∀ V, Below ((w.alloc (.cells #[.int .i64 c.no, .slice A n cp] 45)).alloc (.cells (dg zero32) 35)).heap.size ((w.alloc (.cells #[.int .i64 c.no, .slice A n cp] 45)).alloc (.cells (dg zero32) 35)) V → V.cell? ⟨w.heap.size, 0, none⟩ = some (.int .i64 c.no) ∧ V.cell? ⟨w.heap.size, 1, none⟩ = some (.slice A n cp) ∧ V.heap[w.heap.size + 1]? = some (.cells (dg zero32) 35 (0, 0)) ∧ w.heap.size + 1 < V.heap.size) := Lib.hid fun V hV =>
    ⟨by rw [cell_of_row _ _ _ _ _ _ ((hV.block _ hlb).trans hbox)]; rfl, by rw [cell_of_row _ _ _ _ _ _ ((hV.block _ hlb).trans hbox)]; rfl, (hV.block _ hld).trans hdz, Nat.lt_of_lt_of_le hld hV.size⟩
  obtain ⟨R, hR⟩ : ∃ R, calD c = R := ⟨_, rfl⟩
  obtain ⟨E, hE⟩ : ∃ E, calE c = E := ⟨_, rfl⟩
  rw [hR, hE] at hbad hgood ⊢
  rw [hR] at hlen
  have hiR := Lib.hid (dg_info R hlen.out)
  have hoR := Lib.hid (dg_one R)
  have hsR : Hid ((dg zero32).size = (dg R).size) := Lib.hid (by rw [dg_size, dg_size, hlen.out, zero32_len])
  replace hB0 := Lib.hid hB0
  clear hR hE hbox hdz hlb hld
  go_enter Tryd.func58, Tryd.ntmps58
  go_wp2_with fail
  go_loopw [4] (fun s4 wr => ∃ (k : Nat), k ≤ n ∧ s4 = .int .i64 (k : Int) ∧ Below ((w.alloc (.cells #[.int .i64 c.no, .slice A n cp] 45)).alloc (.cells (dg zero32) 35)).heap.size ((w.alloc (.cells #[.int .i64 c.no, .slice A n cp] 45)).alloc (.cells (dg zero32) 35)) wr ∧ Hid (∀ f ∈ c.fx.take k, FxOk f)) (fun s4 _ => n - (intOf s4).toNat)
  case atStart => exact ⟨0, Nat.zero_le _, rfl, Below.refl _ _, Lib.hid (fun f hf => by simp at hf)⟩
  case round =>
    obtain ⟨k, hk, rfl, hB, hoks⟩ := hrel
    obtain ⟨p0, p1, hdr, hlt⟩ := hS0.out wr hB
    have hlt0 : w.heap.size < wr.heap.size := by omega
    have hw0 := hB0.out.trans (hB.mono hB0.out.size)
    replace hdr := Lib.hid hdr
    by_cases hkn : k < n
    · obtain ⟨f, hf⟩ : ∃ f, c.fx[k]? = some f := ⟨_, List.getElem?_eq_getElem (by rw [hn.out]; exact hkn)⟩
      have hfm := List.mem_of_getElem? hf
      obtain ⟨b, ob, rfl, hblt, g0, g1, g2⟩ := hA.out.below hw0 k f hf
      have i0 : (0 : Int) ≤ (k : Int) := by omega
      have i1 : (k : Int) < (n : Int) := by omega
      by_cases hok : FxOk f
      · obtain ⟨d1, d2, d3, d4, d5, d6⟩ := hok
        have k1 : Hid (∀ W, Calls Tryd.prog 85 #[.int .i64 f.d, .int .i64 73048] W fun e w' => e = .returned (.bool true) ∧ w' = W) := Lib.hid fun W => rin_true _ _ W (by omega) (by omega)
        have k2 : Hid (∀ W, Calls Tryd.prog 85 #[.int .i64 f.g, .int .i64 63] W fun e w' => e = .returned (.bool true) ∧ w' = W) := Lib.hid fun W => rin_true _ _ W (by omega) (by omega)
        have k3 : Hid (∀ W, Calls Tryd.prog 85 #[.int .i64 f.s, .int .i64 15] W fun e w' => e = .returned (.bool true) ∧ w' = W) := Lib.hid fun W => rin_true _ _ W (by omega) (by omega)
        have hok' : Hid (FxOk f) := Lib.hid ⟨d1, d2, d3, d4, d5, d6⟩
        have hB2 := hB.alloc hB.size (.cells #[.int .i64 f.d, .int .i64 f.g, .int .i64 f.s] 90)
        clear d1 d2 d3 d4 d5 d6
        go_wp2_with (first
          | (go_at_call 85; (with_reducible refine (k1.out _).mono ?_); rintro e w5 ⟨rfl, rfl⟩)
          | (go_at_call 85; (with_reducible refine (k2.out _).mono ?_); rintro e w5 ⟨rfl, rfl⟩)
          | (go_at_call 85; (with_reducible refine (k3.out _).mono ?_); rintro e w5 ⟨rfl, rfl⟩))
        go_roundw
        case rel =>
          refine ⟨k + 1, by omega, by go_num, hB2, Lib.hid fun y hy => ?_⟩
          rw [take_snocA hf] at hy
          rcases List.mem_append.1 hy with hy | hy
          · exact hoks.out y hy
          · obtain rfl : y = f := by simpa using hy
            exact hok'.out
        case measure => simp [intOf]; omega
      · obtain ⟨hRz, hEz⟩ := hbad.out ⟨f, hfm, hok⟩
        subst hRz hEz
        have hdZ := Lib.hid ((Below.heap_alloc wr (.cells #[.int .i64 f.d, .int .i64 f.g, .int .i64 f.s] 90) (w.heap.size + 1) hlt).trans hdr.out)
        have hsZ : Hid ((dg zero32).size = (dg zero32).size) := Lib.hid rfl
        by_cases m1 : -1 ≤ f.d ∧ f.d ≤ 73048
        · have k1 : Hid (∀ W, Calls Tryd.prog 85 #[.int .i64 f.d, .int .i64 73048] W fun e w' => e = .returned (.bool true) ∧ w' = W) := Lib.hid fun W => rin_true _ _ W (by omega) (by omega)
          by_cases m2 : -1 ≤ f.g ∧ f.g ≤ 63
          · have k2 : Hid (∀ W, Calls Tryd.prog 85 #[.int .i64 f.g, .int .i64 63] W fun e w' => e = .returned (.bool true) ∧ w' = W) := Lib.hid fun W => rin_true _ _ W (by omega) (by omega)
            have m3 : ¬ (-1 ≤ f.s ∧ f.s ≤ 15) := fun m3 => hok ⟨m1.1, m2.1, m3.1, m1.2, m2.2, m3.2⟩
            have k3 : Hid (∀ W, Calls Tryd.prog 85 #[.int .i64 f.s, .int .i64 15] W fun e w' => e = .returned (.bool false) ∧ w' = W) := Lib.hid fun W => rin_false _ _ W m3
            clear hok m1 m2 m3
            go_wp2_with (first
              | (go_at_call 85; (with_reducible refine (k1.out _).mono ?_); rintro e w5 ⟨rfl, rfl⟩)
              | (go_at_call 85; (with_reducible refine (k2.out _).mono ?_); rintro e w5 ⟨rfl, rfl⟩)
              | (go_at_call 85; (with_reducible refine (k3.out _).mono ?_); rintro e w5 ⟨rfl, rfl⟩)
              | (refine wpList_set_row (by rfl) 35 (.tmp 2) (.tmp 49) (by rfl) (by rfl) (w.heap.size + 1) (dg zero32) (by rfl) (by rfl) 35 _ hdZ.out hiZ.out rfl hoZ.out ?_; intro w6 hd6 hz6 hg6; replace hd6 := Lib.hid hd6))
            refine bodyPost_ret (v := .tuple #[.agg (dg zero32), .int .i64 350]) (results_row_tmp rfl _ _ (w.heap.size + 1) 35 (dg zero32) (0, 0) _ _ rfl rfl hd6.out Tryd.underlying35 (by rfl) hiZ.out) rfl ⟨rfl, (hw0.alloc hw0.size _).grown hg6 (hw0.alloc hw0.size _).size (fun k e => by have := Option.some.inj e; omega)⟩
          · have k2 : Hid (∀ W, Calls Tryd.prog 85 #[.int .i64 f.g, .int .i64 63] W fun e w' => e = .returned (.bool false) ∧ w' = W) := Lib.hid fun W => rin_false _ _ W m2
            clear hok m1 m2
            go_wp2_with (first
              | (go_at_call 85; (with_reducible refine (k1.out _).mono ?_); rintro e w5 ⟨rfl, rfl⟩)
              | (go_at_call 85; (with_reducible refine (k2.out _).mono ?_); rintro e w5 ⟨rfl, rfl⟩)
              | (refine wpList_set_row (by rfl) 35 (.tmp 2) (.tmp 49) (by rfl) (by rfl) (w.heap.size + 1) (dg zero32) (by rfl) (by rfl) 35 _ hdZ.out hiZ.out rfl hoZ.out ?_; intro w6 hd6 hz6 hg6; replace hd6 := Lib.hid hd6))
            refine bodyPost_ret (v := .tuple #[.agg (dg zero32), .int .i64 350]) (results_row_tmp rfl _ _ (w.heap.size + 1) 35 (dg zero32) (0, 0) _ _ rfl rfl hd6.out Tryd.underlying35 (by rfl) hiZ.out) rfl ⟨rfl, (hw0.alloc hw0.size _).grown hg6 (hw0.alloc hw0.size _).size (fun k e => by have := Option.some.inj e; omega)⟩
        · have k1 : Hid (∀ W, Calls Tryd.prog 85 #[.int .i64 f.d, .int .i64 73048] W fun e w' => e = .returned (.bool false) ∧ w' = W) := Lib.hid fun W => rin_false _ _ W m1
          clear hok m1
          go_wp2_with (first
            | (go_at_call 85; (with_reducible refine (k1.out _).mono ?_); rintro e w5 ⟨rfl, rfl⟩)
            | (refine wpList_set_row (by rfl) 35 (.tmp 2) (.tmp 49) (by rfl) (by rfl) (w.heap.size + 1) (dg zero32) (by rfl) (by rfl) 35 _ hdZ.out hiZ.out rfl hoZ.out ?_; intro w6 hd6 hz6 hg6; replace hd6 := Lib.hid hd6))
          refine bodyPost_ret (v := .tuple #[.agg (dg zero32), .int .i64 350]) (results_row_tmp rfl _ _ (w.heap.size + 1) 35 (dg zero32) (0, 0) _ _ rfl rfl hd6.out Tryd.underlying35 (by rfl) hiZ.out) rfl ⟨rfl, (hw0.alloc hw0.size _).grown hg6 (hw0.alloc hw0.size _).size (fun k e => by have := Option.some.inj e; omega)⟩
    · obtain rfl : k = n := by omega
      have hkl : c.fx.take k = c.fx := List.take_of_length_le (by rw [hn.out]; omega)
      have hok2 := hoks.out
      rw [hkl] at hok2
      obtain ⟨hRz, hEz⟩ := hgood.out hok2
      replace hRz := Lib.hid hRz
      subst hEz
      replace hw0 := Lib.hid hw0
      clear hbad hgood hok2 hkl hoks
      go_wp2_with fail
      refine (hT.out _ hw0.out).mono ?_
      unfold TxC
      rintro e w6 ⟨A6, m6, c6, rfl, hm6, hc6, hcm6, hat6, hb6⟩
      have hTg := Lib.hid (rtagged_any calB (by decide) (enc (calV c)) m6 hm6 (by have := hsm.out; omega) A6 c6 w6 hat6)
      rw [← hRz.out] at hTg
      have hd6 := (hb6.block (w.heap.size + 1) hlt).trans hdr.out
      have hw6 := Lib.hid (hw0.out.trans (hb6.mono hw0.out.size))
      clear hm6 hat6 hb6 p0 p1
      go_wp2_with fail
      refine hTg.out.mono ?_
      rintro e w7 ⟨rfl, hb7⟩
      have hd7 := Lib.hid ((hb7.block (w.heap.size + 1) ((Array.getElem?_eq_some_iff.1 hd6).1)).trans hd6)
      have hB7 := hw6.out.trans (hb7.mono hw6.out.size)
      clear hb7 hTg
      go_wp2_with (refine wpList_set_row (by rfl) 35 (.tmp 2) (.tmp 52) (by rfl) (by rfl) (w.heap.size + 1) (dg R) (by rfl) (by rfl) 35 _ hd7.out hiR.out hsR.out hoR.out ?_; intro w8 hd8 hz8 hg8; replace hd8 := Lib.hid hd8)
      refine bodyPost_ret (v := .tuple #[.agg (dg R), .int .i64 0]) (results_row_tmp rfl _ _ (w.heap.size + 1) 35 (dg R) (0, 0) _ _ rfl rfl hd8.out Tryd.underlying35 (by rfl) hiR.out) rfl ⟨rfl, hB7.grown hg8 hB7.size (fun k e => by have := Option.some.inj e; omega)⟩

theorem rcdig_any (c : Cal) (n cp : Nat) (A : Option Addr) (w : World) (hn : c.fx.length = n) (hc : n ≤ cp) (hA : FxAt w A c.fx) (hI : ∀ f ∈ c.fx, FxI f) :
    Calls Tryd.prog 58 #[.agg #[.int .i64 c.no, .slice A n cp]] w fun e w' => e = .returned (.tuple #[.agg (dg (calD c)), .int .i64 (calE c)]) ∧ Below w.heap.size w w' := by
  by_cases h : c.no < 0 ∨ 1048576 < c.no ∨ 1024 < n
  · have hno : ¬ CalOk c := fun hk => by
      obtain ⟨h0, h1, h2, _⟩ := hk
      rw [hn] at h2
      omega
    unfold calD calE
    rw [if_neg hno, if_neg hno]
    exact rcdig_bad c n cp A w h
  · exact rcdig_main c n cp A w (Lib.hid hn) (by omega) (by omega) (by omega) hc (Lib.hid hA) (Lib.hid hI)
end Go.Proofs.YthokpfegfnpmhaaDoor
