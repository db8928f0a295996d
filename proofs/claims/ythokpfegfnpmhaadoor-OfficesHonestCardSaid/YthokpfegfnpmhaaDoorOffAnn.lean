/- The walk of offices.Announce. -/
import Derived.Test.YthokpfegfnpmhaaDoorEqText
import Derived.Test.YthokpfegfnpmhaaDoorSigA
import Derived.Test.YthokpfegfnpmhaaDoorMoreA
import Derived.Laws.EntriesVeiled
namespace Go.Proofs.YthokpfegfnpmhaaDoor
open Go.RowKit Go.Shelf Jac Cdc Sha
set_option linter.unusedVariables false
set_option linter.unusedSimpArgs false

/-- a post's variable -/
structure PAt (W : World) (g : Nat) (p : Po) : Prop where
  row : W.rangeAt g 0 (poC p)
  th : W.there g 0 35
  lt : g < W.heap.size
theorem PAt.of_heap {W : World} {g : Nat} {p : Po} (hp : p.root.length = 32) (h : W.heap[g]? = some (.cells (poA p) 49 (0, 0))) : PAt W g p := by
  refine ⟨po_row h, fun j hj => ⟨?_, frozen_of_row W g _ _ _ h⟩, (Array.getElem?_eq_some_iff.1 h).1⟩
  rw [cell_of_row _ _ _ _ _ _ h, Nat.zero_add, Array.getElem?_eq_getElem (by rw [poA_size hp]; exact hj)]
  rfl
theorem PAt.keep {W W' : World} {g : Nat} {p : Po} (h : PAt W g p) (hs : W.heap.size ≤ W'.heap.size) (hb : W'.heap[g]? = W.heap[g]?) : PAt W' g p := by
  refine ⟨fun j v hj => ?_, fun j hj => ?_, Nat.lt_of_lt_of_le h.lt hs⟩
  · rw [World.cell?_of_block (a := ⟨g, 0 + j, none⟩) hb]; exact h.row j v hj
  · have := h.th j hj
    rw [World.cell?_of_block (a := ⟨g, 0 + j, none⟩) hb, show W'.frozen? ⟨g, 0 + j, none⟩ = W.frozen? ⟨g, 0 + j, none⟩ by simp only [World.frozen?, hb]]
    exact this
theorem PAt.below {W W' : World} {g : Nat} {p : Po} (h : PAt W g p) (hb : Below W.heap.size W W') : PAt W' g p := h.keep hb.size (hb.block g h.lt)
theorem there_part {W : World} {g n : Nat} (h : W.there g 0 n) (o m : Nat) (hm : o + m ≤ n) : W.there g o m := fun j hj => by
  have := h (o + j) (by omega)
  rw [Nat.zero_add] at this
  exact this
theorem range_app {W : World} {g o : Nat} {xs ys : List Value} (h : W.rangeAt g o xs) (k : W.rangeAt g (o + xs.length) ys) : W.rangeAt g o (xs ++ ys) := fun j v hj => by
  rcases Nat.lt_or_ge j xs.length with hl | hl
  · rw [List.getElem?_append_left hl] at hj
    exact h j v hj
  · rw [List.getElem?_append_right hl] at hj
    have := k (j - xs.length) v hj
    rw [show o + xs.length + (j - xs.length) = o + j by omega] at this
    exact this
theorem range_left {W : World} {g o : Nat} {xs ys : List Value} (h : W.rangeAt g o (xs ++ ys)) : W.rangeAt g o xs := fun j v hj => h j v (by rw [List.getElem?_append_left (List.getElem?_eq_some_iff.1 hj).1]; exact hj)
theorem range_right {W : World} {g o : Nat} {xs ys : List Value} (h : W.rangeAt g o (xs ++ ys)) : W.rangeAt g (o + xs.length) ys := fun j v hj => by
  have := h (xs.length + j) v (by rw [List.getElem?_append_right (by omega), Nat.add_sub_cancel_left]; exact hj)
  rw [← Nat.add_assoc] at this
  exact this
theorem PAt.set_no {W : World} {g : Nat} {p : Po} (h : PAt W g p) (n : Int) : PAt (W.setCell ⟨g, 0, none⟩ (.int .i64 n)) g { p with no := n } := by
  have e : W.setCell ⟨g, 0, none⟩ (.int .i64 n) = W.setCells g 0 [.int .i64 n] := rfl
  rw [e]
  refine ⟨?_, World.there_setCells h.th g 0 _, by rw [setCells_size]; exact h.lt⟩
  have h1 : W.rangeAt g (0 + [Value.int .i64 p.no].length) (p.root.map by1 ++ [.int .i64 p.e, .int .i64 p.s]) := range_right (xs := [.int .i64 p.no]) h.row
  exact range_app (xs := [.int .i64 n]) (World.rangeAt_setCells_same W g 0 _ (there_part h.th 0 1 (by omega))) (World.rangeAt_setCells_apart h1 g 0 _ (.inr (.inr (by simp))))
theorem PAt.set_root {W : World} {g : Nat} {p : Po} (h : PAt W g p) (hp : p.root.length = 32) (bs : List UInt8) (hbs : bs.length = 32) : PAt (W.setCells g 1 (bs.map by1)) g { p with root := bs } := by
  refine ⟨?_, World.there_setCells h.th g 1 _, by rw [setCells_size]; exact h.lt⟩
  have h0 : W.rangeAt g 0 [.int .i64 p.no] := range_left (ys := p.root.map by1 ++ [.int .i64 p.e, .int .i64 p.s]) h.row
  have h1 : W.rangeAt g (0 + [Value.int .i64 p.no].length) (p.root.map by1 ++ [.int .i64 p.e, .int .i64 p.s]) := range_right (xs := [.int .i64 p.no]) h.row
  have h2 := range_right h1
  simp only [List.length_map, hp, List.length_cons, List.length_nil] at h2
  refine range_app (xs := [.int .i64 p.no]) (World.rangeAt_setCells_apart h0 g 1 _ (.inr (.inl (by simp)))) (range_app (xs := bs.map by1) (World.rangeAt_setCells_same W g 1 _ (there_part h.th 1 _ (by simp [hbs]))) ?_)
  simp only [List.length_map, hbs, List.length_cons, List.length_nil]
  exact World.rangeAt_setCells_apart h2 g 1 _ (.inr (.inr (by simp [hbs])))
theorem PAt.set_sig {W : World} {g : Nat} {p : Po} (h : PAt W g p) (hp : p.root.length = 32) (e s : Int) : PAt (W.setCells g 33 [.int .i64 e, .int .i64 s]) g { p with e := e, s := s } := by
  refine ⟨?_, World.there_setCells h.th g 33 _, by rw [setCells_size]; exact h.lt⟩
  have h0 : W.rangeAt g 0 (.int .i64 p.no :: p.root.map by1) := range_left (xs := .int .i64 p.no :: p.root.map by1) (ys := [.int .i64 p.e, .int .i64 p.s]) h.row
  have h3 := range_app (xs := .int .i64 p.no :: p.root.map by1) (ys := [.int .i64 e, .int .i64 s]) (World.rangeAt_setCells_apart h0 g 33 [.int .i64 e, .int .i64 s] (.inr (.inl (by simp [hp])))) (by
    have := World.rangeAt_setCells_same W g 33 [.int .i64 e, .int .i64 s] (there_part h.th 33 2 (by omega))
    simpa [hp] using this)
  exact h3
theorem PAt.set_all {W : World} {g : Nat} {p : Po} (h : PAt W g p) (q : Po) (hq : q.root.length = 32) : PAt (W.setCells g 0 (poC q)) g q :=
  ⟨World.rangeAt_setCells_same W g 0 _ (by rw [poC_len hq]; exact h.th), World.there_setCells h.th g 0 _, by rw [setCells_size]; exact h.lt⟩
theorem PAt.no {W : World} {g : Nat} {p : Po} (h : PAt W g p) : W.cell? ⟨g, 0, none⟩ = some (.int .i64 p.no) := h.row 0 _ rfl
theorem PAt.frozen {W : World} {g : Nat} {p : Po} (h : PAt W g p) : W.frozen? ⟨g, 0, none⟩ = false := (h.th 0 (by omega)).2

/-- a variable of a struct that lies somewhere, and one more, are what a function answers -/
theorem results_mid_tmp {P : Program} {fn : Func} {p q : Tmp} {ty : TypeId} (h : fn.results = #[.cell p ty, .tmp q]) (tmps : Array Value) (w : World) (g : Nat) (cs : List Value) (d : TypeDesc) (u : Value)
    (hp : tmps.getD p undef = .pointer (some ⟨g, 0, none⟩)) (hq : tmps.getD q undef = u) (hg : w.rangeAt g 0 cs)
    (hu : P.underlying ty = some d) (hd : d.isRow = true) (hi : (P.info? ty).map (·.size) = some cs.length) :
    (results fn tmps).run P w = .ok (.tuple #[.agg cs.toArray, u]) w := by
  have hp' : tmps[p]?.getD undef = .pointer (some ⟨g, 0, none⟩) := by simpa using hp
  have hq' : tmps[q]?.getD undef = u := by simpa using hq
  simp [results, h, hp', hq', asAddr, run_loadVar_mid w g 0 ty cs d hg hu hd hi]

set_option maxRecDepth 100000 in
set_option maxHeartbeats 4000000 in
theorem ann1_in (x : Int) (sb : Nat) (w : World) (hc : w.cell? ⟨sb, 0, none⟩ = some (.int .i64 x)) (h1 : 1 ≤ x) (h2 : x < 1073741789) :
    Calls Tryd.prog 52 #[.pointer (some ⟨sb, 0, none⟩)] w fun e w' => e = .returned (.int .i64 0) ∧ w' = w := by
  have h3 : ¬ x < 1 := by omega
  have h4 : ¬ 1073741789 ≤ x := by omega
  clear h1 h2
  go_enter Tryd.func52, Tryd.ntmps52
  go_wp2_with fail
  go_ret
  exact ⟨rfl, rfl⟩
set_option maxRecDepth 100000 in
set_option maxHeartbeats 4000000 in
theorem ann1_out (x : Int) (sb : Nat) (w : World) (hc : w.cell? ⟨sb, 0, none⟩ = some (.int .i64 x)) (h : ¬ (1 ≤ x ∧ x < 1073741789)) :
    Calls Tryd.prog 52 #[.pointer (some ⟨sb, 0, none⟩)] w fun e w' => e = .returned (.int .i64 110) ∧ w' = w := by
  by_cases h1 : x < 1
  · clear h
    go_enter Tryd.func52, Tryd.ntmps52
    go_wp2_with fail
    go_ret
    exact ⟨rfl, rfl⟩
  · have h2 : 1073741789 ≤ x := by omega
    clear h
    go_enter Tryd.func52, Tryd.ntmps52
    go_wp2_with fail
    go_ret
    exact ⟨rfl, rfl⟩
set_option maxRecDepth 100000 in
set_option maxHeartbeats 4000000 in
theorem ann2_any (W0 : World) (c : Cal) (n cp : Nat) (A : Option Addr) (cb pb : Nat) (p : Po) (w : World) (hp : p.root.length = 32) (hn : c.fx.length = n) (hc : n ≤ cp) (hA : FxAt W0 A c.fx) (hI : ∀ f ∈ c.fx, FxI f) (hL : Laid W0) (hB : Below W0.heap.size W0 w) (hpb : W0.heap.size ≤ pb)
    (c0 : w.cell? ⟨cb, 0, none⟩ = some (.int .i64 c.no)) (c1 : w.cell? ⟨cb, 1, none⟩ = some (.slice A n cp)) (hne : cb ≠ pb) (hP : PAt w pb p) :
    Calls Tryd.prog 53 #[.pointer (some ⟨cb, 0, none⟩), .pointer (some ⟨pb, 0, none⟩)] w fun e w' => e = .returned (.int .i64 (calE c)) ∧ PAt w' pb { p with no := c.no, root := calD c } ∧ w.grownBy w' (some pb) := by
  have hD : Hid (∀ W, Below W0.heap.size W0 W → Calls Tryd.prog 54 #[.agg #[.int .i64 c.no, .slice A n cp]] W fun e w' => e = .returned (.tuple #[.agg (dg (calD c)), .int .i64 (calE c)]) ∧ Below W.heap.size W w') := Lib.hid fun W h => cdig_any c n cp A W hn hc (hA.below h) hI (hL.below h)
  have hlen := calD_len c
  generalize calD c = D at hD hlen ⊢
  generalize calE c = E at hD ⊢
  have hi := Lib.hid (dg_info D hlen)
  have ho := Lib.hid (dg_one D)
  have p0 := hP.no
  have pf := hP.frozen
  have d0 : (w.setCell ⟨pb, 0, none⟩ (.int .i64 c.no)).cell? ⟨cb, 0, none⟩ = some (.int .i64 c.no) := (World.cell?_of_block (a := ⟨cb, 0, none⟩) (heap_setCell_other w ⟨pb, 0, none⟩ cb _ hne)).trans c0
  have d1 : (w.setCell ⟨pb, 0, none⟩ (.int .i64 c.no)).cell? ⟨cb, 1, none⟩ = some (.slice A n cp) := (World.cell?_of_block (a := ⟨cb, 1, none⟩) (heap_setCell_other w ⟨pb, 0, none⟩ cb _ hne)).trans c1
  have hB2 := hB.setCell (p := ⟨pb, 0, none⟩) hpb (.int .i64 c.no)
  have hP2 := hP.set_no c.no
  have hG := setCell_grown w pb 0 (.int .i64 c.no)
  clear hn hA hI hL
  go_enter Tryd.func53, Tryd.ntmps53
  go_wp2_with fail
  refine (hD.out _ hB2).mono ?_
  rintro e w2 ⟨rfl, hb⟩
  have hP3 := hP2.below hb
  have hG2 := grown_trans hG (grown_below hb)
  have hth : Hid (w2.there pb 1 (dg D).size) := Lib.hid (by rw [dg_size, hlen]; exact there_part hP3.th 1 32 (by omega))
  have hP4 := Lib.hid (hP3.set_root hp D hlen)
  replace hG2 := Lib.hid (grown_trans hG2 (setCells_grown w2 pb 1 (D.map by1)))
  clear hP3 hP2 hP hb hG hB2 hB d0 d1 p0 pf c0 c1 hD
  go_wp2_with (refine wpList_store_mid (by rfl) 35 (.tmp 11) (.tmp 9) (by rfl) pb 1 (dg D) (by rfl) (by rfl) hth.out hi.out ho.out ?_)
  go_ret
  exact ⟨rfl, hP4.out, hG2.out⟩
set_option maxRecDepth 100000 in
set_option maxHeartbeats 4000000 in
theorem ann3_any (x : Int) (sb pb : Nat) (p : Po) (w : World) (hp : p.root.length = 32) (hno : I64 p.no) (h1 : 1 ≤ x) (h2 : x < 1073741789) (hL : Laid w) (c0 : w.cell? ⟨sb, 0, none⟩ = some (.int .i64 x)) (hsb : sb < w.heap.size) (hP : PAt w pb p) :
    Calls Tryd.prog 55 #[.pointer (some ⟨sb, 0, none⟩), .pointer (some ⟨pb, 0, none⟩)] w fun e w' => e = .returned (.int .i64 0) ∧ PAt w' pb { p with e := sgE x (poT p), s := sgS x (poT p) } ∧ w.grownBy w' (some pb) := by
  have hT : Hid (∀ W : World, Calls Tryd.prog 57 #[.agg (poA p)] W (Fresh (poT p) W)) := Lib.hid fun W => textOf_any p hp hno W
  have hlen : Hid ((poT p).length ≤ 1000) := Lib.hid (po_sm p hp hno).2.1
  have hi := Lib.hid (po_info' hp)
  have hiS : Hid ((Tryd.prog.info? 47).map (·.size) = some 2) := Lib.hid (by kernel_rfl)
  have hS : Hid (∀ V, Below w.heap.size w V → V.cell? ⟨sb, 0, none⟩ = some (.int .i64 x) ∧ V.rangeAt pb 0 (poC p)) := Lib.hid fun V hV => ⟨(hV.cell (p := ⟨sb, 0, none⟩) hsb).trans c0, (hP.below hV).row⟩
  replace hP := Lib.hid hP
  replace hL := Lib.hid (fun (V : World) (hV : Below w.heap.size w V) => hL.below hV)
  have HB : Below w.heap.size w w.drew := (Below.refl _ _).drew
  go_enter Tryd.func55, Tryd.ntmps55
  go_wp2_with fail
  refine wp_region_T 7 (fun w' => w'.cell? ⟨sb, 0, none⟩ = some (.int .i64 x) ∧ w'.rangeAt pb 0 (poC p)) (by kernel_rfl) (by exact hS.out _ HB) (fun hHeld => ?_)
  refine wpAnyT_take (i := 0) (oi := { dst := some 4, op := Op.load 3 (Operand.tmp 0), type := 3, pos := "offices.go:48", after := #[], guard := none }) (v := ?_) rfl (by kernel_rfl) (by kernel_rfl) (by kernel_rfl) (by kernel_rfl) (fun _ _ _ h => h) (Or.inl ⟨by rfl, ?hy0⟩) hHeld ?rest0
  case hy0 =>
    intro w hSw
    try dsimp only at hSw
    go_simp
    try with_reducible rfl
  try simp only [Act.put, List.setIfInBounds_toArray, List.set_cons_zero, List.set_cons_succ]
  refine wpAnyT_take (i := 1) (oi := { dst := some 5, op := Op.load 49 (Operand.tmp 1), type := 49, pos := "offices.go:48", after := #[], guard := none }) (v := _) rfl (by kernel_rfl) (by kernel_rfl) (by kernel_rfl) (by kernel_rfl) (fun _ _ _ h => h) (yieldsIf_load_mid (by rfl) 49 (.tmp 1) rfl pb 0 rfl (poC p) _ (fun _ h => h.2) Tryd.underlying49 rfl hi.out) hHeld ?_
  try simp only [Act.put, List.setIfInBounds_toArray, List.set_cons_zero, List.set_cons_succ]
  refine wpAnyT_one (i := 2) (o := { dst := some 6, op := Op.call { callee := Callee.value (Operand.func 57), args := #[Operand.tmp 5], argTypes := #[49] }, type := 23, pos := "offices.go:48", after := #[{ on := 1, ground := Ground.data }], guard := none }) (by kernel_rfl) rfl (fun K hK => ?_)
  go_simp
  go_at_call 57
  refine (hT.out _).mono ?_
  unfold Fresh
  rintro e w3 ⟨v', rfl, ho, hh, hb⟩
  obtain ⟨A9, c9, rfl⟩ := ho.form
  have hc9 := ho.cap
  replace ho := Lib.hid ho
  clear hh
  replace HB := HB.trans (hb.mono HB.size)
  clear hb
  refine hK.out _ _ (by exact hS.out _ HB) (fun hHeld' => ?_)
  clear hK K hHeld
  have hHeld := hHeld'
  clear hHeld'
  try simp only [Act.put, List.setIfInBounds_toArray, List.set_cons_zero, List.set_cons_succ]
  refine wpAnyT_one (i := 3) (o := { dst := some 7, op := Op.call { callee := Callee.value (Operand.func 56), args := #[Operand.tmp 4, Operand.tmp 6], argTypes := #[3, 23] }, type := 94, pos := "offices.go:48", after := #[{ on := 0, ground := Ground.data }, { on := 2, ground := Ground.data }, { on := 2, ground := Ground.chain }], guard := none }) (by kernel_rfl) rfl (fun K hK => ?_)
  go_simp
  go_at_call 56
  refine (sign_in x (poT p) A9 _ c9 _ h1 h2 rfl (by have := hlen.out; omega) ho.out.atO (hL.out _ HB)).mono ?_
  rintro e w4 ⟨rfl, hb⟩
  replace HB := HB.trans (hb.mono HB.size)
  clear hb
  refine hK.out _ _ (by exact hS.out _ HB) (fun hHeld' => ?_)
  clear hK K hHeld
  have hHeld := hHeld'
  clear hHeld'
  try simp only [Act.put, List.setIfInBounds_toArray, List.set_cons_zero, List.set_cons_succ]
  refine wpAnyT_take (i := 4) (oi := { dst := some 3, op := Op.move (Operand.tmp 7), type := 94, pos := "offices.go:48", after := #[{ on := 3, ground := Ground.data }], guard := none }) (v := ?_) rfl (by kernel_rfl) (by kernel_rfl) (by kernel_rfl) (by kernel_rfl) (fun _ _ _ h => h) (Or.inl ⟨by rfl, ?hy4⟩) hHeld ?rest4
  case hy4 =>
    intro w hSw
    try dsimp only at hSw
    go_simp
    try with_reducible rfl
  try simp only [Act.put, List.setIfInBounds_toArray, List.set_cons_zero, List.set_cons_succ]
  refine wpAnyT_take (i := 5) (oi := { dst := some 8, op := Op.extract (Operand.tmp 3) 0, type := 47, pos := "offices.go:48", after := #[{ on := 4, ground := Ground.data }], guard := none }) (v := ?_) rfl (by kernel_rfl) (by kernel_rfl) (by kernel_rfl) (by kernel_rfl) (fun _ _ _ h => h) (Or.inl ⟨by rfl, ?hy5⟩) hHeld ?rest5
  case hy5 =>
    intro w hSw
    try dsimp only at hSw
    go_simp
    try with_reducible rfl
  try simp only [Act.put, List.setIfInBounds_toArray, List.set_cons_zero, List.set_cons_succ]
  refine wpAnyT_pure (i := 6) (oi := { dst := some 9, op := Op.extract (Operand.tmp 3) 1, type := 26, pos := "offices.go:48", after := #[{ on := 4, ground := Ground.data }, { on := 8, ground := Ground.gcOnly Departure.lateStores }], guard := none }) (v := ?_) rfl (by kernel_rfl) (by kernel_rfl) (by kernel_rfl) (fun _ _ _ h => h) (Or.inl ⟨by rfl, ?hy6⟩) ?rest6
  case hy6 =>
    intro w hSw
    go_simp
    try with_reducible rfl
  try simp only [Act.put, List.setIfInBounds_toArray, List.set_cons_zero, List.set_cons_succ]
  refine wpAnyT_tail (i := 7) (o := { dst := some 10, op := Op.fieldAddr 49 (Operand.tmp 1) 2, type := 0, pos := "offices.go:48", after := #[{ on := 0, ground := Ground.phase }, { on := 1, ground := Ground.phase }, { on := 2, ground := Ground.phase }, { on := 3, ground := Ground.phase }, { on := 4, ground := Ground.phase }, { on := 5, ground := Ground.phase }, { on := 6, ground := Ground.textOnly Departure.lateStores }], guard := none }) (by kernel_rfl) rfl (by rfl) (fun K hK => ?_)
  go_simp
  refine hK.out _ _ ?_
  clear hK K
  try simp only [Act.put, List.setIfInBounds_toArray, List.set_cons_zero, List.set_cons_succ]
  refine wpAnyT_tail (i := 8) (o := { dst := none, op := Op.store 47 (Operand.tmp 10) (Operand.tmp 8), type := 0, pos := "offices.go:48", after := #[{ on := 7, ground := Ground.data }, { on := 5, ground := Ground.data }, { on := 3, ground := Ground.chain }, { on := 0, ground := Ground.phase }, { on := 1, ground := Ground.phase }, { on := 2, ground := Ground.phase }, { on := 3, ground := Ground.phase }, { on := 4, ground := Ground.phase }, { on := 5, ground := Ground.phase }, { on := 6, ground := Ground.textOnly Departure.lateStores }], guard := none }) (by kernel_rfl) rfl (by rfl) (fun K hK => ?_)
  rw [if_pos (by rfl)]
  refine wp_store_mid 47 (.tmp 10) (.tmp 8) (by rfl) pb 33 #[.int .i64 (sgE x (poT p)), .int .i64 (sgS x (poT p))] (by rfl) (by rfl) (there_part (hP.out.below HB).th 33 2 (by omega)) hiS.out (by simp [Value.oneCell']) ?_
  refine hK.out _ _ ?_
  clear hK K
  try simp only [Act.put, List.setIfInBounds_toArray, List.set_cons_zero, List.set_cons_succ]
  refine wpAnyT_tail (i := 9) (o := { dst := some 2, op := Op.assign (Operand.tmp 9), type := 26, pos := "offices.go:48", after := #[{ on := 6, ground := Ground.data }, { on := 8, ground := Ground.chain }, { on := 0, ground := Ground.phase }, { on := 1, ground := Ground.phase }, { on := 2, ground := Ground.phase }, { on := 3, ground := Ground.phase }, { on := 4, ground := Ground.phase }, { on := 5, ground := Ground.phase }, { on := 6, ground := Ground.phase }, { on := 7, ground := Ground.phase }, { on := 8, ground := Ground.phase }], guard := none }) (by kernel_rfl) rfl (by rfl) (fun K hK => ?_)
  go_simp
  refine hK.out _ _ ?_
  clear hK K
  try simp only [Act.put, List.setIfInBounds_toArray, List.set_cons_zero, List.set_cons_succ]
  refine wpAnyT_done (by kernel_rfl) ?_ _
  have hP5 := (hP.out.below HB).set_sig hp (sgE x (poT p)) (sgS x (poT p))
  have hG5 := grown_trans (grown_below (r := some pb) HB) (setCells_grown w4 pb 33 [.int .i64 (sgE x (poT p)), .int .i64 (sgS x (poT p))])
  replace hP5 := Lib.hid hP5
  replace hG5 := Lib.hid hG5
  clear hS hT
  go_wp2_with fail
  go_ret
  exact ⟨rfl, hP5.out, hG5.out⟩

def poZ : Po := ⟨0, zero32, 0, 0⟩
/-- the post with a number and a digest, signed -/
noncomputable def poS (x : Int) (no : Int) (root : List UInt8) : Po := ⟨no, root, sgE x (poT ⟨no, root, 0, 0⟩), sgS x (poT ⟨no, root, 0, 0⟩)⟩
theorem poT_sig (no : Int) (root : List UInt8) (e s e' s' : Int) : poT ⟨no, root, e, s⟩ = poT ⟨no, root, e', s'⟩ := rfl
/-- what Announce answers -/
def AnIn (x : Int) : Prop := 1 ≤ x ∧ x < 1073741789
instance (x : Int) : Decidable (AnIn x) := by unfold AnIn; infer_instance
noncomputable def anP (x : Int) (c : Cal) : Po := if AnIn x ∧ CalOk c then poS x c.no (calD c) else poZ
def anE (x : Int) (c : Cal) : Int := if AnIn x then calE c else 110
theorem anP_len (x : Int) (c : Cal) : (anP x c).root.length = 32 := by
  unfold anP
  split
  · exact calD_len c
  · exact zero32_len
/-- the three steps as values -/
def anF (b : Nat) : Array Value := #[.func (.func 52) #[] #[.pointer (some ⟨b, 0, none⟩)], .func (.func 53) #[] #[.pointer (some ⟨b + 1, 0, none⟩), .pointer (some ⟨b + 1 + 1, 0, none⟩)], .func (.func 55) #[] #[.pointer (some ⟨b, 0, none⟩), .pointer (some ⟨b + 1 + 1, 0, none⟩)]]
/-- how far Announce has come -/
structure AnW (x : Int) (c : Cal) (n cp : Nat) (A : Option Addr) (w wr : World) (p : Po) : Prop where
  below : Below w.heap.size w wr
  s : wr.heap[w.heap.size]? = some (.cells #[.int .i64 x] 3 (0, 0))
  c : wr.heap[w.heap.size + 1]? = some (.cells #[.int .i64 c.no, .slice A n cp] 45 (0, 0))
  f : wr.heap[w.heap.size + 1 + 1 + 1]? = some (.cells (anF w.heap.size) 91 (0, 0))
  p : PAt wr (w.heap.size + 1 + 1) p
theorem AnW.step {x : Int} {c : Cal} {n cp : Nat} {A : Option Addr} {w wr w' : World} {p q : Po} (h : AnW x c n cp A w wr p) (hq : PAt w' (w.heap.size + 1 + 1) q) (hg : wr.grownBy w' (some (w.heap.size + 1 + 1))) : AnW x c n cp A w w' q := by
  have hz := (Array.getElem?_eq_some_iff.1 h.f).1
  exact ⟨h.below.grown hg h.below.size (fun k e => by have := Option.some.inj e; omega), (hg.block _ (by omega) (fun e => by have := Option.some.inj e; omega)).trans h.s, (hg.block _ (by omega) (fun e => by have := Option.some.inj e; omega)).trans h.c, (hg.block _ (by omega) (fun e => by have := Option.some.inj e; omega)).trans h.f, hq⟩
theorem AnW.cells {x : Int} {c : Cal} {n cp : Nat} {A : Option Addr} {w wr : World} {p : Po} (h : AnW x c n cp A w wr p) : wr.cell? ⟨w.heap.size, 0, none⟩ = some (.int .i64 x) ∧ wr.cell? ⟨w.heap.size + 1, 0, none⟩ = some (.int .i64 c.no) ∧ wr.cell? ⟨w.heap.size + 1, 1, none⟩ = some (.slice A n cp) ∧ (∀ j, wr.cell? ⟨w.heap.size + 1 + 1 + 1, j, none⟩ = (anF w.heap.size)[j]?) :=
  ⟨by rw [cell_of_row _ _ _ _ _ _ h.s]; rfl, by rw [cell_of_row _ _ _ _ _ _ h.c]; rfl, by rw [cell_of_row _ _ _ _ _ _ h.c]; rfl, fun j => cell_of_row _ _ _ _ _ _ h.f⟩

set_option maxRecDepth 100000 in
set_option maxHeartbeats 4000000 in
theorem announce_any (x : Int) (c : Cal) (n cp : Nat) (A : Option Addr) (w : World) (hn : c.fx.length = n) (hc : n ≤ cp) (hA : FxAt w A c.fx) (hI : ∀ f ∈ c.fx, FxI f) (hL : Laid w) :
    Calls Tryd.prog 26 #[.int .i64 x, .agg #[.int .i64 c.no, .slice A n cp]] w fun e w' => e = .returned (.tuple #[.agg (poA (anP x c)), .int .i64 (anE x c)]) ∧ Below w.heap.size w w' := by
  have hmf : ∀ (fn : Fn) (first cap : Array Value) (w : World), (Instr.makeFunc fn first cap).run Tryd.prog w = .ok (.func fn first cap) w := fun _ _ _ _ => rfl
  have hiZ := Lib.hid (po_info' (p := poZ) zero32_len)
  have hiZ2 := Lib.hid (po_info (p := poZ) zero32_len)
  have hoZ := Lib.hid (poA_one poZ)
  have hlenD : Hid ((calD c).length = 32) := Lib.hid (calD_len c)
  have hanP := Lib.hid (fun (p : Po) (h : AnIn x ∧ CalOk c) (e : p = poS x c.no (calD c)) => (show anP x c = p from (if_pos h).trans e.symm))
  have hanZ := Lib.hid (fun (h : ¬ (AnIn x ∧ CalOk c)) => (show anP x c = poZ from if_neg h))
  have hanE : Hid (anE x c = if AnIn x then calE c else 110) := Lib.hid rfl
  have hcalE : Hid (calE c = if CalOk c then 0 else 350) := Lib.hid rfl
  generalize hR : anP x c = R at hanP hanZ ⊢
  generalize hE : anE x c = E at hanE ⊢
  clear hR hE
  replace hL := Lib.hid hL
  replace hn := Lib.hid hn
  replace hA := Lib.hid hA
  replace hI := Lib.hid hI
  go_enter Tryd.func26, Tryd.ntmps26
  go_wp2_with fail
  have hW0 : Hid (Below w.heap.size w ((((w.alloc (.cells #[.int .i64 x] 3)).alloc (.cells #[.int .i64 c.no, .slice A n cp] 45)).alloc (.cells (poA poZ) 49)).alloc (.cells #[.func (.func 52) #[] #[.pointer (some ⟨w.heap.size, 0, none⟩)], .func (.func 53) #[] #[.pointer (some ⟨w.heap.size + 1, 0, none⟩), .pointer (some ⟨w.heap.size + 1 + 1, 0, none⟩)], .func (.func 55) #[] #[.pointer (some ⟨w.heap.size, 0, none⟩), .pointer (some ⟨w.heap.size + 1 + 1, 0, none⟩)]] 91))) := Lib.hid ((((Below.refl _ _).alloc (Nat.le_refl _) _).alloc (by simp) _).alloc (by simp; omega) _ |>.alloc (by simp; omega) _)
  have r0 := heap_alloc_new w (.cells #[.int .i64 x] 3)
  have r1 := heap_alloc_new (w.alloc (.cells #[.int .i64 x] 3)) (.cells #[.int .i64 c.no, .slice A n cp] 45)
  have r2 := heap_alloc_new ((w.alloc (.cells #[.int .i64 x] 3)).alloc (.cells #[.int .i64 c.no, .slice A n cp] 45)) (.cells (poA poZ) 49)
  have r3 := heap_alloc_new (((w.alloc (.cells #[.int .i64 x] 3)).alloc (.cells #[.int .i64 c.no, .slice A n cp] 45)).alloc (.cells (poA poZ) 49)) (.cells (anF w.heap.size) 91)
  have z1 : (w.alloc (.cells #[.int .i64 x] 3)).heap.size = w.heap.size + 1 := by simp
  have z2 : ((w.alloc (.cells #[.int .i64 x] 3)).alloc (.cells #[.int .i64 c.no, .slice A n cp] 45)).heap.size = w.heap.size + 1 + 1 := by simp
  have z3 : (((w.alloc (.cells #[.int .i64 x] 3)).alloc (.cells #[.int .i64 c.no, .slice A n cp] 45)).alloc (.cells (poA poZ) 49)).heap.size = w.heap.size + 1 + 1 + 1 := by simp
  rw [z1] at r1
  rw [z2] at r2
  rw [z3] at r3
  have hstart : AnW x c n cp A w ((((w.alloc (.cells #[.int .i64 x] 3)).alloc (.cells #[.int .i64 c.no, .slice A n cp] 45)).alloc (.cells (poA poZ) 49)).alloc (.cells (anF w.heap.size) 91)) poZ := by
    refine ⟨hW0.out, ?_, ?_, r3, ?_⟩
    · exact (Below.heap_alloc (((w.alloc (.cells #[.int .i64 x] 3)).alloc (.cells #[.int .i64 c.no, .slice A n cp] 45)).alloc (.cells (poA poZ) 49)) _ _ (by omega)).trans ((Below.heap_alloc _ _ _ (by omega)).trans ((Below.heap_alloc _ _ _ (by omega)).trans r0))
    · exact (Below.heap_alloc (((w.alloc (.cells #[.int .i64 x] 3)).alloc (.cells #[.int .i64 c.no, .slice A n cp] 45)).alloc (.cells (poA poZ) 49)) _ _ (by omega)).trans ((Below.heap_alloc _ _ _ (by omega)).trans r1)
    · exact PAt.of_heap zero32_len ((Below.heap_alloc (((w.alloc (.cells #[.int .i64 x] 3)).alloc (.cells #[.int .i64 c.no, .slice A n cp] 45)).alloc (.cells (poA poZ) 49)) _ _ (by omega)).trans r2)
  replace hstart := Lib.hid hstart
  clear r0 r1 r2 r3 z1 z2 z3 hW0
  go_loopw [13] (fun s13 wr => (s13 = .int .i64 0 ∧ AnW x c n cp A w wr poZ) ∨ (s13 = .int .i64 1 ∧ AnIn x ∧ AnW x c n cp A w wr poZ) ∨ (s13 = .int .i64 2 ∧ AnIn x ∧ CalOk c ∧ AnW x c n cp A w wr ⟨c.no, calD c, 0, 0⟩) ∨ (s13 = .int .i64 3 ∧ AnIn x ∧ CalOk c ∧ AnW x c n cp A w wr (poS x c.no (calD c)))) (fun s13 _ => 3 - (intOf s13).toNat)
  case atStart => exact .inl ⟨rfl, hstart.out⟩
  case round =>
    clear hstart
    rcases hrel with ⟨rfl, hW⟩ | ⟨rfl, hin, hW⟩ | ⟨rfl, hin, hok, hW⟩ | ⟨rfl, hin, hok, hW⟩
    · obtain ⟨c0, c1, c2, c3⟩ := hW.cells
      have f0 : wr.cell? ⟨w.heap.size + 1 + 1 + 1, 0, none⟩ = some (.func (.func 52) #[] #[.pointer (some ⟨w.heap.size, 0, none⟩)]) := c3 0
      by_cases hin : AnIn x
      · have ha := Lib.hid (ann1_in x w.heap.size wr c0 hin.1 hin.2)
        replace hin := Lib.hid hin
        replace hW := Lib.hid hW
        clear c0 c1 c2 c3
        go_wp2_with fail
        refine ha.out.mono ?_
        rintro e w2 ⟨rfl, rfl⟩
        go_wp2_with fail
        go_roundw
        case rel => exact .inr (.inl ⟨rfl, hin.out, hW.out⟩)
        case measure => simp [intOf]
      · have ha := Lib.hid (ann1_out x w.heap.size wr c0 hin)
        have hRz := hanZ.out (fun h => hin h.1)
        have hEz := hanE.out
        rw [if_neg hin] at hEz
        subst hRz hEz
        have hth : Hid (wr.there (w.heap.size + 1 + 1) 0 (poA poZ).size) := Lib.hid (by rw [poA_size zero32_len]; exact hW.p.th)
        have hPz := Lib.hid (hW.p.set_all poZ zero32_len)
        have hBz := Lib.hid (hW.below.grown (setCells_grown wr (w.heap.size + 1 + 1) 0 (poC poZ)) hW.below.size (fun k e => by have := Option.some.inj e; omega))
        clear c0 c1 c2 c3 hW hin
        go_wp2_with fail
        refine ha.out.mono ?_
        rintro e w2 ⟨rfl, rfl⟩
        go_wp2_with (refine wpList_store_mid (by rfl) 49 (.tmp 4) (.tmp 21) (by rfl) (w.heap.size + 1 + 1) 0 (poA poZ) (by rfl) (by rfl) hth.out hiZ2.out hoZ.out ?_)
        refine bodyPost_ret (v := .tuple #[.agg (poC poZ).toArray, .int .i64 110]) (results_mid_tmp rfl _ _ (w.heap.size + 1 + 1) (poC poZ) _ _ rfl rfl hPz.out.row Tryd.underlying49 (by rfl) hiZ.out) rfl ⟨rfl, hBz.out⟩
    · obtain ⟨c0, c1, c2, c3⟩ := hW.cells
      have f1 : wr.cell? ⟨w.heap.size + 1 + 1 + 1, 1, none⟩ = some (.func (.func 53) #[] #[.pointer (some ⟨w.heap.size + 1, 0, none⟩), .pointer (some ⟨w.heap.size + 1 + 1, 0, none⟩)]) := c3 1
      have ha := Lib.hid (ann2_any w c n cp A (w.heap.size + 1) (w.heap.size + 1 + 1) poZ wr zero32_len hn.out hc hA.out hI.out hL.out hW.below (by omega) c1 c2 (by omega) hW.p)
      clear c0 c1 c2 c3
      by_cases hok : CalOk c
      · have e0 : Hid (calE c = 0) := Lib.hid (if_pos hok)
        replace hin := Lib.hid hin
        replace hok := Lib.hid hok
        replace hW := Lib.hid hW
        go_wp2_with fail
        refine ha.out.mono ?_
        rintro e w2 ⟨rfl, hP2, hG2⟩
        rw [e0.out]
        have hW2 := Lib.hid (hW.out.step hP2 hG2)
        clear hP2 hG2
        go_wp2_with fail
        go_roundw
        case rel => exact .inr (.inr (.inl ⟨rfl, hin.out, hok.out, hW2.out⟩))
        case measure => simp [intOf]
      · have e0 : Hid (calE c = 350) := Lib.hid (if_neg hok)
        have hRz := hanZ.out (fun h => hok h.2)
        have hEz := hanE.out
        rw [if_pos hin, e0.out] at hEz
        subst hRz hEz
        replace hW := Lib.hid hW
        clear hin hok
        go_wp2_with fail
        refine ha.out.mono ?_
        rintro e w2 ⟨rfl, hP2, hG2⟩
        rw [e0.out]
        have hW2 := hW.out.step hP2 hG2
        have hth : Hid (w2.there (w.heap.size + 1 + 1) 0 (poA poZ).size) := Lib.hid (by rw [poA_size zero32_len]; exact hW2.p.th)
        have hPz := Lib.hid (hW2.p.set_all poZ zero32_len)
        have hBz := Lib.hid (hW2.below.grown (setCells_grown w2 (w.heap.size + 1 + 1) 0 (poC poZ)) hW2.below.size (fun k e => by have := Option.some.inj e; omega))
        clear hP2 hG2 hW2
        go_wp2_with (refine wpList_store_mid (by rfl) 49 (.tmp 4) (.tmp 21) (by rfl) (w.heap.size + 1 + 1) 0 (poA poZ) (by rfl) (by rfl) hth.out hiZ2.out hoZ.out ?_)
        refine bodyPost_ret (v := .tuple #[.agg (poC poZ).toArray, .int .i64 350]) (results_mid_tmp rfl _ _ (w.heap.size + 1 + 1) (poC poZ) _ _ rfl rfl hPz.out.row Tryd.underlying49 (by rfl) hiZ.out) rfl ⟨rfl, hBz.out⟩
    · obtain ⟨c0, c1, c2, c3⟩ := hW.cells
      have f2 : wr.cell? ⟨w.heap.size + 1 + 1 + 1, 2, none⟩ = some (.func (.func 55) #[] #[.pointer (some ⟨w.heap.size, 0, none⟩), .pointer (some ⟨w.heap.size + 1 + 1, 0, none⟩)]) := c3 2
      have hz := (Array.getElem?_eq_some_iff.1 hW.s).1
      have ha := Lib.hid (ann3_any x w.heap.size (w.heap.size + 1 + 1) ⟨c.no, calD c, 0, 0⟩ wr hlenD.out (by have h1 := hok.1; have h2 := hok.2.1; exact ⟨by dsimp only; omega, by dsimp only; omega⟩) hin.1 hin.2 (hL.out.below hW.below) c0 hz hW.p)
      replace hin := Lib.hid hin
      replace hok := Lib.hid hok
      replace hW := Lib.hid hW
      clear c0 c1 c2 c3
      go_wp2_with fail
      refine ha.out.mono ?_
      rintro e w2 ⟨rfl, hP2, hG2⟩
      have hW2 := Lib.hid (hW.out.step hP2 hG2)
      clear hP2 hG2
      go_wp2_with fail
      go_roundw
      case rel => exact .inr (.inr (.inr ⟨rfl, hin.out, hok.out, hW2.out⟩))
      case measure => simp [intOf]
    · have hRz := hanP.out _ ⟨hin, hok⟩ rfl
      have hEz := hanE.out
      rw [if_pos hin, show calE c = 0 from if_pos hok] at hEz
      rw [← hRz] at hW
      have hr := Lib.hid hW.p.row
      have hlenS : R.root.length = 32 := by rw [hRz]; exact hlenD.out
      have hiS := Lib.hid (po_info' hlenS)
      have hiS' := Lib.hid (po_info hlenS)
      have hoS := Lib.hid (poA_one R)
      have hth : Hid (wr.there (w.heap.size + 1 + 1) 0 (poA R).size) := Lib.hid (by rw [poA_size hlenS]; exact hW.p.th)
      have hPz := Lib.hid (hW.p.set_all R hlenS)
      have hBz := Lib.hid (hW.below.grown (setCells_grown wr (w.heap.size + 1 + 1) 0 (poC R)) hW.below.size (fun k e => by have := Option.some.inj e; omega))
      subst hEz
      clear hin hok hW hanP hanZ hanE hlenS
      replace hRz := Lib.hid hRz
      go_wp2_with (first
        | (refine wpList_load_mid (by rfl) 49 (.tmp 4) (by rfl) (w.heap.size + 1 + 1) 0 (by rfl) (poC R) _ hr.out Tryd.underlying49 (by rfl) hiS.out ?_)
        | (refine wpList_store_mid (by rfl) 49 (.tmp 4) (.tmp 24) (by rfl) (w.heap.size + 1 + 1) 0 (poA R) (by rfl) (by rfl) hth.out hiS'.out hoS.out ?_))
      refine bodyPost_ret (v := .tuple #[.agg (poC R).toArray, .int .i64 0]) (results_mid_tmp rfl _ _ (w.heap.size + 1 + 1) (poC R) _ _ rfl rfl hPz.out.row Tryd.underlying49 (by rfl) hiS.out) rfl ⟨rfl, hBz.out⟩
end Go.Proofs.YthokpfegfnpmhaaDoor
