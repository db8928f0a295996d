/- Two digests compared. -/
import Derived.Test.YthokpfegfnpmhaaDoorTagH
import Derived.ChangeKeysEq
import Derived.Test.YthokpfegfnpmhaaDoorCalDig
import Derived.Test.YthokpfegfnpmhaaDoorSList
namespace Go.Proofs.YthokpfegfnpmhaaDoor
open Go.RowKit Sha
set_option linter.unusedVariables false
set_option linter.unusedSimpArgs false

theorem mapM_some {α β : Type} (f : α → Option β) (g : α → β) : ∀ (l : List α), (∀ x ∈ l, f x = some (g x)) → l.mapM f = some (l.map g)
  | [], _ => rfl
  | x :: l, h => by
    rw [List.mapM_cons, h x (by simp), mapM_some f g l fun y hy => h y (by simp [hy])]
    rfl

theorem wf8 (x : UInt8) : (Lit.int .u8 (x.toNat : Int)).wf = true := by
  have := x.toNat_lt
  simp only [Lit.wf]
  have e0 : IntKind.u8.min = 0 := by decide
  have e1 : IntKind.u8.max = 255 := by decide
  rw [e0, e1]
  simp
  omega
theorem key8 (x : UInt8) : Tryd.prog.keyLits 5 5 [by1 x] = some [.int .u8 (x.toNat : Int)] := by
  simp [Program.keyLits, by1, Tryd.underlying5, wf8 x]

theorem flat_one {α β : Type} (F : α → β) (l : List α) : (l.map fun i => [F i]).flatten = l.map F := by
  induction l with
  | nil => rfl
  | cons x l ih => simp [ih]
theorem flat_lits (p : List UInt8) : ((List.range p.length).map fun i => [Lit.int .u8 ((p.getD i 0).toNat : Int)]).flatten = p.map fun x => Lit.int .u8 (x.toNat : Int) := by
  rw [flat_one]
  apply List.ext_getElem
  · simp
  · intro i h1 h2
    simp at h2
    simp [List.getD_eq_getElem?_getD, List.getElem?_eq_getElem h2]
theorem lits_inj {p q : List UInt8} (h : (p.map fun x => Lit.int .u8 (x.toNat : Int)) = q.map fun x => Lit.int .u8 (x.toNat : Int)) : p = q := by
  refine List.map_inj_right ?_ |>.1 h
  intro x y e
  simp at e
  exact UInt8.toNat_inj.1 (by omega)

set_option maxRecDepth 100000 in
/-- two digests are compared by their bytes -/
theorem eq_dg (p q : List UInt8) (hp : p.length = 32) (hq : q.length = 32) (W : World) :
    (Op.equalIn 10000 35 (.agg (dg p)) (.agg (dg q))).run Tryd.prog W = .ok (decide (p = q)) W := by
  have he : Tryd.prog.plainKey 5 = true := by kernel_rfl
  have hc : Tryd.prog.cellsOf 5 = 1 := by kernel_rfl
  obtain ⟨i, hi⟩ : ∃ i, Tryd.prog.info? 5 = some i := ⟨_, rfl⟩
  have hm : ∀ (r : List UInt8), r.length = 32 → (List.range 32).mapM (fun i => Tryd.prog.keyLits 5 5 (((dg r).toList.drop (i * Tryd.prog.cellsOf 5)).take (Tryd.prog.cellsOf 5))) = some ((List.range r.length).map fun i => [Lit.int .u8 ((r.getD i 0).toNat : Int)]) := fun r hr => by
    rw [hr]
    refine mapM_some _ _ _ fun i hi => ?_
    have hlt : i < r.length := by rw [hr]; simpa using hi
    have e : ((dg r).toList.drop (i * Tryd.prog.cellsOf 5)).take (Tryd.prog.cellsOf 5) = [by1 (r.getD i 0)] := by
      rw [hc, Nat.mul_one]
      have : (r.map by1).drop i = by1 (r.getD i 0) :: (r.map by1).drop (i + 1) := by
        rw [List.drop_eq_getElem_cons (by simpa using hlt)]
        simp [List.getD_eq_getElem?_getD, List.getElem?_eq_getElem hlt]
      simp only [dg]
      rw [this]
      rfl
    rw [e]
    exact key8 _
  obtain ⟨r, hr, hiff⟩ := run_eqItems_plain W 9998 he (dg p) (dg q) (List.range 32) _ _ (hm p hp) (hm q hq)
  rw [flat_lits, flat_lits] at hiff
  refine (run_equalIn_array W 9999 (dg p) (dg q) Tryd.underlying35 hi).trans (hr.trans ?_)
  have : r = decide (p = q) := by
    by_cases h : p = q
    · rw [decide_eq_true h, hiff.2 (by rw [h])]
    · rw [decide_eq_false h]
      cases r
      · rfl
      · exact absurd (lits_inj (hiff.1 rfl)) h
  rw [this]
end Go.Proofs.YthokpfegfnpmhaaDoor
/- The walks of offices.text and offices.textOf; posts as values. -/
namespace Go.Proofs.YthokpfegfnpmhaaDoor
open Go.RowKit Cdc Sha
set_option linter.unusedVariables false
set_option linter.unusedSimpArgs false

/-- the append of one flat value, as a step of a region -/
theorem step_appF {ops : Array Oper} {o : Oper} {a : Act} {K : Act → World → Prop} {Q : Exit → Act → World → Prop} {E : Prop} (w : World) (hgd : o.guard = none) (s x : Operand)
    (ho : o.op = .call { callee := .builtin .append, args := #[s, x], argTypes := #[78, 78] }) (b : Nat) (row : Value) (l : List V) (y : V) (g : Nat)
    (hs : a.eval s = row) (hx : a.eval x = .slice (some ⟨g, 0, none⟩) 1 1) (hown : RowF w b row l) (hg : w.heap[g]? = some (.cells #[.int .i64 y.k, .int .i64 y.n, .string y.s, .slice none 0 0] 80 (0, 0)))
    (hl : l.length ≤ 1000000000) (hb : b ≤ w.heap.size)
    (h : ∀ row' w', RowF w' b row' (l ++ [y]) → w.grownBy w' row.ownBlock → K (a.put o.dst row') w') : if Region.wanted o (yielded ops a.tmps) = true then Oper.wp Tryd.prog o a w K Q else E := by
  have hw : Region.wanted o (yielded ops a.tmps) = true := by simp [Region.wanted, hgd]
  rw [if_pos hw]
  obtain ⟨i0, hi0, hz0, hz1, hz2⟩ := info_parts vF_info
  obtain ⟨v', w', hr, h2, h3, _, h5⟩ := run_append_own_at (P := Tryd.prog) w b 78 o.type 80 i0 _ 4 56 Tryd.underlying78 hi0 hz0 hz1 hz2 rfl (by omega) row l.length (flatF l) hown ⟨g, 0, none⟩ 1 1
    (fl y) rfl (fun j u hu => by
      rw [← World.ownsRow.cells (w := w) (base := 0) (e := 80) (size := 4) (v := .slice (some ⟨g, 0, none⟩) 1 1) (n := 1) (xs := fl y) ⟨rfl, .inr ⟨g, 1, _, rfl, Nat.zero_le _, hg, Nat.le_refl _, by simp [maxLen], rfl, rfl⟩⟩ (g := g) rfl j u hu])
    (by intro u hu; simp [fl] at hu; rcases hu with rfl | rfl | rfl | rfl <;> rfl) (by simp only [maxLen]; omega) (by omega) hb
  unfold Oper.wp execOp
  simp only [ho, resolve, invoke, builtin, Sem.run_bind, Sem.run_pure, Result.andThen_ok, List.map_toArray, List.map_cons, List.map_nil, hs, hx, hr]
  refine h v' w' ?_ h3
  unfold RowF
  rw [flatF_append]
  simpa [flatF] using h2

/-- a text as a value -/
def sV (s : ByteArray) : V := ⟨2, 0, s, []⟩
/-- an argument of text -/
def OArg (v : Value) (y : V) : Prop := (∃ s, v = .iface 9 (.string s) ∧ y = sV s) ∨ (∃ m, v = .iface 3 (.int .i64 m) ∧ y = iV m) ∨ (∃ bs : List UInt8, bs.length = 32 ∧ v = .iface 35 (.agg (dg bs)) ∧ y = tV bs)
theorem OArg.atom {v : Value} {y : V} (h : OArg v y) : y.l = [] := by
  rcases h with ⟨s, _, rfl⟩ | ⟨m, _, rfl⟩ | ⟨bs, _, _, rfl⟩ <;> rfl
def OArgsAt (w : World) (cb : Nat) (l : List V) : Prop := ∀ i y, l[i]? = some y → cb < w.heap.size ∧ ∃ v, w.cell? ⟨cb, i, none⟩ = some v ∧ OArg v y
theorem OArgsAt.below {w w' : World} {cb : Nat} {l : List V} (h : OArgsAt w cb l) (hb : Below w.heap.size w w') : OArgsAt w' cb l := fun i y hi => by
  obtain ⟨h0, v, h1, h2⟩ := h i y hi
  exact ⟨Nat.lt_of_lt_of_le h0 hb.size, v, (hb.cell (p := ⟨cb, i, none⟩) h0).trans h1, h2⟩
theorem to_s (s : ByteArray) (W : World) : (Instr.typeAssert (.iface 9 (.string s)) 20 9 true).run Tryd.prog W = .ok (.tuple #[.string s, .bool true]) W := by kernel_rfl
theorem to_si (v : Value) (W : World) : (Instr.typeAssert (.iface 3 v) 20 9 true).run Tryd.prog W = .ok (.tuple #[.string ⟨#[]⟩, .bool false]) W := by kernel_rfl
theorem to_sd (v : Value) (W : World) : (Instr.typeAssert (.iface 35 v) 20 9 true).run Tryd.prog W = .ok (.tuple #[.string ⟨#[]⟩, .bool false]) W := by kernel_rfl
theorem to_id (v : Value) (W : World) : (Instr.typeAssert (.iface 35 v) 20 3 true).run Tryd.prog W = .ok (.tuple #[.int .i64 0, .bool false]) W := by kernel_rfl
theorem to_d (v : Value) (W : World) : (Instr.typeAssert (.iface 35 v) 20 35 true).run Tryd.prog W = .ok (.tuple #[v, .bool true]) W := by kernel_rfl

set_option maxRecDepth 100000 in
set_option maxHeartbeats 4000000 in
theorem otext_any (l : List V) (cb n c : Nat) (hn : l.length = n) (hnm : n ≤ 100000) (w : World) (h : OArgsAt w cb l) (hsm : Sm ⟨3, 0, ⟨#[]⟩, l⟩) (hen : (enc ⟨3, 0, ⟨#[]⟩, l⟩).length ≤ 1000000000) :
    Calls Tryd.prog 84 #[.slice (some ⟨cb, 0, none⟩) n c] w (Fresh (encB ⟨3, 0, ⟨#[]⟩, l⟩) w) := by
  have hat : Hid (∀ y ∈ l, y.l = []) := Lib.hid fun y hy => by
    obtain ⟨i, hi⟩ := List.mem_iff_getElem?.1 hy
    obtain ⟨_, v, _, hv⟩ := h i y hi
    exact hv.atom
  replace hn := Lib.hid hn
  replace h := Lib.hid h
  unfold Fresh
  go_enter Tryd.func84, Tryd.ntmps84
  go_wp2_with fail
  have hv0 := heap_alloc_new w (.cells #[.int .i64 3, .int .i64 0, .string ⟨#[]⟩, .slice none 0 0] 80)
  have hB0 : Below w.heap.size w (w.alloc (.cells #[.int .i64 3, .int .i64 0, .string ⟨#[]⟩, .slice none 0 0] 80)) := (Below.refl _ _).alloc (Nat.le_refl _) _
  replace hv0 := Lib.hid hv0
  go_loopw [14] (fun s14 wr => ∃ (k : Nat) (row : Value), k ≤ n ∧ s14 = .int .i64 (k : Int) ∧ wr.heap[w.heap.size]? = some (.cells #[.int .i64 3, .int .i64 0, .string ⟨#[]⟩, row] 80 (0, 0)) ∧ RowF wr (w.heap.size + 1) row (l.take k) ∧ Below w.heap.size w wr) (fun s14 _ => n - (intOf s14).toNat)
  case atStart => exact ⟨0, _, by omega, rfl, hv0.out, RowF.nil _ _, hB0⟩
  case round =>
    clear hv0 hB0
    obtain ⟨k, row, hk, rfl, hv, hrow, hB⟩ := hrel
    have hlt0 := (Array.getElem?_eq_some_iff.1 hv).1
    by_cases hkn : k < n
    · obtain ⟨y, hy⟩ : ∃ y, l[k]? = some y := ⟨_, List.getElem?_eq_getElem (by rw [hn.out]; omega)⟩
      obtain ⟨hcl, v, hcv, hav⟩ := h.out.below hB k y hy
      have hts := Lib.hid (take_snocV hy)
      have hc3 : wr.cell? ⟨w.heap.size, 3, none⟩ = some row := by rw [cell_of_row _ _ _ _ _ _ hv]; rfl
      have hf3 := frozen_of_row wr w.heap.size 3 _ _ hv
      have hltk : Hid ((l.take k).length ≤ 1000000000) := Lib.hid (by rw [List.length_take]; omega)
      rcases hav with ⟨s, rfl, rfl⟩ | ⟨m, rfl, rfl⟩ | ⟨bs, hbs, rfl, rfl⟩
      · replace hv := Lib.hid hv
        have hta0 := to_s
        have hnew : Hid (∀ (W : World) (g : Nat), g = W.heap.size → (W.alloc (.cells #[.int .i64 2, .int .i64 0, .string s, .slice none 0 0] 80)).heap[g]? = some (.cells #[.int .i64 2, .int .i64 0, .string s, .slice none 0 0] 80 (0, 0))) := Lib.hid fun W g hg => by subst hg; exact heap_alloc_new W _
        have hsz : w.heap.size + 1 ≤ wr.heap.size := hlt0
        replace hrow := Lib.hid hrow
        go_wp2_with (at_builtin; refine wpList_appF _ (by rfl) (.tmp 23) (.tmp 26) (by rfl) (w.heap.size + 1) row (l.take k) ⟨2, 0, s, []⟩ wr.heap.size (by rfl) (by rfl) (hrow.out.alloc _) (hnew.out _ _ rfl) hltk.out (by simp; omega) ?_; intro row' w2 hrow2 hg2; obtain ⟨A1, m1, c1, rfl⟩ := hrow2.form3; replace hrow2 := Lib.hid hrow2; have hv2 := (hg2.block w.heap.size (by simp; omega) (fun e => by have := (hrow.out.high e.symm).1; omega)).trans ((Below.heap_alloc wr _ w.heap.size (by omega)).trans hv.out); have hB2 : Below w.heap.size w w2 := (hB.alloc hB.size _).grown hg2 (by simp; omega) (fun g e => by have := (hrow.out.high e).1; omega); have hf2 := frozen_of_row w2 w.heap.size 3 _ _ hv2; have hc2 : w2.cell? ⟨w.heap.size, 3, none⟩ = some row := by rw [cell_of_row _ _ _ _ _ _ hv2]; rfl)
        replace hv2 := Lib.hid hv2
        go_roundw
        case rel =>
          have h3 := (heap_setCell_same w2 w.heap.size 3 _ _ (.slice A1 m1 c1) hv2.out).trans (show some (Obj.cells (#[.int .i64 3, .int .i64 0, .string ⟨#[]⟩, row].setIfInBounds 3 (.slice A1 m1 c1)) 80) = some (Obj.cells #[.int .i64 3, .int .i64 0, .string ⟨#[]⟩, .slice A1 m1 c1] 80) by simp)
          refine ⟨k + 1, _, by omega, by go_num, h3, ?_, hB2.setCell (p := ⟨w.heap.size, 3, none⟩) (Nat.le_refl _) _⟩
          rw [hts.out]
          exact ownsRow_setCell_below hrow2.out (a := ⟨w.heap.size, 3, none⟩) (Nat.lt_succ_self _) _
        case measure => simp [intOf]; omega
      · replace hv := Lib.hid hv
        have hta0 := to_si
        have hta1 := ta_int
        have hnew : Hid (∀ (W : World) (g : Nat), g = W.heap.size → (W.alloc (.cells #[.int .i64 1, .int .i64 m, .string ⟨#[]⟩, .slice none 0 0] 80)).heap[g]? = some (.cells #[.int .i64 1, .int .i64 m, .string ⟨#[]⟩, .slice none 0 0] 80 (0, 0))) := Lib.hid fun W g hg => by subst hg; exact heap_alloc_new W _
        have hsz : w.heap.size + 1 ≤ wr.heap.size := hlt0
        replace hrow := Lib.hid hrow
        go_wp2_with (at_builtin; refine wpList_appF _ (by rfl) (.tmp 33) (.tmp 36) (by rfl) (w.heap.size + 1) row (l.take k) ⟨1, m, ⟨#[]⟩, []⟩ wr.heap.size (by rfl) (by rfl) (hrow.out.alloc _) (hnew.out _ _ rfl) hltk.out (by simp; omega) ?_; intro row' w2 hrow2 hg2; obtain ⟨A1, m1, c1, rfl⟩ := hrow2.form3; replace hrow2 := Lib.hid hrow2; have hv2 := (hg2.block w.heap.size (by simp; omega) (fun e => by have := (hrow.out.high e.symm).1; omega)).trans ((Below.heap_alloc wr _ w.heap.size (by omega)).trans hv.out); have hB2 : Below w.heap.size w w2 := (hB.alloc hB.size _).grown hg2 (by simp; omega) (fun g e => by have := (hrow.out.high e).1; omega); have hf2 := frozen_of_row w2 w.heap.size 3 _ _ hv2; have hc2 : w2.cell? ⟨w.heap.size, 3, none⟩ = some row := by rw [cell_of_row _ _ _ _ _ _ hv2]; rfl)
        replace hv2 := Lib.hid hv2
        go_roundw
        case rel =>
          have h3 := (heap_setCell_same w2 w.heap.size 3 _ _ (.slice A1 m1 c1) hv2.out).trans (show some (Obj.cells (#[.int .i64 3, .int .i64 0, .string ⟨#[]⟩, row].setIfInBounds 3 (.slice A1 m1 c1)) 80) = some (Obj.cells #[.int .i64 3, .int .i64 0, .string ⟨#[]⟩, .slice A1 m1 c1] 80) by simp)
          refine ⟨k + 1, _, by omega, by go_num, h3, ?_, hB2.setCell (p := ⟨w.heap.size, 3, none⟩) (Nat.le_refl _) _⟩
          rw [hts.out]
          exact ownsRow_setCell_below hrow2.out (a := ⟨w.heap.size, 3, none⟩) (Nat.lt_succ_self _) _
        case measure => simp [intOf]; omega
      · have hta0 := to_sd
        have hta1 := to_id
        have hta2 := to_d
        have hiD := Lib.hid (dg_info bs hbs)
        have hoD := Lib.hid (dg_one bs)
        have hsD : Hid (32 = (dg bs).size) := Lib.hid (by rw [dg_size, hbs])
        have hsz : w.heap.size + 1 ≤ wr.heap.size := hlt0
        replace hrow := Lib.hid hrow
        replace hv := Lib.hid hv
        go_wp2_with (first
          | (refine wpList_new_row' (by rfl) 35 (.tmp 8) (.tmp 41) (by rfl) (by rfl) (dg bs) wr.heap.size (by rfl) rfl (by rfl) 35 _ hiD.out hsD.out hoD.out ?_; intro w4 hd4 hz4 hB4; replace hd4 := Lib.hid hd4; replace hz4 := Lib.hid hz4; replace hB4 := Lib.hid hB4))
        have hz4' := hz4.out
        have hv4 := (hB4.out.block w.heap.size (by omega)).trans hv.out
        have hrow4 : Hid (RowF w4.drew (w.heap.size + 1) row (l.take k)) := Lib.hid (show RowF w4 (w.heap.size + 1) row (l.take k) from ownsRow_below hrow.out hB4.out)
        have hdl := (Array.getElem?_eq_some_iff.1 hd4.out).1
        have hwl := (Array.getElem?_eq_some_iff.1 hv4).1
        clear hz4'
        have hS : Hid (∀ V, Below w4.heap.size w4 V → V.cell? ⟨w.heap.size, 3, none⟩ = some row ∧ (convert 23 9 (.slice (some ⟨wr.heap.size, 0, none⟩) 32 32)).run Tryd.prog V = .ok (.string ⟨bs.toArray⟩) V) := Lib.hid fun V hV =>
          ⟨by rw [cell_of_row _ _ _ _ _ _ ((hV.block w.heap.size hwl).trans hv4)]; rfl, (dg_at ((hV.block wr.heap.size hdl).trans hd4.out)).conv 32 32 hbs⟩
        have HB : Below w4.heap.size w4 w4.drew := (Below.refl _ _).drew
        refine wp_region_T 7 (fun w' => w'.cell? ⟨w.heap.size, 3, none⟩ = some row ∧ (convert 23 9 (.slice (some ⟨wr.heap.size, 0, none⟩) 32 32)).run Tryd.prog w' = .ok (.string ⟨bs.toArray⟩) w') (by kernel_rfl) (by exact hS.out _ HB) (fun hHeld => ?_)
        refine wpAnyT_take (i := 0) (oi := { dst := some 42, op := Op.fieldAddr 80 (Operand.tmp 3) 3, type := 0, pos := "offices.go:23", after := #[], guard := none }) (v := ?_) rfl (by kernel_rfl) (by kernel_rfl) (by kernel_rfl) (by kernel_rfl) (fun _ _ _ h => h) (Or.inl ⟨by rfl, ?hy0⟩) hHeld ?rest0
        case hy0 =>
          intro w hSw
          try dsimp only at hSw
          go_simp
          try with_reducible rfl
        try simp only [Act.put, List.setIfInBounds_toArray, List.set_cons_zero, List.set_cons_succ]
        refine wpAnyT_take (i := 1) (oi := { dst := some 43, op := Op.load 78 (Operand.tmp 42), type := 78, pos := "offices.go:23", after := #[{ on := 0, ground := Ground.data }], guard := none }) (v := ?_) rfl (by kernel_rfl) (by kernel_rfl) (by kernel_rfl) (by kernel_rfl) (fun _ _ _ h => h) (Or.inl ⟨by rfl, ?hy1⟩) hHeld ?rest1
        case hy1 =>
          intro w hSw
          try dsimp only at hSw
          go_simp
          try with_reducible rfl
        try simp only [Act.put, List.setIfInBounds_toArray, List.set_cons_zero, List.set_cons_succ]
        refine wpAnyT_take (i := 2) (oi := { dst := some 44, op := Op.slice 35 (Operand.tmp 8) none none none, type := 23, pos := "offices.go:23", after := #[], guard := none }) (v := ?_) rfl (by kernel_rfl) (by kernel_rfl) (by kernel_rfl) (by kernel_rfl) (fun _ _ _ h => h) (Or.inl ⟨by rfl, ?hy2⟩) hHeld ?rest2
        case hy2 =>
          intro w hSw
          try dsimp only at hSw
          go_simp
          try with_reducible rfl
        try simp only [Act.put, List.setIfInBounds_toArray, List.set_cons_zero, List.set_cons_succ]
        refine wpAnyT_take (i := 3) (oi := { dst := some 45, op := Op.convert 23 9 (Operand.tmp 44), type := 9, pos := "offices.go:23", after := #[{ on := 2, ground := Ground.data }], guard := none }) (v := ?_) rfl (by kernel_rfl) (by kernel_rfl) (by kernel_rfl) (by kernel_rfl) (fun _ _ _ h => h) (Or.inl ⟨by rfl, ?hy3⟩) hHeld ?rest3
        case hy3 =>
          intro w hSw
          try dsimp only at hSw
          go_simp
          try with_reducible rfl
        try simp only [Act.put, List.setIfInBounds_toArray, List.set_cons_zero, List.set_cons_succ]
        refine wpAnyT_take (i := 4) (oi := { dst := some 46, op := Op.build 80 #[(0, Operand.const (Value.int IntKind.i64 2)), (2, Operand.tmp 45)], type := 80, pos := "offices.go:23", after := #[{ on := 3, ground := Ground.data }], guard := none }) (v := ?_) rfl (by kernel_rfl) (by kernel_rfl) (by kernel_rfl) (by kernel_rfl) (fun _ _ _ h => h) (Or.inl ⟨by rfl, ?hy4⟩) hHeld ?rest4
        case hy4 =>
          intro w hSw
          try dsimp only at hSw
          go_simp
          try with_reducible rfl
        try simp only [Act.put, List.setIfInBounds_toArray, List.set_cons_zero, List.set_cons_succ]
        refine wpAnyT_one (i := 5) (o := { dst := some 47, op := Op.buildSlice 78 1 #[(0, Operand.tmp 46)], type := 78, pos := "offices.go:23", after := #[{ on := 4, ground := Ground.data }], guard := none }) (by kernel_rfl) rfl (fun K hK => ?_)
        go_simp
        refine hK.out _ _ (by exact hS.out _ (HB.alloc HB.size _)) (fun hHeld' => ?_)
        clear hK K hHeld
        have hHeld := hHeld'
        clear hHeld'
        try simp only [Act.put, List.setIfInBounds_toArray, List.set_cons_zero, List.set_cons_succ]
        refine wpAnyT_one (i := 6) (o := { dst := some 48, op := Op.call { callee := Callee.builtin Builtin.append, args := #[Operand.tmp 43, Operand.tmp 47], argTypes := #[78, 78] }, type := 78, pos := "offices.go:23", after := #[{ on := 1, ground := Ground.data }, { on := 5, ground := Ground.data }], guard := none }) (by kernel_rfl) rfl (fun K hK => ?_)
        have hz4' := hz4.out
        refine step_appF _ (by rfl) (.tmp 43) (.tmp 47) (by rfl) (w.heap.size + 1) row (l.take k) ⟨2, 0, ⟨bs.toArray⟩, []⟩ w4.drew.heap.size (by rfl) (by rfl) (hrow4.out.alloc _) (heap_alloc_new _ _) hltk.out (by simp; omega) ?_
        intro row' w2 hrow2 hg2
        obtain ⟨A1, m1, c1, rfl⟩ := hrow2.form3
        replace hrow2 := Lib.hid hrow2
        have hv2 := (hg2.block w.heap.size (by simp; omega) (fun e => by have := (hrow4.out.high e.symm).1; omega)).trans ((Below.heap_alloc w4.drew _ w.heap.size (by simp; omega)).trans hv4)
        have hB2 : Below w.heap.size w w2 := ((hB.trans (hB4.out.mono hB.size)).drew.alloc (hB.trans (hB4.out.mono hB.size)).drew.size _).grown hg2 (by simp; omega) (fun g e => by have := (hrow4.out.high e).1; omega)
        have hc2 : w2.cell? ⟨w.heap.size, 3, none⟩ = some row := by rw [cell_of_row _ _ _ _ _ _ hv2]; rfl
        have hd2 := (hg2.block wr.heap.size (by simp; omega) (fun e => by have := (hrow4.out.high e.symm).2; have := hrow.out.high e.symm; omega)).trans ((Below.heap_alloc w4.drew _ wr.heap.size (by simp; omega)).trans hd4.out)
        have hcv2 := (dg_at hd2).conv 32 32 hbs
        have hf2 := frozen_of_row w2 w.heap.size 3 _ _ hv2
        clear hz4'
        refine hK.out _ _ (by exact ⟨hc2, hcv2⟩) (fun hHeld' => ?_)
        clear hK K hHeld
        have hHeld := hHeld'
        clear hHeld'
        try simp only [Act.put, List.setIfInBounds_toArray, List.set_cons_zero, List.set_cons_succ]
        refine wpAnyT_tail (i := 7) (o := { dst := some 49, op := Op.fieldAddr 80 (Operand.tmp 3) 3, type := 0, pos := "offices.go:23", after := #[{ on := 0, ground := Ground.phase }, { on := 1, ground := Ground.phase }, { on := 2, ground := Ground.phase }, { on := 3, ground := Ground.phase }, { on := 4, ground := Ground.phase }, { on := 5, ground := Ground.phase }, { on := 6, ground := Ground.phase }], guard := none }) (by kernel_rfl) rfl (by rfl) (fun K hK => ?_)
        go_simp
        refine hK.out _ _ ?_
        clear hK K
        try simp only [Act.put, List.setIfInBounds_toArray, List.set_cons_zero, List.set_cons_succ]
        refine wpAnyT_tail (i := 8) (o := { dst := none, op := Op.store 78 (Operand.tmp 49) (Operand.tmp 48), type := 0, pos := "offices.go:23", after := #[{ on := 7, ground := Ground.data }, { on := 6, ground := Ground.data }, { on := 6, ground := Ground.chain }, { on := 0, ground := Ground.phase }, { on := 1, ground := Ground.phase }, { on := 2, ground := Ground.phase }, { on := 3, ground := Ground.phase }, { on := 4, ground := Ground.phase }, { on := 5, ground := Ground.phase }, { on := 6, ground := Ground.phase }], guard := none }) (by kernel_rfl) rfl (by rfl) (fun K hK => ?_)
        go_simp
        refine hK.out _ _ ?_
        clear hK K
        try simp only [Act.put, List.setIfInBounds_toArray, List.set_cons_zero, List.set_cons_succ]
        refine wpAnyT_done (by kernel_rfl) ?_ _
        go_wp2_with fail
        go_roundw
        case rel =>
          have h3 := (heap_setCell_same w2 w.heap.size 3 _ _ (.slice A1 m1 c1) hv2).trans (show some (Obj.cells (#[.int .i64 3, .int .i64 0, .string ⟨#[]⟩, row].setIfInBounds 3 (.slice A1 m1 c1)) 80) = some (Obj.cells #[.int .i64 3, .int .i64 0, .string ⟨#[]⟩, .slice A1 m1 c1] 80) by simp)
          refine ⟨k + 1, _, by omega, by go_num, h3, ?_, hB2.setCell (p := ⟨w.heap.size, 3, none⟩) (Nat.le_refl _) _⟩
          rw [hts.out]
          exact ownsRow_setCell_below hrow2.out (a := ⟨w.heap.size, 3, none⟩) (Nat.lt_succ_self _) _
        case measure => simp [intOf]; omega
    · have hkl : l.take k = l := List.take_of_length_le (by rw [hn.out]; omega)
      rw [hkl] at hrow
      obtain ⟨A1, m1, c1, rfl⟩ := hrow.form3
      have hrs := hrow.rs hat.out
      have hc0 : wr.cell? ⟨w.heap.size, 0, none⟩ = some (.int .i64 3) := by rw [cell_of_row _ _ _ _ _ _ hv]; rfl
      have hc1 : wr.cell? ⟨w.heap.size, 1, none⟩ = some (.int .i64 0) := by rw [cell_of_row _ _ _ _ _ _ hv]; rfl
      have hc2 : wr.cell? ⟨w.heap.size, 2, none⟩ = some (.string ⟨#[]⟩) := by rw [cell_of_row _ _ _ _ _ _ hv]; rfl
      have hc3 : wr.cell? ⟨w.heap.size, 3, none⟩ = some (.slice A1 m1 c1) := by rw [cell_of_row _ _ _ _ _ _ hv]; rfl
      have hdp : dp ⟨3, 0, ⟨#[]⟩, l⟩ ≤ 1000000000000 := by have := dpL_atoms hat.out; simp only [dp]; omega
      have hen2 := Lib.hid (encode_any 1 ⟨3, 0, ⟨#[]⟩, l⟩ (.slice A1 m1 c1) wr hrs hsm hdp hen)
      clear hkl hrow hrs hv
      go_wp2_with fail
      refine hen2.out.mono ?_
      unfold EncPost
      rintro e w2 ⟨v', rfl, ho, hh, hb⟩
      obtain ⟨A9, c9, rfl⟩ := ho.form
      replace ho := Lib.hid ho
      replace hh := Lib.hid hh
      go_wp2_with fail
      go_ret
      exact ⟨_, rfl, ho.out, fun g hg => Nat.le_trans hB.size (hh.out g hg), hB.trans (hb.mono hB.size)⟩

/-- a post -/
structure Po where
  no : Int
  root : List UInt8
  e : Int
  s : Int
def postB : ByteArray := ⟨#[112, 111, 115, 116]⟩
def poC (p : Po) : List Value := .int .i64 p.no :: (p.root.map by1 ++ [.int .i64 p.e, .int .i64 p.s])
def poA (p : Po) : Array Value := (poC p).toArray
/-- what of a post is signed -/
def poL (p : Po) : List V := [sV postB, iV p.no, tV p.root]
def poT (p : Po) : List UInt8 := enc (lV (poL p))
theorem poC_len {p : Po} (h : p.root.length = 32) : (poC p).length = 35 := by simp [poC, h]
theorem poA_size {p : Po} (h : p.root.length = 32) : (poA p).size = 35 := by simp [poA, poC_len h]
theorem poA_one (p : Po) : (poA p).all (·.oneCell') = true := by
  have h1 := one_by1 p.root
  simp [poA, poC, Value.oneCell'] at h1 ⊢
theorem po_info {p : Po} (h : p.root.length = 32) : (Tryd.prog.info? 49).map (·.size) = some (poA p).size := by rw [poA_size h]; kernel_rfl
theorem po_info' {p : Po} (h : p.root.length = 32) : (Tryd.prog.info? 49).map (·.size) = some (poC p).length := by rw [poC_len h]; kernel_rfl
theorem dg_info' (bs : List UInt8) (h : bs.length = 32) : (Tryd.prog.info? 35).map (·.size) = some (bs.map by1).length := by rw [List.length_map, h]; kernel_rfl
theorem poC_root {p : Po} {j : Nat} {y : UInt8} (h : p.root[j]? = some y) : (poC p)[1 + j]? = some (by1 y) := by
  have hl := (List.getElem?_eq_some_iff.1 h).1
  rw [Nat.add_comm]
  simp only [poC, List.getElem?_cons_succ]
  rw [List.getElem?_append_left (by simpa using hl)]
  simp [h]
theorem poC_e {p : Po} (h : p.root.length = 32) : (poC p)[33]? = some (.int .i64 p.e) ∧ (poC p)[34]? = some (.int .i64 p.s) := by
  constructor
  · show ((.int .i64 p.no :: (p.root.map by1 ++ [.int .i64 p.e, .int .i64 p.s]) : List Value))[32 + 1]? = _
    rw [List.getElem?_cons_succ, List.getElem?_append_right (by simp [h])]
    simp [h]
  · show ((.int .i64 p.no :: (p.root.map by1 ++ [.int .i64 p.e, .int .i64 p.s]) : List Value))[33 + 1]? = _
    rw [List.getElem?_cons_succ, List.getElem?_append_right (by simp [h])]
    simp [h]
/-- a post that lies in a block of its own -/
theorem po_root_at {W : World} {g : Nat} {p : Po} (h : W.heap[g]? = some (.cells (poA p) 49 (0, 0))) : W.rangeAt g 1 (p.root.map by1) := fun j v hj => by
  obtain ⟨y, hy, rfl⟩ : ∃ y, p.root[j]? = some y ∧ by1 y = v := by simpa using hj
  rw [cell_of_row _ _ _ _ _ _ h]
  have := poC_root hy
  simpa [poA] using this
theorem po_cells {W : World} {g : Nat} {p : Po} (hp : p.root.length = 32) (h : W.heap[g]? = some (.cells (poA p) 49 (0, 0))) :
    W.cell? ⟨g, 0, none⟩ = some (.int .i64 p.no) ∧ W.cell? ⟨g, 33, none⟩ = some (.int .i64 p.e) ∧ W.cell? ⟨g, 34, none⟩ = some (.int .i64 p.s) := by
  have h1 := poC_e hp
  refine ⟨by rw [cell_of_row _ _ _ _ _ _ h]; simp [poA, poC], ?_, ?_⟩
  · rw [cell_of_row _ _ _ _ _ _ h]; simpa [poA] using h1.1
  · rw [cell_of_row _ _ _ _ _ _ h]; simpa [poA] using h1.2
theorem po_row {W : World} {g : Nat} {p : Po} (h : W.heap[g]? = some (.cells (poA p) 49 (0, 0))) : W.rangeAt g 0 (poC p) := fun j v hj => by
  rw [cell_of_row _ _ _ _ _ _ h, Nat.zero_add]
  simpa [poA] using hj
theorem po_at {W : World} {g : Nat} {p : Po} (h : W.heap[g]? = some (.cells (poA p) 49 (0, 0))) : AtO W (some ⟨g, 1, none⟩) p.root := fun j y hy => ⟨g, 1, rfl, by
  rw [cell_of_row _ _ _ _ _ _ h]
  have := poC_root hy
  simpa [poA] using this⟩
theorem po_sm (p : Po) (h : p.root.length = 32) (hno : I64 p.no) : Sm (lV (poL p)) ∧ (poT p).length ≤ 1000 ∧ ckE (lV (poL p)) = 0 := by
  have h1 := sm_iV hno
  have h2 := sm_tV p.root (by omega)
  have h3 := enc_iV hno
  have h4 := enc_tV p.root (by omega)
  have h5 : Sm (sV postB) ∧ (enc (sV postB)).length ≤ 20 := by
    refine ⟨sm_mk _ _ _ _ i64_zero (by decide) (by decide) trivial, ?_⟩
    simp [sV, enc, postB, num_lt, V.t, ByteArray.size]
  have hm : ∀ x ∈ poL p, Sm x ∧ (enc x).length ≤ 60 := by
    intro x hx
    simp [poL] at hx
    rcases hx with rfl | rfl | rfl
    · exact ⟨h5.1, by omega⟩
    · exact ⟨h1, by omega⟩
    · exact ⟨h2, by omega⟩
  refine ⟨sm_lV (by simp [poL]) fun x hx => (hm x hx).1, ?_, ?_⟩
  · have := enc_lV_len (poL p) (by simp [poL]) 60 fun x hx => (hm x hx).2
    unfold poT
    simp [poL] at this ⊢
    omega
  · have he : (⟨#[]⟩ : ByteArray) = ByteArray.empty := rfl
    have hs := bsize p.root
    simp [poL, sV, iV, tV, lV, ckE, fm, fmL, hs, he]
theorem oargs3 (W : World) (k : Nat) (hk : k = W.heap.size) (v0 v1 v2 : Value) (y0 y1 y2 : V) (h0 : OArg v0 y0) (h1 : OArg v1 y1) (h2 : OArg v2 y2) : OArgsAt (W.alloc (.cells #[v0, v1, v2] 20)) k [y0, y1, y2] := fun i y hi => by
  subst hk
  have hcell := fun j => cell_of_row (W.alloc (.cells #[v0, v1, v2] 20)) W.heap.size j _ _ _ (heap_alloc_new W _)
  refine ⟨by simp, ?_⟩
  match i, hi with
  | 0, hi =>
    obtain rfl : y0 = y := by simpa using hi
    exact ⟨v0, by rw [hcell]; rfl, h0⟩
  | 1, hi =>
    obtain rfl : y1 = y := by simpa using hi
    exact ⟨v1, by rw [hcell]; rfl, h1⟩
  | 2, hi =>
    obtain rfl : y2 = y := by simpa using hi
    exact ⟨v2, by rw [hcell]; rfl, h2⟩
  | i + 3, hi => simp at hi

set_option maxRecDepth 100000 in
set_option maxHeartbeats 4000000 in
theorem textOf_any (p : Po) (hp : p.root.length = 32) (hno : I64 p.no) (w : World) :
    Calls Tryd.prog 57 #[.agg (poA p)] w (Fresh (poT p) w) := by
  have hsm := po_sm p hp hno
  have hrow := heap_alloc_new w (.cells (poA p) 49)
  have hr := Lib.hid (po_root_at hrow)
  obtain ⟨c0, _, _⟩ := po_cells hp hrow
  have hi := Lib.hid (dg_info' p.root hp)
  have hB : Below w.heap.size w (w.alloc (.cells (poA p) 49)) := (Below.refl _ _).alloc (Nat.le_refl _) _
  have hT : Hid (∀ (W : World) (k : Nat), k = W.heap.size → Calls Tryd.prog 84 #[.slice (some ⟨k, 0, none⟩) 3 3] (W.alloc (.cells #[.iface 9 (.string postB), .iface 3 (.int .i64 p.no), .iface 35 (.agg (p.root.map by1).toArray)] 20)) (Fresh (poT p) (W.alloc (.cells #[.iface 9 (.string postB), .iface 3 (.int .i64 p.no), .iface 35 (.agg (p.root.map by1).toArray)] 20)))) := Lib.hid fun W k hk => by
    have := otext_any (poL p) k 3 3 rfl (by omega) (W.alloc (.cells #[.iface 9 (.string postB), .iface 3 (.int .i64 p.no), .iface 35 (.agg (p.root.map by1).toArray)] 20)) (oargs3 W k hk _ _ _ _ _ _ (.inl ⟨_, rfl, rfl⟩) (.inr (.inl ⟨_, rfl, rfl⟩)) (.inr (.inr ⟨p.root, hp, rfl, rfl⟩))) hsm.1 (Nat.le_trans hsm.2.1 (by decide))
    rw [show encB ⟨3, 0, ⟨#[]⟩, poL p⟩ = poT p from if_pos hsm.2.2] at this
    exact this
  clear hrow hsm
  go_enter Tryd.func57, Tryd.ntmps57
  go_wp2_with (first
    | (refine wpList_load_mid (by rfl) 35 (.tmp 7) (by rfl) w.heap.size 1 (by rfl) (p.root.map by1) _ hr.out Tryd.underlying35 (by rfl) hi.out ?_))
  refine (hT.out _ _ (by simp)).mono ?_
  unfold Fresh
  rintro e w2 ⟨v', rfl, ho, hh, hb⟩
  obtain ⟨A9, c9, rfl⟩ := ho.form
  replace ho := Lib.hid ho
  replace hh := Lib.hid hh
  have hB2 := (hB.alloc hB.size (.cells #[.iface 9 (.string postB), .iface 3 (.int .i64 p.no), .iface 35 (.agg (p.root.map by1).toArray)] 20))
  have hB3 := hB2.trans (hb.mono hB2.size)
  go_wp2_with fail
  go_ret
  exact ⟨_, rfl, ho.out, fun g hg => Nat.le_trans hB2.size (hh.out g hg), hB3⟩
end Go.Proofs.YthokpfegfnpmhaaDoor
