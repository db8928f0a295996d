/- The walk of seals' leaves. -/
import Derived.Test.YtnccbhndlnkboaaDoorSOpen
import Derived.Test.YtnccbhndlnkboaaDoorMWay
namespace Go.Proofs.YtnccbhndlnkboaaDoor
open Go.RowKit Go.Shelf Cdc Sha
set_option linter.unusedVariables false
set_option linter.unusedSimpArgs false

/-- the leaves of a list of days -/
def lvs (t f : Int) (bl : List Bool) (sl : List Int) : List (List UInt8) := (bl.zip sl).mapIdx fun i p => leafM t (f + i) p.1 p.2
theorem lvs_len {t f : Int} {bl : List Bool} {sl : List Int} (h : bl.length = sl.length) : (lvs t f bl sl).length = sl.length := by simp [lvs, h]
theorem lvs_at {t f : Int} {bl : List Bool} {sl : List Int} {i : Nat} {b : Bool} {n : Int} (h1 : bl[i]? = some b) (h2 : sl[i]? = some n) : (lvs t f bl sl)[i]? = some (leafM t (f + i) b n) := by
  have hz : (bl.zip sl)[i]? = some (b, n) := by rw [List.getElem?_zip_eq_some]; exact ⟨h1, h2⟩
  simp [lvs, List.getElem?_mapIdx, hz]

/-- byte slices in a row of the call's own -/
structure LvR (b0 : Nat) (W : World) (row : Value) (xs : List (List UInt8)) (ts : List Value) : Prop where
  rw : RowT W b0 row ts
  len : xs.length = ts.length
  tx : ∀ (i : Nat) (v : Value) (x : List UInt8), ts[i]? = some v → xs[i]? = some x → TxA W [row.ownBlock] v x
theorem LvR.below {b0 : Nat} {W W' : World} {row : Value} {xs : List (List UInt8)} {ts : List Value} (h : LvR b0 W row xs ts) (hB : Below W.heap.size W W') : LvR b0 W' row xs ts :=
  ⟨h.rw.below hB, h.len, fun i v x h1 h2 => (h.tx i v x h1 h2).keepX (X := []) (KeepX.of_below hB) (fun g hg => by simp at hg)⟩
theorem LvR.push {b0 : Nat} {W0 W W6 : World} {row row' : Value} {xs : List (List UInt8)} {ts : List Value} {x : List UInt8} {A : Option Addr} {m c : Nat} (h0 : RowT W0 b0 row ts) (h : LvR b0 W row xs ts) (hm : x.length = m) (hc : m ≤ c) (hx : c ≤ 9223372036854775807) (hat : AtO W A x)
    (hfr : ∀ g o, A = some ⟨g, o, none⟩ → x ≠ [] → W0.heap.size ≤ g ∧ g < W.heap.size) (hr6 : RowT W6 b0 row' (ts ++ [.slice A m c])) (hg : W.grownBy W6 row.ownBlock) (hn : row'.ownBlock = row.ownBlock ∨ row'.ownBlock = some W.heap.size) : LvR b0 W6 row' (xs ++ [x]) (ts ++ [.slice A m c]) := by
  have hN : ∀ g, some g ∈ [row'.ownBlock] → some g ∈ [row.ownBlock] ∨ W.heap.size ≤ g := fun g hg => by
    simp only [List.mem_singleton] at hg ⊢
    rcases hn with h | h
    · exact .inl (hg.trans h)
    · exact .inr (by rw [h] at hg; have := Option.some.inj hg; omega)
  refine ⟨hr6, by simp [h.len], fun i v y h1 h2 => ?_⟩
  by_cases hi : i < ts.length
  · rw [List.getElem?_append_left hi] at h1
    rw [List.getElem?_append_left (by rw [h.len]; exact hi)] at h2
    exact (h.tx i v y h1 h2).kept hg (.inr (by simp)) hN
  · have hi' : i = ts.length := by have := (List.getElem?_eq_some_iff.1 h1).1; simp at this; omega
    subst hi'
    rw [List.getElem?_append_right (by omega)] at h1
    rw [List.getElem?_append_right (by rw [h.len]; omega)] at h2
    simp [h.len] at h1 h2
    subst h1 h2 hm
    refine TxA.kept (w := W) ⟨A, c, rfl, hc, hx, hat, fun g o e hne => ⟨(hfr g o e hne).2, fun hmem => ?_⟩⟩ hg (.inr (by simp)) hN
    simp only [List.mem_singleton] at hmem
    have := (h0.high hmem.symm).2
    have := (hfr g o e hne).1
    omega
theorem LvR.lv {b0 : Nat} {W : World} {A : Option Addr} {k c : Nat} {xs : List (List UInt8)} {ts : List Value} (h : LvR b0 W (.slice A k c) xs ts) : LvAt W A xs := texts_lv h.rw h.len h.tx
theorem built_bs (A : Option Addr) (n c : Nat) : Tryd.prog.builtSlice 48 1 [(0, .slice A n c)] = some #[.slice A n c] := by kernel_rfl

set_option maxRecDepth 100000 in
set_option maxHeartbeats 4000000 in
theorem leaves_any (t f m : Int) (bl : List Bool) (sl : List Int) (cb n c : Nat) (B S : Option Addr) (hbl : bl.length = sl.length) (hn : sl.length = n) (hcb : n ≤ cb) (hc : n ≤ c) (hx : n ≤ 512) (ht : I64 t) (hf : 0 ≤ f) (hf2 : f ≤ 100000) (hsl : ∀ x ∈ sl, I64 x) (w : World) (hB : BoAt w B bl) (hS : InAt w S sl) :
    Calls Tryd.prog 35 #[.agg #[.int .i64 t, .int .i64 f, .int .i64 m, .slice B n cb, .slice S n c]] w fun e w' => ∃ (A : Option Addr) (c' : Nat), e = .returned (.slice A n c') ∧ LvAt w' A (lvs t f bl sl) ∧ Below w.heap.size w w' := by
  have hbl2 := Lib.hid hbl
  have hn2 := Lib.hid hn
  have hll := Lib.hid ((lvs_len (t := t) (f := f) hbl).trans hn)
  have hlv : Hid (∀ (i : Nat) (b : Bool) (n : Int), bl[i]? = some b → sl[i]? = some n → (lvs t f bl sl)[i]? = some (leafM t (f + i) b n)) := Lib.hid fun i b n h1 h2 => lvs_at h1 h2
  obtain ⟨X, hX⟩ : ∃ X, lvs t f bl sl = X := ⟨_, rfl⟩
  rw [hX] at hll hlv ⊢
  clear hX
  replace hB := Lib.hid hB
  replace hS := Lib.hid hS
  replace hsl := Lib.hid hsl
  clear hbl hn
  have hb1 : Below w.heap.size w (w.alloc (.cells #[.int .i64 t, .int .i64 f, .int .i64 m, .slice B n cb, .slice S n c] 71)) := (Below.refl _ _).alloc (Nat.le_refl _) _
  have hs1 : (w.alloc (.cells #[.int .i64 t, .int .i64 f, .int .i64 m, .slice B n cb, .slice S n c] 71)).heap.size = w.heap.size + 1 := by simp
  have hr1 := heap_alloc_new w (.cells #[.int .i64 t, .int .i64 f, .int .i64 m, .slice B n cb, .slice S n c] 71)
  have hcells : Hid (∀ V, Below (w.alloc (.cells #[.int .i64 t, .int .i64 f, .int .i64 m, .slice B n cb, .slice S n c] 71)).heap.size (w.alloc (.cells #[.int .i64 t, .int .i64 f, .int .i64 m, .slice B n cb, .slice S n c] 71)) V → V.cell? ⟨w.heap.size, 0, none⟩ = some (.int .i64 t) ∧ V.cell? ⟨w.heap.size, 1, none⟩ = some (.int .i64 f) ∧ V.cell? ⟨w.heap.size, 2, none⟩ = some (.int .i64 m) ∧ V.cell? ⟨w.heap.size, 3, none⟩ = some (.slice B n cb)) := Lib.hid fun V hV => by
    have h1 := (hV.block w.heap.size (by rw [hs1]; omega)).trans hr1
    refine ⟨by rw [cell_of_row _ _ _ _ _ _ h1]; rfl, by rw [cell_of_row _ _ _ _ _ _ h1]; rfl, by rw [cell_of_row _ _ _ _ _ _ h1]; rfl, by rw [cell_of_row _ _ _ _ _ _ h1]; rfl⟩
  have hN : Hid (∀ (V : World) (d : Int) (b : Bool) (y : Int), I64 d → I64 y → Calls Tryd.prog 44 #[.agg #[.int .i64 t, .int .i64 f, .int .i64 m], .int .i64 d, .bool b, .int .i64 y] V (JoinC (leafM t d b y) V)) := Lib.hid fun V d b y hd hy => leaf_any8 t f m d y b ht hd hy V
  replace hb1 := Lib.hid hb1
  replace hs1 := Lib.hid hs1
  clear hr1
  go_enter Tryd.func35, Tryd.ntmps35
  go_wp2_with fail
  generalize w.alloc (.cells #[.int .i64 t, .int .i64 f, .int .i64 m, .slice B n cb, .slice S n c] 71) = W1 at *
  go_loopw [2, 8] (fun s2 s8 wr => ∃ (k : Nat) (ts : List Value), k ≤ n ∧ s8 = .int .i64 (k : Int) ∧ Hid (LvR (w.heap.size + 1) wr s2 (X.take k) ts) ∧ Hid (Below W1.heap.size W1 wr)) (fun _ s8 _ => n - (intOf s8).toNat)
  case atStart => exact ⟨0, [], by omega, rfl, Lib.hid ⟨World.ownsRow_nil W1 _ _ _, rfl, fun i v x h1 _ => by simp at h1⟩, Lib.hid (Below.refl _ _)⟩
  case round =>
    obtain ⟨k, ts, hk, rfl, hrow, hBr⟩ := hrel
    by_cases hkn : k < n
    · obtain ⟨b, hb⟩ : ∃ b, bl[k]? = some b := ⟨_, List.getElem?_eq_getElem (by rw [hbl2.out, hn2.out]; omega)⟩
      obtain ⟨y, hy⟩ : ∃ y, sl[k]? = some y := ⟨_, List.getElem?_eq_getElem (by rw [hn2.out]; omega)⟩
      obtain ⟨g, o, rfl, hcb0⟩ := hB.out k b hb
      obtain ⟨g', o', rfl, hcs0⟩ := hS.out k y hy
      have hwr := hb1.out.trans (hBr.out.mono hb1.out.size)
      have hcs := (hwr.cell (p := ⟨g', o' + k, none⟩) (World.block_lt_of_cell? w _ hcs0)).trans hcs0
      have hcb1 := (hwr.cell (p := ⟨g, o + k, none⟩) (World.block_lt_of_cell? w _ hcb0)).trans hcb0
      have hgl : g < w.heap.size := World.block_lt_of_cell? w _ hcb0
      have hwrs := hBr.out.size
      have hsz9 : Hid (w.heap.size + 1 ≤ wr.heap.size) := Lib.hid (by rw [← hs1.out]; exact hwrs)
      have hS : Hid (∀ V, Below wr.heap.size wr V → ( (V.cell? ⟨w.heap.size, 0, none⟩ = some (.int .i64 t) ∧ V.cell? ⟨w.heap.size, 1, none⟩ = some (.int .i64 f) ∧ V.cell? ⟨w.heap.size, 2, none⟩ = some (.int .i64 m) ∧ V.cell? ⟨w.heap.size, 3, none⟩ = some (.slice (some ⟨g, o, none⟩) n cb)) ∧ V.cell? ⟨g, o + k, none⟩ = some (.bool b))) := Lib.hid fun V hV => ⟨hcells.out V (hBr.out.trans (hV.mono hwrs)), (hV.cell (p := ⟨g, o + k, none⟩) (Nat.lt_of_lt_of_le hgl (by have := hsz9.out; omega))).trans hcb1⟩
      have hS9 : Hid (∀ (V0 V : World), Below wr.heap.size wr V0 → V0.grownBy V u2.ownBlock → ( (V.cell? ⟨w.heap.size, 0, none⟩ = some (.int .i64 t) ∧ V.cell? ⟨w.heap.size, 1, none⟩ = some (.int .i64 f) ∧ V.cell? ⟨w.heap.size, 2, none⟩ = some (.int .i64 m) ∧ V.cell? ⟨w.heap.size, 3, none⟩ = some (.slice (some ⟨g, o, none⟩) n cb)) ∧ V.cell? ⟨g, o + k, none⟩ = some (.bool b))) := Lib.hid fun V0 V hV0 hg => by
        have hh : ∀ {k}, u2.ownBlock = some k → w.heap.size + 1 ≤ k := fun e => (hrow.out.rw.high e).1
        have h0 := hS.out V0 hV0
        have hk1 : ∀ (j : Nat) (v : Value), V0.cell? ⟨w.heap.size, j, none⟩ = some v → V.cell? ⟨w.heap.size, j, none⟩ = some v := fun j v hv => (World.cell?_of_block (w := V0) (a := ⟨w.heap.size, j, none⟩) (hg.block _ (World.block_lt_of_cell? V0 _ hv) (fun e => absurd (hh (k := w.heap.size) e.symm) (by omega)))).trans hv
        refine ⟨⟨hk1 _ _ h0.1.1, hk1 _ _ h0.1.2.1, hk1 _ _ h0.1.2.2.1, hk1 _ _ h0.1.2.2.2⟩, (World.cell?_of_block (w := V0) (a := ⟨g, o + k, none⟩) (hg.block _ (World.block_lt_of_cell? V0 _ h0.2) (fun e => absurd (hh (k := g) e.symm) (by omega)))).trans h0.2⟩
      have hyI : I64 y := hsl.out y (List.mem_of_getElem? hy)
      have hdI : I64 (f + (k : Int)) := ⟨by omega, by omega⟩
      have hN := Lib.hid fun V => hN.out V (f + (k : Int)) b y hdI hyI
      have hXk := hlv.out k b y hb hy
      obtain ⟨L, hL⟩ : ∃ L, leafM t (f + (k : Int)) b y = L := ⟨_, rfl⟩
      obtain ⟨q, hq⟩ : ∃ q, L.length = q := ⟨_, rfl⟩
      rw [hL] at hN hXk
      have hln := Lib.hid hq
      have hXt : Hid (X.take (k + 1) = X.take k ++ [L]) := Lib.hid (by rw [List.take_add_one, hXk]; rfl)
      have hts : Hid (ts.length ≤ 1000000) := Lib.hid (by rw [← hrow.out.len, List.length_take]; omega)
      clear hL hq hXk hcb0 hcs0 hdI hyI hB hlv hsl
      have hwp : IntKind.i64.wrap (f + (k : Int)) = f + (k : Int) := IntWalk.i64_in _ (by omega)
      have k1 : (k : Int) < (n : Int) := by omega
      have HB : Below wr.heap.size wr wr.drew := (Below.refl _ _).drew
      obtain ⟨c0, c1, c2, c3⟩ := (hS.out _ (Below.refl _ _)).1
      replace hrow := hrow.out
      go_wp2_with fail
      refine wp_region_held_drew (S := fun w' => (w'.cell? ⟨w.heap.size, 0, none⟩ = some (.int .i64 t) ∧ w'.cell? ⟨w.heap.size, 1, none⟩ = some (.int .i64 f) ∧ w'.cell? ⟨w.heap.size, 2, none⟩ = some (.int .i64 m) ∧ w'.cell? ⟨w.heap.size, 3, none⟩ = some (.slice (some ⟨g, o, none⟩) n cb)) ∧ w'.cell? ⟨g, o + k, none⟩ = some (.bool b)) (by kernel_rfl) (by exact hS.out _ HB) (fun hHeld => ?_)
      refine wpAnyH_take (i := 0) (oi := { dst := some 13, op := Op.move (Operand.tmp 2), type := 75, pos := "seals.go:66", after := #[], guard := none }) (v := ?_) rfl (by kernel_rfl) (by kernel_rfl) (by kernel_rfl) (fun _ _ _ h => h) (Or.inl ⟨by rfl, ?hy0⟩) hHeld ?rest0
      case hy0 =>
        intro w hSw
        try dsimp only at hSw
        go_simp
        try with_reducible rfl
      try simp only [Act.put, List.setIfInBounds_toArray, List.set_cons_zero, List.set_cons_succ]
      refine wpAnyH_take (i := 1) (oi := { dst := some 14, op := Op.fieldAddr 71 (Operand.tmp 1) 0, type := 0, pos := "seals.go:66", after := #[], guard := none }) (v := ?_) rfl (by kernel_rfl) (by kernel_rfl) (by kernel_rfl) (fun _ _ _ h => h) (Or.inl ⟨by rfl, ?hy1⟩) hHeld ?rest1
      case hy1 =>
        intro w hSw
        try dsimp only at hSw
        go_simp
        try with_reducible rfl
      try simp only [Act.put, List.setIfInBounds_toArray, List.set_cons_zero, List.set_cons_succ]
      refine wpAnyH_take (i := 2) (oi := { dst := some 15, op := Op.load 69 (Operand.tmp 14), type := 69, pos := "seals.go:66", after := #[{ on := 1, ground := Ground.data }], guard := none }) (v := ?_) rfl (by kernel_rfl) (by kernel_rfl) (by kernel_rfl) (fun _ _ _ h => h) (Or.inl ⟨by rfl, ?hy2⟩) hHeld ?rest2
      case hy2 =>
        intro w hSw
        try dsimp only at hSw
        go_simp
        try with_reducible rfl
      try simp only [Act.put, List.setIfInBounds_toArray, List.set_cons_zero, List.set_cons_succ]
      refine wpAnyH_take (i := 3) (oi := { dst := some 16, op := Op.fieldAddr 71 (Operand.tmp 1) 0, type := 0, pos := "seals.go:66", after := #[], guard := none }) (v := ?_) rfl (by kernel_rfl) (by kernel_rfl) (by kernel_rfl) (fun _ _ _ h => h) (Or.inl ⟨by rfl, ?hy3⟩) hHeld ?rest3
      case hy3 =>
        intro w hSw
        try dsimp only at hSw
        go_simp
        try with_reducible rfl
      try simp only [Act.put, List.setIfInBounds_toArray, List.set_cons_zero, List.set_cons_succ]
      refine wpAnyH_take (i := 4) (oi := { dst := some 17, op := Op.fieldAddr 69 (Operand.tmp 16) 1, type := 0, pos := "seals.go:66", after := #[{ on := 3, ground := Ground.data }], guard := none }) (v := ?_) rfl (by kernel_rfl) (by kernel_rfl) (by kernel_rfl) (fun _ _ _ h => h) (Or.inl ⟨by rfl, ?hy4⟩) hHeld ?rest4
      case hy4 =>
        intro w hSw
        try dsimp only at hSw
        go_simp
        try with_reducible rfl
      try simp only [Act.put, List.setIfInBounds_toArray, List.set_cons_zero, List.set_cons_succ]
      refine wpAnyH_take (i := 5) (oi := { dst := some 18, op := Op.load 3 (Operand.tmp 17), type := 3, pos := "seals.go:66", after := #[{ on := 4, ground := Ground.data }], guard := none }) (v := ?_) rfl (by kernel_rfl) (by kernel_rfl) (by kernel_rfl) (fun _ _ _ h => h) (Or.inl ⟨by rfl, ?hy5⟩) hHeld ?rest5
      case hy5 =>
        intro w hSw
        try dsimp only at hSw
        go_simp
        try with_reducible rfl
      try simp only [Act.put, List.setIfInBounds_toArray, List.set_cons_zero, List.set_cons_succ]
      refine wpAnyH_take (i := 6) (oi := { dst := some 19, op := Op.move (Operand.tmp 3), type := 3, pos := "seals.go:66", after := #[], guard := none }) (v := ?_) rfl (by kernel_rfl) (by kernel_rfl) (by kernel_rfl) (fun _ _ _ h => h) (Or.inl ⟨by rfl, ?hy6⟩) hHeld ?rest6
      case hy6 =>
        intro w hSw
        try dsimp only at hSw
        go_simp
        try with_reducible rfl
      try simp only [Act.put, List.setIfInBounds_toArray, List.set_cons_zero, List.set_cons_succ]
      refine wpAnyH_take (i := 7) (oi := { dst := some 20, op := Op.binOp BinOp.add 3 (Operand.tmp 18) (Operand.tmp 19) 3, type := 3, pos := "seals.go:66", after := #[{ on := 5, ground := Ground.data }, { on := 6, ground := Ground.data }], guard := none }) (v := ?_) rfl (by kernel_rfl) (by kernel_rfl) (by kernel_rfl) (fun _ _ _ h => h) (Or.inl ⟨by rfl, ?hy7⟩) hHeld ?rest7
      case hy7 =>
        intro w hSw
        try dsimp only at hSw
        go_simp
        try with_reducible rfl
      try simp only [Act.put, List.setIfInBounds_toArray, List.set_cons_zero, List.set_cons_succ]
      refine wpAnyH_take (i := 8) (oi := { dst := some 21, op := Op.fieldAddr 71 (Operand.tmp 1) 1, type := 0, pos := "seals.go:66", after := #[], guard := none }) (v := ?_) rfl (by kernel_rfl) (by kernel_rfl) (by kernel_rfl) (fun _ _ _ h => h) (Or.inl ⟨by rfl, ?hy8⟩) hHeld ?rest8
      case hy8 =>
        intro w hSw
        try dsimp only at hSw
        go_simp
        try with_reducible rfl
      try simp only [Act.put, List.setIfInBounds_toArray, List.set_cons_zero, List.set_cons_succ]
      refine wpAnyH_take (i := 9) (oi := { dst := some 22, op := Op.load 39 (Operand.tmp 21), type := 39, pos := "seals.go:66", after := #[{ on := 8, ground := Ground.data }], guard := none }) (v := ?_) rfl (by kernel_rfl) (by kernel_rfl) (by kernel_rfl) (fun _ _ _ h => h) (Or.inl ⟨by rfl, ?hy9⟩) hHeld ?rest9
      case hy9 =>
        intro w hSw
        try dsimp only at hSw
        go_simp
        try with_reducible rfl
      try simp only [Act.put, List.setIfInBounds_toArray, List.set_cons_zero, List.set_cons_succ]
      refine wpAnyH_take (i := 10) (oi := { dst := some 23, op := Op.move (Operand.tmp 3), type := 3, pos := "seals.go:66", after := #[], guard := none }) (v := ?_) rfl (by kernel_rfl) (by kernel_rfl) (by kernel_rfl) (fun _ _ _ h => h) (Or.inl ⟨by rfl, ?hy10⟩) hHeld ?rest10
      case hy10 =>
        intro w hSw
        try dsimp only at hSw
        go_simp
        try with_reducible rfl
      try simp only [Act.put, List.setIfInBounds_toArray, List.set_cons_zero, List.set_cons_succ]
      refine wpAnyH_take (i := 11) (oi := { dst := some 24, op := Op.indexAddr 39 (Operand.tmp 22) (Operand.tmp 23), type := 0, pos := "seals.go:66", after := #[{ on := 9, ground := Ground.data }, { on := 10, ground := Ground.data }], guard := none }) (v := ?_) rfl (by kernel_rfl) (by kernel_rfl) (by kernel_rfl) (fun _ _ _ h => h) (Or.inl ⟨by rfl, ?hy11⟩) hHeld ?rest11
      case hy11 =>
        intro w hSw
        try dsimp only at hSw
        go_simp
        try with_reducible rfl
      try simp only [Act.put, List.setIfInBounds_toArray, List.set_cons_zero, List.set_cons_succ]
      refine wpAnyH_take (i := 12) (oi := { dst := some 25, op := Op.load 4 (Operand.tmp 24), type := 4, pos := "seals.go:66", after := #[{ on := 11, ground := Ground.data }], guard := none }) (v := ?_) rfl (by kernel_rfl) (by kernel_rfl) (by kernel_rfl) (fun _ _ _ h => h) (Or.inl ⟨by rfl, ?hy12⟩) hHeld ?rest12
      case hy12 =>
        intro w hSw
        try dsimp only at hSw
        go_simp
        try with_reducible rfl
      try simp only [Act.put, List.setIfInBounds_toArray, List.set_cons_zero, List.set_cons_succ]
      refine wpAnyH_take (i := 13) (oi := { dst := some 26, op := Op.move (Operand.tmp 4), type := 3, pos := "seals.go:66", after := #[], guard := none }) (v := ?_) rfl (by kernel_rfl) (by kernel_rfl) (by kernel_rfl) (fun _ _ _ h => h) (Or.inl ⟨by rfl, ?hy13⟩) hHeld ?rest13
      case hy13 =>
        intro w hSw
        try dsimp only at hSw
        go_simp
        try with_reducible rfl
      try simp only [Act.put, List.setIfInBounds_toArray, List.set_cons_zero, List.set_cons_succ]
      refine wpAnyH_ready (rs := [14]) (by kernel_rfl) (by simp) (AllReadyH.cons (o := { dst := some 27, op := Op.call { callee := Callee.value (Operand.func 44), args := #[Operand.tmp 15, Operand.tmp 20, Operand.tmp 25, Operand.tmp 26], argTypes := #[69, 3, 4, 3] }, type := 48, pos := "seals.go:66", after := #[{ on := 2, ground := Ground.data }, { on := 7, ground := Ground.data }, { on := 12, ground := Ground.data }, { on := 13, ground := Ground.data }], guard := none }) rfl (fun K hK => ?_) AllReadyH.nil)
      go_simp
      go_at_call 44
      refine (hN.out _).mono ?_
      unfold JoinC
      rw [hln.out]
      rintro e w4 ⟨A4, c4, rfl, h41, h42, h43, hb, h44⟩
      have hrow4 := (hrow.below HB)
      have hR0 := hrow4.rw
      replace h44 := Lib.hid h44
      replace hrow4 := hrow4.below hb
      replace HB := HB.trans (hb.mono HB.size)
      replace h43 := Lib.hid h43
      clear hb
      refine hK.out _ _ (by exact hS.out _ HB) (fun hHeld' => ?_)
      clear hK K hHeld
      have hHeld := hHeld'
      clear hHeld'
      try simp only [Act.put, List.setIfInBounds_toArray, List.set_cons_zero, List.set_cons_succ]
      refine wpAnyH_ready (rs := [15]) (by kernel_rfl) (by simp) (AllReadyH.cons (o := { dst := some 28, op := Op.buildSlice 75 1 #[(0, Operand.tmp 27)], type := 75, pos := "seals.go:66", after := #[{ on := 14, ground := Ground.data }], guard := none }) rfl (fun K hK => ?_) AllReadyH.nil)
      refine step_built (by rfl) 75 48 1 #[(0, .tmp 27)] (by rfl) Tryd.underlying75 #[.slice A4 q c4] (by simp only [List.map_toArray, List.map_cons, List.map_nil]; exact built_bs _ _ _) ?_
      have hnb := heap_alloc_new w4 (.cells #[.slice A4 q c4] 48)
      have HB9 := HB.alloc HB.size (.cells #[.slice A4 q c4] 48)
      have hb9 : Below w4.heap.size w4 (w4.alloc (.cells #[.slice A4 q c4] 48)) := (Below.refl _ _).alloc (Nat.le_refl _) _
      have hrow9 := hrow4.below hb9
      have hce9 : (w4.alloc (.cells #[.slice A4 q c4] 48)).cell? ⟨w4.heap.size, 0, none⟩ = some (.slice A4 q c4) := by rw [cell_of_row _ _ _ _ _ _ hnb]; rfl
      refine hK.out _ _ (by exact hS.out _ HB9) (fun hHeld' => ?_)
      clear hK K hHeld
      have hHeld := hHeld'
      clear hHeld'
      try simp only [Act.put, List.setIfInBounds_toArray, List.set_cons_zero, List.set_cons_succ]
      refine wpAnyH_ready (rs := [16]) (by kernel_rfl) (by simp) (AllReadyH.cons (o := { dst := some 29, op := Op.call { callee := Callee.builtin Builtin.append, args := #[Operand.tmp 13, Operand.tmp 28], argTypes := #[75, 75] }, type := 75, pos := "seals.go:66", after := #[{ on := 0, ground := Ground.data }, { on := 15, ground := Ground.data }, { on := 14, ground := Ground.chain }], guard := none }) rfl (fun K hK => ?_) AllReadyH.nil)
      refine step_appT _ (by rfl) (.tmp 13) (.tmp 28) (by rfl) (w.heap.size + 1) u2 ts w4.heap.size q c4 A4 (by rfl) (by rfl) hce9 hrow9.rw hts.out (by simp; have := hsz9.out; have := HB.size; omega) ?_
      intro row' w6 hrow6 hg6 hw6
      have HB6 := (hBr.out.trans (HB9.mono hBr.out.size)).grown hg6 (hBr.out.trans (HB9.mono hBr.out.size)).size (fun k e => by have := (hrow9.rw.high e).1; have := hs1.out; omega)
      refine hK.out _ _ (by exact hS9.out _ _ HB9 hg6) (fun hHeld' => ?_)
      clear hK K hHeld
      have hHeld := hHeld'
      clear hHeld'
      try simp only [Act.put, List.setIfInBounds_toArray, List.set_cons_zero, List.set_cons_succ]
      refine wpAnyH_take (i := 17) (oi := { dst := some 2, op := Op.assign (Operand.tmp 29), type := 75, pos := "seals.go:66", after := #[{ on := 16, ground := Ground.data }, { on := 16, ground := Ground.chain }, { on := 0, ground := Ground.phase }, { on := 1, ground := Ground.phase }, { on := 2, ground := Ground.phase }, { on := 3, ground := Ground.phase }, { on := 4, ground := Ground.phase }, { on := 5, ground := Ground.phase }, { on := 6, ground := Ground.phase }, { on := 7, ground := Ground.phase }, { on := 8, ground := Ground.phase }, { on := 9, ground := Ground.phase }, { on := 10, ground := Ground.phase }, { on := 11, ground := Ground.phase }, { on := 12, ground := Ground.phase }, { on := 13, ground := Ground.phase }, { on := 14, ground := Ground.phase }, { on := 15, ground := Ground.phase }, { on := 16, ground := Ground.phase }], guard := none }) (v := ?_) rfl (by kernel_rfl) (by kernel_rfl) (by kernel_rfl) (fun _ _ _ h => h) (Or.inl ⟨by rfl, ?hy17⟩) hHeld ?rest17
      case hy17 =>
        intro w hSw
        try dsimp only at hSw
        go_simp
        try with_reducible rfl
      try simp only [Act.put, List.setIfInBounds_toArray, List.set_cons_zero, List.set_cons_succ]
      refine wpAnyH_done (by kernel_rfl) ?_ _
      have hnew := LvR.push (x := L) (W := w4.alloc (.cells #[.slice A4 q c4] 48)) hR0 hrow9 hln.out h41 h42 (h43.out.below hb9) (fun g o e hne => ⟨(h44.out g o e hne).1, by simp; have := (h44.out g o e hne).2; omega⟩) hrow6 hg6 hw6
      rw [← hXt.out] at hnew
      replace hnew := Lib.hid hnew
      replace HB6 := Lib.hid HB6
      go_wp2_with fail
      go_roundw
      case rel => exact ⟨k + 1, _, by omega, by go_num, hnew, HB6⟩
      case measure => simp [intOf]; omega
    · have hkl : X.take k = X := List.take_of_length_le (by rw [hll.out]; omega)
      rw [hkl] at hrow
      have hlen := hrow.out.len
      rw [hll.out] at hlen
      obtain ⟨A1, c1, rfl, _⟩ := hrow.out.rw.form
      rw [← hlen] at hrow ⊢
      have hlv9 := Lib.hid hrow.out.lv
      have hB9 := Lib.hid (hb1.out.trans (hBr.out.mono hb1.out.size))
      clear hlen hrow hBr
      go_wp2_with fail
      go_ret
      exact ⟨A1, c1, rfl, hlv9.out, hB9.out⟩
end Go.Proofs.YtnccbhndlnkboaaDoor
