/- The walk of seals.Open. -/
import Derived.Test.YtnccbhndlnkboaaDoorSMake
namespace Go.Proofs.YtnccbhndlnkboaaDoor
open Go.RowKit Go.Shelf Cdc Sha
set_option linter.unusedVariables false
set_option linter.unusedSimpArgs false

def opA (o : Op) (P : Option Addr) (cp : Nat) : Array Value := #[.int .i64 o.day, .int .i64 o.salt, .bool o.bl, .slice P o.path.length cp]
def opZ : Op := ⟨0, 0, false, []⟩
/-- what Open answers -/
def opnE (t f : Int) (nb ns : Nat) (sl : List Int) (d : Int) : Int := if opE t f nb ns sl = 0 then (if hasB f ns d = true then 0 else 1) else opE t f nb ns sl
def opnO (t f : Int) (nb ns : Nat) (bl : List Bool) (sl : List Int) (d : Int) : Op := if opnE t f nb ns sl d = 0 then ⟨d, sl.getD (d - f).toNat 0, bl.getD (d - f).toNat false, pathM ((lvs t f bl sl).map lfD) (d - f).toNat⟩ else opZ
def OpnC (t f : Int) (nb ns : Nat) (bl : List Bool) (sl : List Int) (d : Int) (w : World) (e : Ending) (w' : World) : Prop := ∃ (P : Option Addr) (cp : Nat), e = .returned (.tuple #[.agg (opA (opnO t f nb ns bl sl d) P cp), .int .i64 (opnE t f nb ns sl d)]) ∧ (opnO t f nb ns bl sl d).path.length ≤ cp ∧ DsAt w' P (opnO t f nb ns bl sl d).path ∧ Below w.heap.size w w'
theorem opZ_ds (w : World) : DsAt w none opZ.path := fun j d h => by simp [opZ] at h
def opZA : Array Value := #[.int .i64 0, .int .i64 0, .bool false, .slice none 0 0]
theorem built_opZ : Tryd.prog.built 33 [] = some opZA := by kernel_rfl
theorem built_op (d y : Int) (b : Bool) : Tryd.prog.built 33 [(0, .int .i64 d), (1, .int .i64 y), (2, .bool b)] = some #[.int .i64 d, .int .i64 y, .bool b, .slice none 0 0] := by kernel_rfl
theorem set4 (w : World) (g : Nat) (a b c d a0 b0 c0 d0 : Value) (t : TypeId) (h : w.heap[g]? = some (.cells #[a0, b0, c0, d0] t (0, 0))) :
    ((((w.setCell ⟨g, 0, none⟩ a).setCell ⟨g, 1, none⟩ b).setCell ⟨g, 2, none⟩ c).setCell ⟨g, 3, none⟩ d).heap[g]? = some (.cells #[a, b, c, d] t (0, 0)) ∧ w.grownBy ((((w.setCell ⟨g, 0, none⟩ a).setCell ⟨g, 1, none⟩ b).setCell ⟨g, 2, none⟩ c).setCell ⟨g, 3, none⟩ d) (some g) := by
  refine ⟨?_, ?_⟩
  · have h1 := heap_setCell_same _ g 3 _ _ d (heap_setCell_same _ g 2 _ _ c (heap_setCell_same _ g 1 _ _ b (heap_setCell_same w g 0 _ _ a h)))
    rw [h1]
    rfl
  · exact grown_trans (grown_trans (grown_trans (setCell_grown _ g 0 a) (setCell_grown _ g 1 b)) (setCell_grown _ g 2 c)) (setCell_grown _ g 3 d)
theorem ds_grown {w w' : World} {A : Option Addr} {l : List (List UInt8)} {g : Nat} {a b : Int} {c : Bool} {P : Option Addr} {m n : Nat} {t : TypeId} {fr : Nat × Nat} (h : DsAt w A l) (hd : w.heap[g]? = some (.cells #[.int .i64 a, .int .i64 b, .bool c, .slice P m n] t fr)) (hg : w.grownBy w' (some g)) : DsAt w' A l := fun i x hi => by
  obtain ⟨b', o, hA, hlt, hr⟩ := h i x hi
  refine ⟨b', o, hA, Nat.lt_of_lt_of_le hlt hg.size, fun j v hj => ?_⟩
  have hc := hr j v hj
  by_cases hbg : b' = g
  · subst hbg
    exfalso
    rw [cell_of_row _ _ _ _ _ _ hd] at hc
    obtain ⟨y, _, rfl⟩ := List.mem_map.1 (List.mem_of_getElem? hj)
    generalize o + i * 32 + j = k at hc
    match k, hc with
    | 0, hc => simp [by1] at hc
    | 1, hc => simp [by1] at hc
    | 2, hc => simp [by1] at hc
    | 3, hc => simp [by1] at hc
    | k + 4, hc => simp at hc
  · exact (World.cell?_of_block (w := w) (a := ⟨b', o + i * 32 + j, none⟩) (hg.block b' hlt (fun e => hbg (Option.some.inj e)))).trans hc
theorem op_info : (Tryd.prog.info? 33).map (·.size) = some 4 := by kernel_rfl

set_option maxRecDepth 100000 in
set_option maxHeartbeats 4000000 in
theorem sopen_any (t f : Int) (bl : List Bool) (sl : List Int) (nb ns cb c : Nat) (B S : Option Addr) (hnb : bl.length = nb) (hn : sl.length = ns) (hcb : nb ≤ cb) (hc : ns ≤ c) (hxb : nb ≤ maxLen) (hxs : ns ≤ maxLen) (ht : I64 t) (hsl : ∀ x ∈ sl, I64 x) (d : Int) (hdI : I64 d) (w : World) (hB : BoAt w B bl) (hS : InAt w S sl) (hL : Laid w) :
    Calls Tryd.prog 18 #[.int .i64 t, .int .i64 f, .slice B nb cb, .slice S ns c, .int .i64 d] w (OpnC t f nb ns bl sl d w) := by
  have hO : Hid (∀ V, Below w.heap.size w V → Calls Tryd.prog 33 #[.int .i64 t, .int .i64 f, .slice B nb cb, .slice S ns c] V fun e w' => e = .returned (.tuple #[.agg (if 512 < nb ∨ 512 < ns then #[.int .i64 0, .int .i64 0, .int .i64 0, .slice none 0 0, .slice none 0 0] else #[.int .i64 t, .int .i64 f, .int .i64 ns, .slice B nb cb, .slice S ns c]), .int .i64 (opE t f nb ns sl)]) ∧ Below V.heap.size V w') := Lib.hid fun V hV => open_any t f nb ns cb c B S sl hn hc hxb hxs V (hS.below hV)
  have hB1 : Below w.heap.size w (w.alloc (.cells opZA 33)) := (Below.refl _ _).alloc (Nat.le_refl _) _
  have hr1 := heap_alloc_new w (.cells opZA 33)
  have hs1 : (w.alloc (.cells opZA 33)).heap.size = w.heap.size + 1 := by simp
  unfold OpnC opnO
  rcases opE_cases t f nb ns sl with ⟨he, h1, h2, h3, h4⟩ | ⟨he, h1⟩ | ⟨he, h1⟩
  · rw [if_neg h1, he] at hO
    have hen : opnE t f nb ns sl d = if hasB f ns d = true then 0 else 1 := if_pos he
    subst h2
    have hd : 0 ≤ f ∧ f ≤ 73048 ∧ nb ≤ 512 ∧ 1 ≤ nb := by have := of_decide_eq_true h3; omega
    have hH : Hid (∀ V, Calls Tryd.prog 39 #[.agg #[.int .i64 t, .int .i64 f, .int .i64 nb], .int .i64 d] V fun e w' => e = .returned (.bool (hasB f nb d)) ∧ Below V.heap.size V w') := Lib.hid fun V => has_any t f nb d hd.1 hdI.2 V
    by_cases hh : hasB f nb d = true
    · rw [hen, if_pos hh, if_pos rfl]
      rw [hh] at hH
      have hh2 : f ≤ d ∧ d - f < nb := of_decide_eq_true hh
      obtain ⟨i, hi⟩ : ∃ i : Nat, d - f = (i : Int) := ⟨(d - f).toNat, by omega⟩
      have hin : i < nb := by omega
      have hii : (d - f).toNat = i := by omega
      rw [hii]
      obtain ⟨b, hb⟩ : ∃ b, bl[i]? = some b := ⟨_, List.getElem?_eq_getElem (by rw [hnb]; omega)⟩
      obtain ⟨y, hy⟩ : ∃ y, sl[i]? = some y := ⟨_, List.getElem?_eq_getElem (by rw [hn]; omega)⟩
      rw [List.getD_eq_getElem?_getD, List.getD_eq_getElem?_getD, hb, hy, Option.getD_some, Option.getD_some]
      have hN : Hid (∀ V, Below w.heap.size w V → Calls Tryd.prog 35 #[.agg #[.int .i64 t, .int .i64 f, .int .i64 nb, .slice B nb cb, .slice S nb c]] V fun e w' => ∃ (A : Option Addr) (c' : Nat), e = .returned (.slice A nb c') ∧ LvAt w' A (lvs t f bl sl) ∧ Below V.heap.size V w') := Lib.hid fun V hV => leaves_any t f nb bl sl cb nb c B S (hnb.trans hn.symm) hn hcb hc hd.2.2.1 ht hd.1 (by omega) hsl V (hB.below hV) (hS.below hV)
      have hsm : ∀ x ∈ lvs t f bl sl, x.length ≤ 1000000 := fun x hx => by
        obtain ⟨i, hi⟩ := List.getElem?_of_mem hx
        have hlt : i < sl.length := by have := (List.getElem?_eq_some_iff.1 hi).1; rw [lvs_len (hnb.trans hn.symm)] at this; exact this
        obtain ⟨b, hb⟩ : ∃ b, bl[i]? = some b := ⟨_, List.getElem?_eq_getElem (by rw [hnb]; omega)⟩
        obtain ⟨y, hy⟩ : ∃ y, sl[i]? = some y := ⟨_, List.getElem?_eq_getElem hlt⟩
        rw [lvs_at hb hy] at hi
        obtain rfl := Option.some.inj hi
        have := (leaf_sm (b := b) ht (d := f + (i : Int)) ⟨by omega, by omega⟩ (hsl y (List.mem_of_getElem? hy))).2
        omega
      have hZ : Hid (∀ V A c', Below w.heap.size w V → LvAt V A (lvs t f bl sl) → Calls Tryd.prog 40 #[.slice A nb c', .int .i64 (i : Int)] V fun e w' => ∃ (A' : Option Addr) (c' : Nat), e = .returned (.tuple #[.slice A' (pathM ((lvs t f bl sl).map lfD) i).length c', .int .i64 0]) ∧ (pathM ((lvs t f bl sl).map lfD) i).length ≤ c' ∧ DsAt w' A' (pathM ((lvs t f bl sl).map lfD) i) ∧ Below V.heap.size V w') := Lib.hid fun V A c' hV hA => mprove_any (lvs t f bl sl) nb i A c' V ((lvs_len (hnb.trans hn.symm)).trans hn) hin (by omega) hA hsm (hL.below hV)
      obtain ⟨p, hp⟩ : ∃ p, pathM ((lvs t f bl sl).map lfD) i = p := ⟨_, rfl⟩
      rw [hp] at hZ ⊢
      obtain ⟨X, hX⟩ : ∃ X, lvs t f bl sl = X := ⟨_, rfl⟩
      rw [hX] at hN hZ
      obtain ⟨q, hq⟩ : ∃ q, p.length = q := ⟨_, rfl⟩
      rw [hq] at hZ
      replace hq := Lib.hid hq
      obtain ⟨g, o, rfl, hcb0⟩ := hB i b hb
      obtain ⟨g', o', rfl, hcs0⟩ := hS i y hy
      have hwi : IntKind.i64.wrap (d - f) = (i : Int) := hi ▸ IntWalk.i64_in _ (by omega)
      have hcl : Hid (∀ V, Below w.heap.size w V → V.cell? ⟨g, o + i, none⟩ = some (.bool b) ∧ V.cell? ⟨g', o' + i, none⟩ = some (.int .i64 y)) := Lib.hid fun V hV => ⟨(hV.cell (p := ⟨g, o + i, none⟩) (World.block_lt_of_cell? w _ hcb0)).trans hcb0, (hV.cell (p := ⟨g', o' + i, none⟩) (World.block_lt_of_cell? w _ hcs0)).trans hcs0⟩
      have k1 : (i : Int) < (nb : Int) := by omega
      have pb := Lib.hid (built_op d y b)
      clear hp hX hsm he h1 h3 h4 hnb hn hB hS hL hsl hb hy hcb0 hcs0 hen hi hh hh2 hii hdI hxb hxs
      go_enter Tryd.func18, Tryd.ntmps18
      go_wp2_with fail
      refine (hO.out (w.alloc (.cells opZA 33)) hB1).mono ?_
      rintro e w2 ⟨rfl, hb2⟩
      have hr2 := (hb2.block w.heap.size (by simp)).trans hr1
      have hB2 := hB1.trans (hb2.mono hB1.size)
      have hn3 := heap_alloc_new w2 (.cells #[.int .i64 t, .int .i64 f, .int .i64 nb, .slice (some ⟨g, o, none⟩) nb cb, .slice (some ⟨g', o', none⟩) nb c] 71)
      have hB3 := hB2.alloc hB2.size (.cells #[.int .i64 t, .int .i64 f, .int .i64 nb, .slice (some ⟨g, o, none⟩) nb cb, .slice (some ⟨g', o', none⟩) nb c] 71)
      have hr3 := (Below.heap_alloc w2 (.cells #[.int .i64 t, .int .i64 f, .int .i64 nb, .slice (some ⟨g, o, none⟩) nb cb, .slice (some ⟨g', o', none⟩) nb c] 71) w.heap.size (by have := hb2.size; simp at this; omega)).trans hr2
      have hz3 : (w2.alloc (.cells #[.int .i64 t, .int .i64 f, .int .i64 nb, .slice (some ⟨g, o, none⟩) nb cb, .slice (some ⟨g', o', none⟩) nb c] 71)).heap.size = w2.heap.size + 1 := by simp
      have hlt : w.heap.size < w2.heap.size := by have := hb2.size; simp at this; omega
      clear hb2 hr2 hB1 hr1 hs1
      have hcells : Hid (∀ V, Below (w2.alloc (.cells #[.int .i64 t, .int .i64 f, .int .i64 nb, .slice (some ⟨g, o, none⟩) nb cb, .slice (some ⟨g', o', none⟩) nb c] 71)).heap.size (w2.alloc (.cells #[.int .i64 t, .int .i64 f, .int .i64 nb, .slice (some ⟨g, o, none⟩) nb cb, .slice (some ⟨g', o', none⟩) nb c] 71)) V → V.heap[w.heap.size]? = some (.cells opZA 33 (0, 0)) ∧ V.heap[w2.heap.size]? = some (.cells #[.int .i64 t, .int .i64 f, .int .i64 nb, .slice (some ⟨g, o, none⟩) nb cb, .slice (some ⟨g', o', none⟩) nb c] 71 (0, 0))) := Lib.hid fun V hV => ⟨(hV.block w.heap.size (by rw [hz3]; omega)).trans hr3, (hV.block w2.heap.size (by rw [hz3]; omega)).trans hn3⟩
      have hB3b := Lib.hid hB3
      replace hlt := Lib.hid hlt
      clear hn3 hr3 hz3 hB3 hB2
      go_wp2_with fail
      generalize w2.alloc (.cells #[.int .i64 t, .int .i64 f, .int .i64 nb, .slice (some ⟨g, o, none⟩) nb cb, .slice (some ⟨g', o', none⟩) nb c] 71) = W3 at *
      refine (hH.out _).mono ?_
      rintro e w4 ⟨rfl, hb4⟩
      have hB4 := Lib.hid (hB3b.out.trans (hb4.mono hB3b.out.size))
      have hcells4 := Lib.hid (hcells.out _ hb4)
      clear hcells hb4 hB3b
      go_wp2_with fail
      have HB := Below.refl w4.heap.size w4
      replace HB := HB.drew
      refine wp_region_T 10 (fun w' => w'.cell? ⟨g, o + i, none⟩ = some (.bool b) ∧ w'.cell? ⟨g', o' + i, none⟩ = some (.int .i64 y)) (by kernel_rfl) (by exact ⟨(hcl.out _ (hB4.out.trans (HB.mono hB4.out.size))).1, (hcl.out _ (hB4.out.trans (HB.mono hB4.out.size))).2⟩) (fun hHeld => ?_)
      refine wpAnyT_take (i := 0) (oi := { dst := some 35, op := Op.move (Operand.tmp 4), type := 3, pos := "seals.go:90", after := #[], guard := none }) (v := ?_) rfl (by kernel_rfl) (by kernel_rfl) (by kernel_rfl) (by kernel_rfl) (fun _ _ _ h => h) (Or.inl ⟨by rfl, ?hy0⟩) hHeld ?rest0
      case hy0 =>
        intro w hSw
        try dsimp only at hSw
        go_simp
        try with_reducible rfl
      try simp only [Act.put, List.setIfInBounds_toArray, List.set_cons_zero, List.set_cons_succ]
      refine wpAnyT_take (i := 1) (oi := { dst := some 36, op := Op.move (Operand.tmp 3), type := 40, pos := "seals.go:90", after := #[], guard := none }) (v := ?_) rfl (by kernel_rfl) (by kernel_rfl) (by kernel_rfl) (by kernel_rfl) (fun _ _ _ h => h) (Or.inl ⟨by rfl, ?hy1⟩) hHeld ?rest1
      case hy1 =>
        intro w hSw
        try dsimp only at hSw
        go_simp
        try with_reducible rfl
      try simp only [Act.put, List.setIfInBounds_toArray, List.set_cons_zero, List.set_cons_succ]
      refine wpAnyT_take (i := 2) (oi := { dst := some 37, op := Op.move (Operand.tmp 13), type := 3, pos := "seals.go:90", after := #[], guard := none }) (v := ?_) rfl (by kernel_rfl) (by kernel_rfl) (by kernel_rfl) (by kernel_rfl) (fun _ _ _ h => h) (Or.inl ⟨by rfl, ?hy2⟩) hHeld ?rest2
      case hy2 =>
        intro w hSw
        try dsimp only at hSw
        go_simp
        try with_reducible rfl
      try simp only [Act.put, List.setIfInBounds_toArray, List.set_cons_zero, List.set_cons_succ]
      refine wpAnyT_take (i := 3) (oi := { dst := some 38, op := Op.indexAddr 40 (Operand.tmp 36) (Operand.tmp 37), type := 0, pos := "seals.go:90", after := #[{ on := 1, ground := Ground.data }, { on := 2, ground := Ground.data }], guard := none }) (v := ?_) rfl (by kernel_rfl) (by kernel_rfl) (by kernel_rfl) (by kernel_rfl) (fun _ _ _ h => h) (Or.inl ⟨by rfl, ?hy3⟩) hHeld ?rest3
      case hy3 =>
        intro w hSw
        try dsimp only at hSw
        go_simp
        try with_reducible rfl
      try simp only [Act.put, List.setIfInBounds_toArray, List.set_cons_zero, List.set_cons_succ]
      refine wpAnyT_take (i := 4) (oi := { dst := some 39, op := Op.load 3 (Operand.tmp 38), type := 3, pos := "seals.go:90", after := #[{ on := 3, ground := Ground.data }], guard := none }) (v := ?_) rfl (by kernel_rfl) (by kernel_rfl) (by kernel_rfl) (by kernel_rfl) (fun _ _ _ h => h) (Or.inl ⟨by rfl, ?hy4⟩) hHeld ?rest4
      case hy4 =>
        intro w hSw
        try dsimp only at hSw
        go_simp
        try with_reducible rfl
      try simp only [Act.put, List.setIfInBounds_toArray, List.set_cons_zero, List.set_cons_succ]
      refine wpAnyT_take (i := 5) (oi := { dst := some 40, op := Op.move (Operand.tmp 2), type := 39, pos := "seals.go:90", after := #[], guard := none }) (v := ?_) rfl (by kernel_rfl) (by kernel_rfl) (by kernel_rfl) (by kernel_rfl) (fun _ _ _ h => h) (Or.inl ⟨by rfl, ?hy5⟩) hHeld ?rest5
      case hy5 =>
        intro w hSw
        try dsimp only at hSw
        go_simp
        try with_reducible rfl
      try simp only [Act.put, List.setIfInBounds_toArray, List.set_cons_zero, List.set_cons_succ]
      refine wpAnyT_take (i := 6) (oi := { dst := some 41, op := Op.move (Operand.tmp 13), type := 3, pos := "seals.go:90", after := #[], guard := none }) (v := ?_) rfl (by kernel_rfl) (by kernel_rfl) (by kernel_rfl) (by kernel_rfl) (fun _ _ _ h => h) (Or.inl ⟨by rfl, ?hy6⟩) hHeld ?rest6
      case hy6 =>
        intro w hSw
        try dsimp only at hSw
        go_simp
        try with_reducible rfl
      try simp only [Act.put, List.setIfInBounds_toArray, List.set_cons_zero, List.set_cons_succ]
      refine wpAnyT_take (i := 7) (oi := { dst := some 42, op := Op.indexAddr 39 (Operand.tmp 40) (Operand.tmp 41), type := 0, pos := "seals.go:90", after := #[{ on := 5, ground := Ground.data }, { on := 6, ground := Ground.data }], guard := none }) (v := ?_) rfl (by kernel_rfl) (by kernel_rfl) (by kernel_rfl) (by kernel_rfl) (fun _ _ _ h => h) (Or.inl ⟨by rfl, ?hy7⟩) hHeld ?rest7
      case hy7 =>
        intro w hSw
        try dsimp only at hSw
        go_simp
        try with_reducible rfl
      try simp only [Act.put, List.setIfInBounds_toArray, List.set_cons_zero, List.set_cons_succ]
      refine wpAnyT_take (i := 8) (oi := { dst := some 43, op := Op.load 4 (Operand.tmp 42), type := 4, pos := "seals.go:90", after := #[{ on := 7, ground := Ground.data }], guard := none }) (v := ?_) rfl (by kernel_rfl) (by kernel_rfl) (by kernel_rfl) (by kernel_rfl) (fun _ _ _ h => h) (Or.inl ⟨by rfl, ?hy8⟩) hHeld ?rest8
      case hy8 =>
        intro w hSw
        try dsimp only at hSw
        go_simp
        try with_reducible rfl
      try simp only [Act.put, List.setIfInBounds_toArray, List.set_cons_zero, List.set_cons_succ]
      refine wpAnyT_one (i := 9) (o := { dst := some 44, op := Op.build 33 #[(0, Operand.tmp 35), (1, Operand.tmp 39), (2, Operand.tmp 43)], type := 33, pos := "seals.go:90", after := #[{ on := 0, ground := Ground.data }, { on := 4, ground := Ground.data }, { on := 8, ground := Ground.data }], guard := none }) (by kernel_rfl) rfl (fun K hK => ?_)
      refine step_buildS (by rfl) 33 #[(0, .tmp 35), (1, .tmp 39), (2, .tmp 43)] (by rfl) #[.int .i64 d, .int .i64 y, .bool b, .slice none 0 0] (by simp only [List.map_toArray, List.map_cons, List.map_nil]; exact pb.out) ?_
      refine hK.out _ _ (by exact ⟨(hcl.out _ (hB4.out.trans (HB.mono hB4.out.size))).1, (hcl.out _ (hB4.out.trans (HB.mono hB4.out.size))).2⟩) (fun hHeld' => ?_)
      clear hK K hHeld
      have hHeld := hHeld'
      clear hHeld'
      try simp only [Act.put, List.setIfInBounds_toArray, List.set_cons_zero, List.set_cons_succ]
      refine wpAnyT_tail (i := 10) (o := { dst := none, op := Op.store 33 (Operand.tmp 10) (Operand.tmp 44), type := 0, pos := "seals.go:90", after := #[{ on := 9, ground := Ground.data }, { on := 0, ground := Ground.phase }, { on := 1, ground := Ground.phase }, { on := 2, ground := Ground.phase }, { on := 3, ground := Ground.phase }, { on := 4, ground := Ground.phase }, { on := 5, ground := Ground.phase }, { on := 6, ground := Ground.phase }, { on := 7, ground := Ground.phase }, { on := 8, ground := Ground.phase }, { on := 9, ground := Ground.phase }], guard := none }) (by kernel_rfl) rfl (by rfl) (fun K hK => ?_)
      rw [if_pos (by rfl)]
      refine wp_set_row 33 (.tmp 10) (.tmp 44) (by rfl) (by rfl) w.heap.size #[.int .i64 d, .int .i64 y, .bool b, .slice none 0 0] (by rfl) (by rfl) 33 _ hcells4.out.1 op_info (by rfl) (by simp [Value.oneCell']) ?_
      intro w9 hd9 hz9 hg9
      refine hK.out _ _ ?_
      clear hK K
      try simp only [Act.put, List.setIfInBounds_toArray, List.set_cons_zero, List.set_cons_succ]
      refine wpAnyT_done (by kernel_rfl) ?_ _
      have hB9 := hB4.out.drew
      have hB7 := Lib.hid (hB9.grown hg9 hB9.size (fun k e => by have := Option.some.inj e; omega))
      have hs7 := (hg9.block w2.heap.size (Array.getElem?_eq_some_iff.1 hcells4.out.2).1 (fun e => by have := Option.some.inj e; have := hlt.out; omega)).trans hcells4.out.2
      have x0 : w9.cell? ⟨w2.heap.size, 0, none⟩ = some (.int .i64 t) := by rw [cell_of_row _ _ _ _ _ _ hs7]; rfl
      have x1 : w9.cell? ⟨w2.heap.size, 1, none⟩ = some (.int .i64 f) := by rw [cell_of_row _ _ _ _ _ _ hs7]; rfl
      have x2 : w9.cell? ⟨w2.heap.size, 2, none⟩ = some (.int .i64 nb) := by rw [cell_of_row _ _ _ _ _ _ hs7]; rfl
      have x3 : w9.cell? ⟨w2.heap.size, 3, none⟩ = some (.slice (some ⟨g, o, none⟩) nb cb) := by rw [cell_of_row _ _ _ _ _ _ hs7]; rfl
      have x4 : w9.cell? ⟨w2.heap.size, 4, none⟩ = some (.slice (some ⟨g', o', none⟩) nb c) := by rw [cell_of_row _ _ _ _ _ _ hs7]; rfl
      replace hd9 := Lib.hid hd9
      clear hs7 hg9 hB9 hB4 hcells4 hcl hO hH
      go_wp2_with fail
      refine (hN.out _ hB7.out).mono ?_
      rintro e w10 ⟨A10, c10, rfl, h10, hb10⟩
      have hB10 := Lib.hid (hB7.out.trans (hb10.mono hB7.out.size))
      have hd10 := Lib.hid ((hb10.block w.heap.size (Array.getElem?_eq_some_iff.1 hd9.out).1).trans hd9.out)
      clear x0 x1 x2 x3 x4 hb10 hd9 hB7 hN
      replace h10 := Lib.hid h10
      go_wp2_with fail
      refine (hZ.out _ _ _ hB10.out h10.out).mono ?_
      rintro e w11 ⟨A11, c11, rfl, hc11, h11, hb11⟩
      have hB11 := Lib.hid (hB10.out.trans (hb11.mono hB10.out.size))
      have hd11 := ((hb11.block w.heap.size (Array.getElem?_eq_some_iff.1 hd10.out).1).trans hd10.out)
      have x0 : w11.cell? ⟨w.heap.size, 0, none⟩ = some (.int .i64 d) := by rw [cell_of_row _ _ _ _ _ _ hd11]; rfl
      have x1 : w11.cell? ⟨w.heap.size, 1, none⟩ = some (.int .i64 y) := by rw [cell_of_row _ _ _ _ _ _ hd11]; rfl
      have x2 : w11.cell? ⟨w.heap.size, 2, none⟩ = some (.bool b) := by rw [cell_of_row _ _ _ _ _ _ hd11]; rfl
      have x3 : w11.cell? ⟨w.heap.size, 3, none⟩ = some (.slice none 0 0) := by rw [cell_of_row _ _ _ _ _ _ hd11]; rfl
      have f0 := frozen_of_row w11 w.heap.size 0 _ _ hd11
      have f1 := frozen_of_row w11 w.heap.size 1 _ _ hd11
      have f2 := frozen_of_row w11 w.heap.size 2 _ _ hd11
      have f3 := frozen_of_row w11 w.heap.size 3 _ _ hd11
      replace h11 := Lib.hid h11
      replace hd11 := Lib.hid hd11
      clear hb11 hd10 hB10 h10 hZ
      go_wp2_with fail
      have h3a := heap_setCell_same w11 w.heap.size 3 _ _ (.slice A11 q c11) hd11.out
      obtain ⟨h4a, h4b⟩ := set4 (w11.setCell ⟨w.heap.size, 3, none⟩ (.slice A11 q c11)) w.heap.size (.int .i64 d) (.int .i64 y) (.bool b) (.slice A11 q c11) _ _ _ _ _ h3a
      have hg12 := grown_trans (setCell_grown w11 w.heap.size 3 (.slice A11 q c11)) h4b
      have hne : ∀ k, some w.heap.size = some k → w.heap.size ≤ k := fun k e => by have := Option.some.inj e; omega
      have hds12 := ds_grown h11.out hd11.out hg12
      refine bodyPost_ret (v := .tuple #[.agg (opA ⟨d, y, b, p⟩ A11 c11), .int .i64 0]) (results_row_tmp rfl _ _ w.heap.size 33 (opA ⟨d, y, b, p⟩ A11 c11) (0, 0) _ _ rfl rfl (by rw [h4a, opA, hq.out]) Tryd.underlying33 (by rfl) op_info) rfl ⟨A11, c11, rfl, by rw [hq.out]; exact hc11, hds12, hB11.out.grown hg12 hB11.out.size hne⟩
    · have hh : hasB f nb d = false := by simpa using hh
      rw [hen, if_neg (show ¬ hasB f nb d = true by rw [hh]; exact Bool.false_ne_true), if_neg (by decide)]
      rw [hh] at hH
      have po : opZA.all (·.oneCell') = true := by simp [opZA, Value.oneCell']
      replace po := Lib.hid po
      clear hen he h1 h3 h4 hnb hn hB hS hL hsl hh
      go_enter Tryd.func18, Tryd.ntmps18
      go_wp2_with fail
      refine (hO.out (w.alloc (.cells opZA 33)) hB1).mono ?_
      rintro e w2 ⟨rfl, hb2⟩
      have hr2 := (hb2.block w.heap.size (by simp)).trans hr1
      have hB2 := hB1.trans (hb2.mono hB1.size)
      have hB3 := hB2.alloc hB2.size (.cells #[.int .i64 t, .int .i64 f, .int .i64 nb, .slice B nb cb, .slice S nb c] 71)
      have hr3 := (Below.heap_alloc w2 (.cells #[.int .i64 t, .int .i64 f, .int .i64 nb, .slice B nb cb, .slice S nb c] 71) w.heap.size (by have := hb2.size; simp at this; omega)).trans hr2
      clear hb2 hr2 hB1 hr1 hs1 hB2
      go_wp2_with fail
      generalize w2.alloc (.cells #[.int .i64 t, .int .i64 f, .int .i64 nb, .slice B nb cb, .slice S nb c] 71) = W3 at *
      refine (hH.out _).mono ?_
      rintro e w4 ⟨rfl, hb4⟩
      have hB4 := Lib.hid (hB3.trans (hb4.mono hB3.size))
      have hr4 := Lib.hid ((hb4.block w.heap.size (Array.getElem?_eq_some_iff.1 hr3).1).trans hr3)
      clear hb4 hr3 hB3
      go_wp2_with (first
        | (refine wpList_buildG (by rfl) 33 #[] (by rfl) opZA built_opZ ?_)
        | (refine wpList_set_row (by rfl) 33 (.tmp 10) (.tmp 31) (by rfl) (by rfl) w.heap.size opZA (by rfl) (by rfl) 33 _ hr4.out op_info rfl po.out ?_; intro w6 hd6 hz6 hg6; replace hd6 := Lib.hid hd6; replace hg6 := Lib.hid hg6; clear hz6))
      exact bodyPost_ret (v := .tuple #[.agg opZA, .int .i64 1]) (results_row_tmp rfl _ _ w.heap.size 33 opZA (0, 0) _ _ rfl rfl hd6.out Tryd.underlying33 (by rfl) op_info) rfl ⟨none, 0, rfl, Nat.le_refl _, opZ_ds _, hB4.out.grown hg6.out hB4.out.size (fun k e => by have := Option.some.inj e; omega)⟩
  · rw [if_pos h1, he] at hO
    have hen : opnE t f nb ns sl d = 2 := by rw [opnE, if_neg (by rw [he]; decide), he]
    rw [hen, if_neg (by decide)]
    have po : opZA.all (·.oneCell') = true := by simp [opZA, Value.oneCell']
    replace po := Lib.hid po
    clear hen he h1 hnb hn hB hS hL hsl
    go_enter Tryd.func18, Tryd.ntmps18
    go_wp2_with fail
    refine (hO.out (w.alloc (.cells opZA 33)) hB1).mono ?_
    rintro e w2 ⟨rfl, hb2⟩
    have hr2 := (hb2.block w.heap.size (by simp)).trans hr1
    have hB2 := hB1.trans (hb2.mono hB1.size)
    have hB3 := hB2.alloc hB2.size (.cells #[.int .i64 0, .int .i64 0, .int .i64 0, .slice none 0 0, .slice none 0 0] 71)
    have hr3 := (Below.heap_alloc w2 (.cells #[.int .i64 0, .int .i64 0, .int .i64 0, .slice none 0 0, .slice none 0 0] 71) w.heap.size (by have := hb2.size; simp at this; omega)).trans hr2
    replace hB3 := Lib.hid hB3
    replace hr3 := Lib.hid hr3
    clear hb2 hr2 hB1 hr1 hs1 hB2
    go_wp2_with (first
      | (refine wpList_buildG (by rfl) 33 #[] (by rfl) opZA built_opZ ?_)
      | (refine wpList_set_row (by rfl) 33 (.tmp 10) (.tmp 24) (by rfl) (by rfl) w.heap.size opZA (by rfl) (by rfl) 33 _ hr3.out op_info rfl po.out ?_; intro w6 hd6 hz6 hg6; replace hd6 := Lib.hid hd6; replace hg6 := Lib.hid hg6; clear hz6))
    exact bodyPost_ret (v := .tuple #[.agg opZA, .int .i64 2]) (results_row_tmp rfl _ _ w.heap.size 33 opZA (0, 0) _ _ rfl rfl hd6.out Tryd.underlying33 (by rfl) op_info) rfl ⟨none, 0, rfl, Nat.le_refl _, opZ_ds _, hB3.out.grown hg6.out hB3.out.size (fun k e => by have := Option.some.inj e; omega)⟩
  · rw [if_neg h1, he] at hO
    have hen : opnE t f nb ns sl d = 390 := by rw [opnE, if_neg (by rw [he]; decide), he]
    rw [hen, if_neg (by decide)]
    have po : opZA.all (·.oneCell') = true := by simp [opZA, Value.oneCell']
    replace po := Lib.hid po
    clear hen he h1 hnb hn hB hS hL hsl
    go_enter Tryd.func18, Tryd.ntmps18
    go_wp2_with fail
    refine (hO.out (w.alloc (.cells opZA 33)) hB1).mono ?_
    rintro e w2 ⟨rfl, hb2⟩
    have hr2 := (hb2.block w.heap.size (by simp)).trans hr1
    have hB2 := hB1.trans (hb2.mono hB1.size)
    have hB3 := hB2.alloc hB2.size (.cells #[.int .i64 t, .int .i64 f, .int .i64 ns, .slice B nb cb, .slice S ns c] 71)
    have hr3 := (Below.heap_alloc w2 (.cells #[.int .i64 t, .int .i64 f, .int .i64 ns, .slice B nb cb, .slice S ns c] 71) w.heap.size (by have := hb2.size; simp at this; omega)).trans hr2
    replace hB3 := Lib.hid hB3
    replace hr3 := Lib.hid hr3
    clear hb2 hr2 hB1 hr1 hs1 hB2
    go_wp2_with (first
      | (refine wpList_buildG (by rfl) 33 #[] (by rfl) opZA built_opZ ?_)
      | (refine wpList_set_row (by rfl) 33 (.tmp 10) (.tmp 24) (by rfl) (by rfl) w.heap.size opZA (by rfl) (by rfl) 33 _ hr3.out op_info rfl po.out ?_; intro w6 hd6 hz6 hg6; replace hd6 := Lib.hid hd6; replace hg6 := Lib.hid hg6; clear hz6))
    exact bodyPost_ret (v := .tuple #[.agg opZA, .int .i64 390]) (results_row_tmp rfl _ _ w.heap.size 33 opZA (0, 0) _ _ rfl rfl hd6.out Tryd.underlying33 (by rfl) op_info) rfl ⟨none, 0, rfl, Nat.le_refl _, opZ_ds _, hB3.out.grown hg6.out hB3.out.size (fun k e => by have := Option.some.inj e; omega)⟩
end Go.Proofs.YtnccbhndlnkboaaDoor
