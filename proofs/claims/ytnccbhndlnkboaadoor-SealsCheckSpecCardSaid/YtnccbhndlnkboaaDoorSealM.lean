/- The walk of seals.Make. -/
import Derived.Test.YtnccbhndlnkboaaDoorSLeaves
import Derived.Test.YtnccbhndlnkboaaDoorSCheck
import Derived.Test.YtnccbhndlnkboaaDoorMRoot
namespace Go.Proofs.YtnccbhndlnkboaaDoor
open Go.RowKit Go.Shelf Cdc Sha
set_option linter.unusedVariables false
set_option linter.unusedSimpArgs false

def slA (s : Sl) : Array Value := (slC s).toArray
def slZ : Sl := ⟨0, 0, 0, zero32⟩
theorem slA_size {s : Sl} (h : s.root.length = 32) : (slA s).size = 35 := by simp [slA, slC, dc, h]
theorem sl_info {s : Sl} (h : s.root.length = 32) : (Tryd.prog.info? 25).map (·.size) = some (slA s).size := by rw [slA_size h]; kernel_rfl
theorem slA_one (s : Sl) : (slA s).all (·.oneCell') = true := by
  have h1 := one_by1 s.root
  simp [slA, slC, dc, Value.oneCell'] at h1 ⊢
set_option maxRecDepth 100000 in
theorem built_sl (t f m : Int) (d : List UInt8) (h : d.length = 32) : Tryd.prog.built 25 [(0, .int .i64 t), (1, .int .i64 f), (2, .int .i64 m), (3, .agg (dg d))] = some (slA ⟨t, f, m, d⟩) := by
  obtain ⟨p0, p1, p2, p3, p4, p5, p6, p7, p8, p9, p10, p11, p12, p13, p14, p15, p16, p17, p18, p19, p20, p21, p22, p23, p24, p25, p26, p27, p28, p29, p30, p31, rfl⟩ := list32 d h
  kernel_rfl
set_option maxRecDepth 100000 in
theorem built_slZ : Tryd.prog.built 25 [] = some (slA slZ) := by kernel_rfl
theorem step_buildS {ops : Array Oper} {o : Oper} {a : Act} {w : World} {K : Act → World → Prop} {Q : Exit → Act → World → Prop} {E : Prop} (hgd : o.guard = none) (t : TypeId) (parts : Array (Nat × Operand)) (ho : o.op = .build t parts)
    (cells : Array Value) (hf : Tryd.prog.built t (parts.map fun (i, x) => (i, a.eval x)).toList = some cells)
    (h : K (a.put o.dst (.agg cells)) w) : if Region.wanted o (yielded ops a.tmps) = true then Oper.wp Tryd.prog o a w K Q else E := by
  have hw : Region.wanted o (yielded ops a.tmps) = true := by simp [Region.wanted, hgd]
  rw [if_pos hw]
  exact wp_build t parts ho (by rw [hf]; rfl) (by rw [hf]; exact h)

theorem wpList_buildG {ops : Array Oper} {rest : List Oper} {o : Oper} {a : Act} {w : World} {Q : Exit → Act → World → Prop} (hgd : Region.wanted o (yielded ops a.tmps) = true) (t : TypeId) (parts : Array (Nat × Operand)) (ho : o.op = .build t parts)
    (cells : Array Value) (hf : Tryd.prog.built t (parts.map fun (i, x) => (i, a.eval x)).toList = some cells)
    (h : wpList Tryd.prog ops Q rest (a.put o.dst (.agg cells)) w) : wpList Tryd.prog ops Q (o :: rest) a w := by
  unfold wpList
  rw [if_pos hgd]
  exact .inl (wp_build t parts ho (by rw [hf]; rfl) (by rw [hf]; exact h))

/-- what Make answers -/
def mkS (t f : Int) (nb ns : Nat) (bl : List Bool) (sl : List Int) : Sl := if opE t f nb ns sl = 0 then ⟨t, f, ns, rootM ((lvs t f bl sl).map lfD)⟩ else slZ
theorem opE_cases (t f : Int) (nb ns : Nat) (sl : List Int) : (opE t f nb ns sl = 0 ∧ ¬ (512 < nb ∨ 512 < ns) ∧ nb = ns ∧ dayB t f ns = true ∧ sl.all salB = true) ∨ (opE t f nb ns sl = 2 ∧ (512 < nb ∨ 512 < ns)) ∨ (opE t f nb ns sl = 390 ∧ ¬ (512 < nb ∨ 512 < ns)) := by
  unfold opE
  by_cases h1 : 512 < nb ∨ 512 < ns
  · rw [if_pos h1]; exact .inr (.inl ⟨rfl, h1⟩)
  · rw [if_neg h1]
    by_cases h2 : nb = ns ∧ dayB t f ns = true ∧ sl.all salB = true
    · rw [if_pos h2]; exact .inl ⟨rfl, h1, h2⟩
    · rw [if_neg h2]; exact .inr (.inr ⟨rfl, h1⟩)

set_option maxRecDepth 100000 in
set_option maxHeartbeats 4000000 in
theorem make_any (t f : Int) (bl : List Bool) (sl : List Int) (nb ns cb c : Nat) (B S : Option Addr) (hnb : bl.length = nb) (hn : sl.length = ns) (hcb : nb ≤ cb) (hc : ns ≤ c) (hxb : nb ≤ maxLen) (hxs : ns ≤ maxLen) (ht : I64 t) (hsl : ∀ x ∈ sl, I64 x) (w : World) (hB : BoAt w B bl) (hS : InAt w S sl) (hL : Laid w) :
    Calls Tryd.prog 16 #[.int .i64 t, .int .i64 f, .slice B nb cb, .slice S ns c] w fun e w' => e = .returned (.tuple #[.agg (slA (mkS t f nb ns bl sl)), .int .i64 (opE t f nb ns sl)]) ∧ Below w.heap.size w w' := by
  have hO : Hid (∀ V, Below w.heap.size w V → Calls Tryd.prog 33 #[.int .i64 t, .int .i64 f, .slice B nb cb, .slice S ns c] V fun e w' => e = .returned (.tuple #[.agg (if 512 < nb ∨ 512 < ns then #[.int .i64 0, .int .i64 0, .int .i64 0, .slice none 0 0, .slice none 0 0] else #[.int .i64 t, .int .i64 f, .int .i64 ns, .slice B nb cb, .slice S ns c]), .int .i64 (opE t f nb ns sl)]) ∧ Below V.heap.size V w') := Lib.hid fun V hV => open_any t f nb ns cb c B S sl hn hc hxb hxs V (hS.below hV)
  unfold mkS
  have hB1 : Below w.heap.size w (w.alloc (.cells (slA slZ) 25)) := (Below.refl _ _).alloc (Nat.le_refl _) _
  have hr1 := heap_alloc_new w (.cells (slA slZ) 25)
  have hs1 : (w.alloc (.cells (slA slZ) 25)).heap.size = w.heap.size + 1 := by simp
  rcases opE_cases t f nb ns sl with ⟨he, h1, h2, h3, h4⟩ | ⟨he, h1⟩ | ⟨he, h1⟩
  · rw [if_neg h1, he] at hO
    rw [if_pos he, he]
    subst h2
    have hd : 0 ≤ f ∧ f ≤ 73048 ∧ nb ≤ 512 ∧ 1 ≤ nb := by have := of_decide_eq_true h3; omega
    have hN : Hid (∀ V, Below w.heap.size w V → Calls Tryd.prog 35 #[.agg #[.int .i64 t, .int .i64 f, .int .i64 nb, .slice B nb cb, .slice S nb c]] V fun e w' => ∃ (A : Option Addr) (c' : Nat), e = .returned (.slice A nb c') ∧ LvAt w' A (lvs t f bl sl) ∧ Below V.heap.size V w') := Lib.hid fun V hV => leaves_any t f nb bl sl cb nb c B S (hnb.trans hn.symm) hn hcb hc hd.2.2.1 ht hd.1 (by omega) hsl V (hB.below hV) (hS.below hV)
    have hsm : ∀ x ∈ lvs t f bl sl, x.length ≤ 1000000 := fun x hx => by
      obtain ⟨i, hi⟩ := List.getElem?_of_mem hx
      have hlt : i < sl.length := by have := (List.getElem?_eq_some_iff.1 hi).1; rw [lvs_len (hnb.trans hn.symm)] at this; exact this
      obtain ⟨b, hb⟩ : ∃ b, bl[i]? = some b := ⟨_, List.getElem?_eq_getElem (by rw [hnb]; omega)⟩
      obtain ⟨y, hy⟩ : ∃ y, sl[i]? = some y := ⟨_, List.getElem?_eq_getElem hlt⟩
      rw [lvs_at hb hy] at hi
      obtain rfl := Option.some.inj hi
      have := (leaf_sm (b := b) ht (d := f + (i : Int)) ⟨by omega, by omega⟩ (hsl y (List.mem_of_getElem? hy))).2
      omega
    have hZ : Hid (∀ V A c', Below w.heap.size w V → LvAt V A (lvs t f bl sl) → Calls Tryd.prog 34 #[.slice A nb c'] V fun e w' => e = .returned (.agg (dg (rootM ((lvs t f bl sl).map lfD)))) ∧ Below V.heap.size V w') := Lib.hid fun V A c' hV hA => mroot_any (lvs t f bl sl) nb A c' V ((lvs_len (hnb.trans hn.symm)).trans hn) (by omega) (by omega) hA hsm (hL.below hV)
    have hr32 : (rootM ((lvs t f bl sl).map lfD)).length = 32 := rootM_len nb _ (by rw [List.length_map, lvs_len (hnb.trans hn.symm), hn]) (fun e => by have := congrArg List.length e; rw [List.length_map, lvs_len (hnb.trans hn.symm), hn] at this; simp at this; omega) (fun d hd => by
      obtain ⟨x, _, rfl⟩ := List.mem_map.1 hd
      exact lfD_len x)
    obtain ⟨r, hr⟩ : ∃ r, rootM ((lvs t f bl sl).map lfD) = r := ⟨_, rfl⟩
    rw [hr] at hZ hr32 ⊢
    obtain ⟨X, hX⟩ : ∃ X, lvs t f bl sl = X := ⟨_, rfl⟩
    rw [hX] at hN hZ
    have pb := Lib.hid (built_sl t f nb r hr32)
    have pi := Lib.hid (sl_info (s := ⟨t, f, nb, r⟩) hr32)
    have pz := Lib.hid (show (slA slZ).size = (slA ⟨t, f, nb, r⟩).size by rw [slA_size (s := slZ) zero32_len, slA_size hr32])
    have po := Lib.hid (slA_one ⟨t, f, nb, r⟩)
    clear hr hX hsm hr32 he h1 h3 h4 hnb hn hB hS hL hsl
    go_enter Tryd.func16, Tryd.ntmps16
    go_wp2_with fail
    refine (hO.out (w.alloc (.cells (slA slZ) 25)) hB1).mono ?_
    rintro e w2 ⟨rfl, hb2⟩
    have hr2 := (hb2.block w.heap.size (by simp)).trans hr1
    have hB2 := hB1.trans (hb2.mono hB1.size)
    have hn3 := heap_alloc_new w2 (.cells #[.int .i64 t, .int .i64 f, .int .i64 nb, .slice B nb cb, .slice S nb c] 71)
    have hB3 := hB2.alloc hB2.size (.cells #[.int .i64 t, .int .i64 f, .int .i64 nb, .slice B nb cb, .slice S nb c] 71)
    have hr3 := (Below.heap_alloc w2 (.cells #[.int .i64 t, .int .i64 f, .int .i64 nb, .slice B nb cb, .slice S nb c] 71) w.heap.size (by have := hb2.size; simp at this; omega)).trans hr2
    have hz3 : (w2.alloc (.cells #[.int .i64 t, .int .i64 f, .int .i64 nb, .slice B nb cb, .slice S nb c] 71)).heap.size = w2.heap.size + 1 := by simp
    have hlt : w.heap.size < w2.heap.size := by have := hb2.size; simp at this; omega
    clear hb2 hr2 hB1 hr1 hs1
    have hcells : Hid (∀ V, Below (w2.alloc (.cells #[.int .i64 t, .int .i64 f, .int .i64 nb, .slice B nb cb, .slice S nb c] 71)).heap.size (w2.alloc (.cells #[.int .i64 t, .int .i64 f, .int .i64 nb, .slice B nb cb, .slice S nb c] 71)) V → V.heap[w.heap.size]? = some (.cells (slA slZ) 25 (0, 0)) ∧ ( V.cell? ⟨w2.heap.size, 0, none⟩ = some (.int .i64 t) ∧ V.cell? ⟨w2.heap.size, 1, none⟩ = some (.int .i64 f) ∧ V.cell? ⟨w2.heap.size, 2, none⟩ = some (.int .i64 nb) ∧ V.cell? ⟨w2.heap.size, 3, none⟩ = some (.slice B nb cb) ∧ V.cell? ⟨w2.heap.size, 4, none⟩ = some (.slice S nb c))) := Lib.hid fun V hV => by
      have h1 := (hV.block w2.heap.size (by rw [hz3]; omega)).trans hn3
      refine ⟨(hV.block w.heap.size (by rw [hz3]; omega)).trans hr3, by rw [cell_of_row _ _ _ _ _ _ h1]; rfl, by rw [cell_of_row _ _ _ _ _ _ h1]; rfl, by rw [cell_of_row _ _ _ _ _ _ h1]; rfl, by rw [cell_of_row _ _ _ _ _ _ h1]; rfl, by rw [cell_of_row _ _ _ _ _ _ h1]; rfl⟩
    have hz3b := Lib.hid hz3
    have hB3b := Lib.hid hB3
    clear hn3 hr3 hz3 hB3 hB2
    go_wp2_with fail
    have HB := Below.refl (w2.alloc (.cells #[.int .i64 t, .int .i64 f, .int .i64 nb, .slice B nb cb, .slice S nb c] 71)).heap.size (w2.alloc (.cells #[.int .i64 t, .int .i64 f, .int .i64 nb, .slice B nb cb, .slice S nb c] 71))
    replace HB := HB.drew
    generalize w2.alloc (.cells #[.int .i64 t, .int .i64 f, .int .i64 nb, .slice B nb cb, .slice S nb c] 71) = W3 at *
    refine wp_region_T 9 (fun w' => w'.cell? ⟨w2.heap.size, 0, none⟩ = some (.int .i64 t) ∧ w'.cell? ⟨w2.heap.size, 1, none⟩ = some (.int .i64 f) ∧ w'.cell? ⟨w2.heap.size, 2, none⟩ = some (.int .i64 nb) ∧ w'.cell? ⟨w2.heap.size, 3, none⟩ = some (.slice B nb cb) ∧ w'.cell? ⟨w2.heap.size, 4, none⟩ = some (.slice S nb c)) (by kernel_rfl) (by exact (hcells.out _ HB).2) (fun hHeld => ?_)
    refine wpAnyT_take (i := 0) (oi := { dst := some 23, op := Op.move (Operand.tmp 0), type := 3, pos := "seals.go:77", after := #[], guard := none }) (v := ?_) rfl (by kernel_rfl) (by kernel_rfl) (by kernel_rfl) (by kernel_rfl) (fun _ _ _ h => h) (Or.inl ⟨by rfl, ?hy0⟩) hHeld ?rest0
    case hy0 =>
      intro w hSw
      try dsimp only at hSw
      go_simp
      try with_reducible rfl
    try simp only [Act.put, List.setIfInBounds_toArray, List.set_cons_zero, List.set_cons_succ]
    refine wpAnyT_take (i := 1) (oi := { dst := some 24, op := Op.move (Operand.tmp 1), type := 3, pos := "seals.go:77", after := #[], guard := none }) (v := ?_) rfl (by kernel_rfl) (by kernel_rfl) (by kernel_rfl) (by kernel_rfl) (fun _ _ _ h => h) (Or.inl ⟨by rfl, ?hy1⟩) hHeld ?rest1
    case hy1 =>
      intro w hSw
      try dsimp only at hSw
      go_simp
      try with_reducible rfl
    try simp only [Act.put, List.setIfInBounds_toArray, List.set_cons_zero, List.set_cons_succ]
    refine wpAnyT_take (i := 2) (oi := { dst := some 25, op := Op.fieldAddr 71 (Operand.tmp 10) 0, type := 0, pos := "seals.go:77", after := #[], guard := none }) (v := ?_) rfl (by kernel_rfl) (by kernel_rfl) (by kernel_rfl) (by kernel_rfl) (fun _ _ _ h => h) (Or.inl ⟨by rfl, ?hy2⟩) hHeld ?rest2
    case hy2 =>
      intro w hSw
      try dsimp only at hSw
      go_simp
      try with_reducible rfl
    try simp only [Act.put, List.setIfInBounds_toArray, List.set_cons_zero, List.set_cons_succ]
    refine wpAnyT_take (i := 3) (oi := { dst := some 26, op := Op.fieldAddr 69 (Operand.tmp 25) 2, type := 0, pos := "seals.go:77", after := #[{ on := 2, ground := Ground.data }], guard := none }) (v := ?_) rfl (by kernel_rfl) (by kernel_rfl) (by kernel_rfl) (by kernel_rfl) (fun _ _ _ h => h) (Or.inl ⟨by rfl, ?hy3⟩) hHeld ?rest3
    case hy3 =>
      intro w hSw
      try dsimp only at hSw
      go_simp
      try with_reducible rfl
    try simp only [Act.put, List.setIfInBounds_toArray, List.set_cons_zero, List.set_cons_succ]
    refine wpAnyT_take (i := 4) (oi := { dst := some 27, op := Op.load 3 (Operand.tmp 26), type := 3, pos := "seals.go:77", after := #[{ on := 3, ground := Ground.data }], guard := none }) (v := ?_) rfl (by kernel_rfl) (by kernel_rfl) (by kernel_rfl) (by kernel_rfl) (fun _ _ _ h => h) (Or.inl ⟨by rfl, ?hy4⟩) hHeld ?rest4
    case hy4 =>
      intro w hSw
      try dsimp only at hSw
      go_simp
      try with_reducible rfl
    try simp only [Act.put, List.setIfInBounds_toArray, List.set_cons_zero, List.set_cons_succ]
    refine wpAnyT_take (i := 5) (oi := { dst := some 28, op := Op.load 71 (Operand.tmp 10), type := 71, pos := "seals.go:77", after := #[], guard := none }) (v := ?_) rfl (by kernel_rfl) (by kernel_rfl) (by kernel_rfl) (by kernel_rfl) (fun _ _ _ h => h) (Or.inl ⟨by rfl, ?hy5⟩) hHeld ?rest5
    case hy5 =>
      intro w hSw
      try dsimp only at hSw
      go_simp
      try with_reducible rfl
    try simp only [Act.put, List.setIfInBounds_toArray, List.set_cons_zero, List.set_cons_succ]
    refine wpAnyT_one (i := 6) (o := { dst := some 29, op := Op.call { callee := Callee.value (Operand.func 35), args := #[Operand.tmp 28], argTypes := #[71] }, type := 75, pos := "seals.go:77", after := #[{ on := 5, ground := Ground.data }], guard := none }) (by kernel_rfl) rfl (fun K hK => ?_)
    go_simp
    go_at_call 35
    refine (hN.out _ (hB3b.out.trans (HB.mono hB3b.out.size))).mono ?_
    rintro e w4 ⟨A4, c4, rfl, h4, hb⟩
    replace HB := HB.trans (hb.mono HB.size)
    replace h4 := Lib.hid h4
    clear hb
    refine hK.out _ _ (by exact (hcells.out _ HB).2) (fun hHeld' => ?_)
    clear hK K hHeld
    have hHeld := hHeld'
    clear hHeld'
    try simp only [Act.put, List.setIfInBounds_toArray, List.set_cons_zero, List.set_cons_succ]
    refine wpAnyT_one (i := 7) (o := { dst := some 30, op := Op.call { callee := Callee.value (Operand.func 34), args := #[Operand.tmp 29], argTypes := #[75] }, type := 23, pos := "seals.go:77", after := #[{ on := 6, ground := Ground.data }, { on := 6, ground := Ground.chain }], guard := none }) (by kernel_rfl) rfl (fun K hK => ?_)
    go_simp
    go_at_call 34
    refine (hZ.out _ _ _ (hB3b.out.trans (HB.mono hB3b.out.size)) h4.out).mono ?_
    rintro e w5 ⟨rfl, hb⟩
    replace HB := HB.trans (hb.mono HB.size)
    clear hb
    refine hK.out _ _ (by exact (hcells.out _ HB).2) (fun hHeld' => ?_)
    clear hK K hHeld
    have hHeld := hHeld'
    clear hHeld'
    try simp only [Act.put, List.setIfInBounds_toArray, List.set_cons_zero, List.set_cons_succ]
    refine wpAnyT_one (i := 8) (o := { dst := some 31, op := Op.build 25 #[(0, Operand.tmp 23), (1, Operand.tmp 24), (2, Operand.tmp 27), (3, Operand.tmp 30)], type := 25, pos := "seals.go:77", after := #[{ on := 0, ground := Ground.data }, { on := 1, ground := Ground.data }, { on := 4, ground := Ground.data }, { on := 7, ground := Ground.data }], guard := none }) (by kernel_rfl) rfl (fun K hK => ?_)
    refine step_buildS (by rfl) 25 #[(0, .tmp 23), (1, .tmp 24), (2, .tmp 27), (3, .tmp 30)] (by rfl) (slA ⟨t, f, nb, r⟩) (by simp only [List.map_toArray, List.map_cons, List.map_nil]; exact pb.out) ?_
    refine hK.out _ _ (by exact (hcells.out _ HB).2) (fun hHeld' => ?_)
    clear hK K hHeld
    have hHeld := hHeld'
    clear hHeld'
    try simp only [Act.put, List.setIfInBounds_toArray, List.set_cons_zero, List.set_cons_succ]
    refine wpAnyT_tail (i := 9) (o := { dst := none, op := Op.store 25 (Operand.tmp 8) (Operand.tmp 31), type := 0, pos := "seals.go:77", after := #[{ on := 8, ground := Ground.data }, { on := 7, ground := Ground.chain }, { on := 0, ground := Ground.phase }, { on := 1, ground := Ground.phase }, { on := 2, ground := Ground.phase }, { on := 3, ground := Ground.phase }, { on := 4, ground := Ground.phase }, { on := 5, ground := Ground.phase }, { on := 6, ground := Ground.phase }, { on := 7, ground := Ground.phase }, { on := 8, ground := Ground.phase }], guard := none }) (by kernel_rfl) rfl (by rfl) (fun K hK => ?_)
    rw [if_pos (by rfl)]
    refine wp_set_row 25 (.tmp 8) (.tmp 31) (by rfl) (by rfl) w.heap.size (slA ⟨t, f, nb, r⟩) (by rfl) (by rfl) 25 _ (hcells.out _ HB).1 pi.out pz.out po.out ?_
    intro w9 hd9 hz9 hg9
    replace hd9 := Lib.hid hd9
    replace hg9 := Lib.hid hg9
    clear hz9
    refine hK.out _ _ ?_
    clear hK K
    try simp only [Act.put, List.setIfInBounds_toArray, List.set_cons_zero, List.set_cons_succ]
    refine wpAnyT_tail (i := 10) (o := { dst := some 9, op := Op.assign (Operand.const (Value.int IntKind.i64 0)), type := 35, pos := "seals.go:77", after := #[{ on := 9, ground := Ground.chain }, { on := 0, ground := Ground.phase }, { on := 1, ground := Ground.phase }, { on := 2, ground := Ground.phase }, { on := 3, ground := Ground.phase }, { on := 4, ground := Ground.phase }, { on := 5, ground := Ground.phase }, { on := 6, ground := Ground.phase }, { on := 7, ground := Ground.phase }, { on := 8, ground := Ground.phase }, { on := 9, ground := Ground.phase }], guard := none }) (by kernel_rfl) rfl (by rfl) (fun K hK => ?_)
    go_simp
    refine hK.out _ _ ?_
    clear hK K
    try simp only [Act.put, List.setIfInBounds_toArray, List.set_cons_zero, List.set_cons_succ]
    refine wpAnyT_done (by kernel_rfl) ?_ _
    go_wp2_with fail
    exact bodyPost_ret (v := .tuple #[.agg (slA ⟨t, f, nb, r⟩), .int .i64 0]) (results_row_tmp rfl _ _ w.heap.size 25 (slA ⟨t, f, nb, r⟩) (0, 0) _ _ rfl rfl hd9.out Tryd.underlying25 (by rfl) pi.out) rfl ⟨rfl, (hB3b.out.trans (HB.mono hB3b.out.size)).grown hg9.out (hB3b.out.trans (HB.mono hB3b.out.size)).size (fun k e => by have := Option.some.inj e; omega)⟩
  · rw [if_pos h1, he] at hO
    rw [if_neg (by rw [he]; decide), he]
    have pi := Lib.hid (sl_info (s := slZ) zero32_len)
    have po := Lib.hid (slA_one slZ)
    clear he h1 hnb hn hB hS hL hsl
    go_enter Tryd.func16, Tryd.ntmps16
    go_wp2_with fail
    refine (hO.out (w.alloc (.cells (slA slZ) 25)) hB1).mono ?_
    rintro e w2 ⟨rfl, hb2⟩
    have hr2 := (hb2.block w.heap.size (by simp)).trans hr1
    have hB2 := hB1.trans (hb2.mono hB1.size)
    have hB3 := hB2.alloc hB2.size (.cells #[.int .i64 0, .int .i64 0, .int .i64 0, .slice none 0 0, .slice none 0 0] 71)
    have hr3 := (Below.heap_alloc w2 (.cells #[.int .i64 0, .int .i64 0, .int .i64 0, .slice none 0 0, .slice none 0 0] 71) w.heap.size (by have := hb2.size; simp at this; omega)).trans hr2
    replace hB3 := Lib.hid hB3
    replace hr3 := Lib.hid hr3
    clear hb2 hr2 hB1 hr1 hs1 hB2
    go_wp2_with (first
      | (refine wpList_buildG (by rfl) 25 #[] (by rfl) (slA slZ) built_slZ ?_)
      | (refine wpList_set_row (by rfl) 25 (.tmp 8) (.tmp 21) (by rfl) (by rfl) w.heap.size (slA slZ) (by rfl) (by rfl) 25 _ hr3.out pi.out rfl po.out ?_; intro w6 hd6 hz6 hg6; replace hd6 := Lib.hid hd6; replace hg6 := Lib.hid hg6; clear hz6))
    exact bodyPost_ret (v := .tuple #[.agg (slA slZ), .int .i64 2]) (results_row_tmp rfl _ _ w.heap.size 25 (slA slZ) (0, 0) _ _ rfl rfl hd6.out Tryd.underlying25 (by rfl) pi.out) rfl ⟨rfl, hB3.out.grown hg6.out hB3.out.size (fun k e => by have := Option.some.inj e; omega)⟩
  · rw [if_neg h1, he] at hO
    rw [if_neg (by rw [he]; decide), he]
    have pi := Lib.hid (sl_info (s := slZ) zero32_len)
    have po := Lib.hid (slA_one slZ)
    clear he h1 hnb hn hB hS hL hsl
    go_enter Tryd.func16, Tryd.ntmps16
    go_wp2_with fail
    refine (hO.out (w.alloc (.cells (slA slZ) 25)) hB1).mono ?_
    rintro e w2 ⟨rfl, hb2⟩
    have hr2 := (hb2.block w.heap.size (by simp)).trans hr1
    have hB2 := hB1.trans (hb2.mono hB1.size)
    have hB3 := hB2.alloc hB2.size (.cells #[.int .i64 t, .int .i64 f, .int .i64 ns, .slice B nb cb, .slice S ns c] 71)
    have hr3 := (Below.heap_alloc w2 (.cells #[.int .i64 t, .int .i64 f, .int .i64 ns, .slice B nb cb, .slice S ns c] 71) w.heap.size (by have := hb2.size; simp at this; omega)).trans hr2
    replace hB3 := Lib.hid hB3
    replace hr3 := Lib.hid hr3
    clear hb2 hr2 hB1 hr1 hs1 hB2
    go_wp2_with (first
      | (refine wpList_buildG (by rfl) 25 #[] (by rfl) (slA slZ) built_slZ ?_)
      | (refine wpList_set_row (by rfl) 25 (.tmp 8) (.tmp 21) (by rfl) (by rfl) w.heap.size (slA slZ) (by rfl) (by rfl) 25 _ hr3.out pi.out rfl po.out ?_; intro w6 hd6 hz6 hg6; replace hd6 := Lib.hid hd6; replace hg6 := Lib.hid hg6; clear hz6))
    exact bodyPost_ret (v := .tuple #[.agg (slA slZ), .int .i64 390]) (results_row_tmp rfl _ _ w.heap.size 25 (slA slZ) (0, 0) _ _ rfl rfl hd6.out Tryd.underlying25 (by rfl) pi.out) rfl ⟨rfl, hB3.out.grown hg6.out hB3.out.size (fun k e => by have := Option.some.inj e; omega)⟩
end Go.Proofs.YtnccbhndlnkboaaDoor
/- The walk of seals.Open. -/
namespace Go.Proofs.YtnccbhndlnkboaaDoor
open Go.RowKit Go.Shelf Cdc Sha
set_option linter.unusedVariables false
set_option linter.unusedSimpArgs false

def opA (o : Op) (P : Option Addr) (cp : Nat) : Array Value := #[.int .i64 o.day, .int .i64 o.salt, .bool o.bl, .slice P o.path.length cp]
def opZ : Op := ⟨0, 0, false, []⟩
/-- what Open answers -/
def opnE (t f : Int) (nb ns : Nat) (sl : List Int) (d : Int) : Int := if opE t f nb ns sl = 0 then (if hasB f ns d = true then 0 else 1) else opE t f nb ns sl
def opnO (t f : Int) (nb ns : Nat) (bl : List Bool) (sl : List Int) (d : Int) : Op := if opnE t f nb ns sl d = 0 then ⟨d, sl.getD (d - f).toNat 0, bl.getD (d - f).toNat false, pathM ((lvs t f bl sl).map lfD) (d - f).toNat⟩ else opZ
def OpnC (t f : Int) (nb ns : Nat) (bl : List Bool) (sl : List Int) (d : Int) (w : World) (e : Ending) (w' : World) : Prop := ∃ (P : Option Addr) (cp : Nat), e = .returned (.tuple #[.agg (opA (opnO t f nb ns bl sl d) P cp), .int .i64 (opnE t f nb ns sl d)]) ∧ (opnO t f nb ns bl sl d).path.length ≤ cp ∧ DsAt w' P (opnO t f nb ns bl sl d).path ∧ Below w.heap.size w w'
theorem opZ_ds (w : World) : DsAt w none opZ.path := fun j d h => by simp [opZ] at h
def opZA : Array Value := #[.int .i64 0, .int .i64 0, .bool false, .slice none 0 0]
theorem built_opZ : Tryd.prog.built 33 [] = some opZA := by kernel_rfl
theorem built_op (d y : Int) (b : Bool) : Tryd.prog.built 33 [(0, .int .i64 d), (1, .int .i64 y), (2, .bool b)] = some #[.int .i64 d, .int .i64 y, .bool b, .slice none 0 0] := by kernel_rfl
theorem set4 (w : World) (g : Nat) (a b c d a0 b0 c0 d0 : Value) (t : TypeId) (h : w.heap[g]? = some (.cells #[a0, b0, c0, d0] t (0, 0))) :
    ((((w.setCell ⟨g, 0, none⟩ a).setCell ⟨g, 1, none⟩ b).setCell ⟨g, 2, none⟩ c).setCell ⟨g, 3, none⟩ d).heap[g]? = some (.cells #[a, b, c, d] t (0, 0)) ∧ w.grownBy ((((w.setCell ⟨g, 0, none⟩ a).setCell ⟨g, 1, none⟩ b).setCell ⟨g, 2, none⟩ c).setCell ⟨g, 3, none⟩ d) (some g) := by
  refine ⟨?_, ?_⟩
  · have h1 := heap_setCell_same _ g 3 _ _ d (heap_setCell_same _ g 2 _ _ c (heap_setCell_same _ g 1 _ _ b (heap_setCell_same w g 0 _ _ a h)))
    rw [h1]
    rfl
  · exact grown_trans (grown_trans (grown_trans (setCell_grown _ g 0 a) (setCell_grown _ g 1 b)) (setCell_grown _ g 2 c)) (setCell_grown _ g 3 d)
theorem ds_grown {w w' : World} {A : Option Addr} {l : List (List UInt8)} {g : Nat} {a b : Int} {c : Bool} {P : Option Addr} {m n : Nat} {t : TypeId} {fr : Nat × Nat} (h : DsAt w A l) (hd : w.heap[g]? = some (.cells #[.int .i64 a, .int .i64 b, .bool c, .slice P m n] t fr)) (hg : w.grownBy w' (some g)) : DsAt w' A l := fun i x hi => by
  obtain ⟨b', o, hA, hlt, hr⟩ := h i x hi
  refine ⟨b', o, hA, Nat.lt_of_lt_of_le hlt hg.size, fun j v hj => ?_⟩
  have hc := hr j v hj
  by_cases hbg : b' = g
  · subst hbg
    exfalso
    rw [cell_of_row _ _ _ _ _ _ hd] at hc
    obtain ⟨y, _, rfl⟩ := List.mem_map.1 (List.mem_of_getElem? hj)
    generalize o + i * 32 + j = k at hc
    match k, hc with
    | 0, hc => simp [by1] at hc
    | 1, hc => simp [by1] at hc
    | 2, hc => simp [by1] at hc
    | 3, hc => simp [by1] at hc
    | k + 4, hc => simp at hc
  · exact (World.cell?_of_block (w := w) (a := ⟨b', o + i * 32 + j, none⟩) (hg.block b' hlt (fun e => hbg (Option.some.inj e)))).trans hc
theorem op_info : (Tryd.prog.info? 33).map (·.size) = some 4 := by kernel_rfl

set_option maxRecDepth 100000 in
set_option maxHeartbeats 4000000 in
theorem sopen_any (t f : Int) (bl : List Bool) (sl : List Int) (nb ns cb c : Nat) (B S : Option Addr) (hnb : bl.length = nb) (hn : sl.length = ns) (hcb : nb ≤ cb) (hc : ns ≤ c) (hxb : nb ≤ maxLen) (hxs : ns ≤ maxLen) (ht : I64 t) (hsl : ∀ x ∈ sl, I64 x) (d : Int) (hdI : I64 d) (w : World) (hB : BoAt w B bl) (hS : InAt w S sl) (hL : Laid w) :
    Calls Tryd.prog 18 #[.int .i64 t, .int .i64 f, .slice B nb cb, .slice S ns c, .int .i64 d] w (OpnC t f nb ns bl sl d w) := by
  have hO : Hid (∀ V, Below w.heap.size w V → Calls Tryd.prog 33 #[.int .i64 t, .int .i64 f, .slice B nb cb, .slice S ns c] V fun e w' => e = .returned (.tuple #[.agg (if 512 < nb ∨ 512 < ns then #[.int .i64 0, .int .i64 0, .int .i64 0, .slice none 0 0, .slice none 0 0] else #[.int .i64 t, .int .i64 f, .int .i64 ns, .slice B nb cb, .slice S ns c]), .int .i64 (opE t f nb ns sl)]) ∧ Below V.heap.size V w') := Lib.hid fun V hV => open_any t f nb ns cb c B S sl hn hc hxb hxs V (hS.below hV)
  have hB1 : Below w.heap.size w (w.alloc (.cells opZA 33)) := (Below.refl _ _).alloc (Nat.le_refl _) _
  have hr1 := heap_alloc_new w (.cells opZA 33)
  have hs1 : (w.alloc (.cells opZA 33)).heap.size = w.heap.size + 1 := by simp
  unfold OpnC opnO
  rcases opE_cases t f nb ns sl with ⟨he, h1, h2, h3, h4⟩ | ⟨he, h1⟩ | ⟨he, h1⟩
  · rw [if_neg h1, he] at hO
    have hen : opnE t f nb ns sl d = if hasB f ns d = true then 0 else 1 := if_pos he
    subst h2
    have hd : 0 ≤ f ∧ f ≤ 73048 ∧ nb ≤ 512 ∧ 1 ≤ nb := by have := of_decide_eq_true h3; omega
    have hH : Hid (∀ V, Calls Tryd.prog 39 #[.agg #[.int .i64 t, .int .i64 f, .int .i64 nb], .int .i64 d] V fun e w' => e = .returned (.bool (hasB f nb d)) ∧ Below V.heap.size V w') := Lib.hid fun V => has_any t f nb d hd.1 hdI.2 V
    by_cases hh : hasB f nb d = true
    · rw [hen, if_pos hh, if_pos rfl]
      rw [hh] at hH
      have hh2 : f ≤ d ∧ d - f < nb := of_decide_eq_true hh
      obtain ⟨i, hi⟩ : ∃ i : Nat, d - f = (i : Int) := ⟨(d - f).toNat, by omega⟩
      have hin : i < nb := by omega
      have hii : (d - f).toNat = i := by omega
      rw [hii]
      obtain ⟨b, hb⟩ : ∃ b, bl[i]? = some b := ⟨_, List.getElem?_eq_getElem (by rw [hnb]; omega)⟩
      obtain ⟨y, hy⟩ : ∃ y, sl[i]? = some y := ⟨_, List.getElem?_eq_getElem (by rw [hn]; omega)⟩
      rw [List.getD_eq_getElem?_getD, List.getD_eq_getElem?_getD, hb, hy, Option.getD_some, Option.getD_some]
      have hN : Hid (∀ V, Below w.heap.size w V → Calls Tryd.prog 35 #[.agg #[.int .i64 t, .int .i64 f, .int .i64 nb, .slice B nb cb, .slice S nb c]] V fun e w' => ∃ (A : Option Addr) (c' : Nat), e = .returned (.slice A nb c') ∧ LvAt w' A (lvs t f bl sl) ∧ Below V.heap.size V w') := Lib.hid fun V hV => leaves_any t f nb bl sl cb nb c B S (hnb.trans hn.symm) hn hcb hc hd.2.2.1 ht hd.1 (by omega) hsl V (hB.below hV) (hS.below hV)
      have hsm : ∀ x ∈ lvs t f bl sl, x.length ≤ 1000000 := fun x hx => by
        obtain ⟨i, hi⟩ := List.getElem?_of_mem hx
        have hlt : i < sl.length := by have := (List.getElem?_eq_some_iff.1 hi).1; rw [lvs_len (hnb.trans hn.symm)] at this; exact this
        obtain ⟨b, hb⟩ : ∃ b, bl[i]? = some b := ⟨_, List.getElem?_eq_getElem (by rw [hnb]; omega)⟩
        obtain ⟨y, hy⟩ : ∃ y, sl[i]? = some y := ⟨_, List.getElem?_eq_getElem hlt⟩
        rw [lvs_at hb hy] at hi
        obtain rfl := Option.some.inj hi
        have := (leaf_sm (b := b) ht (d := f + (i : Int)) ⟨by omega, by omega⟩ (hsl y (List.mem_of_getElem? hy))).2
        omega
      have hZ : Hid (∀ V A c', Below w.heap.size w V → LvAt V A (lvs t f bl sl) → Calls Tryd.prog 40 #[.slice A nb c', .int .i64 (i : Int)] V fun e w' => ∃ (A' : Option Addr) (c' : Nat), e = .returned (.tuple #[.slice A' (pathM ((lvs t f bl sl).map lfD) i).length c', .int .i64 0]) ∧ (pathM ((lvs t f bl sl).map lfD) i).length ≤ c' ∧ DsAt w' A' (pathM ((lvs t f bl sl).map lfD) i) ∧ Below V.heap.size V w') := Lib.hid fun V A c' hV hA => mprove_any (lvs t f bl sl) nb i A c' V ((lvs_len (hnb.trans hn.symm)).trans hn) hin (by omega) hA hsm (hL.below hV)
      obtain ⟨p, hp⟩ : ∃ p, pathM ((lvs t f bl sl).map lfD) i = p := ⟨_, rfl⟩
      rw [hp] at hZ ⊢
      obtain ⟨X, hX⟩ : ∃ X, lvs t f bl sl = X := ⟨_, rfl⟩
      rw [hX] at hN hZ
      obtain ⟨q, hq⟩ : ∃ q, p.length = q := ⟨_, rfl⟩
      rw [hq] at hZ
      replace hq := Lib.hid hq
      obtain ⟨g, o, rfl, hcb0⟩ := hB i b hb
      obtain ⟨g', o', rfl, hcs0⟩ := hS i y hy
      have hwi : IntKind.i64.wrap (d - f) = (i : Int) := hi ▸ IntWalk.i64_in _ (by omega)
      have hcl : Hid (∀ V, Below w.heap.size w V → V.cell? ⟨g, o + i, none⟩ = some (.bool b) ∧ V.cell? ⟨g', o' + i, none⟩ = some (.int .i64 y)) := Lib.hid fun V hV => ⟨(hV.cell (p := ⟨g, o + i, none⟩) (World.block_lt_of_cell? w _ hcb0)).trans hcb0, (hV.cell (p := ⟨g', o' + i, none⟩) (World.block_lt_of_cell? w _ hcs0)).trans hcs0⟩
      have k1 : (i : Int) < (nb : Int) := by omega
      have pb := Lib.hid (built_op d y b)
      clear hp hX hsm he h1 h3 h4 hnb hn hB hS hL hsl hb hy hcb0 hcs0 hen hi hh hh2 hii hdI hxb hxs
      go_enter Tryd.func18, Tryd.ntmps18
      go_wp2_with fail
      refine (hO.out (w.alloc (.cells opZA 33)) hB1).mono ?_
      rintro e w2 ⟨rfl, hb2⟩
      have hr2 := (hb2.block w.heap.size (by simp)).trans hr1
      have hB2 := hB1.trans (hb2.mono hB1.size)
      have hn3 := heap_alloc_new w2 (.cells #[.int .i64 t, .int .i64 f, .int .i64 nb, .slice (some ⟨g, o, none⟩) nb cb, .slice (some ⟨g', o', none⟩) nb c] 71)
      have hB3 := hB2.alloc hB2.size (.cells #[.int .i64 t, .int .i64 f, .int .i64 nb, .slice (some ⟨g, o, none⟩) nb cb, .slice (some ⟨g', o', none⟩) nb c] 71)
      have hr3 := (Below.heap_alloc w2 (.cells #[.int .i64 t, .int .i64 f, .int .i64 nb, .slice (some ⟨g, o, none⟩) nb cb, .slice (some ⟨g', o', none⟩) nb c] 71) w.heap.size (by have := hb2.size; simp at this; omega)).trans hr2
      have hz3 : (w2.alloc (.cells #[.int .i64 t, .int .i64 f, .int .i64 nb, .slice (some ⟨g, o, none⟩) nb cb, .slice (some ⟨g', o', none⟩) nb c] 71)).heap.size = w2.heap.size + 1 := by simp
      have hlt : w.heap.size < w2.heap.size := by have := hb2.size; simp at this; omega
      clear hb2 hr2 hB1 hr1 hs1
      have hcells : Hid (∀ V, Below (w2.alloc (.cells #[.int .i64 t, .int .i64 f, .int .i64 nb, .slice (some ⟨g, o, none⟩) nb cb, .slice (some ⟨g', o', none⟩) nb c] 71)).heap.size (w2.alloc (.cells #[.int .i64 t, .int .i64 f, .int .i64 nb, .slice (some ⟨g, o, none⟩) nb cb, .slice (some ⟨g', o', none⟩) nb c] 71)) V → V.heap[w.heap.size]? = some (.cells opZA 33 (0, 0)) ∧ V.heap[w2.heap.size]? = some (.cells #[.int .i64 t, .int .i64 f, .int .i64 nb, .slice (some ⟨g, o, none⟩) nb cb, .slice (some ⟨g', o', none⟩) nb c] 71 (0, 0))) := Lib.hid fun V hV => ⟨(hV.block w.heap.size (by rw [hz3]; omega)).trans hr3, (hV.block w2.heap.size (by rw [hz3]; omega)).trans hn3⟩
      have hB3b := Lib.hid hB3
      replace hlt := Lib.hid hlt
      clear hn3 hr3 hz3 hB3 hB2
      go_wp2_with fail
      generalize w2.alloc (.cells #[.int .i64 t, .int .i64 f, .int .i64 nb, .slice (some ⟨g, o, none⟩) nb cb, .slice (some ⟨g', o', none⟩) nb c] 71) = W3 at *
      refine (hH.out _).mono ?_
      rintro e w4 ⟨rfl, hb4⟩
      have hB4 := Lib.hid (hB3b.out.trans (hb4.mono hB3b.out.size))
      have hcells4 := Lib.hid (hcells.out _ hb4)
      clear hcells hb4 hB3b
      go_wp2_with fail
      have HB := Below.refl w4.heap.size w4
      replace HB := HB.drew
      refine wp_region_T 10 (fun w' => w'.cell? ⟨g, o + i, none⟩ = some (.bool b) ∧ w'.cell? ⟨g', o' + i, none⟩ = some (.int .i64 y)) (by kernel_rfl) (by exact ⟨(hcl.out _ (hB4.out.trans (HB.mono hB4.out.size))).1, (hcl.out _ (hB4.out.trans (HB.mono hB4.out.size))).2⟩) (fun hHeld => ?_)
      refine wpAnyT_take (i := 0) (oi := { dst := some 35, op := Op.move (Operand.tmp 4), type := 3, pos := "seals.go:90", after := #[], guard := none }) (v := ?_) rfl (by kernel_rfl) (by kernel_rfl) (by kernel_rfl) (by kernel_rfl) (fun _ _ _ h => h) (Or.inl ⟨by rfl, ?hy0⟩) hHeld ?rest0
      case hy0 =>
        intro w hSw
        try dsimp only at hSw
        go_simp
        try with_reducible rfl
      try simp only [Act.put, List.setIfInBounds_toArray, List.set_cons_zero, List.set_cons_succ]
      refine wpAnyT_take (i := 1) (oi := { dst := some 36, op := Op.move (Operand.tmp 3), type := 40, pos := "seals.go:90", after := #[], guard := none }) (v := ?_) rfl (by kernel_rfl) (by kernel_rfl) (by kernel_rfl) (by kernel_rfl) (fun _ _ _ h => h) (Or.inl ⟨by rfl, ?hy1⟩) hHeld ?rest1
      case hy1 =>
        intro w hSw
        try dsimp only at hSw
        go_simp
        try with_reducible rfl
      try simp only [Act.put, List.setIfInBounds_toArray, List.set_cons_zero, List.set_cons_succ]
      refine wpAnyT_take (i := 2) (oi := { dst := some 37, op := Op.move (Operand.tmp 13), type := 3, pos := "seals.go:90", after := #[], guard := none }) (v := ?_) rfl (by kernel_rfl) (by kernel_rfl) (by kernel_rfl) (by kernel_rfl) (fun _ _ _ h => h) (Or.inl ⟨by rfl, ?hy2⟩) hHeld ?rest2
      case hy2 =>
        intro w hSw
        try dsimp only at hSw
        go_simp
        try with_reducible rfl
      try simp only [Act.put, List.setIfInBounds_toArray, List.set_cons_zero, List.set_cons_succ]
      refine wpAnyT_take (i := 3) (oi := { dst := some 38, op := Op.indexAddr 40 (Operand.tmp 36) (Operand.tmp 37), type := 0, pos := "seals.go:90", after := #[{ on := 1, ground := Ground.data }, { on := 2, ground := Ground.data }], guard := none }) (v := ?_) rfl (by kernel_rfl) (by kernel_rfl) (by kernel_rfl) (by kernel_rfl) (fun _ _ _ h => h) (Or.inl ⟨by rfl, ?hy3⟩) hHeld ?rest3
      case hy3 =>
        intro w hSw
        try dsimp only at hSw
        go_simp
        try with_reducible rfl
      try simp only [Act.put, List.setIfInBounds_toArray, List.set_cons_zero, List.set_cons_succ]
      refine wpAnyT_take (i := 4) (oi := { dst := some 39, op := Op.load 3 (Operand.tmp 38), type := 3, pos := "seals.go:90", after := #[{ on := 3, ground := Ground.data }], guard := none }) (v := ?_) rfl (by kernel_rfl) (by kernel_rfl) (by kernel_rfl) (by kernel_rfl) (fun _ _ _ h => h) (Or.inl ⟨by rfl, ?hy4⟩) hHeld ?rest4
      case hy4 =>
        intro w hSw
        try dsimp only at hSw
        go_simp
        try with_reducible rfl
      try simp only [Act.put, List.setIfInBounds_toArray, List.set_cons_zero, List.set_cons_succ]
      refine wpAnyT_take (i := 5) (oi := { dst := some 40, op := Op.move (Operand.tmp 2), type := 39, pos := "seals.go:90", after := #[], guard := none }) (v := ?_) rfl (by kernel_rfl) (by kernel_rfl) (by kernel_rfl) (by kernel_rfl) (fun _ _ _ h => h) (Or.inl ⟨by rfl, ?hy5⟩) hHeld ?rest5
      case hy5 =>
        intro w hSw
        try dsimp only at hSw
        go_simp
        try with_reducible rfl
      try simp only [Act.put, List.setIfInBounds_toArray, List.set_cons_zero, List.set_cons_succ]
      refine wpAnyT_take (i := 6) (oi := { dst := some 41, op := Op.move (Operand.tmp 13), type := 3, pos := "seals.go:90", after := #[], guard := none }) (v := ?_) rfl (by kernel_rfl) (by kernel_rfl) (by kernel_rfl) (by kernel_rfl) (fun _ _ _ h => h) (Or.inl ⟨by rfl, ?hy6⟩) hHeld ?rest6
      case hy6 =>
        intro w hSw
        try dsimp only at hSw
        go_simp
        try with_reducible rfl
      try simp only [Act.put, List.setIfInBounds_toArray, List.set_cons_zero, List.set_cons_succ]
      refine wpAnyT_take (i := 7) (oi := { dst := some 42, op := Op.indexAddr 39 (Operand.tmp 40) (Operand.tmp 41), type := 0, pos := "seals.go:90", after := #[{ on := 5, ground := Ground.data }, { on := 6, ground := Ground.data }], guard := none }) (v := ?_) rfl (by kernel_rfl) (by kernel_rfl) (by kernel_rfl) (by kernel_rfl) (fun _ _ _ h => h) (Or.inl ⟨by rfl, ?hy7⟩) hHeld ?rest7
      case hy7 =>
        intro w hSw
        try dsimp only at hSw
        go_simp
        try with_reducible rfl
      try simp only [Act.put, List.setIfInBounds_toArray, List.set_cons_zero, List.set_cons_succ]
      refine wpAnyT_take (i := 8) (oi := { dst := some 43, op := Op.load 4 (Operand.tmp 42), type := 4, pos := "seals.go:90", after := #[{ on := 7, ground := Ground.data }], guard := none }) (v := ?_) rfl (by kernel_rfl) (by kernel_rfl) (by kernel_rfl) (by kernel_rfl) (fun _ _ _ h => h) (Or.inl ⟨by rfl, ?hy8⟩) hHeld ?rest8
      case hy8 =>
        intro w hSw
        try dsimp only at hSw
        go_simp
        try with_reducible rfl
      try simp only [Act.put, List.setIfInBounds_toArray, List.set_cons_zero, List.set_cons_succ]
      refine wpAnyT_one (i := 9) (o := { dst := some 44, op := Op.build 33 #[(0, Operand.tmp 35), (1, Operand.tmp 39), (2, Operand.tmp 43)], type := 33, pos := "seals.go:90", after := #[{ on := 0, ground := Ground.data }, { on := 4, ground := Ground.data }, { on := 8, ground := Ground.data }], guard := none }) (by kernel_rfl) rfl (fun K hK => ?_)
      refine step_buildS (by rfl) 33 #[(0, .tmp 35), (1, .tmp 39), (2, .tmp 43)] (by rfl) #[.int .i64 d, .int .i64 y, .bool b, .slice none 0 0] (by simp only [List.map_toArray, List.map_cons, List.map_nil]; exact pb.out) ?_
      refine hK.out _ _ (by exact ⟨(hcl.out _ (hB4.out.trans (HB.mono hB4.out.size))).1, (hcl.out _ (hB4.out.trans (HB.mono hB4.out.size))).2⟩) (fun hHeld' => ?_)
      clear hK K hHeld
      have hHeld := hHeld'
      clear hHeld'
      try simp only [Act.put, List.setIfInBounds_toArray, List.set_cons_zero, List.set_cons_succ]
      refine wpAnyT_tail (i := 10) (o := { dst := none, op := Op.store 33 (Operand.tmp 10) (Operand.tmp 44), type := 0, pos := "seals.go:90", after := #[{ on := 9, ground := Ground.data }, { on := 0, ground := Ground.phase }, { on := 1, ground := Ground.phase }, { on := 2, ground := Ground.phase }, { on := 3, ground := Ground.phase }, { on := 4, ground := Ground.phase }, { on := 5, ground := Ground.phase }, { on := 6, ground := Ground.phase }, { on := 7, ground := Ground.phase }, { on := 8, ground := Ground.phase }, { on := 9, ground := Ground.phase }], guard := none }) (by kernel_rfl) rfl (by rfl) (fun K hK => ?_)
      rw [if_pos (by rfl)]
      refine wp_set_row 33 (.tmp 10) (.tmp 44) (by rfl) (by rfl) w.heap.size #[.int .i64 d, .int .i64 y, .bool b, .slice none 0 0] (by rfl) (by rfl) 33 _ hcells4.out.1 op_info (by rfl) (by simp [Value.oneCell']) ?_
      intro w9 hd9 hz9 hg9
      refine hK.out _ _ ?_
      clear hK K
      try simp only [Act.put, List.setIfInBounds_toArray, List.set_cons_zero, List.set_cons_succ]
      refine wpAnyT_done (by kernel_rfl) ?_ _
      have hB9 := hB4.out.drew
      have hB7 := Lib.hid (hB9.grown hg9 hB9.size (fun k e => by have := Option.some.inj e; omega))
      have hs7 := (hg9.block w2.heap.size (Array.getElem?_eq_some_iff.1 hcells4.out.2).1 (fun e => by have := Option.some.inj e; have := hlt.out; omega)).trans hcells4.out.2
      have x0 : w9.cell? ⟨w2.heap.size, 0, none⟩ = some (.int .i64 t) := by rw [cell_of_row _ _ _ _ _ _ hs7]; rfl
      have x1 : w9.cell? ⟨w2.heap.size, 1, none⟩ = some (.int .i64 f) := by rw [cell_of_row _ _ _ _ _ _ hs7]; rfl
      have x2 : w9.cell? ⟨w2.heap.size, 2, none⟩ = some (.int .i64 nb) := by rw [cell_of_row _ _ _ _ _ _ hs7]; rfl
      have x3 : w9.cell? ⟨w2.heap.size, 3, none⟩ = some (.slice (some ⟨g, o, none⟩) nb cb) := by rw [cell_of_row _ _ _ _ _ _ hs7]; rfl
      have x4 : w9.cell? ⟨w2.heap.size, 4, none⟩ = some (.slice (some ⟨g', o', none⟩) nb c) := by rw [cell_of_row _ _ _ _ _ _ hs7]; rfl
      replace hd9 := Lib.hid hd9
      clear hs7 hg9 hB9 hB4 hcells4 hcl hO hH
      go_wp2_with fail
      refine (hN.out _ hB7.out).mono ?_
      rintro e w10 ⟨A10, c10, rfl, h10, hb10⟩
      have hB10 := Lib.hid (hB7.out.trans (hb10.mono hB7.out.size))
      have hd10 := Lib.hid ((hb10.block w.heap.size (Array.getElem?_eq_some_iff.1 hd9.out).1).trans hd9.out)
      clear x0 x1 x2 x3 x4 hb10 hd9 hB7 hN
      replace h10 := Lib.hid h10
      go_wp2_with fail
      refine (hZ.out _ _ _ hB10.out h10.out).mono ?_
      rintro e w11 ⟨A11, c11, rfl, hc11, h11, hb11⟩
      have hB11 := Lib.hid (hB10.out.trans (hb11.mono hB10.out.size))
      have hd11 := ((hb11.block w.heap.size (Array.getElem?_eq_some_iff.1 hd10.out).1).trans hd10.out)
      have x0 : w11.cell? ⟨w.heap.size, 0, none⟩ = some (.int .i64 d) := by rw [cell_of_row _ _ _ _ _ _ hd11]; rfl
      have x1 : w11.cell? ⟨w.heap.size, 1, none⟩ = some (.int .i64 y) := by rw [cell_of_row _ _ _ _ _ _ hd11]; rfl
      have x2 : w11.cell? ⟨w.heap.size, 2, none⟩ = some (.bool b) := by rw [cell_of_row _ _ _ _ _ _ hd11]; rfl
      have x3 : w11.cell? ⟨w.heap.size, 3, none⟩ = some (.slice none 0 0) := by rw [cell_of_row _ _ _ _ _ _ hd11]; rfl
      have f0 := frozen_of_row w11 w.heap.size 0 _ _ hd11
      have f1 := frozen_of_row w11 w.heap.size 1 _ _ hd11
      have f2 := frozen_of_row w11 w.heap.size 2 _ _ hd11
      have f3 := frozen_of_row w11 w.heap.size 3 _ _ hd11
      replace h11 := Lib.hid h11
      replace hd11 := Lib.hid hd11
      clear hb11 hd10 hB10 h10 hZ
      go_wp2_with fail
      have h3a := heap_setCell_same w11 w.heap.size 3 _ _ (.slice A11 q c11) hd11.out
      obtain ⟨h4a, h4b⟩ := set4 (w11.setCell ⟨w.heap.size, 3, none⟩ (.slice A11 q c11)) w.heap.size (.int .i64 d) (.int .i64 y) (.bool b) (.slice A11 q c11) _ _ _ _ _ h3a
      have hg12 := grown_trans (setCell_grown w11 w.heap.size 3 (.slice A11 q c11)) h4b
      have hne : ∀ k, some w.heap.size = some k → w.heap.size ≤ k := fun k e => by have := Option.some.inj e; omega
      have hds12 := ds_grown h11.out hd11.out hg12
      refine bodyPost_ret (v := .tuple #[.agg (opA ⟨d, y, b, p⟩ A11 c11), .int .i64 0]) (results_row_tmp rfl _ _ w.heap.size 33 (opA ⟨d, y, b, p⟩ A11 c11) (0, 0) _ _ rfl rfl (by rw [h4a, opA, hq.out]) Tryd.underlying33 (by rfl) op_info) rfl ⟨A11, c11, rfl, by rw [hq.out]; exact hc11, hds12, hB11.out.grown hg12 hB11.out.size hne⟩
    · have hh : hasB f nb d = false := by simpa using hh
      rw [hen, if_neg (show ¬ hasB f nb d = true by rw [hh]; exact Bool.false_ne_true), if_neg (by decide)]
      rw [hh] at hH
      have po : opZA.all (·.oneCell') = true := by simp [opZA, Value.oneCell']
      replace po := Lib.hid po
      clear hen he h1 h3 h4 hnb hn hB hS hL hsl hh
      go_enter Tryd.func18, Tryd.ntmps18
      go_wp2_with fail
      refine (hO.out (w.alloc (.cells opZA 33)) hB1).mono ?_
      rintro e w2 ⟨rfl, hb2⟩
      have hr2 := (hb2.block w.heap.size (by simp)).trans hr1
      have hB2 := hB1.trans (hb2.mono hB1.size)
      have hB3 := hB2.alloc hB2.size (.cells #[.int .i64 t, .int .i64 f, .int .i64 nb, .slice B nb cb, .slice S nb c] 71)
      have hr3 := (Below.heap_alloc w2 (.cells #[.int .i64 t, .int .i64 f, .int .i64 nb, .slice B nb cb, .slice S nb c] 71) w.heap.size (by have := hb2.size; simp at this; omega)).trans hr2
      clear hb2 hr2 hB1 hr1 hs1 hB2
      go_wp2_with fail
      generalize w2.alloc (.cells #[.int .i64 t, .int .i64 f, .int .i64 nb, .slice B nb cb, .slice S nb c] 71) = W3 at *
      refine (hH.out _).mono ?_
      rintro e w4 ⟨rfl, hb4⟩
      have hB4 := Lib.hid (hB3.trans (hb4.mono hB3.size))
      have hr4 := Lib.hid ((hb4.block w.heap.size (Array.getElem?_eq_some_iff.1 hr3).1).trans hr3)
      clear hb4 hr3 hB3
      go_wp2_with (first
        | (refine wpList_buildG (by rfl) 33 #[] (by rfl) opZA built_opZ ?_)
        | (refine wpList_set_row (by rfl) 33 (.tmp 10) (.tmp 31) (by rfl) (by rfl) w.heap.size opZA (by rfl) (by rfl) 33 _ hr4.out op_info rfl po.out ?_; intro w6 hd6 hz6 hg6; replace hd6 := Lib.hid hd6; replace hg6 := Lib.hid hg6; clear hz6))
      exact bodyPost_ret (v := .tuple #[.agg opZA, .int .i64 1]) (results_row_tmp rfl _ _ w.heap.size 33 opZA (0, 0) _ _ rfl rfl hd6.out Tryd.underlying33 (by rfl) op_info) rfl ⟨none, 0, rfl, Nat.le_refl _, opZ_ds _, hB4.out.grown hg6.out hB4.out.size (fun k e => by have := Option.some.inj e; omega)⟩
  · rw [if_pos h1, he] at hO
    have hen : opnE t f nb ns sl d = 2 := by rw [opnE, if_neg (by rw [he]; decide), he]
    rw [hen, if_neg (by decide)]
    have po : opZA.all (·.oneCell') = true := by simp [opZA, Value.oneCell']
    replace po := Lib.hid po
    clear hen he h1 hnb hn hB hS hL hsl
    go_enter Tryd.func18, Tryd.ntmps18
    go_wp2_with fail
    refine (hO.out (w.alloc (.cells opZA 33)) hB1).mono ?_
    rintro e w2 ⟨rfl, hb2⟩
    have hr2 := (hb2.block w.heap.size (by simp)).trans hr1
    have hB2 := hB1.trans (hb2.mono hB1.size)
    have hB3 := hB2.alloc hB2.size (.cells #[.int .i64 0, .int .i64 0, .int .i64 0, .slice none 0 0, .slice none 0 0] 71)
    have hr3 := (Below.heap_alloc w2 (.cells #[.int .i64 0, .int .i64 0, .int .i64 0, .slice none 0 0, .slice none 0 0] 71) w.heap.size (by have := hb2.size; simp at this; omega)).trans hr2
    replace hB3 := Lib.hid hB3
    replace hr3 := Lib.hid hr3
    clear hb2 hr2 hB1 hr1 hs1 hB2
    go_wp2_with (first
      | (refine wpList_buildG (by rfl) 33 #[] (by rfl) opZA built_opZ ?_)
      | (refine wpList_set_row (by rfl) 33 (.tmp 10) (.tmp 24) (by rfl) (by rfl) w.heap.size opZA (by rfl) (by rfl) 33 _ hr3.out op_info rfl po.out ?_; intro w6 hd6 hz6 hg6; replace hd6 := Lib.hid hd6; replace hg6 := Lib.hid hg6; clear hz6))
    exact bodyPost_ret (v := .tuple #[.agg opZA, .int .i64 2]) (results_row_tmp rfl _ _ w.heap.size 33 opZA (0, 0) _ _ rfl rfl hd6.out Tryd.underlying33 (by rfl) op_info) rfl ⟨none, 0, rfl, Nat.le_refl _, opZ_ds _, hB3.out.grown hg6.out hB3.out.size (fun k e => by have := Option.some.inj e; omega)⟩
  · rw [if_neg h1, he] at hO
    have hen : opnE t f nb ns sl d = 390 := by rw [opnE, if_neg (by rw [he]; decide), he]
    rw [hen, if_neg (by decide)]
    have po : opZA.all (·.oneCell') = true := by simp [opZA, Value.oneCell']
    replace po := Lib.hid po
    clear hen he h1 hnb hn hB hS hL hsl
    go_enter Tryd.func18, Tryd.ntmps18
    go_wp2_with fail
    refine (hO.out (w.alloc (.cells opZA 33)) hB1).mono ?_
    rintro e w2 ⟨rfl, hb2⟩
    have hr2 := (hb2.block w.heap.size (by simp)).trans hr1
    have hB2 := hB1.trans (hb2.mono hB1.size)
    have hB3 := hB2.alloc hB2.size (.cells #[.int .i64 t, .int .i64 f, .int .i64 ns, .slice B nb cb, .slice S ns c] 71)
    have hr3 := (Below.heap_alloc w2 (.cells #[.int .i64 t, .int .i64 f, .int .i64 ns, .slice B nb cb, .slice S ns c] 71) w.heap.size (by have := hb2.size; simp at this; omega)).trans hr2
    replace hB3 := Lib.hid hB3
    replace hr3 := Lib.hid hr3
    clear hb2 hr2 hB1 hr1 hs1 hB2
    go_wp2_with (first
      | (refine wpList_buildG (by rfl) 33 #[] (by rfl) opZA built_opZ ?_)
      | (refine wpList_set_row (by rfl) 33 (.tmp 10) (.tmp 24) (by rfl) (by rfl) w.heap.size opZA (by rfl) (by rfl) 33 _ hr3.out op_info rfl po.out ?_; intro w6 hd6 hz6 hg6; replace hd6 := Lib.hid hd6; replace hg6 := Lib.hid hg6; clear hz6))
    exact bodyPost_ret (v := .tuple #[.agg opZA, .int .i64 390]) (results_row_tmp rfl _ _ w.heap.size 33 opZA (0, 0) _ _ rfl rfl hd6.out Tryd.underlying33 (by rfl) op_info) rfl ⟨none, 0, rfl, Nat.le_refl _, opZ_ds _, hB3.out.grown hg6.out hB3.out.size (fun k e => by have := Option.some.inj e; omega)⟩
end Go.Proofs.YtnccbhndlnkboaaDoor
/- The walk of seals.Clash where there is no clash. -/
namespace Go.Proofs.YtnccbhndlnkboaaDoor
open Go.RowKit Go.Shelf Cdc Sha
set_option linter.unusedVariables false
set_option linter.unusedSimpArgs false

/-- two openings contradict each other -/
def clG (s : Sl) (a b : Op) : Bool := chkS s a && (chkS s b && (decide (a.day = b.day) && !(a.bl == b.bl && decide (a.salt = b.salt))))

theorem lenA (d y : Int) (b : Bool) (p : List (List UInt8)) (P : Option Addr) (cp : Nat) : opA ⟨d, y, b, p⟩ P cp = #[.int .i64 d, .int .i64 y, .bool b, .slice P p.length cp] := rfl

set_option maxRecDepth 100000 in
set_option maxHeartbeats 4000000 in
theorem sclash_no (s : Sl) (hs : SlI s) (a b : Op) (ha : OpI a) (hb : OpI b) (ka kb : Nat) (hka : a.path.length = ka) (hkb : b.path.length = kb) (P Q : Option Addr) (cp cq : Nat) (hcp : ka ≤ cp) (hcq : kb ≤ cq) (hksa : ka ≤ 1000000) (hksb : kb ≤ 1000000) (w : World) (hp : DsAt w P a.path) (hq : DsAt w Q b.path) (hL : Laid w) (hno : clG s a b = false) :
    Calls Tryd.prog 21 #[.agg (slA s), .agg #[.int .i64 a.day, .int .i64 a.salt, .bool a.bl, .slice P ka cp], .agg #[.int .i64 b.day, .int .i64 b.salt, .bool b.bl, .slice Q kb cq]] w fun e w' => e = .returned (.tuple #[.slice none 0 0, .slice none 0 0, .bool false]) ∧ Below w.heap.size w w' := by
  have hA : Hid (∀ V, Below w.heap.size w V → Calls Tryd.prog 23 #[.agg (slA s), .agg #[.int .i64 a.day, .int .i64 a.salt, .bool a.bl, .slice P ka cp]] V fun e w' => e = .returned (.bool (chkS s a)) ∧ Below V.heap.size V w') := Lib.hid fun V hV => scheck_any s hs a ha ka hka P cp hcp hksa V (hp.below hV) (hL.below hV)
  have hB : Hid (∀ V, Below w.heap.size w V → Calls Tryd.prog 23 #[.agg (slA s), .agg #[.int .i64 b.day, .int .i64 b.salt, .bool b.bl, .slice Q kb cq]] V fun e w' => e = .returned (.bool (chkS s b)) ∧ Below V.heap.size V w') := Lib.hid fun V hV => scheck_any s hs b hb kb hkb Q cq hcq hksb V (hq.below hV) (hL.below hV)
  have s1 := heap_alloc_new w (.cells (slA s) 25)
  have hB1 : Below w.heap.size w (((w.alloc (.cells (slA s) 25)).alloc (.cells #[.int .i64 a.day, .int .i64 a.salt, .bool a.bl, .slice P ka cp] 33)).alloc (.cells #[.int .i64 b.day, .int .i64 b.salt, .bool b.bl, .slice Q kb cq] 33)) := (((Below.refl _ _).alloc (Nat.le_refl _) _).alloc (by simp) _).alloc (by simp; omega) _
  have s2 := (Below.heap_alloc (w.alloc (.cells (slA s) 25)) (.cells #[.int .i64 a.day, .int .i64 a.salt, .bool a.bl, .slice P ka cp] 33) w.heap.size (by simp)).trans s1
  have s3 := (Below.heap_alloc ((w.alloc (.cells (slA s) 25)).alloc (.cells #[.int .i64 a.day, .int .i64 a.salt, .bool a.bl, .slice P ka cp] 33)) (.cells #[.int .i64 b.day, .int .i64 b.salt, .bool b.bl, .slice Q kb cq] 33) w.heap.size (by simp; omega)).trans s2
  have o2 := heap_alloc_new (w.alloc (.cells (slA s) 25)) (.cells #[.int .i64 a.day, .int .i64 a.salt, .bool a.bl, .slice P ka cp] 33)
  have o3 := (Below.heap_alloc ((w.alloc (.cells (slA s) 25)).alloc (.cells #[.int .i64 a.day, .int .i64 a.salt, .bool a.bl, .slice P ka cp] 33)) (.cells #[.int .i64 b.day, .int .i64 b.salt, .bool b.bl, .slice Q kb cq] 33) (w.alloc (.cells (slA s) 25)).heap.size (by simp)).trans o2
  have p3 := heap_alloc_new ((w.alloc (.cells (slA s) 25)).alloc (.cells #[.int .i64 a.day, .int .i64 a.salt, .bool a.bl, .slice P ka cp] 33)) (.cells #[.int .i64 b.day, .int .i64 b.salt, .bool b.bl, .slice Q kb cq] 33)
  simp only [World.size_alloc] at o2 o3 p3
  have hz3 : (((w.alloc (.cells (slA s) 25)).alloc (.cells #[.int .i64 a.day, .int .i64 a.salt, .bool a.bl, .slice P ka cp] 33)).alloc (.cells #[.int .i64 b.day, .int .i64 b.salt, .bool b.bl, .slice Q kb cq] 33)).heap.size = w.heap.size + 3 := by simp
  have pi := Lib.hid (sl_info hs.root)
  obtain ⟨W3, hW3⟩ : ∃ W3, W3 = (((w.alloc (.cells (slA s) 25)).alloc (.cells #[.int .i64 a.day, .int .i64 a.salt, .bool a.bl, .slice P ka cp] 33)).alloc (.cells #[.int .i64 b.day, .int .i64 b.salt, .bool b.bl, .slice Q kb cq] 33)) := ⟨_, rfl⟩
  have hcells : Hid (∀ V, Below W3.heap.size W3 V → (V.rangeAt w.heap.size 0 (slA s).toList) ∧ (V.cell? ⟨w.heap.size + 1, 0, none⟩ = some (.int .i64 a.day) ∧ V.cell? ⟨w.heap.size + 1, 1, none⟩ = some (.int .i64 a.salt) ∧ V.cell? ⟨w.heap.size + 1, 2, none⟩ = some (.bool a.bl) ∧ V.cell? ⟨w.heap.size + 1, 3, none⟩ = some (.slice P ka cp)) ∧
      (V.cell? ⟨w.heap.size + 1 + 1, 0, none⟩ = some (.int .i64 b.day) ∧ V.cell? ⟨w.heap.size + 1 + 1, 1, none⟩ = some (.int .i64 b.salt) ∧ V.cell? ⟨w.heap.size + 1 + 1, 2, none⟩ = some (.bool b.bl) ∧ V.cell? ⟨w.heap.size + 1 + 1, 3, none⟩ = some (.slice Q kb cq))) := Lib.hid fun V hV => by
    subst hW3
    have h1 := (hV.block w.heap.size (by rw [hz3]; omega)).trans s3
    have h2 := (hV.block (w.heap.size + 1) (by rw [hz3]; omega)).trans o3
    have h3 := (hV.block (w.heap.size + 1 + 1) (by rw [hz3]; omega)).trans p3
    refine ⟨fun j v hj => ?_, ⟨by rw [cell_of_row _ _ _ _ _ _ h2]; rfl, by rw [cell_of_row _ _ _ _ _ _ h2]; rfl, by rw [cell_of_row _ _ _ _ _ _ h2]; rfl, by rw [cell_of_row _ _ _ _ _ _ h2]; rfl⟩, ⟨by rw [cell_of_row _ _ _ _ _ _ h3]; rfl, by rw [cell_of_row _ _ _ _ _ _ h3]; rfl, by rw [cell_of_row _ _ _ _ _ _ h3]; rfl, by rw [cell_of_row _ _ _ _ _ _ h3]; rfl⟩⟩
    rw [cell_of_row _ _ _ _ _ _ h1, Nat.zero_add]
    simpa using hj
  rw [← hW3] at hB1
  clear s1 s2 s3 o2 o3 p3 hz3 ha hb hs hp hq hL
  unfold clG at hno
  have pil : Hid ((Tryd.prog.info? 25).map (·.size) = some (slC s).length) := Lib.hid (by have := pi.out; simpa [slA] using this)
  unfold slA at hW3 hA hB hcells ⊢
  obtain ⟨S, hS⟩ : ∃ S, slC s = S := ⟨_, rfl⟩
  rw [hS] at hW3 hA hB hcells pil ⊢
  have hl0 := (hcells.out _ (Below.refl _ _)).1
  rw [hW3] at hl0
  clear pi
  obtain ⟨ad, hx1⟩ : ∃ x, a.day = x := ⟨_, rfl⟩
  obtain ⟨bd, hx2⟩ : ∃ x, b.day = x := ⟨_, rfl⟩
  obtain ⟨as_, hx3⟩ : ∃ x, a.salt = x := ⟨_, rfl⟩
  obtain ⟨bs_, hx4⟩ : ∃ x, b.salt = x := ⟨_, rfl⟩
  obtain ⟨ab, hx5⟩ : ∃ x, a.bl = x := ⟨_, rfl⟩
  obtain ⟨bb, hx6⟩ : ∃ x, b.bl = x := ⟨_, rfl⟩
  rw [hx1, hx2, hx3, hx4, hx5, hx6] at hW3 hcells
  rw [hx1, hx2, hx3, hx4, hx5, hx6] at hno
  rw [hx1, hx2, hx3, hx4, hx5, hx6]
  rw [hx1, hx3, hx5] at hA
  rw [hx2, hx4, hx6] at hB
  rw [hx1, hx2, hx3, hx4, hx5, hx6] at hl0
  replace hl0 := Lib.hid hl0
  clear hx1 hx2 hx3 hx4 hx5 hx6 hka hkb
  cases c1 : chkS s a with
  | false =>
    rw [c1] at hA
    clear hno
    go_enter Tryd.func21, Tryd.ntmps21
    go_wp2_with (refine wpList_load_midG (by rfl) 25 (.tmp 3) (by rfl) w.heap.size 0 (by rfl) S _ hl0.out Tryd.underlying25 (by rfl) pil.out ?_)
    rw [← hW3]
    refine (hA.out _ hB1).mono ?_
    rintro e w4 ⟨rfl, hb4⟩
    obtain ⟨hl4, ⟨y0, y1, y2, y3⟩, ⟨z0, z1, z2, z3⟩⟩ := hcells.out w4 hb4
    replace hl4 := Lib.hid hl4
    have hB4 := hB1.trans (hb4.mono hB1.size)
    go_wp2_with fail
    refine bodyPost_ret (v := .tuple #[.slice none 0 0, .slice none 0 0, .bool false]) (by simp [results, Tryd.results21, go_sem]) rfl ⟨rfl, hB4⟩
  | true =>
    rw [c1] at hA hno
    cases c2 : chkS s b with
    | false =>
      rw [c2] at hB
      clear hno
      go_enter Tryd.func21, Tryd.ntmps21
      go_wp2_with (refine wpList_load_midG (by rfl) 25 (.tmp 3) (by rfl) w.heap.size 0 (by rfl) S _ hl0.out Tryd.underlying25 (by rfl) pil.out ?_)
      rw [← hW3]
      refine (hA.out _ hB1).mono ?_
      rintro e w4 ⟨rfl, hb4⟩
      obtain ⟨hl4, ⟨y0, y1, y2, y3⟩, ⟨z0, z1, z2, z3⟩⟩ := hcells.out w4 hb4
      replace hl4 := Lib.hid hl4
      have hB4 := hB1.trans (hb4.mono hB1.size)
      go_wp2_with (refine wpList_load_midG (by rfl) 25 (.tmp 3) (by rfl) w.heap.size 0 (by rfl) S _ hl4.out Tryd.underlying25 (by rfl) pil.out ?_)
      refine (hB.out _ hB4).mono ?_
      rintro e w5 ⟨rfl, hb5⟩
      clear hl4 y0 y1 y2 y3 z0 z1 z2 z3
      obtain ⟨-, ⟨y0, y1, y2, y3⟩, ⟨z0, z1, z2, z3⟩⟩ := hcells.out w5 (hb4.trans (hb5.mono hb4.size))
      have hB5 := hB4.trans (hb5.mono hB4.size)
      go_wp2_with fail
      refine bodyPost_ret (v := .tuple #[.slice none 0 0, .slice none 0 0, .bool false]) (by simp [results, Tryd.results21, go_sem]) rfl ⟨rfl, hB5⟩
    | true =>
      rw [c2] at hB hno
      by_cases c3 : ad = bd
      · subst c3
        have hno2 : (ab == bb && decide (as_ = bs_)) = true := by simpa using hno
        rw [Bool.and_eq_true] at hno2
        obtain ⟨c4, c5⟩ := hno2
        obtain rfl : ab = bb := by simpa using c4
        obtain rfl : as_ = bs_ := of_decide_eq_true c5
        clear c4 c5 hno
        go_enter Tryd.func21, Tryd.ntmps21
        go_wp2_with (refine wpList_load_midG (by rfl) 25 (.tmp 3) (by rfl) w.heap.size 0 (by rfl) S _ hl0.out Tryd.underlying25 (by rfl) pil.out ?_)
        rw [← hW3]
        refine (hA.out _ hB1).mono ?_
        rintro e w4 ⟨rfl, hb4⟩
        obtain ⟨hl4, ⟨y0, y1, y2, y3⟩, ⟨z0, z1, z2, z3⟩⟩ := hcells.out w4 hb4
        replace hl4 := Lib.hid hl4
        have hB4 := hB1.trans (hb4.mono hB1.size)
        go_wp2_with (refine wpList_load_midG (by rfl) 25 (.tmp 3) (by rfl) w.heap.size 0 (by rfl) S _ hl4.out Tryd.underlying25 (by rfl) pil.out ?_)
        refine (hB.out _ hB4).mono ?_
        rintro e w5 ⟨rfl, hb5⟩
        clear hl4 y0 y1 y2 y3 z0 z1 z2 z3
        obtain ⟨-, ⟨y0, y1, y2, y3⟩, ⟨z0, z1, z2, z3⟩⟩ := hcells.out w5 (hb4.trans (hb5.mono hb4.size))
        have hB5 := hB4.trans (hb5.mono hB4.size)
        go_wp2_with fail
        refine bodyPost_ret (v := .tuple #[.slice none 0 0, .slice none 0 0, .bool false]) (by simp [results, Tryd.results21, go_sem]) rfl ⟨rfl, hB5⟩
      · have d3 : (ad == bd) = false := by simpa using c3
        clear hno
        go_enter Tryd.func21, Tryd.ntmps21
        go_wp2_with (refine wpList_load_midG (by rfl) 25 (.tmp 3) (by rfl) w.heap.size 0 (by rfl) S _ hl0.out Tryd.underlying25 (by rfl) pil.out ?_)
        rw [← hW3]
        refine (hA.out _ hB1).mono ?_
        rintro e w4 ⟨rfl, hb4⟩
        obtain ⟨hl4, ⟨y0, y1, y2, y3⟩, ⟨z0, z1, z2, z3⟩⟩ := hcells.out w4 hb4
        replace hl4 := Lib.hid hl4
        have hB4 := hB1.trans (hb4.mono hB1.size)
        go_wp2_with (refine wpList_load_midG (by rfl) 25 (.tmp 3) (by rfl) w.heap.size 0 (by rfl) S _ hl4.out Tryd.underlying25 (by rfl) pil.out ?_)
        refine (hB.out _ hB4).mono ?_
        rintro e w5 ⟨rfl, hb5⟩
        clear hl4 y0 y1 y2 y3 z0 z1 z2 z3
        obtain ⟨-, ⟨y0, y1, y2, y3⟩, ⟨z0, z1, z2, z3⟩⟩ := hcells.out w5 (hb4.trans (hb5.mono hb4.size))
        have hB5 := hB4.trans (hb5.mono hB4.size)
        go_wp2_with fail
        refine bodyPost_ret (v := .tuple #[.slice none 0 0, .slice none 0 0, .bool false]) (by simp [results, Tryd.results21, go_sem]) rfl ⟨rfl, hB5⟩
end Go.Proofs.YtnccbhndlnkboaaDoor
/- Plain laws of seals. -/
namespace Go.Proofs.YtnccbhndlnkboaaDoor
open Go.RowKit Go.Shelf Cdc Sha
set_option linter.unusedVariables false
set_option linter.unusedSimpArgs false

theorem lastM_cons (d t : List UInt8) (l : List (List UInt8 × List UInt8)) : lastM ((d, t) :: l) = topM d l := by
  cases l with
  | nil => rfl
  | cons y l =>
    simp only [lastM, topM, List.getLast?_cons_cons]
    cases h : (y :: l).getLast? with
    | none => simp at h
    | some z => rfl
/-- a path leads to the root -/
theorem climb_root {r : List (List UInt8)} {n i : Nat} {leaf : List UInt8} (hn : r.length = n) (h : r[i]? = some (lfD leaf)) : ∃ l, climbM n i leaf (pathM r i) = some l ∧ lastM l = rootM r := by
  obtain ⟨l, h1, h2⟩ := way_root n r i (lfD leaf) hn h
  exact ⟨(lfD leaf, lfT leaf) :: l, by rw [climbM, h1]; rfl, by rw [lastM_cons, h2]⟩
theorem pathM_lenM {r : List (List UInt8)} {n i : Nat} (hn : r.length = n) (hi : i < n) : (pathM r i).length = lenM n i := by
  obtain ⟨d, hd⟩ : ∃ d, r[i]? = some d := ⟨_, List.getElem?_eq_getElem (by omega)⟩
  obtain ⟨l, h1, _⟩ := way_root n r i d hn hd
  have := wayM_some n i d (pathM r i)
  rw [h1] at this
  exact of_decide_eq_true this.symm
theorem lvsD_len {t f : Int} {bl : List Bool} {sl : List Int} (h : bl.length = sl.length) : ((lvs t f bl sl).map lfD).length = sl.length := by rw [List.length_map, lvs_len h]
theorem lvsD_ne {t f : Int} {bl : List Bool} {sl : List Int} (h : bl.length = sl.length) (h0 : 0 < sl.length) : (lvs t f bl sl).map lfD ≠ [] := fun e => by
  have := congrArg List.length e
  rw [lvsD_len h, List.length_nil] at this
  omega
theorem lvsD_32 {t f : Int} {bl : List Bool} {sl : List Int} : ∀ d ∈ (lvs t f bl sl).map lfD, d.length = 32 := fun d hd => by
  obtain ⟨x, _, rfl⟩ := List.mem_map.1 hd
  exact lfD_len x

theorem opE_zero {t f : Int} {nb ns : Nat} {sl : List Int} (h : opE t f nb ns sl = 0) : nb ≤ 512 ∧ nb = ns ∧ dayB t f ns = true ∧ sl.all salB = true := by
  rcases opE_cases t f nb ns sl with ⟨_, h1, h2, h3, h4⟩ | ⟨he, h1⟩ | ⟨he, h1⟩
  · exact ⟨by omega, h2, h3, h4⟩
  · rw [he] at h; cases h
  · rw [he] at h; cases h
theorem opnE_zero {t f : Int} {nb ns : Nat} {sl : List Int} {d : Int} (h : opnE t f nb ns sl d = 0) : opE t f nb ns sl = 0 ∧ hasB f ns d = true := by
  unfold opnE at h
  by_cases h1 : opE t f nb ns sl = 0
  · rw [if_pos h1] at h
    by_cases h2 : hasB f ns d = true
    · exact ⟨h1, h2⟩
    · rw [if_neg h2] at h; cases h
  · rw [if_neg h1] at h; exact absurd h h1
/-- what is opened is accepted -/
theorem chk_opened {t f d : Int} {nb ns : Nat} {bl : List Bool} {sl : List Int} (hb : bl.length = nb) (hn : sl.length = ns) (h : opnE t f nb ns sl d = 0) : chkS (mkS t f nb ns bl sl) (opnO t f nb ns bl sl d) = true := by
  obtain ⟨h1, h2⟩ := opnE_zero h
  obtain ⟨h3, h4, h5, h6⟩ := opE_zero h1
  have hbs : bl.length = sl.length := by omega
  have hh : f ≤ d ∧ d - f < ns := of_decide_eq_true h2
  obtain ⟨i, hi⟩ : ∃ i : Nat, d - f = (i : Int) := ⟨(d - f).toNat, by omega⟩
  have hii : (d - f).toNat = i := by omega
  have hilt : i < ns := by omega
  obtain ⟨b, hbi⟩ : ∃ b, bl[i]? = some b := ⟨_, List.getElem?_eq_getElem (by omega)⟩
  obtain ⟨y, hy⟩ : ∃ y, sl[i]? = some y := ⟨_, List.getElem?_eq_getElem (by omega)⟩
  have hS : mkS t f nb ns bl sl = ⟨t, f, ns, rootM ((lvs t f bl sl).map lfD)⟩ := if_pos h1
  have hO : opnO t f nb ns bl sl d = ⟨d, y, b, pathM ((lvs t f bl sl).map lfD) i⟩ := by
    rw [opnO, if_pos h, hii, List.getD_eq_getElem?_getD, List.getD_eq_getElem?_getD, hy, hbi]; rfl
  rw [hS, hO]
  have hsy : salB y = true := List.all_eq_true.1 h6 y (List.mem_of_getElem? hy)
  have hr : ((lvs t f bl sl).map lfD)[i]? = some (lfD (leafM t (f + i) b y)) := by rw [List.getElem?_map, lvs_at hbi hy]; rfl
  obtain ⟨l, hl1, hl2⟩ := climb_root (n := ns) (by rw [lvsD_len hbs, hn]) hr
  have hdi : f + (i : Int) = d := by omega
  rw [hdi] at hl1
  have hd9 : 1 ≤ ns ∧ ns ≤ 512 := by have := of_decide_eq_true h5; omega
  have hcl : clV ns (d - f) (leafM t d b y) (pathM ((lvs t f bl sl).map lfD) i) = (rootM ((lvs t f bl sl).map lfD), 0) := by
    unfold clV
    rw [if_neg (by omega), Int.toNat_natCast, hii, hl1]
    simp only [hl2]
  simp only [chkS, h5, h2, hsy, hcl, Bool.true_and, decide_true]
theorem mkS_I {t f : Int} {nb ns : Nat} {bl : List Bool} {sl : List Int} (hb : bl.length = nb) (hn : sl.length = ns) (ht : I64 t) : SlI (mkS t f nb ns bl sl) := by
  unfold mkS
  split
  · rename_i h
    obtain ⟨h3, h4, h5, h6⟩ := opE_zero h
    have hd9 := of_decide_eq_true h5
    exact ⟨ht, ⟨by dsimp only; omega, by dsimp only; omega⟩, ⟨by dsimp only; omega, by dsimp only; omega⟩, rootM_len ns _ (by rw [lvsD_len (by omega), hn]) (lvsD_ne (by omega) (by omega)) lvsD_32⟩
  · exact ⟨i64_zero, i64_zero, i64_zero, zero32_len⟩
theorem opnO_I {t f d : Int} {nb ns : Nat} {bl : List Bool} {sl : List Int} (hb : bl.length = nb) (hn : sl.length = ns) (hd : I64 d) (hsl : ∀ x ∈ sl, I64 x) : OpI (opnO t f nb ns bl sl d) := by
  unfold opnO
  split
  · rename_i h
    obtain ⟨h1, h2⟩ := opnE_zero h
    obtain ⟨h3, h4, h5, h6⟩ := opE_zero h1
    refine ⟨hd, ?_, fun x hx => ?_⟩
    · dsimp only
      rw [List.getD_eq_getElem?_getD]
      cases hy : sl[(d - f).toNat]? with
      | none => exact i64_zero
      | some y => exact hsl y (List.mem_of_getElem? hy)
    · exact pathM_all ns _ _ (by rw [lvsD_len (by omega), hn]) lvsD_32 x hx
  · exact ⟨i64_zero, i64_zero, fun x hx => by simp [opZ] at hx⟩

/-- what is accepted is in range and leads to the root -/
theorem chk_some {s : Sl} {o : Op} (h : chkS s o = true) : (0 ≤ s.t ∧ s.t ≤ 63 ∧ 1 ≤ s.m ∧ s.m ≤ 512 ∧ 0 ≤ s.f ∧ s.f ≤ 73048 - s.m + 1) ∧ (s.f ≤ o.day ∧ o.day - s.f < s.m) ∧ (0 ≤ o.salt ∧ o.salt ≤ 1099511627776) ∧ clV s.m (o.day - s.f) (leafM s.t o.day o.bl o.salt) o.path = (s.root, 0) := by
  unfold chkS at h
  simp only [Bool.and_eq_true, decide_eq_true_eq] at h
  obtain ⟨h1, h2, h3, h4, h5⟩ := h
  exact ⟨of_decide_eq_true h1, of_decide_eq_true h2, of_decide_eq_true h3, Prod.ext h5 h4⟩
theorem clV_len {n i : Int} {leaf : List UInt8} {path : List (List UInt8)} (h1 : n ≤ 65536) (h2 : 0 ≤ i) (h3 : i < n) : ((clV n i leaf path).2 = 0 ↔ path.length = lenM n.toNat i.toNat) := by
  unfold clV
  rw [if_neg (by omega)]
  have := wayM_some n.toNat i.toNat (lfD leaf) path
  cases h : climbM n.toNat i.toNat leaf path with
  | none =>
    have h9 : wayM n.toNat i.toNat (lfD leaf) path = none := by
      unfold climbM at h
      exact Option.map_eq_none_iff.1 h
    rw [h9] at this
    have h10 := of_decide_eq_false this.symm
    simp [h10]
  | some l =>
    obtain ⟨l', h', _⟩ := Option.map_eq_some_iff.1 h
    rw [h'] at this
    have h10 := of_decide_eq_true this.symm
    simp [h10]
/-- with a digest more or less it is not accepted -/
theorem chk_other {s : Sl} {o : Op} (h : chkS s o = true) (p : List (List UInt8)) (hp : p.length ≠ o.path.length) : chkS s ⟨o.day, o.salt, o.bl, p⟩ = false := by
  obtain ⟨h1, h2, h3, h4⟩ := chk_some h
  have h5 := (clV_len (n := s.m) (i := o.day - s.f) (leaf := leafM s.t o.day o.bl o.salt) (path := o.path) (by omega) (by omega) (by omega)).1 (by rw [h4])
  have h6 : ¬ (clV s.m (o.day - s.f) (leafM s.t o.day o.bl o.salt) p).2 = 0 := fun e => hp (((clV_len (n := s.m) (i := o.day - s.f) (by omega) (by omega) (by omega)).1 e).trans h5.symm)
  simp [chkS, h6]
end Go.Proofs.YtnccbhndlnkboaaDoor
