/- The walk of seals.Make. -/
import Derived.Test.YtnccbhndlnkboaaDoorSLeaves
import Derived.Test.YtnccbhndlnkboaaDoorSCheck
import Derived.Test.YtnccbhndlnkboaaDoorMRoot
namespace Go.Proofs.YtnccbhndlnkboaaDoor
open Go.RowKit Go.Shelf Cdc Sha
set_option linter.unusedVariables false
set_option linter.unusedSimpArgs false

def slA (s : Sl) : Array Value := (slC s).toArray
def slZ : Sl := ⟨0, 0, 0, zero32⟩
theorem slA_size {s : Sl} (h : s.root.length = 32) : (slA s).size = 35 := by simp [slA, slC, dc, h]
theorem sl_info {s : Sl} (h : s.root.length = 32) : (Tryd.prog.info? 25).map (·.size) = some (slA s).size := by rw [slA_size h]; kernel_rfl
theorem slA_one (s : Sl) : (slA s).all (·.oneCell') = true := by
  have h1 := one_by1 s.root
  simp [slA, slC, dc, Value.oneCell'] at h1 ⊢
set_option maxRecDepth 100000 in
theorem built_sl (t f m : Int) (d : List UInt8) (h : d.length = 32) : Tryd.prog.built 25 [(0, .int .i64 t), (1, .int .i64 f), (2, .int .i64 m), (3, .agg (dg d))] = some (slA ⟨t, f, m, d⟩) := by
  obtain ⟨p0, p1, p2, p3, p4, p5, p6, p7, p8, p9, p10, p11, p12, p13, p14, p15, p16, p17, p18, p19, p20, p21, p22, p23, p24, p25, p26, p27, p28, p29, p30, p31, rfl⟩ := list32 d h
  kernel_rfl
set_option maxRecDepth 100000 in
theorem built_slZ : Tryd.prog.built 25 [] = some (slA slZ) := by kernel_rfl
theorem step_buildS {ops : Array Oper} {o : Oper} {a : Act} {w : World} {K : Act → World → Prop} {Q : Exit → Act → World → Prop} {E : Prop} (hgd : o.guard = none) (t : TypeId) (parts : Array (Nat × Operand)) (ho : o.op = .build t parts)
    (cells : Array Value) (hf : Tryd.prog.built t (parts.map fun (i, x) => (i, a.eval x)).toList = some cells)
    (h : K (a.put o.dst (.agg cells)) w) : if Region.wanted o (yielded ops a.tmps) = true then Oper.wp Tryd.prog o a w K Q else E := by
  have hw : Region.wanted o (yielded ops a.tmps) = true := by simp [Region.wanted, hgd]
  rw [if_pos hw]
  exact wp_build t parts ho (by rw [hf]; rfl) (by rw [hf]; exact h)

theorem wpList_buildG {ops : Array Oper} {rest : List Oper} {o : Oper} {a : Act} {w : World} {Q : Exit → Act → World → Prop} (hgd : Region.wanted o (yielded ops a.tmps) = true) (t : TypeId) (parts : Array (Nat × Operand)) (ho : o.op = .build t parts)
    (cells : Array Value) (hf : Tryd.prog.built t (parts.map fun (i, x) => (i, a.eval x)).toList = some cells)
    (h : wpList Tryd.prog ops Q rest (a.put o.dst (.agg cells)) w) : wpList Tryd.prog ops Q (o :: rest) a w := by
  unfold wpList
  rw [if_pos hgd]
  exact .inl (wp_build t parts ho (by rw [hf]; rfl) (by rw [hf]; exact h))

/-- what Make answers -/
def mkS (t f : Int) (nb ns : Nat) (bl : List Bool) (sl : List Int) : Sl := if opE t f nb ns sl = 0 then ⟨t, f, ns, rootM ((lvs t f bl sl).map lfD)⟩ else slZ
theorem opE_cases (t f : Int) (nb ns : Nat) (sl : List Int) : (opE t f nb ns sl = 0 ∧ ¬ (512 < nb ∨ 512 < ns) ∧ nb = ns ∧ dayB t f ns = true ∧ sl.all salB = true) ∨ (opE t f nb ns sl = 2 ∧ (512 < nb ∨ 512 < ns)) ∨ (opE t f nb ns sl = 390 ∧ ¬ (512 < nb ∨ 512 < ns)) := by
  unfold opE
  by_cases h1 : 512 < nb ∨ 512 < ns
  · rw [if_pos h1]; exact .inr (.inl ⟨rfl, h1⟩)
  · rw [if_neg h1]
    by_cases h2 : nb = ns ∧ dayB t f ns = true ∧ sl.all salB = true
    · rw [if_pos h2]; exact .inl ⟨rfl, h1, h2⟩
    · rw [if_neg h2]; exact .inr (.inr ⟨rfl, h1⟩)

set_option maxRecDepth 100000 in
set_option maxHeartbeats 4000000 in
theorem make_any (t f : Int) (bl : List Bool) (sl : List Int) (nb ns cb c : Nat) (B S : Option Addr) (hnb : bl.length = nb) (hn : sl.length = ns) (hcb : nb ≤ cb) (hc : ns ≤ c) (hxb : nb ≤ maxLen) (hxs : ns ≤ maxLen) (ht : I64 t) (hsl : ∀ x ∈ sl, I64 x) (w : World) (hB : BoAt w B bl) (hS : InAt w S sl) (hL : Laid w) :
    Calls Tryd.prog 16 #[.int .i64 t, .int .i64 f, .slice B nb cb, .slice S ns c] w fun e w' => e = .returned (.tuple #[.agg (slA (mkS t f nb ns bl sl)), .int .i64 (opE t f nb ns sl)]) ∧ Below w.heap.size w w' := by
  have hO : Hid (∀ V, Below w.heap.size w V → Calls Tryd.prog 33 #[.int .i64 t, .int .i64 f, .slice B nb cb, .slice S ns c] V fun e w' => e = .returned (.tuple #[.agg (if 512 < nb ∨ 512 < ns then #[.int .i64 0, .int .i64 0, .int .i64 0, .slice none 0 0, .slice none 0 0] else #[.int .i64 t, .int .i64 f, .int .i64 ns, .slice B nb cb, .slice S ns c]), .int .i64 (opE t f nb ns sl)]) ∧ Below V.heap.size V w') := Lib.hid fun V hV => open_any t f nb ns cb c B S sl hn hc hxb hxs V (hS.below hV)
  unfold mkS
  have hB1 : Below w.heap.size w (w.alloc (.cells (slA slZ) 25)) := (Below.refl _ _).alloc (Nat.le_refl _) _
  have hr1 := heap_alloc_new w (.cells (slA slZ) 25)
  have hs1 : (w.alloc (.cells (slA slZ) 25)).heap.size = w.heap.size + 1 := by simp
  rcases opE_cases t f nb ns sl with ⟨he, h1, h2, h3, h4⟩ | ⟨he, h1⟩ | ⟨he, h1⟩
  · rw [if_neg h1, he] at hO
    rw [if_pos he, he]
    subst h2
    have hd : 0 ≤ f ∧ f ≤ 73048 ∧ nb ≤ 512 ∧ 1 ≤ nb := by have := of_decide_eq_true h3; omega
    have hN : Hid (∀ V, Below w.heap.size w V → Calls Tryd.prog 35 #[.agg #[.int .i64 t, .int .i64 f, .int .i64 nb, .slice B nb cb, .slice S nb c]] V fun e w' => ∃ (A : Option Addr) (c' : Nat), e = .returned (.slice A nb c') ∧ LvAt w' A (lvs t f bl sl) ∧ Below V.heap.size V w') := Lib.hid fun V hV => leaves_any t f nb bl sl cb nb c B S (hnb.trans hn.symm) hn hcb hc hd.2.2.1 ht hd.1 (by omega) hsl V (hB.below hV) (hS.below hV)
    have hsm : ∀ x ∈ lvs t f bl sl, x.length ≤ 1000000 := fun x hx => by
      obtain ⟨i, hi⟩ := List.getElem?_of_mem hx
      have hlt : i < sl.length := by have := (List.getElem?_eq_some_iff.1 hi).1; rw [lvs_len (hnb.trans hn.symm)] at this; exact this
      obtain ⟨b, hb⟩ : ∃ b, bl[i]? = some b := ⟨_, List.getElem?_eq_getElem (by rw [hnb]; omega)⟩
      obtain ⟨y, hy⟩ : ∃ y, sl[i]? = some y := ⟨_, List.getElem?_eq_getElem hlt⟩
      rw [lvs_at hb hy] at hi
      obtain rfl := Option.some.inj hi
      have := (leaf_sm (b := b) ht (d := f + (i : Int)) ⟨by omega, by omega⟩ (hsl y (List.mem_of_getElem? hy))).2
      omega
    have hZ : Hid (∀ V A c', Below w.heap.size w V → LvAt V A (lvs t f bl sl) → Calls Tryd.prog 34 #[.slice A nb c'] V fun e w' => e = .returned (.agg (dg (rootM ((lvs t f bl sl).map lfD)))) ∧ Below V.heap.size V w') := Lib.hid fun V A c' hV hA => mroot_any (lvs t f bl sl) nb A c' V ((lvs_len (hnb.trans hn.symm)).trans hn) (by omega) (by omega) hA hsm (hL.below hV)
    have hr32 : (rootM ((lvs t f bl sl).map lfD)).length = 32 := rootM_len nb _ (by rw [List.length_map, lvs_len (hnb.trans hn.symm), hn]) (fun e => by have := congrArg List.length e; rw [List.length_map, lvs_len (hnb.trans hn.symm), hn] at this; simp at this; omega) (fun d hd => by
      obtain ⟨x, _, rfl⟩ := List.mem_map.1 hd
      exact lfD_len x)
    obtain ⟨r, hr⟩ : ∃ r, rootM ((lvs t f bl sl).map lfD) = r := ⟨_, rfl⟩
    rw [hr] at hZ hr32 ⊢
    obtain ⟨X, hX⟩ : ∃ X, lvs t f bl sl = X := ⟨_, rfl⟩
    rw [hX] at hN hZ
    have pb := Lib.hid (built_sl t f nb r hr32)
    have pi := Lib.hid (sl_info (s := ⟨t, f, nb, r⟩) hr32)
    have pz := Lib.hid (show (slA slZ).size = (slA ⟨t, f, nb, r⟩).size by rw [slA_size (s := slZ) zero32_len, slA_size hr32])
    have po := Lib.hid (slA_one ⟨t, f, nb, r⟩)
    clear hr hX hsm hr32 he h1 h3 h4 hnb hn hB hS hL hsl
    go_enter Tryd.func16, Tryd.ntmps16
    go_wp2_with fail
    refine (hO.out (w.alloc (.cells (slA slZ) 25)) hB1).mono ?_
    rintro e w2 ⟨rfl, hb2⟩
    have hr2 := (hb2.block w.heap.size (by simp)).trans hr1
    have hB2 := hB1.trans (hb2.mono hB1.size)
    have hn3 := heap_alloc_new w2 (.cells #[.int .i64 t, .int .i64 f, .int .i64 nb, .slice B nb cb, .slice S nb c] 71)
    have hB3 := hB2.alloc hB2.size (.cells #[.int .i64 t, .int .i64 f, .int .i64 nb, .slice B nb cb, .slice S nb c] 71)
    have hr3 := (Below.heap_alloc w2 (.cells #[.int .i64 t, .int .i64 f, .int .i64 nb, .slice B nb cb, .slice S nb c] 71) w.heap.size (by have := hb2.size; simp at this; omega)).trans hr2
    have hz3 : (w2.alloc (.cells #[.int .i64 t, .int .i64 f, .int .i64 nb, .slice B nb cb, .slice S nb c] 71)).heap.size = w2.heap.size + 1 := by simp
    have hlt : w.heap.size < w2.heap.size := by have := hb2.size; simp at this; omega
    clear hb2 hr2 hB1 hr1 hs1
    have hcells : Hid (∀ V, Below (w2.alloc (.cells #[.int .i64 t, .int .i64 f, .int .i64 nb, .slice B nb cb, .slice S nb c] 71)).heap.size (w2.alloc (.cells #[.int .i64 t, .int .i64 f, .int .i64 nb, .slice B nb cb, .slice S nb c] 71)) V → V.heap[w.heap.size]? = some (.cells (slA slZ) 25 (0, 0)) ∧ ( V.cell? ⟨w2.heap.size, 0, none⟩ = some (.int .i64 t) ∧ V.cell? ⟨w2.heap.size, 1, none⟩ = some (.int .i64 f) ∧ V.cell? ⟨w2.heap.size, 2, none⟩ = some (.int .i64 nb) ∧ V.cell? ⟨w2.heap.size, 3, none⟩ = some (.slice B nb cb) ∧ V.cell? ⟨w2.heap.size, 4, none⟩ = some (.slice S nb c))) := Lib.hid fun V hV => by
      have h1 := (hV.block w2.heap.size (by rw [hz3]; omega)).trans hn3
      refine ⟨(hV.block w.heap.size (by rw [hz3]; omega)).trans hr3, by rw [cell_of_row _ _ _ _ _ _ h1]; rfl, by rw [cell_of_row _ _ _ _ _ _ h1]; rfl, by rw [cell_of_row _ _ _ _ _ _ h1]; rfl, by rw [cell_of_row _ _ _ _ _ _ h1]; rfl, by rw [cell_of_row _ _ _ _ _ _ h1]; rfl⟩
    have hz3b := Lib.hid hz3
    have hB3b := Lib.hid hB3
    clear hn3 hr3 hz3 hB3 hB2
    go_wp2_with fail
    have HB := Below.refl (w2.alloc (.cells #[.int .i64 t, .int .i64 f, .int .i64 nb, .slice B nb cb, .slice S nb c] 71)).heap.size (w2.alloc (.cells #[.int .i64 t, .int .i64 f, .int .i64 nb, .slice B nb cb, .slice S nb c] 71))
    replace HB := HB.drew
    generalize w2.alloc (.cells #[.int .i64 t, .int .i64 f, .int .i64 nb, .slice B nb cb, .slice S nb c] 71) = W3 at *
    refine wp_region_T 9 (fun w' => w'.cell? ⟨w2.heap.size, 0, none⟩ = some (.int .i64 t) ∧ w'.cell? ⟨w2.heap.size, 1, none⟩ = some (.int .i64 f) ∧ w'.cell? ⟨w2.heap.size, 2, none⟩ = some (.int .i64 nb) ∧ w'.cell? ⟨w2.heap.size, 3, none⟩ = some (.slice B nb cb) ∧ w'.cell? ⟨w2.heap.size, 4, none⟩ = some (.slice S nb c)) (by kernel_rfl) (by exact (hcells.out _ HB).2) (fun hHeld => ?_)
    refine wpAnyT_take (i := 0) (oi := { dst := some 23, op := Op.move (Operand.tmp 0), type := 3, pos := "seals.go:77", after := #[], guard := none }) (v := ?_) rfl (by kernel_rfl) (by kernel_rfl) (by kernel_rfl) (by kernel_rfl) (fun _ _ _ h => h) (Or.inl ⟨by rfl, ?hy0⟩) hHeld ?rest0
    case hy0 =>
      intro w hSw
      try dsimp only at hSw
      go_simp
      try with_reducible rfl
    try simp only [Act.put, List.setIfInBounds_toArray, List.set_cons_zero, List.set_cons_succ]
    refine wpAnyT_take (i := 1) (oi := { dst := some 24, op := Op.move (Operand.tmp 1), type := 3, pos := "seals.go:77", after := #[], guard := none }) (v := ?_) rfl (by kernel_rfl) (by kernel_rfl) (by kernel_rfl) (by kernel_rfl) (fun _ _ _ h => h) (Or.inl ⟨by rfl, ?hy1⟩) hHeld ?rest1
    case hy1 =>
      intro w hSw
      try dsimp only at hSw
      go_simp
      try with_reducible rfl
    try simp only [Act.put, List.setIfInBounds_toArray, List.set_cons_zero, List.set_cons_succ]
    refine wpAnyT_take (i := 2) (oi := { dst := some 25, op := Op.fieldAddr 71 (Operand.tmp 10) 0, type := 0, pos := "seals.go:77", after := #[], guard := none }) (v := ?_) rfl (by kernel_rfl) (by kernel_rfl) (by kernel_rfl) (by kernel_rfl) (fun _ _ _ h => h) (Or.inl ⟨by rfl, ?hy2⟩) hHeld ?rest2
    case hy2 =>
      intro w hSw
      try dsimp only at hSw
      go_simp
      try with_reducible rfl
    try simp only [Act.put, List.setIfInBounds_toArray, List.set_cons_zero, List.set_cons_succ]
    refine wpAnyT_take (i := 3) (oi := { dst := some 26, op := Op.fieldAddr 69 (Operand.tmp 25) 2, type := 0, pos := "seals.go:77", after := #[{ on := 2, ground := Ground.data }], guard := none }) (v := ?_) rfl (by kernel_rfl) (by kernel_rfl) (by kernel_rfl) (by kernel_rfl) (fun _ _ _ h => h) (Or.inl ⟨by rfl, ?hy3⟩) hHeld ?rest3
    case hy3 =>
      intro w hSw
      try dsimp only at hSw
      go_simp
      try with_reducible rfl
    try simp only [Act.put, List.setIfInBounds_toArray, List.set_cons_zero, List.set_cons_succ]
    refine wpAnyT_take (i := 4) (oi := { dst := some 27, op := Op.load 3 (Operand.tmp 26), type := 3, pos := "seals.go:77", after := #[{ on := 3, ground := Ground.data }], guard := none }) (v := ?_) rfl (by kernel_rfl) (by kernel_rfl) (by kernel_rfl) (by kernel_rfl) (fun _ _ _ h => h) (Or.inl ⟨by rfl, ?hy4⟩) hHeld ?rest4
    case hy4 =>
      intro w hSw
      try dsimp only at hSw
      go_simp
      try with_reducible rfl
    try simp only [Act.put, List.setIfInBounds_toArray, List.set_cons_zero, List.set_cons_succ]
    refine wpAnyT_take (i := 5) (oi := { dst := some 28, op := Op.load 71 (Operand.tmp 10), type := 71, pos := "seals.go:77", after := #[], guard := none }) (v := ?_) rfl (by kernel_rfl) (by kernel_rfl) (by kernel_rfl) (by kernel_rfl) (fun _ _ _ h => h) (Or.inl ⟨by rfl, ?hy5⟩) hHeld ?rest5
    case hy5 =>
      intro w hSw
      try dsimp only at hSw
      go_simp
      try with_reducible rfl
    try simp only [Act.put, List.setIfInBounds_toArray, List.set_cons_zero, List.set_cons_succ]
    refine wpAnyT_one (i := 6) (o := { dst := some 29, op := Op.call { callee := Callee.value (Operand.func 35), args := #[Operand.tmp 28], argTypes := #[71] }, type := 75, pos := "seals.go:77", after := #[{ on := 5, ground := Ground.data }], guard := none }) (by kernel_rfl) rfl (fun K hK => ?_)
    go_simp
    go_at_call 35
    refine (hN.out _ (hB3b.out.trans (HB.mono hB3b.out.size))).mono ?_
    rintro e w4 ⟨A4, c4, rfl, h4, hb⟩
    replace HB := HB.trans (hb.mono HB.size)
    replace h4 := Lib.hid h4
    clear hb
    refine hK.out _ _ (by exact (hcells.out _ HB).2) (fun hHeld' => ?_)
    clear hK K hHeld
    have hHeld := hHeld'
    clear hHeld'
    try simp only [Act.put, List.setIfInBounds_toArray, List.set_cons_zero, List.set_cons_succ]
    refine wpAnyT_one (i := 7) (o := { dst := some 30, op := Op.call { callee := Callee.value (Operand.func 34), args := #[Operand.tmp 29], argTypes := #[75] }, type := 23, pos := "seals.go:77", after := #[{ on := 6, ground := Ground.data }, { on := 6, ground := Ground.chain }], guard := none }) (by kernel_rfl) rfl (fun K hK => ?_)
    go_simp
    go_at_call 34
    refine (hZ.out _ _ _ (hB3b.out.trans (HB.mono hB3b.out.size)) h4.out).mono ?_
    rintro e w5 ⟨rfl, hb⟩
    replace HB := HB.trans (hb.mono HB.size)
    clear hb
    refine hK.out _ _ (by exact (hcells.out _ HB).2) (fun hHeld' => ?_)
    clear hK K hHeld
    have hHeld := hHeld'
    clear hHeld'
    try simp only [Act.put, List.setIfInBounds_toArray, List.set_cons_zero, List.set_cons_succ]
    refine wpAnyT_one (i := 8) (o := { dst := some 31, op := Op.build 25 #[(0, Operand.tmp 23), (1, Operand.tmp 24), (2, Operand.tmp 27), (3, Operand.tmp 30)], type := 25, pos := "seals.go:77", after := #[{ on := 0, ground := Ground.data }, { on := 1, ground := Ground.data }, { on := 4, ground := Ground.data }, { on := 7, ground := Ground.data }], guard := none }) (by kernel_rfl) rfl (fun K hK => ?_)
    refine step_buildS (by rfl) 25 #[(0, .tmp 23), (1, .tmp 24), (2, .tmp 27), (3, .tmp 30)] (by rfl) (slA ⟨t, f, nb, r⟩) (by simp only [List.map_toArray, List.map_cons, List.map_nil]; exact pb.out) ?_
    refine hK.out _ _ (by exact (hcells.out _ HB).2) (fun hHeld' => ?_)
    clear hK K hHeld
    have hHeld := hHeld'
    clear hHeld'
    try simp only [Act.put, List.setIfInBounds_toArray, List.set_cons_zero, List.set_cons_succ]
    refine wpAnyT_tail (i := 9) (o := { dst := none, op := Op.store 25 (Operand.tmp 8) (Operand.tmp 31), type := 0, pos := "seals.go:77", after := #[{ on := 8, ground := Ground.data }, { on := 7, ground := Ground.chain }, { on := 0, ground := Ground.phase }, { on := 1, ground := Ground.phase }, { on := 2, ground := Ground.phase }, { on := 3, ground := Ground.phase }, { on := 4, ground := Ground.phase }, { on := 5, ground := Ground.phase }, { on := 6, ground := Ground.phase }, { on := 7, ground := Ground.phase }, { on := 8, ground := Ground.phase }], guard := none }) (by kernel_rfl) rfl (by rfl) (fun K hK => ?_)
    rw [if_pos (by rfl)]
    refine wp_set_row 25 (.tmp 8) (.tmp 31) (by rfl) (by rfl) w.heap.size (slA ⟨t, f, nb, r⟩) (by rfl) (by rfl) 25 _ (hcells.out _ HB).1 pi.out pz.out po.out ?_
    intro w9 hd9 hz9 hg9
    replace hd9 := Lib.hid hd9
    replace hg9 := Lib.hid hg9
    clear hz9
    refine hK.out _ _ ?_
    clear hK K
    try simp only [Act.put, List.setIfInBounds_toArray, List.set_cons_zero, List.set_cons_succ]
    refine wpAnyT_tail (i := 10) (o := { dst := some 9, op := Op.assign (Operand.const (Value.int IntKind.i64 0)), type := 35, pos := "seals.go:77", after := #[{ on := 9, ground := Ground.chain }, { on := 0, ground := Ground.phase }, { on := 1, ground := Ground.phase }, { on := 2, ground := Ground.phase }, { on := 3, ground := Ground.phase }, { on := 4, ground := Ground.phase }, { on := 5, ground := Ground.phase }, { on := 6, ground := Ground.phase }, { on := 7, ground := Ground.phase }, { on := 8, ground := Ground.phase }, { on := 9, ground := Ground.phase }], guard := none }) (by kernel_rfl) rfl (by rfl) (fun K hK => ?_)
    go_simp
    refine hK.out _ _ ?_
    clear hK K
    try simp only [Act.put, List.setIfInBounds_toArray, List.set_cons_zero, List.set_cons_succ]
    refine wpAnyT_done (by kernel_rfl) ?_ _
    go_wp2_with fail
    exact bodyPost_ret (v := .tuple #[.agg (slA ⟨t, f, nb, r⟩), .int .i64 0]) (results_row_tmp rfl _ _ w.heap.size 25 (slA ⟨t, f, nb, r⟩) (0, 0) _ _ rfl rfl hd9.out Tryd.underlying25 (by rfl) pi.out) rfl ⟨rfl, (hB3b.out.trans (HB.mono hB3b.out.size)).grown hg9.out (hB3b.out.trans (HB.mono hB3b.out.size)).size (fun k e => by have := Option.some.inj e; omega)⟩
  · rw [if_pos h1, he] at hO
    rw [if_neg (by rw [he]; decide), he]
    have pi := Lib.hid (sl_info (s := slZ) zero32_len)
    have po := Lib.hid (slA_one slZ)
    clear he h1 hnb hn hB hS hL hsl
    go_enter Tryd.func16, Tryd.ntmps16
    go_wp2_with fail
    refine (hO.out (w.alloc (.cells (slA slZ) 25)) hB1).mono ?_
    rintro e w2 ⟨rfl, hb2⟩
    have hr2 := (hb2.block w.heap.size (by simp)).trans hr1
    have hB2 := hB1.trans (hb2.mono hB1.size)
    have hB3 := hB2.alloc hB2.size (.cells #[.int .i64 0, .int .i64 0, .int .i64 0, .slice none 0 0, .slice none 0 0] 71)
    have hr3 := (Below.heap_alloc w2 (.cells #[.int .i64 0, .int .i64 0, .int .i64 0, .slice none 0 0, .slice none 0 0] 71) w.heap.size (by have := hb2.size; simp at this; omega)).trans hr2
    replace hB3 := Lib.hid hB3
    replace hr3 := Lib.hid hr3
    clear hb2 hr2 hB1 hr1 hs1 hB2
    go_wp2_with (first
      | (refine wpList_buildG (by rfl) 25 #[] (by rfl) (slA slZ) built_slZ ?_)
      | (refine wpList_set_row (by rfl) 25 (.tmp 8) (.tmp 21) (by rfl) (by rfl) w.heap.size (slA slZ) (by rfl) (by rfl) 25 _ hr3.out pi.out rfl po.out ?_; intro w6 hd6 hz6 hg6; replace hd6 := Lib.hid hd6; replace hg6 := Lib.hid hg6; clear hz6))
    exact bodyPost_ret (v := .tuple #[.agg (slA slZ), .int .i64 2]) (results_row_tmp rfl _ _ w.heap.size 25 (slA slZ) (0, 0) _ _ rfl rfl hd6.out Tryd.underlying25 (by rfl) pi.out) rfl ⟨rfl, hB3.out.grown hg6.out hB3.out.size (fun k e => by have := Option.some.inj e; omega)⟩
  · rw [if_neg h1, he] at hO
    rw [if_neg (by rw [he]; decide), he]
    have pi := Lib.hid (sl_info (s := slZ) zero32_len)
    have po := Lib.hid (slA_one slZ)
    clear he h1 hnb hn hB hS hL hsl
    go_enter Tryd.func16, Tryd.ntmps16
    go_wp2_with fail
    refine (hO.out (w.alloc (.cells (slA slZ) 25)) hB1).mono ?_
    rintro e w2 ⟨rfl, hb2⟩
    have hr2 := (hb2.block w.heap.size (by simp)).trans hr1
    have hB2 := hB1.trans (hb2.mono hB1.size)
    have hB3 := hB2.alloc hB2.size (.cells #[.int .i64 t, .int .i64 f, .int .i64 ns, .slice B nb cb, .slice S ns c] 71)
    have hr3 := (Below.heap_alloc w2 (.cells #[.int .i64 t, .int .i64 f, .int .i64 ns, .slice B nb cb, .slice S ns c] 71) w.heap.size (by have := hb2.size; simp at this; omega)).trans hr2
    replace hB3 := Lib.hid hB3
    replace hr3 := Lib.hid hr3
    clear hb2 hr2 hB1 hr1 hs1 hB2
    go_wp2_with (first
      | (refine wpList_buildG (by rfl) 25 #[] (by rfl) (slA slZ) built_slZ ?_)
      | (refine wpList_set_row (by rfl) 25 (.tmp 8) (.tmp 21) (by rfl) (by rfl) w.heap.size (slA slZ) (by rfl) (by rfl) 25 _ hr3.out pi.out rfl po.out ?_; intro w6 hd6 hz6 hg6; replace hd6 := Lib.hid hd6; replace hg6 := Lib.hid hg6; clear hz6))
    exact bodyPost_ret (v := .tuple #[.agg (slA slZ), .int .i64 390]) (results_row_tmp rfl _ _ w.heap.size 25 (slA slZ) (0, 0) _ _ rfl rfl hd6.out Tryd.underlying25 (by rfl) pi.out) rfl ⟨rfl, hB3.out.grown hg6.out hB3.out.size (fun k e => by have := Option.some.inj e; omega)⟩
end Go.Proofs.YtnccbhndlnkboaaDoor
