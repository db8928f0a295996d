/- Openings that lie in a slice. -/
import Derived.Test.YtnccbhndlnkboaaDoorSealM
import Derived.Test.YtnccbhndlnkboaaDoorDoor
import Derived.ProofKit
namespace Go.Proofs.YtnccbhndlnkboaaDoor
open Go.RowKit Go.Shelf Cdc Sha
set_option linter.unusedVariables false
set_option linter.unusedSimpArgs false

/-- a list of openings lies at a slice, their paths somewhere -/
def OsAt (w : World) (A : Option Addr) (l : List Op) : Prop := ∀ i y, l[i]? = some y → ∃ b o P cp, A = some ⟨b, o, none⟩ ∧ b < w.heap.size ∧ (w.cell? ⟨b, o + i * 4 + 0, none⟩ = some (.int .i64 y.day) ∧ w.cell? ⟨b, o + i * 4 + 1, none⟩ = some (.int .i64 y.salt) ∧ w.cell? ⟨b, o + i * 4 + 2, none⟩ = some (.bool y.bl) ∧ w.cell? ⟨b, o + i * 4 + 3, none⟩ = some (.slice P y.path.length cp)) ∧ y.path.length ≤ cp ∧ DsAt w P y.path
theorem cell_belowB {w w' : World} {b o : Nat} {v : Value} (h : w.cell? ⟨b, o, none⟩ = some v) (hlt : b < w.heap.size) (hb : Below w.heap.size w w') : w'.cell? ⟨b, o, none⟩ = some v :=
  (World.cell?_of_block (w := w) (a := ⟨b, o, none⟩) (hb.block b hlt)).trans h
theorem OsAt.below {w w' : World} {A : Option Addr} {l : List Op} (h : OsAt w A l) (hb : Below w.heap.size w w') : OsAt w' A l := fun i y hy => by
  obtain ⟨b, o, P, cp, hA, hlt, ⟨h0, h1, h2, h3⟩, hc, hd⟩ := h i y hy
  exact ⟨b, o, P, cp, hA, Nat.lt_of_lt_of_le hlt hb.size, ⟨cell_belowB h0 hlt hb, cell_belowB h1 hlt hb, cell_belowB h2 hlt hb, cell_belowB h3 hlt hb⟩, hc, hd.below hb⟩
theorem os_nil (w : World) (A : Option Addr) : OsAt w A [] := fun i y hy => by simp at hy
/-- a charge -/
structure Ch where
  no : Int
  team : Int
  day : Int
  due : Int
  bl : Bool
structure ChI (c : Ch) : Prop where
  no : I64 c.no
  team : I64 c.team
  day : I64 c.day
  due : I64 c.due
def chA (c : Ch) : Array Value := #[.int .i64 c.no, .int .i64 c.team, .int .i64 c.day, .int .i64 c.due, .bool c.bl]
end Go.Proofs.YtnccbhndlnkboaaDoor
/- Seals, openings, charges, lists of booleans and of numbers as arguments, opened. -/
namespace Go.Proofs.YtnccbhndlnkboaaDoor
open Go.RowKit Go.WideShapes Sha Cdc
set_option linter.unusedVariables false
set_option linter.unusedSimpArgs false

theorem dcells : Tryd.prog.cellsOf 23 = 32 := by kernel_rfl
theorem ucells : Tryd.prog.cellsOf 5 = 1 := by kernel_rfl
theorem ncells : Tryd.prog.cellsOf 3 = 1 := by kernel_rfl
theorem ocells : Tryd.prog.cellsOf 4 = 1 := by kernel_rfl
theorem slcells : Tryd.prog.cellsOf 25 = 35 := by kernel_rfl
theorem opcells : Tryd.prog.cellsOf 33 = 4 := by kernel_rfl
theorem chcells : Tryd.prog.cellsOf 27 = 5 := by kernel_rfl
theorem dscells : Tryd.prog.cellsOf 31 = 1 := by kernel_rfl
theorem take1 {α : Type} (l : List α) (j : Nat) (v : α) (h : l[j]? = some v) : (l.drop j).take 1 = [v] := by
  rw [List.take_one, List.head?_drop, h]
  rfl

variable {H : Type} {enc : TypeId × Value → H} {w : World} {sp : Nat → Bool} {hd : Bool}

theorem int_at {m : Nat} {cs : List Value} {j : Nat} {c : Value} {y : DataW H × List MemPlace} (hc : cs[j]? = some c) (f : DataW.trod enc Tryd.prog w 0 sp hd m 3 ((cs.drop j).take (Tryd.prog.cellsOf 3)) = some y) : ∃ a : Int, c = .int .i64 a ∧ I64 a := by
  rw [ncells, take1 cs j c hc] at f
  obtain ⟨a, ha, _, wa⟩ := DataW.trod_int Tryd.underlying3 f
  injection ha with ha _
  exact ⟨a, ha, bounds_i64 wa⟩
theorem bool_at {m : Nat} {cs : List Value} {j : Nat} {c : Value} {y : DataW H × List MemPlace} (hc : cs[j]? = some c) (f : DataW.trod enc Tryd.prog w 0 sp hd m 4 ((cs.drop j).take (Tryd.prog.cellsOf 4)) = some y) : ∃ a : Bool, c = .bool a := by
  rw [ocells, take1 cs j c hc] at f
  obtain ⟨a, ha, _⟩ := DataW.trod_bool Tryd.underlying4 f
  injection ha with ha _
  exact ⟨a, ha⟩
/-- a digest read at a place of a list of cells -/
theorem dig_at {m : Nat} {cs : List Value} {j : Nat} {y : DataW H × List MemPlace} (hl : j + 32 ≤ cs.length) (f : DataW.trod enc Tryd.prog w 0 sp hd m 23 ((cs.drop j).take (Tryd.prog.cellsOf 23)) = some y) : ∃ ps : List UInt8, ps.length = 32 ∧ (cs.drop j).take 32 = dc ps := by
  rw [dcells] at f
  obtain ⟨ys, k, _, _, hyl, hys, hy⟩ := DataW.trod_array Tryd.underlying23 f
  rw [ucells] at hy
  have each : ∀ i, i < 32 → ∃ z : UInt8, cs[j + i]? = some (by1 z) := by
    intro i hi
    obtain ⟨c, hc⟩ : ∃ c, cs[j + i]? = some c := ⟨_, List.getElem?_eq_getElem (by omega)⟩
    have h1 := hy i hi
    rw [Nat.mul_one, take1 _ i c (by rw [List.getElem?_take, if_pos hi, List.getElem?_drop]; exact hc), List.getElem?_eq_getElem (by omega)] at h1
    obtain ⟨z, hz, _, wz⟩ := DataW.trod_int Tryd.underlying5 h1
    have hb := bounds_u8 wz
    refine ⟨UInt8.ofNat z.toNat, hc.trans ?_⟩
    injection hz with hz _
    rw [hz]
    simp [by1]
    omega
  obtain ⟨ps, hpl, hps⟩ := list_of' 32 each
  refine ⟨ps, hpl, List.ext_getElem? fun i => ?_⟩
  rw [List.getElem?_take, dc, List.getElem?_map]
  split
  · rename_i hi
    obtain ⟨z, hz⟩ : ∃ z, ps[i]? = some z := ⟨_, List.getElem?_eq_getElem (by omega)⟩
    rw [List.getElem?_drop, hps i z hz, hz]
    rfl
  · rw [List.getElem?_eq_none (by omega)]
    rfl
/-- cells of a value that is read as a row -/
theorem first_mid {α : Type} {a : Addr} {k : Nat} (hk : 0 < k) (L : List α) (i : Nat) (hi : i < L.length) (C : α → List Value) (hC : ∀ x ∈ L, (C x).length = k) (h : ∀ i x, L[i]? = some x → w.cells? 0 (a.add (i * k)) k = some (C x)) : a = ⟨a.block, a.off, none⟩ := by
  obtain ⟨y0, hy0⟩ : ∃ y0, L[0]? = some y0 := ⟨_, List.getElem?_eq_getElem (by omega)⟩
  have g1 := h 0 y0 hy0
  obtain ⟨_, _, g3⟩ := World.cells?_some g1
  have := g3 0 hk
  have hl := hC y0 (List.mem_of_getElem? hy0)
  rw [List.getElem?_eq_getElem (by omega)] at this
  simp [Addr.add] at this
  exact spot_of_cell this

/-- what a reading of a slice of digests says -/
theorem digs_of_trod {m : Nat} {v : Value} {x : DataW H × List MemPlace} (h : DataW.trod enc Tryd.prog w 0 sp hd m 31 [v] = some x) :
    ∃ (l : List (List UInt8)) (A : Option Addr) (c : Nat), v = .slice A l.length c ∧ l.length ≤ c ∧ DsAt w A l ∧ (∀ y ∈ l, y.length = 32) := by
  rcases DataW.trod_slice Tryd.underlying31 h with ⟨he, _⟩ | ⟨a, len, cap, elems, rest, n, hn, he, _, _, hlc, hcm, hel, hat, _, _⟩
  · simp at he
    exact ⟨[], none, 0, he, Nat.le_refl _, fun i y hy => by simp at hy, fun y hy => by simp at hy⟩
  · simp at he
    rw [dcells] at hat
    have each : ∀ i, i < len → ∃ y : List UInt8, w.cells? 0 (a.add (i * 32)) 32 = some (dc y) ∧ y.length = 32 := by
      intro i hi
      have h1 := hat i hi
      rw [List.getElem?_eq_getElem (by omega), Option.bind_eq_some_iff] at h1
      obtain ⟨cs', hc, ht⟩ := h1
      obtain ⟨hl9, _, _⟩ := World.cells?_some hc
      obtain ⟨y, h2, h3⟩ := dig_at (cs := cs') (j := 0) (by omega) (by rw [dcells, List.drop_zero, List.take_of_length_le (by omega)]; exact ht)
      rw [List.drop_zero, List.take_of_length_le (by omega)] at h3
      exact ⟨y, h3 ▸ hc, h2⟩
    obtain ⟨L, hl, hq⟩ := list_of' len each
    subst hl
    have hI : ∀ y ∈ L, y.length = 32 := fun y hy => by
      obtain ⟨i, hi⟩ := List.mem_iff_getElem?.1 hy
      exact (hq i y hi).2
    refine ⟨L, some a, cap, he, hlc, fun i y hy => ?_, hI⟩
    obtain ⟨h1, h2⟩ := hq i y hy
    obtain ⟨hlt9, _, h4⟩ := World.cells?_some h1
    have hlt : i < L.length := (List.getElem?_eq_some_iff.1 hy).1
    have ha : a = ⟨a.block, a.off, none⟩ := first_mid (by decide) L i hlt dc (fun x hx => dc_len (hI x hx)) (fun i x hx => (hq i x hx).1)
    have hr : w.rangeAt a.block (a.off + i * 32) (dc y) := fun j v hj => by
      have hj2 : j < 32 := by
        have := (List.getElem?_eq_some_iff.1 hj).1
        rw [dc_len h2] at this
        exact this
      have k := h4 j hj2
      rw [ha, Addr.add_mid, Addr.add_mid] at k
      rw [k, ← hj]
    refine ⟨a.block, a.off, by rw [← ha], ?_, hr⟩
    obtain ⟨v0, hv0⟩ : ∃ v0, (dc y)[0]? = some v0 := ⟨_, List.getElem?_eq_getElem (by rw [dc_len h2]; decide)⟩
    exact World.block_lt_of_cell? w ⟨a.block, _, none⟩ (hr 0 _ hv0)

/-- what a reading of a seal's cells says -/
theorem openS_any (m : Nat) (cs : List Value) (x : DataW H × List MemPlace) (h : DataW.trod enc Tryd.prog w 0 sp hd m 25 cs = some x) : ∃ s : Sl, cs = slC s ∧ SlI s := by
  obtain ⟨xs, n, hn, rfl, hl, hlen, hf⟩ := DataW.trod_struct Tryd.underlying25 h
  rw [slcells] at hl
  obtain ⟨y0, y1, y2, y3, rfl⟩ : ∃ c0 c1 c2 c3, xs = [c0, c1, c2, c3] := by
    match xs, hlen with
    | [c0, c1, c2, c3], _ => exact ⟨c0, c1, c2, c3, rfl⟩
  obtain ⟨c0, h0⟩ : ∃ c, cs[0]? = some c := ⟨_, List.getElem?_eq_getElem (by omega)⟩
  obtain ⟨c1, h1⟩ : ∃ c, cs[1]? = some c := ⟨_, List.getElem?_eq_getElem (by omega)⟩
  obtain ⟨c2, h2⟩ : ∃ c, cs[2]? = some c := ⟨_, List.getElem?_eq_getElem (by omega)⟩
  obtain ⟨a, rfl, ia⟩ := int_at h0 (hf 0 _ rfl)
  obtain ⟨b, rfl, ib⟩ := int_at h1 (hf 1 _ rfl)
  obtain ⟨c, rfl, ic⟩ := int_at h2 (hf 2 _ rfl)
  obtain ⟨r, hr, hr2⟩ := dig_at (cs := cs) (j := 3) (by omega) (hf 3 _ rfl)
  refine ⟨⟨a, b, c, r⟩, ?_, ia, ib, ic, hr⟩
  rw [List.take_of_length_le (by rw [List.length_drop]; omega)] at hr2
  apply List.ext_getElem?
  intro j
  match j with
  | 0 => exact h0
  | 1 => exact h1
  | 2 => exact h2
  | j + 3 =>
    simp only [slC, List.getElem?_cons_succ]
    rw [← hr2, List.getElem?_drop, show j + 3 = 3 + j by omega]
set_option maxRecDepth 100000 in
theorem open_sealD {r : Reach} {b0 : Nat} {v : Value} {d : DataW H} {p : List MemPlace} (hv : Value.okWide Tryd.prog w r b0 25 v) (h : DataW.Trod enc Tryd.prog w 0 sp hd 25 v d p) :
    ∃ s : Sl, v = .agg (slA s) ∧ SlI s := by
  obtain ⟨cs, rfl, hsz⟩ := okWide_struct Tryd.underlying25 hv
  obtain ⟨m, hm⟩ := h
  obtain ⟨y, hcs, hI⟩ := openS_any m cs.toList _ hm
  refine ⟨y, ?_, hI⟩
  unfold slA
  rw [← hcs]

set_option maxRecDepth 100000 in
/-- what a reading of an opening's cells says -/
theorem openO_any (m : Nat) (cs : List Value) (x : DataW H × List MemPlace) (h : DataW.trod enc Tryd.prog w 0 sp hd m 33 cs = some x) :
    ∃ (y : Op) (P : Option Addr) (cp : Nat), cs = [.int .i64 y.day, .int .i64 y.salt, .bool y.bl, .slice P y.path.length cp] ∧ y.path.length ≤ cp ∧ DsAt w P y.path ∧ OpI y := by
  obtain ⟨xs, n, hn, rfl, hl, hlen, hf⟩ := DataW.trod_struct Tryd.underlying33 h
  rw [opcells] at hl
  obtain ⟨c0, c1, c2, c3, rfl⟩ : ∃ c0 c1 c2 c3, cs = [c0, c1, c2, c3] := by
    match cs, hl with
    | [c0, c1, c2, c3], _ => exact ⟨c0, c1, c2, c3, rfl⟩
  obtain ⟨y0, y1, y2, y3, rfl⟩ : ∃ c0 c1 c2 c3, xs = [c0, c1, c2, c3] := by
    match xs, hlen with
    | [c0, c1, c2, c3], _ => exact ⟨c0, c1, c2, c3, rfl⟩
  obtain ⟨a, rfl, ia⟩ := int_at (cs := [c0, c1, c2, c3]) (j := 0) rfl (hf 0 _ rfl)
  obtain ⟨b, rfl, ib⟩ := int_at (cs := [_, c1, c2, c3]) (j := 1) rfl (hf 1 _ rfl)
  obtain ⟨bl, rfl⟩ := bool_at (cs := [_, _, c2, c3]) (j := 2) rfl (hf 2 _ rfl)
  have f3 : DataW.trod enc Tryd.prog w 0 sp hd n 31 (([Value.int .i64 a, Value.int .i64 b, Value.bool bl, c3].drop 3).take (Tryd.prog.cellsOf 31)) = some y3 := hf 3 _ rfl
  rw [dscells] at f3
  obtain ⟨l, A, c, rfl, h1, h2, h3⟩ := digs_of_trod f3
  exact ⟨⟨a, b, bl, l⟩, A, c, rfl, h1, h2, ia, ib, h3⟩
set_option maxRecDepth 100000 in
theorem open_openingD {r : Reach} {b0 : Nat} {v : Value} {d : DataW H} {p : List MemPlace} (hv : Value.okWide Tryd.prog w r b0 33 v) (h : DataW.Trod enc Tryd.prog w 0 sp hd 33 v d p) :
    ∃ (y : Op) (P : Option Addr) (cp : Nat), v = .agg (opA y P cp) ∧ y.path.length ≤ cp ∧ DsAt w P y.path ∧ OpI y := by
  obtain ⟨cs, rfl, hsz⟩ := okWide_struct Tryd.underlying33 hv
  obtain ⟨m, hm⟩ := h
  obtain ⟨y, P, cp, hcs, h1, h2, h3⟩ := openO_any m cs.toList _ hm
  refine ⟨y, P, cp, ?_, h1, h2, h3⟩
  have : cs = #[.int .i64 y.day, .int .i64 y.salt, .bool y.bl, .slice P y.path.length cp] := by
    rw [← Array.toArray_toList (xs := cs), hcs]
  rw [this]
  rfl
/-- what a reading of a slice of openings says -/
theorem opens_of_trod {m : Nat} {v : Value} {x : DataW H × List MemPlace} (h : DataW.trod enc Tryd.prog w 0 sp hd m 28 [v] = some x) :
    ∃ (l : List Op) (A : Option Addr) (c : Nat), v = .slice A l.length c ∧ l.length ≤ c ∧ (A = none → c = 0) ∧ l.length ≤ maxLen ∧ OsAt w A l ∧ (∀ y ∈ l, OpI y) := by
  rcases DataW.trod_slice Tryd.underlying28 h with ⟨he, _⟩ | ⟨a, len, cap, elems, rest, n, hn, he, _, _, hlc, hcm, hel, hat, _, _⟩
  · simp at he
    exact ⟨[], none, 0, he, Nat.le_refl _, fun _ => rfl, by simp [maxLen], fun i y hy => by simp at hy, fun y hy => by simp at hy⟩
  · simp at he
    rw [opcells] at hat
    have each : ∀ i, i < len → ∃ (z : Op × Option Addr × Nat), w.cells? 0 (a.add (i * 4)) 4 = some [.int .i64 z.1.day, .int .i64 z.1.salt, .bool z.1.bl, .slice z.2.1 z.1.path.length z.2.2] ∧ z.1.path.length ≤ z.2.2 ∧ DsAt w z.2.1 z.1.path ∧ OpI z.1 := by
      intro i hi
      have h1 := hat i hi
      rw [List.getElem?_eq_getElem (by omega), Option.bind_eq_some_iff] at h1
      obtain ⟨cs', hc, ht⟩ := h1
      obtain ⟨y, P, cp, rfl, h2, h3, h4⟩ := openO_any n cs' _ ht
      exact ⟨(y, P, cp), hc, h2, h3, h4⟩
    obtain ⟨L, hl, hq⟩ := list_of' len each
    subst hl
    refine ⟨L.map (·.1), some a, cap, by rw [List.length_map]; exact he, by rw [List.length_map]; exact hlc, (fun e => by cases e), by rw [List.length_map]; exact Nat.le_trans hlc hcm, fun i y hy => ?_, fun y hy => ?_⟩
    · rw [List.getElem?_map] at hy
      obtain ⟨z, hz, rfl⟩ := Option.map_eq_some_iff.1 hy
      obtain ⟨h1, h2, h3, h4⟩ := hq i z hz
      obtain ⟨_, _, h5⟩ := World.cells?_some h1
      have hlt : i < L.length := (List.getElem?_eq_some_iff.1 hz).1
      have ha : a = ⟨a.block, a.off, none⟩ := first_mid (by decide) L i hlt (fun z => [.int .i64 z.1.day, .int .i64 z.1.salt, .bool z.1.bl, .slice z.2.1 z.1.path.length z.2.2]) (fun x hx => rfl) (fun i x hx => (hq i x hx).1)
      have hr : ∀ j, j < 4 → w.cell? ⟨a.block, a.off + i * 4 + j, none⟩ = [Value.int .i64 z.1.day, .int .i64 z.1.salt, .bool z.1.bl, .slice z.2.1 z.1.path.length z.2.2][j]? := fun j hj => by
        have k := h5 j hj
        rw [ha, Addr.add_mid, Addr.add_mid] at k
        exact k
      have r0 := hr 0 (by decide)
      exact ⟨a.block, a.off, z.2.1, z.2.2, by rw [← ha], World.block_lt_of_cell? w ⟨a.block, _, none⟩ r0, ⟨r0, hr 1 (by decide), hr 2 (by decide), hr 3 (by decide)⟩, h2, h3⟩
    · obtain ⟨z, hz, rfl⟩ := List.mem_map.1 hy
      obtain ⟨i, hi⟩ := List.mem_iff_getElem?.1 hz
      exact (hq i z hi).2.2.2
set_option maxRecDepth 100000 in
theorem open_openingsD {r : Reach} {b0 : Nat} {v : Value} {d : DataW H} {p : List MemPlace} (hv : Value.okWide Tryd.prog w r b0 28 v) (h : DataW.Trod enc Tryd.prog w 0 sp hd 28 v d p) :
    ∃ (l : List Op) (A : Option Addr) (c : Nat), v = .slice A l.length c ∧ l.length ≤ c ∧ (A = none → c = 0) ∧ l.length ≤ maxLen ∧ OsAt w A l ∧ (∀ y ∈ l, OpI y) := by
  obtain ⟨a, m, cap, rfl⟩ := okWide_slice Tryd.underlying28 hv
  obtain ⟨n, hn⟩ := h
  exact opens_of_trod hn

/-- a list of booleans, of numbers -/
theorem bools_of_trod {m : Nat} {v : Value} {x : DataW H × List MemPlace} (h : DataW.trod enc Tryd.prog w 0 sp hd m 39 [v] = some x) :
    ∃ (l : List Bool) (A : Option Addr) (c : Nat), v = .slice A l.length c ∧ l.length ≤ c ∧ l.length ≤ maxLen ∧ BoAt w A l := by
  rcases DataW.trod_slice Tryd.underlying39 h with ⟨he, _⟩ | ⟨a, len, cap, elems, rest, n, hn, he, _, _, hlc, hcm, hel, hat, _, _⟩
  · simp at he
    exact ⟨[], none, 0, he, Nat.le_refl _, by simp [maxLen], fun i y hy => by simp at hy⟩
  · simp at he
    rw [ocells] at hat
    have each : ∀ i, i < len → ∃ y : Bool, w.cells? 0 (a.add (i * 1)) 1 = some [.bool y] := by
      intro i hi
      have h1 := hat i hi
      rw [List.getElem?_eq_getElem (by omega), Option.bind_eq_some_iff] at h1
      obtain ⟨cs', hc, ht⟩ := h1
      obtain ⟨b, rfl, _⟩ := DataW.trod_bool Tryd.underlying4 ht
      exact ⟨b, hc⟩
    obtain ⟨L, hl, hq⟩ := list_of' len each
    subst hl
    refine ⟨L, some a, cap, he, hlc, Nat.le_trans hlc hcm, fun i y hy => ?_⟩
    obtain ⟨_, _, h5⟩ := World.cells?_some (hq i y hy)
    have hlt : i < L.length := (List.getElem?_eq_some_iff.1 hy).1
    have ha : a = ⟨a.block, a.off, none⟩ := first_mid (by decide) L i hlt (fun z => [Value.bool z]) (fun x hx => rfl) hq
    have k := h5 0 (by decide)
    rw [ha, Addr.add_mid, Addr.add_mid, Nat.mul_one] at k
    exact ⟨a.block, a.off, by rw [← ha], k⟩
theorem nums_of_trod {m : Nat} {v : Value} {x : DataW H × List MemPlace} (h : DataW.trod enc Tryd.prog w 0 sp hd m 40 [v] = some x) :
    ∃ (l : List Int) (A : Option Addr) (c : Nat), v = .slice A l.length c ∧ l.length ≤ c ∧ l.length ≤ maxLen ∧ InAt w A l ∧ ∀ y ∈ l, I64 y := by
  rcases DataW.trod_slice Tryd.underlying40 h with ⟨he, _⟩ | ⟨a, len, cap, elems, rest, n, hn, he, _, _, hlc, hcm, hel, hat, _, _⟩
  · simp at he
    exact ⟨[], none, 0, he, Nat.le_refl _, by simp [maxLen], fun i y hy => by simp at hy, fun y hy => by simp at hy⟩
  · simp at he
    rw [ncells] at hat
    have each : ∀ i, i < len → ∃ y : Int, w.cells? 0 (a.add (i * 1)) 1 = some [.int .i64 y] ∧ I64 y := by
      intro i hi
      have h1 := hat i hi
      rw [List.getElem?_eq_getElem (by omega), Option.bind_eq_some_iff] at h1
      obtain ⟨cs', hc, ht⟩ := h1
      obtain ⟨b, rfl, _, wb⟩ := DataW.trod_int Tryd.underlying3 ht
      exact ⟨b, hc, bounds_i64 wb⟩
    obtain ⟨L, hl, hq⟩ := list_of' len each
    subst hl
    refine ⟨L, some a, cap, he, hlc, Nat.le_trans hlc hcm, fun i y hy => ?_, fun y hy => ?_⟩
    · obtain ⟨_, _, h5⟩ := World.cells?_some (hq i y hy).1
      have hlt : i < L.length := (List.getElem?_eq_some_iff.1 hy).1
      have ha : a = ⟨a.block, a.off, none⟩ := first_mid (by decide) L i hlt (fun z => [Value.int .i64 z]) (fun x hx => rfl) (fun i x hx => (hq i x hx).1)
      have k := h5 0 (by decide)
      rw [ha, Addr.add_mid, Addr.add_mid, Nat.mul_one] at k
      exact ⟨a.block, a.off, by rw [← ha], k⟩
    · obtain ⟨i, hi⟩ := List.mem_iff_getElem?.1 hy
      exact (hq i y hi).2
set_option maxRecDepth 100000 in
theorem open_boolsD {r : Reach} {b0 : Nat} {v : Value} {d : DataW H} {p : List MemPlace} (hv : Value.okWide Tryd.prog w r b0 39 v) (h : DataW.Trod enc Tryd.prog w 0 sp hd 39 v d p) :
    ∃ (l : List Bool) (A : Option Addr) (c : Nat), v = .slice A l.length c ∧ l.length ≤ c ∧ l.length ≤ maxLen ∧ BoAt w A l := by
  obtain ⟨a, m, cap, rfl⟩ := okWide_slice Tryd.underlying39 hv
  obtain ⟨n, hn⟩ := h
  exact bools_of_trod hn
set_option maxRecDepth 100000 in
theorem open_numsD {r : Reach} {b0 : Nat} {v : Value} {d : DataW H} {p : List MemPlace} (hv : Value.okWide Tryd.prog w r b0 40 v) (h : DataW.Trod enc Tryd.prog w 0 sp hd 40 v d p) :
    ∃ (l : List Int) (A : Option Addr) (c : Nat), v = .slice A l.length c ∧ l.length ≤ c ∧ l.length ≤ maxLen ∧ InAt w A l ∧ ∀ y ∈ l, I64 y := by
  obtain ⟨a, m, cap, rfl⟩ := okWide_slice Tryd.underlying40 hv
  obtain ⟨n, hn⟩ := h
  exact nums_of_trod hn

set_option maxRecDepth 100000 in
theorem open_chargeD {r : Reach} {b0 : Nat} {v : Value} {d : DataW H} {p : List MemPlace} (hv : Value.okWide Tryd.prog w r b0 27 v) (h : DataW.Trod enc Tryd.prog w 0 sp hd 27 v d p) :
    ∃ c : Ch, v = .agg (chA c) ∧ ChI c := by
  obtain ⟨cs, rfl, hsz⟩ := okWide_struct Tryd.underlying27 hv
  obtain ⟨m, hm⟩ := h
  replace hm : DataW.trod enc Tryd.prog w 0 sp hd m 27 cs.toList = some (d, p) := hm
  obtain ⟨xs, n, hn, -, hl, hlen, hf⟩ := DataW.trod_struct Tryd.underlying27 hm
  rw [chcells] at hl
  obtain ⟨c0, c1, c2, c3, c4, hcs⟩ : ∃ c0 c1 c2 c3 c4, cs.toList = [c0, c1, c2, c3, c4] := by
    match cs.toList, hl with
    | [c0, c1, c2, c3, c4], _ => exact ⟨c0, c1, c2, c3, c4, rfl⟩
  obtain ⟨y0, y1, y2, y3, y4, rfl⟩ : ∃ c0 c1 c2 c3 c4, xs = [c0, c1, c2, c3, c4] := by
    match xs, hlen with
    | [c0, c1, c2, c3, c4], _ => exact ⟨c0, c1, c2, c3, c4, rfl⟩
  rw [hcs] at hf
  obtain ⟨a, rfl, ia⟩ := int_at (cs := [c0, c1, c2, c3, c4]) (j := 0) rfl (hf 0 _ rfl)
  obtain ⟨b, rfl, ib⟩ := int_at (cs := [_, c1, c2, c3, c4]) (j := 1) rfl (hf 1 _ rfl)
  obtain ⟨c, rfl, ic⟩ := int_at (cs := [_, _, c2, c3, c4]) (j := 2) rfl (hf 2 _ rfl)
  obtain ⟨e, rfl, ie⟩ := int_at (cs := [_, _, _, c3, c4]) (j := 3) rfl (hf 3 _ rfl)
  obtain ⟨bl, rfl⟩ := bool_at (cs := [_, _, _, _, c4]) (j := 4) rfl (hf 4 _ rfl)
  refine ⟨⟨a, b, c, e, bl⟩, ?_, ia, ib, ic, ie⟩
  have : cs = #[.int .i64 a, .int .i64 b, .int .i64 c, .int .i64 e, .bool bl] := by
    rw [← Array.toArray_toList (xs := cs), hcs]
  rw [this]
  rfl
end Go.Proofs.YtnccbhndlnkboaaDoor
