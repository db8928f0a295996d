/- Posts and calendars as arguments, opened. -/
import Derived.Test.YthokpfegfnpmhaaDoorDoor
import Derived.Test.YthokpfegfnpmhaaDoorPoEq
import Derived.ProofKit
import Derived.Test.YthokpfegfnpmhaaDoorOffFind
namespace Go.Proofs.YthokpfegfnpmhaaDoor
open Go.RowKit Go.WideShapes Sha Cdc
set_option linter.unusedVariables false
set_option linter.unusedSimpArgs false

theorem dcells : Tryd.prog.cellsOf 35 = 32 := by kernel_rfl
theorem ucells : Tryd.prog.cellsOf 5 = 1 := by kernel_rfl
theorem ncells : Tryd.prog.cellsOf 3 = 1 := by kernel_rfl
theorem take1 {α : Type} (l : List α) (j : Nat) (v : α) (h : l[j]? = some v) : (l.drop j).take 1 = [v] := by
  rw [List.take_one, List.head?_drop, h]
  rfl
theorem pcells : Tryd.prog.cellsOf 49 = 35 := by kernel_rfl
theorem scells : Tryd.prog.cellsOf 47 = 2 := by kernel_rfl
theorem fcells : Tryd.prog.cellsOf 90 = 3 := by kernel_rfl
theorem ccells : Tryd.prog.cellsOf 45 = 2 := by kernel_rfl
theorem xcells : Tryd.prog.cellsOf 43 = 1 := by kernel_rfl

variable {H : Type} {enc : TypeId × Value → H} {w : World} {sp : Nat → Bool} {hd : Bool}

theorem int_at {m : Nat} {cs : List Value} {j : Nat} {c : Value} {y : DataW H × List MemPlace} (hc : cs[j]? = some c) (f : DataW.trod enc Tryd.prog w 0 sp hd m 3 ((cs.drop j).take (Tryd.prog.cellsOf 3)) = some y) : ∃ a : Int, c = .int .i64 a ∧ I64 a := by
  rw [ncells, take1 cs j c hc] at f
  obtain ⟨a, ha, _, wa⟩ := DataW.trod_int Tryd.underlying3 f
  injection ha with ha _
  exact ⟨a, ha, bounds_i64 wa⟩

theorem openP_any (m : Nat) (cs : List Value) (x : DataW H × List MemPlace) (h : DataW.trod enc Tryd.prog w 0 sp hd m 49 cs = some x) : ∃ p : Po, cs = poC p ∧ PoI p := by
  obtain ⟨xs, n, hn, rfl, hl, hlen, hf⟩ := DataW.trod_struct Tryd.underlying49 h
  rw [pcells] at hl
  obtain ⟨y0, y1, y2, rfl⟩ : ∃ c0 c1 c2, xs = [c0, c1, c2] := by
    match xs, hlen with
    | [c0, c1, c2], _ => exact ⟨c0, c1, c2, rfl⟩
  have f0 : DataW.trod enc Tryd.prog w 0 sp hd n 3 ((cs.drop 0).take (Tryd.prog.cellsOf 3)) = some y0 := hf 0 _ rfl
  have f1 : DataW.trod enc Tryd.prog w 0 sp hd n 35 ((cs.drop 1).take (Tryd.prog.cellsOf 35)) = some y1 := hf 1 _ rfl
  have f2 : DataW.trod enc Tryd.prog w 0 sp hd n 47 ((cs.drop 33).take (Tryd.prog.cellsOf 47)) = some y2 := hf 2 _ rfl
  obtain ⟨c0, h0⟩ : ∃ c, cs[0]? = some c := ⟨_, List.getElem?_eq_getElem (by omega)⟩
  obtain ⟨c33, h33⟩ : ∃ c, cs[33]? = some c := ⟨_, List.getElem?_eq_getElem (by omega)⟩
  obtain ⟨c34, h34⟩ : ∃ c, cs[34]? = some c := ⟨_, List.getElem?_eq_getElem (by omega)⟩
  obtain ⟨a, rfl, ia⟩ := int_at h0 f0
  rw [scells] at f2
  obtain ⟨zs, n2, hn2, _, hl2, hlen2, hf2⟩ := DataW.trod_struct Tryd.underlying47 f2
  obtain ⟨z0, z1, rfl⟩ : ∃ c0 c1, zs = [c0, c1] := by
    match zs, hlen2 with
    | [c0, c1], _ => exact ⟨c0, c1, rfl⟩
  have g0 : DataW.trod enc Tryd.prog w 0 sp hd n2 3 ((((cs.drop 33).take 2).drop 0).take (Tryd.prog.cellsOf 3)) = some z0 := hf2 0 _ rfl
  have g1 : DataW.trod enc Tryd.prog w 0 sp hd n2 3 ((((cs.drop 33).take 2).drop 1).take (Tryd.prog.cellsOf 3)) = some z1 := hf2 1 _ rfl
  obtain ⟨e, rfl, ie⟩ := int_at (c := c33) (by rw [List.getElem?_take, if_pos (by decide), List.getElem?_drop]; exact h33) g0
  obtain ⟨s, rfl, is⟩ := int_at (c := c34) (by rw [List.getElem?_take, if_pos (by decide), List.getElem?_drop]; exact h34) g1
  rw [dcells] at f1
  obtain ⟨ys, k, _, _, hyl, hys, hy⟩ := DataW.trod_array Tryd.underlying35 f1
  rw [ucells] at hy
  have each : ∀ i, i < 32 → ∃ z : UInt8, cs[1 + i]? = some (by1 z) := by
    intro i hi
    obtain ⟨c, hc⟩ : ∃ c, cs[1 + i]? = some c := ⟨_, List.getElem?_eq_getElem (by omega)⟩
    have h1 := hy i hi
    rw [Nat.mul_one, take1 _ i c (by rw [List.getElem?_take, if_pos hi, List.getElem?_drop]; exact hc), List.getElem?_eq_getElem (by omega)] at h1
    obtain ⟨z, hz, _, wz⟩ := DataW.trod_int Tryd.underlying5 h1
    have hb := bounds_u8 wz
    refine ⟨UInt8.ofNat z.toNat, hc.trans ?_⟩
    injection hz with hz _
    rw [hz]
    simp [by1]
    omega
  obtain ⟨ps, hpl, hps⟩ := list_of' 32 each
  refine ⟨⟨a, ps, e, s⟩, ?_, ia, hpl, ie, is⟩
  apply List.ext_getElem?
  intro j
  match j with
  | 0 => exact h0
  | j + 1 =>
    simp only [poC, List.getElem?_cons_succ]
    rcases Nat.lt_or_ge j 32 with hj | hj
    · rw [List.getElem?_append_left (by simp [hpl, hj]), List.getElem?_map]
      obtain ⟨z, hz⟩ : ∃ z, ps[j]? = some z := ⟨_, List.getElem?_eq_getElem (by omega)⟩
      rw [hz, show j + 1 = 1 + j by omega, hps j z hz]
      rfl
    · rw [List.getElem?_append_right (by simp [hpl, hj])]
      by_cases e1 : j = 32
      · subst e1
        rw [h33]
        simp [hpl]
      · by_cases e2 : j = 33
        · subst e2
          rw [h34]
          simp [hpl]
        · rw [List.getElem?_eq_none (by omega), List.getElem?_eq_none (by simp [hpl]; omega)]

/-- cells of a value that is read as a row -/
theorem first_mid {α : Type} {a : Addr} {k : Nat} (hk : 0 < k) (L : List α) (i : Nat) (hi : i < L.length) (C : α → List Value) (hC : ∀ x ∈ L, (C x).length = k) (h : ∀ i x, L[i]? = some x → w.cells? 0 (a.add (i * k)) k = some (C x)) : a = ⟨a.block, a.off, none⟩ := by
  obtain ⟨y0, hy0⟩ : ∃ y0, L[0]? = some y0 := ⟨_, List.getElem?_eq_getElem (by omega)⟩
  have g1 := h 0 y0 hy0
  obtain ⟨_, _, g3⟩ := World.cells?_some g1
  have := g3 0 hk
  have hl := hC y0 (List.mem_of_getElem? hy0)
  rw [List.getElem?_eq_getElem (by omega)] at this
  simp [Addr.add] at this
  exact spot_of_cell this

/-- what a reading of a slice of posts says -/
theorem posts_of_trod {m : Nat} {v : Value} {x : DataW H × List MemPlace} (h : DataW.trod enc Tryd.prog w 0 sp hd m 53 [v] = some x) :
    ∃ (l : List Po) (A : Option Addr) (c : Nat), v = .slice A l.length c ∧ l.length ≤ c ∧ (A = none → c = 0) ∧ PsAt w A l ∧ (∀ y ∈ l, PoI y) := by
  rcases DataW.trod_slice Tryd.underlying53 h with ⟨he, _⟩ | ⟨a, len, cap, elems, rest, n, hn, he, _, _, hlc, hcm, hel, hat, _, _⟩
  · simp at he
    exact ⟨[], none, 0, he, Nat.le_refl _, fun _ => rfl, fun i y hy => by simp at hy, fun y hy => by simp at hy⟩
  · simp at he
    rw [pcells] at hat
    have each : ∀ i, i < len → ∃ y : Po, w.cells? 0 (a.add (i * 35)) 35 = some (poC y) ∧ PoI y := by
      intro i hi
      have h1 := hat i hi
      rw [List.getElem?_eq_getElem (by omega), Option.bind_eq_some_iff] at h1
      obtain ⟨cs', hc, ht⟩ := h1
      obtain ⟨y, rfl, h2⟩ := openP_any n cs' _ ht
      exact ⟨y, hc, h2⟩
    obtain ⟨L, hl, hq⟩ := list_of' len each
    subst hl
    have hI : ∀ y ∈ L, PoI y := fun y hy => by
      obtain ⟨i, hi⟩ := List.mem_iff_getElem?.1 hy
      exact (hq i y hi).2
    refine ⟨L, some a, cap, he, hlc, (fun e => by cases e), fun i y hy => ?_, hI⟩
    obtain ⟨h1, h2⟩ := hq i y hy
    obtain ⟨hlt9, _, h4⟩ := World.cells?_some h1
    have hlt : i < L.length := (List.getElem?_eq_some_iff.1 hy).1
    have ha : a = ⟨a.block, a.off, none⟩ := first_mid (by decide) L i hlt poC (fun x hx => poC_len (hI x hx).root) (fun i x hx => (hq i x hx).1)
    have hr : w.rangeAt a.block (a.off + i * 35) (poC y) := fun j v hj => by
      have hj2 : j < 35 := by
        have := (List.getElem?_eq_some_iff.1 hj).1
        rw [poC_len h2.root] at this
        exact this
      have k := h4 j hj2
      rw [ha, Addr.add_mid, Addr.add_mid] at k
      rw [k, ← hj]
    refine ⟨a.block, a.off, by rw [← ha], ?_, hr⟩
    have := hr 0 _ (by rfl)
    exact World.block_lt_of_cell? w ⟨a.block, _, none⟩ this

set_option maxRecDepth 100000 in
theorem open_postsD {r : Reach} {b0 : Nat} {v : Value} {d : DataW H} {p : List MemPlace} (hv : Value.okWide Tryd.prog w r b0 53 v) (h : DataW.Trod enc Tryd.prog w 0 sp hd 53 v d p) :
    ∃ (l : List Po) (A : Option Addr) (c : Nat), v = .slice A l.length c ∧ l.length ≤ c ∧ (A = none → c = 0) ∧ PsAt w A l ∧ (∀ y ∈ l, PoI y) := by
  obtain ⟨a, m, cap, rfl⟩ := okWide_slice Tryd.underlying53 hv
  obtain ⟨n, hn⟩ := h
  exact posts_of_trod hn
set_option maxRecDepth 100000 in
theorem open_postD {r : Reach} {b0 : Nat} {v : Value} {d : DataW H} {p : List MemPlace} (hv : Value.okWide Tryd.prog w r b0 49 v) (h : DataW.Trod enc Tryd.prog w 0 sp hd 49 v d p) :
    ∃ y : Po, v = .agg (poA y) ∧ PoI y := by
  obtain ⟨cs, rfl, hsz⟩ := okWide_struct Tryd.underlying49 hv
  obtain ⟨m, hm⟩ := h
  obtain ⟨y, hcs, hI⟩ := openP_any m cs.toList _ hm
  refine ⟨y, ?_, hI⟩
  unfold poA
  rw [← hcs]

set_option maxRecDepth 100000 in
theorem openF_any (m : Nat) (cs : List Value) (x : DataW H × List MemPlace) (h : DataW.trod enc Tryd.prog w 0 sp hd m 90 cs = some x) : ∃ f : Fx, cs = fxC f ∧ FxI f := by
  obtain ⟨xs, n, hn, rfl, hl, hlen, hf⟩ := DataW.trod_struct Tryd.underlying90 h
  rw [fcells] at hl
  obtain ⟨c0, c1, c2, rfl⟩ : ∃ c0 c1 c2, cs = [c0, c1, c2] := by
    match cs, hl with
    | [c0, c1, c2], _ => exact ⟨c0, c1, c2, rfl⟩
  obtain ⟨y0, y1, y2, rfl⟩ : ∃ c0 c1 c2, xs = [c0, c1, c2] := by
    match xs, hlen with
    | [c0, c1, c2], _ => exact ⟨c0, c1, c2, rfl⟩
  obtain ⟨a, rfl, ia⟩ := int_at (cs := [c0, c1, c2]) (j := 0) rfl (hf 0 _ rfl)
  obtain ⟨b, rfl, ib⟩ := int_at (cs := [_, c1, c2]) (j := 1) rfl (hf 1 _ rfl)
  obtain ⟨c, rfl, ic⟩ := int_at (cs := [_, _, c2]) (j := 2) rfl (hf 2 _ rfl)
  exact ⟨⟨a, b, c⟩, rfl, ia, ib, ic⟩

/-- what a reading of a slice of fixtures says -/
theorem fixes_of_trod {m : Nat} {v : Value} {x : DataW H × List MemPlace} (h : DataW.trod enc Tryd.prog w 0 sp hd m 43 [v] = some x) :
    ∃ (l : List Fx) (A : Option Addr) (c : Nat), v = .slice A l.length c ∧ l.length ≤ c ∧ FxAt w A l ∧ (∀ y ∈ l, FxI y) := by
  rcases DataW.trod_slice Tryd.underlying43 h with ⟨he, _⟩ | ⟨a, len, cap, elems, rest, n, hn, he, _, _, hlc, hcm, hel, hat, _, _⟩
  · simp at he
    exact ⟨[], none, 0, he, Nat.le_refl _, fun i y hy => by simp at hy, fun y hy => by simp at hy⟩
  · simp at he
    rw [fcells] at hat
    have each : ∀ i, i < len → ∃ y : Fx, w.cells? 0 (a.add (i * 3)) 3 = some (fxC y) ∧ FxI y := by
      intro i hi
      have h1 := hat i hi
      rw [List.getElem?_eq_getElem (by omega), Option.bind_eq_some_iff] at h1
      obtain ⟨cs', hc, ht⟩ := h1
      obtain ⟨y, rfl, h2⟩ := openF_any n cs' _ ht
      exact ⟨y, hc, h2⟩
    obtain ⟨L, hl, hq⟩ := list_of' len each
    subst hl
    have hI : ∀ y ∈ L, FxI y := fun y hy => by
      obtain ⟨i, hi⟩ := List.mem_iff_getElem?.1 hy
      exact (hq i y hi).2
    refine ⟨L, some a, cap, he, hlc, fun i y hy => ?_, hI⟩
    obtain ⟨h1, h2⟩ := hq i y hy
    obtain ⟨_, _, h4⟩ := World.cells?_some h1
    have hlt : i < L.length := (List.getElem?_eq_some_iff.1 hy).1
    have ha : a = ⟨a.block, a.off, none⟩ := first_mid (by decide) L i hlt fxC (fun x hx => rfl) (fun i x hx => (hq i x hx).1)
    have hr : ∀ j, j < 3 → w.cell? ⟨a.block, a.off + i * 3 + j, none⟩ = (fxC y)[j]? := fun j hj => by
      have k := h4 j hj
      rw [ha, Addr.add_mid, Addr.add_mid] at k
      exact k
    have r0 := hr 0 (by decide)
    exact ⟨a.block, a.off, by rw [← ha], World.block_lt_of_cell? w ⟨a.block, _, none⟩ r0, r0, hr 1 (by decide), hr 2 (by decide)⟩

set_option maxRecDepth 100000 in
/-- what a reading of a calendar's cells says -/
theorem openC_any (m : Nat) (cs : List Value) (x : DataW H × List MemPlace) (h : DataW.trod enc Tryd.prog w 0 sp hd m 45 cs = some x) :
    ∃ (y : Cal) (A : Option Addr) (c : Nat), cs = [.int .i64 y.no, .slice A y.fx.length c] ∧ I64 y.no ∧ y.fx.length ≤ c ∧ FxAt w A y.fx ∧ (∀ f ∈ y.fx, FxI f) := by
  obtain ⟨xs, n, hn, rfl, hl, hlen, hf⟩ := DataW.trod_struct Tryd.underlying45 h
  rw [ccells] at hl
  obtain ⟨c0, c1, rfl⟩ : ∃ c0 c1, cs = [c0, c1] := by
    match cs, hl with
    | [c0, c1], _ => exact ⟨c0, c1, rfl⟩
  obtain ⟨y0, y1, rfl⟩ : ∃ c0 c1, xs = [c0, c1] := by
    match xs, hlen with
    | [c0, c1], _ => exact ⟨c0, c1, rfl⟩
  obtain ⟨a, rfl, ia⟩ := int_at (cs := [c0, c1]) (j := 0) rfl (hf 0 _ rfl)
  have f1 : DataW.trod enc Tryd.prog w 0 sp hd n 43 (([Value.int .i64 a, c1].drop 1).take (Tryd.prog.cellsOf 43)) = some y1 := hf 1 _ rfl
  rw [xcells] at f1
  obtain ⟨l, A, c, rfl, h1, h2, h3⟩ := fixes_of_trod f1
  exact ⟨⟨a, l⟩, A, c, rfl, ia, h1, h2, h3⟩
set_option maxRecDepth 100000 in
theorem open_calD {r : Reach} {b0 : Nat} {v : Value} {d : DataW H} {p : List MemPlace} (hv : Value.okWide Tryd.prog w r b0 45 v) (h : DataW.Trod enc Tryd.prog w 0 sp hd 45 v d p) :
    ∃ (y : Cal) (A : Option Addr) (c : Nat), v = .agg #[.int .i64 y.no, .slice A y.fx.length c] ∧ I64 y.no ∧ y.fx.length ≤ c ∧ FxAt w A y.fx ∧ (∀ f ∈ y.fx, FxI f) := by
  obtain ⟨cs, rfl, hsz⟩ := okWide_struct Tryd.underlying45 hv
  obtain ⟨m, hm⟩ := h
  obtain ⟨y, A, c, hcs, h1⟩ := openC_any m cs.toList _ hm
  refine ⟨y, A, c, ?_, h1⟩
  obtain ⟨l⟩ := cs
  simp at hcs
  rw [hcs]

/-- calendars that lie somewhere -/
def CalsAt (w : World) (A : Option Addr) (l : List Cal) : Prop := ∀ i y, l[i]? = some y → ∃ b o B c, A = some ⟨b, o, none⟩ ∧ b < w.heap.size ∧ w.rangeAt b (o + i * 2) [.int .i64 y.no, .slice B y.fx.length c] ∧ y.fx.length ≤ c ∧ FxAt w B y.fx
theorem CalsAt.below {w w' : World} {A : Option Addr} {l : List Cal} (h : CalsAt w A l) (hb : Below w.heap.size w w') : CalsAt w' A l := fun i y hi => by
  obtain ⟨b, o, B, c, hA, hlt, hr, hc, hf⟩ := h i y hi
  exact ⟨b, o, B, c, hA, Nat.lt_of_lt_of_le hlt hb.size, range_belowB hr hlt hb, hc, hf.below hb⟩
theorem cals_of_trod {m : Nat} {v : Value} {x : DataW H × List MemPlace} (h : DataW.trod enc Tryd.prog w 0 sp hd m 62 [v] = some x) :
    ∃ (l : List Cal) (A : Option Addr) (c : Nat), v = .slice A l.length c ∧ l.length ≤ c ∧ (A = none → c = 0) ∧ CalsAt w A l ∧ (∀ y ∈ l, I64 y.no ∧ ∀ f ∈ y.fx, FxI f) := by
  rcases DataW.trod_slice Tryd.underlying62 h with ⟨he, _⟩ | ⟨a, len, cap, elems, rest, n, hn, he, _, _, hlc, hcm, hel, hat, _, _⟩
  · simp at he
    exact ⟨[], none, 0, he, Nat.le_refl _, fun _ => rfl, fun i y hy => by simp at hy, fun y hy => by simp at hy⟩
  · simp at he
    rw [ccells] at hat
    have each : ∀ i, i < len → ∃ y : Cal × Option Addr × Nat, w.cells? 0 (a.add (i * 2)) 2 = some [.int .i64 y.1.no, .slice y.2.1 y.1.fx.length y.2.2] ∧ I64 y.1.no ∧ y.1.fx.length ≤ y.2.2 ∧ FxAt w y.2.1 y.1.fx ∧ (∀ f ∈ y.1.fx, FxI f) := by
      intro i hi
      have h1 := hat i hi
      rw [List.getElem?_eq_getElem (by omega), Option.bind_eq_some_iff] at h1
      obtain ⟨cs', hc, ht⟩ := h1
      obtain ⟨y, B, c, rfl, h2⟩ := openC_any n cs' _ ht
      exact ⟨(y, B, c), hc, h2⟩
    obtain ⟨L, hl, hq⟩ := list_of' len each
    subst hl
    refine ⟨L.map (·.1), some a, cap, by rw [List.length_map]; exact he, by rw [List.length_map]; exact hlc, (fun e => by cases e), fun i y hy => ?_, fun y hy => ?_⟩
    · rw [List.getElem?_map] at hy
      obtain ⟨z, hz, rfl⟩ := Option.map_eq_some_iff.1 hy
      obtain ⟨h1, _, h2, h3, _⟩ := hq i z hz
      obtain ⟨_, _, h4⟩ := World.cells?_some h1
      have hlt : i < L.length := (List.getElem?_eq_some_iff.1 hz).1
      have ha : a = ⟨a.block, a.off, none⟩ := first_mid (by decide) L i hlt (fun z => [.int .i64 z.1.no, .slice z.2.1 z.1.fx.length z.2.2]) (fun x hx => rfl) (fun i x hx => (hq i x hx).1)
      have hr : w.rangeAt a.block (a.off + i * 2) [.int .i64 z.1.no, .slice z.2.1 z.1.fx.length z.2.2] := fun j v hj => by
        have hj2 : j < 2 := by
          have := (List.getElem?_eq_some_iff.1 hj).1
          exact this
        have k := h4 j hj2
        rw [ha, Addr.add_mid, Addr.add_mid] at k
        rw [k, ← hj]
      exact ⟨a.block, a.off, z.2.1, z.2.2, by rw [← ha], World.block_lt_of_cell? w ⟨a.block, _, none⟩ (hr 0 _ rfl), hr, h2, h3⟩
    · obtain ⟨z, hz, rfl⟩ := List.mem_map.1 hy
      obtain ⟨i, hi⟩ := List.mem_iff_getElem?.1 hz
      exact ⟨(hq i z hi).2.1, (hq i z hi).2.2.2.2⟩
set_option maxRecDepth 100000 in
theorem open_calsD {r : Reach} {b0 : Nat} {v : Value} {d : DataW H} {p : List MemPlace} (hv : Value.okWide Tryd.prog w r b0 62 v) (h : DataW.Trod enc Tryd.prog w 0 sp hd 62 v d p) :
    ∃ (l : List Cal) (A : Option Addr) (c : Nat), v = .slice A l.length c ∧ l.length ≤ c ∧ (A = none → c = 0) ∧ CalsAt w A l ∧ (∀ y ∈ l, I64 y.no ∧ ∀ f ∈ y.fx, FxI f) := by
  obtain ⟨a, m, cap, rfl⟩ := okWide_slice Tryd.underlying62 hv
  obtain ⟨n, hn⟩ := h
  exact cals_of_trod hn
end Go.Proofs.YthokpfegfnpmhaaDoor
