/- Links as arguments, opened. -/
import Derived.Test.YthokpfegfnpmhaaDoorDoor
import Derived.Test.YthokpfegfnpmhaaDoorChF
import Derived.ProofKit
namespace Go.Proofs.YthokpfegfnpmhaaDoor
open Go.RowKit Go.WideShapes Sha Cdc
set_option linter.unusedVariables false
set_option linter.unusedSimpArgs false

theorem kcells : Tryd.prog.cellsOf 37 = 35 := by kernel_rfl
theorem dcells : Tryd.prog.cellsOf 35 = 32 := by kernel_rfl
theorem bcells : Tryd.prog.cellsOf 23 = 1 := by kernel_rfl
theorem ucells : Tryd.prog.cellsOf 5 = 1 := by kernel_rfl
theorem ncells : Tryd.prog.cellsOf 3 = 1 := by kernel_rfl

theorem list_each {α : Type} {Q : Nat → α → Prop} (n : Nat) (h : ∀ i, i < n → ∃ y, Q i y) : ∃ l : List α, l.length = n ∧ ∀ i y, l[i]? = some y → Q i y := list_of' n h

variable {H : Type} {enc : TypeId × Value → H} {w : World} {sp : Nat → Bool} {hd : Bool}

/-- what a reading of a link's cells says -/
def OpenK (w : World) (cs : List Value) : Prop :=
  ∃ (y : Lk) (D : Value), cs = lkC y D ∧ DatAt w D y.data ∧ I64 y.node ∧ I64 y.no ∧ y.prev.length = 32

theorem take1 {α : Type} (l : List α) (j : Nat) (v : α) (h : l[j]? = some v) : (l.drop j).take 1 = [v] := by
  rw [List.take_one, List.head?_drop, h]
  rfl

theorem openK_any (m : Nat) (cs : List Value) (x : DataW H × List MemPlace) (h : DataW.trod enc Tryd.prog w 0 sp hd m 37 cs = some x) : OpenK w cs := by
  obtain ⟨xs, n, hn, rfl, hl, hlen, hf⟩ := DataW.trod_struct Tryd.underlying37 h
  rw [kcells] at hl
  obtain ⟨y0, y1, y2, y3, rfl⟩ : ∃ c0 c1 c2 c3, xs = [c0, c1, c2, c3] := by
    match xs, hlen with
    | [c0, c1, c2, c3], _ => exact ⟨c0, c1, c2, c3, rfl⟩
  have f0 : DataW.trod enc Tryd.prog w 0 sp hd n 3 ((cs.drop 0).take (Tryd.prog.cellsOf 3)) = some y0 := hf 0 _ rfl
  have f1 : DataW.trod enc Tryd.prog w 0 sp hd n 3 ((cs.drop 1).take (Tryd.prog.cellsOf 3)) = some y1 := hf 1 _ rfl
  have f2 : DataW.trod enc Tryd.prog w 0 sp hd n 35 ((cs.drop 2).take (Tryd.prog.cellsOf 35)) = some y2 := hf 2 _ rfl
  have f3 : DataW.trod enc Tryd.prog w 0 sp hd n 23 ((cs.drop 34).take (Tryd.prog.cellsOf 23)) = some y3 := hf 3 _ rfl
  rw [ncells] at f0 f1
  rw [dcells] at f2
  rw [bcells] at f3
  obtain ⟨c0, h0⟩ : ∃ c, cs[0]? = some c := ⟨_, List.getElem?_eq_getElem (by omega)⟩
  obtain ⟨c1, h1⟩ : ∃ c, cs[1]? = some c := ⟨_, List.getElem?_eq_getElem (by omega)⟩
  obtain ⟨c3, h3⟩ : ∃ c, cs[34]? = some c := ⟨_, List.getElem?_eq_getElem (by omega)⟩
  rw [take1 cs 0 c0 h0] at f0
  rw [take1 cs 1 c1 h1] at f1
  rw [take1 cs 34 c3 h3] at f3
  obtain ⟨a, ha, _, wa⟩ := DataW.trod_int Tryd.underlying3 f0
  obtain ⟨b, hb, _, wb⟩ := DataW.trod_int Tryd.underlying3 f1
  obtain ⟨ds, A, cp, hD, hc1, hc2, hat⟩ := bytes_of_trod f3
  obtain ⟨ys, k, _, _, hyl, hys, hy⟩ := DataW.trod_array Tryd.underlying35 f2
  rw [ucells] at hy
  have each : ∀ i, i < 32 → ∃ z : UInt8, cs[2 + i]? = some (by1 z) := by
    intro i hi
    obtain ⟨c, hc⟩ : ∃ c, cs[2 + i]? = some c := ⟨_, List.getElem?_eq_getElem (by omega)⟩
    have h1 := hy i hi
    rw [Nat.mul_one, take1 _ i c (by rw [List.getElem?_take, if_pos hi, List.getElem?_drop]; exact hc), List.getElem?_eq_getElem (by omega)] at h1
    obtain ⟨z, hz, _, wz⟩ := DataW.trod_int Tryd.underlying5 h1
    have hb := bounds_u8 wz
    refine ⟨UInt8.ofNat z.toNat, hc.trans ?_⟩
    injection hz with hz _
    rw [hz]
    simp [by1]
    omega
  obtain ⟨ps, hpl, hps⟩ := list_of' 32 each
  injection ha with ha _
  injection hb with hb _
  subst ha hb
  have hcs : cs = lkC ⟨a, b, ps, ds⟩ c3 := by
    apply List.ext_getElem?
    intro j
    match j with
    | 0 => exact h0
    | 1 => exact h1
    | j + 2 =>
      simp only [lkC, List.getElem?_cons_succ]
      rcases Nat.lt_or_ge j 32 with hj | hj
      · rw [List.getElem?_append_left (by simp [hpl, hj]), List.getElem?_map]
        obtain ⟨z, hz⟩ : ∃ z, ps[j]? = some z := ⟨_, List.getElem?_eq_getElem (by omega)⟩
        rw [hz, show j + 2 = 2 + j by omega, hps j z hz]
        rfl
      · rw [List.getElem?_append_right (by simp [hpl, hj])]
        by_cases e : j = 32
        · subst e
          rw [h3]
          simp [hpl]
        · rw [List.getElem?_eq_none (by omega), List.getElem?_eq_none (by simp [hpl]; omega)]
  refine ⟨⟨a, b, ps, ds⟩, c3, hcs, ⟨A, cp, hD, hc1, hc2, hat⟩, bounds_i64 wa, bounds_i64 wb, hpl⟩

/-- what a reading of a slice of links says -/
theorem links_of_trod {m : Nat} {v : Value} {x : DataW H × List MemPlace} (h : DataW.trod enc Tryd.prog w 0 sp hd m 22 [v] = some x) :
    ∃ (l : List Lk) (A : Option Addr) (c : Nat), v = .slice A l.length c ∧ l.length ≤ c ∧ (A = none → c = 0) ∧ LsAt w A l ∧ (∀ y ∈ l, I64 y.node ∧ I64 y.no ∧ y.prev.length = 32) := by
  rcases DataW.trod_slice Tryd.underlying22 h with ⟨he, _⟩ | ⟨a, len, cap, elems, rest, n, hn, he, _, _, hlc, hcm, hel, hat, _, _⟩
  · simp at he
    exact ⟨[], none, 0, he, Nat.le_refl _, fun _ => rfl, fun i y hy => by simp at hy, fun y hy => by simp at hy⟩
  · simp at he
    rw [kcells] at hat
    have each : ∀ i, i < len → ∃ (y : Lk × Value), w.cells? 0 (a.add (i * 35)) 35 = some (lkC y.1 y.2) ∧ DatAt w y.2 y.1.data ∧ I64 y.1.node ∧ I64 y.1.no ∧ y.1.prev.length = 32 := by
      intro i hi
      have h1 := hat i hi
      rw [List.getElem?_eq_getElem (by omega), Option.bind_eq_some_iff] at h1
      obtain ⟨cs', hc, ht⟩ := h1
      obtain ⟨y, D, rfl, h2⟩ := openK_any n cs' _ ht
      exact ⟨(y, D), hc, h2⟩
    obtain ⟨L, hl, hq⟩ := list_of' len each
    subst hl
    refine ⟨L.map (·.1), some a, cap, by rw [List.length_map]; exact he, by rw [List.length_map]; exact hlc, (fun e => by cases e), fun i y hy => ?_, fun y hy => ?_⟩
    · rw [List.getElem?_map] at hy
      obtain ⟨z, hz, rfl⟩ := Option.map_eq_some_iff.1 hy
      obtain ⟨h1, h2, h3⟩ := hq i z hz
      obtain ⟨_, _, h4⟩ := World.cells?_some h1
      have hlt : i < L.length := (List.getElem?_eq_some_iff.1 hz).1
      have ha : a = ⟨a.block, a.off, none⟩ := by
        obtain ⟨y0, hy0⟩ : ∃ y0, L[0]? = some y0 := ⟨_, List.getElem?_eq_getElem (by omega)⟩
        obtain ⟨g1, _⟩ := hq 0 y0 hy0
        obtain ⟨_, _, g3⟩ := World.cells?_some g1
        have := g3 0 (by omega)
        simp [Addr.add] at this
        exact spot_of_cell this
      refine ⟨a.block, a.off, z.2, by rw [← ha], fun j v hj => ?_, h2⟩
      have hj2 : j < 35 := by
        have := (List.getElem?_eq_some_iff.1 hj).1
        rw [lkC_len h3.2.2] at this
        exact this
      have k := h4 j hj2
      rw [ha, Addr.add_mid, Addr.add_mid] at k
      rw [k, ← hj]
    · obtain ⟨z, hz, rfl⟩ := List.mem_map.1 hy
      obtain ⟨i, hi⟩ := List.mem_iff_getElem?.1 hz
      exact (hq i z hi).2.2
set_option maxRecDepth 100000 in
theorem open_linksD {r : Reach} {b0 : Nat} {v : Value} {d : DataW H} {p : List MemPlace} (hv : Value.okWide Tryd.prog w r b0 22 v) (h : DataW.Trod enc Tryd.prog w 0 sp hd 22 v d p) :
    ∃ (l : List Lk) (A : Option Addr) (c : Nat), v = .slice A l.length c ∧ l.length ≤ c ∧ (A = none → c = 0) ∧ LsAt w A l ∧ (∀ y ∈ l, I64 y.node ∧ I64 y.no ∧ y.prev.length = 32) := by
  obtain ⟨a, m, cap, rfl⟩ := okWide_slice Tryd.underlying22 hv
  obtain ⟨n, hn⟩ := h
  exact links_of_trod hn
set_option maxRecDepth 100000 in
theorem open_linkD {r : Reach} {b0 : Nat} {v : Value} {d : DataW H} {p : List MemPlace} (hv : Value.okWide Tryd.prog w r b0 37 v) (h : DataW.Trod enc Tryd.prog w 0 sp hd 37 v d p) :
    ∃ (y : Lk) (A : Option Addr) (n c : Nat), v = .agg (lkA y (.slice A n c)) ∧ y.data.length = n ∧ DatAt w (.slice A n c) y.data ∧ I64 y.node ∧ I64 y.no ∧ y.prev.length = 32 := by
  obtain ⟨cs, rfl, hsz⟩ := okWide_struct Tryd.underlying37 hv
  obtain ⟨m, hm⟩ := h
  obtain ⟨y, D, hcs, hd, h1, h2, h3⟩ := openK_any m cs.toList _ hm
  obtain ⟨A, c, hD, hr⟩ := hd
  subst hD
  refine ⟨y, A, y.data.length, c, ?_, rfl, ⟨A, c, rfl, hr⟩, h1, h2, h3⟩
  unfold lkA
  rw [← hcs]
end Go.Proofs.YthokpfegfnpmhaaDoor
