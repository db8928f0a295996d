/- bytes.Join of one part and of two parts, without a separator. -/
import Derived.Test.YtnccbhndlnkboaaDoorConcat
import Derived.Shelf.Bytes.SlJoin
namespace Go.Proofs.YtnccbhndlnkboaaDoor
open Go.RowKit Go.Shelf Cdc Sha
set_option linter.unusedVariables false
set_option linter.unusedSimpArgs false

def renJ : Ren := ⟨fun i => if i = 14 then 92 else 110, fun i => if i = 3 then 3 else if i = 4 then 4 else if i = 9 then 9 else if i = 20 then 20 else if i = 22 then 48 else if i = 26 then 75 else if i = 5 then 5 else 0, fun i => i⟩
theorem layJ : SlLaysJ.n14 Tryd.prog renJ where
  mixed := by kernel_rfl
  f14 := Tryd.func92.trans (congrArg some (by kernel_rfl))
  f15 := Tryd.func110.trans (congrArg some (by kernel_rfl))
  t0 := Tryd.underlying0
  a0 := Tryd.isAgg0
  z0 := Tryd.sizeOf0
  v0 := Tryd.zeroValue0
  t3 := Tryd.underlying3
  a3 := Tryd.isAgg3
  z3 := Tryd.sizeOf3
  v3 := Tryd.zeroValue3
  t4 := Tryd.underlying4
  a4 := Tryd.isAgg4
  z4 := Tryd.sizeOf4
  v4 := Tryd.zeroValue4
  t9 := Tryd.underlying9
  a9 := Tryd.isAgg9
  z9 := Tryd.sizeOf9
  v9 := Tryd.zeroValue9
  t20 := Tryd.underlying20
  a20 := Tryd.isAgg20
  z20 := Tryd.sizeOf20
  v20 := Tryd.zeroValue20
  t22 := Tryd.underlying48
  a22 := Tryd.isAgg48
  z22 := Tryd.sizeOf48
  v22 := Tryd.zeroValue48
  t26 := Tryd.underlying75
  a26 := Tryd.isAgg75
  z26 := Tryd.sizeOf75
  v26 := Tryd.zeroValue75
  t5 := Tryd.underlying5
  z5 := Tryd.sizeOf5
  i5 := by kernel_rfl

theorem AtO.holds {w : World} {A : Option Addr} {xs : List UInt8} (c : Nat) (h : AtO w A xs) : Lib.HoldsBytes w (.slice A xs.length c) xs := by
  refine ⟨A, c, rfl, fun hA => ?_, fun a ha i x hx => ?_⟩
  · cases xs with
    | nil => rfl
    | cons x r =>
      obtain ⟨g, o, e, _⟩ := h 0 x rfl
      rw [hA] at e; cases e
  · obtain ⟨g, o, e, hc⟩ := h i x hx
    rw [ha] at e
    obtain rfl := Option.some.inj e
    rw [Lib.add_plain2]
    exact hc
theorem fresh_at {B : Nat} {w : World} {v : Value} {l : List UInt8} (h : Lib.FreshBytes B w v l) : ∃ (A : Option Addr) (c : Nat), v = .slice A l.length c ∧ l.length ≤ c ∧ c ≤ 9223372036854775807 ∧ AtO w A l ∧ ∀ g o, A = some ⟨g, o, none⟩ → l ≠ [] → B ≤ g ∧ g < w.heap.size := by
  obtain ⟨g, cap, zs, rfl, hB, hl, hm, hz, hr, hb, hc, _⟩ := h
  refine ⟨_, cap, rfl, hl, by simpa only [maxLen] using hm, fun j x hj => ⟨g, 0, rfl, ?_⟩, fun g' o' e hne => by
    cases e
    have h0 : 0 < cap := Nat.lt_of_lt_of_le (List.length_pos_iff.2 hne) hl
    exact ⟨hB, World.block_lt_of_cell? w _ (hc 0 h0)⟩⟩
  have hlt := (List.getElem?_eq_some_iff.1 hj).1
  rw [Nat.zero_add, hc j (by omega)]
  have hzl : j < zs.length := by omega
  have e : zs.getD j 0 = (x.toNat : Int) := by
    have h1 : (Lib.bytesOf (zs.take l.length))[j]? = some x := by rw [hb]; exact hj
    simp only [Lib.bytesOf, List.getElem?_map, List.getElem?_take, if_pos hlt, List.getElem?_eq_getElem hzl, Option.map_some, Option.some.injEq] at h1
    rw [List.getD_eq_getElem?_getD, List.getElem?_eq_getElem hzl, Option.getD_some]
    have := hr _ (List.getElem_mem hzl)
    rw [← h1]
    simp
    omega
  rw [e]

/-- what bytes.Join returns -/
def JoinC (l : List UInt8) (w : World) (e : Ending) (w' : World) : Prop := ∃ (A : Option Addr) (c : Nat), e = .returned (.slice A l.length c) ∧ l.length ≤ c ∧ c ≤ 9223372036854775807 ∧ AtO w' A l ∧ Below w.heap.size w w' ∧ ∀ g o, A = some ⟨g, o, none⟩ → l ≠ [] → w.heap.size ≤ g ∧ g < w'.heap.size

theorem join_one (x : List UInt8) (b c : Nat) (w : World) (h : SL w b 0 [x]) (hs : x.length ≤ 1000000000) :
    Calls Tryd.prog 92 #[.slice (some ⟨b, 0, none⟩) 1 c, .slice none 0 0] w (JoinC x w) := by
  obtain ⟨A, cp, hc, ha⟩ := h 0 x rfl
  cases x with
  | nil =>
    refine (Any.bytes_Join_one_empty layJ b 0 c A cp (.slice none 0 0) w hc).mono ?_
    rintro e w' ⟨rfl, rfl⟩
    exact ⟨none, 0, rfl, Nat.le_refl _, by omega, fun j y hj => by simp at hj, Below.refl _ _, fun g o e => by cases e⟩
  | cons y r =>
    obtain ⟨g, o, rfl, _⟩ := ha 0 y rfl
    refine (Any.bytes_Join_one layJ b 0 c ⟨g, o, none⟩ cp (y :: r) (.slice none 0 0) w hc (fun i z hz => ?_) (by simp) (by omega)).mono ?_
    · obtain ⟨g', o', e, h2⟩ := ha i z hz
      cases e
      rw [Lib.add_plain2]; exact h2
    · rintro e w' ⟨v, rfl, hf, hb⟩
      obtain ⟨A, c', rfl, h1, h2, h3, h4⟩ := fresh_at hf
      exact ⟨A, c', rfl, h1, h2, h3, hb, h4⟩
theorem join_two (x y : List UInt8) (b c : Nat) (w : World) (h : SL w b 0 [x, y]) (hc : 2 ≤ c) (hs : x.length + y.length ≤ 1000000000) :
    Calls Tryd.prog 92 #[.slice (some ⟨b, 0, none⟩) 2 c, .slice none 0 0] w (JoinC (x ++ y) w) := by
  obtain ⟨A, cp, h0, ha⟩ := h 0 x rfl
  obtain ⟨B, cq, h1, hb⟩ := h 1 y rfl
  have hP : Lib.PartsAt w ⟨b, 0, none⟩ [.slice A x.length cp, .slice B y.length cq] [x, y] := by
    refine ⟨rfl, fun i v hv => ?_, fun i v l hv hl => ?_⟩
    · rw [Lib.add_plain2]
      match i, hv with
      | 0, hv => obtain rfl := Option.some.inj hv; exact h0
      | 1, hv => obtain rfl := Option.some.inj hv; exact h1
    · match i, hv, hl with
      | 0, hv, hl => obtain rfl := Option.some.inj hv; obtain rfl := Option.some.inj hl; exact ha.holds cp
      | 1, hv, hl => obtain rfl := Option.some.inj hv; obtain rfl := Option.some.inj hl; exact hb.holds cq
  have hl : Lib.lens [x, y] = x.length + y.length := by simp [Lib.lens]
  refine (Any.bytes_Join_many layJ b 0 2 c _ [x, y] (.slice none 0 0) [] w rfl (by omega) hP hc ⟨none, 0, rfl, fun _ => rfl, fun a ha => by cases ha⟩ (by omega) (by rw [hl]; simp; omega)).mono ?_
  rintro e w' ⟨v, rfl, hf, hb⟩
  have hj : Lib.join [x, y] [] = x ++ y := by rw [Lib.join_cons]; simp [Lib.joinTail]
  rw [hj] at hf
  obtain ⟨A, c', rfl, h1, h2, h3, h4⟩ := fresh_at hf
  exact ⟨A, c', rfl, h1, h2, h3, hb, h4⟩
end Go.Proofs.YtnccbhndlnkboaaDoor
