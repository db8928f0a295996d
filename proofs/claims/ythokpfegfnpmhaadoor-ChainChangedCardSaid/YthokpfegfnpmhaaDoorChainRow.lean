/- A link built, and appended to a list of links. -/
import Derived.Test.YthokpfegfnpmhaaDoorChainPart2
import Derived.ArgAppend
import Derived.Great.BuildSlice
import Derived.Deep.RegionHeldLaw
import Derived.Test.YthokpfegfnpmhaaDoorConcat
namespace Go.Proofs.YthokpfegfnpmhaaDoor
open Go.RowKit Cdc Sha
set_option linter.unusedVariables false
set_option linter.unusedSimpArgs false

theorem list32 {α : Type} (l : List α) (h : l.length = 32) : ∃ p0 p1 p2 p3 p4 p5 p6 p7 p8 p9 p10 p11 p12 p13 p14 p15 p16 p17 p18 p19 p20 p21 p22 p23 p24 p25 p26 p27 p28 p29 p30 p31 : α, l = [p0, p1, p2, p3, p4, p5, p6, p7, p8, p9, p10, p11, p12, p13, p14, p15, p16, p17, p18, p19, p20, p21, p22, p23, p24, p25, p26, p27, p28, p29, p30, p31] := by
  match l, h with
  | [p0, p1, p2, p3, p4, p5, p6, p7, p8, p9, p10, p11, p12, p13, p14, p15, p16, p17, p18, p19, p20, p21, p22, p23, p24, p25, p26, p27, p28, p29, p30, p31], _ => exact ⟨p0, p1, p2, p3, p4, p5, p6, p7, p8, p9, p10, p11, p12, p13, p14, p15, p16, p17, p18, p19, p20, p21, p22, p23, p24, p25, p26, p27, p28, p29, p30, p31, rfl⟩
set_option maxRecDepth 100000 in
theorem built_lk (x : Lk) (h : x.prev.length = 32) (A : Option Addr) (n c : Nat) : Tryd.prog.built 37 [(0, .int .i64 x.node), (1, .int .i64 x.no), (2, .agg (dg x.prev)), (3, .slice A n c)] = some (lkA x (.slice A n c)) := by
  obtain ⟨xn, xo, xp, xd⟩ := x
  obtain ⟨p0, p1, p2, p3, p4, p5, p6, p7, p8, p9, p10, p11, p12, p13, p14, p15, p16, p17, p18, p19, p20, p21, p22, p23, p24, p25, p26, p27, p28, p29, p30, p31, rfl⟩ := list32 xp h
  kernel_rfl

/-- the cells of a list of lists of one length -/
theorem flat_get {α : Type} (k : Nat) : ∀ (L : List (List α)), (∀ x ∈ L, x.length = k) → ∀ (i : Nat) (x : List α), L[i]? = some x → ∀ (j : Nat) (v : α), x[j]? = some v → L.flatten[i * k + j]? = some v
  | [], _, i, x, hx, _, _, _ => by simp at hx
  | y :: L, h, 0, x, hx, j, v, hj => by
    simp at hx
    subst hx
    rw [Nat.zero_mul, Nat.zero_add, List.flatten_cons, List.getElem?_append_left (List.getElem?_eq_some_iff.1 hj).1, hj]
  | y :: L, h, i + 1, x, hx, j, v, hj => by
    have hy := h y (by simp)
    rw [List.flatten_cons, List.getElem?_append_right (by rw [hy, Nat.add_mul]; omega), hy, show (i + 1) * k + j - k = i * k + j by rw [Nat.add_mul]; omega]
    exact flat_get k L (fun z hz => h z (by simp [hz])) i x (by simpa using hx) j v hj
theorem flat_len {α : Type} (k : Nat) : ∀ (L : List (List α)), (∀ x ∈ L, x.length = k) → L.flatten.length = L.length * k
  | [], _ => by simp
  | y :: L, h => by rw [List.flatten_cons, List.length_append, h y (by simp), flat_len k L (fun z hz => h z (by simp [hz])), List.length_cons, Nat.add_mul]; omega
theorem flat_split {α : Type} (k : Nat) (hk : 0 < k) (L : List (List α)) (h : ∀ x ∈ L, x.length = k) (j : Nat) (v : α) (hj : L.flatten[j]? = some v) : ∃ x, L[j / k]? = some x ∧ x[j % k]? = some v := by
  have hlt := (List.getElem?_eq_some_iff.1 hj).1
  rw [flat_len k L h] at hlt
  have hi : j / k < L.length := (Nat.div_lt_iff_lt_mul hk).2 hlt
  have hx : L[j / k]? = some (L[j / k]'hi) := List.getElem?_eq_getElem hi
  have hl := h _ (List.mem_of_getElem? hx)
  have hm : j % k < (L[j / k]'hi).length := by rw [hl]; exact Nat.mod_lt _ hk
  have hv : (L[j / k]'hi)[j % k]? = some ((L[j / k]'hi)[j % k]'hm) := List.getElem?_eq_getElem hm
  have := flat_get k L h (j / k) _ hx (j % k) _ hv
  rw [Nat.mul_comm, Nat.div_add_mod, hj] at this
  exact ⟨_, hx, by rw [hv, this]⟩

/-- the lists of cells of links, with where their data lies -/
def lkRows (l : List Lk) (Ds : List Value) : List (List Value) := l.zipWith lkC Ds
theorem lkRows_len (l : List Lk) (Ds : List Value) (hp : ∀ x ∈ l, x.prev.length = 32) : ∀ r ∈ lkRows l Ds, r.length = 35 := fun r hr => by
  obtain ⟨i, hi⟩ := List.mem_iff_getElem?.1 hr
  unfold lkRows at hi
  rw [List.getElem?_zipWith] at hi
  cases h1 : l[i]? with
  | none => rw [h1] at hi; simp at hi
  | some x =>
    cases h2 : Ds[i]? with
    | none => rw [h1, h2] at hi; simp at hi
    | some D =>
      rw [h1, h2] at hi
      simp at hi
      subst hi
      exact lkC_len (hp x (List.mem_of_getElem? h1)) D
/-- the data's slices of links that lie -/
theorem LsAt.data {w : World} {A : Option Addr} {l : List Lk} (h : LsAt w A l) : ∃ Ds : List Value, Ds.length = l.length ∧ ∀ i x D, l[i]? = some x → Ds[i]? = some D → ∃ b o, A = some ⟨b, o, none⟩ ∧ w.rangeAt b (o + i * 35) (lkC x D) ∧ DatAt w D x.data := by
  have key : ∀ k, k ≤ l.length → ∃ Ds : List Value, Ds.length = k ∧ ∀ i x D, l[i]? = some x → Ds[i]? = some D → ∃ b o, A = some ⟨b, o, none⟩ ∧ w.rangeAt b (o + i * 35) (lkC x D) ∧ DatAt w D x.data := by
    intro k
    induction k with
    | zero => exact fun _ => ⟨[], rfl, fun i x D _ hD => by simp at hD⟩
    | succ k ih =>
      intro hk
      obtain ⟨Ds, hl, hD⟩ := ih (by omega)
      obtain ⟨b, o, D, hA, hr, hd⟩ := h k (l[k]'(by omega)) (List.getElem?_eq_getElem (by omega))
      refine ⟨Ds ++ [D], by simp [hl], fun i x D' hx hD' => ?_⟩
      rcases Nat.lt_or_ge i k with hi | hi
      · rw [List.getElem?_append_left (by omega)] at hD'
        exact hD i x D' hx hD'
      · rw [List.getElem?_append_right (by omega)] at hD'
        have hik : i = k := by
          have := (List.getElem?_eq_some_iff.1 hD').1
          simp at this
          omega
        subst hik
        rw [hl, Nat.sub_self] at hD'
        simp at hD'
        subst hD'
        rw [List.getElem?_eq_getElem (by omega)] at hx
        cases hx
        exact ⟨b, o, hA, hr, hd⟩
  exact key l.length (Nat.le_refl _)

/-- links in a row of the call's own -/
theorem lsAt_of_own {w : World} {base : Nat} {v : Value} {n : Nat} {l : List Lk} {Ds : List Value} (hn : l.length = n) (hD : Ds.length = n) (hp : ∀ x ∈ l, x.prev.length = 32) (h : w.ownsRow base 37 35 v n (lkRows l Ds).flatten)
    (hd : ∀ (i : Nat) (x : Lk) (D : Value), l[i]? = some x → Ds[i]? = some D → DatAt w D x.data) : ∃ A c, v = .slice A n c ∧ n ≤ c ∧ c ≤ 9223372036854775807 ∧ LsAt w A l := by
  rcases h.2 with ⟨rfl, h0⟩ | ⟨g, cap, cur, rfl, hb, hh, hc, hcm, _⟩
  · have : n = 0 := by omega
    subst this
    obtain rfl := List.length_eq_zero_iff.1 hn
    exact ⟨none, 0, rfl, Nat.le_refl _, by omega, fun i x hx => by simp at hx⟩
  · refine ⟨some ⟨g, 0, none⟩, cap, rfl, hc, by simpa [maxLen] using hcm, fun i x hx => ?_⟩
    have hi := (List.getElem?_eq_some_iff.1 hx).1
    have hDi : Ds[i]? = some (Ds[i]'(by omega)) := List.getElem?_eq_getElem (by omega)
    refine ⟨g, 0, _, rfl, fun j u hj => ?_, hd i x _ hx hDi⟩
    have hrow : (lkRows l Ds)[i]? = some (lkC x (Ds[i]'(by omega))) := by
      unfold lkRows
      rw [List.getElem?_zipWith, hx, hDi]
    have hf := flat_get 35 _ (lkRows_len l Ds hp) i _ hrow j u hj
    have hlt := (List.getElem?_eq_some_iff.1 hf).1
    have hcell := World.ownsRow.cellAt h (i * 35 + j) (by rw [h.1] at hlt; exact hlt)
    rw [Nat.zero_add, hcell, hf]
end Go.Proofs.YthokpfegfnpmhaaDoor
