/- What a chain is, plainly. -/
import Derived.Test.YthokpfegfnpmhaaDoorChain0
namespace Go.Proofs.YthokpfegfnpmhaaDoor
open Go.RowKit Cdc Sha
set_option linter.unusedVariables false
set_option linter.unusedSimpArgs false

/-- the i-th link of a list is as a chain asks it -/
structure GoodL (l : List Lk) (i : Nat) (x : Lk) : Prop where
  node : ∀ y, l[0]? = some y → x.node = y.node
  lo : 0 ≤ x.node
  hi : x.node < 24
  no : x.no = i
  data : x.data.length ≤ 65536
  prev : x.prev = hdC (l.take i)
/-- a chain -/
def OkL (l : List Lk) : Prop := ∀ i x, l[i]? = some x → GoodL l i x
open Classical in
/-- what Check answers of a list of at most 1024 links -/
noncomputable def ckC (l : List Lk) : Int := if OkL l then 0 else 80
theorem ckC_ok {l : List Lk} (h : OkL l) : ckC l = 0 := by unfold ckC; rw [if_pos h]
theorem ckC_bad {l : List Lk} (h : ¬ OkL l) : ckC l = 80 := by unfold ckC; rw [if_neg h]
theorem ckC_zero {l : List Lk} : ckC l = 0 ↔ OkL l := by
  constructor
  · intro h
    apply Classical.byContradiction
    intro c
    rw [ckC_bad c] at h
    cases h
  · exact ckC_ok

theorem okL_nil : OkL [] := fun i x h => by simp at h
theorem take_take_lt (l : List Lk) {i k : Nat} (h : i ≤ k) : (l.take k).take i = l.take i := by rw [List.take_take, Nat.min_eq_left h]
theorem OkL.take {l : List Lk} (h : OkL l) (k : Nat) : OkL (l.take k) := fun i x hx => by
  rw [List.getElem?_take] at hx
  split at hx
  · rename_i hi
    obtain ⟨h1, h2, h3, h4, h5, h6⟩ := h i x hx
    refine ⟨fun y hy => h1 y ?_, h2, h3, h4, h5, by rw [h6, take_take_lt l (by omega)]⟩
    rw [List.getElem?_take] at hy
    split at hy
    · exact hy
    · cases hy
  · cases hx
theorem OkL.snoc {l : List Lk} {x : Lk} (h : OkL l) (hx : GoodL (l ++ [x]) l.length x) : OkL (l ++ [x]) := fun i y hy => by
  rcases Nat.lt_or_ge i l.length with hi | hi
  · rw [List.getElem?_append_left hi] at hy
    obtain ⟨h1, h2, h3, h4, h5, h6⟩ := h i y hy
    refine ⟨fun z hz => h1 z ?_, h2, h3, h4, h5, ?_⟩
    · rw [List.getElem?_append_left (by omega)] at hz; exact hz
    · rw [h6, List.take_append_of_le_length (by omega)]
  · rw [List.getElem?_append_right hi] at hy
    obtain ⟨h0, rfl⟩ : i - l.length = 0 ∧ x = y := by
      cases hk : i - l.length with
      | zero => rw [hk] at hy; exact ⟨rfl, by simpa using hy⟩
      | succ k => rw [hk] at hy; simp at hy
    have : i = l.length := by omega
    subst this
    exact hx

/-- the node of a list: that of its first link -/
def nodeC (l : List Lk) : Option Int := l.head?.map (·.node)
/-- so far the links are good -/
def OkTo (l : List Lk) (k : Nat) : Prop := ∀ i x, i < k → l[i]? = some x → GoodL l i x
theorem okTo_zero (l : List Lk) : OkTo l 0 := fun i x h => by omega
theorem OkTo.succ {l : List Lk} {k : Nat} {x : Lk} (h : OkTo l k) (hx : l[k]? = some x) (hg : GoodL l k x) : OkTo l (k + 1) := fun i y hi hy => by
  by_cases e : i = k
  · subst e
    rw [hx] at hy
    cases hy
    exact hg
  · exact h i y (by omega) hy
theorem OkTo.all {l : List Lk} {k : Nat} (h : OkTo l k) (hk : l.length ≤ k) : OkL l := fun i x hx => h i x (by have := (List.getElem?_eq_some_iff.1 hx).1; omega) hx
theorem not_okL {l : List Lk} {k : Nat} {x : Lk} (hx : l[k]? = some x) (hg : ¬ GoodL l k x) : ¬ OkL l := fun h => hg (h k x hx)

theorem fm_lk (x : Lk) : fm (lV (lkL x)) = some 1 := by
  simp [lV, lkL, iV, tV, fm, fmL, ByteArray.size]
theorem fits_lk {x : Lk} (h : LkOk x) : fits (lV (lkL x)) := by
  obtain ⟨⟨h1, h2⟩, ⟨h3, h4⟩, h5, h6⟩ := h
  have e : (2 : Nat) ^ 63 = 9223372036854775808 := by decide
  simp only [lV, lkL, iV, tV, fits, fitsL, e, bsize, List.length_cons, List.length_nil]
  simp [ByteArray.size]
  omega
theorem encB_lk (x : Lk) : encB (lV (lkL x)) = enc (lV (lkL x)) := by
  unfold encB
  rw [if_pos]
  unfold ckE
  rw [fm_lk]
  rfl
/-- different links have different texts -/
theorem lk_inj {x y : Lk} (hx : LkOk x) (hy : LkOk y) (h : encB (lV (lkL x)) = encB (lV (lkL y))) : x = y := by
  rw [encB_lk, encB_lk] at h
  have h1 := pV_enc (lV (lkL x)) 1 1 [] (fits_lk hx) (fm_lk x) (by omega)
  have h2 := pV_enc (lV (lkL y)) 1 1 [] (fits_lk hy) (fm_lk y) (by omega)
  rw [h, h2] at h1
  obtain ⟨a, b, c, d⟩ := x
  obtain ⟨a', b', c', d'⟩ := y
  simp [lV, lkL, iV, tV] at h1
  obtain ⟨e1, e2, e3, e4⟩ := h1
  rw [e1, e2, e3, e4]

/-- the text of which the head is the digest: its tag and its bytes -/
def txC (l : List Lk) : ByteArray × List UInt8 := match l.getLast? with
  | none => (noneB, [])
  | some x => (linkB, encB (lV (lkL x)))
/-- equal texts: both empty, or the same last link -/
theorem txC_inj {a b : List Lk} (ha : ∀ x ∈ a, LkOk x) (hb : ∀ x ∈ b, LkOk x) (h : txC a = txC b) : a.getLast? = b.getLast? := by
  unfold txC at h
  cases e1 : a.getLast? with
  | none =>
    cases e2 : b.getLast? with
    | none => rfl
    | some y => rw [e1, e2] at h; simp [noneB, linkB] at h
  | some x =>
    cases e2 : b.getLast? with
    | none => rw [e1, e2] at h; simp [noneB, linkB] at h
    | some y =>
      rw [e1, e2] at h
      simp only [Prod.mk.injEq, true_and] at h
      rw [lk_inj (ha x (List.mem_of_getLast? e1)) (hb y (List.mem_of_getLast? e2)) h]
/-- two beginnings clash -/
def ClashL (a b : List Lk) : Prop := txC a ≠ txC b ∧ hdC a = hdC b
/-- two chains of one length with one head: equal, or two beginnings clash -/
theorem chains_equal {a b : List Lk} (ha : ∀ x ∈ a, LkOk x) (hb : ∀ x ∈ b, LkOk x) (ca : OkL a) (cb : OkL b) (hl : a.length = b.length)
    (hn : ∀ i, 1 ≤ i → i ≤ a.length → ¬ ClashL (a.take i) (b.take i)) (k : Nat) (hk : k ≤ a.length) (hh : hdC (a.take k) = hdC (b.take k)) : a.take k = b.take k := by
  induction k with
  | zero => simp
  | succ k ih =>
    have ht : txC (a.take (k + 1)) = txC (b.take (k + 1)) := Classical.byContradiction fun c => hn (k + 1) (by omega) hk ⟨c, hh⟩
    have e := txC_inj (fun x hx => ha x (List.mem_of_mem_take hx)) (fun x hx => hb x (List.mem_of_mem_take hx)) ht
    have hxa : a[k]? = some (a[k]'(by omega)) := List.getElem?_eq_getElem (by omega)
    have hxb : b[k]? = some (b[k]'(by omega)) := List.getElem?_eq_getElem (by omega)
    rw [List.getLast?_eq_getElem?, List.getLast?_eq_getElem?, List.length_take, List.length_take, Nat.min_eq_left hk, Nat.min_eq_left (by omega), Nat.add_sub_cancel, List.getElem?_take, List.getElem?_take, if_pos (by omega), if_pos (by omega)] at e
    have ga := (ca k _ hxa).prev
    have gb := (cb k _ hxb).prev
    have e2 : a[k]'(by omega) = b[k]'(by omega) := by rw [hxa, hxb] at e; exact Option.some.inj e
    rw [e2, gb] at ga
    have := ih (by omega) ga.symm
    rw [List.take_add_one, List.take_add_one, this, hxa, hxb, e2]
end Go.Proofs.YthokpfegfnpmhaaDoor
