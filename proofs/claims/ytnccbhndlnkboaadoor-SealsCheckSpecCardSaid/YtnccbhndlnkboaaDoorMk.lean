/- The lists of merkle, in plain Lean: texts of leaves and nodes, rows, roots, paths, ways. -/
import Derived.Test.YtnccbhndlnkboaaDoorTagH
namespace Go.Proofs.YtnccbhndlnkboaaDoor
open Go.RowKit Cdc Sha
set_option linter.unusedVariables false
set_option linter.unusedSimpArgs false

def leafB : ByteArray := ⟨#[108, 101, 97, 102]⟩
def nodeB : ByteArray := ⟨#[110, 111, 100, 101]⟩
/-- the text of a tag and bytes -/
def mT (tag : ByteArray) (b : List UInt8) : List UInt8 := sha tag.data.toList ++ b
def lfT (b : List UInt8) : List UInt8 := mT leafB b
def ndT (a b : List UInt8) : List UInt8 := mT nodeB (a ++ b)
def lfD (b : List UInt8) : List UInt8 := sha (lfT b)
def ndD (a b : List UInt8) : List UInt8 := sha (ndT a b)
theorem lfD_len (b : List UInt8) : (lfD b).length = 32 := sha_len _
theorem ndD_len (a b : List UInt8) : (ndD a b).length = 32 := sha_len _
theorem mT_len (tag : ByteArray) (b : List UInt8) : (mT tag b).length = 32 + b.length := by rw [mT, List.length_append, sha_len]

/-- the row behind a row -/
def up : List (List UInt8) → List (List UInt8)
  | a :: b :: r => ndD a b :: up r
  | r => r
theorem up_len : ∀ r : List (List UInt8), (up r).length = (r.length + 1) / 2
  | [] => by simp [up]
  | [_] => by simp [up]
  | a :: b :: r => by rw [up, List.length_cons, up_len r, List.length_cons, List.length_cons]; omega
theorem up_all : ∀ r : List (List UInt8), (∀ d ∈ r, d.length = 32) → ∀ d ∈ up r, d.length = 32
  | [], h, d, hd => h d hd
  | [_], h, d, hd => h d hd
  | a :: b :: r, h, d, hd => by
    rw [up] at hd
    rcases List.mem_cons.1 hd with rfl | hd
    · exact ndD_len _ _
    · exact up_all r (fun x hx => h x (List.mem_cons_of_mem _ (List.mem_cons_of_mem _ hx))) d hd
theorem up_two : ∀ (r : List (List UInt8)) (i : Nat) (a b : List UInt8), r[2 * i]? = some a → r[2 * i + 1]? = some b → (up r)[i]? = some (ndD a b)
  | [], i, a, b, h, k => by simp at h
  | [x], i, a, b, h, k => by simp at k
  | x :: y :: r, 0, a, b, h, k => by
    simp at h k; subst h; subst k; rw [up]; rfl
  | x :: y :: r, i + 1, a, b, h, k => by
    rw [up, List.getElem?_cons_succ]
    refine up_two r i a b ?_ ?_
    · rw [show 2 * (i + 1) = 2 * i + 1 + 1 by omega, List.getElem?_cons_succ, List.getElem?_cons_succ] at h; exact h
    · rw [show 2 * (i + 1) + 1 = 2 * i + 1 + 1 + 1 by omega, List.getElem?_cons_succ, List.getElem?_cons_succ] at k; exact k
theorem up_one : ∀ (r : List (List UInt8)) (i : Nat) (a : List UInt8), r[2 * i]? = some a → r.length = 2 * i + 1 → (up r)[i]? = some a
  | [], i, a, h, k => by simp at h
  | [x], i, a, h, k => by
    have : i = 0 := by simp at k; omega
    subst this; exact h
  | x :: y :: r, 0, a, h, k => by simp at k
  | x :: y :: r, i + 1, a, h, k => by
    rw [up, List.getElem?_cons_succ]
    refine up_one r i a ?_ ?_
    · rw [show 2 * (i + 1) = 2 * i + 1 + 1 by omega, List.getElem?_cons_succ, List.getElem?_cons_succ] at h; exact h
    · simp at k; omega

/-- the neighbour's place -/
def xr (i : Nat) : Nat := if i % 2 = 0 then i + 1 else i - 1

/-- all rows -/
def rowsM (r : List (List UInt8)) : List (List (List UInt8)) := if 1 < r.length then r :: rowsM (up r) else [r]
termination_by r.length
decreasing_by rw [up_len]; omega
theorem rowsM_big {r : List (List UInt8)} (h : 1 < r.length) : rowsM r = r :: rowsM (up r) := by rw [rowsM, if_pos h]
theorem rowsM_one {r : List (List UInt8)} (h : ¬ 1 < r.length) : rowsM r = [r] := by rw [rowsM, if_neg h]

/-- the root of a row -/
def rootM (r : List (List UInt8)) : List UInt8 := if 1 < r.length then rootM (up r) else r.headD []
termination_by r.length
decreasing_by rw [up_len]; omega
theorem rootM_big {r : List (List UInt8)} (h : 1 < r.length) : rootM r = rootM (up r) := by rw [rootM, if_pos h]
theorem rootM_one {r : List (List UInt8)} (h : ¬ 1 < r.length) : rootM r = r.headD [] := by rw [rootM, if_neg h]
theorem rootM_len : ∀ (n : Nat) (r : List (List UInt8)), r.length = n → r ≠ [] → (∀ d ∈ r, d.length = 32) → (rootM r).length = 32 := by
  intro n
  induction n using Nat.strongRecOn with
  | ind n ih =>
    intro r hn h0 h
    by_cases h1 : 1 < r.length
    · rw [rootM_big h1]
      refine ih (up r).length (by rw [up_len]; omega) _ rfl (fun e => ?_) (up_all r h)
      have := up_len r
      rw [e] at this; simp at this; omega
    · rw [rootM_one h1]
      cases r with
      | nil => exact absurd rfl h0
      | cons a r => exact h a (List.mem_cons_self ..)

/-- the neighbours that a path takes out of the rows -/
def pathF : List (List (List UInt8)) → Nat → List (List UInt8)
  | [], _ => []
  | row :: rs, i => row[xr i]?.toList ++ pathF rs (i / 2)
/-- the path of a place in a row -/
def pathM (r : List (List UInt8)) (i : Nat) : List (List UInt8) := if 1 < r.length then r[xr i]?.toList ++ pathM (up r) (i / 2) else []
termination_by r.length
decreasing_by rw [up_len]; omega
theorem pathM_big {r : List (List UInt8)} {i : Nat} (h : 1 < r.length) : pathM r i = r[xr i]?.toList ++ pathM (up r) (i / 2) := by rw [pathM, if_pos h]
theorem pathM_one {r : List (List UInt8)} {i : Nat} (h : ¬ 1 < r.length) : pathM r i = [] := by rw [pathM, if_neg h]
theorem pathF_rows : ∀ (n : Nat) (r : List (List UInt8)) (i : Nat), r.length = n → i < n → pathF (rowsM r) i = pathM r i := by
  intro n
  induction n using Nat.strongRecOn with
  | ind n ih =>
    intro r i hn hi
    by_cases h1 : 1 < r.length
    · rw [rowsM_big h1, pathM_big h1, pathF, ih (up r).length (by rw [up_len]; omega) _ _ rfl (by rw [up_len]; omega)]
    · have e : i = 0 := by omega
      subst e
      rw [rowsM_one h1, pathM_one h1, pathF, pathF, List.getElem?_eq_none (by simp [xr]; omega)]
      rfl
theorem pathM_all : ∀ (n : Nat) (r : List (List UInt8)) (i : Nat), r.length = n → (∀ d ∈ r, d.length = 32) → ∀ d ∈ pathM r i, d.length = 32 := by
  intro n
  induction n using Nat.strongRecOn with
  | ind n ih =>
    intro r i hn h d hd
    by_cases h1 : 1 < r.length
    · rw [pathM_big h1] at hd
      rcases List.mem_append.1 hd with hd | hd
      · cases hx : r[xr i]? with
        | none => rw [hx] at hd; simp at hd
        | some x => rw [hx] at hd; simp at hd; subst hd; exact h _ (List.mem_of_getElem? hx)
      · exact ih (up r).length (by rw [up_len]; omega) _ _ rfl (up_all r h) d hd
    · rw [pathM_one h1] at hd; simp at hd

/-- the way of a leaf's digest up: digests and their texts ([] where it is left alone); none if the path has not the right length -/
def wayM (n i : Nat) (d : List UInt8) (p : List (List UInt8)) : Option (List (List UInt8 × List UInt8)) :=
  if 1 < n then
    if n ≤ xr i then (wayM ((n + 1) / 2) (i / 2) d p).map ((d, []) :: ·)
    else match p with
      | [] => none
      | q :: p' => (wayM ((n + 1) / 2) (i / 2) (sha (if i % 2 = 0 then ndT d q else ndT q d)) p').map ((sha (if i % 2 = 0 then ndT d q else ndT q d), if i % 2 = 0 then ndT d q else ndT q d) :: ·)
  else if p = [] then some [] else none
termination_by n
decreasing_by all_goals omega
theorem wayM_alone {n i : Nat} {d : List UInt8} {p : List (List UInt8)} (h : 1 < n) (k : n ≤ xr i) : wayM n i d p = (wayM ((n + 1) / 2) (i / 2) d p).map ((d, []) :: ·) := by rw [wayM.eq_def, if_pos h, if_pos k]
theorem wayM_short {n i : Nat} {d : List UInt8} (h : 1 < n) (k : ¬ n ≤ xr i) : wayM n i d [] = none := by rw [wayM.eq_def, if_pos h, if_neg k]
theorem wayM_node {n i : Nat} {d q : List UInt8} {p : List (List UInt8)} (h : 1 < n) (k : ¬ n ≤ xr i) : wayM n i d (q :: p) = (wayM ((n + 1) / 2) (i / 2) (sha (if i % 2 = 0 then ndT d q else ndT q d)) p).map ((sha (if i % 2 = 0 then ndT d q else ndT q d), if i % 2 = 0 then ndT d q else ndT q d) :: ·) := by rw [wayM.eq_def, if_pos h, if_neg k]
theorem wayM_end {n i : Nat} {d : List UInt8} {p : List (List UInt8)} (h : ¬ 1 < n) : wayM n i d p = if p = [] then some [] else none := by rw [wayM.eq_def, if_neg h]

/-- how many digests a path has -/
def lenM (n i : Nat) : Nat := if 1 < n then (if n ≤ xr i then 0 else 1) + lenM ((n + 1) / 2) (i / 2) else 0
termination_by n
decreasing_by omega
theorem lenM_big {n i : Nat} (h : 1 < n) : lenM n i = (if n ≤ xr i then 0 else 1) + lenM ((n + 1) / 2) (i / 2) := by rw [lenM, if_pos h]
theorem lenM_one {n i : Nat} (h : ¬ 1 < n) : lenM n i = 0 := by rw [lenM, if_neg h]
theorem lenM_le : ∀ (n i : Nat), lenM n i ≤ n := by
  intro n
  induction n using Nat.strongRecOn with
  | ind n ih =>
    intro i
    by_cases h : 1 < n
    · rw [lenM_big h]
      have := ih ((n + 1) / 2) (by omega) (i / 2)
      split <;> omega
    · rw [lenM_one h]; omega
theorem wayM_some : ∀ (n i : Nat) (d : List UInt8) (p : List (List UInt8)), (wayM n i d p).isSome = decide (p.length = lenM n i) := by
  intro n
  induction n using Nat.strongRecOn with
  | ind n ih =>
    intro i d p
    by_cases h : 1 < n
    · by_cases k : n ≤ xr i
      · rw [wayM_alone h k, lenM_big h, if_pos k, Option.isSome_map, ih _ (by omega), Nat.zero_add]
      · cases p with
        | nil =>
          rw [wayM_short h k, lenM_big h, if_neg k]
          simp
          omega
        | cons q p =>
          rw [wayM_node h k, lenM_big h, if_neg k, Option.isSome_map, ih _ (by omega), List.length_cons]
          congr 1
          exact propext ⟨fun e => by omega, fun e => by omega⟩
    · rw [wayM_end h, lenM_one h]
      cases p <;> simp
/-- the digest that a way ends at -/
def topM (d : List UInt8) (l : List (List UInt8 × List UInt8)) : List UInt8 := match l.getLast? with
  | some x => x.1
  | none => d
theorem topM_cons (d : List UInt8) (x : List UInt8 × List UInt8) (l : List (List UInt8 × List UInt8)) : topM d (x :: l) = topM x.1 l := by
  cases l with
  | nil => rfl
  | cons y l => simp only [topM, List.getLast?_cons_cons]; cases h : (y :: l).getLast? with
    | none => simp at h
    | some z => rfl
/-- a path leads to the root -/
theorem way_root : ∀ (n : Nat) (r : List (List UInt8)) (i : Nat) (d : List UInt8), r.length = n → r[i]? = some d → ∃ l, wayM n i d (pathM r i) = some l ∧ topM d l = rootM r := by
  intro n
  induction n using Nat.strongRecOn with
  | ind n ih =>
    intro r i d hn hd
    have hi : i < r.length := (List.getElem?_eq_some_iff.1 hd).1
    by_cases h : 1 < r.length
    · have hu : (up r).length = (n + 1) / 2 := by rw [up_len, hn]
      rw [rootM_big h, pathM_big h]
      by_cases k : n ≤ xr i
      · have ev : i % 2 = 0 := by unfold xr at k; split at k <;> omega
        have e1 : r[xr i]? = none := List.getElem?_eq_none (by omega)
        have hx : (up r)[i / 2]? = some d := up_one r (i / 2) d (by rw [show 2 * (i / 2) = i by omega]; exact hd) (by unfold xr at k; rw [if_pos ev] at k; omega)
        obtain ⟨l, hl, ht⟩ := ih ((n + 1) / 2) (by omega) (up r) (i / 2) d hu hx
        refine ⟨(d, []) :: l, ?_, ?_⟩
        · rw [e1, wayM_alone (by omega) k]
          show Option.map _ (wayM ((n + 1) / 2) (i / 2) d (pathM (up r) (i / 2))) = _
          rw [hl]; rfl
        · rw [topM_cons]; exact ht
      · obtain ⟨q, hq⟩ : ∃ q, r[xr i]? = some q := ⟨_, List.getElem?_eq_getElem (by omega)⟩
        have hx : (up r)[i / 2]? = some (sha (if i % 2 = 0 then ndT d q else ndT q d)) := by
          by_cases ev : i % 2 = 0
          · rw [if_pos ev]
            unfold xr at hq; rw [if_pos ev] at hq
            exact up_two r (i / 2) d q (by rw [show 2 * (i / 2) = i by omega]; exact hd) (by rw [show 2 * (i / 2) + 1 = i + 1 by omega]; exact hq)
          · rw [if_neg ev]
            unfold xr at hq; rw [if_neg ev] at hq
            exact up_two r (i / 2) q d (by rw [show 2 * (i / 2) = i - 1 by omega]; exact hq) (by rw [show 2 * (i / 2) + 1 = i by omega]; exact hd)
        obtain ⟨l, hl, ht⟩ := ih ((n + 1) / 2) (by omega) (up r) (i / 2) _ hu hx
        refine ⟨(sha (if i % 2 = 0 then ndT d q else ndT q d), if i % 2 = 0 then ndT d q else ndT q d) :: l, ?_, ?_⟩
        · rw [hq]
          show wayM n i d (q :: pathM (up r) (i / 2)) = _
          rw [wayM_node (by omega) k, hl]; rfl
        · rw [topM_cons]; exact ht
    · have e : i = 0 := by omega
      subst e
      refine ⟨[], ?_, ?_⟩
      · rw [pathM_one h, wayM_end (by omega), if_pos rfl]
      · rw [rootM_one h]
        cases r with
        | nil => simp at hd
        | cons a r => simp at hd; subst hd; rfl
end Go.Proofs.YtnccbhndlnkboaaDoor
