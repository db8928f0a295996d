/- A post of a row of the call's own is set. -/
import Derived.Test.YthokpfegfnpmhaaDoorOwnPo
import Derived.Test.YthokpfegfnpmhaaDoorMoreA
import Derived.Lib.SmallJoins
namespace Go.Proofs.YthokpfegfnpmhaaDoor
open Go.RowKit Cdc Sha
set_option linter.unusedVariables false
set_option linter.unusedSimpArgs false

/-- cells set in an array, one after the other -/
def putAt (cs : Array Value) : Nat → List Value → Array Value
  | _, [] => cs
  | o, v :: r => putAt (cs.setIfInBounds o v) (o + 1) r
theorem putAt_size : ∀ (vs : List Value) (cs : Array Value) (o : Nat), (putAt cs o vs).size = cs.size
  | [], _, _ => rfl
  | v :: r, cs, o => by rw [putAt, putAt_size r]; simp
theorem putAt_get : ∀ (vs : List Value) (cs : Array Value) (o k : Nat), o + vs.length ≤ cs.size → (putAt cs o vs)[k]? = if o ≤ k ∧ k < o + vs.length then vs[k - o]? else cs[k]?
  | [], cs, o, k, _ => by
    rw [putAt, if_neg (by simp)]
  | v :: r, cs, o, k, h => by
    simp only [List.length_cons] at h
    rw [putAt, putAt_get r _ (o + 1) k (by simp; omega)]
    by_cases e : k = o
    · subst e
      rw [if_neg (by omega), if_pos (by simp), Nat.sub_self]
      simp [Array.getElem?_setIfInBounds]
      omega
    · by_cases h1 : o ≤ k ∧ k < o + (r.length + 1)
      · rw [if_pos (by omega), if_pos (by simpa using h1), show k - o = (k - (o + 1)) + 1 by omega, List.getElem?_cons_succ]
      · rw [if_neg (by omega), if_neg (by simpa using h1), Array.getElem?_setIfInBounds_ne (fun e' => e e'.symm)]
theorem heap_setCells (g : Nat) {t : TypeId} {fr : Nat × Nat} : ∀ (vs : List Value) (o : Nat) (w : World) (cs : Array Value), w.heap[g]? = some (.cells cs t fr) → (w.setCells g o vs).heap[g]? = some (.cells (putAt cs o vs) t fr)
  | [], _, _, _, h => h
  | v :: r, o, w, cs, h => heap_setCells g r (o + 1) _ _ (Joins.block_setCell h v)

theorem psC_set {L : List Po} (h : ∀ p ∈ L, p.root.length = 32) {i : Nat} {p : Po} (hi : i < L.length) (hp : p.root.length = 32) (k : Nat) :
    (psC (L.set i p))[k]? = if i * 35 ≤ k ∧ k < i * 35 + 35 then (poC p)[k - i * 35]? else (psC L)[k]? := by
  have hS : ∀ q ∈ L.set i p, q.root.length = 32 := fun q hq => by
    rcases List.mem_or_eq_of_mem_set hq with h1 | h1
    · exact h q h1
    · rw [h1]; exact hp
  have hl := poC_len hp
  by_cases hk : k < L.length * 35
  · have hj : k / 35 < L.length := (Nat.div_lt_iff_lt_mul (by decide)).2 hk
    obtain ⟨q, hq⟩ : ∃ q, (L.set i p)[k / 35]? = some q := ⟨_, List.getElem?_eq_getElem (by simpa using hj)⟩
    have hql := poC_len (hS q (List.mem_of_getElem? hq))
    obtain ⟨u, hu⟩ : ∃ u, (poC q)[k % 35]? = some u := ⟨_, List.getElem?_eq_getElem (by rw [hql]; exact Nat.mod_lt _ (by decide))⟩
    have h1 := psC_at hS hq hu
    rw [show k / 35 * 35 + k % 35 = k by omega] at h1
    rw [h1]
    by_cases e : k / 35 = i
    · rw [if_pos (by omega)]
      rw [e, List.getElem?_set_self hi] at hq
      cases hq
      rw [show k - i * 35 = k % 35 by omega, hu]
    · rw [if_neg (by omega)]
      rw [List.getElem?_set_ne (fun e' => e e'.symm)] at hq
      have h2 := psC_at h hq hu
      rw [show k / 35 * 35 + k % 35 = k by omega] at h2
      rw [h2]
  · rw [if_neg (by omega), List.getElem?_eq_none (by rw [psC_len hS]; simp; omega), List.getElem?_eq_none (by rw [psC_len h]; omega)]

theorem RowP.set {w : World} {b g n c : Nat} {L : List Po} (h : RowP w b (.slice (some ⟨g, 0, none⟩) n c) L) (hp : ∀ p ∈ L, p.root.length = 32) {i : Nat} {p : Po} (hi : i < L.length) (hpr : p.root.length = 32) :
    RowP (w.setCells g (i * 35) (poC p)) b (.slice (some ⟨g, 0, none⟩) n c) (L.set i p) := by
  rcases h.2 with ⟨h0, _⟩ | ⟨g', cap, cur, hv, hb, hh, hc, hcm, hcs, htk⟩
  · cases h0
  · have hl := poC_len hpr
    injection hv with h1 h2 h3
    injection h1 with h1
    injection h1 with h1
    subst h1 h3
    have hS : ∀ q ∈ L.set i p, q.root.length = 32 := fun q hq => by
      rcases List.mem_or_eq_of_mem_set hq with h1 | h1
      · exact hp q h1
      · rw [h1]; exact hpr
    have hlen : L.length * 35 ≤ cur.size := by rw [hcs]; exact Nat.mul_le_mul_right _ hc
    have hi2 : i * 35 + 35 ≤ L.length * 35 := by omega
    refine ⟨psC_len hS, .inr ⟨g, c, putAt cur (i * 35) (poC p), ?_, hb, heap_setCells g _ _ _ _ hh, ?_, hcm, by rw [putAt_size, hcs], ?_⟩⟩
    · rw [h2, List.length_set]
    · rw [List.length_set]; exact hc
    · apply List.ext_getElem?
      intro k
      rw [psC_set hp hi hpr, List.length_set]
      by_cases hk : k < L.length * 35
      · rw [List.getElem?_take, if_pos hk, Array.getElem?_toList, putAt_get _ _ _ _ (by rw [hl]; omega), hl]
        split
        · rfl
        · have h9 := congrArg (·[k]?) htk
          rw [List.getElem?_take, if_pos hk, Array.getElem?_toList] at h9
          exact h9
      · rw [List.getElem?_eq_none (by simp; omega), if_neg (by omega), List.getElem?_eq_none (by rw [psC_len hp]; omega)]
theorem RowP.addr {w : World} {b n c : Nat} {A : Option Addr} {L : List Po} (h : RowP w b (.slice A n c) L) (h0 : 0 < L.length) : ∃ g, A = some ⟨g, 0, none⟩ ∧ b ≤ g ∧ n = L.length := by
  rcases h.2 with ⟨h1, h2⟩ | ⟨g, cap, cur, hv, hb, _⟩
  · omega
  · injection hv with h1 h2 h3
    exact ⟨g, h1, hb, h2⟩
theorem setCells_below {w W : World} {B g : Nat} (h : Below B W w) (hg : B ≤ g) (hs : B ≤ w.heap.size) (o : Nat) (vs : List Value) : Below B W (w.setCells g o vs) :=
  h.grown (setCells_grown w g o vs) hs (fun k e => by have := Option.some.inj e; omega)
/-- the cells are there -/
theorem RowP.there {w : World} {b g n c : Nat} {L : List Po} (h : RowP w b (.slice (some ⟨g, 0, none⟩) n c) L) (hp : ∀ p ∈ L, p.root.length = 32) {i : Nat} (hi : i < L.length) : w.there g (i * 35) 35 := by
  rcases h.2 with ⟨h0, _⟩ | ⟨g', cap, cur, hv, hb, hh, hc, hcm, hcs, htk⟩
  · cases h0
  · injection hv with h1 h2 h3
    injection h1 with h1
    injection h1 with h1
    subst h1 h3
    have hlen : L.length * 35 ≤ cur.size := by rw [hcs]; exact Nat.mul_le_mul_right _ hc
    intro j hj
    refine ⟨?_, Joins.unfrozen_of_block hh _⟩
    rw [Joins.cell_of_block hh, Array.getElem?_eq_getElem (by omega)]
    rfl
end Go.Proofs.YthokpfegfnpmhaaDoor
