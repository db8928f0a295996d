/- Plain laws of seals. -/
import Derived.Test.YtnccbhndlnkboaaDoorSClash
namespace Go.Proofs.YtnccbhndlnkboaaDoor
open Go.RowKit Go.Shelf Cdc Sha
set_option linter.unusedVariables false
set_option linter.unusedSimpArgs false

theorem lastM_cons (d t : List UInt8) (l : List (List UInt8 × List UInt8)) : lastM ((d, t) :: l) = topM d l := by
  cases l with
  | nil => rfl
  | cons y l =>
    simp only [lastM, topM, List.getLast?_cons_cons]
    cases h : (y :: l).getLast? with
    | none => simp at h
    | some z => rfl
/-- a path leads to the root -/
theorem climb_root {r : List (List UInt8)} {n i : Nat} {leaf : List UInt8} (hn : r.length = n) (h : r[i]? = some (lfD leaf)) : ∃ l, climbM n i leaf (pathM r i) = some l ∧ lastM l = rootM r := by
  obtain ⟨l, h1, h2⟩ := way_root n r i (lfD leaf) hn h
  exact ⟨(lfD leaf, lfT leaf) :: l, by rw [climbM, h1]; rfl, by rw [lastM_cons, h2]⟩
theorem pathM_lenM {r : List (List UInt8)} {n i : Nat} (hn : r.length = n) (hi : i < n) : (pathM r i).length = lenM n i := by
  obtain ⟨d, hd⟩ : ∃ d, r[i]? = some d := ⟨_, List.getElem?_eq_getElem (by omega)⟩
  obtain ⟨l, h1, _⟩ := way_root n r i d hn hd
  have := wayM_some n i d (pathM r i)
  rw [h1] at this
  exact of_decide_eq_true this.symm
theorem lvsD_len {t f : Int} {bl : List Bool} {sl : List Int} (h : bl.length = sl.length) : ((lvs t f bl sl).map lfD).length = sl.length := by rw [List.length_map, lvs_len h]
theorem lvsD_ne {t f : Int} {bl : List Bool} {sl : List Int} (h : bl.length = sl.length) (h0 : 0 < sl.length) : (lvs t f bl sl).map lfD ≠ [] := fun e => by
  have := congrArg List.length e
  rw [lvsD_len h, List.length_nil] at this
  omega
theorem lvsD_32 {t f : Int} {bl : List Bool} {sl : List Int} : ∀ d ∈ (lvs t f bl sl).map lfD, d.length = 32 := fun d hd => by
  obtain ⟨x, _, rfl⟩ := List.mem_map.1 hd
  exact lfD_len x

theorem opE_zero {t f : Int} {nb ns : Nat} {sl : List Int} (h : opE t f nb ns sl = 0) : nb ≤ 512 ∧ nb = ns ∧ dayB t f ns = true ∧ sl.all salB = true := by
  rcases opE_cases t f nb ns sl with ⟨_, h1, h2, h3, h4⟩ | ⟨he, h1⟩ | ⟨he, h1⟩
  · exact ⟨by omega, h2, h3, h4⟩
  · rw [he] at h; cases h
  · rw [he] at h; cases h
theorem opnE_zero {t f : Int} {nb ns : Nat} {sl : List Int} {d : Int} (h : opnE t f nb ns sl d = 0) : opE t f nb ns sl = 0 ∧ hasB f ns d = true := by
  unfold opnE at h
  by_cases h1 : opE t f nb ns sl = 0
  · rw [if_pos h1] at h
    by_cases h2 : hasB f ns d = true
    · exact ⟨h1, h2⟩
    · rw [if_neg h2] at h; cases h
  · rw [if_neg h1] at h; exact absurd h h1
/-- what is opened is accepted -/
theorem chk_opened {t f d : Int} {nb ns : Nat} {bl : List Bool} {sl : List Int} (hb : bl.length = nb) (hn : sl.length = ns) (h : opnE t f nb ns sl d = 0) : chkS (mkS t f nb ns bl sl) (opnO t f nb ns bl sl d) = true := by
  obtain ⟨h1, h2⟩ := opnE_zero h
  obtain ⟨h3, h4, h5, h6⟩ := opE_zero h1
  have hbs : bl.length = sl.length := by omega
  have hh : f ≤ d ∧ d - f < ns := of_decide_eq_true h2
  obtain ⟨i, hi⟩ : ∃ i : Nat, d - f = (i : Int) := ⟨(d - f).toNat, by omega⟩
  have hii : (d - f).toNat = i := by omega
  have hilt : i < ns := by omega
  obtain ⟨b, hbi⟩ : ∃ b, bl[i]? = some b := ⟨_, List.getElem?_eq_getElem (by omega)⟩
  obtain ⟨y, hy⟩ : ∃ y, sl[i]? = some y := ⟨_, List.getElem?_eq_getElem (by omega)⟩
  have hS : mkS t f nb ns bl sl = ⟨t, f, ns, rootM ((lvs t f bl sl).map lfD)⟩ := if_pos h1
  have hO : opnO t f nb ns bl sl d = ⟨d, y, b, pathM ((lvs t f bl sl).map lfD) i⟩ := by
    rw [opnO, if_pos h, hii, List.getD_eq_getElem?_getD, List.getD_eq_getElem?_getD, hy, hbi]; rfl
  rw [hS, hO]
  have hsy : salB y = true := List.all_eq_true.1 h6 y (List.mem_of_getElem? hy)
  have hr : ((lvs t f bl sl).map lfD)[i]? = some (lfD (leafM t (f + i) b y)) := by rw [List.getElem?_map, lvs_at hbi hy]; rfl
  obtain ⟨l, hl1, hl2⟩ := climb_root (n := ns) (by rw [lvsD_len hbs, hn]) hr
  have hdi : f + (i : Int) = d := by omega
  rw [hdi] at hl1
  have hd9 : 1 ≤ ns ∧ ns ≤ 512 := by have := of_decide_eq_true h5; omega
  have hcl : clV ns (d - f) (leafM t d b y) (pathM ((lvs t f bl sl).map lfD) i) = (rootM ((lvs t f bl sl).map lfD), 0) := by
    unfold clV
    rw [if_neg (by omega), Int.toNat_natCast, hii, hl1]
    simp only [hl2]
  simp only [chkS, h5, h2, hsy, hcl, Bool.true_and, decide_true]
theorem mkS_I {t f : Int} {nb ns : Nat} {bl : List Bool} {sl : List Int} (hb : bl.length = nb) (hn : sl.length = ns) (ht : I64 t) : SlI (mkS t f nb ns bl sl) := by
  unfold mkS
  split
  · rename_i h
    obtain ⟨h3, h4, h5, h6⟩ := opE_zero h
    have hd9 := of_decide_eq_true h5
    exact ⟨ht, ⟨by dsimp only; omega, by dsimp only; omega⟩, ⟨by dsimp only; omega, by dsimp only; omega⟩, rootM_len ns _ (by rw [lvsD_len (by omega), hn]) (lvsD_ne (by omega) (by omega)) lvsD_32⟩
  · exact ⟨i64_zero, i64_zero, i64_zero, zero32_len⟩
theorem opnO_I {t f d : Int} {nb ns : Nat} {bl : List Bool} {sl : List Int} (hb : bl.length = nb) (hn : sl.length = ns) (hd : I64 d) (hsl : ∀ x ∈ sl, I64 x) : OpI (opnO t f nb ns bl sl d) := by
  unfold opnO
  split
  · rename_i h
    obtain ⟨h1, h2⟩ := opnE_zero h
    obtain ⟨h3, h4, h5, h6⟩ := opE_zero h1
    refine ⟨hd, ?_, fun x hx => ?_⟩
    · dsimp only
      rw [List.getD_eq_getElem?_getD]
      cases hy : sl[(d - f).toNat]? with
      | none => exact i64_zero
      | some y => exact hsl y (List.mem_of_getElem? hy)
    · exact pathM_all ns _ _ (by rw [lvsD_len (by omega), hn]) lvsD_32 x hx
  · exact ⟨i64_zero, i64_zero, fun x hx => by simp [opZ] at hx⟩

/-- what is accepted is in range and leads to the root -/
theorem chk_some {s : Sl} {o : Op} (h : chkS s o = true) : (0 ≤ s.t ∧ s.t ≤ 63 ∧ 1 ≤ s.m ∧ s.m ≤ 512 ∧ 0 ≤ s.f ∧ s.f ≤ 73048 - s.m + 1) ∧ (s.f ≤ o.day ∧ o.day - s.f < s.m) ∧ (0 ≤ o.salt ∧ o.salt ≤ 1099511627776) ∧ clV s.m (o.day - s.f) (leafM s.t o.day o.bl o.salt) o.path = (s.root, 0) := by
  unfold chkS at h
  simp only [Bool.and_eq_true, decide_eq_true_eq] at h
  obtain ⟨h1, h2, h3, h4, h5⟩ := h
  exact ⟨of_decide_eq_true h1, of_decide_eq_true h2, of_decide_eq_true h3, Prod.ext h5 h4⟩
theorem clV_len {n i : Int} {leaf : List UInt8} {path : List (List UInt8)} (h1 : n ≤ 65536) (h2 : 0 ≤ i) (h3 : i < n) : ((clV n i leaf path).2 = 0 ↔ path.length = lenM n.toNat i.toNat) := by
  unfold clV
  rw [if_neg (by omega)]
  have := wayM_some n.toNat i.toNat (lfD leaf) path
  cases h : climbM n.toNat i.toNat leaf path with
  | none =>
    have h9 : wayM n.toNat i.toNat (lfD leaf) path = none := by
      unfold climbM at h
      exact Option.map_eq_none_iff.1 h
    rw [h9] at this
    have h10 := of_decide_eq_false this.symm
    simp [h10]
  | some l =>
    obtain ⟨l', h', _⟩ := Option.map_eq_some_iff.1 h
    rw [h'] at this
    have h10 := of_decide_eq_true this.symm
    simp [h10]
/-- with a digest more or less it is not accepted -/
theorem chk_other {s : Sl} {o : Op} (h : chkS s o = true) (p : List (List UInt8)) (hp : p.length ≠ o.path.length) : chkS s ⟨o.day, o.salt, o.bl, p⟩ = false := by
  obtain ⟨h1, h2, h3, h4⟩ := chk_some h
  have h5 := (clV_len (n := s.m) (i := o.day - s.f) (leaf := leafM s.t o.day o.bl o.salt) (path := o.path) (by omega) (by omega) (by omega)).1 (by rw [h4])
  have h6 : ¬ (clV s.m (o.day - s.f) (leafM s.t o.day o.bl o.salt) p).2 = 0 := fun e => hp (((clV_len (n := s.m) (i := o.day - s.f) (by omega) (by omega) (by omega)).1 e).trans h5.symm)
  simp [chkS, h6]
end Go.Proofs.YtnccbhndlnkboaaDoor
