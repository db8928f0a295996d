/- The walk of the function inside Clash: the leaf of an opening. -/
import Derived.Test.YtnccbhndlnkboaaDoorSeal2
import Derived.Test.YtnccbhndlnkboaaDoorSCheck
import Derived.Test.YtnccbhndlnkboaaDoorMClimbF
import Derived.Test.YtnccbhndlnkboaaDoorEqDg
import Derived.Test.YtnccbhndlnkboaaDoorRowFG
namespace Go.Proofs.YtnccbhndlnkboaaDoor
open Go.RowKit Go.Shelf Cdc Sha
set_option linter.unusedVariables false
set_option linter.unusedSimpArgs false

set_option maxRecDepth 100000 in
set_option maxHeartbeats 4000000 in
theorem sclash1_any (t f m d n : Int) (b : Bool) (P : Option Addr) (k cp g : Nat) (ht : I64 t) (hd : I64 d) (hn : I64 n) (w : World) (hg : w.heap[g]? = some (.cells #[.int .i64 t, .int .i64 f, .int .i64 m] 69 (0, 0))) :
    Calls Tryd.prog 43 #[.agg #[.int .i64 d, .int .i64 n, .bool b, .slice P k cp], .pointer (some ⟨g, 0, none⟩)] w (JoinC (leafM t d b n) w) := by
  obtain ⟨W1, hW1⟩ : ∃ W1, W1 = w.alloc (.cells #[.int .i64 d, .int .i64 n, .bool b, .slice P k cp] 33) := ⟨_, rfl⟩
  have hb1 : Below w.heap.size w W1 := hW1 ▸ (Below.refl _ _).alloc (Nat.le_refl _) _
  have hgl := (Array.getElem?_eq_some_iff.1 hg).1
  have z0 : ∀ o, (w.alloc o).cell? ⟨g, 0, none⟩ = some (.int .i64 t) := fun o => by rw [cell_of_row _ _ _ _ _ _ ((Below.heap_alloc w o g hgl).trans hg)]; rfl
  have z1 : ∀ o, (w.alloc o).cell? ⟨g, 1, none⟩ = some (.int .i64 f) := fun o => by rw [cell_of_row _ _ _ _ _ _ ((Below.heap_alloc w o g hgl).trans hg)]; rfl
  have z2 : ∀ o, (w.alloc o).cell? ⟨g, 2, none⟩ = some (.int .i64 m) := fun o => by rw [cell_of_row _ _ _ _ _ _ ((Below.heap_alloc w o g hgl).trans hg)]; rfl
  have hL := Lib.hid (leaf_any8 t f m d n b ht hd hn W1)
  obtain ⟨L, hLe⟩ : ∃ L, leafM t d b n = L := ⟨_, rfl⟩
  rw [hLe] at hL ⊢
  replace hb1 := Lib.hid hb1
  replace hW1 := Lib.hid hW1
  clear hLe hgl hg ht hd hn
  go_enter Tryd.func43, Tryd.ntmps43
  go_wp2_with fail
  rw [← hW1.out]
  refine hL.out.mono ?_
  rintro e w3 ⟨A, c, rfl, h31, h32, h33, hb3, h34⟩
  have hz := hb1.out.size
  have HF := hb1.out.trans (hb3.mono hb1.out.size)
  replace h33 := Lib.hid h33
  clear hb3 z0 z1 z2
  go_wp2_with fail
  refine bodyPost_ret (v := .slice A L.length c) (by simp [results, Tryd.results43, go_sem]) rfl ⟨A, c, rfl, h31, h32, h33.out, HF, fun g o e hne => ⟨Nat.le_trans hz (h34 g o e hne).1, (h34 g o e hne).2⟩⟩
end Go.Proofs.YtnccbhndlnkboaaDoor
/- What Collide answers, plainly. -/
namespace Go.Proofs.YtnccbhndlnkboaaDoor
open Go.RowKit Go.Shelf Cdc Sha

/-- the texts of the first place at which two ways have one digest -/
def collL : List (List UInt8 × List UInt8) → List (List UInt8 × List UInt8) → Option (List UInt8 × List UInt8)
  | x :: r, y :: r' => if x.1 = y.1 then some (x.2, y.2) else collL r r'
  | _, _ => none
theorem collL_at {l1 l2 : List (List UInt8 × List UInt8)} {i : Nat} {x y : List UInt8 × List UInt8} (h1 : l1[i]? = some x) (h2 : l2[i]? = some y) : collL (l1.drop i) (l2.drop i) = if x.1 = y.1 then some (x.2, y.2) else collL (l1.drop (i + 1)) (l2.drop (i + 1)) := by
  obtain ⟨a1, a2⟩ := List.getElem?_eq_some_iff.1 h1
  obtain ⟨b1, b2⟩ := List.getElem?_eq_some_iff.1 h2
  rw [List.drop_eq_getElem_cons a1, List.drop_eq_getElem_cons b1, a2, b2, collL]
theorem collL_end {l1 l2 : List (List UInt8 × List UInt8)} {i : Nat} (h : l1.length ≤ i) : collL (l1.drop i) (l2.drop i) = none := by
  rw [List.drop_of_length_le h, collL]
  intro x r y r' e
  cases e
/-- two ways of one place have one length -/
theorem wayM_same : ∀ (n i : Nat) (d e : List UInt8) (p q : List (List UInt8)) (l k : List (List UInt8 × List UInt8)), wayM n i d p = some l → wayM n i e q = some k → l.length = k.length := by
  intro n
  induction n using Nat.strongRecOn with
  | ind n ih =>
    intro i d e p q l k hl hk
    by_cases h : 1 < n
    · by_cases x : n ≤ xr i
      · rw [wayM_alone h x] at hl hk
        obtain ⟨l', h1, rfl⟩ := Option.map_eq_some_iff.1 hl
        obtain ⟨k', h2, rfl⟩ := Option.map_eq_some_iff.1 hk
        rw [List.length_cons, List.length_cons, ih _ (by omega) _ d e p q l' k' h1 h2]
      · cases p with
        | nil => rw [wayM_short h x] at hl; cases hl
        | cons a p =>
          cases q with
          | nil => rw [wayM_short h x] at hk; cases hk
          | cons b q =>
            rw [wayM_node h x] at hl hk
            obtain ⟨l', h1, rfl⟩ := Option.map_eq_some_iff.1 hl
            obtain ⟨k', h2, rfl⟩ := Option.map_eq_some_iff.1 hk
            rw [List.length_cons, List.length_cons, ih _ (by omega) _ _ _ p q l' k' h1 h2]
    · rw [wayM_end h] at hl hk
      split at hl
      · obtain rfl := Option.some.inj hl
        split at hk
        · obtain rfl := Option.some.inj hk; rfl
        · cases hk
      · cases hl
end Go.Proofs.YtnccbhndlnkboaaDoor
/- The walk of merkle.Collide: begun. -/
namespace Go.Proofs.YtnccbhndlnkboaaDoor
open Go.RowKit Go.Shelf Cdc Sha
set_option linter.unusedVariables false
set_option linter.unusedSimpArgs false

/-- what Collide answers -/
def colV (n i : Int) (la lb : List UInt8) (pa pb : List (List UInt8)) : List UInt8 × List UInt8 × Bool :=
  if (clV n i la pa).2 ≠ 0 ∨ (clV n i lb pb).2 ≠ 0 ∨ (clV n i la pa).1 ≠ (clV n i lb pb).1 ∨ la = lb then ([], [], false)
  else match climbM n.toNat i.toNat la pa, climbM n.toNat i.toNat lb pb with
    | some l1, some l2 => match collL l1 l2 with
      | some x => (x.1, x.2, true)
      | none => ([], [], false)
    | _, _ => ([], [], false)
def CoC (v : List UInt8 × List UInt8 × Bool) (w : World) (e : Ending) (w' : World) : Prop :=
  ∃ (A : Option Addr) (c : Nat) (A' : Option Addr) (c' : Nat), e = .returned (.tuple #[.slice A v.1.length c, .slice A' v.2.1.length c', .bool v.2.2]) ∧ AtO w' A v.1 ∧ AtO w' A' v.2.1 ∧ Below w.heap.size w w'
end Go.Proofs.YtnccbhndlnkboaaDoor
/- What the walks of Collide share. -/
namespace Go.Proofs.YtnccbhndlnkboaaDoor
open Go.RowKit Go.Shelf Cdc Sha
set_option linter.unusedVariables false
set_option linter.unusedSimpArgs false

theorem ato_nil (w : World) : AtO w none [] := by
  intro i x h
  simp at h
/-- what comes of a place -/
def colR : Option (List UInt8 × List UInt8) → List UInt8 × List UInt8 × Bool
  | some x => (x.1, x.2, true)
  | none => ([], [], false)
theorem clV_ok {n i : Int} {leaf : List UInt8} {path : List (List UInt8)} (h : (clV n i leaf path).2 = 0) : ∃ n' i' : Nat, n = n' ∧ i = i' ∧ i' < n' ∧ n' ≤ 65536 ∧ ∃ l, climbM n' i' leaf path = some l ∧ (clV n i leaf path).1 = lastM l := by
  by_cases c : 65536 < n ∨ i < 0 ∨ n ≤ i
  · rw [clV, if_pos c] at h
    cases h
  · refine ⟨n.toNat, i.toNat, by omega, by omega, by omega, by omega, ?_⟩
    rw [clV, if_neg c] at h ⊢
    cases hc : climbM n.toNat i.toNat leaf path with
    | none => rw [hc] at h; cases h
    | some l => exact ⟨l, rfl, rfl⟩
theorem colV_in {n i : Nat} {la lb : List UInt8} {pa pb : List (List UInt8)} {l1 l2 : List (List UInt8 × List UInt8)} (hn : n ≤ 65536) (hi : i < n) (h1 : climbM n i la pa = some l1) (h2 : climbM n i lb pb = some l2) (hl : lastM l1 = lastM l2) (hne : la ≠ lb) : colV n i la lb pa pb = colR (collL l1 l2) := by
  have e1 : clV n i la pa = (lastM l1, 0) := by
    rw [clV, if_neg (by omega), Int.toNat_natCast, Int.toNat_natCast, h1]
  have e2 : clV n i lb pb = (lastM l2, 0) := by
    rw [clV, if_neg (by omega), Int.toNat_natCast, Int.toNat_natCast, h2]
  rw [colV, if_neg (by rw [e1, e2]; simp [hl, hne]), Int.toNat_natCast, Int.toNat_natCast, h1, h2]
  dsimp only
  cases collL l1 l2 <;> rfl
theorem climbM_same {n i : Nat} {la lb : List UInt8} {pa pb : List (List UInt8)} {l1 l2 : List (List UInt8 × List UInt8)} (h1 : climbM n i la pa = some l1) (h2 : climbM n i lb pb = some l2) : l1.length = l2.length := by
  unfold climbM at h1 h2
  obtain ⟨a, ha, rfl⟩ := Option.map_eq_some_iff.1 h1
  obtain ⟨b, hb, rfl⟩ := Option.map_eq_some_iff.1 h2
  rw [List.length_cons, List.length_cons, wayM_same _ _ _ _ _ _ _ _ ha hb]
theorem byt_equal_yes (xs : List UInt8) (A B : Option Addr) (n m c d : Nat) (w : World) (v0 : (convert 48 9 (.slice A n c)).run Tryd.prog w = .ok (.string ⟨xs.toArray⟩) w) (v1 : (convert 48 9 (.slice B m d)).run Tryd.prog w = .ok (.string ⟨xs.toArray⟩) w) :
    Calls Tryd.prog 69 #[.slice A n c, .slice B m d] w fun e w' => e = .returned (.bool true) ∧ w' = w := by
  go_enter Tryd.func69, Tryd.ntmps69
  go_wp2
  go_ret
  exact ⟨rfl, rfl⟩
theorem byt_equal_no (xs ys : List UInt8) (A B : Option Addr) (n m c d : Nat) (w : World) (hh : (xs == ys) = false) (v0 : (convert 48 9 (.slice A n c)).run Tryd.prog w = .ok (.string ⟨xs.toArray⟩) w) (v1 : (convert 48 9 (.slice B m d)).run Tryd.prog w = .ok (.string ⟨ys.toArray⟩) w) :
    Calls Tryd.prog 69 #[.slice A n c, .slice B m d] w fun e w' => e = .returned (.bool false) ∧ w' = w := by
  go_enter Tryd.func69, Tryd.ntmps69
  go_wp2
  go_ret
  exact ⟨rfl, rfl⟩
theorem way_info2 : (Tryd.prog.info? 89).map (·.size) = some 2 := by kernel_rfl
end Go.Proofs.YtnccbhndlnkboaaDoor
