/- The walks of the reference's Few (seals, accuse) and Check (accuse). -/
import Derived.Test.YtnccbhndlnkboaaDoorAccG
import Derived.LoopTactic
namespace Go.Proofs.YtnccbhndlnkboaaDoor
open Go.RowKit Go.Shelf Cdc Sha
set_option linter.unusedVariables false
set_option linter.unusedSimpArgs false

def fewS (nb ns : Nat) : Bool := decide ((nb ≤ 40 ∧ ns ≤ 40) ∨ 512 < nb ∨ 512 < ns)
theorem rfew39_any (nb ns cb c : Nat) (B S : Option Addr) (w : World) : Calls Tryd.prog 15 #[.slice B nb cb, .slice S ns c] w fun e w' => e = .returned (.bool (fewS nb ns)) ∧ w' = w := by
  obtain ⟨q, hq⟩ : ∃ q, fewS nb ns = q := ⟨_, rfl⟩
  rw [hq]
  replace hq := Lib.hid hq
  by_cases a1 : nb ≤ 40
  · have d1 : decide ((nb : Int) ≤ 40) = true := decide_eq_true (by omega)
    by_cases a2 : ns ≤ 40
    · have d2 : decide ((ns : Int) ≤ 40) = true := decide_eq_true (by omega)
      obtain rfl : q = true := by rw [← hq.out]; unfold fewS; exact decide_eq_true (by omega)
      clear hq
      go_enter Tryd.func15, Tryd.ntmps15
      go_wp2
      go_ret
      exact ⟨rfl, rfl⟩
    · have d2 : decide ((ns : Int) ≤ 40) = false := decide_eq_false (by omega)
      have d3 : decide ((512 : Int) < (nb : Int)) = false := decide_eq_false (by omega)
      by_cases a4 : 512 < ns
      · have d4 : decide ((512 : Int) < (ns : Int)) = true := decide_eq_true (by omega)
        obtain rfl : q = true := by rw [← hq.out]; unfold fewS; exact decide_eq_true (by omega)
        clear hq
        go_enter Tryd.func15, Tryd.ntmps15
        go_wp2
        go_ret
        exact ⟨rfl, rfl⟩
      · have d4 : decide ((512 : Int) < (ns : Int)) = false := decide_eq_false (by omega)
        obtain rfl : q = false := by rw [← hq.out]; unfold fewS; exact decide_eq_false (by omega)
        clear hq
        go_enter Tryd.func15, Tryd.ntmps15
        go_wp2
        go_ret
        exact ⟨rfl, rfl⟩
  · have d1 : decide ((nb : Int) ≤ 40) = false := decide_eq_false (by omega)
    by_cases a3 : 512 < nb
    · have d3 : decide ((512 : Int) < (nb : Int)) = true := decide_eq_true (by omega)
      obtain rfl : q = true := by rw [← hq.out]; unfold fewS; exact decide_eq_true (by omega)
      clear hq
      go_enter Tryd.func15, Tryd.ntmps15
      go_wp2
      go_ret
      exact ⟨rfl, rfl⟩
    · have d3 : decide ((512 : Int) < (nb : Int)) = false := decide_eq_false (by omega)
      by_cases a4 : 512 < ns
      · have d4 : decide ((512 : Int) < (ns : Int)) = true := decide_eq_true (by omega)
        obtain rfl : q = true := by rw [← hq.out]; unfold fewS; exact decide_eq_true (by omega)
        clear hq
        go_enter Tryd.func15, Tryd.ntmps15
        go_wp2
        go_ret
        exact ⟨rfl, rfl⟩
      · have d4 : decide ((512 : Int) < (ns : Int)) = false := decide_eq_false (by omega)
        obtain rfl : q = false := by rw [← hq.out]; unfold fewS; exact decide_eq_false (by omega)
        clear hq
        go_enter Tryd.func15, Tryd.ntmps15
        go_wp2
        go_ret
        exact ⟨rfl, rfl⟩

def few41 (l : List Op) : Bool := decide (l.length ≤ 70) && l.all fun y => decide (y.path.length ≤ 20)
set_option maxRecDepth 100000 in
set_option maxHeartbeats 2000000 in
theorem rfew41_any (l : List Op) (m : Nat) (hn : l.length = m) (A : Option Addr) (c : Nat) (hc : m ≤ c) (w : World) (h : OsAt w A l) : Calls Tryd.prog 11 #[.slice A m c] w fun e w' => e = .returned (.bool (few41 l)) ∧ w' = w := by
  by_cases h7 : 70 < m
  · have d1 : decide ((70 : Int) < (m : Int)) = true := decide_eq_true (by omega)
    have e : few41 l = false := by unfold few41; rw [decide_eq_false (by omega)]; rfl
    rw [e]
    go_enter Tryd.func11, Tryd.ntmps11
    go_wp2
    go_ret
    exact ⟨rfl, rfl⟩
  · have d1 : decide ((70 : Int) < (m : Int)) = false := decide_eq_false (by omega)
    obtain ⟨q, hq⟩ : ∃ q, few41 l = q := ⟨_, rfl⟩
    rw [hq]
    have hqt : Hid ((∀ (j : Nat) (y : Op), l[j]? = some y → y.path.length ≤ 20) → q = true) := Lib.hid fun h9 => by
      rw [← hq, few41, decide_eq_true (by omega), Bool.true_and, List.all_eq_true]
      intro y hy
      obtain ⟨j, hj⟩ := List.mem_iff_getElem?.1 hy
      exact decide_eq_true (h9 j y hj)
    have hqf : Hid (∀ (j : Nat) (y : Op), l[j]? = some y → 20 < y.path.length → q = false) := Lib.hid fun j y hj h9 => by
      rw [← hq, few41, decide_eq_true (by omega), Bool.true_and]
      refine Bool.eq_false_iff.2 fun h => ?_
      have := of_decide_eq_true (List.all_eq_true.1 h y (List.mem_of_getElem? hj))
      omega
    clear hq
    replace hn := Lib.hid hn
    replace h := Lib.hid h
    go_enter Tryd.func11, Tryd.ntmps11
    go_wp2
    go_loopw [3] (fun s wr => ∃ i : Nat, i ≤ m ∧ s = .int .i64 i ∧ Hid (∀ (j : Nat) (y : Op), j < i → l[j]? = some y → y.path.length ≤ 20) ∧ wr = w) (fun s _ => m - (intOf s).toNat)
    case atStart => exact ⟨0, Nat.zero_le _, rfl, Lib.hid (fun j y hj => by omega), rfl⟩
    case round =>
      obtain ⟨i, hi, rfl, hall, hwr⟩ := hrel
      subst hwr
      by_cases hlt : i < m
      · obtain ⟨y, hy⟩ : ∃ y, l[i]? = some y := ⟨_, List.getElem?_eq_getElem (by rw [hn.out]; omega)⟩
        obtain ⟨b1, o1, P, cp, rfl, hb1, ⟨z0, z1, z2, z3⟩, hcp, hds⟩ := h.out i y hy
        obtain ⟨k, hk⟩ : ∃ k, y.path.length = k := ⟨_, rfl⟩
        rw [hk] at z3
        clear z0 z1 z2 hcp hds hb1
        by_cases h20 : 20 < k
        · have e := hqf.out i y hy (by omega)
          subst e
          have d2 : decide ((20 : Int) < (k : Int)) = true := decide_eq_true (by omega)
          replace hk := Lib.hid hk
          replace hy := Lib.hid hy
          go_wp2
          go_ret
          exact ⟨rfl, rfl⟩
        · have d2 : decide ((20 : Int) < (k : Int)) = false := decide_eq_false (by omega)
          have hnx : Hid (∀ (j : Nat) (y : Op), j < i + 1 → l[j]? = some y → y.path.length ≤ 20) := Lib.hid fun j u hj hu => by
            by_cases e2 : j = i
            · subst e2
              rw [hy] at hu
              obtain rfl := Option.some.inj hu
              omega
            · exact hall.out j u (by omega) hu
          replace hk := Lib.hid hk
          replace hy := Lib.hid hy
          go_wp2
          go_roundw
          case rel => exact ⟨i + 1, by omega, by go_num, hnx, by first | trivial | rfl⟩
          case measure => simp [intOf]; omega
      · have e : i = m := by omega
        subst e
        have e := hqt.out fun j y hj => hall.out j y (by have := (List.getElem?_eq_some_iff.1 hj).1; rw [hn.out] at this; exact this) hj
        subst e
        go_wp2
        go_ret
        exact ⟨rfl, rfl⟩

set_option maxRecDepth 100000 in
set_option maxHeartbeats 4000000 in
theorem rcheck41_any (c : Ch) (w : World) : Calls Tryd.prog 29 #[.agg (chA c)] w fun e w' => e = .returned (.int .i64 (chkE c)) ∧ Below w.heap.size w w' := by
  obtain ⟨a, b, d, u, l⟩ := c
  unfold chA
  dsimp only
  have hB := Lib.hid (show Below w.heap.size w (w.alloc (.cells #[.int .i64 a, .int .i64 b, .int .i64 d, .int .i64 u, .bool l] 27)) from (Below.refl _ _).alloc (Nat.le_refl _) _)
  have hE : Hid (chkC ⟨a, b, d, u, l⟩ = true ↔ (0 ≤ a ∧ a ≤ 1048576) ∧ (0 ≤ b ∧ b ≤ 63) ∧ (0 ≤ d ∧ d ≤ 73048) ∧ (0 ≤ u ∧ u ≤ 134217727)) := Lib.hid (chkC_iff _)
  obtain ⟨q, hq⟩ : ∃ q, chkE ⟨a, b, d, u, l⟩ = q := ⟨_, rfl⟩
  rw [hq]
  replace hq := Lib.hid hq
  by_cases a0 : a < 0
  · have d0 : decide (a < 0) = true := decide_eq_true a0
    obtain rfl : q = 410 := by rw [← hq.out, chkE, if_neg (fun h => by have := hE.out.1 h; omega)]
    clear hq hE
    go_enter Tryd.func29, Tryd.ntmps29
    go_wp2
    go_ret
    exact ⟨rfl, hB.out⟩
  · have d0 : decide (a < 0) = false := decide_eq_false a0
    by_cases a1 : 1048576 < a
    · have d1 : decide (1048576 < a) = true := decide_eq_true a1
      obtain rfl : q = 410 := by rw [← hq.out, chkE, if_neg (fun h => by have := hE.out.1 h; omega)]
      clear hq hE
      go_enter Tryd.func29, Tryd.ntmps29
      go_wp2
      go_ret
      exact ⟨rfl, hB.out⟩
    · have d1 : decide (1048576 < a) = false := decide_eq_false a1
      by_cases a2 : b < 0
      · have d2 : decide (b < 0) = true := decide_eq_true a2
        obtain rfl : q = 410 := by rw [← hq.out, chkE, if_neg (fun h => by have := hE.out.1 h; omega)]
        clear hq hE
        go_enter Tryd.func29, Tryd.ntmps29
        go_wp2
        go_ret
        exact ⟨rfl, hB.out⟩
      · have d2 : decide (b < 0) = false := decide_eq_false a2
        by_cases a3 : 63 < b
        · have d3 : decide (63 < b) = true := decide_eq_true a3
          obtain rfl : q = 410 := by rw [← hq.out, chkE, if_neg (fun h => by have := hE.out.1 h; omega)]
          clear hq hE
          go_enter Tryd.func29, Tryd.ntmps29
          go_wp2
          go_ret
          exact ⟨rfl, hB.out⟩
        · have d3 : decide (63 < b) = false := decide_eq_false a3
          by_cases a4 : d < 0
          · have d4 : decide (d < 0) = true := decide_eq_true a4
            obtain rfl : q = 410 := by rw [← hq.out, chkE, if_neg (fun h => by have := hE.out.1 h; omega)]
            clear hq hE
            go_enter Tryd.func29, Tryd.ntmps29
            go_wp2
            go_ret
            exact ⟨rfl, hB.out⟩
          · have d4 : decide (d < 0) = false := decide_eq_false a4
            by_cases a5 : 73048 < d
            · have d5 : decide (73048 < d) = true := decide_eq_true a5
              obtain rfl : q = 410 := by rw [← hq.out, chkE, if_neg (fun h => by have := hE.out.1 h; omega)]
              clear hq hE
              go_enter Tryd.func29, Tryd.ntmps29
              go_wp2
              go_ret
              exact ⟨rfl, hB.out⟩
            · have d5 : decide (73048 < d) = false := decide_eq_false a5
              by_cases a6 : u < 0
              · have d6 : decide (u < 0) = true := decide_eq_true a6
                obtain rfl : q = 410 := by rw [← hq.out, chkE, if_neg (fun h => by have := hE.out.1 h; omega)]
                clear hq hE
                go_enter Tryd.func29, Tryd.ntmps29
                go_wp2
                go_ret
                exact ⟨rfl, hB.out⟩
              · have d6 : decide (u < 0) = false := decide_eq_false a6
                by_cases a7 : 134217728 ≤ u
                · have d7 : decide (134217728 ≤ u) = true := decide_eq_true a7
                  obtain rfl : q = 410 := by rw [← hq.out, chkE, if_neg (fun h => by have := hE.out.1 h; omega)]
                  clear hq hE
                  go_enter Tryd.func29, Tryd.ntmps29
                  go_wp2
                  go_ret
                  exact ⟨rfl, hB.out⟩
                · have d7 : decide (134217728 ≤ u) = false := decide_eq_false a7
                  obtain rfl : q = 0 := by rw [← hq.out, chkE, if_pos (hE.out.2 (by omega))]
                  clear hq hE
                  go_enter Tryd.func29, Tryd.ntmps29
                  go_wp2
                  go_ret
                  exact ⟨rfl, hB.out⟩
end Go.Proofs.YtnccbhndlnkboaaDoor
