/- The walks of merkle.steps and of its iterator. -/
import Derived.Test.YtnccbhndlnkboaaDoorMRoot
import Derived.Test.YtnccbhndlnkboaaDoorMoreA
namespace Go.Proofs.YtnccbhndlnkboaaDoor
open Go.RowKit Go.Shelf Cdc Sha
set_option linter.unusedVariables false
set_option linter.unusedSimpArgs false
attribute [local go_sem] Oper.semAt_some

/-- the steps of a way: alone; with the neighbour to the right -/
def stepsM (n i : Nat) : List (Bool × Bool) := if 1 < n then (decide (n ≤ xr i), decide (i % 2 = 0)) :: stepsM ((n + 1) / 2) (i / 2) else []
termination_by n
decreasing_by omega
theorem stepsM_big {n i : Nat} (h : 1 < n) : stepsM n i = (decide (n ≤ xr i), decide (i % 2 = 0)) :: stepsM ((n + 1) / 2) (i / 2) := by rw [stepsM, if_pos h]
theorem stepsM_one {n i : Nat} (h : ¬ 1 < n) : stepsM n i = [] := by rw [stepsM, if_neg h]

abbrev stEncs (x : Bool × Bool) : Array Value := #[.agg #[.bool x.1, .bool x.2]]
def stOwn (b : Nat) (k : Nat) : Prop := k = b ∨ k = b + 1
def stKp (b : Nat) (A B : World) : Prop := A.heap.size ≤ B.heap.size ∧ B.heap[b]? = A.heap[b]? ∧ B.heap[b + 1]? = A.heap[b + 1]?
/-- a counter in a cell -/
def cellNat (w : World) (b : Nat) : Nat := (intOf ((w.cell? ⟨b, 0, none⟩).getD undef)).toNat
theorem cellNat_eq {w : World} {b : Nat} {n : Nat} (h : w.cell? ⟨b, 0, none⟩ = some (.int .i64 n)) : cellNat w b = n := by
  unfold cellNat; rw [h]; simp [intOf]

theorem steps_any (n i : Int) (w : World) :
    Calls Tryd.prog 76 #[.int .i64 n, .int .i64 i] w fun e w' =>
      e = .returned (.func (.func 93) #[] #[.pointer (some ⟨w.heap.size, 0, none⟩), .pointer (some ⟨w.heap.size + 1, 0, none⟩)]) ∧
      w' = (w.alloc (.cells #[.int .i64 n] 3)).alloc (.cells #[.int .i64 i] 3) := by
  go_enter Tryd.func76, Tryd.ntmps76
  go_wp2
  go_ret
  exact ⟨rfl, rfl⟩

set_option maxRecDepth 100000 in
set_option maxHeartbeats 1000000 in
theorem steps_seq (n0 : Nat) (n i b : Nat) (W : World) (hn0 : 1 ≤ n0) (hn : n ≤ 65536) (hi : i ≤ 65536) (hcn : Boxed W b 3 (.int .i64 (n : Int))) (hci : Boxed W (b + 1) 3 (.int .i64 (i : Int))) :
    SeqX Fence.wide n0 Tryd.prog 93 #[.pointer (some ⟨b, 0, none⟩), .pointer (some ⟨b + 1, 0, none⟩)] stEncs
      (fun pre x => pre ++ [x] <+: stepsM n i) (Only (stOwn b)) (stKp b) (fun xs => xs = stepsM n i) (fun _ => True) W := by
  intro l J Jx hJ hJx hY h0
  refine callsIn_of_wp Tryd.func93 rfl trivial ?_ rfl
  simp only [Tryd.ntmps93, List.size_toArray, List.length_cons, List.length_nil, Nat.reduceAdd, Nat.reduceSub, Array.replicate_succ, Array.replicate_zero, List.push_toArray, List.append_toArray, List.nil_append, List.cons_append]
  gi_wp2
  gi_loopw [4] (fun _ wr => ∃ (pre : List (Bool × Bool)) (n' i' : Nat), Hid (stepsM n i = pre ++ stepsM n' i') ∧ n' ≤ 65536 ∧ i' ≤ 65536 ∧ J pre wr ∧ Boxed wr b 3 (.int .i64 (n' : Int)) ∧ Boxed wr (b + 1) 3 (.int .i64 (i' : Int))) (fun _ wr => cellNat wr b)
  case atStart => exact ⟨[], n, i, rfl, hn, hi, h0, hcn, hci⟩
  case round =>
    clear hcn hci h0 hn hi
    obtain ⟨pre, n', i', hs, hn', hi', hJs, hbn, hbi⟩ := hrel
    have hcn' := hbn.cell
    have hci' := hbi.cell
    by_cases h1 : 1 < n'
    · have hs1 := stepsM_big (i := i') h1
      obtain ⟨fn, tmps, assign, body, hy, hR⟩ := hY pre (decide (n' ≤ xr i'), decide (i' % 2 = 0)) wr hJs (by rw [hs.out, hs1]; exact ⟨stepsM ((n' + 1) / 2) (i' / 2), by simp⟩)
      have HE := Lib.hid (show stepsM n i = (pre ++ [(decide (n' ≤ xr i'), decide (i' % 2 = 0))]) ++ stepsM ((n' + 1) / 2) (i' / 2) by rw [hs.out, hs1]; simp)
      have hbx := bits_xr i' (by omega)
      have d1 : decide ((1 : Int) < (n' : Int)) = true := decide_eq_true (by omega)
      have hmeas := cellNat_eq hcn'
      obtain ⟨al, hal⟩ : ∃ al, decide (n' ≤ xr i') = al := ⟨_, rfl⟩
      obtain ⟨ri, hri⟩ : ∃ ri, decide (i' % 2 = 0) = ri := ⟨_, rfl⟩
      rw [hal, hri] at hy hR HE
      have d3 : (Int.tmod (i' : Int) 2 == 0) = ri := by
        rw [← hri, Int.tmod_eq_emod_of_nonneg (by omega), Bool.eq_iff_iff]
        simp
        omega
      have d4 : ((i' : Int) % 2 == 0) = ri := by
        rw [← hri, Bool.eq_iff_iff]
        simp
        omega
      dsimp only [stEncs] at hy
      clear hri hs1 hs hY
      gi_wp2
      refine hR.mono ?_
      rintro e W3 (⟨rfl, hJ3, hk3⟩ | ⟨rfl, hJx3⟩)
      · have hbn3 : Boxed W3 b 3 (.int .i64 (n' : Int)) := hk3.2.1.trans hbn
        have hbi3 : Boxed W3 (b + 1) 3 (.int .i64 (i' : Int)) := hk3.2.2.trans hbi
        have hcn3 := hbn3.cell
        have hci3 := hbi3.cell
        have hfn3 := hbn3.frozen
        have hfi3 := hbi3.frozen
        have e1 : IntKind.i64.wrap ((n' : Int) + 1) = (n' : Int) + 1 := IntWalk.i64_in _ (by omega)
        gi_wp2
        gi_region
        go_roundw
        case rel =>
          refine ⟨_, _, _, _, _, _, _, _, _, _, _, _, _, _, _, _, _, _, ⟨_, (n' + 1) / 2, i' / 2, HE, by omega, by omega, hJ _ _ _ hJ3 (((Only.refl _ _).setCell (.inl rfl) _).setCell (.inr rfl) _).drew, ?_, ?_⟩, rfl⟩
          · show Boxed (World.setCell _ _ _) _ _ _
            have := (hbn3.set (.int .i64 (((n' + 1) / 2 : Nat) : Int))).other (B' := b + 1) (by omega) (.int .i64 ((i' / 2 : Nat) : Int))
            rwa [show (((n' + 1) / 2 : Nat) : Int) = ((n' : Int) + 1) / 2 by omega, show ((i' / 2 : Nat) : Int) = (i' : Int) / 2 by omega] at this
          · show Boxed (World.setCell _ _ _) _ _ _
            have := (hbi3.other (B' := b) (by omega) (.int .i64 (((n' + 1) / 2 : Nat) : Int))).set (.int .i64 ((i' / 2 : Nat) : Int))
            rwa [show (((n' + 1) / 2 : Nat) : Int) = ((n' : Int) + 1) / 2 by omega, show ((i' / 2 : Nat) : Int) = (i' : Int) / 2 by omega] at this
        case measure =>
          change cellNat (World.setCell _ _ _) _ < _
          have := ((hbn3.set (.int .i64 (((n' + 1) / 2 : Nat) : Int))).other (B' := b + 1) (by omega) (.int .i64 ((i' / 2 : Nat) : Int))).cell
          rw [show (((n' + 1) / 2 : Nat) : Int) = ((n' : Int) + 1) / 2 by omega, show ((i' / 2 : Nat) : Int) = (i' : Int) / 2 by omega] at this
          rw [show ((n' : Int) + 1) / 2 = (((n' + 1) / 2 : Nat) : Int) by omega] at this ⊢
          rw [cellNat_eq this, hmeas]
          omega
      · gi_wp2
        refine bodyPost_ret (results_none rfl _ _ _) rfl ?_
        exact ⟨⟨_, rfl⟩, .inr ⟨_, trivial, hJx3⟩⟩
    · have d1 : decide ((1 : Int) < (n' : Int)) = false := decide_eq_false (by omega)
      gi_wp2
      go_end0
      exact ⟨⟨_, rfl⟩, .inl ⟨pre, by have := hs.out; rw [stepsM_one h1, List.append_nil] at this; exact this.symm, hJs⟩⟩
end Go.Proofs.YtnccbhndlnkboaaDoor
