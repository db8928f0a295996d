/- The walk of the iterator of squares. -/
import Derived.Test.YtallnbbdacngnaaDoorLeast
import Derived.Test.YtallnbbdacngnaaDoorGrp
import Derived.Lib.RabinKarpLaws
namespace Go.Proofs.YtallnbbdacngnaaDoor
open Go.RowKit Go.Shelf Jac
set_option linter.unusedVariables false
set_option linter.unusedSimpArgs false
attribute [local go_sem] Oper.semAt_some

/-- what the iterator yields: the number and a bit of the exponent; then the square and the next bit, .. -/
def sqs (a n : Nat) : List (Int × Bool) :=
  if h : n = 0 then [] else ((a : Int), decide (n % 2 = 1)) :: sqs (a * a % 2147483579) (n / 2)
  termination_by n
  decreasing_by omega

theorem sqs_zero (a : Nat) : sqs a 0 = [] := by unfold sqs; simp
theorem sqs_pos {a n : Nat} (h : 0 < n) : sqs a n = ((a : Int), decide (n % 2 = 1)) :: sqs (a * a % 2147483579) (n / 2) := by
  rw [sqs, dif_neg (by omega)]

abbrev sqEncs (x : Int × Bool) : Array Value := #[.int .i64 x.1, .bool x.2]
def sqOwn (b : Nat) (k : Nat) : Prop := k = b ∨ k = b + 1
def sqKp (b : Nat) (A B : World) : Prop := A.heap.size ≤ B.heap.size ∧ B.heap[b]? = A.heap[b]? ∧ B.heap[b + 1]? = A.heap[b + 1]?
/-- a counter in a cell -/
def cellNat (w : World) (b : Nat) : Nat := (intOf ((w.cell? ⟨b, 0, none⟩).getD undef)).toNat
theorem cellNat_eq {w : World} {b : Nat} {n : Nat} (h : w.cell? ⟨b, 0, none⟩ = some (.int .i64 n)) : cellNat w b = n := by
  unfold cellNat; rw [h]; simp [intOf]

theorem and_bit (n : Nat) (h : n < 9223372036854775808) : (bits BinOp.and IntKind.i64 (n : Int) 1 == 1) = decide (n % 2 = 1) := by
  rw [Go.Proofs.and_one n h]
  by_cases e : n % 2 = 1
  · rw [e]; rfl
  · have : n % 2 = 0 := by omega
    rw [this]; rfl

set_option maxRecDepth 100000 in
set_option maxHeartbeats 1000000 in
theorem squares_seq (n0 : Nat) (a n b : Nat) (W : World) (hn0 : 1 ≤ n0) (ha : a < 2147483579) (hn : n < 1073741789)
    (hca : W.cell? ⟨b, 0, none⟩ = some (.int .i64 a)) (hfa : W.frozen? ⟨b, 0, none⟩ = false)
    (hcn : W.cell? ⟨b + 1, 0, none⟩ = some (.int .i64 n)) (hfn : W.frozen? ⟨b + 1, 0, none⟩ = false) :
    SeqX Fence.wide n0 Tryd.prog 89 #[.pointer (some ⟨b + 1, 0, none⟩), .pointer (some ⟨b, 0, none⟩)] sqEncs
      (fun pre x => pre ++ [x] <+: sqs a n) (Only (sqOwn b)) (sqKp b) (fun xs => xs = sqs a n) (fun _ => True) W := by
  intro l J Jx hJ hJx hY h0
  refine callsIn_of_wp Tryd.func89 rfl trivial ?_ rfl
  simp only [Tryd.ntmps89, List.size_toArray, List.length_cons, List.length_nil, Nat.reduceAdd, Nat.reduceSub, Array.replicate_succ, Array.replicate_zero, List.push_toArray, List.append_toArray, List.nil_append, List.cons_append]
  gi_wp2
  gi_loopw [4] (fun _ wr => ∃ (pre : List (Int × Bool)) (a' n' : Nat), Hid (sqs a n = pre ++ sqs a' n') ∧ a' < 2147483579 ∧ n' < 1073741789 ∧ J pre wr ∧
      wr.cell? ⟨b, 0, none⟩ = some (.int .i64 a') ∧ wr.frozen? ⟨b, 0, none⟩ = false ∧ wr.cell? ⟨b + 1, 0, none⟩ = some (.int .i64 n') ∧ wr.frozen? ⟨b + 1, 0, none⟩ = false)
    (fun _ wr => cellNat wr (b + 1))
  case atStart => exact ⟨[], a, n, rfl, ha, hn, h0, hca, hfa, hcn, hfn⟩
  case round =>
    obtain ⟨pre, a', n', hs, ha', hn', hJs, hca', hfa', hcn', hfn'⟩ := hrel
    by_cases hz : n' = 0
    · subst hz
      gi_wp2
      go_end0
      exact ⟨⟨_, rfl⟩, .inl ⟨pre, by have := hs.out; rw [sqs_zero, List.append_nil] at this; exact this.symm, hJs⟩⟩
    · have hs1 := sqs_pos (a := a') (Nat.pos_of_ne_zero hz)
      have hb1 : (bits BinOp.and IntKind.i64 (n' : Int) 1 == 1) = decide (n' % 2 = 1) := and_bit n' (by omega)
      rw [← hb1] at hs1
      obtain ⟨fn, tmps, assign, body, hy, hR⟩ := hY pre ((a' : Int), (bits BinOp.and IntKind.i64 (n' : Int) 1 == 1)) wr hJs (by rw [hs.out, hs1]; exact ⟨sqs (a' * a' % 2147483579) (n' / 2), by simp⟩)
      have hs2 := Lib.hid hs1
      clear hs1 hb1
      dsimp only [sqEncs] at hy
      gi_wp2
      refine hR.mono ?_
      rintro e W3 (⟨rfl, hJ3, hk3⟩ | ⟨rfl, hJx3⟩)
      · have hsq1 : ((a' : Int) * (a' : Int)) ≤ 4611686018427387904 := by
          have : a' * a' ≤ 2147483579 * 2147483579 := Nat.mul_le_mul (by omega) (by omega)
          have e : ((a' * a' : Nat) : Int) = (a' : Int) * a' := Int.natCast_mul _ _
          omega
        have hsq0 : 0 ≤ (a' : Int) * (a' : Int) := by
          have e : ((a' * a' : Nat) : Int) = (a' : Int) * a' := Int.natCast_mul _ _
          omega
        have hca3 : W3.cell? ⟨b, 0, none⟩ = some (.int .i64 a') := (World.cell?_of_block (w := wr) (a := ⟨b, 0, none⟩) hk3.2.1).trans hca'
        have hcn3 : W3.cell? ⟨b + 1, 0, none⟩ = some (.int .i64 n') := (World.cell?_of_block (w := wr) (a := ⟨b + 1, 0, none⟩) hk3.2.2).trans hcn'
        have hfa3 : W3.frozen? ⟨b, 0, none⟩ = false := (World.frozen?_of_block (w := wr) (a := ⟨b, 0, none⟩) hk3.2.1).trans hfa'
        have hfn3 : W3.frozen? ⟨b + 1, 0, none⟩ = false := (World.frozen?_of_block (w := wr) (a := ⟨b + 1, 0, none⟩) hk3.2.2).trans hfn'
        have HE := Lib.hid (show sqs a n = (pre ++ [((a' : Int), (bits BinOp.and IntKind.i64 (n' : Int) 1 == 1))]) ++ sqs (a' * a' % 2147483579) (n' / 2) by rw [hs.out, hs2.out]; simp)
        gi_wp2
        go_roundw
        case rel =>
          refine ⟨_, a' * a' % 2147483579, n' / 2, HE, by omega, by omega, hJ _ _ _ hJ3 (((Only.refl _ _).setCell (.inl rfl) _).setCell (.inr rfl) _), ?_, ?_, ?_, ?_⟩
          · rw [World.cell?_setCell_other _ _ _ _ (by intro e; simp at e), World.cell?_setCell_same' _ _ _ (by rw [hca3]; rfl)]; rfl
          · rw [World.frozen?_setCell, World.frozen?_setCell]; exact hfa3
          · rw [World.cell?_setCell_same' _ _ _ (by rw [World.cell?_setCell_other _ _ _ _ (by intro e; simp at e), hcn3]; rfl)]; rfl
          · rw [World.frozen?_setCell, World.frozen?_setCell]; exact hfn3
        case measure =>
          have e1 : ((W3.setCell ⟨b, 0, none⟩ (.int .i64 ((a' : Int) * a' % 2147483579))).setCell ⟨b + 1, 0, none⟩ (.int .i64 ((n' : Int) / 2))).cell? ⟨b + 1, 0, none⟩ = some (.int .i64 ((n' / 2 : Nat) : Int)) := by
            rw [World.cell?_setCell_same' _ _ _ (by rw [World.cell?_setCell_other _ _ _ _ (by intro e; simp at e), hcn3]; rfl)]; rfl
          rw [cellNat_eq e1, cellNat_eq hcn']
          omega
      · gi_wp2
        refine bodyPost_ret (results_none rfl _ _ _) rfl ?_
        exact ⟨⟨_, rfl⟩, .inr ⟨_, trivial, hJx3⟩⟩
end Go.Proofs.YtallnbbdacngnaaDoor
