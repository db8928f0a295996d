/- The walks of group.least (at one number), group.squares, and of the iterator that it hands back. -/
import Derived.Test.YthokpfegfnpmhaaDoorRows
import Derived.Test.YthokpfegfnpmhaaDoorRngA
import Derived.WalkKit
import Derived.WalkSpells
import Derived.WalkLawsBesides
import Derived.OwnWalkIn
import Derived.TacticsInMore
import Derived.LoopNIn
import Derived.LoopIn
import Derived.Shelf.Abstract
import Derived.Shelf.RegionOpen
import Derived.Lib.Hide
import Derived.Test.YthokpfegfnpmhaaDoorGrpJ
import Derived.Deep.LoopGhost
import Derived.Lib.RabinKarpLaws
namespace Go.Proofs.YthokpfegfnpmhaaDoor
open Go.RowKit Go.Shelf
set_option linter.unusedVariables false
set_option linter.unusedSimpArgs false
attribute [local go_sem] Oper.semAt_some

theorem least_val (x : Int) : (x.tmod 1073741789 + 1073741789) % 1073741789 = x % 1073741789 := by
  rw [Int.add_emod_right, Int.tmod_eq_emod]
  split
  · simp
  · rw [Int.sub_emod]; simp

set_option maxHeartbeats 1000000 in
theorem least_one (x : Int) (b : Nat) (w : World) (hc : w.cell? ⟨b, 0, none⟩ = some (.int .i64 x)) :
    Calls Tryd.prog 122 #[.slice (some ⟨b, 0, none⟩) 1 1] w fun e w' => e = .returned (.int .i64 (x % 1073741789)) ∧ w' = w := by
  have b1 : -1073741789 < x.tmod 1073741789 := Int.lt_tmod_of_pos _ (by decide)
  have b2 : x.tmod 1073741789 < 1073741789 := Int.tmod_lt_of_pos _ (by decide)
  have HV := Lib.hid (least_val x)
  go_enter Tryd.func122, Tryd.ntmps122
  go_wp2
  go_loop [3, 8] (fun r i => (i = .int .i64 0 ∧ r = .int .i64 1) ∨ (i = .int .i64 1 ∧ r = .int .i64 (x % 1073741789))) (fun _ i => 1 - (intOf i).toNat)
  case atStart => exact .inl ⟨rfl, rfl⟩
  case round =>
    rcases hrel with ⟨rfl, rfl⟩ | ⟨rfl, rfl⟩
    · go_wp2
      go_round
      case rel => exact .inr ⟨rfl, by rw [HV.out]⟩
      case measure => simp [intOf]
    · go_wp2
      go_ret
      exact ⟨rfl, rfl⟩

/-- the iterator's variables: the number in block b + 1, the exponent in block b -/
theorem squares_any (a n : Int) (w : World) :
    Calls Tryd.prog 121 #[.int .i64 a, .int .i64 n] w fun e w' =>
      e = .returned (.func (.func 126) #[] #[.pointer (some ⟨w.heap.size + 1, 0, none⟩), .pointer (some ⟨w.heap.size, 0, none⟩)]) ∧
      w' = (w.alloc (.cells #[.int .i64 a] 3)).alloc (.cells #[.int .i64 n] 3) := by
  go_enter Tryd.func121, Tryd.ntmps121
  go_wp2
  go_ret
  exact ⟨rfl, rfl⟩
end Go.Proofs.YthokpfegfnpmhaaDoor
/- The walk of group.Valid: it reckons Gauss's count of x modulo the prime, by reciprocity. -/
namespace Go.Proofs.YthokpfegfnpmhaaDoor
open Go.RowKit Jac
set_option linter.unusedVariables false
set_option linter.unusedSimpArgs false

/-- y over m, with the sign b, has a count as even as x -/
def GoodV (x y m : Nat) (b : Bool) : Prop := Nat.Coprime y m ∧ m % 2 = 1 ∧ (mu y m + (if b then 0 else 1)) % 2 = x % 2

theorem par_two {y n : Nat} (hodd : n % 2 = 1) (hc : Nat.Coprime (2 * y) n) : mu (2 * y) n % 2 = (mu y n + if n % 8 = 3 ∨ n % 8 = 5 then 1 else 0) % 2 := by
  have h2 : Nat.Coprime 2 n := Nat.Coprime.coprime_mul_right hc
  have hy : Nat.Coprime y n := Nat.Coprime.coprime_mul_left hc
  rw [mu_mul hodd h2 hy]
  have := mu_two_parity hodd
  omega

theorem good_flip {x y m : Nat} {b : Bool} (h : GoodV x (2 * y) m b) (h8 : m % 8 = 3 ∨ m % 8 = 5) : GoodV x y m (!b) := by
  obtain ⟨hc, ho, hb⟩ := h
  refine ⟨Nat.Coprime.coprime_mul_left hc, ho, ?_⟩
  have := par_two ho hc
  rw [if_pos h8] at this
  rw [← hb]
  cases b <;> simp <;> omega

theorem good_keep {x y m : Nat} {b : Bool} (h : GoodV x (2 * y) m b) (h8 : ¬ (m % 8 = 3 ∨ m % 8 = 5)) : GoodV x y m b := by
  obtain ⟨hc, ho, hb⟩ := h
  refine ⟨Nat.Coprime.coprime_mul_left hc, ho, ?_⟩
  have := par_two ho hc
  rw [if_neg h8] at this
  rw [← hb]
  omega

theorem good_swap {x y m : Nat} {b : Bool} (h : GoodV x y m b) (hy : y % 2 = 1) (h4 : y % 4 = 3 ∧ m % 4 = 3) : GoodV x (m % y) y (!b) := by
  obtain ⟨hc, ho, hb⟩ := h
  refine ⟨?_, hy, ?_⟩
  · rw [Nat.coprime_iff_gcd_eq_one, ← Nat.gcd_rec]; exact hc
  · have := reciprocity' hy ho hc
    rw [if_pos h4] at this
    rw [mu_mod, ← hb]
    cases b <;> simp <;> omega

theorem good_swap' {x y m : Nat} {b : Bool} (h : GoodV x y m b) (hy : y % 2 = 1) (h4 : ¬ (y % 4 = 3 ∧ m % 4 = 3)) : GoodV x (m % y) y b := by
  obtain ⟨hc, ho, hb⟩ := h
  refine ⟨?_, hy, ?_⟩
  · rw [Nat.coprime_iff_gcd_eq_one, ← Nat.gcd_rec]; exact hc
  · have := reciprocity' hy ho hc
    rw [if_neg h4] at this
    rw [mu_mod, ← hb]
    cases b <;> simp <;> omega

theorem good_pos {x y m : Nat} {b : Bool} (h : GoodV x (m % y) y b) (hy : 1 < y) : 1 ≤ m % y := by
  obtain ⟨hc, _, _⟩ := h
  rcases Nat.eq_zero_or_pos (m % y) with e | e
  · rw [e, Nat.coprime_iff_gcd_eq_one, Nat.gcd_zero_left] at hc; omega
  · exact e

theorem good_end {x m : Nat} {b : Bool} (h : GoodV x 1 m b) : b = decide (x % 2 = 0) := by
  obtain ⟨_, _, hb⟩ := h
  rw [mu_one] at hb
  cases b <;> simp_all <;> omega

theorem odd_of {y : Nat} (h : ¬ y % 2 = 0) : y % 2 = 1 := by omega

theorem good_start {x n m : Nat} (h : n = m) (hc : Nat.Coprime x n) (hn : n % 2 = 1) : GoodV (mu x n) x m true := by
  subst h; exact ⟨hc, hn, by simp only [if_true, Nat.add_zero]⟩

set_option maxHeartbeats 1000000 in
theorem valid_in (x n : Nat) (w : World) (hn : n = 2147483579) (h1 : 1 ≤ x) (h2 : x < 2147483579) (hc : Nat.Coprime x n) :
    Calls Tryd.prog 90 #[.int .i64 x] w fun e w' => e = .returned (.bool (decide (mu x n % 2 = 0))) ∧ w' = w := by
  have G0 := Lib.hid (good_start hn hc (by omega))
  clear hn
  obtain ⟨c, hcc⟩ : ∃ c, mu x n = c := ⟨_, rfl⟩
  rw [hcc] at G0 ⊢
  clear hcc
  clear hc
  go_enter Tryd.func90, Tryd.ntmps90
  go_wp2
  go_step3
  go_wp2
  go_step3
  go_wp2
  go_loop [0, 3, 4] (fun a n s => ∃ (y m : Nat) (b : Bool), a = .int .i64 y ∧ n = .int .i64 m ∧ s = .bool b ∧ 1 ≤ y ∧ y < 2147483579 ∧ m ≤ 2147483579 ∧ Hid (GoodV c y m b)) (fun a _ _ => (intOf a).toNat)
  case atStart => exact ⟨x, 2147483579, true, rfl, rfl, rfl, h1, h2, Nat.le_refl _, G0⟩
  case round =>
    obtain ⟨y, m, b, rfl, rfl, rfl, hy1, hy2, hm, hG⟩ := hrel
    by_cases hy : 1 < y
    · go_wp2
      go_loop [0, 4] (fun a s => ∃ (z : Nat) (d : Bool), a = .int .i64 z ∧ s = .bool d ∧ 1 ≤ z ∧ z ≤ y ∧ Hid (GoodV c z m d)) (fun a _ => (intOf a).toNat)
      case atStart => exact ⟨y, b, rfl, rfl, hy1, Nat.le_refl _, hG⟩
      case round =>
        obtain ⟨z, d, rfl, rfl, hz1, hzy, hGz⟩ := hrel
        by_cases hev : z % 2 = 0
        · obtain ⟨k, hk⟩ : ∃ k, k = z / 2 := ⟨_, rfl⟩
          have hzk : z = 2 * k := by omega
          subst hzk
          clear hk hev
          have t1 : ((2 * k : Nat) : Int) % 2 = 0 := by omega
          have t2 : ((2 * k : Nat) : Int) / 2 = (k : Int) := by omega
          by_cases h8 : m % 8 = 3 ∨ m % 8 = 5
          · have hG2 := Lib.hid (good_flip hGz.out h8)
            rcases h8 with h83 | h85
            · have t3 : ((m : Int) % 8 == 3) = true := by simp; omega
              go_wp2
              go_round
              case rel => exact ⟨k, !d, rfl, rfl, by omega, by omega, hG2⟩
              case measure => simp [intOf]; omega
            · have t3 : ((m : Int) % 8 == 3) = false := by simp; omega
              have t4 : ((m : Int) % 8 == 5) = true := by simp; omega
              go_wp2
              go_round
              case rel => exact ⟨k, !d, rfl, rfl, by omega, by omega, hG2⟩
              case measure => simp [intOf]; omega
          · have hG2 := Lib.hid (good_keep hGz.out h8)
            have t3 : ((m : Int) % 8 == 3) = false := by simp; omega
            have t4 : ((m : Int) % 8 == 5) = false := by simp; omega
            go_wp2
            go_round
            case rel => exact ⟨k, d, rfl, rfl, by omega, by omega, hG2⟩
            case measure => simp [intOf]; omega
        · have hodd : z % 2 = 1 := by omega
          have t1 : ((z : Int) % 2 == 0) = false := by simp; omega
          by_cases hz : z = 1
          · subst hz
            have he := Lib.hid (good_end hGz.out)
            go_wp2
            go_ret
            exact ⟨congrArg (fun b => Ending.returned (.bool b)) he.out, rfl⟩
          · by_cases h4 : z % 4 = 3 ∧ m % 4 = 3
            · have hG2 := Lib.hid (good_swap hGz.out hodd h4)
              have hp := good_pos hG2.out (by omega)
              have hlt : m % z < z := Nat.mod_lt _ (by omega)
              have t3 : ((z : Int) % 4 == 3) = true := by simp; omega
              have t4 : ((m : Int) % 4 == 3) = true := by simp; omega
              have t5 : ((z : Int) == 1) = false := by simp; omega
              have t6 : (z : Int) ≠ 0 := by omega
              clear h4
              go_wp2
              go_round
              case rel => exact ⟨m % z, z, !d, rfl, rfl, rfl, hp, by omega, by omega, hG2⟩
              case measure => simp [intOf]; omega
            · have hG2 := Lib.hid (good_swap' hGz.out hodd h4)
              have hp := good_pos hG2.out (by omega)
              have hlt : m % z < z := Nat.mod_lt _ (by omega)
              have t5 : ((z : Int) == 1) = false := by simp; omega
              have t6 : (z : Int) ≠ 0 := by omega
              by_cases h41 : z % 4 = 3
              · have t3 : ((z : Int) % 4 == 3) = true := by simp; omega
                have t4 : ((m : Int) % 4 == 3) = false := by simp; omega
                clear h4
                go_wp2
                go_round
                case rel => exact ⟨m % z, z, d, rfl, rfl, rfl, hp, by omega, by omega, hG2⟩
                case measure => simp [intOf]; omega
              · have t3 : ((z : Int) % 4 == 3) = false := by simp; omega
                clear h4
                go_wp2
                go_round
                case rel => exact ⟨m % z, z, d, rfl, rfl, rfl, hp, by omega, by omega, hG2⟩
                case measure => simp [intOf]; omega
    · obtain rfl : y = 1 := by omega
      have he := Lib.hid (good_end hG.out)
      go_wp2
      go_ret
      exact ⟨congrArg (fun b => Ending.returned (.bool b)) he.out, rfl⟩
end Go.Proofs.YthokpfegfnpmhaaDoor
/- The walk of the iterator of squares. -/
namespace Go.Proofs.YthokpfegfnpmhaaDoor
open Go.RowKit Go.Shelf Jac
set_option linter.unusedVariables false
set_option linter.unusedSimpArgs false
attribute [local go_sem] Oper.semAt_some

/-- what the iterator yields: the number and a bit of the exponent; then the square and the next bit, .. -/
def sqs (a n : Nat) : List (Int × Bool) :=
  if h : n = 0 then [] else ((a : Int), decide (n % 2 = 1)) :: sqs (a * a % 2147483579) (n / 2)
  termination_by n
  decreasing_by omega

theorem sqs_zero (a : Nat) : sqs a 0 = [] := by unfold sqs; simp
theorem sqs_pos {a n : Nat} (h : 0 < n) : sqs a n = ((a : Int), decide (n % 2 = 1)) :: sqs (a * a % 2147483579) (n / 2) := by
  rw [sqs, dif_neg (by omega)]

abbrev sqEncs (x : Int × Bool) : Array Value := #[.int .i64 x.1, .bool x.2]
def sqOwn (b : Nat) (k : Nat) : Prop := k = b ∨ k = b + 1
def sqKp (b : Nat) (A B : World) : Prop := A.heap.size ≤ B.heap.size ∧ B.heap[b]? = A.heap[b]? ∧ B.heap[b + 1]? = A.heap[b + 1]?
/-- a counter in a cell -/
def cellNat (w : World) (b : Nat) : Nat := (intOf ((w.cell? ⟨b, 0, none⟩).getD undef)).toNat
theorem cellNat_eq {w : World} {b : Nat} {n : Nat} (h : w.cell? ⟨b, 0, none⟩ = some (.int .i64 n)) : cellNat w b = n := by
  unfold cellNat; rw [h]; simp [intOf]

theorem and_bit (n : Nat) (h : n < 9223372036854775808) : (bits BinOp.and IntKind.i64 (n : Int) 1 == 1) = decide (n % 2 = 1) := by
  rw [Go.Proofs.and_one n h]
  by_cases e : n % 2 = 1
  · rw [e]; rfl
  · have : n % 2 = 0 := by omega
    rw [this]; rfl

set_option maxRecDepth 100000 in
set_option maxHeartbeats 1000000 in
theorem squares_seq (n0 : Nat) (a n b : Nat) (W : World) (hn0 : 1 ≤ n0) (ha : a < 2147483579) (hn : n < 1073741789)
    (hca : W.cell? ⟨b, 0, none⟩ = some (.int .i64 a)) (hfa : W.frozen? ⟨b, 0, none⟩ = false)
    (hcn : W.cell? ⟨b + 1, 0, none⟩ = some (.int .i64 n)) (hfn : W.frozen? ⟨b + 1, 0, none⟩ = false) :
    SeqX Fence.wide n0 Tryd.prog 126 #[.pointer (some ⟨b + 1, 0, none⟩), .pointer (some ⟨b, 0, none⟩)] sqEncs
      (fun pre x => pre ++ [x] <+: sqs a n) (Only (sqOwn b)) (sqKp b) (fun xs => xs = sqs a n) (fun _ => True) W := by
  intro l J Jx hJ hJx hY h0
  refine callsIn_of_wp Tryd.func126 rfl trivial ?_ rfl
  simp only [Tryd.ntmps126, List.size_toArray, List.length_cons, List.length_nil, Nat.reduceAdd, Nat.reduceSub, Array.replicate_succ, Array.replicate_zero, List.push_toArray, List.append_toArray, List.nil_append, List.cons_append]
  gi_wp2
  gi_loopw [4] (fun _ wr => ∃ (pre : List (Int × Bool)) (a' n' : Nat), Hid (sqs a n = pre ++ sqs a' n') ∧ a' < 2147483579 ∧ n' < 1073741789 ∧ J pre wr ∧
      wr.cell? ⟨b, 0, none⟩ = some (.int .i64 a') ∧ wr.frozen? ⟨b, 0, none⟩ = false ∧ wr.cell? ⟨b + 1, 0, none⟩ = some (.int .i64 n') ∧ wr.frozen? ⟨b + 1, 0, none⟩ = false)
    (fun _ wr => cellNat wr (b + 1))
  case atStart => exact ⟨[], a, n, rfl, ha, hn, h0, hca, hfa, hcn, hfn⟩
  case round =>
    obtain ⟨pre, a', n', hs, ha', hn', hJs, hca', hfa', hcn', hfn'⟩ := hrel
    by_cases hz : n' = 0
    · subst hz
      gi_wp2
      go_end0
      exact ⟨⟨_, rfl⟩, .inl ⟨pre, by have := hs.out; rw [sqs_zero, List.append_nil] at this; exact this.symm, hJs⟩⟩
    · have hs1 := sqs_pos (a := a') (Nat.pos_of_ne_zero hz)
      have hb1 : (bits BinOp.and IntKind.i64 (n' : Int) 1 == 1) = decide (n' % 2 = 1) := and_bit n' (by omega)
      rw [← hb1] at hs1
      obtain ⟨fn, tmps, assign, body, hy, hR⟩ := hY pre ((a' : Int), (bits BinOp.and IntKind.i64 (n' : Int) 1 == 1)) wr hJs (by rw [hs.out, hs1]; exact ⟨sqs (a' * a' % 2147483579) (n' / 2), by simp⟩)
      have hs2 := Lib.hid hs1
      clear hs1 hb1
      dsimp only [sqEncs] at hy
      gi_wp2
      refine hR.mono ?_
      rintro e W3 (⟨rfl, hJ3, hk3⟩ | ⟨rfl, hJx3⟩)
      · have hsq1 : ((a' : Int) * (a' : Int)) ≤ 4611686018427387904 := by
          have : a' * a' ≤ 2147483579 * 2147483579 := Nat.mul_le_mul (by omega) (by omega)
          have e : ((a' * a' : Nat) : Int) = (a' : Int) * a' := Int.natCast_mul _ _
          omega
        have hsq0 : 0 ≤ (a' : Int) * (a' : Int) := by
          have e : ((a' * a' : Nat) : Int) = (a' : Int) * a' := Int.natCast_mul _ _
          omega
        have hca3 : W3.cell? ⟨b, 0, none⟩ = some (.int .i64 a') := (World.cell?_of_block (w := wr) (a := ⟨b, 0, none⟩) hk3.2.1).trans hca'
        have hcn3 : W3.cell? ⟨b + 1, 0, none⟩ = some (.int .i64 n') := (World.cell?_of_block (w := wr) (a := ⟨b + 1, 0, none⟩) hk3.2.2).trans hcn'
        have hfa3 : W3.frozen? ⟨b, 0, none⟩ = false := (World.frozen?_of_block (w := wr) (a := ⟨b, 0, none⟩) hk3.2.1).trans hfa'
        have hfn3 : W3.frozen? ⟨b + 1, 0, none⟩ = false := (World.frozen?_of_block (w := wr) (a := ⟨b + 1, 0, none⟩) hk3.2.2).trans hfn'
        have HE := Lib.hid (show sqs a n = (pre ++ [((a' : Int), (bits BinOp.and IntKind.i64 (n' : Int) 1 == 1))]) ++ sqs (a' * a' % 2147483579) (n' / 2) by rw [hs.out, hs2.out]; simp)
        gi_wp2
        go_roundw
        case rel =>
          refine ⟨_, a' * a' % 2147483579, n' / 2, HE, by omega, by omega, hJ _ _ _ hJ3 (((Only.refl _ _).setCell (.inl rfl) _).setCell (.inr rfl) _), ?_, ?_, ?_, ?_⟩
          · rw [World.cell?_setCell_other _ _ _ _ (by intro e; simp at e), World.cell?_setCell_same' _ _ _ (by rw [hca3]; rfl)]; rfl
          · rw [World.frozen?_setCell, World.frozen?_setCell]; exact hfa3
          · rw [World.cell?_setCell_same' _ _ _ (by rw [World.cell?_setCell_other _ _ _ _ (by intro e; simp at e), hcn3]; rfl)]; rfl
          · rw [World.frozen?_setCell, World.frozen?_setCell]; exact hfn3
        case measure =>
          have e1 : ((W3.setCell ⟨b, 0, none⟩ (.int .i64 ((a' : Int) * a' % 2147483579))).setCell ⟨b + 1, 0, none⟩ (.int .i64 ((n' : Int) / 2))).cell? ⟨b + 1, 0, none⟩ = some (.int .i64 ((n' / 2 : Nat) : Int)) := by
            rw [World.cell?_setCell_same' _ _ _ (by rw [World.cell?_setCell_other _ _ _ _ (by intro e; simp at e), hcn3]; rfl)]; rfl
          rw [cellNat_eq e1, cellNat_eq hcn']
          omega
      · gi_wp2
        refine bodyPost_ret (results_none rfl _ _ _) rfl ?_
        exact ⟨⟨_, rfl⟩, .inr ⟨_, trivial, hJx3⟩⟩
end Go.Proofs.YthokpfegfnpmhaaDoor
/- The walks of group.Valid (at every number) and group.Pow. -/
namespace Go.Proofs.YthokpfegfnpmhaaDoor
open Go.RowKit Go.Shelf Jac
set_option linter.unusedVariables false
set_option linter.unusedSimpArgs false
attribute [local go_sem] Oper.semAt_some

/-- is x an element? -/
noncomputable def validB (x : Int) : Bool := decide (1 ≤ x ∧ x < 2147483579) && decide (mu x.toNat Pn % 2 = 0)

theorem validB_in {x : Int} (h : 1 ≤ x ∧ x < 2147483579) : validB x = decide (mu x.toNat Pn % 2 = 0) := by
  unfold validB; rw [decide_eq_true h, Bool.true_and]
theorem validB_out {x : Int} (h : ¬ (1 ≤ x ∧ x < 2147483579)) : validB x = false := by
  unfold validB; rw [decide_eq_false h, Bool.false_and]
theorem validB_range {x : Int} (h : validB x = true) : 1 ≤ x ∧ x < 2147483579 := by
  apply Classical.byContradiction
  intro c
  rw [validB_out c] at h
  cases h

set_option maxHeartbeats 400000 in
theorem valid_out (x : Int) (w : World) (h : ¬ (1 ≤ x ∧ x < 2147483579)) :
    Calls Tryd.prog 90 #[.int .i64 x] w fun e w' => e = .returned (.bool false) ∧ w' = w := by
  by_cases h1 : x < 1
  · clear h
    go_enter Tryd.func90, Tryd.ntmps90
    go_wp2
    go_step3
    go_wp2
    rw [Exit.noGoto_ret]
    go_ret
    exact ⟨rfl, rfl⟩
  · have h2 : 2147483579 ≤ x := by omega
    clear h
    go_enter Tryd.func90, Tryd.ntmps90
    go_wp2
    go_step3
    go_wp2
    rw [Exit.noGoto_ret]
    go_ret
    exact ⟨rfl, rfl⟩

theorem valid_any (x : Int) (w : World) :
    Calls Tryd.prog 90 #[.int .i64 x] w fun e w' => e = .returned (.bool (validB x)) ∧ w' = w := by
  by_cases h : 1 ≤ x ∧ x < 2147483579
  · obtain ⟨n, rfl⟩ : ∃ n : Nat, x = n := ⟨x.toNat, by omega⟩
    have := valid_in n Pn w Pn_eq (by omega) (by omega) (by rw [Pn_eq]; exact coprimeP (by omega) (by omega))
    rw [validB_in h, Int.toNat_natCast]
    exact this
  · rw [validB_out h]
    exact valid_out x w h

/-- the power as the rounds reckon it -/
def powF (l : List (Int × Bool)) : Nat := l.foldl (fun c x => if x.2 then c * x.1.toNat % 2147483579 else c) 1

theorem powF_snoc (l : List (Int × Bool)) (x : Int × Bool) : powF (l ++ [x]) = if x.2 then powF l * x.1.toNat % 2147483579 else powF l := by
  simp [powF]

theorem powF_lt : ∀ l, powF l < 2147483579 := by
  intro l
  have key : ∀ (l : List (Int × Bool)) (c : Nat), c < 2147483579 → l.foldl (fun c x => if x.2 then c * x.1.toNat % 2147483579 else c) c < 2147483579 := by
    intro l
    induction l with
    | nil => intro c h; exact h
    | cons x l ih =>
      intro c h
      simp only [List.foldl_cons]
      apply ih
      split
      · exact Nat.mod_lt _ (by decide)
      · exact h
  exact key l 1 (by decide)

theorem powF_sqs : ∀ (n a c : Nat), (sqs a n).foldl (fun c x => if x.2 then c * x.1.toNat % 2147483579 else c) c % 2147483579 = c * a ^ n % 2147483579 := by
  intro n
  induction n using Nat.strongRecOn with
  | _ n ih =>
    intro a c
    by_cases h : n = 0
    · subst h; rw [sqs_zero]; simp
    · rw [sqs_pos (by omega)]
      simp only [List.foldl_cons]
      rw [ih (n / 2) (by omega)]
      have e : a ^ n = (a * a) ^ (n / 2) * a ^ (n % 2) := by
        rw [← Nat.pow_two, ← Nat.pow_mul, ← Nat.pow_add, Nat.div_add_mod]
      have sq : (a * a % 2147483579) ^ (n / 2) % 2147483579 = (a * a) ^ (n / 2) % 2147483579 := (Nat.pow_mod (a * a) (n / 2) 2147483579).symm
      rw [e]
      by_cases o : n % 2 = 1
      · simp only [o, decide_true, if_true, Int.toNat_natCast, Nat.pow_one]
        rw [Nat.mul_mod, sq, Nat.mod_mod, ← Nat.mul_mod]
        rw [Nat.mul_assoc, Nat.mul_comm a]
      · have o' : n % 2 = 0 := by omega
        simp only [o', Nat.pow_zero, Nat.mul_one]
        rw [Nat.mul_mod, sq, ← Nat.mul_mod]
        simp

theorem powF_eq (a n : Nat) : powF (sqs a n) = pw a n := by
  have h := powF_sqs n a 1
  have l := powF_lt (sqs a n)
  unfold pw
  rw [Nat.one_mul] at h
  rw [← h]
  exact (Nat.mod_eq_of_lt l).symm

theorem sqs_lt : ∀ (n a : Nat), a < 2147483579 → ∀ x ∈ sqs a n, ∃ y : Nat, y < 2147483579 ∧ x.1 = (y : Int) := by
  intro n
  induction n using Nat.strongRecOn with
  | _ n ih =>
    intro a ha x hx
    by_cases h : n = 0
    · subst h; rw [sqs_zero] at hx; cases hx
    · rw [sqs_pos (by omega)] at hx
      rcases List.mem_cons.1 hx with rfl | hx
      · exact ⟨a, ha, rfl⟩
      · exact ih (n / 2) (by omega) _ (Nat.mod_lt _ (by decide)) x hx

theorem sqs_elem {a m : Nat} {pre : List (Int × Bool)} {z : Int} {bit : Bool} (ha : (a : Int) < 2147483579) (h : pre ++ [(z, bit)] <+: sqs a m) : ∃ y : Nat, y < 2147483579 ∧ z = (y : Int) :=
  sqs_lt m a (by omega) (z, bit) (h.subset (by simp))

/-- what Pow answers -/
noncomputable def powV (a n : Int) : Value :=
  if validB a then .tuple #[.int .i64 (pw a.toNat (n % 1073741789).toNat), .int .i64 0] else .tuple #[.int .i64 0, .int .i64 100]

set_option maxRecDepth 100000 in
set_option maxHeartbeats 1000000 in
theorem pow_in (a : Nat) (n : Int) (w : World) (ha : validB a = true) :
    Calls Tryd.prog 109 #[.int .i64 a, .int .i64 n] w fun e w' =>
      e = .returned (.tuple #[.int .i64 (pw a (n % 1073741789).toNat), .int .i64 0]) ∧ Below w.heap.size w w' := by
  have hr := validB_range ha
  have HV := Lib.hid ha
  clear ha
  refine (callsIn_wide (n := 8)).1 ?_
  refine callsIn_of_wp_marks Tryd.func109 rfl trivial ?_ rfl
  simp only [Tryd.ntmps109, List.size_toArray, List.length_cons, List.length_nil, Nat.reduceAdd, Nat.reduceSub, Array.replicate_succ, Array.replicate_zero, List.push_toArray, List.append_toArray, List.nil_append, List.cons_append]
  gi_wp2_with (first
    | (refine ⟨trivial, ?_⟩; gi_at_call 90; refine (callsIn_wide.2 (valid_any _ _)).mono ?_; rintro e w' ⟨rfl, rfl⟩; rw [HV.out])
    | (refine ⟨trivial, ?_⟩; gi_at_call 122; refine (callsIn_wide.2 (least_one n _ _ (by simp))).mono ?_; rintro e w' ⟨rfl, rfl⟩)
    | (refine ⟨trivial, ?_⟩; gi_at_call 121; refine (callsIn_wide.2 (squares_any _ _ _)).mono ?_; rintro e w' ⟨rfl, rfl⟩))
  obtain ⟨m, hm⟩ : ∃ m : Nat, n % 1073741789 = m := ⟨(n % 1073741789).toNat, by omega⟩
  have hm2 : m < 1073741789 := by omega
  rw [hm]
  have HN := Lib.hid hm
  clear hm
  obtain ⟨W0, hW0⟩ : ∃ W0, ((((w.alloc (Obj.cells #[Value.int IntKind.i64 1] 3)).alloc (Obj.cells #[Value.int IntKind.i64 n] 3)).alloc (Obj.cells #[Value.int IntKind.i64 ↑a] 3)).alloc (Obj.cells #[Value.int IntKind.i64 m] 3)) = W0 := ⟨_, rfl⟩
  have hc0 : W0.cell? ⟨w.heap.size, 0, none⟩ = some (.int .i64 1) := by rw [← hW0]; simp [go_sem]
  have hf0 : W0.frozen? ⟨w.heap.size, 0, none⟩ = false := by rw [← hW0]; simp [go_sem]
  have hca : W0.cell? ⟨w.heap.size + 1 + 1, 0, none⟩ = some (.int .i64 a) := by rw [← hW0]; simp [go_sem]
  have hfa : W0.frozen? ⟨w.heap.size + 1 + 1, 0, none⟩ = false := by rw [← hW0]; simp [go_sem]
  have hcn : W0.cell? ⟨w.heap.size + 1 + 1 + 1, 0, none⟩ = some (.int .i64 m) := by rw [← hW0]; simp [go_sem]
  have hfn : W0.frozen? ⟨w.heap.size + 1 + 1 + 1, 0, none⟩ = false := by rw [← hW0]; simp [go_sem]
  have hsz : W0.heap.size = w.heap.size + 4 := by rw [← hW0]; simp
  have hb0 : Below w.heap.size w W0 := by
    rw [← hW0]; exact ((((Below.refl _ w).alloc (Nat.le_refl _) _).alloc (by simp) _).alloc (by simp; omega) _).alloc (by simp; omega) _
  rw [hW0]
  clear hW0
  refine wpIn_rangeFunc_st (F := Fence.wide) (n := 8) rfl (by decide) (gf := 126) (lb := #[.pointer (some ⟨w.heap.size + 1 + 1 + 1, 0, none⟩), .pointer (some ⟨w.heap.size + 1 + 1, 0, none⟩)]) rfl trivial (enters_of Tryd.func126 (by kernel_rfl) rfl)
    (fun W1 hb1 _ => squares_seq 7 a m (w.heap.size + 1 + 1) W1 (by decide) (by omega) hm2 ((hb1.cell (by simp; omega)).trans hca) ((hb1.frozen (by simp; omega)).trans hfa) ((hb1.cell (by simp; omega)).trans hcn) ((hb1.frozen (by simp; omega)).trans hfn))
    (fun A B h k o hk hA _ => by rw [h.block k (Array.getElem?_eq_some_iff.1 hA).1 (by unfold sqOwn; omega)]; exact hA)
    (fun h k => ⟨Nat.le_trans h.1 k.1, k.2.1.trans h.2.1, k.2.2.trans h.2.2⟩)
    (fun W l o o' hl hW _ _ => ⟨by simp, World.putObj_heap_other (by omega), World.putObj_heap_other (by omega)⟩)
    (fun _ => rfl)
    (fun pre W => W.cell? ⟨w.heap.size, 0, none⟩ = some (.int .i64 (powF pre)) ∧ W.frozen? ⟨w.heap.size, 0, none⟩ = false ∧ Below w.heap.size w W ∧ w.heap.size + 4 ≤ W.heap.size)
    (fun _ _ _ => False) ?hI ?hIx ?hIs ?hIxs ⟨hc0, hf0, hb0, by omega⟩
    (fun x => { tmps := #[.int .i64 a, .int .i64 n, undef, undef, .pointer (some ⟨w.heap.size, 0, none⟩), .int .i64 0, .int .i64 x.1, .bool x.2, .int .i64 a, .bool true, .bool false, .int .i64 a,
          .int .i64 n, .slice (some ⟨w.heap.size + 1, 0, none⟩) 1 1, .int .i64 m,
          .func (.func 126) #[] #[.pointer (some ⟨w.heap.size + 1 + 1 + 1, 0, none⟩), .pointer (some ⟨w.heap.size + 1 + 1, 0, none⟩)],
          .int .i64 x.1, .bool x.2, undef, undef, undef, undef, undef, undef], defers := [] }) ?assign ?body ?done ?stop
  case hI => exact fun s A B row hs hg hr => ⟨cell_kept hs.1 hg (fun r e => (hr r e).2), (frozen_kept hs.1 hg (fun r e => (hr r e).2)).trans hs.2.1, hs.2.2.1.grown hg hs.2.2.1.size (fun k e => by have := (hr k e).1; omega), Nat.le_trans hs.2.2.2 hg.size⟩
  case hIx => exact fun _ _ _ _ _ hs _ _ => hs
  case hIs =>
    exact fun s A B hs h => by
      have hlt : w.heap.size < A.heap.size := by have := hs.2.2.2; omega
      have hb := h.block w.heap.size hlt (by unfold sqOwn; omega)
      exact ⟨(World.cell?_of_block (w := A) hb).trans hs.1, (World.frozen?_of_block (w := A) hb).trans hs.2.1, hs.2.2.1.trans (h.below hs.2.2.1.size (by unfold sqOwn; omega)), Nat.le_trans hs.2.2.2 h.size⟩
  case hIxs => exact fun _ _ _ _ hs _ => hs
  case assign =>
    intro l x W K hK
    gi_wp2
    exact hK
  case body =>
    rintro l pre ⟨z, bit⟩ W ⟨hc, hf, hB, hsz'⟩ hnx _
    obtain ⟨y, hy, rfl⟩ := sqs_elem hr.2 hnx
    have hp := powF_lt pre
    have hs := powF_snoc pre ((y : Int), bit)
    have hsq1 : ((powF pre : Int) * (y : Int)) ≤ 4611686018427387904 := by
      have : powF pre * y ≤ 2147483579 * 2147483579 := Nat.mul_le_mul (by omega) (by omega)
      have e : ((powF pre * y : Nat) : Int) = (powF pre : Int) * y := Int.natCast_mul _ _
      omega
    have hsq0 : 0 ≤ (powF pre : Int) * (y : Int) := by
      have e : ((powF pre * y : Nat) : Int) = (powF pre : Int) * y := Int.natCast_mul _ _
      omega
    cases bit
    · have HS := Lib.hid hs
      clear hs
      gi_wp2
      exact ⟨(KeepsOthers.refl W).from _, ⟨Nat.le_refl _, rfl, rfl⟩, by rw [HS.out]; exact hc, hf, hB, hsz'⟩
    · have HS := Lib.hid hs
      clear hs
      gi_wp2
      refine ⟨(KeepsOthers.setCell _ _ _).from _, ⟨by simp, Below.heap_setCell _ _ _ _ (by simp; omega), Below.heap_setCell _ _ _ _ (by simp; omega)⟩, ?_, ?_, hB.setCell (p := ⟨w.heap.size, 0, none⟩) (Nat.le_refl _) _, by simpa using hsz'⟩
      · rw [HS.out, World.cell?_setCell_same' _ _ _ (by rw [hc]; rfl)]
        rfl
      · rw [World.frozen?_setCell]; exact hf
  case done =>
    rintro D xs W hD rfl ⟨hc, hf, hB, hsz'⟩ hK
    gi_wp2
    have hK' := (KeepsOthers.setCell W ⟨w.heap.size, 0, none⟩ (.int .i64 (powF (sqs a m)))).same D _ hK rfl
    refine ⟨by simp, .inl ⟨_, _, rfl, run_takeDeferred hK', ?_⟩⟩
    have hcell : ((W.setCell ⟨w.heap.size, 0, none⟩ (.int .i64 (powF (sqs a m)))).putObj D (.deferred none)).cell? ⟨w.heap.size, 0, none⟩ = some (.int .i64 (powF (sqs a m))) :=
      cell_kept (World.cell?_setCell_same' _ _ _ (by rw [hc]; rfl)) (grownBy_putObj' _ D (.deferred none)) (fun r e => by cases e; exact ⟨_, hK', rfl⟩)
    have hB2 : Below w.heap.size w ((W.setCell ⟨w.heap.size, 0, none⟩ (.int .i64 (powF (sqs a m)))).putObj D (.deferred none)) :=
      (hB.setCell (p := ⟨w.heap.size, 0, none⟩) (Nat.le_refl _) _).trans (belowK_b (w := w) (Nat.le_refl _) _ D _ _ (by omega) hK' rfl rfl)
    generalize (W.setCell ⟨w.heap.size, 0, none⟩ (.int .i64 (powF (sqs a m)))).putObj D (.deferred none) = W9 at hcell hB2 ⊢
    refine ⟨.tuple #[.int .i64 (powF (sqs a m)), .int .i64 0], by simp [results, Tryd.results109, go_sem, hcell], ?_, hB2⟩
    rw [powF_eq, HN.out, Int.toNat_natCast]
  case stop =>
    rintro D c pre W _ _ h _
    exact h.elim
end Go.Proofs.YthokpfegfnpmhaaDoor
/- The contracts of package group (but Hash), and of its reference. -/
namespace Go.Proofs.YthokpfegfnpmhaaDoor
open Go.RowKit Go.Shelf Jac
set_option linter.unusedVariables false
set_option linter.unusedSimpArgs false

theorem tmod_val (n : Int) : (if n.tmod 1073741789 < 0 then n.tmod 1073741789 + 1073741789 else n.tmod 1073741789) = n % 1073741789 := by
  rw [Int.tmod_eq_emod]
  have := Int.emod_nonneg n (b := 1073741789) (by decide)
  have := Int.emod_lt_of_pos n (b := 1073741789) (by decide)
  split <;> split <;> simp at * <;> omega

noncomputable def powC (a n : Int) : Int := if validB a then (pw a.toNat (n % 1073741789).toNat : Int) else 0
noncomputable def powE (a : Int) : Int := if validB a then 0 else 100
noncomputable def mulC (a b : Int) : Int := if validB a && validB b then a * b % 2147483579 else 0
noncomputable def mulE (a b : Int) : Int := if validB a && validB b then 0 else 100
noncomputable def elC (n : Int) : Int := if n < 1 ∨ 1073741789 < n then 0 else if validB n then n else 2147483579 - n
noncomputable def elE (n : Int) : Int := if n < 1 ∨ 1073741789 < n then 1 else 0
noncomputable def numC (x : Int) : Int := if validB x then min x (2147483579 - x) else 0
noncomputable def numE (x : Int) : Int := if validB x then 0 else 100

set_option maxHeartbeats 400000 in
theorem pow_out (a n : Int) (w : World) (ha : validB a = false) :
    Calls Tryd.prog 109 #[.int .i64 a, .int .i64 n] w fun e w' => e = .returned (.tuple #[.int .i64 0, .int .i64 100]) ∧ Below w.heap.size w w' := by
  go_enter Tryd.func109, Tryd.ntmps109
  go_wp2_with (go_at_call 90; refine (valid_any _ _).mono ?_; rintro e w' ⟨rfl, rfl⟩; rw [ha])
  exact bodyPost_ret (v := .tuple #[.int .i64 0, .int .i64 100]) (by simp [results, Tryd.results109, go_sem]) rfl ⟨rfl, (((Below.refl _ _).alloc (Nat.le_refl _) _))⟩

theorem pow_any (a n : Int) (w : World) :
    Calls Tryd.prog 109 #[.int .i64 a, .int .i64 n] w fun e w' => e = .returned (.tuple #[.int .i64 (powC a n), .int .i64 (powE a)]) ∧ Below w.heap.size w w' := by
  unfold powC powE
  by_cases h : validB a = true
  · obtain ⟨m, rfl⟩ : ∃ m : Nat, a = m := ⟨a.toNat, by have := validB_range h; omega⟩
    rw [if_pos h, if_pos h, Int.toNat_natCast]
    exact pow_in m n w h
  · rw [if_neg h, if_neg h]
    exact pow_out a n w (by simpa using h)

theorem mul_bd {a b : Int} (ha : validB a = true) (hb : validB b = true) : 0 ≤ a * b ∧ a * b ≤ 4611686018427387904 := by
  have h1 := validB_range ha
  have h2 := validB_range hb
  refine ⟨Int.mul_nonneg (by omega) (by omega), ?_⟩
  have : a * b ≤ 2147483579 * 2147483579 := Int.mul_le_mul (by omega) (by omega) (by omega) (by omega)
  omega

set_option maxHeartbeats 400000 in
theorem mul_any (a b : Int) (w : World) :
    Calls Tryd.prog 91 #[.int .i64 a, .int .i64 b] w fun e w' => e = .returned (.tuple #[.int .i64 (mulC a b), .int .i64 (mulE a b)]) ∧ w' = w := by
  unfold mulC mulE
  by_cases ha : validB a = true
  · by_cases hb : validB b = true
    · have hbd := mul_bd ha hb
      rw [ha, hb, Bool.true_and, if_pos rfl, if_pos rfl]
      go_enter Tryd.func91, Tryd.ntmps91
      go_wp2_with (go_at_call 90; refine (valid_any _ _).mono ?_; rintro e w' ⟨rfl, rfl⟩; first | rw [ha] | rw [hb])
      go_ret2
      exact ⟨rfl, rfl⟩
    · have hb' : validB b = false := by simpa using hb
      clear hb
      rw [ha, hb', Bool.true_and, if_neg (by decide), if_neg (by decide)]
      go_enter Tryd.func91, Tryd.ntmps91
      go_wp2_with (go_at_call 90; refine (valid_any _ _).mono ?_; rintro e w' ⟨rfl, rfl⟩; first | rw [ha] | rw [hb'])
      go_ret2
      exact ⟨rfl, rfl⟩
  · have ha' : validB a = false := by simpa using ha
    clear ha
    rw [ha', Bool.false_and, if_neg (by decide), if_neg (by decide)]
    go_enter Tryd.func91, Tryd.ntmps91
    go_wp2_with (go_at_call 90; refine (valid_any _ _).mono ?_; rintro e w' ⟨rfl, rfl⟩; rw [ha'])
    go_ret2
    exact ⟨rfl, rfl⟩



end Go.Proofs.YthokpfegfnpmhaaDoor
