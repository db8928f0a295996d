/- Numbers of 32 bits: the model's operations as BitVec's. -/
import Derived.Test.YthokpfegfnpmhaaDoorSha
import Derived.Test.YthokpfegfnpmhaaDoorRows
import Derived.WalkKit
import Derived.WalkSpells
import Derived.Lib.Hide
import Derived.RegionTactic
import Derived.Outline
import Derived.Deep.QuietTactic
import Derived.BigQuiet
namespace Go.Proofs.YthokpfegfnpmhaaDoor
open Go.RowKit Sha
set_option linter.unusedVariables false
set_option linter.unusedSimpArgs false

/-- a word as a value -/
abbrev uv (x : W) : Value := .int .u32 (x.toNat : Int)

theorem ofInt_w (x : W) : BitVec.ofInt 32 (x.toNat : Int) = x := by
  apply BitVec.eq_of_toNat_eq
  rw [BitVec.toNat_ofInt]
  have := x.isLt
  omega
theorem wrap_w (x : W) : IntKind.u32.wrap (x.toNat : Int) = (x.toNat : Int) := by
  have := x.isLt
  simp [IntKind.wrap, IntKind.bits, IntKind.signed]
  omega
theorem w_xor (x y : W) : bits .xor .u32 (x.toNat : Int) (y.toNat : Int) = ((x ^^^ y).toNat : Int) := by
  show IntKind.u32.wrap ((BitVec.ofInt 32 (x.toNat : Int) ^^^ BitVec.ofInt 32 (y.toNat : Int)).toNat : Int) = _
  rw [ofInt_w, ofInt_w, wrap_w]
theorem w_and (x y : W) : bits .and .u32 (x.toNat : Int) (y.toNat : Int) = ((x &&& y).toNat : Int) := by
  show IntKind.u32.wrap ((BitVec.ofInt 32 (x.toNat : Int) &&& BitVec.ofInt 32 (y.toNat : Int)).toNat : Int) = _
  rw [ofInt_w, ofInt_w, wrap_w]
theorem w_or (x y : W) : bits .or .u32 (x.toNat : Int) (y.toNat : Int) = ((x ||| y).toNat : Int) := by
  show IntKind.u32.wrap ((BitVec.ofInt 32 (x.toNat : Int) ||| BitVec.ofInt 32 (y.toNat : Int)).toNat : Int) = _
  rw [ofInt_w, ofInt_w, wrap_w]
theorem w_add (x y : W) : IntKind.u32.wrap ((x.toNat : Int) + (y.toNat : Int)) = ((x + y).toNat : Int) := by
  rw [BitVec.toNat_add]
  simp [IntKind.wrap, IntKind.bits, IntKind.signed]
theorem w_shr (x : W) (n : Nat) : (x.toNat : Int) / ((2 ^ n : Nat) : Int) = ((x >>> n).toNat : Int) := by
  rw [BitVec.toNat_ushiftRight, Nat.shiftRight_eq_div_pow]
  omega
theorem w_shl (x : W) (n : Nat) : IntKind.u32.wrap ((x.toNat : Int) * ((2 ^ n : Nat) : Int)) = ((x <<< n).toNat : Int) := by
  rw [BitVec.toNat_shiftLeft, Nat.shiftLeft_eq]
  simp [IntKind.wrap, IntKind.bits, IntKind.signed]

theorem w_shr2 (x : W) (n : Nat) : (x.toNat : Int) / 2 ^ n = ((x >>> n).toNat : Int) := by
  rw [← w_shr]; push_cast; rfl
theorem w_shl2 (x : W) (n : Nat) : (x.toNat : Int) * 2 ^ n % 4294967296 = ((x <<< n).toNat : Int) := by
  rw [BitVec.toNat_shiftLeft, Nat.shiftLeft_eq]
  have e : (2 : Nat) ^ 32 = 4294967296 := by decide
  have e2 : (x.toNat : Int) * 2 ^ n = ((x.toNat * 2 ^ n : Nat) : Int) := by rw [Int.natCast_mul, Int.natCast_pow]; rfl
  rw [e, e2]
  omega
theorem w_add2 (x y : W) : ((x.toNat : Int) + (y.toNat : Int)) % 4294967296 = ((x + y).toNat : Int) := by
  rw [BitVec.toNat_add]
  have e : (2 : Nat) ^ 32 = 4294967296 := by decide
  rw [e]
  omega

/-- the ways in which the program writes ch and maj -/
theorem ch_eq (e f g : W) : g ^^^ (e &&& (f ^^^ g)) = ch e f g := by
  unfold ch
  apply BitVec.eq_of_getLsbD_eq
  intro i hi
  simp only [BitVec.getLsbD_xor, BitVec.getLsbD_and, BitVec.getLsbD_not]
  cases e.getLsbD i <;> cases f.getLsbD i <;> cases g.getLsbD i <;> simp [hi]
theorem maj_eq (a b c : W) : (a &&& b) ||| (c &&& (a ||| b)) = maj a b c := by
  unfold maj
  apply BitVec.eq_of_getLsbD_eq
  intro i hi
  simp only [BitVec.getLsbD_xor, BitVec.getLsbD_and, BitVec.getLsbD_or]
  cases a.getLsbD i <;> cases b.getLsbD i <;> cases c.getLsbD i <;> rfl

set_option maxHeartbeats 1000000 in
theorem rot_any (x : W) (k : Nat) (hk : k = 2 ∨ k = 6 ∨ k = 7 ∨ k = 11 ∨ k = 13 ∨ k = 17 ∨ k = 18 ∨ k = 19 ∨ k = 22 ∨ k = 25) (w : World) :
    Calls Tryd.prog 117 #[uv x, .int .i64 (-(k : Int))] w fun e w' => e = .returned (uv (ror x k)) ∧ w = w' := by
  have hb : bits BinOp.and IntKind.u64 (IntKind.u64.wrap (-(k : Int))) 31 = 32 - (k : Int) := by
    rcases hk with rfl | rfl | rfl | rfl | rfl | rfl | rfl | rfl | rfl | rfl <;> decide
  have hk2 : k ≤ 32 := by omega
  have hk1 : 1 ≤ k := by omega
  go_enter Tryd.func117, Tryd.ntmps117
  go_wp2_with fail
  go_ret
  refine ⟨?_, rfl⟩
  show Ending.returned (Value.int IntKind.u32 (bits BinOp.or IntKind.u32 ((x.toNat : Int) * 2 ^ (32 - k) % 4294967296) ((x.toNat : Int) / 2 ^ (32 - (32 - k))))) = _
  have e : 32 - (32 - k) = k := by omega
  rw [e, w_shl2, w_shr2, w_or, BitVec.or_comm]
  rfl

theorem rotated_any (x : W) (a b c : Nat) (ha : a = 2 ∨ a = 6 ∨ a = 7 ∨ a = 11 ∨ a = 13 ∨ a = 17 ∨ a = 18 ∨ a = 19 ∨ a = 22 ∨ a = 25) (hb : b = 2 ∨ b = 6 ∨ b = 7 ∨ b = 11 ∨ b = 13 ∨ b = 17 ∨ b = 18 ∨ b = 19 ∨ b = 22 ∨ b = 25)
    (hc : c = 2 ∨ c = 6 ∨ c = 7 ∨ c = 11 ∨ c = 13 ∨ c = 17 ∨ c = 18 ∨ c = 19 ∨ c = 22 ∨ c = 25) (w : World) :
    Calls Tryd.prog 118 #[uv x, .int .i64 a, .int .i64 b, .int .i64 c] w fun e w' => e = .returned (uv (ror x a ^^^ ror x b ^^^ ror x c)) ∧ w = w' := by
  have ka := Lib.hid fun w => rot_any x a ha w
  have kb := Lib.hid fun w => rot_any x b hb w
  have kc := Lib.hid fun w => rot_any x c hc w
  have ha2 : a ≤ 25 := by omega
  have hb2 : b ≤ 25 := by omega
  have hc2 : c ≤ 25 := by omega
  clear ha hb hc
  go_enter Tryd.func118, Tryd.ntmps118
  go_wp2_with fail
  refine (ka.out _).mono ?_
  rintro e w' ⟨rfl, rfl⟩
  go_wp2_with fail
  refine (kb.out _).mono ?_
  rintro e w' ⟨rfl, rfl⟩
  go_wp2_with fail
  refine (kc.out _).mono ?_
  rintro e w' ⟨rfl, rfl⟩
  go_wp2_with fail
  go_ret
  refine ⟨?_, rfl⟩
  show Ending.returned (Value.int IntKind.u32 (bits BinOp.xor IntKind.u32 (bits BinOp.xor IntKind.u32 ((ror x a).toNat : Int) ((ror x b).toNat : Int)) ((ror x c).toNat : Int))) = _
  rw [w_xor, w_xor]
end Go.Proofs.YthokpfegfnpmhaaDoor
