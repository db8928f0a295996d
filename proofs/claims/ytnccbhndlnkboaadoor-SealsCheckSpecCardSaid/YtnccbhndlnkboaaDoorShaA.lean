/- SHA-256 over plain lists of bytes. -/
import Derived.Test.YtnccbhndlnkboaaDoorRows
import Derived.WalkKit
import Derived.WalkSpells
import Derived.Lib.Hide
import Derived.RegionTactic
import Derived.Outline
import Derived.Deep.QuietTactic
import Derived.BigQuiet
namespace Sha
set_option linter.unusedVariables false
set_option linter.unusedSimpArgs false
abbrev W := BitVec 32

def K : List W := [
  0x428a2f98#32, 0x71374491#32, 0xb5c0fbcf#32, 0xe9b5dba5#32, 0x3956c25b#32, 0x59f111f1#32, 0x923f82a4#32, 0xab1c5ed5#32,
  0xd807aa98#32, 0x12835b01#32, 0x243185be#32, 0x550c7dc3#32, 0x72be5d74#32, 0x80deb1fe#32, 0x9bdc06a7#32, 0xc19bf174#32,
  0xe49b69c1#32, 0xefbe4786#32, 0x0fc19dc6#32, 0x240ca1cc#32, 0x2de92c6f#32, 0x4a7484aa#32, 0x5cb0a9dc#32, 0x76f988da#32,
  0x983e5152#32, 0xa831c66d#32, 0xb00327c8#32, 0xbf597fc7#32, 0xc6e00bf3#32, 0xd5a79147#32, 0x06ca6351#32, 0x14292967#32,
  0x27b70a85#32, 0x2e1b2138#32, 0x4d2c6dfc#32, 0x53380d13#32, 0x650a7354#32, 0x766a0abb#32, 0x81c2c92e#32, 0x92722c85#32,
  0xa2bfe8a1#32, 0xa81a664b#32, 0xc24b8b70#32, 0xc76c51a3#32, 0xd192e819#32, 0xd6990624#32, 0xf40e3585#32, 0x106aa070#32,
  0x19a4c116#32, 0x1e376c08#32, 0x2748774c#32, 0x34b0bcb5#32, 0x391c0cb3#32, 0x4ed8aa4a#32, 0x5b9cca4f#32, 0x682e6ff3#32,
  0x748f82ee#32, 0x78a5636f#32, 0x84c87814#32, 0x8cc70208#32, 0x90befffa#32, 0xa4506ceb#32, 0xbef9a3f7#32, 0xc67178f2#32]
def H0 : List W := [0x6a09e667#32, 0xbb67ae85#32, 0x3c6ef372#32, 0xa54ff53a#32, 0x510e527f#32, 0x9b05688c#32, 0x1f83d9ab#32, 0x5be0cd19#32]

def ror (x : W) (n : Nat) : W := (x >>> n) ||| (x <<< (32 - n))
def s0 (x : W) : W := ror x 7 ^^^ ror x 18 ^^^ (x >>> 3)
def s1 (x : W) : W := ror x 17 ^^^ ror x 19 ^^^ (x >>> 10)
def S0 (x : W) : W := ror x 2 ^^^ ror x 13 ^^^ ror x 22
def S1 (x : W) : W := ror x 6 ^^^ ror x 11 ^^^ ror x 25
def ch (e f g : W) : W := (e &&& f) ^^^ (~~~e &&& g)
def maj (a b c : W) : W := (a &&& b) ^^^ (a &&& c) ^^^ (b &&& c)

/-- the number that four bytes are -/
def word (b : List UInt8) : W := BitVec.ofNat 32 (b.foldl (fun n c => n * 256 + c.toNat) 0)

/-- the words of a block, up to so many -/
def sched (ws : List W) : Nat → List W
  | 0 => ws
  | n + 1 => let l := sched ws n; let t := l.length; l ++ [l.getD (t - 16) 0 + s0 (l.getD (t - 15) 0) + l.getD (t - 7) 0 + s1 (l.getD (t - 2) 0)]

structure St where
  a : W
  b : W
  c : W
  d : W
  e : W
  f : W
  g : W
  h : W

def rnd (s : St) (k w : W) : St :=
  let p := s.h + S1 s.e + ch s.e s.f s.g + k + w
  let q := S0 s.a + maj s.a s.b s.c
  ⟨p + q, s.a, s.b, s.c, s.d + p, s.e, s.f, s.g⟩

def rnds (ws : List W) (s : St) : Nat → St
  | 0 => s
  | n + 1 => rnd (rnds ws s n) (K.getD n 0) (ws.getD n 0)

def words (b : List UInt8) : List W := (List.range 16).map fun t => word ((b.drop (4 * t)).take 4)
def add (s t : St) : St := ⟨s.a + t.a, s.b + t.b, s.c + t.c, s.d + t.d, s.e + t.e, s.f + t.f, s.g + t.g, s.h + t.h⟩
def comp (s : St) (b : List UInt8) : St := add s (rnds (sched (words b) 48) s 64)
def init : St := ⟨0x6a09e667#32, 0xbb67ae85#32, 0x3c6ef372#32, 0xa54ff53a#32, 0x510e527f#32, 0x9b05688c#32, 0x1f83d9ab#32, 0x5be0cd19#32⟩

/-- n blocks, one after the other -/
def blocks (s : St) (b : List UInt8) : Nat → St
  | 0 => s
  | n + 1 => comp (blocks s b n) ((b.drop (64 * n)).take 64)

def be8 (n : Nat) : List UInt8 := (List.range 8).map fun i => UInt8.ofNat (n / 256 ^ (7 - i))
def be4 (x : W) : List UInt8 := [UInt8.ofNat (x.toNat / 256 ^ 3), UInt8.ofNat (x.toNat / 256 ^ 2), UInt8.ofNat (x.toNat / 256 ^ 1), UInt8.ofNat (x.toNat / 256 ^ 0)]
def pad (b : List UInt8) : List UInt8 := b ++ 0x80 :: (List.replicate ((119 - b.length % 64) % 64) 0 ++ be8 (8 * b.length))
def out (s : St) : List UInt8 := be4 s.a ++ be4 s.b ++ be4 s.c ++ be4 s.d ++ be4 s.e ++ be4 s.f ++ be4 s.g ++ be4 s.h
def sha (b : List UInt8) : List UInt8 := out (blocks init (pad b) ((pad b).length / 64))

theorem t0 : (sha []).take 4 = [0xe3, 0xb0, 0xc4, 0x42] := by decide +kernel
end Sha
/- Numbers of 32 bits: the model's operations as BitVec's. -/
namespace Go.Proofs.YtnccbhndlnkboaaDoor
open Go.RowKit Sha
set_option linter.unusedVariables false
set_option linter.unusedSimpArgs false

/-- a word as a value -/
abbrev uv (x : W) : Value := .int .u32 (x.toNat : Int)

theorem ofInt_w (x : W) : BitVec.ofInt 32 (x.toNat : Int) = x := by
  apply BitVec.eq_of_toNat_eq
  rw [BitVec.toNat_ofInt]
  have := x.isLt
  omega
theorem wrap_w (x : W) : IntKind.u32.wrap (x.toNat : Int) = (x.toNat : Int) := by
  have := x.isLt
  simp [IntKind.wrap, IntKind.bits, IntKind.signed]
  omega
theorem w_xor (x y : W) : bits .xor .u32 (x.toNat : Int) (y.toNat : Int) = ((x ^^^ y).toNat : Int) := by
  show IntKind.u32.wrap ((BitVec.ofInt 32 (x.toNat : Int) ^^^ BitVec.ofInt 32 (y.toNat : Int)).toNat : Int) = _
  rw [ofInt_w, ofInt_w, wrap_w]
theorem w_and (x y : W) : bits .and .u32 (x.toNat : Int) (y.toNat : Int) = ((x &&& y).toNat : Int) := by
  show IntKind.u32.wrap ((BitVec.ofInt 32 (x.toNat : Int) &&& BitVec.ofInt 32 (y.toNat : Int)).toNat : Int) = _
  rw [ofInt_w, ofInt_w, wrap_w]
theorem w_or (x y : W) : bits .or .u32 (x.toNat : Int) (y.toNat : Int) = ((x ||| y).toNat : Int) := by
  show IntKind.u32.wrap ((BitVec.ofInt 32 (x.toNat : Int) ||| BitVec.ofInt 32 (y.toNat : Int)).toNat : Int) = _
  rw [ofInt_w, ofInt_w, wrap_w]
theorem w_add (x y : W) : IntKind.u32.wrap ((x.toNat : Int) + (y.toNat : Int)) = ((x + y).toNat : Int) := by
  rw [BitVec.toNat_add]
  simp [IntKind.wrap, IntKind.bits, IntKind.signed]
theorem w_shr (x : W) (n : Nat) : (x.toNat : Int) / ((2 ^ n : Nat) : Int) = ((x >>> n).toNat : Int) := by
  rw [BitVec.toNat_ushiftRight, Nat.shiftRight_eq_div_pow]
  omega
theorem w_shl (x : W) (n : Nat) : IntKind.u32.wrap ((x.toNat : Int) * ((2 ^ n : Nat) : Int)) = ((x <<< n).toNat : Int) := by
  rw [BitVec.toNat_shiftLeft, Nat.shiftLeft_eq]
  simp [IntKind.wrap, IntKind.bits, IntKind.signed]

theorem w_shr2 (x : W) (n : Nat) : (x.toNat : Int) / 2 ^ n = ((x >>> n).toNat : Int) := by
  rw [← w_shr]; push_cast; rfl
theorem w_shl2 (x : W) (n : Nat) : (x.toNat : Int) * 2 ^ n % 4294967296 = ((x <<< n).toNat : Int) := by
  rw [BitVec.toNat_shiftLeft, Nat.shiftLeft_eq]
  have e : (2 : Nat) ^ 32 = 4294967296 := by decide
  have e2 : (x.toNat : Int) * 2 ^ n = ((x.toNat * 2 ^ n : Nat) : Int) := by rw [Int.natCast_mul, Int.natCast_pow]; rfl
  rw [e, e2]
  omega
theorem w_add2 (x y : W) : ((x.toNat : Int) + (y.toNat : Int)) % 4294967296 = ((x + y).toNat : Int) := by
  rw [BitVec.toNat_add]
  have e : (2 : Nat) ^ 32 = 4294967296 := by decide
  rw [e]
  omega

/-- the ways in which the program writes ch and maj -/
theorem ch_eq (e f g : W) : g ^^^ (e &&& (f ^^^ g)) = ch e f g := by
  unfold ch
  apply BitVec.eq_of_getLsbD_eq
  intro i hi
  simp only [BitVec.getLsbD_xor, BitVec.getLsbD_and, BitVec.getLsbD_not]
  cases e.getLsbD i <;> cases f.getLsbD i <;> cases g.getLsbD i <;> simp [hi]
theorem maj_eq (a b c : W) : (a &&& b) ||| (c &&& (a ||| b)) = maj a b c := by
  unfold maj
  apply BitVec.eq_of_getLsbD_eq
  intro i hi
  simp only [BitVec.getLsbD_xor, BitVec.getLsbD_and, BitVec.getLsbD_or]
  cases a.getLsbD i <;> cases b.getLsbD i <;> cases c.getLsbD i <;> rfl

set_option maxHeartbeats 1000000 in
theorem rot_any (x : W) (k : Nat) (hk : k = 2 ∨ k = 6 ∨ k = 7 ∨ k = 11 ∨ k = 13 ∨ k = 17 ∨ k = 18 ∨ k = 19 ∨ k = 22 ∨ k = 25) (w : World) :
    Calls Tryd.prog 108 #[uv x, .int .i64 (-(k : Int))] w fun e w' => e = .returned (uv (ror x k)) ∧ w = w' := by
  have hb : bits BinOp.and IntKind.u64 (IntKind.u64.wrap (-(k : Int))) 31 = 32 - (k : Int) := by
    rcases hk with rfl | rfl | rfl | rfl | rfl | rfl | rfl | rfl | rfl | rfl <;> decide
  have hk2 : k ≤ 32 := by omega
  have hk1 : 1 ≤ k := by omega
  go_enter Tryd.func108, Tryd.ntmps108
  go_wp2_with fail
  go_ret
  refine ⟨?_, rfl⟩
  show Ending.returned (Value.int IntKind.u32 (bits BinOp.or IntKind.u32 ((x.toNat : Int) * 2 ^ (32 - k) % 4294967296) ((x.toNat : Int) / 2 ^ (32 - (32 - k))))) = _
  have e : 32 - (32 - k) = k := by omega
  rw [e, w_shl2, w_shr2, w_or, BitVec.or_comm]
  rfl

theorem rotated_any (x : W) (a b c : Nat) (ha : a = 2 ∨ a = 6 ∨ a = 7 ∨ a = 11 ∨ a = 13 ∨ a = 17 ∨ a = 18 ∨ a = 19 ∨ a = 22 ∨ a = 25) (hb : b = 2 ∨ b = 6 ∨ b = 7 ∨ b = 11 ∨ b = 13 ∨ b = 17 ∨ b = 18 ∨ b = 19 ∨ b = 22 ∨ b = 25)
    (hc : c = 2 ∨ c = 6 ∨ c = 7 ∨ c = 11 ∨ c = 13 ∨ c = 17 ∨ c = 18 ∨ c = 19 ∨ c = 22 ∨ c = 25) (w : World) :
    Calls Tryd.prog 109 #[uv x, .int .i64 a, .int .i64 b, .int .i64 c] w fun e w' => e = .returned (uv (ror x a ^^^ ror x b ^^^ ror x c)) ∧ w = w' := by
  have ka := Lib.hid fun w => rot_any x a ha w
  have kb := Lib.hid fun w => rot_any x b hb w
  have kc := Lib.hid fun w => rot_any x c hc w
  have ha2 : a ≤ 25 := by omega
  have hb2 : b ≤ 25 := by omega
  have hc2 : c ≤ 25 := by omega
  clear ha hb hc
  go_enter Tryd.func109, Tryd.ntmps109
  go_wp2_with fail
  refine (ka.out _).mono ?_
  rintro e w' ⟨rfl, rfl⟩
  go_wp2_with fail
  refine (kb.out _).mono ?_
  rintro e w' ⟨rfl, rfl⟩
  go_wp2_with fail
  refine (kc.out _).mono ?_
  rintro e w' ⟨rfl, rfl⟩
  go_wp2_with fail
  go_ret
  refine ⟨?_, rfl⟩
  show Ending.returned (Value.int IntKind.u32 (bits BinOp.xor IntKind.u32 (bits BinOp.xor IntKind.u32 ((ror x a).toNat : Int) ((ror x b).toNat : Int)) ((ror x c).toNat : Int))) = _
  rw [w_xor, w_xor]
end Go.Proofs.YtnccbhndlnkboaaDoor
/- The walks of digest.word and the reference's word. -/
namespace Go.Proofs.YtnccbhndlnkboaaDoor
open Go.RowKit Sha
set_option linter.unusedVariables false
set_option linter.unusedSimpArgs false

/-- the bytes bs lie from an address on -/
def At (w : World) (ab ao : Nat) (bs : List UInt8) : Prop := ∀ j x, bs[j]? = some x → w.cell? ⟨ab, ao + j, none⟩ = some (.int .u8 x.toNat)

theorem At.drop {w : World} {ab ao : Nat} {bs : List UInt8} (h : At w ab ao bs) (k : Nat) : At w ab (ao + k) (bs.drop k) := fun j x hj => by
  rw [List.getElem?_drop] at hj
  have := h (k + j) x hj
  rw [← Nat.add_assoc] at this
  exact this
theorem At.take {w : World} {ab ao : Nat} {bs : List UInt8} (h : At w ab ao bs) (k : Nat) : At w ab ao (bs.take k) := fun j x hj => h j x (by
  rw [List.getElem?_take] at hj
  split at hj
  · exact hj
  · cases hj)
theorem At.keep {w w' : World} {ab ao : Nat} {bs : List UInt8} (h : At w ab ao bs) (hk : w'.heap[ab]? = w.heap[ab]?) : At w' ab ao bs := fun j x hj =>
  (World.cell?_of_block (w := w) (a := ⟨ab, ao + j, none⟩) hk).trans (h j x hj)

def fold4 (bs : List UInt8) : Nat := bs.foldl (fun n c => n * 256 + c.toNat) 0
theorem fold4_snoc (bs : List UInt8) (x : UInt8) : fold4 (bs ++ [x]) = fold4 bs * 256 + x.toNat := by simp [fold4]
theorem fold4_lt (bs : List UInt8) : fold4 bs < 256 ^ bs.length := by
  have key : ∀ (bs : List UInt8) (a : Nat), bs.foldl (fun n c => n * 256 + c.toNat) a < (a + 1) * 256 ^ bs.length := by
    intro bs
    induction bs with
    | nil => intro a; simp
    | cons x bs ih =>
      intro a
      have h := ih (a * 256 + x.toNat)
      have hx := x.toNat_lt
      have h2 : (a * 256 + x.toNat + 1) * 256 ^ bs.length ≤ ((a + 1) * 256) * 256 ^ bs.length := Nat.mul_le_mul_right _ (by omega)
      rw [List.foldl_cons, List.length_cons, Nat.pow_succ, Nat.mul_comm (256 ^ bs.length) 256, ← Nat.mul_assoc]
      omega
  have := key bs 0
  simpa [fold4] using this

theorem or_byte (n c : Nat) (hn : n < 16777216) (hc : c < 256) : bits .or .u32 ((n : Int) * 256) (c : Int) = ((n * 256 + c : Nat) : Int) := by
  have e1 : (n : Int) * 256 = ((BitVec.ofNat 32 (n * 256)).toNat : Int) := by
    rw [BitVec.toNat_ofNat]
    have e : (2 : Nat) ^ 32 = 4294967296 := by decide
    rw [e]
    omega
  have e2 : (c : Int) = ((BitVec.ofNat 32 c).toNat : Int) := by
    rw [BitVec.toNat_ofNat]
    have e : (2 : Nat) ^ 32 = 4294967296 := by decide
    rw [e]
    omega
  rw [e1, e2, w_or, BitVec.toNat_or, BitVec.toNat_ofNat, BitVec.toNat_ofNat]
  have e : (2 : Nat) ^ 32 = 4294967296 := by decide
  rw [e, Nat.mod_eq_of_lt (by omega), Nat.mod_eq_of_lt (by omega)]
  have h := Nat.two_pow_add_eq_or_of_lt (i := 8) (b := c) (by omega) n
  have e8 : (2 : Nat) ^ 8 = 256 := by decide
  rw [e8] at h
  rw [Nat.mul_comm n 256, ← h]

set_option maxRecDepth 100000 in
set_option maxHeartbeats 1000000 in
theorem word_any (bs : List UInt8) (hbs : bs.length = 4) (ab ao n c : Nat) (w : World) (h : At w ab ao bs) (hn : 4 ≤ n) (hc : n ≤ c) (hcm : c ≤ 9223372036854775807) :
    Calls Tryd.prog 107 #[.slice (some ⟨ab, ao, none⟩) n c] w fun e w' => e = .returned (uv (word bs)) ∧ w = w' := by
  have hw : word bs = BitVec.ofNat 32 (fold4 bs) := rfl
  have hlt := fold4_lt bs
  rw [hbs] at hlt
  have hc4 : 4 ≤ c := by omega
  replace h := Lib.hid h
  replace hbs := Lib.hid hbs
  replace hw := Lib.hid hw
  go_enter Tryd.func107, Tryd.ntmps107
  go_wp2_with fail
  go_loop [2, 8] (fun s2 s8 => ∃ i : Nat, i ≤ 4 ∧ s2 = .int .u32 (fold4 (bs.take i) : Nat) ∧ s8 = .int .i64 i) (fun _ s8 => 4 - (intOf s8).toNat)
  case atStart => exact ⟨0, by omega, rfl, rfl⟩
  case round =>
    obtain ⟨i, hi, rfl, rfl⟩ := hrel
    by_cases hlti : i < 4
    · obtain ⟨x, hx⟩ : ∃ x, bs[i]? = some x := ⟨_, List.getElem?_eq_getElem (by rw [hbs.out]; exact hlti)⟩
      have hcell := h.out i x hx
      have hxl := x.toNat_lt
      have hf := fold4_lt (bs.take i)
      have hf2 : fold4 (bs.take i) < 16777216 := by
        have hl : (bs.take i).length = i := by rw [List.length_take, hbs.out]; omega
        rw [hl] at hf
        have : 256 ^ i ≤ 256 ^ 3 := Nat.pow_le_pow_right (by decide) (by omega)
        have e : (256 : Nat) ^ 3 = 16777216 := by decide
        omega
      have hor := or_byte (fold4 (bs.take i)) x.toNat hf2 (by omega)
      have hsn : fold4 (bs.take (i + 1)) = fold4 (bs.take i) * 256 + x.toNat := by rw [List.take_add_one, hx]; exact fold4_snoc _ _
      replace hor := Lib.hid hor
      replace hsn := Lib.hid hsn
      generalize fold4 (bs.take i) = f at *
      clear hf hx
      go_wp2_with fail
      go_round
      case rel => exact ⟨i + 1, by omega, by rw [hsn.out, ← hor.out], by go_num⟩
      case measure => simp [intOf]; omega
    · obtain rfl : i = 4 := by omega
      go_wp2_with fail
      go_ret
      refine ⟨?_, rfl⟩
      rw [hw.out]
      show Ending.returned (Value.int IntKind.u32 _) = Ending.returned (Value.int IntKind.u32 _)
      have hl : bs.take 4 = bs := List.take_of_length_le (by rw [hbs.out]; omega)
      rw [hl, BitVec.toNat_ofNat, Nat.mod_eq_of_lt]
      have e : (2 : Nat) ^ 32 = 256 ^ 4 := by decide
      rw [e]
      exact hlt
end Go.Proofs.YtnccbhndlnkboaaDoor
