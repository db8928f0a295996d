/- The walk of group.Hash. -/
import Derived.Test.YthokpfegfnpmhaaDoorTagged
namespace Go.Proofs.YthokpfegfnpmhaaDoor
open Go.RowKit Sha Cdc
set_option linter.unusedVariables false
set_option linter.unusedSimpArgs false

/-- the number that bytes are, behind a number -/
def hvf (n : Nat) (l : List UInt8) : Nat := l.foldl (fun n c => n * 256 + c.toNat) n
theorem hvf_lt (n m : Nat) (l : List UInt8) (h : n < m) : hvf n l < m * 256 ^ l.length := by
  induction l generalizing n m with
  | nil => simpa [hvf] using h
  | cons x l ih =>
    have hx := x.toNat_lt
    have := ih (n * 256 + x.toNat) (m * 256) (by omega)
    rw [List.length_cons, Nat.pow_succ', ← Nat.mul_assoc]
    exact this
theorem hvf_snoc (n : Nat) (l : List UInt8) (x : UInt8) : hvf n (l ++ [x]) = hvf n l * 256 + x.toNat := by simp [hvf]
/-- a byte without its highest bit -/
def tb (x : UInt8) : UInt8 := UInt8.ofNat (x.toNat % 128)
theorem tb_nat (x : UInt8) : (tb x).toNat = x.toNat % 128 := by unfold tb; rw [UInt8.toNat_ofNat']; omega
/-- the bytes without the highest bit -/
def top : List UInt8 → List UInt8
  | [] => []
  | x :: l => tb x :: l
theorem top_len (l : List UInt8) : (top l).length = l.length := by cases l <;> rfl
theorem top_set (l : List UInt8) (x : UInt8) (h : l[0]? = some x) : l.set 0 (tb x) = top l := by
  cases l with
  | nil => cases h
  | cons y l =>
    obtain rfl : y = x := by simpa using h
    rfl
theorem top_zero (l : List UInt8) (x : UInt8) (h : l[0]? = some x) : (top l)[0]? = some (tb x) := by
  cases l with
  | nil => cases h
  | cons y l =>
    obtain rfl : y = x := by simpa using h
    rfl
theorem top_succ (l : List UInt8) (i : Nat) (h : 0 < i) : (top l)[i]? = l[i]? := by
  obtain ⟨j, rfl⟩ : ∃ j, i = j + 1 := ⟨i - 1, by omega⟩
  cases l <;> rfl
/-- the first bytes of a digest as a number -/
def hz (l : List UInt8) (i : Nat) : Nat := hvf 0 ((top l).take i)
theorem hz_lt (l : List UInt8) (i : Nat) (hi : i ≤ 7) : hz l i < 36028797018963968 := by
  unfold hz
  cases l with
  | nil => simp [top, hvf]
  | cons x l =>
    cases i with
    | zero => simp [hvf]
    | succ i =>
      have hx : (tb x).toNat < 128 := by rw [tb_nat]; omega
      have h1 := hvf_lt (tb x).toNat 128 (l.take i) hx
      have h2 : 256 ^ (l.take i).length ≤ 256 ^ 6 := Nat.pow_le_pow_right (by decide) (by rw [List.length_take]; omega)
      have h3 : hvf 0 ((top (x :: l)).take (i + 1)) = hvf (tb x).toNat (l.take i) := by simp [top, hvf]
      rw [h3]
      have e : (256 : Nat) ^ 6 = 281474976710656 := by decide
      omega
theorem hz_succ (l : List UInt8) (i : Nat) (y : UInt8) (h : (top l)[i]? = some y) : hz l (i + 1) = hz l i * 256 + y.toNat := by
  unfold hz
  rw [List.take_add_one, h]
  exact hvf_snoc _ _ _
/-- the number of a digest -/
def hq (l : List UInt8) : Nat := hz l 8 % 1073741789
theorem hq_lt (l : List UInt8) : hq l < 1073741789 := Nat.mod_lt _ (by decide)

theorem and127 (x : UInt8) : bits BinOp.and IntKind.u8 (x.toNat : Int) 127 = ((tb x).toNat : Int) := by
  have h : ∀ n : Fin 256, bits BinOp.and IntKind.u8 ((n.val : Nat) : Int) 127 = ((n.val % 128 : Nat) : Int) := by decide +kernel
  have h2 : bits BinOp.and IntKind.u8 (x.toNat : Int) 127 = ((x.toNat % 128 : Nat) : Int) := h ⟨x.toNat, x.toNat_lt⟩
  rw [tb_nat, h2]
theorem or256 (m : Nat) (x : UInt8) (hm : m < 36028797018963968) : bits BinOp.or IntKind.i64 ((m : Int) * 256) (x.toNat : Int) = (m : Int) * 256 + (x.toNat : Int) := by
  have hx := x.toNat_lt
  have e1 : BitVec.ofInt 64 ((m : Int) * 256) = BitVec.ofNat 64 (2 ^ 8 * m) := by
    apply BitVec.eq_of_toNat_eq
    rw [BitVec.toNat_ofInt, BitVec.toNat_ofNat]
    omega
  have e2 : BitVec.ofInt 64 (x.toNat : Int) = BitVec.ofNat 64 x.toNat := by
    apply BitVec.eq_of_toNat_eq
    rw [BitVec.toNat_ofInt, BitVec.toNat_ofNat]
    omega
  have e3 : (BitVec.ofNat 64 (2 ^ 8 * m) ||| BitVec.ofNat 64 x.toNat).toNat = 2 ^ 8 * m + x.toNat := by
    rw [BitVec.toNat_or, BitVec.toNat_ofNat, BitVec.toNat_ofNat, Nat.mod_eq_of_lt (by omega), Nat.mod_eq_of_lt (by omega)]
    exact (Nat.two_pow_add_eq_or_of_lt (by omega) m).symm
  show IntKind.i64.wrap ((BitVec.ofInt 64 ((m : Int) * 256) ||| BitVec.ofInt 64 (x.toNat : Int)).toNat : Int) = _
  rw [e1, e2, e3, IntWalk.i64_in _ (by omega)]
  omega

set_option maxRecDepth 100000 in
set_option maxHeartbeats 1000000 in
theorem hash_any (tag : ByteArray) (ht : tag.size ≤ 1000000000) (bs : List UInt8) (n : Nat) (hn : bs.length = n) (hb : n ≤ 100000000000) (A : Option Addr) (c : Nat) (hc : n ≤ c) (hcm : c ≤ 9223372036854775807) (w : World) (h : AtO w A bs) (hL : Laid w) :
    Calls Tryd.prog 79 #[.string tag, .slice A n c] w fun e w' => e = .returned (.int .i64 (hq (tgd tag.data.toList bs))) ∧ Below w.heap.size w w' := by
  have htg := Lib.hid (tagged_any tag ht bs n hn hb A c hc hcm w h hL)
  clear h hn hb
  go_enter Tryd.func79, Tryd.ntmps79
  go_wp2_with fail
  refine htg.out.mono ?_
  rintro e w2 ⟨rfl, hB2⟩
  have hlen := Lib.hid (tgd_len tag.data.toList bs)
  clear htg
  generalize ht9 : tgd tag.data.toList bs = t at hlen ⊢
  replace ht9 := Lib.hid ht9
  have hi2 := Lib.hid (dg_info _ hlen.out)
  have ho2 := Lib.hid (dg_one t)
  have hr2 : Hid (32 = (dg t).size) := Lib.hid (by rw [dg_size, hlen.out])
  go_wp2_with (refine wpList_new_row (by rfl) 35 (.tmp 5) (.tmp 9) (by rfl) (by rfl) (dg t) (by rfl) (by rfl) 35 _ hi2 hr2 ho2 ?_; intro w3 hd3 hz3 hB3; obtain ⟨x, hx⟩ : ∃ x, t[0]? = some x := ⟨_, List.getElem?_eq_getElem (by rw [hlen.out]; omega)⟩; have hc0 : w3.cell? ⟨w2.heap.size, 0, none⟩ = some (by1 x) := rowAt hd3 hx; have hf0 := frozen_of_row w3 w2.heap.size 0 _ _ hd3; have h127 := and127 x; have hset := Lib.hid (top_set t x hx); clear hx; replace hd3 := Lib.hid hd3; replace hz3 := Lib.hid hz3)
  have h4 := heap_setCell_same w3 w2.heap.size 0 _ _ (by1 (tb x)) hd3.out
  have hB4 : Below w2.heap.size w2 (w3.setCell ⟨w2.heap.size, 0, none⟩ (by1 (tb x))) := hB3.setCell (p := ⟨w2.heap.size, 0, none⟩) (Nat.le_refl _) _
  have h5 : (dg t).setIfInBounds 0 (by1 (tb x)) = dg (top t) := by
    rw [← hset.out]
    simp [dg]
  rw [h5] at h4
  generalize w3.setCell ⟨w2.heap.size, 0, none⟩ (by1 (tb x)) = w4 at *
  have hB5 := hB2.trans (hB4.mono hB2.size)
  have hlt := Lib.hid (top_len t)
  rw [hlen.out] at hlt
  clear h5 h127 hc0 hf0 hB2 hB3 hB4
  replace h4 := Lib.hid h4
  go_loop [4, 14] (fun s4 s14 => ∃ i : Nat, i ≤ 8 ∧ s14 = .int .i64 i ∧ s4 = .int .i64 (hz t i : Int)) (fun _ s14 => 8 - (intOf s14).toNat)
  case atStart => exact ⟨0, by omega, rfl, rfl⟩
  case round =>
    obtain ⟨i, hi, rfl, rfl⟩ := hrel
    by_cases hi8 : i < 8
    · obtain ⟨y, hy⟩ : ∃ y, (top t)[i]? = some y := ⟨_, List.getElem?_eq_getElem (by rw [hlt.out]; omega)⟩
      have hcy : w4.cell? ⟨w2.heap.size, i, none⟩ = some (by1 y) := rowAt h4.out hy
      have hs := Lib.hid (hz_succ t i y hy)
      have hb := hz_lt t i (by omega)
      have hyl := y.toNat_lt
      generalize hz t i = m at *
      have ho := or256 m y hb
      have W1 : IntKind.i64.wrap ((m : Int) * 256) = (m : Int) * 256 := IntWalk.i64_in _ (by omega)
      clear hy
      go_wp2_with fail
      go_round
      case rel => exact ⟨i + 1, by omega, by go_num, by rw [hs.out]; go_num⟩
      case measure => simp [intOf]; omega
    · obtain rfl : i = 8 := by omega
      obtain ⟨y, hy⟩ : ∃ y, (top t)[7]? = some y := ⟨_, List.getElem?_eq_getElem (by rw [hlt.out]; omega)⟩
      have hs := hz_succ t 7 y hy
      have hb := hz_lt t 7 (by omega)
      have hyl := y.toNat_lt
      have hbd : hz t (7 + 1) < 9223372036854775808 := by omega
      have hq9 : Hid ((hq t : Int) = (hz t (7 + 1) : Int) % 1073741789) := Lib.hid (by show ((hz t (7 + 1) % 1073741789 : Nat) : Int) = _; omega)
      clear hs hb hyl hy
      generalize hz t (7 + 1) = m at *
      go_wp2_with fail
      go_ret
      refine ⟨?_, hB5⟩
      show Ending.returned (Value.int IntKind.i64 ((m : Int) % 1073741789)) = _
      rw [ht9.out, hq9.out]
end Go.Proofs.YthokpfegfnpmhaaDoor
