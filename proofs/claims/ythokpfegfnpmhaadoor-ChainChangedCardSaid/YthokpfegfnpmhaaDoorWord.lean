/- The walks of digest.word and the reference's word. -/
import Derived.Test.YthokpfegfnpmhaaDoorU32
namespace Go.Proofs.YthokpfegfnpmhaaDoor
open Go.RowKit Sha
set_option linter.unusedVariables false
set_option linter.unusedSimpArgs false

/-- the bytes bs lie from an address on -/
def At (w : World) (ab ao : Nat) (bs : List UInt8) : Prop := ∀ j x, bs[j]? = some x → w.cell? ⟨ab, ao + j, none⟩ = some (.int .u8 x.toNat)

theorem At.drop {w : World} {ab ao : Nat} {bs : List UInt8} (h : At w ab ao bs) (k : Nat) : At w ab (ao + k) (bs.drop k) := fun j x hj => by
  rw [List.getElem?_drop] at hj
  have := h (k + j) x hj
  rw [← Nat.add_assoc] at this
  exact this
theorem At.take {w : World} {ab ao : Nat} {bs : List UInt8} (h : At w ab ao bs) (k : Nat) : At w ab ao (bs.take k) := fun j x hj => h j x (by
  rw [List.getElem?_take] at hj
  split at hj
  · exact hj
  · cases hj)
theorem At.keep {w w' : World} {ab ao : Nat} {bs : List UInt8} (h : At w ab ao bs) (hk : w'.heap[ab]? = w.heap[ab]?) : At w' ab ao bs := fun j x hj =>
  (World.cell?_of_block (w := w) (a := ⟨ab, ao + j, none⟩) hk).trans (h j x hj)

def fold4 (bs : List UInt8) : Nat := bs.foldl (fun n c => n * 256 + c.toNat) 0
theorem fold4_snoc (bs : List UInt8) (x : UInt8) : fold4 (bs ++ [x]) = fold4 bs * 256 + x.toNat := by simp [fold4]
theorem fold4_lt (bs : List UInt8) : fold4 bs < 256 ^ bs.length := by
  have key : ∀ (bs : List UInt8) (a : Nat), bs.foldl (fun n c => n * 256 + c.toNat) a < (a + 1) * 256 ^ bs.length := by
    intro bs
    induction bs with
    | nil => intro a; simp
    | cons x bs ih =>
      intro a
      have h := ih (a * 256 + x.toNat)
      have hx := x.toNat_lt
      have h2 : (a * 256 + x.toNat + 1) * 256 ^ bs.length ≤ ((a + 1) * 256) * 256 ^ bs.length := Nat.mul_le_mul_right _ (by omega)
      rw [List.foldl_cons, List.length_cons, Nat.pow_succ, Nat.mul_comm (256 ^ bs.length) 256, ← Nat.mul_assoc]
      omega
  have := key bs 0
  simpa [fold4] using this

theorem or_byte (n c : Nat) (hn : n < 16777216) (hc : c < 256) : bits .or .u32 ((n : Int) * 256) (c : Int) = ((n * 256 + c : Nat) : Int) := by
  have e1 : (n : Int) * 256 = ((BitVec.ofNat 32 (n * 256)).toNat : Int) := by
    rw [BitVec.toNat_ofNat]
    have e : (2 : Nat) ^ 32 = 4294967296 := by decide
    rw [e]
    omega
  have e2 : (c : Int) = ((BitVec.ofNat 32 c).toNat : Int) := by
    rw [BitVec.toNat_ofNat]
    have e : (2 : Nat) ^ 32 = 4294967296 := by decide
    rw [e]
    omega
  rw [e1, e2, w_or, BitVec.toNat_or, BitVec.toNat_ofNat, BitVec.toNat_ofNat]
  have e : (2 : Nat) ^ 32 = 4294967296 := by decide
  rw [e, Nat.mod_eq_of_lt (by omega), Nat.mod_eq_of_lt (by omega)]
  have h := Nat.two_pow_add_eq_or_of_lt (i := 8) (b := c) (by omega) n
  have e8 : (2 : Nat) ^ 8 = 256 := by decide
  rw [e8] at h
  rw [Nat.mul_comm n 256, ← h]

set_option maxRecDepth 100000 in
set_option maxHeartbeats 1000000 in
theorem word_any (bs : List UInt8) (hbs : bs.length = 4) (ab ao n c : Nat) (w : World) (h : At w ab ao bs) (hn : 4 ≤ n) (hc : n ≤ c) (hcm : c ≤ 9223372036854775807) :
    Calls Tryd.prog 116 #[.slice (some ⟨ab, ao, none⟩) n c] w fun e w' => e = .returned (uv (word bs)) ∧ w = w' := by
  have hw : word bs = BitVec.ofNat 32 (fold4 bs) := rfl
  have hlt := fold4_lt bs
  rw [hbs] at hlt
  have hc4 : 4 ≤ c := by omega
  replace h := Lib.hid h
  replace hbs := Lib.hid hbs
  replace hw := Lib.hid hw
  go_enter Tryd.func116, Tryd.ntmps116
  go_wp2_with fail
  go_loop [2, 8] (fun s2 s8 => ∃ i : Nat, i ≤ 4 ∧ s2 = .int .u32 (fold4 (bs.take i) : Nat) ∧ s8 = .int .i64 i) (fun _ s8 => 4 - (intOf s8).toNat)
  case atStart => exact ⟨0, by omega, rfl, rfl⟩
  case round =>
    obtain ⟨i, hi, rfl, rfl⟩ := hrel
    by_cases hlti : i < 4
    · obtain ⟨x, hx⟩ : ∃ x, bs[i]? = some x := ⟨_, List.getElem?_eq_getElem (by rw [hbs.out]; exact hlti)⟩
      have hcell := h.out i x hx
      have hxl := x.toNat_lt
      have hf := fold4_lt (bs.take i)
      have hf2 : fold4 (bs.take i) < 16777216 := by
        have hl : (bs.take i).length = i := by rw [List.length_take, hbs.out]; omega
        rw [hl] at hf
        have : 256 ^ i ≤ 256 ^ 3 := Nat.pow_le_pow_right (by decide) (by omega)
        have e : (256 : Nat) ^ 3 = 16777216 := by decide
        omega
      have hor := or_byte (fold4 (bs.take i)) x.toNat hf2 (by omega)
      have hsn : fold4 (bs.take (i + 1)) = fold4 (bs.take i) * 256 + x.toNat := by rw [List.take_add_one, hx]; exact fold4_snoc _ _
      replace hor := Lib.hid hor
      replace hsn := Lib.hid hsn
      generalize fold4 (bs.take i) = f at *
      clear hf hx
      go_wp2_with fail
      go_round
      case rel => exact ⟨i + 1, by omega, by rw [hsn.out, ← hor.out], by go_num⟩
      case measure => simp [intOf]; omega
    · obtain rfl : i = 4 := by omega
      go_wp2_with fail
      go_ret
      refine ⟨?_, rfl⟩
      rw [hw.out]
      show Ending.returned (Value.int IntKind.u32 _) = Ending.returned (Value.int IntKind.u32 _)
      have hl : bs.take 4 = bs := List.take_of_length_le (by rw [hbs.out]; omega)
      rw [hl, BitVec.toNat_ofNat, Nat.mod_eq_of_lt]
      have e : (2 : Nat) ^ 32 = 256 ^ 4 := by decide
      rw [e]
      exact hlt
end Go.Proofs.YthokpfegfnpmhaaDoor
