/- The walks of the reference's digest: numbers, ror, word. -/
import Derived.Test.YtallnbbdacngnaaDoorTagged
import Derived.Test.YtallnbbdacngnaaDoorQuietTail
namespace Go.Proofs.YtallnbbdacngnaaDoor
open Go.RowKit Sha Cdc
set_option linter.unusedVariables false
set_option linter.unusedSimpArgs false

/-- the numbers K as cells -/
def kV : Array Value := (K.map uv).toArray
theorem kV_at (t : Nat) (h : t < 64) : kV[t]? = some (uv (K.getD t 0)) := by
  rw [kV, List.getElem?_toArray, List.getElem?_map, List.getD_eq_getElem?_getD, List.getElem?_eq_getElem (by simpa [K] using h)]
  rfl
theorem kV_info : (Tryd.prog.info? 117).map (·.size) = some kV.size := by kernel_rfl
theorem kV_one : kV.all (·.oneCell') = true := by decide +kernel

set_option maxRecDepth 100000 in
set_option maxHeartbeats 1000000 in
theorem ror_any (x : W) (k : Nat) (h1 : 1 ≤ k) (h2 : k ≤ 25) (w : World) :
    Calls Tryd.prog 106 #[uv x, .int .i64 (k : Int)] w fun e w' => e = .returned (uv (ror x k)) ∧ ∃ n, w' = w.drewN n := by
  have W1 : IntKind.i64.wrap (32 - (k : Int)) = 32 - (k : Int) := IntWalk.i64_in _ (by omega)
  have T1 : (32 - (k : Int)).toNat = 32 - k := by omega
  have G1 : (0 : Int) ≤ 32 - (k : Int) := by omega
  have G2 : (k : Int) ≤ 32 := by omega
  have G3 : (0 : Int) ≤ (k : Int) := by omega
  have G4 : (k : Int) < 32 := by omega
  have G5 : 32 - (k : Int) < 32 := by omega
  go_enter Tryd.func106, Tryd.ntmps106
  go_wp2_with fail
  go_quiet (fail)
  go_wp2_with fail
  go_ret
  refine ⟨?_, nq, rfl⟩
  show Ending.returned (Value.int IntKind.u32 (bits BinOp.or IntKind.u32 ((x.toNat : Int) / 2 ^ k) ((x.toNat : Int) * 2 ^ (32 - k) % 4294967296))) = _
  rw [w_shr2, w_shl2, w_or]
  rfl

theorem word4_val (a b c d : UInt8) : bits BinOp.or IntKind.u32 (bits BinOp.or IntKind.u32 (bits BinOp.or IntKind.u32 ((a.toNat : Int) * 16777216) ((b.toNat : Int) * 65536)) ((c.toNat : Int) * 256)) (d.toNat : Int) = ((word [a, b, c, d]).toNat : Int) := by
  have ha := a.toNat_lt
  have hb := b.toNat_lt
  have hc := c.toNat_lt
  have hd := d.toNat_lt
  have e1 : (a.toNat : Int) * 16777216 = ((BitVec.ofNat 32 (2 ^ 24 * a.toNat)).toNat : Int) := by rw [BitVec.toNat_ofNat]; omega
  have e2 : (b.toNat : Int) * 65536 = ((BitVec.ofNat 32 (b.toNat * 65536)).toNat : Int) := by rw [BitVec.toNat_ofNat]; omega
  have e3 : (c.toNat : Int) * 256 = ((BitVec.ofNat 32 (c.toNat * 256)).toNat : Int) := by rw [BitVec.toNat_ofNat]; omega
  have e4 : (d.toNat : Int) = ((BitVec.ofNat 32 d.toNat).toNat : Int) := by rw [BitVec.toNat_ofNat]; omega
  have o1 : BitVec.ofNat 32 (2 ^ 24 * a.toNat) ||| BitVec.ofNat 32 (b.toNat * 65536) = BitVec.ofNat 32 (2 ^ 16 * (a.toNat * 256 + b.toNat)) := by
    apply BitVec.eq_of_toNat_eq
    rw [BitVec.toNat_or, BitVec.toNat_ofNat, BitVec.toNat_ofNat, BitVec.toNat_ofNat, Nat.mod_eq_of_lt (by omega), Nat.mod_eq_of_lt (by omega), Nat.mod_eq_of_lt (by omega), ← Nat.two_pow_add_eq_or_of_lt (by omega)]
    omega
  have o2 : BitVec.ofNat 32 (2 ^ 16 * (a.toNat * 256 + b.toNat)) ||| BitVec.ofNat 32 (c.toNat * 256) = BitVec.ofNat 32 (2 ^ 8 * (a.toNat * 65536 + b.toNat * 256 + c.toNat)) := by
    apply BitVec.eq_of_toNat_eq
    rw [BitVec.toNat_or, BitVec.toNat_ofNat, BitVec.toNat_ofNat, BitVec.toNat_ofNat, Nat.mod_eq_of_lt (by omega), Nat.mod_eq_of_lt (by omega), Nat.mod_eq_of_lt (by omega), ← Nat.two_pow_add_eq_or_of_lt (by omega)]
    omega
  have o3 : BitVec.ofNat 32 (2 ^ 8 * (a.toNat * 65536 + b.toNat * 256 + c.toNat)) ||| BitVec.ofNat 32 d.toNat = word [a, b, c, d] := by
    apply BitVec.eq_of_toNat_eq
    show _ = (BitVec.ofNat 32 ((((0 * 256 + a.toNat) * 256 + b.toNat) * 256 + c.toNat) * 256 + d.toNat)).toNat
    rw [BitVec.toNat_or, BitVec.toNat_ofNat, BitVec.toNat_ofNat, BitVec.toNat_ofNat, Nat.mod_eq_of_lt (by omega), Nat.mod_eq_of_lt (by omega), Nat.mod_eq_of_lt (by omega), ← Nat.two_pow_add_eq_or_of_lt (by omega)]
    omega
  rw [e1, e2, w_or, o1, e3, w_or, o2, e4, w_or, o3]

set_option maxRecDepth 100000 in
set_option maxHeartbeats 1000000 in
theorem rword_any (bs : List UInt8) (hbs : bs.length = 4) (ab ao c : Nat) (w : World) (h : At w ab ao bs) (hc : 4 ≤ c) (hcm : c ≤ 9223372036854775807) :
    Calls Tryd.prog 105 #[.slice (some ⟨ab, ao, none⟩) 4 c] w fun e w' => e = .returned (uv (word bs)) ∧ ∃ n, w' = w.drewN n := by
  obtain ⟨x0, x1, x2, x3, rfl⟩ : ∃ x0 x1 x2 x3, bs = [x0, x1, x2, x3] := by
    match bs, hbs with
    | [x0, x1, x2, x3], _ => exact ⟨x0, x1, x2, x3, rfl⟩
  have c0 : w.cell? ⟨ab, ao, none⟩ = some (by1 x0) := h 0 x0 rfl
  have c1 := h 1 x1 rfl
  have c2 := h 2 x2 rfl
  have c3 := h 3 x3 rfl
  have l0 := x0.toNat_lt
  have l1 := x1.toNat_lt
  have l2 := x2.toNat_lt
  have l3 := x3.toNat_lt
  have hv := Lib.hid (word4_val x0 x1 x2 x3)
  clear h hbs
  go_enter Tryd.func105, Tryd.ntmps105
  go_wp2_with fail
  go_quiet (fail)
  go_wp2_with fail
  go_ret
  refine ⟨?_, nq, rfl⟩
  show Ending.returned (Value.int IntKind.u32 _) = _
  rw [hv.out]

set_option maxRecDepth 100000 in
set_option maxHeartbeats 1000000 in
theorem numbers_any (w : World) :
    Calls Tryd.prog 107 #[] w fun e w' => e = .returned (.agg kV) ∧ Below w.heap.size w w' := by
  go_enter Tryd.func107, Tryd.ntmps107
  go_wp2_with (refine wpList_new_row (by rfl) 117 (.tmp 0) (.tmp 1) (by rfl) (by rfl) kV (by rfl) (by kernel_rfl) 117 _ kV_info (by rfl) kV_one ?_; intro w2 h2 hz2 hB2; replace h2 := Lib.hid h2)
  exact bodyPost_ret (v := .agg kV) (results_cell_row rfl _ _ w.heap.size 117 kV (0, 0) _ rfl h2.out Tryd.underlying117 (by rfl) kV_info) rfl ⟨rfl, hB2⟩
end Go.Proofs.YtallnbbdacngnaaDoor
