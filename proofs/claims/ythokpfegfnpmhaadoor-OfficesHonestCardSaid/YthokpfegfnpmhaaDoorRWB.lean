/- The walks of the reference's digest: numbers, ror, word. -/
import Derived.Test.YthokpfegfnpmhaaDoorTagH
import Derived.Test.YthokpfegfnpmhaaDoorMoreA
import Derived.Great.BuildSlice
namespace Go.Proofs.YthokpfegfnpmhaaDoor
open Go.RowKit Sha Cdc
set_option linter.unusedVariables false
set_option linter.unusedSimpArgs false

/-- the numbers K as cells -/
def kV : Array Value := (K.map uv).toArray
theorem kV_at (t : Nat) (h : t < 64) : kV[t]? = some (uv (K.getD t 0)) := by
  rw [kV, List.getElem?_toArray, List.getElem?_map, List.getD_eq_getElem?_getD, List.getElem?_eq_getElem (by simpa [K] using h)]
  rfl
theorem kV_info : (Tryd.prog.info? 144).map (·.size) = some kV.size := by kernel_rfl
theorem kV_one : kV.all (·.oneCell') = true := by decide +kernel

set_option maxRecDepth 100000 in
set_option maxHeartbeats 1000000 in
theorem ror_any (x : W) (k : Nat) (h1 : 1 ≤ k) (h2 : k ≤ 25) (w : World) :
    Calls Tryd.prog 124 #[uv x, .int .i64 (k : Int)] w fun e w' => e = .returned (uv (ror x k)) ∧ ∃ n, w' = w.drewN n := by
  have W1 : IntKind.i64.wrap (32 - (k : Int)) = 32 - (k : Int) := IntWalk.i64_in _ (by omega)
  have T1 : (32 - (k : Int)).toNat = 32 - k := by omega
  have G1 : (0 : Int) ≤ 32 - (k : Int) := by omega
  have G2 : (k : Int) ≤ 32 := by omega
  have G3 : (0 : Int) ≤ (k : Int) := by omega
  have G4 : (k : Int) < 32 := by omega
  have G5 : 32 - (k : Int) < 32 := by omega
  go_enter Tryd.func124, Tryd.ntmps124
  go_wp2_with fail
  go_quiet (fail)
  go_wp2_with fail
  go_ret
  refine ⟨?_, nq, rfl⟩
  show Ending.returned (Value.int IntKind.u32 (bits BinOp.or IntKind.u32 ((x.toNat : Int) / 2 ^ k) ((x.toNat : Int) * 2 ^ (32 - k) % 4294967296))) = _
  rw [w_shr2, w_shl2, w_or]
  rfl

theorem word4_val (a b c d : UInt8) : bits BinOp.or IntKind.u32 (bits BinOp.or IntKind.u32 (bits BinOp.or IntKind.u32 ((a.toNat : Int) * 16777216) ((b.toNat : Int) * 65536)) ((c.toNat : Int) * 256)) (d.toNat : Int) = ((word [a, b, c, d]).toNat : Int) := by
  have ha := a.toNat_lt
  have hb := b.toNat_lt
  have hc := c.toNat_lt
  have hd := d.toNat_lt
  have e1 : (a.toNat : Int) * 16777216 = ((BitVec.ofNat 32 (2 ^ 24 * a.toNat)).toNat : Int) := by rw [BitVec.toNat_ofNat]; omega
  have e2 : (b.toNat : Int) * 65536 = ((BitVec.ofNat 32 (b.toNat * 65536)).toNat : Int) := by rw [BitVec.toNat_ofNat]; omega
  have e3 : (c.toNat : Int) * 256 = ((BitVec.ofNat 32 (c.toNat * 256)).toNat : Int) := by rw [BitVec.toNat_ofNat]; omega
  have e4 : (d.toNat : Int) = ((BitVec.ofNat 32 d.toNat).toNat : Int) := by rw [BitVec.toNat_ofNat]; omega
  have o1 : BitVec.ofNat 32 (2 ^ 24 * a.toNat) ||| BitVec.ofNat 32 (b.toNat * 65536) = BitVec.ofNat 32 (2 ^ 16 * (a.toNat * 256 + b.toNat)) := by
    apply BitVec.eq_of_toNat_eq
    rw [BitVec.toNat_or, BitVec.toNat_ofNat, BitVec.toNat_ofNat, BitVec.toNat_ofNat, Nat.mod_eq_of_lt (by omega), Nat.mod_eq_of_lt (by omega), Nat.mod_eq_of_lt (by omega), ← Nat.two_pow_add_eq_or_of_lt (by omega)]
    omega
  have o2 : BitVec.ofNat 32 (2 ^ 16 * (a.toNat * 256 + b.toNat)) ||| BitVec.ofNat 32 (c.toNat * 256) = BitVec.ofNat 32 (2 ^ 8 * (a.toNat * 65536 + b.toNat * 256 + c.toNat)) := by
    apply BitVec.eq_of_toNat_eq
    rw [BitVec.toNat_or, BitVec.toNat_ofNat, BitVec.toNat_ofNat, BitVec.toNat_ofNat, Nat.mod_eq_of_lt (by omega), Nat.mod_eq_of_lt (by omega), Nat.mod_eq_of_lt (by omega), ← Nat.two_pow_add_eq_or_of_lt (by omega)]
    omega
  have o3 : BitVec.ofNat 32 (2 ^ 8 * (a.toNat * 65536 + b.toNat * 256 + c.toNat)) ||| BitVec.ofNat 32 d.toNat = word [a, b, c, d] := by
    apply BitVec.eq_of_toNat_eq
    show _ = (BitVec.ofNat 32 ((((0 * 256 + a.toNat) * 256 + b.toNat) * 256 + c.toNat) * 256 + d.toNat)).toNat
    rw [BitVec.toNat_or, BitVec.toNat_ofNat, BitVec.toNat_ofNat, BitVec.toNat_ofNat, Nat.mod_eq_of_lt (by omega), Nat.mod_eq_of_lt (by omega), Nat.mod_eq_of_lt (by omega), ← Nat.two_pow_add_eq_or_of_lt (by omega)]
    omega
  rw [e1, e2, w_or, o1, e3, w_or, o2, e4, w_or, o3]

set_option maxRecDepth 100000 in
set_option maxHeartbeats 1000000 in
theorem rword_any (bs : List UInt8) (hbs : bs.length = 4) (ab ao c : Nat) (w : World) (h : At w ab ao bs) (hc : 4 ≤ c) (hcm : c ≤ 9223372036854775807) :
    Calls Tryd.prog 123 #[.slice (some ⟨ab, ao, none⟩) 4 c] w fun e w' => e = .returned (uv (word bs)) ∧ ∃ n, w' = w.drewN n := by
  obtain ⟨x0, x1, x2, x3, rfl⟩ : ∃ x0 x1 x2 x3, bs = [x0, x1, x2, x3] := by
    match bs, hbs with
    | [x0, x1, x2, x3], _ => exact ⟨x0, x1, x2, x3, rfl⟩
  have c0 : w.cell? ⟨ab, ao, none⟩ = some (by1 x0) := h 0 x0 rfl
  have c1 := h 1 x1 rfl
  have c2 := h 2 x2 rfl
  have c3 := h 3 x3 rfl
  have l0 := x0.toNat_lt
  have l1 := x1.toNat_lt
  have l2 := x2.toNat_lt
  have l3 := x3.toNat_lt
  have hv := Lib.hid (word4_val x0 x1 x2 x3)
  clear h hbs
  go_enter Tryd.func123, Tryd.ntmps123
  go_wp2_with fail
  go_quiet (fail)
  go_wp2_with fail
  go_ret
  refine ⟨?_, nq, rfl⟩
  show Ending.returned (Value.int IntKind.u32 _) = _
  rw [hv.out]

set_option maxRecDepth 100000 in
set_option maxHeartbeats 1000000 in
theorem numbers_any (w : World) :
    Calls Tryd.prog 125 #[] w fun e w' => e = .returned (.agg kV) ∧ Below w.heap.size w w' := by
  go_enter Tryd.func125, Tryd.ntmps125
  go_wp2_with (refine wpList_new_row (by rfl) 144 (.tmp 0) (.tmp 1) (by rfl) (by rfl) kV (by rfl) (by kernel_rfl) 144 _ kV_info (by rfl) kV_one ?_; intro w2 h2 hz2 hB2; replace h2 := Lib.hid h2)
  exact bodyPost_ret (v := .agg kV) (results_cell_row rfl _ _ w.heap.size 144 kV (0, 0) _ rfl h2.out Tryd.underlying144 (by rfl) kV_info) rfl ⟨rfl, hB2⟩
end Go.Proofs.YthokpfegfnpmhaaDoor
/- The walk of the reference's block. -/
namespace Go.Proofs.YthokpfegfnpmhaaDoor
open Go.RowKit Sha Cdc
set_option linter.unusedVariables false
set_option linter.unusedSimpArgs false

theorem Below.drewN {B : Nat} {a w : World} (h : Below B a w) (k : Nat) : Below B a (w.drewN k) := ⟨h.os, h.tape, h.output, h.size, h.block⟩
theorem w_not (x : W) : bits BinOp.xor IntKind.u32 IntKind.u32.max (x.toNat : Int) = ((~~~x).toNat : Int) := by
  have e : IntKind.u32.max = ((BitVec.allOnes 32).toNat : Int) := by decide
  rw [e, w_xor]
  have h : BitVec.allOnes 32 ^^^ x = ~~~x := by
    apply BitVec.eq_of_getLsbD_eq
    intro i hi
    rw [BitVec.getLsbD_xor, BitVec.getLsbD_allOnes, BitVec.getLsbD_not]
    simp [hi]
  rw [h]
theorem rval_p (x : St) (kt wt : W) : ((x.h.toNat : Int) + bits BinOp.xor IntKind.u32 (bits BinOp.xor IntKind.u32 ((ror x.e 6).toNat : Int) ((ror x.e 11).toNat : Int)) ((ror x.e 25).toNat : Int) +
    bits BinOp.xor IntKind.u32 (bits BinOp.and IntKind.u32 (x.e.toNat : Int) (x.f.toNat : Int)) (bits BinOp.and IntKind.u32 (bits BinOp.xor IntKind.u32 IntKind.u32.max (x.e.toNat : Int)) (x.g.toNat : Int)) + (kt.toNat : Int) + (wt.toNat : Int)) % 4294967296 =
    ((x.h + S1 x.e + ch x.e x.f x.g + kt + wt).toNat : Int) := by
  rw [w_xor, w_xor, w_and, w_not, w_and, w_xor]
  show ((x.h.toNat : Int) + ((S1 x.e).toNat : Int) + ((ch x.e x.f x.g).toNat : Int) + (kt.toNat : Int) + (wt.toNat : Int)) % 4294967296 = _
  rw [BitVec.toNat_add, BitVec.toNat_add, BitVec.toNat_add, BitVec.toNat_add]
  have e : (2 : Nat) ^ 32 = 4294967296 := by decide
  rw [e]
  omega
theorem rval_q (x : St) : (bits BinOp.xor IntKind.u32 (bits BinOp.xor IntKind.u32 ((ror x.a 2).toNat : Int) ((ror x.a 13).toNat : Int)) ((ror x.a 22).toNat : Int) +
    bits BinOp.xor IntKind.u32 (bits BinOp.xor IntKind.u32 (bits BinOp.and IntKind.u32 (x.a.toNat : Int) (x.b.toNat : Int)) (bits BinOp.and IntKind.u32 (x.a.toNat : Int) (x.c.toNat : Int))) (bits BinOp.and IntKind.u32 (x.b.toNat : Int) (x.c.toNat : Int))) % 4294967296 =
    ((S0 x.a + maj x.a x.b x.c).toNat : Int) := by
  rw [w_xor, w_xor, w_and, w_and, w_and, w_xor, w_xor, w_add2]
  rfl
/-- two states added, word by word, as the walk spells it -/
abbrev mixV (s x : St) : Array Value := #[.int .u32 (((s.a.toNat : Int) + (x.a.toNat : Int)) % 4294967296), .int .u32 (((s.b.toNat : Int) + (x.b.toNat : Int)) % 4294967296), .int .u32 (((s.c.toNat : Int) + (x.c.toNat : Int)) % 4294967296), .int .u32 (((s.d.toNat : Int) + (x.d.toNat : Int)) % 4294967296),
  .int .u32 (((s.e.toNat : Int) + (x.e.toNat : Int)) % 4294967296), .int .u32 (((s.f.toNat : Int) + (x.f.toNat : Int)) % 4294967296), .int .u32 (((s.g.toNat : Int) + (x.g.toNat : Int)) % 4294967296), .int .u32 (((s.h.toNat : Int) + (x.h.toNat : Int)) % 4294967296)]
theorem mixV_eq (s x : St) : mixV s x = stV (Sha.add s x) := by
  unfold mixV
  rw [w_add2, w_add2, w_add2, w_add2, w_add2, w_add2, w_add2, w_add2]
  rfl
theorem mixV_one (s x : St) : (mixV s x).all (·.oneCell') = true := by simp [mixV, Value.oneCell']
theorem mixV_info (s x : St) : (Tryd.prog.info? 127).map (·.size) = some (mixV s x).size := by
  have h : (Tryd.prog.info? 127).map (·.size) = some 8 := by kernel_rfl
  rw [h]; rfl
theorem built8 (v0 v1 v2 v3 v4 v5 v6 v7 : Int) : Tryd.prog.built 127 [(0, .int .u32 v0), (1, .int .u32 v1), (2, .int .u32 v2), (3, .int .u32 v3), (4, .int .u32 v4), (5, .int .u32 v5), (6, .int .u32 v6), (7, .int .u32 v7)] = some #[.int .u32 v0, .int .u32 v1, .int .u32 v2, .int .u32 v3, .int .u32 v4, .int .u32 v5, .int .u32 v6, .int .u32 v7] := by kernel_rfl
theorem wpList_add32 {ops : Array Oper} {rest : List Oper} {o : Oper} {a : Act} {w : World} {Q : Exit → Act → World → Prop} (hgd : o.guard = none) (x y : Operand) (ho : o.op = .binOp .add 126 x y 126) (u v : W) (hx : a.eval x = uv u) (hy : a.eval y = uv v)
    (h : wpList Tryd.prog ops Q rest (a.put o.dst (uv (u + v))) w) : wpList Tryd.prog ops Q (o :: rest) a w := by
  refine wpList_plain hgd fun K hK => ?_
  unfold Oper.wp execOp
  simp only [ho, hx, hy]
  go_simp
  rw [w_add u v]
  exact hK _ _ h
theorem stV_size (s : St) : (stV s).size = 8 := rfl
def z64V : Array Value := ((List.replicate 64 (0 : W)).map uv).toArray
theorem z64_info : (Tryd.prog.info? 144).map (·.size) = some z64V.size := by kernel_rfl
theorem z64_one : z64V.all (·.oneCell') = true := by decide +kernel

set_option maxRecDepth 100000 in
set_option maxHeartbeats 6000000 in
theorem rblock_any (s : St) (bs : List UInt8) (hbs : bs.length = 64) (ab ao c : Nat) (w : World) (h : At w ab ao bs) (hc : 64 ≤ c) (hcm : c ≤ 9223372036854775807) :
    Calls Tryd.prog 120 #[.agg (stV s), .slice (some ⟨ab, ao, none⟩) 64 c] w fun e w' => e = .returned (.agg (stV (comp s bs))) ∧ Below w.heap.size w w' := by
  replace h := Lib.hid h
  replace hbs := Lib.hid hbs
  go_enter Tryd.func120, Tryd.ntmps120
  have hz64 : Hid (Tryd.prog.built 144 [] = some z64V) := Lib.hid (by kernel_rfl)
  go_wp2_with (first | (refine wpList_buildTo (by rfl) 144 _ (by rfl) (some 22) (by rfl) z64V hz64.out ?_) | (refine wpList_new_row' (by rfl) 144 (.tmp 5) (.tmp 22) (by rfl) (by rfl) z64V _ (by rfl) (by simp) (by rfl) 144 _ z64_info (by rfl) z64_one ?_; intro w2 h2 hz2 hB2; replace h2 := Lib.hid h2))
  have hs0 : w2.heap[w.heap.size]? = some (.cells (stV s) 127 (0, 0)) := (hB2.block _ (by omega)).trans (heap_alloc2_old w _ _)
  have hr0 := (hB2.block (w.heap.size + 1) (by omega)).trans (heap_alloc2_new w _ _)
  have hBw : Below w.heap.size w w2 := (((Below.refl _ w).alloc (Nat.le_refl _) _).alloc (by simp) _).trans (hB2.mono (by omega))
  have hAt2 : At w2 ab ao bs := h.out.keep (hBw.block ab (by
    obtain ⟨x, hx⟩ : ∃ x, bs[0]? = some x := ⟨_, List.getElem?_eq_getElem (by rw [hbs.out]; omega)⟩
    exact World.block_lt_of_cell? w ⟨ab, ao + 0, none⟩ (h.out 0 x hx)))
  have habs : ab < w.heap.size := by
    obtain ⟨x, hx⟩ : ∃ x, bs[0]? = some x := ⟨_, List.getElem?_eq_getElem (by rw [hbs.out]; omega)⟩
    exact World.block_lt_of_cell? w ⟨ab, ao + 0, none⟩ (h.out 0 x hx)
  have hwb2 : WB w2 (w.heap.size + 1 + 1) [] := ⟨by simp, z64V, rfl, h2.out, fun j x hx => by simp at hx⟩
  clear hB2 h2 h
  replace hs0 := Lib.hid hs0
  replace hr0 := Lib.hid hr0
  replace hAt2 := Lib.hid hAt2
  replace hBw := Lib.hid hBw
  have hb0 : w.heap.size + 1 + 1 + 1 = w2.heap.size := hz2.symm
  replace hz2 := Lib.hid hz2
  generalize hbe : w.heap.size = b0 at *
  replace hbe := Lib.hid hbe
  replace hb0 := Lib.hid hb0
  go_loopw [6] (fun s6 wr => ∃ t : Nat, t ≤ 16 ∧ s6 = .int .i64 t ∧ WB wr (b0 + 1 + 1) ((words bs).take t) ∧ Below (b0 + 1 + 1) w2 wr) (fun s6 _ => 16 - (intOf s6).toNat)
  case atStart => exact ⟨0, by omega, rfl, hwb2, Below.refl _ _⟩
  case round =>
    clear hwb2
    obtain ⟨t, ht, rfl, hwb, hB⟩ := hrel
    by_cases hlt : t < 16
    · have hl4 : ((bs.drop (4 * t)).take 4).length = 4 := by rw [List.length_take, List.length_drop, hbs.out]; omega
      have hAt := Lib.hid (((hAt2.out.keep (hB.block ab (by omega))).drop (4 * t)).take 4)
      have hfr := hwb.frozen t
      obtain ⟨v0, hv0⟩ := hwb.any (j := t) (by omega)
      have hset : ∀ W' : World, W'.heap = wr.heap → WB (W'.setCell ⟨b0 + 1 + 1, t, none⟩ (uv (word ((bs.drop (4 * t)).take 4)))) (b0 + 1 + 1) ((words bs).take (t + 1)) := fun W' hW' => by
        rw [words_take bs t hlt]
        exact (hwb.keep (w' := W') (by rw [hW'])).set t (by rw [List.length_take, words_len]; omega) (by omega) _
      replace hset := Lib.hid hset
      replace hl4 := Lib.hid hl4
      have hne : c ≠ 4 * t := by omega
      clear hwb
      have T4 : (4 * (t : Int) + 4).toNat - (4 * (t : Int)).toNat = 4 := by omega
      go_wp2_with fail
      refine (rword_any ((bs.drop (4 * t)).take 4) hl4.out ab (ao + 4 * t) (c - 4 * t) _ hAt.out (by omega) (by omega)).mono ?_
      rintro e w' ⟨rfl, nn, rfl⟩
      go_wp2_with fail
      go_roundw
      case rel => exact ⟨t + 1, by omega, by go_num, hset.out _ rfl, (Below.drewN hB nn).setCell (p := ⟨b0 + 1 + 1, t, none⟩) (Nat.le_refl _) _⟩
      case measure => simp [intOf]; omega
    · have hw16 : WB wr (b0 + 1 + 1) (words bs) := by
        have := hwb
        rw [List.take_of_length_le (by rw [words_len]; omega)] at this
        exact this
      replace hw16 := Lib.hid hw16
      clear hwb
      go_wp2_with fail
      clear ht
      go_loopw [7] (fun s7 w4 => ∃ t : Nat, 16 ≤ t ∧ t ≤ 64 ∧ s7 = .int .i64 t ∧ WB w4 (b0 + 1 + 1) (sched (words bs) (t - 16)) ∧ Below (b0 + 1 + 1) w2 w4) (fun s7 _ => 64 - (intOf s7).toNat)
      case atStart => exact ⟨16, by omega, by omega, rfl, hw16.out, hB⟩
      case round =>
        clear hw16 hB
        obtain ⟨t, ht1, ht2, rfl, hwb, hB⟩ := hrel
        by_cases hlt : t < 64
        · have hl : (sched (words bs) (t - 16)).length = t := by rw [sched_len, words_len]; omega
          obtain ⟨x16, e16⟩ : ∃ x, (sched (words bs) (t - 16))[t - 16]? = some x := ⟨_, List.getElem?_eq_getElem (by omega)⟩
          obtain ⟨x15, e15⟩ : ∃ x, (sched (words bs) (t - 16))[t - 15]? = some x := ⟨_, List.getElem?_eq_getElem (by omega)⟩
          obtain ⟨x7, e7⟩ : ∃ x, (sched (words bs) (t - 16))[t - 7]? = some x := ⟨_, List.getElem?_eq_getElem (by omega)⟩
          obtain ⟨x2, e2⟩ : ∃ x, (sched (words bs) (t - 16))[t - 2]? = some x := ⟨_, List.getElem?_eq_getElem (by omega)⟩
          have c16 := hwb.cell e16
          have c15 := hwb.cell e15
          have c7 := hwb.cell e7
          have c2 := hwb.cell e2
          have hfr := hwb.frozen t
          obtain ⟨v0, hv0⟩ := hwb.any (j := t) hlt
          have hset : ∀ W' : World, W'.heap = wr.heap → WB (W'.setCell ⟨b0 + 1 + 1, t, none⟩ (uv (x16 + s0 x15 + x7 + s1 x2))) (b0 + 1 + 1) (sched (words bs) (t + 1 - 16)) := fun W' hW' => by
            have := (hwb.keep (w' := W') (by rw [hW'])).set t hl hlt (x16 + s0 x15 + x7 + s1 x2)
            rw [← sched_more bs t ht1 x16 x15 x7 x2 e16 e15 e7 e2] at this
            exact this
          replace hset := Lib.hid hset
          have hval := Lib.hid (sched_val x16 x15 x7 x2)
          have r7 : Hid (∀ W0 : World, Calls Tryd.prog 124 #[uv x15, .int .i64 7] W0 fun e w' => e = .returned (uv (ror x15 7)) ∧ ∃ n, w' = W0.drewN n) := Lib.hid fun W0 => ror_any x15 7 (by omega) (by omega) W0
          have r18 : Hid (∀ W0 : World, Calls Tryd.prog 124 #[uv x15, .int .i64 18] W0 fun e w' => e = .returned (uv (ror x15 18)) ∧ ∃ n, w' = W0.drewN n) := Lib.hid fun W0 => ror_any x15 18 (by omega) (by omega) W0
          have r17 : Hid (∀ W0 : World, Calls Tryd.prog 124 #[uv x2, .int .i64 17] W0 fun e w' => e = .returned (uv (ror x2 17)) ∧ ∃ n, w' = W0.drewN n) := Lib.hid fun W0 => ror_any x2 17 (by omega) (by omega) W0
          have r19 : Hid (∀ W0 : World, Calls Tryd.prog 124 #[uv x2, .int .i64 19] W0 fun e w' => e = .returned (uv (ror x2 19)) ∧ ∃ n, w' = W0.drewN n) := Lib.hid fun W0 => ror_any x2 19 (by omega) (by omega) W0
          have W16 : IntKind.i64.wrap ((t : Int) - 16) = (t : Int) - 16 := IntWalk.i64_in _ (by omega)
          have W15 : IntKind.i64.wrap ((t : Int) - 15) = (t : Int) - 15 := IntWalk.i64_in _ (by omega)
          have W7 : IntKind.i64.wrap ((t : Int) - 7) = (t : Int) - 7 := IntWalk.i64_in _ (by omega)
          have W2 : IntKind.i64.wrap ((t : Int) - 2) = (t : Int) - 2 := IntWalk.i64_in _ (by omega)
          have T16 : ((t : Int) - 16).toNat = t - 16 := by omega
          have T15 : ((t : Int) - 15).toNat = t - 15 := by omega
          have T7 : ((t : Int) - 7).toNat = t - 7 := by omega
          have T2 : ((t : Int) - 2).toNat = t - 2 := by omega
          have G16 : (0 : Int) ≤ (t : Int) - 16 := by omega
          have G15 : (0 : Int) ≤ (t : Int) - 15 := by omega
          have G7 : (0 : Int) ≤ (t : Int) - 7 := by omega
          have G2 : (0 : Int) ≤ (t : Int) - 2 := by omega
          have M16 : (16 : Int) ≤ (t : Int) := by omega
          have M15 : (15 : Int) ≤ (t : Int) := by omega
          have M7 : (7 : Int) ≤ (t : Int) := by omega
          have M2 : (2 : Int) ≤ (t : Int) := by omega
          have L16 : (t : Int) - 16 < 64 := by omega
          have L15 : (t : Int) - 15 < 64 := by omega
          have L7 : (t : Int) - 7 < 64 := by omega
          have L2 : (t : Int) - 2 < 64 := by omega
          have L0 : (t : Int) < 64 := by omega
          have G0 : (0 : Int) ≤ (t : Int) := by omega
          clear e16 e15 e7 e2 hl hwb
          go_wp2_with fail
          refine wp_region_quiet_tail 29 (by kernel_rfl) (by kernel_rfl) ?_
          simp only [List.take_succ_cons, List.take_zero, List.drop_succ_cons, List.drop_zero]
          repeat (go_big_quiet_step ((go_at_call 124; first | (with_reducible exact Calls.quiet_of (r7.out _)) | (with_reducible exact Calls.quiet_of (r18.out _)) | (with_reducible exact Calls.quiet_of (r17.out _)) | (with_reducible exact Calls.quiet_of (r19.out _)))))
          refine wpQuiet_nil ?_
          intro _ hw'
          obtain ⟨nq, hw''⟩ := hw'
          subst hw''
          go_wp2_with fail
          go_roundw
          case rel =>
            rw [hval.out]
            exact ⟨t + 1, by omega, by omega, by go_num, hset.out _ rfl, (Below.drewN hB nq).setCell (p := ⟨b0 + 1 + 1, t, none⟩) (Nat.le_refl _) _⟩
          case measure => simp [intOf]; omega
        · have hw64 : WB wr (b0 + 1 + 1) (sched (words bs) 48) := by
            have e : t - 16 = 48 := by omega
            rw [e] at hwb
            exact hwb
          have hwl : (sched (words bs) 48).length = 64 := by rw [sched_len, words_len]
          have hs1 := (hB.block b0 (by omega)).trans hs0.out
          have hr1 := (hB.block (b0 + 1) (by omega)).trans hr0.out
          have hbz : b0 + 1 + 1 < wr.heap.size := by
            obtain ⟨arr, _, hh, _⟩ := hw64.cells
            exact (Array.getElem?_eq_some_iff.1 hh).1
          have hBr : Below b0 w wr := hBw.out.trans (hB.mono (by omega))
          have hnum := Lib.hid (numbers_any wr)
          clear hwb hB hs0 hr0 hbs hAt2 hBw
          replace hw64 := Lib.hid hw64
          replace hs1 := Lib.hid hs1
          replace hr1 := Lib.hid hr1
          replace hBr := Lib.hid hBr
          have hcomp : Hid (comp s bs = Sha.add s (rnds (sched (words bs) 48) s 64)) := Lib.hid rfl
          generalize sched (words bs) 48 = ws at *
          go_wp2_with fail
          refine hnum.out.mono ?_
          rintro e w5 ⟨rfl, hB5⟩
          clear hnum
          have hw5 := Lib.hid (hw64.out.keep (hB5.block _ hbz))
          have hs5 := Lib.hid ((hB5.block b0 (by omega)).trans hs1.out)
          have hr5 := Lib.hid ((hB5.block (b0 + 1) (by omega)).trans hr1.out)
          have hBr5 := Lib.hid (hBr.out.trans (hB5.mono (by omega)))
          have hbz5 : b0 + 1 + 1 < w5.heap.size := by have := hB5.size; omega
          clear hw64 hs1 hr1 hBr hB5 hbz
          go_wp2_with (refine wpList_new_row (by rfl) 144 (.tmp 10) (.tmp 78) (by rfl) (by rfl) kV (by rfl) (by rfl) 144 _ kV_info (by rfl) kV_one ?_; intro w6 h6 hz6 hB6; replace h6 := Lib.hid h6)
          have hw6 := Lib.hid (hw5.out.keep (hB6.block _ hbz5))
          have hs6 := (hB6.block b0 (by omega)).trans hs5.out
          have hr6 := Lib.hid ((hB6.block (b0 + 1) (by omega)).trans hr5.out)
          have hBr6 := Lib.hid (hBr5.out.trans (hB6.mono (by omega)))
          obtain ⟨⟨p0, p1, p2, p3⟩, p4, p5, p6, p7⟩ := cells8 hs6
          clear hw5 hs5 hr5 hBr5 hB6
          replace hs6 := Lib.hid hs6
          replace hz6 := Lib.hid hz6
          generalize w5.heap.size = kb at *
          go_quiet (fail)
          have hw7 : WB (w6.drewN nq) (b0 + 1 + 1) ws := hw6.out.keep rfl
          have hk7 : (w6.drewN nq).heap[kb]? = some (.cells kV 144 (0, 0)) := h6.out
          have hs7 : (w6.drewN nq).heap[b0]? = some (.cells (stV s) 127 (0, 0)) := hs6.out
          have hr7 := hr6.out
          replace hr7 : (w6.drewN nq).heap[b0 + 1]? = _ := hr7
          have hBr7 : Below b0 w (w6.drewN nq) := Below.drewN hBr6.out nq
          have hsz7 : (w6.drewN nq).heap.size = kb + 1 := hz6.out
          clear p0 p1 p2 p3 p4 p5 p6 p7 hw6 h6 hs6 hr6 hBr6 hz6
          generalize w6.drewN nq = w7 at *
          replace hw7 := Lib.hid hw7
          replace hk7 := Lib.hid hk7
          replace hs7 := Lib.hid hs7
          replace hr7 := Lib.hid hr7
          replace hsz7 := Lib.hid hsz7
          go_wp2_with fail
          go_loopw [11, 12, 13, 14, 15, 16, 17, 18, 19] (fun a b c d e f g hh s19 wr => ∃ t : Nat, t ≤ 64 ∧ s19 = .int .i64 t ∧ a = uv (rnds ws s t).a ∧ b = uv (rnds ws s t).b ∧ c = uv (rnds ws s t).c ∧ d = uv (rnds ws s t).d ∧ e = uv (rnds ws s t).e ∧ f = uv (rnds ws s t).f ∧ g = uv (rnds ws s t).g ∧ hh = uv (rnds ws s t).h ∧ Hid (∃ n, wr = w7.drewN n)) (fun _ _ _ _ _ _ _ _ s19 _ => 64 - (intOf s19).toNat)
          case atStart => exact ⟨0, by omega, rfl, rfl, rfl, rfl, rfl, rfl, rfl, rfl, rfl, Lib.hid ⟨0, rfl⟩⟩
          case round =>
            obtain ⟨t, ht, rfl, rfl, rfl, rfl, rfl, rfl, rfl, rfl, rfl, hwr⟩ := hrel
            by_cases hlt : t < 64
            · obtain ⟨wt, hwt⟩ : ∃ x, ws[t]? = some x := ⟨_, List.getElem?_eq_getElem (by omega)⟩
              have cw : wr.cell? ⟨b0 + 1 + 1, t, none⟩ = some (uv wt) := by obtain ⟨n, hn⟩ := hwr.out; rw [hn]; exact hw7.out.cell hwt
              have ck : wr.cell? ⟨kb, t, none⟩ = some (uv (K.getD t 0)) := by obtain ⟨n, hn⟩ := hwr.out; rw [hn]; exact (cell_of_row w7 kb t kV 144 (0, 0) hk7.out).trans (kV_at t hlt)
              have hrn : rnds ws s (t + 1) = rnd (rnds ws s t) (K.getD t 0) wt := by
                have e : ws.getD t 0 = wt := by rw [List.getD_eq_getElem?_getD, hwt]; rfl
                rw [rnds, e]
              replace hrn := Lib.hid hrn
              generalize rnds ws s t = x at *
              generalize K.getD t 0 = kt at *
              have G0 : (0 : Int) ≤ (t : Int) := by omega
              have G1 : (t : Int) < 64 := by omega
              have hsg : IntKind.u32.signed = false := rfl
              have re6 : Hid (∀ W0 : World, Calls Tryd.prog 124 #[uv x.e, .int .i64 6] W0 fun e w' => e = .returned (uv (ror x.e 6)) ∧ ∃ n, w' = W0.drewN n) := Lib.hid fun W0 => ror_any x.e 6 (by omega) (by omega) W0
              have re11 : Hid (∀ W0 : World, Calls Tryd.prog 124 #[uv x.e, .int .i64 11] W0 fun e w' => e = .returned (uv (ror x.e 11)) ∧ ∃ n, w' = W0.drewN n) := Lib.hid fun W0 => ror_any x.e 11 (by omega) (by omega) W0
              have re25 : Hid (∀ W0 : World, Calls Tryd.prog 124 #[uv x.e, .int .i64 25] W0 fun e w' => e = .returned (uv (ror x.e 25)) ∧ ∃ n, w' = W0.drewN n) := Lib.hid fun W0 => ror_any x.e 25 (by omega) (by omega) W0
              have ra2 : Hid (∀ W0 : World, Calls Tryd.prog 124 #[uv x.a, .int .i64 2] W0 fun e w' => e = .returned (uv (ror x.a 2)) ∧ ∃ n, w' = W0.drewN n) := Lib.hid fun W0 => ror_any x.a 2 (by omega) (by omega) W0
              have ra13 : Hid (∀ W0 : World, Calls Tryd.prog 124 #[uv x.a, .int .i64 13] W0 fun e w' => e = .returned (uv (ror x.a 13)) ∧ ∃ n, w' = W0.drewN n) := Lib.hid fun W0 => ror_any x.a 13 (by omega) (by omega) W0
              have ra22 : Hid (∀ W0 : World, Calls Tryd.prog 124 #[uv x.a, .int .i64 22] W0 fun e w' => e = .returned (uv (ror x.a 22)) ∧ ∃ n, w' = W0.drewN n) := Lib.hid fun W0 => ror_any x.a 22 (by omega) (by omega) W0
              go_wp2_with fail
              go_quiet ((go_at_call 124; first | (with_reducible exact Calls.quiet_of (re6.out _)) | (with_reducible exact Calls.quiet_of (re11.out _)) | (with_reducible exact Calls.quiet_of (re25.out _))))
              clear cw ck re6 re11 re25
              go_wp2_with fail
              refine (ra2.out _).mono ?_
              rintro e w8 ⟨rfl, n2, rfl⟩
              go_wp2_with fail
              refine (ra13.out _).mono ?_
              rintro e w8 ⟨rfl, n3, rfl⟩
              go_wp2_with fail
              refine (ra22.out _).mono ?_
              rintro e w8 ⟨rfl, n4, rfl⟩
              go_wp2_with fail
              go_roundw
              case rel =>
                rw [rval_p, rval_q, w_add2, w_add2]
                refine ⟨t + 1, by omega, by go_num, ?_, ?_, ?_, ?_, ?_, ?_, ?_, ?_, ?_⟩
                iterate 8 (rw [hrn.out]; rfl)
                · obtain ⟨n, hn⟩ := hwr.out
                  exact Lib.hid ⟨n + (nq + n2 + n3 + n4), by rw [hn]; simp only [World.drewN_drewN]⟩
              case measure => simp [intOf]; omega
            · have e64 : t = 64 := by omega
              rw [e64]
              rw [e64] at hlt
              clear e64
              generalize hxe : rnds ws s 64 = x at *
              have hsw : wr.heap[b0]? = some (.cells (stV s) 127 (0, 0)) := by obtain ⟨n, hn⟩ := hwr.out; rw [hn]; exact hs7.out
              have heq : wr.heap = w7.heap := by obtain ⟨n, hn⟩ := hwr.out; rw [hn]; rfl
              have hrw := hr7.out
              rw [← heq] at hrw
              clear heq
              have hBw : Below b0 w wr := by obtain ⟨n, hn⟩ := hwr.out; rw [hn]; exact Below.drewN hBr7 n
              obtain ⟨⟨p0, p1, p2, p3⟩, p4, p5, p6, p7⟩ := cells8 hsw
              have hone : Hid ((stV (Sha.add s x)).all (·.oneCell') = true) := Lib.hid (by rw [← mixV_eq]; exact mixV_one s x)
              have hri : Hid ((Tryd.prog.info? 127).map (·.size) = some (stV (Sha.add s x)).size) := Lib.hid (by rw [← mixV_eq]; exact mixV_info s x)
              have hsz : Hid (#[Value.int IntKind.u32 0, Value.int IntKind.u32 0, Value.int IntKind.u32 0, Value.int IntKind.u32 0, Value.int IntKind.u32 0, Value.int IntKind.u32 0, Value.int IntKind.u32 0, Value.int IntKind.u32 0].size = (stV (Sha.add s x)).size) := Lib.hid ((show #[Value.int IntKind.u32 0, Value.int IntKind.u32 0, Value.int IntKind.u32 0, Value.int IntKind.u32 0, Value.int IntKind.u32 0, Value.int IntKind.u32 0, Value.int IntKind.u32 0, Value.int IntKind.u32 0].size = 8 from rfl).trans (stV_size _).symm)
              replace hrw := Lib.hid hrw
              replace hsw := Lib.hid hsw
              clear hw7 hk7 hs7 hr7 hsz7 hwr ht hBr7
              go_wp2_with (first
                | (refine wpList_add32 (by rfl) (.tmp 159) (.tmp 160) (by rfl) s.a x.a (by rfl) (by rfl) ?_)
                | (refine wpList_add32 (by rfl) (.tmp 163) (.tmp 164) (by rfl) s.b x.b (by rfl) (by rfl) ?_)
                | (refine wpList_add32 (by rfl) (.tmp 167) (.tmp 168) (by rfl) s.c x.c (by rfl) (by rfl) ?_)
                | (refine wpList_add32 (by rfl) (.tmp 171) (.tmp 172) (by rfl) s.d x.d (by rfl) (by rfl) ?_)
                | (refine wpList_add32 (by rfl) (.tmp 175) (.tmp 176) (by rfl) s.e x.e (by rfl) (by rfl) ?_)
                | (refine wpList_add32 (by rfl) (.tmp 179) (.tmp 180) (by rfl) s.f x.f (by rfl) (by rfl) ?_)
                | (refine wpList_add32 (by rfl) (.tmp 183) (.tmp 184) (by rfl) s.g x.g (by rfl) (by rfl) ?_)
                | (refine wpList_add32 (by rfl) (.tmp 187) (.tmp 188) (by rfl) s.h x.h (by rfl) (by rfl) ?_)
                | (refine wpList_set_row (by rfl) 127 (.tmp 4) (.tmp 190) (by rfl) (by rfl) (b0 + 1) (stV (Sha.add s x)) (by rfl) (by rfl) 127 _ hrw.out hri.out hsz.out hone.out ?_; intro w9 hd9 hz9 hg9; replace hd9 := Lib.hid hd9))
              refine bodyPost_ret (v := .agg (stV (Sha.add s x))) (results_cell_row rfl _ _ (b0 + 1) 127 (stV (Sha.add s x)) (0, 0) _ rfl hd9.out Tryd.underlying127 (by rfl) hri.out) rfl ⟨by rw [hcomp.out], ?_⟩
              rw [hbe.out]
              have hlt0 := (Array.getElem?_eq_some_iff.1 hsw.out).1
              exact hBw.grown hg9 (by omega) (fun k e => by have := Option.some.inj e; omega)
end Go.Proofs.YthokpfegfnpmhaaDoor
