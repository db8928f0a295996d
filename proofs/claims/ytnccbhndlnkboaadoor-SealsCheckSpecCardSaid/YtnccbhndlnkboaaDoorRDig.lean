/- The walks of the reference's digest: numbers, ror, word. -/
import Derived.Test.YtnccbhndlnkboaaDoorTagH
import Derived.Test.YtnccbhndlnkboaaDoorMoreA
import Derived.Great.BuildSlice
import Derived.Test.YtnccbhndlnkboaaDoorNumR
namespace Go.Proofs.YtnccbhndlnkboaaDoor
open Go.RowKit Sha Cdc
set_option linter.unusedVariables false
set_option linter.unusedSimpArgs false

/-- the numbers K as cells -/
def kV : Array Value := (K.map uv).toArray
theorem kV_at (t : Nat) (h : t < 64) : kV[t]? = some (uv (K.getD t 0)) := by
  rw [kV, List.getElem?_toArray, List.getElem?_map, List.getD_eq_getElem?_getD, List.getElem?_eq_getElem (by simpa [K] using h)]
  rfl
theorem kV_info : (Tryd.prog.info? 154).map (·.size) = some kV.size := by kernel_rfl
theorem kV_one : kV.all (·.oneCell') = true := by decide +kernel

set_option maxRecDepth 100000 in
set_option maxHeartbeats 1000000 in
theorem ror_any (x : W) (k : Nat) (h1 : 1 ≤ k) (h2 : k ≤ 25) (w : World) :
    Calls Tryd.prog 112 #[uv x, .int .i64 (k : Int)] w fun e w' => e = .returned (uv (ror x k)) ∧ ∃ n, w' = w.drewN n := by
  have W1 : IntKind.i64.wrap (32 - (k : Int)) = 32 - (k : Int) := IntWalk.i64_in _ (by omega)
  have T1 : (32 - (k : Int)).toNat = 32 - k := by omega
  have G1 : (0 : Int) ≤ 32 - (k : Int) := by omega
  have G2 : (k : Int) ≤ 32 := by omega
  have G3 : (0 : Int) ≤ (k : Int) := by omega
  have G4 : (k : Int) < 32 := by omega
  have G5 : 32 - (k : Int) < 32 := by omega
  go_enter Tryd.func112, Tryd.ntmps112
  go_wp2_with fail
  go_quiet (fail)
  go_wp2_with fail
  go_ret
  refine ⟨?_, nq, rfl⟩
  show Ending.returned (Value.int IntKind.u32 (bits BinOp.or IntKind.u32 ((x.toNat : Int) / 2 ^ k) ((x.toNat : Int) * 2 ^ (32 - k) % 4294967296))) = _
  rw [w_shr2, w_shl2, w_or]
  rfl

theorem word4_val (a b c d : UInt8) : bits BinOp.or IntKind.u32 (bits BinOp.or IntKind.u32 (bits BinOp.or IntKind.u32 ((a.toNat : Int) * 16777216) ((b.toNat : Int) * 65536)) ((c.toNat : Int) * 256)) (d.toNat : Int) = ((word [a, b, c, d]).toNat : Int) := by
  have ha := a.toNat_lt
  have hb := b.toNat_lt
  have hc := c.toNat_lt
  have hd := d.toNat_lt
  have e1 : (a.toNat : Int) * 16777216 = ((BitVec.ofNat 32 (2 ^ 24 * a.toNat)).toNat : Int) := by rw [BitVec.toNat_ofNat]; omega
  have e2 : (b.toNat : Int) * 65536 = ((BitVec.ofNat 32 (b.toNat * 65536)).toNat : Int) := by rw [BitVec.toNat_ofNat]; omega
  have e3 : (c.toNat : Int) * 256 = ((BitVec.ofNat 32 (c.toNat * 256)).toNat : Int) := by rw [BitVec.toNat_ofNat]; omega
  have e4 : (d.toNat : Int) = ((BitVec.ofNat 32 d.toNat).toNat : Int) := by rw [BitVec.toNat_ofNat]; omega
  have o1 : BitVec.ofNat 32 (2 ^ 24 * a.toNat) ||| BitVec.ofNat 32 (b.toNat * 65536) = BitVec.ofNat 32 (2 ^ 16 * (a.toNat * 256 + b.toNat)) := by
    apply BitVec.eq_of_toNat_eq
    rw [BitVec.toNat_or, BitVec.toNat_ofNat, BitVec.toNat_ofNat, BitVec.toNat_ofNat, Nat.mod_eq_of_lt (by omega), Nat.mod_eq_of_lt (by omega), Nat.mod_eq_of_lt (by omega), ← Nat.two_pow_add_eq_or_of_lt (by omega)]
    omega
  have o2 : BitVec.ofNat 32 (2 ^ 16 * (a.toNat * 256 + b.toNat)) ||| BitVec.ofNat 32 (c.toNat * 256) = BitVec.ofNat 32 (2 ^ 8 * (a.toNat * 65536 + b.toNat * 256 + c.toNat)) := by
    apply BitVec.eq_of_toNat_eq
    rw [BitVec.toNat_or, BitVec.toNat_ofNat, BitVec.toNat_ofNat, BitVec.toNat_ofNat, Nat.mod_eq_of_lt (by omega), Nat.mod_eq_of_lt (by omega), Nat.mod_eq_of_lt (by omega), ← Nat.two_pow_add_eq_or_of_lt (by omega)]
    omega
  have o3 : BitVec.ofNat 32 (2 ^ 8 * (a.toNat * 65536 + b.toNat * 256 + c.toNat)) ||| BitVec.ofNat 32 d.toNat = word [a, b, c, d] := by
    apply BitVec.eq_of_toNat_eq
    show _ = (BitVec.ofNat 32 ((((0 * 256 + a.toNat) * 256 + b.toNat) * 256 + c.toNat) * 256 + d.toNat)).toNat
    rw [BitVec.toNat_or, BitVec.toNat_ofNat, BitVec.toNat_ofNat, BitVec.toNat_ofNat, Nat.mod_eq_of_lt (by omega), Nat.mod_eq_of_lt (by omega), Nat.mod_eq_of_lt (by omega), ← Nat.two_pow_add_eq_or_of_lt (by omega)]
    omega
  rw [e1, e2, w_or, o1, e3, w_or, o2, e4, w_or, o3]

set_option maxRecDepth 100000 in
set_option maxHeartbeats 1000000 in
theorem rword_any (bs : List UInt8) (hbs : bs.length = 4) (ab ao c : Nat) (w : World) (h : At w ab ao bs) (hc : 4 ≤ c) (hcm : c ≤ 9223372036854775807) :
    Calls Tryd.prog 111 #[.slice (some ⟨ab, ao, none⟩) 4 c] w fun e w' => e = .returned (uv (word bs)) ∧ ∃ n, w' = w.drewN n := by
  obtain ⟨x0, x1, x2, x3, rfl⟩ : ∃ x0 x1 x2 x3, bs = [x0, x1, x2, x3] := by
    match bs, hbs with
    | [x0, x1, x2, x3], _ => exact ⟨x0, x1, x2, x3, rfl⟩
  have c0 : w.cell? ⟨ab, ao, none⟩ = some (by1 x0) := h 0 x0 rfl
  have c1 := h 1 x1 rfl
  have c2 := h 2 x2 rfl
  have c3 := h 3 x3 rfl
  have l0 := x0.toNat_lt
  have l1 := x1.toNat_lt
  have l2 := x2.toNat_lt
  have l3 := x3.toNat_lt
  have hv := Lib.hid (word4_val x0 x1 x2 x3)
  clear h hbs
  go_enter Tryd.func111, Tryd.ntmps111
  go_wp2_with fail
  go_quiet (fail)
  go_wp2_with fail
  go_ret
  refine ⟨?_, nq, rfl⟩
  show Ending.returned (Value.int IntKind.u32 _) = _
  rw [hv.out]

set_option maxRecDepth 100000 in
set_option maxHeartbeats 1000000 in
theorem numbers_any (w : World) :
    Calls Tryd.prog 113 #[] w fun e w' => e = .returned (.agg kV) ∧ Below w.heap.size w w' := by
  go_enter Tryd.func113, Tryd.ntmps113
  go_wp2_with (refine wpList_new_row (by rfl) 154 (.tmp 0) (.tmp 1) (by rfl) (by rfl) kV (by rfl) (by kernel_rfl) 154 _ kV_info (by rfl) kV_one ?_; intro w2 h2 hz2 hB2; replace h2 := Lib.hid h2)
  exact bodyPost_ret (v := .agg kV) (results_cell_row rfl _ _ w.heap.size 154 kV (0, 0) _ rfl h2.out Tryd.underlying154 (by rfl) kV_info) rfl ⟨rfl, hB2⟩
end Go.Proofs.YtnccbhndlnkboaaDoor
/- The walk of the reference's block. -/
namespace Go.Proofs.YtnccbhndlnkboaaDoor
open Go.RowKit Sha Cdc
set_option linter.unusedVariables false
set_option linter.unusedSimpArgs false

theorem Below.drewN {B : Nat} {a w : World} (h : Below B a w) (k : Nat) : Below B a (w.drewN k) := ⟨h.os, h.tape, h.output, h.size, h.block⟩
theorem w_not (x : W) : bits BinOp.xor IntKind.u32 IntKind.u32.max (x.toNat : Int) = ((~~~x).toNat : Int) := by
  have e : IntKind.u32.max = ((BitVec.allOnes 32).toNat : Int) := by decide
  rw [e, w_xor]
  have h : BitVec.allOnes 32 ^^^ x = ~~~x := by
    apply BitVec.eq_of_getLsbD_eq
    intro i hi
    rw [BitVec.getLsbD_xor, BitVec.getLsbD_allOnes, BitVec.getLsbD_not]
    simp [hi]
  rw [h]
theorem rval_p (x : St) (kt wt : W) : ((x.h.toNat : Int) + bits BinOp.xor IntKind.u32 (bits BinOp.xor IntKind.u32 ((ror x.e 6).toNat : Int) ((ror x.e 11).toNat : Int)) ((ror x.e 25).toNat : Int) +
    bits BinOp.xor IntKind.u32 (bits BinOp.and IntKind.u32 (x.e.toNat : Int) (x.f.toNat : Int)) (bits BinOp.and IntKind.u32 (bits BinOp.xor IntKind.u32 IntKind.u32.max (x.e.toNat : Int)) (x.g.toNat : Int)) + (kt.toNat : Int) + (wt.toNat : Int)) % 4294967296 =
    ((x.h + S1 x.e + ch x.e x.f x.g + kt + wt).toNat : Int) := by
  rw [w_xor, w_xor, w_and, w_not, w_and, w_xor]
  show ((x.h.toNat : Int) + ((S1 x.e).toNat : Int) + ((ch x.e x.f x.g).toNat : Int) + (kt.toNat : Int) + (wt.toNat : Int)) % 4294967296 = _
  rw [BitVec.toNat_add, BitVec.toNat_add, BitVec.toNat_add, BitVec.toNat_add]
  have e : (2 : Nat) ^ 32 = 4294967296 := by decide
  rw [e]
  omega
theorem rval_q (x : St) : (bits BinOp.xor IntKind.u32 (bits BinOp.xor IntKind.u32 ((ror x.a 2).toNat : Int) ((ror x.a 13).toNat : Int)) ((ror x.a 22).toNat : Int) +
    bits BinOp.xor IntKind.u32 (bits BinOp.xor IntKind.u32 (bits BinOp.and IntKind.u32 (x.a.toNat : Int) (x.b.toNat : Int)) (bits BinOp.and IntKind.u32 (x.a.toNat : Int) (x.c.toNat : Int))) (bits BinOp.and IntKind.u32 (x.b.toNat : Int) (x.c.toNat : Int))) % 4294967296 =
    ((S0 x.a + maj x.a x.b x.c).toNat : Int) := by
  rw [w_xor, w_xor, w_and, w_and, w_and, w_xor, w_xor, w_add2]
  rfl
/-- two states added, word by word, as the walk spells it -/
abbrev mixV (s x : St) : Array Value := #[.int .u32 (((s.a.toNat : Int) + (x.a.toNat : Int)) % 4294967296), .int .u32 (((s.b.toNat : Int) + (x.b.toNat : Int)) % 4294967296), .int .u32 (((s.c.toNat : Int) + (x.c.toNat : Int)) % 4294967296), .int .u32 (((s.d.toNat : Int) + (x.d.toNat : Int)) % 4294967296),
  .int .u32 (((s.e.toNat : Int) + (x.e.toNat : Int)) % 4294967296), .int .u32 (((s.f.toNat : Int) + (x.f.toNat : Int)) % 4294967296), .int .u32 (((s.g.toNat : Int) + (x.g.toNat : Int)) % 4294967296), .int .u32 (((s.h.toNat : Int) + (x.h.toNat : Int)) % 4294967296)]
theorem mixV_eq (s x : St) : mixV s x = stV (Sha.add s x) := by
  unfold mixV
  rw [w_add2, w_add2, w_add2, w_add2, w_add2, w_add2, w_add2, w_add2]
  rfl
theorem mixV_one (s x : St) : (mixV s x).all (·.oneCell') = true := by simp [mixV, Value.oneCell']
theorem mixV_info (s x : St) : (Tryd.prog.info? 135).map (·.size) = some (mixV s x).size := by
  have h : (Tryd.prog.info? 135).map (·.size) = some 8 := by kernel_rfl
  rw [h]; rfl
theorem built8 (v0 v1 v2 v3 v4 v5 v6 v7 : Int) : Tryd.prog.built 135 [(0, .int .u32 v0), (1, .int .u32 v1), (2, .int .u32 v2), (3, .int .u32 v3), (4, .int .u32 v4), (5, .int .u32 v5), (6, .int .u32 v6), (7, .int .u32 v7)] = some #[.int .u32 v0, .int .u32 v1, .int .u32 v2, .int .u32 v3, .int .u32 v4, .int .u32 v5, .int .u32 v6, .int .u32 v7] := by kernel_rfl
theorem wpList_add32 {ops : Array Oper} {rest : List Oper} {o : Oper} {a : Act} {w : World} {Q : Exit → Act → World → Prop} (hgd : o.guard = none) (x y : Operand) (ho : o.op = .binOp .add 134 x y 134) (u v : W) (hx : a.eval x = uv u) (hy : a.eval y = uv v)
    (h : wpList Tryd.prog ops Q rest (a.put o.dst (uv (u + v))) w) : wpList Tryd.prog ops Q (o :: rest) a w := by
  refine wpList_plain hgd fun K hK => ?_
  unfold Oper.wp execOp
  simp only [ho, hx, hy]
  go_simp
  rw [w_add u v]
  exact hK _ _ h
theorem stV_size (s : St) : (stV s).size = 8 := rfl
def z64V : Array Value := ((List.replicate 64 (0 : W)).map uv).toArray
theorem z64_info : (Tryd.prog.info? 154).map (·.size) = some z64V.size := by kernel_rfl
theorem z64_one : z64V.all (·.oneCell') = true := by decide +kernel

set_option maxRecDepth 100000 in
set_option maxHeartbeats 6000000 in
theorem rblock_any (s : St) (bs : List UInt8) (hbs : bs.length = 64) (ab ao c : Nat) (w : World) (h : At w ab ao bs) (hc : 64 ≤ c) (hcm : c ≤ 9223372036854775807) :
    Calls Tryd.prog 102 #[.agg (stV s), .slice (some ⟨ab, ao, none⟩) 64 c] w fun e w' => e = .returned (.agg (stV (comp s bs))) ∧ Below w.heap.size w w' := by
  replace h := Lib.hid h
  replace hbs := Lib.hid hbs
  go_enter Tryd.func102, Tryd.ntmps102
  have hz64 : Hid (Tryd.prog.built 154 [] = some z64V) := Lib.hid (by kernel_rfl)
  go_wp2_with (first | (refine wpList_buildTo (by rfl) 154 _ (by rfl) (some 22) (by rfl) z64V hz64.out ?_) | (refine wpList_new_row' (by rfl) 154 (.tmp 5) (.tmp 22) (by rfl) (by rfl) z64V _ (by rfl) (by simp) (by rfl) 154 _ z64_info (by rfl) z64_one ?_; intro w2 h2 hz2 hB2; replace h2 := Lib.hid h2))
  have hs0 : w2.heap[w.heap.size]? = some (.cells (stV s) 135 (0, 0)) := (hB2.block _ (by omega)).trans (heap_alloc2_old w _ _)
  have hr0 := (hB2.block (w.heap.size + 1) (by omega)).trans (heap_alloc2_new w _ _)
  have hBw : Below w.heap.size w w2 := (((Below.refl _ w).alloc (Nat.le_refl _) _).alloc (by simp) _).trans (hB2.mono (by omega))
  have hAt2 : At w2 ab ao bs := h.out.keep (hBw.block ab (by
    obtain ⟨x, hx⟩ : ∃ x, bs[0]? = some x := ⟨_, List.getElem?_eq_getElem (by rw [hbs.out]; omega)⟩
    exact World.block_lt_of_cell? w ⟨ab, ao + 0, none⟩ (h.out 0 x hx)))
  have habs : ab < w.heap.size := by
    obtain ⟨x, hx⟩ : ∃ x, bs[0]? = some x := ⟨_, List.getElem?_eq_getElem (by rw [hbs.out]; omega)⟩
    exact World.block_lt_of_cell? w ⟨ab, ao + 0, none⟩ (h.out 0 x hx)
  have hwb2 : WB w2 (w.heap.size + 1 + 1) [] := ⟨by simp, z64V, rfl, h2.out, fun j x hx => by simp at hx⟩
  clear hB2 h2 h
  replace hs0 := Lib.hid hs0
  replace hr0 := Lib.hid hr0
  replace hAt2 := Lib.hid hAt2
  replace hBw := Lib.hid hBw
  have hb0 : w.heap.size + 1 + 1 + 1 = w2.heap.size := hz2.symm
  replace hz2 := Lib.hid hz2
  generalize hbe : w.heap.size = b0 at *
  replace hbe := Lib.hid hbe
  replace hb0 := Lib.hid hb0
  go_loopw [6] (fun s6 wr => ∃ t : Nat, t ≤ 16 ∧ s6 = .int .i64 t ∧ WB wr (b0 + 1 + 1) ((words bs).take t) ∧ Below (b0 + 1 + 1) w2 wr) (fun s6 _ => 16 - (intOf s6).toNat)
  case atStart => exact ⟨0, by omega, rfl, hwb2, Below.refl _ _⟩
  case round =>
    clear hwb2
    obtain ⟨t, ht, rfl, hwb, hB⟩ := hrel
    by_cases hlt : t < 16
    · have hl4 : ((bs.drop (4 * t)).take 4).length = 4 := by rw [List.length_take, List.length_drop, hbs.out]; omega
      have hAt := Lib.hid (((hAt2.out.keep (hB.block ab (by omega))).drop (4 * t)).take 4)
      have hfr := hwb.frozen t
      obtain ⟨v0, hv0⟩ := hwb.any (j := t) (by omega)
      have hset : ∀ W' : World, W'.heap = wr.heap → WB (W'.setCell ⟨b0 + 1 + 1, t, none⟩ (uv (word ((bs.drop (4 * t)).take 4)))) (b0 + 1 + 1) ((words bs).take (t + 1)) := fun W' hW' => by
        rw [words_take bs t hlt]
        exact (hwb.keep (w' := W') (by rw [hW'])).set t (by rw [List.length_take, words_len]; omega) (by omega) _
      replace hset := Lib.hid hset
      replace hl4 := Lib.hid hl4
      have hne : c ≠ 4 * t := by omega
      clear hwb
      have T4 : (4 * (t : Int) + 4).toNat - (4 * (t : Int)).toNat = 4 := by omega
      go_wp2_with fail
      refine (rword_any ((bs.drop (4 * t)).take 4) hl4.out ab (ao + 4 * t) (c - 4 * t) _ hAt.out (by omega) (by omega)).mono ?_
      rintro e w' ⟨rfl, nn, rfl⟩
      go_wp2_with fail
      go_roundw
      case rel => exact ⟨t + 1, by omega, by go_num, hset.out _ rfl, (Below.drewN hB nn).setCell (p := ⟨b0 + 1 + 1, t, none⟩) (Nat.le_refl _) _⟩
      case measure => simp [intOf]; omega
    · have hw16 : WB wr (b0 + 1 + 1) (words bs) := by
        have := hwb
        rw [List.take_of_length_le (by rw [words_len]; omega)] at this
        exact this
      replace hw16 := Lib.hid hw16
      clear hwb
      go_wp2_with fail
      clear ht
      go_loopw [7] (fun s7 w4 => ∃ t : Nat, 16 ≤ t ∧ t ≤ 64 ∧ s7 = .int .i64 t ∧ WB w4 (b0 + 1 + 1) (sched (words bs) (t - 16)) ∧ Below (b0 + 1 + 1) w2 w4) (fun s7 _ => 64 - (intOf s7).toNat)
      case atStart => exact ⟨16, by omega, by omega, rfl, hw16.out, hB⟩
      case round =>
        clear hw16 hB
        obtain ⟨t, ht1, ht2, rfl, hwb, hB⟩ := hrel
        by_cases hlt : t < 64
        · have hl : (sched (words bs) (t - 16)).length = t := by rw [sched_len, words_len]; omega
          obtain ⟨x16, e16⟩ : ∃ x, (sched (words bs) (t - 16))[t - 16]? = some x := ⟨_, List.getElem?_eq_getElem (by omega)⟩
          obtain ⟨x15, e15⟩ : ∃ x, (sched (words bs) (t - 16))[t - 15]? = some x := ⟨_, List.getElem?_eq_getElem (by omega)⟩
          obtain ⟨x7, e7⟩ : ∃ x, (sched (words bs) (t - 16))[t - 7]? = some x := ⟨_, List.getElem?_eq_getElem (by omega)⟩
          obtain ⟨x2, e2⟩ : ∃ x, (sched (words bs) (t - 16))[t - 2]? = some x := ⟨_, List.getElem?_eq_getElem (by omega)⟩
          have c16 := hwb.cell e16
          have c15 := hwb.cell e15
          have c7 := hwb.cell e7
          have c2 := hwb.cell e2
          have hfr := hwb.frozen t
          obtain ⟨v0, hv0⟩ := hwb.any (j := t) hlt
          have hset : ∀ W' : World, W'.heap = wr.heap → WB (W'.setCell ⟨b0 + 1 + 1, t, none⟩ (uv (x16 + s0 x15 + x7 + s1 x2))) (b0 + 1 + 1) (sched (words bs) (t + 1 - 16)) := fun W' hW' => by
            have := (hwb.keep (w' := W') (by rw [hW'])).set t hl hlt (x16 + s0 x15 + x7 + s1 x2)
            rw [← sched_more bs t ht1 x16 x15 x7 x2 e16 e15 e7 e2] at this
            exact this
          replace hset := Lib.hid hset
          have hval := Lib.hid (sched_val x16 x15 x7 x2)
          have r7 : Hid (∀ W0 : World, Calls Tryd.prog 112 #[uv x15, .int .i64 7] W0 fun e w' => e = .returned (uv (ror x15 7)) ∧ ∃ n, w' = W0.drewN n) := Lib.hid fun W0 => ror_any x15 7 (by omega) (by omega) W0
          have r18 : Hid (∀ W0 : World, Calls Tryd.prog 112 #[uv x15, .int .i64 18] W0 fun e w' => e = .returned (uv (ror x15 18)) ∧ ∃ n, w' = W0.drewN n) := Lib.hid fun W0 => ror_any x15 18 (by omega) (by omega) W0
          have r17 : Hid (∀ W0 : World, Calls Tryd.prog 112 #[uv x2, .int .i64 17] W0 fun e w' => e = .returned (uv (ror x2 17)) ∧ ∃ n, w' = W0.drewN n) := Lib.hid fun W0 => ror_any x2 17 (by omega) (by omega) W0
          have r19 : Hid (∀ W0 : World, Calls Tryd.prog 112 #[uv x2, .int .i64 19] W0 fun e w' => e = .returned (uv (ror x2 19)) ∧ ∃ n, w' = W0.drewN n) := Lib.hid fun W0 => ror_any x2 19 (by omega) (by omega) W0
          have W16 : IntKind.i64.wrap ((t : Int) - 16) = (t : Int) - 16 := IntWalk.i64_in _ (by omega)
          have W15 : IntKind.i64.wrap ((t : Int) - 15) = (t : Int) - 15 := IntWalk.i64_in _ (by omega)
          have W7 : IntKind.i64.wrap ((t : Int) - 7) = (t : Int) - 7 := IntWalk.i64_in _ (by omega)
          have W2 : IntKind.i64.wrap ((t : Int) - 2) = (t : Int) - 2 := IntWalk.i64_in _ (by omega)
          have T16 : ((t : Int) - 16).toNat = t - 16 := by omega
          have T15 : ((t : Int) - 15).toNat = t - 15 := by omega
          have T7 : ((t : Int) - 7).toNat = t - 7 := by omega
          have T2 : ((t : Int) - 2).toNat = t - 2 := by omega
          have G16 : (0 : Int) ≤ (t : Int) - 16 := by omega
          have G15 : (0 : Int) ≤ (t : Int) - 15 := by omega
          have G7 : (0 : Int) ≤ (t : Int) - 7 := by omega
          have G2 : (0 : Int) ≤ (t : Int) - 2 := by omega
          have M16 : (16 : Int) ≤ (t : Int) := by omega
          have M15 : (15 : Int) ≤ (t : Int) := by omega
          have M7 : (7 : Int) ≤ (t : Int) := by omega
          have M2 : (2 : Int) ≤ (t : Int) := by omega
          have L16 : (t : Int) - 16 < 64 := by omega
          have L15 : (t : Int) - 15 < 64 := by omega
          have L7 : (t : Int) - 7 < 64 := by omega
          have L2 : (t : Int) - 2 < 64 := by omega
          have L0 : (t : Int) < 64 := by omega
          have G0 : (0 : Int) ≤ (t : Int) := by omega
          clear e16 e15 e7 e2 hl hwb
          go_wp2_with fail
          refine wp_region_quiet_tail 29 (by kernel_rfl) (by kernel_rfl) ?_
          simp only [List.take_succ_cons, List.take_zero, List.drop_succ_cons, List.drop_zero]
          repeat (go_big_quiet_step ((go_at_call 112; first | (with_reducible exact Calls.quiet_of (r7.out _)) | (with_reducible exact Calls.quiet_of (r18.out _)) | (with_reducible exact Calls.quiet_of (r17.out _)) | (with_reducible exact Calls.quiet_of (r19.out _)))))
          refine wpQuiet_nil ?_
          intro _ hw'
          obtain ⟨nq, hw''⟩ := hw'
          subst hw''
          go_wp2_with fail
          go_roundw
          case rel =>
            rw [hval.out]
            exact ⟨t + 1, by omega, by omega, by go_num, hset.out _ rfl, (Below.drewN hB nq).setCell (p := ⟨b0 + 1 + 1, t, none⟩) (Nat.le_refl _) _⟩
          case measure => simp [intOf]; omega
        · have hw64 : WB wr (b0 + 1 + 1) (sched (words bs) 48) := by
            have e : t - 16 = 48 := by omega
            rw [e] at hwb
            exact hwb
          have hwl : (sched (words bs) 48).length = 64 := by rw [sched_len, words_len]
          have hs1 := (hB.block b0 (by omega)).trans hs0.out
          have hr1 := (hB.block (b0 + 1) (by omega)).trans hr0.out
          have hbz : b0 + 1 + 1 < wr.heap.size := by
            obtain ⟨arr, _, hh, _⟩ := hw64.cells
            exact (Array.getElem?_eq_some_iff.1 hh).1
          have hBr : Below b0 w wr := hBw.out.trans (hB.mono (by omega))
          have hnum := Lib.hid (numbers_any wr)
          clear hwb hB hs0 hr0 hbs hAt2 hBw
          replace hw64 := Lib.hid hw64
          replace hs1 := Lib.hid hs1
          replace hr1 := Lib.hid hr1
          replace hBr := Lib.hid hBr
          have hcomp : Hid (comp s bs = Sha.add s (rnds (sched (words bs) 48) s 64)) := Lib.hid rfl
          generalize sched (words bs) 48 = ws at *
          go_wp2_with fail
          refine hnum.out.mono ?_
          rintro e w5 ⟨rfl, hB5⟩
          clear hnum
          have hw5 := Lib.hid (hw64.out.keep (hB5.block _ hbz))
          have hs5 := Lib.hid ((hB5.block b0 (by omega)).trans hs1.out)
          have hr5 := Lib.hid ((hB5.block (b0 + 1) (by omega)).trans hr1.out)
          have hBr5 := Lib.hid (hBr.out.trans (hB5.mono (by omega)))
          have hbz5 : b0 + 1 + 1 < w5.heap.size := by have := hB5.size; omega
          clear hw64 hs1 hr1 hBr hB5 hbz
          go_wp2_with (refine wpList_new_row (by rfl) 154 (.tmp 10) (.tmp 78) (by rfl) (by rfl) kV (by rfl) (by rfl) 154 _ kV_info (by rfl) kV_one ?_; intro w6 h6 hz6 hB6; replace h6 := Lib.hid h6)
          have hw6 := Lib.hid (hw5.out.keep (hB6.block _ hbz5))
          have hs6 := (hB6.block b0 (by omega)).trans hs5.out
          have hr6 := Lib.hid ((hB6.block (b0 + 1) (by omega)).trans hr5.out)
          have hBr6 := Lib.hid (hBr5.out.trans (hB6.mono (by omega)))
          obtain ⟨⟨p0, p1, p2, p3⟩, p4, p5, p6, p7⟩ := cells8 hs6
          clear hw5 hs5 hr5 hBr5 hB6
          replace hs6 := Lib.hid hs6
          replace hz6 := Lib.hid hz6
          generalize w5.heap.size = kb at *
          go_quiet (fail)
          have hw7 : WB (w6.drewN nq) (b0 + 1 + 1) ws := hw6.out.keep rfl
          have hk7 : (w6.drewN nq).heap[kb]? = some (.cells kV 154 (0, 0)) := h6.out
          have hs7 : (w6.drewN nq).heap[b0]? = some (.cells (stV s) 135 (0, 0)) := hs6.out
          have hr7 := hr6.out
          replace hr7 : (w6.drewN nq).heap[b0 + 1]? = _ := hr7
          have hBr7 : Below b0 w (w6.drewN nq) := Below.drewN hBr6.out nq
          have hsz7 : (w6.drewN nq).heap.size = kb + 1 := hz6.out
          clear p0 p1 p2 p3 p4 p5 p6 p7 hw6 h6 hs6 hr6 hBr6 hz6
          generalize w6.drewN nq = w7 at *
          replace hw7 := Lib.hid hw7
          replace hk7 := Lib.hid hk7
          replace hs7 := Lib.hid hs7
          replace hr7 := Lib.hid hr7
          replace hsz7 := Lib.hid hsz7
          go_wp2_with fail
          go_loopw [11, 12, 13, 14, 15, 16, 17, 18, 19] (fun a b c d e f g hh s19 wr => ∃ t : Nat, t ≤ 64 ∧ s19 = .int .i64 t ∧ a = uv (rnds ws s t).a ∧ b = uv (rnds ws s t).b ∧ c = uv (rnds ws s t).c ∧ d = uv (rnds ws s t).d ∧ e = uv (rnds ws s t).e ∧ f = uv (rnds ws s t).f ∧ g = uv (rnds ws s t).g ∧ hh = uv (rnds ws s t).h ∧ Hid (∃ n, wr = w7.drewN n)) (fun _ _ _ _ _ _ _ _ s19 _ => 64 - (intOf s19).toNat)
          case atStart => exact ⟨0, by omega, rfl, rfl, rfl, rfl, rfl, rfl, rfl, rfl, rfl, Lib.hid ⟨0, rfl⟩⟩
          case round =>
            obtain ⟨t, ht, rfl, rfl, rfl, rfl, rfl, rfl, rfl, rfl, rfl, hwr⟩ := hrel
            by_cases hlt : t < 64
            · obtain ⟨wt, hwt⟩ : ∃ x, ws[t]? = some x := ⟨_, List.getElem?_eq_getElem (by omega)⟩
              have cw : wr.cell? ⟨b0 + 1 + 1, t, none⟩ = some (uv wt) := by obtain ⟨n, hn⟩ := hwr.out; rw [hn]; exact hw7.out.cell hwt
              have ck : wr.cell? ⟨kb, t, none⟩ = some (uv (K.getD t 0)) := by obtain ⟨n, hn⟩ := hwr.out; rw [hn]; exact (cell_of_row w7 kb t kV 154 (0, 0) hk7.out).trans (kV_at t hlt)
              have hrn : rnds ws s (t + 1) = rnd (rnds ws s t) (K.getD t 0) wt := by
                have e : ws.getD t 0 = wt := by rw [List.getD_eq_getElem?_getD, hwt]; rfl
                rw [rnds, e]
              replace hrn := Lib.hid hrn
              generalize rnds ws s t = x at *
              generalize K.getD t 0 = kt at *
              have G0 : (0 : Int) ≤ (t : Int) := by omega
              have G1 : (t : Int) < 64 := by omega
              have hsg : IntKind.u32.signed = false := rfl
              have re6 : Hid (∀ W0 : World, Calls Tryd.prog 112 #[uv x.e, .int .i64 6] W0 fun e w' => e = .returned (uv (ror x.e 6)) ∧ ∃ n, w' = W0.drewN n) := Lib.hid fun W0 => ror_any x.e 6 (by omega) (by omega) W0
              have re11 : Hid (∀ W0 : World, Calls Tryd.prog 112 #[uv x.e, .int .i64 11] W0 fun e w' => e = .returned (uv (ror x.e 11)) ∧ ∃ n, w' = W0.drewN n) := Lib.hid fun W0 => ror_any x.e 11 (by omega) (by omega) W0
              have re25 : Hid (∀ W0 : World, Calls Tryd.prog 112 #[uv x.e, .int .i64 25] W0 fun e w' => e = .returned (uv (ror x.e 25)) ∧ ∃ n, w' = W0.drewN n) := Lib.hid fun W0 => ror_any x.e 25 (by omega) (by omega) W0
              have ra2 : Hid (∀ W0 : World, Calls Tryd.prog 112 #[uv x.a, .int .i64 2] W0 fun e w' => e = .returned (uv (ror x.a 2)) ∧ ∃ n, w' = W0.drewN n) := Lib.hid fun W0 => ror_any x.a 2 (by omega) (by omega) W0
              have ra13 : Hid (∀ W0 : World, Calls Tryd.prog 112 #[uv x.a, .int .i64 13] W0 fun e w' => e = .returned (uv (ror x.a 13)) ∧ ∃ n, w' = W0.drewN n) := Lib.hid fun W0 => ror_any x.a 13 (by omega) (by omega) W0
              have ra22 : Hid (∀ W0 : World, Calls Tryd.prog 112 #[uv x.a, .int .i64 22] W0 fun e w' => e = .returned (uv (ror x.a 22)) ∧ ∃ n, w' = W0.drewN n) := Lib.hid fun W0 => ror_any x.a 22 (by omega) (by omega) W0
              go_wp2_with fail
              go_quiet ((go_at_call 112; first | (with_reducible exact Calls.quiet_of (re6.out _)) | (with_reducible exact Calls.quiet_of (re11.out _)) | (with_reducible exact Calls.quiet_of (re25.out _))))
              clear cw ck re6 re11 re25
              go_wp2_with fail
              refine (ra2.out _).mono ?_
              rintro e w8 ⟨rfl, n2, rfl⟩
              go_wp2_with fail
              refine (ra13.out _).mono ?_
              rintro e w8 ⟨rfl, n3, rfl⟩
              go_wp2_with fail
              refine (ra22.out _).mono ?_
              rintro e w8 ⟨rfl, n4, rfl⟩
              go_wp2_with fail
              go_roundw
              case rel =>
                rw [rval_p, rval_q, w_add2, w_add2]
                refine ⟨t + 1, by omega, by go_num, ?_, ?_, ?_, ?_, ?_, ?_, ?_, ?_, ?_⟩
                iterate 8 (rw [hrn.out]; rfl)
                · obtain ⟨n, hn⟩ := hwr.out
                  exact Lib.hid ⟨n + (nq + n2 + n3 + n4), by rw [hn]; simp only [World.drewN_drewN]⟩
              case measure => simp [intOf]; omega
            · have e64 : t = 64 := by omega
              rw [e64]
              rw [e64] at hlt
              clear e64
              generalize hxe : rnds ws s 64 = x at *
              have hsw : wr.heap[b0]? = some (.cells (stV s) 135 (0, 0)) := by obtain ⟨n, hn⟩ := hwr.out; rw [hn]; exact hs7.out
              have heq : wr.heap = w7.heap := by obtain ⟨n, hn⟩ := hwr.out; rw [hn]; rfl
              have hrw := hr7.out
              rw [← heq] at hrw
              clear heq
              have hBw : Below b0 w wr := by obtain ⟨n, hn⟩ := hwr.out; rw [hn]; exact Below.drewN hBr7 n
              obtain ⟨⟨p0, p1, p2, p3⟩, p4, p5, p6, p7⟩ := cells8 hsw
              have hone : Hid ((stV (Sha.add s x)).all (·.oneCell') = true) := Lib.hid (by rw [← mixV_eq]; exact mixV_one s x)
              have hri : Hid ((Tryd.prog.info? 135).map (·.size) = some (stV (Sha.add s x)).size) := Lib.hid (by rw [← mixV_eq]; exact mixV_info s x)
              have hsz : Hid (#[Value.int IntKind.u32 0, Value.int IntKind.u32 0, Value.int IntKind.u32 0, Value.int IntKind.u32 0, Value.int IntKind.u32 0, Value.int IntKind.u32 0, Value.int IntKind.u32 0, Value.int IntKind.u32 0].size = (stV (Sha.add s x)).size) := Lib.hid ((show #[Value.int IntKind.u32 0, Value.int IntKind.u32 0, Value.int IntKind.u32 0, Value.int IntKind.u32 0, Value.int IntKind.u32 0, Value.int IntKind.u32 0, Value.int IntKind.u32 0, Value.int IntKind.u32 0].size = 8 from rfl).trans (stV_size _).symm)
              replace hrw := Lib.hid hrw
              replace hsw := Lib.hid hsw
              clear hw7 hk7 hs7 hr7 hsz7 hwr ht hBr7
              go_wp2_with (first
                | (refine wpList_add32 (by rfl) (.tmp 159) (.tmp 160) (by rfl) s.a x.a (by rfl) (by rfl) ?_)
                | (refine wpList_add32 (by rfl) (.tmp 163) (.tmp 164) (by rfl) s.b x.b (by rfl) (by rfl) ?_)
                | (refine wpList_add32 (by rfl) (.tmp 167) (.tmp 168) (by rfl) s.c x.c (by rfl) (by rfl) ?_)
                | (refine wpList_add32 (by rfl) (.tmp 171) (.tmp 172) (by rfl) s.d x.d (by rfl) (by rfl) ?_)
                | (refine wpList_add32 (by rfl) (.tmp 175) (.tmp 176) (by rfl) s.e x.e (by rfl) (by rfl) ?_)
                | (refine wpList_add32 (by rfl) (.tmp 179) (.tmp 180) (by rfl) s.f x.f (by rfl) (by rfl) ?_)
                | (refine wpList_add32 (by rfl) (.tmp 183) (.tmp 184) (by rfl) s.g x.g (by rfl) (by rfl) ?_)
                | (refine wpList_add32 (by rfl) (.tmp 187) (.tmp 188) (by rfl) s.h x.h (by rfl) (by rfl) ?_)
                | (refine wpList_set_row (by rfl) 135 (.tmp 4) (.tmp 190) (by rfl) (by rfl) (b0 + 1) (stV (Sha.add s x)) (by rfl) (by rfl) 135 _ hrw.out hri.out hsz.out hone.out ?_; intro w9 hd9 hz9 hg9; replace hd9 := Lib.hid hd9))
              refine bodyPost_ret (v := .agg (stV (Sha.add s x))) (results_cell_row rfl _ _ (b0 + 1) 135 (stV (Sha.add s x)) (0, 0) _ rfl hd9.out Tryd.underlying135 (by rfl) hri.out) rfl ⟨by rw [hcomp.out], ?_⟩
              rw [hbe.out]
              have hlt0 := (Array.getElem?_eq_some_iff.1 hsw.out).1
              exact hBw.grown hg9 (by omega) (fun k e => by have := Option.some.inj e; omega)
end Go.Proofs.YtnccbhndlnkboaaDoor
/- The walk of the reference's padded. -/
namespace Go.Proofs.YtnccbhndlnkboaaDoor
open Go.RowKit Sha Cdc
set_option linter.unusedVariables false
set_option linter.unusedSimpArgs false

theorem Own.empty (w : World) (k : Nat) (hk : k = w.heap.size) : Own (w.alloc (.cells #[] 5)) (.slice (some ⟨k, 0, none⟩) 0 0) [] := by
  subst hk
  exact ⟨rfl, .inr ⟨w.heap.size, 0, #[], rfl, Nat.zero_le _, heap_alloc_new w _, Nat.le_refl _, by simp [maxLen], rfl, rfl⟩⟩
theorem one_atO (w : World) (x : UInt8) (v : Value) (hv : v = by1 x) (k : Nat) (hk : k = w.heap.size) : AtO (w.alloc (.cells #[v] 5)) (some ⟨k, 0, none⟩) [x] := by
  subst hv; subst hk
  intro j y hj
  have hlt := (List.getElem?_eq_some_iff.1 hj).1
  simp at hlt
  subst hlt
  simp at hj
  subst hj
  refine ⟨w.heap.size, 0, rfl, ?_⟩
  simp
/-- how many zeros fill up -/
def zf (n : Nat) : Nat := (119 - n % 64) % 64
theorem zf_lt (n : Nat) : zf n < 64 := Nat.mod_lt _ (by decide)
theorem be8_take (v j : Nat) (h : j < 8) : (be8 v).take (j + 1) = (be8 v).take j ++ [UInt8.ofNat (v / 256 ^ (7 - j))] := by
  rw [List.take_add_one, be8_at v j h]
  rfl
theorem high_grew {B : Nat} {w w' : World} {v v' : Value} (hg : Grew w w' v v') (hl : B ≤ w.heap.size) (hv : ∀ g, v.ownBlock = some g → B ≤ g) : ∀ g, v'.ownBlock = some g → B ≤ g := fun g e => by
  rcases hg.lies with h | ⟨g', h, hg'⟩
  · exact hv g (h ▸ e)
  · rw [h] at e; injection e with e; omega
/-- what a loop of appends keeps: the row, its place, and the old memory -/
def Out (w0 : World) (w : World) (v : Value) (xs : List UInt8) : Prop := Own w v xs ∧ (∀ g, v.ownBlock = some g → w0.heap.size ≤ g) ∧ Below w0.heap.size w0 w
theorem Out.step {w0 w w' : World} {v v' : Value} {xs ys : List UInt8} (h : Out w0 w v xs) (o : Obj) (ho : Own w' v' ys) (hg : Grew (w.alloc o) w' v v') : Out w0 w' v' ys := by
  have hB := h.2.2.alloc h.2.2.size o
  exact ⟨ho, high_grew hg hB.size h.2.1, hB.grown hg.grown hB.size h.2.1⟩
theorem Out.step0 {w0 w w' : World} {v v' : Value} {xs ys : List UInt8} (h : Out w0 w v xs) (ho : Own w' v' ys) (hg : Grew w w' v v') : Out w0 w' v' ys :=
  ⟨ho, high_grew hg h.2.2.size h.2.1, h.2.2.grown hg.grown h.2.2.size h.2.1⟩
theorem Out.zero (w : World) (k : Nat) (hk : k = w.heap.size) : Out w (w.alloc (.cells #[] 5)) (.slice (some ⟨k, 0, none⟩) 0 0) [] :=
  ⟨Own.empty w k hk, fun g e => by injection e with e; have : k = g := e; omega, (Below.refl _ _).alloc (Nat.le_refl _) _⟩
theorem Out.form {w0 w : World} {v : Value} {xs : List UInt8} (h : Out w0 w v xs) : ∃ A c, v = .slice A xs.length c := h.1.form

set_option maxRecDepth 100000 in
set_option maxHeartbeats 2000000 in
theorem rpadded_any (bs : List UInt8) (n : Nat) (hn : bs.length = n) (hb : n ≤ 100000000000) (A : Option Addr) (c : Nat) (w : World) (h : AtO w A bs) :
    Calls Tryd.prog 101 #[.slice A n c] w (Fresh (pad bs) w) := by
  have hpad : Hid (pad bs = bs ++ 0x80 :: (List.replicate (zf n) 0 ++ be8 (8 * n))) := Lib.hid (by rw [pad, hn]; rfl)
  have hz := zf_lt n
  have hzz : (n + 1 + zf n) % 64 = 56 := by unfold zf; omega
  have hzn : ∀ k, k < zf n → ¬ (n + 1 + k) % 64 = 56 := by intro k hk; unfold zf at hk; omega
  replace hzn := Lib.hid hzn
  replace hzz := Lib.hid hzz
  replace hn := Lib.hid hn
  generalize zf n = Z at *
  unfold Fresh
  have h2 : Hid (∀ o, AtO (w.alloc o) A bs) := Lib.hid fun o => h.below ((Below.refl _ _).alloc (Nat.le_refl _) o)
  clear h
  go_enter Tryd.func101, Tryd.ntmps101
  go_wp2_with (first
    | (at_builtin; refine wpList_appO _ (by rfl) (.tmp 6) (.tmp 7) (by rfl) _ [] A n c bs (by rfl) (by rfl) (Own.empty w _ rfl) hn.out (h2.out _) (by simp; omega) ?_; intro v2 w2 ho2 hg2)
    | (at_builtin; refine wpList_appO _ (by rfl) (.tmp 8) (.tmp 9) (by rfl) _ ([] ++ bs) (some ⟨_, 0, none⟩) 1 1 [0x80] (by rfl) (by rfl) (ho2.alloc _) (by rfl) (one_atO _ _ _ (by rfl) _ (by rfl)) (by simp [hn.out]; omega) ?_; intro v3 w3 ho3 hg3))
  have hO : Out w w3 v3 (bs ++ 0x80 :: List.replicate 0 0) := ((Out.zero w _ rfl).step0 ho2 hg2).step _ ho3 hg3
  clear ho2 hg2 ho3 hg3 h2
  go_loopw [3] (fun s3 wr => ∃ k : Nat, k ≤ Z ∧ Out w wr s3 (bs ++ 0x80 :: List.replicate k 0)) (fun s3 _ => n + 1 + Z - lenV s3)
  case atStart => exact ⟨0, by omega, hO⟩
  case round =>
    clear hO
    obtain ⟨k, hk, hO⟩ := hrel
    obtain ⟨A1, c1, rfl⟩ := hO.form
    have hlen : (bs ++ 0x80 :: List.replicate k 0).length = n + 1 + k := by simp [hn.out]; omega
    rw [hlen] at hO ⊢
    by_cases hkz : k < Z
    · have hne := hzn.out k hkz
      have hml : ((n + 1 + k : Nat) : Int) % 64 = ((n + 1 + k) % 64 : Nat) := by omega
      have hm : ((((n + 1 + k : Nat) : Int) % 64) != 56) = true := by
        rw [hml]; simp; omega
      have hown := Lib.hid hO.1
      clear hml hne
      replace hlen := Lib.hid hlen
      replace hO := Lib.hid hO
      go_wp2_with (at_builtin; refine wpList_appO _ (by rfl) (.tmp 15) (.tmp 16) (by rfl) _ (bs ++ 0x80 :: List.replicate k 0) (some ⟨_, 0, none⟩) 1 1 [0] (by rfl) (by rfl) (hown.out.alloc _) (by rfl) (one_atO _ _ _ (by rfl) _ (by rfl)) (by rw [hlen.out]; omega) ?_; intro v4 w4 ho4 hg4; replace ho4 := Lib.hid ho4)
      have hO4 : Out w w4 v4 (bs ++ 0x80 :: List.replicate (k + 1) 0) := by
        have := hO.out.step _ ho4.out hg4
        rw [List.append_assoc, List.cons_append, ← List.replicate_succ'] at this
        exact this
      clear hg4 ho4 hO hown
      replace hO4 := Lib.hid hO4
      go_roundw
      case rel => exact ⟨k + 1, by omega, hO4.out⟩
      case measure =>
        obtain ⟨A5, c5, h5⟩ := hO4.out.form
        subst h5
        simp [lenV, hn.out]
        omega
    · have hkz2 : k = Z := by omega
      rw [hkz2] at hO hlen ⊢
      clear hkz2 hkz hk
      have hm : ((((n + 1 + Z : Nat) : Int) % 64) != 56) = false := by
        have e : ((n + 1 + Z : Nat) : Int) % 64 = 56 := by have := hzz.out; omega
        rw [e]; rfl
      replace hlen := Lib.hid hlen
      replace hO := Lib.hid hO
      have hw8 : IntKind.u64.wrap ((n : Int) * 8) = ((8 * n : Nat) : Int) := by simp [IntKind.wrap, IntKind.bits, IntKind.signed]; omega
      have hwn : IntKind.u64.wrap (n : Int) = (n : Int) := by simp [IntKind.wrap, IntKind.bits, IntKind.signed]; omega
      have hV : 8 * n < 18446744073709551616 := by omega
      have hbe : Hid (∀ j, j < 8 → (be8 (8 * n)).take (j + 1) = (be8 (8 * n)).take j ++ [UInt8.ofNat (8 * n / 256 ^ (7 - j))]) := Lib.hid fun j hj => be8_take (8 * n) j hj
      have hall : Hid ((be8 (8 * n)).take 8 = be8 (8 * n)) := Lib.hid (List.take_of_length_le (by rw [be8_len]; omega))
      have htl : Hid (∀ j, j ≤ 8 → ((be8 (8 * n)).take j).length = j) := Lib.hid fun j hj => by rw [List.length_take, be8_len]; omega
      generalize hVe : 8 * n = V at *
      replace hVe := Lib.hid hVe
      go_wp2_with fail
      have hm2 : ((((n : Int) + 1 + (Z : Int)) % 64) != 56) = false := by
        have e : ((n : Int) + 1 + (Z : Int)) % 64 = 56 := by have := hzz.out; omega
        rw [e]; rfl
      rw [hm2]
      clear hm hm2 hw8 hwn
      go_loopw [3, 5] (fun s3 s5 w5 => ∃ (j : Nat) (q : Int), j ≤ 8 ∧ Hid (q = 7 - (j : Int)) ∧ s5 = .int .i64 q ∧ Out w w5 s3 ((bs ++ 0x80 :: List.replicate Z 0) ++ (be8 V).take j)) (fun s3 s5 _ => (1 + intOf s5).toNat)
      case atStart => exact ⟨0, 7, by omega, Lib.hid (by omega), rfl, by simpa using hO.out⟩
      case round =>
        clear hO
        obtain ⟨j, q, hj, hq, rfl, hO⟩ := hrel
        obtain ⟨A5, c5, rfl⟩ := hO.form
        have hlen5 : ((bs ++ 0x80 :: List.replicate Z 0) ++ (be8 V).take j).length = n + 1 + Z + j := by rw [List.length_append, hlen.out, htl.out j hj]
        by_cases hj8 : j < 8
        · have hval := putI_val V (7 - j)
          have hown := Lib.hid hO.1
          have hsn := Lib.hid (hbe.out j hj8)
          generalize hy : UInt8.ofNat (V / 256 ^ (7 - j)) = y at *
          obtain rfl : q = ((7 - j : Nat) : Int) := by have := hq.out; omega
          have hd : (7 - j) + 1 = 8 - j := by omega
          generalize h7 : 7 - j = i at *
          have hi7 : i < 8 := by omega
          have T3 : (8 * (i : Int)).toNat = 8 * i := by omega
          have G2 : (0 : Int) ≤ 8 * (i : Int) := by omega
          have G3 : 8 * (i : Int) < 64 := by omega
          have G4 : 8 * i < 64 := by omega
          have W3 : IntKind.i64.wrap (8 * (i : Int)) = 8 * (i : Int) := IntWalk.i64_in _ (by omega)
          have G5 : (0 : Int) ≤ (i : Int) := by omega
          replace hlen5 := Lib.hid hlen5
          replace hO := Lib.hid hO
          replace h7 := Lib.hid h7
          replace hd := Lib.hid hd
          clear hy
          go_wp2_with (at_builtin; refine wpList_appO _ (by rfl) (.tmp 26) (.tmp 32) (by rfl) _ ((bs ++ 0x80 :: List.replicate Z 0) ++ (be8 V).take j) (some ⟨_, 0, none⟩) 1 1 [y] (by rfl) (by rfl) (hown.out.alloc _) (by rfl) (one_atO _ _ _ (by rfl) _ (by rfl)) (by rw [hlen5.out]; omega) ?_; intro v6 w6 ho6 hg6; replace ho6 := Lib.hid ho6)
          have hO6 : Out w w6 v6 ((bs ++ 0x80 :: List.replicate Z 0) ++ (be8 V).take (j + 1)) := by
            have := hO.out.step _ ho6.out hg6
            rw [List.append_assoc, ← hsn.out] at this
            exact this
          clear hg6 ho6 hO hown
          replace hO6 := Lib.hid hO6
          go_roundw
          case rel => exact ⟨j + 1, (i : Int) - 1, by omega, Lib.hid (by have := h7.out; omega), rfl, hO6.out⟩
          case measure => simp [intOf]; omega
        · have hje : j = 8 := by omega
          obtain rfl : q = -1 := by have := hq.out; omega
          rw [hje] at hO ⊢
          clear hje hj8 hj hq
          replace hO := Lib.hid hO
          go_wp2_with fail
          go_ret
          have h9 := hO.out
          refine ⟨_, rfl, ?_, h9.2.1, h9.2.2⟩
          have el : bs ++ 0x80 :: (List.replicate Z 0 ++ be8 V) = (bs ++ 0x80 :: List.replicate Z 0) ++ (be8 V).take 8 := by rw [hall.out]; simp
          rw [hpad.out, el]
          exact h9.1
end Go.Proofs.YtnccbhndlnkboaaDoor
/- The walk of the reference's Sum. -/
namespace Go.Proofs.YtnccbhndlnkboaaDoor
open Go.RowKit Sha Cdc
set_option linter.unusedVariables false
set_option linter.unusedSimpArgs false

theorem stV_one (s : St) : (stV s).all (·.oneCell') = true := by simp [stV, Value.oneCell']
theorem stV_info (s : St) : (Tryd.prog.info? 135).map (·.size) = some (stV s).size := by
  have h : (Tryd.prog.info? 135).map (·.size) = some 8 := by kernel_rfl
  rw [h]; rfl
theorem pad_len (bs : List UInt8) : ∃ k, (pad bs).length = 64 * k ∧ 64 * k ≤ bs.length + 200 := by
  have h : (pad bs).length = bs.length + 1 + (119 - bs.length % 64) % 64 + 8 := by simp [pad, be8]; omega
  exact ⟨(bs.length + 72) / 64, by omega, by omega⟩
/-- byte i of a digest out of the state's words -/
theorem out_at (s : St) (i : Nat) (hi : i < 32) : (out s)[i]? = some (UInt8.ofNat (((stL s).getD (i / 4) 0).toNat / 256 ^ (3 - i % 4))) := by
  obtain ⟨v, hv⟩ : ∃ v, (stL s)[i / 4]? = some v := ⟨_, List.getElem?_eq_getElem (by simp; omega)⟩
  have h := flat4 (stL s) (i / 4) (i % 4) v hv (by omega)
  rw [show 4 * (i / 4) + i % 4 = i by omega] at h
  rw [out_flat, h, List.getD_eq_getElem?_getD, hv]
  rfl
/-- a digest of which i bytes have been written -/
def outB (s : St) (i : Nat) : List UInt8 := (out s).take i ++ List.replicate (32 - i) 0
theorem outB_len (s : St) (i : Nat) (h : i ≤ 32) : (outB s i).length = 32 := by simp [outB, out_len]; omega
theorem outB_all (s : St) : outB s 32 = out s := by
  rw [outB, List.take_of_length_le (by rw [out_len]; omega)]
  simp
theorem outB_set (s : St) (i : Nat) (y : UInt8) (hi : i < 32) (hy : (out s)[i]? = some y) : (outB s i).set i y = outB s (i + 1) := by
  have e : 32 - i = (32 - (i + 1)) + 1 := by omega
  have hl : ((out s).take i).length = i := by rw [List.length_take, out_len]; omega
  unfold outB
  rw [e, List.replicate_succ, List.set_append_right _ _ (by omega), hl, Nat.sub_self, List.take_add_one, hy]
  simp

theorem below_grown {w w' : World} (h : Below w.heap.size w w') (r : Option Nat) : w.grownBy w' r := ⟨h.os, h.tape, h.output, h.size, fun i hi _ => h.block i hi⟩

set_option maxRecDepth 100000 in
set_option maxHeartbeats 4000000 in
theorem rsum_dg (bs : List UInt8) (n : Nat) (hn : bs.length = n) (hb : n ≤ 100000000000) (A : Option Addr) (c : Nat) (w : World) (h : AtO w A bs) :
    Calls Tryd.prog 85 #[.slice A n c] w fun e w' => e = .returned (.agg (dg (sha bs))) ∧ Below w.heap.size w w' := by
  obtain ⟨K9, hpl, hpb⟩ := pad_len bs
  rw [hn] at hpb
  have hsha : Hid (sha bs = out (blocks init (pad bs) K9)) := Lib.hid (by rw [sha, hpl]; congr 2; omega)
  replace h := Lib.hid h
  replace hn := Lib.hid hn
  have hpd : Hid (∀ W, AtO W A bs → Calls Tryd.prog 101 #[.slice A n c] W (Fresh (pad bs) W)) := Lib.hid fun W hW => rpadded_any bs n hn.out hb A c W hW
  go_enter Tryd.func85, Tryd.ntmps85
  go_wp2_with (refine wpList_new_row' (by rfl) 135 (.tmp 3) (.tmp 8) (by rfl) (by rfl) (stV init) _ (by rfl) (by simp) (by rfl) 135 _ (stV_info init) (by rfl) (stV_one init) ?_; intro w2 h2 hz2 hB2; replace h2 := Lib.hid h2)
  have hBw : Below w.heap.size w w2 := ((Below.refl _ w).alloc (Nat.le_refl _) _).trans (hB2.mono (by omega))
  have hr2 := (hB2.block w.heap.size (by omega)).trans (heap_alloc_new w _)
  refine (hpd.out w2 (h.out.below hBw)).mono ?_
  unfold Fresh
  rintro e w3 ⟨v3, rfl, ho3, hh3, hB3⟩
  obtain ⟨A3, c3, rfl⟩ := ho3.form
  have hcap := ho3.cap
  rw [hpl] at hcap ⊢
  have hat3 := ho3.atO
  have hs3 := (hB3.block (w.heap.size + 1) (by omega)).trans h2.out
  have hr3 := (hB3.block w.heap.size (by omega)).trans hr2
  have hBw3 : Below w.heap.size w w3 := hBw.trans (hB3.mono hBw.size)
  have hlt3 : Hid (∀ g o, A3 = some ⟨g, o, none⟩ → w.heap.size + 2 ≤ g) := Lib.hid (by
    intro g o e
    have := hh3 g (by rw [e]; rfl)
    omega)
  have hsz3 : w.heap.size + 2 ≤ w3.heap.size := by have := hB3.size; omega
  clear hpd hr2 hB2 hB3 hh3 ho3 hBw h2
  replace hat3 := Lib.hid hat3
  replace hr3 := Lib.hid hr3
  replace hs3 := Lib.hid hs3
  replace hBw3 := Lib.hid hBw3
  go_wp2_with fail
  go_loopw [5] (fun s5 wr => ∃ (j q : Nat), j ≤ K9 ∧ Hid (q = 64 * j) ∧ s5 = .int .i64 (q : Int) ∧ wr.heap[w.heap.size + 1]? = some (.cells (stV (blocks init (pad bs) j)) 135 (0, 0)) ∧ w3.grownBy wr (some (w.heap.size + 1))) (fun s5 _ => 64 * K9 - (intOf s5).toNat)
  case atStart => exact ⟨0, 0, by omega, Lib.hid (by omega), rfl, hs3.out, World.grownBy.refl _ _⟩
  case round =>
    obtain ⟨j, q, hj, hq, rfl, hs, hg⟩ := hrel
    by_cases hjt : j < K9
    · obtain ⟨g, o, hA, hAt3⟩ := hat3.out.some (by rw [hpl]; omega)
      have hgl := hlt3.out g o hA
      have hgw : g < w3.heap.size := World.block_lt_of_cell? w3 ⟨g, o + 0, none⟩ (hAt3 0 _ (List.getElem?_eq_getElem (by rw [hpl]; omega)))
      have hq2 := hq.out
      have hAtw : At wr g (o + q) (((pad bs).drop q).take 64) := ((hAt3.keep (hg.block g hgw (by intro e; injection e with e; omega))).drop q).take 64
      have hlb : (((pad bs).drop q).take 64).length = 64 := by rw [List.length_take, List.length_drop, hpl]; omega
      have hnx : Hid (comp (blocks init (pad bs) j) (((pad bs).drop q).take 64) = blocks init (pad bs) (j + 1)) := Lib.hid (by rw [hq2, blocks])
      obtain ⟨⟨p0, p1, p2, p3⟩, p4, p5, p6, p7⟩ := cells8 hs
      have T1 : ((q : Int) + 64).toNat - q = 64 := by omega
      have hqb : q + 64 ≤ 64 * K9 := by omega
      have hqi : (q : Int) + 64 ≤ ((64 * K9 : Nat) : Int) := by omega
      have W1 : IntKind.i64.wrap ((q : Int) + 64) = (q : Int) + 64 := IntWalk.i64_in _ (by omega)
      have G1 : (0 : Int) ≤ (q : Int) := by omega
      have hcq : q ≤ c3 := by omega
      have hcq2 : q + 64 ≤ c3 := by omega
      generalize hst : blocks init (pad bs) j = st at *
      replace hst := Lib.hid hst
      replace hs := Lib.hid hs
      replace hAtw := Lib.hid hAtw
      replace hlb := Lib.hid hlb
      replace hq := Lib.hid hq2
      have hKb : Hid (64 * K9 ≤ n + 200) := Lib.hid hpb
      clear hq2
      subst hA
      go_wp2_with fail
      refine wp_region_quiet_tail 6 (by kernel_rfl) (by kernel_rfl) ?_
      simp only [List.take_succ_cons, List.take_zero, List.drop_succ_cons, List.drop_zero]
      repeat (go_big_quiet_step (fail))
      refine wpQuiet_nil ?_
      intro _ hw'
      obtain ⟨nq, hw''⟩ := hw'
      subst hw''
      go_wp2_with fail
      refine (rblock_any st (((pad bs).drop q).take 64) hlb.out g (o + q) (c3 - q) (wr.drewN nq) (hAtw.out.keep rfl) (by omega) (by omega)).mono ?_
      rintro e w5 ⟨rfl, hB5⟩
      rw [hnx.out]
      have hs5 := (hB5.block (w.heap.size + 1) (Array.getElem?_eq_some_iff.1 hs.out).1).trans hs.out
      have hg5 : w3.grownBy w5 (some (w.heap.size + 1)) := Lib.grownBy_trans (Lib.grownBy_trans hg ⟨rfl, rfl, rfl, Nat.le_refl _, fun _ _ _ => rfl⟩) (show wr.grownBy w5 _ from ⟨hB5.os, hB5.tape, hB5.output, hB5.size, fun i hi _ => hB5.block i hi⟩)
      generalize hst2 : blocks init (pad bs) (j + 1) = st2 at *
      replace hst2 := Lib.hid hst2
      replace hs5 := Lib.hid hs5
      have hone := Lib.hid (stV_one st2)
      have hinf := Lib.hid (stV_info st2)
      have hsz8 : Hid ((stV st).size = (stV st2).size) := Lib.hid ((stV_size st).trans (stV_size st2).symm)
      clear hB5 hg p0 p1 p2 p3 p4 p5 p6 p7
      go_wp2_with (refine wpList_set_row (by rfl) 135 (.tmp 3) (.tmp 23) (by rfl) (by rfl) (w.heap.size + 1) (stV st2) (by rfl) (by rfl) 135 (stV st) hs5.out hinf.out hsz8.out hone.out ?_; intro w6 hd6 hz6 hg6; replace hd6 := Lib.hid hd6)
      go_roundw
      case rel => exact ⟨j + 1, q + 64, by omega, Lib.hid (by have := hq.out; omega), by go_num, by rw [hst2.out]; exact hd6.out, Lib.grownBy_trans hg5 hg6⟩
      case measure => simp [intOf]; have := hq.out; omega
    · have hje : j = K9 := by omega
      have hq2 := hq.out
      rw [hje] at hs hq2
      clear hje hjt hj
      subst hq2
      have hr5 : wr.heap[w.heap.size]? = _ := (hg.block w.heap.size (Array.getElem?_eq_some_iff.1 hr3.out).1 (by intro e; injection e with e; omega)).trans hr3.out
      have hBw5 : Below w.heap.size w wr := hBw3.out.grown hg (by omega) (fun k e => by injection e with e; omega)
      replace hs := Lib.hid hs
      replace hr5 := Lib.hid hr5
      have hszr : w.heap.size + 2 ≤ wr.heap.size := by have := hg.size; omega
      clear hg hBw3 hs3 hr3 hat3 hlt3 hq
      generalize blocks init (pad bs) K9 = st at *
      have hz32 : Hid (32 = (dg (List.replicate 32 0)).size) := Lib.hid (by rw [dg_size, List.length_replicate])
      have hi32 := Lib.hid (dg_info (List.replicate 32 0) (by rw [List.length_replicate]))
      have ho32 := Lib.hid (dg_one (List.replicate 32 0))
      go_wp2_with (refine wpList_new_row (by rfl) 23 (.tmp 6) (.tmp 24) (by rfl) (by rfl) (dg (List.replicate 32 0)) (by rfl) (by rfl) 23 _ hi32.out hz32.out ho32.out ?_; intro w7 hd7 hz7 hB7; replace hd7 := Lib.hid hd7; replace hz7 := Lib.hid hz7)
      have hs7 := (hB7.block (w.heap.size + 1) (by omega)).trans hs.out
      have hr7 := (hB7.block w.heap.size (by omega)).trans hr5.out
      have hBw7 := hBw5.trans (hB7.mono (by omega))
      have hd0 : w7.heap[wr.heap.size]? = some (.cells (dg (outB st 0)) 23 (0, 0)) := hd7.out
      clear hd7 hs hr5 hBw5 hB7
      generalize hdb : wr.heap.size = db at *
      replace hdb := Lib.hid hdb
      replace hd0 := Lib.hid hd0
      replace hs7 := Lib.hid hs7
      replace hr7 := Lib.hid hr7
      go_loopw [7] (fun s7 w8 => ∃ i : Nat, i ≤ 32 ∧ s7 = .int .i64 (i : Int) ∧ w8.heap[db]? = some (.cells (dg (outB st i)) 23 (0, 0)) ∧ w7.grownBy w8 (some db)) (fun s7 _ => 32 - (intOf s7).toNat)
      case atStart => exact ⟨0, by omega, rfl, hd0.out, World.grownBy.refl _ _⟩
      case round =>
        clear hd0
        obtain ⟨i, hi, rfl, hd, hg⟩ := hrel
        by_cases hi32 : i < 32
        · have hs8 := (hg.block (w.heap.size + 1) (Array.getElem?_eq_some_iff.1 hs7.out).1 (by intro e; injection e with e; omega)).trans hs7.out
          obtain ⟨v, hv⟩ : ∃ v, (stL st)[i / 4]? = some v := ⟨_, List.getElem?_eq_getElem (by simp; omega)⟩
          have cv := cellL (l := stL st) (t := 135) hs8 hv
          have hoa := out_at st i hi32
          rw [List.getD_eq_getElem?_getD, hv, Option.getD_some] at hoa
          have hset := outB_set st i _ hi32 hoa
          obtain ⟨y0, hy0⟩ : ∃ y, (outB st i)[i]? = some y := ⟨_, List.getElem?_eq_getElem (by rw [outB_len st i hi]; omega)⟩
          have cd := rowAt hd hy0
          have cf := frozen_of_row wr db i _ _ hd
          have hval := putI_val v.toNat (3 - i % 4)
          generalize hyy : UInt8.ofNat (v.toNat / 256 ^ (3 - i % 4)) = y at *
          have hm4 : (i : Int) % 4 = ((i % 4 : Nat) : Int) := by omega
          have hd4 : (i : Int) / 4 = ((i / 4 : Nat) : Int) := by omega
          have hml : i % 4 < 4 := by omega
          have hdl : i / 4 < 8 := by omega
          have T1 : (24 - 8 * ((i % 4 : Nat) : Int)).toNat = 8 * (3 - i % 4) := by omega
          have W1 : IntKind.i64.wrap (8 * ((i % 4 : Nat) : Int)) = 8 * ((i % 4 : Nat) : Int) := IntWalk.i64_in _ (by omega)
          have W2 : IntKind.i64.wrap (24 - 8 * ((i % 4 : Nat) : Int)) = 24 - 8 * ((i % 4 : Nat) : Int) := IntWalk.i64_in _ (by omega)
          have G1 : (0 : Int) ≤ 24 - 8 * ((i % 4 : Nat) : Int) := by omega
          have G2 : (24 - 8 * ((i % 4 : Nat) : Int)) < 32 := by omega
          have G3 : 8 * (3 - i % 4) < 32 := by omega
          have G5 : 8 * ((i % 4 : Nat) : Int) ≤ 24 := by omega
          generalize i % 4 = m at *
          generalize i / 4 = d at *
          replace hset := Lib.hid hset
          replace hd := Lib.hid hd
          have hvl := v.isLt
          clear hoa hyy hv hy0 hs8
          go_wp2_with fail
          go_roundw
          case rel =>
            have h1 := heap_setCell_same wr db i _ _ (by1 y) hd.out
            refine ⟨i + 1, by omega, by go_num, ?_, Lib.grownBy_setB hg _ _⟩
            rw [← hset.out]
            refine Eq.trans h1 ?_
            simp [dg]
          case measure => simp [intOf]; omega
        · have h8 : wr.heap[db]? = some (.cells (dg (out st)) 23 (0, 0)) := by
            have e : i = 32 := by omega
            rw [hd, e, outB_all]
          have hr8 := (hg.block w.heap.size (Array.getElem?_eq_some_iff.1 hr7.out).1 (by intro e; injection e with e; omega)).trans hr7.out
          have hBwr : Below w.heap.size w wr := hBw7.grown hg (by have := hBw7.size; omega) (fun k e => by injection e with e; omega)
          have hi9 := Lib.hid (dg_info (out st) rfl)
          have ho9 := Lib.hid (dg_one (out st))
          have hz9 : Hid (32 = (dg (out st)).size) := Lib.hid (by rw [dg_size]; rfl)
          replace hr8 := Lib.hid hr8
          clear hd
          have hl8 := Lib.hid h8
          clear h8
          go_wp2_with (first | refine wpList_load_row (by rfl) 23 (.tmp 6) (by rfl) db (by rfl) 23 (dg (out st)) (0, 0) _ hl8.out Tryd.underlying23 (by rfl) hi9.out ?_ | (refine wpList_set_row (by rfl) 23 (.tmp 2) (.tmp 41) (by rfl) (by rfl) w.heap.size (dg (out st)) (by rfl) (by rfl) 23 _ hr8.out hi9.out hz9.out ho9.out ?_; intro w9 hd9 hz9 hg9; replace hd9 := Lib.hid hd9))
          refine bodyPost_ret (v := .agg (dg (out st))) (results_cell_row rfl _ _ w.heap.size 23 (dg (out st)) (0, 0) _ rfl hd9.out Tryd.underlying23 (by rfl) hi9.out) rfl ⟨by rw [hsha.out], ?_⟩
          exact hBwr.grown hg9 (by have := hBwr.size; omega) (fun k e => by injection e with e; omega)
end Go.Proofs.YtnccbhndlnkboaaDoor
/- The walks of the reference's Tagged. -/
namespace Go.Proofs.YtnccbhndlnkboaaDoor
open Go.RowKit Sha Cdc
set_option linter.unusedVariables false
set_option linter.unusedSimpArgs false

set_option maxRecDepth 100000 in
set_option maxHeartbeats 2000000 in
theorem rtagged_any (tag : ByteArray) (ht : tag.size ≤ 1000000000) (bs : List UInt8) (n : Nat) (hn : bs.length = n) (hb : n ≤ 10000000000) (A : Option Addr) (c : Nat) (w : World) (h : AtO w A bs) :
    Calls Tryd.prog 65 #[.string tag, .slice A n c] w fun e w' => e = .returned (.agg (dg (tgd tag.data.toList bs))) ∧ Below w.heap.size w w' := by
  have hconv := fun W => Lib.run_convert_string_bytes (P := Tryd.prog) W 9 48 5 tag Tryd.underlying9 Tryd.underlying48 Tryd.underlying5
  have hlen : Hid (tag.data.toList.length = tag.size) := Lib.hid (Array.length_toList ..)
  replace hn := Lib.hid hn
  replace h := Lib.hid h
  have key : Hid (∀ (W0 : World) (k : Nat), k = W0.heap.size → Below w.heap.size w W0 → Calls Tryd.prog 85 #[.slice (some ⟨k, 0, none⟩) tag.size (grownCap W0 tag.size 0 5)] (Lib.bytesWorld W0 5 tag)
      fun e w' => e = .returned (.agg (dg (sha tag.data.toList))) ∧ Below w.heap.size w w' ∧ ∀ j, j < W0.heap.size → w'.heap[j]? = W0.heap[j]?) := Lib.hid (by
    intro W0 k hk hB0
    have hB1 := bytesW_below tag hB0 hB0.size
    have hsz := Lib.bytesWorld_size W0 5 tag
    refine (rsum_dg tag.data.toList tag.size hlen.out (by omega) (some ⟨k, 0, none⟩) _ _ (bytesW_at W0 tag k hk)).mono ?_
    rintro e w' ⟨rfl, hb⟩
    exact ⟨rfl, hB1.trans (hb.mono hB1.size), fun j hj => (hb.block j (by omega)).trans (Lib.bytesWorld_at_old W0 _ tag j hj)⟩)
  have hz0 : Hid (∀ w : World, (w.alloc (.cells ((List.replicate 32 (0 : UInt8)).map by1).toArray 23)).heap[w.heap.size]? = some (.cells ((List.replicate 32 (0 : UInt8)).map by1).toArray 23 (0, 0))) := Lib.hid fun w => heap_alloc_new w _
  go_enter Tryd.func65, Tryd.ntmps65
  go_wp2_with fail
  refine (key.out _ _ (by simp) ((Below.refl _ _).alloc (Nat.le_refl _) _)).mono ?_
  rintro e w2 ⟨rfl, hB2, hk2⟩
  have hd2 := (hk2 w.heap.size (by simp)).trans (hz0.out w)
  clear hk2 hconv key hz0
  replace hd2 := Lib.hid hd2
  have hi2 := Lib.hid (dg_info _ (sha_len tag.data.toList))
  have ho2 := Lib.hid (dg_one (sha tag.data.toList))
  have hs2 := Lib.hid (dg_size (sha tag.data.toList))
  generalize hD : sha tag.data.toList = t at *
  replace hD := Lib.hid hD
  have hr3 : Hid (32 = (dg t).size) := Lib.hid (by rw [hs2.out, ← hD.out, sha_len])
  have htl : Hid (t.length = 32) := Lib.hid (by rw [← hs2.out, ← hr3.out])
  go_wp2_with (first
    | (refine wpList_new_row (by rfl) 23 (.tmp 5) (.tmp 8) (by rfl) (by rfl) (dg t) (by rfl) (by rfl) 23 _ hi2 hr3 ho2 ?_; intro w3 hd3 hz3 hB3; have hBB : Below w.heap.size w w3 := hB2.trans (hB3.mono hB2.size); have hat3 : Hid (∀ o, AtO (w3.alloc o) (some ⟨w2.heap.size, 0, none⟩) t) := Lib.hid (fun o => (dg_at hd3).below ((Below.refl _ _).alloc (Nat.le_refl _) o)); replace hd3 := Lib.hid hd3; replace hz3 := Lib.hid hz3)
    | (at_builtin; refine wpList_appO _ (by rfl) (.tmp 9) (.tmp 10) (by rfl) _ [] (some ⟨w2.heap.size, 0, none⟩) 32 32 t (by rfl) (by rfl) (Own.empty w3 _ rfl) htl.out (hat3.out _) (by simp) ?_; intro v4 w4 ho4 hg4; have hO4 : Out w3 w4 v4 ([] ++ t) := (Out.zero w3 _ rfl).step0 ho4 hg4; replace ho4 := Lib.hid ho4; have hbs4 : AtO w4 A bs := (h.out.below hBB).below hO4.2.2; replace hbs4 := Lib.hid hbs4)
    | (at_builtin; refine wpList_appO _ (by rfl) (.tmp 11) (.tmp 12) (by rfl) _ ([] ++ t) A n c bs (by rfl) (by rfl) ho4.out hn.out hbs4.out (by simp [htl.out]; omega) ?_; intro v5 w5 ho5 hg5; have hO5 := hO4.step0 ho5 hg5; obtain ⟨A5, c5, rfl⟩ := ho5.form; have ha5 := Lib.hid ho5.atO; have hl5 : Hid (([] ++ t ++ bs).length = 32 + n) := Lib.hid (by simp [htl.out, hn.out]); rw [hl5.out]; clear ho5 hg5))
  have hB40 : Below w.heap.size w w5 := hBB.trans (hO5.2.2.mono hBB.size)
  have hlt2 := (Array.getElem?_eq_some_iff.1 hd2.out).1
  have hd4 := (hO5.2.2.block w.heap.size (by have := hB3.size; omega)).trans ((hB3.block w.heap.size hlt2).trans hd2.out)
  replace hd4 := Lib.hid hd4
  rw [List.nil_append] at ha5 hl5
  refine (rsum_dg (t ++ bs) (32 + n) hl5.out (by omega) A5 c5 w5 ha5.out).mono ?_
  rintro e w6 ⟨rfl, hB6⟩
  have hi5 := Lib.hid (dg_info _ (sha_len (t ++ bs)))
  have ho5 := Lib.hid (dg_one (sha (t ++ bs)))
  have hd5 := (hB6.block w.heap.size ((Array.getElem?_eq_some_iff.1 hd4.out).1)).trans hd4.out
  have hB50 := hB40.trans (hB6.mono hB40.size)
  obtain rfl := hD.out
  have hD9 : Hid (sha (sha tag.data.toList ++ bs) = tgd tag.data.toList bs) := Lib.hid rfl
  rw [hD9.out] at hi5 ho5 ⊢
  have hr5 : Hid (32 = (dg (tgd tag.data.toList bs)).size) := Lib.hid (by rw [dg_size, tgd_len])
  generalize ht9 : tgd tag.data.toList bs = t9 at hi5 ho5 hr5 ⊢
  replace ht9 := Lib.hid ht9
  replace hd5 := Lib.hid hd5
  go_wp2_with (refine wpList_set_row (by rfl) 23 (.tmp 4) (.tmp 14) (by rfl) (by rfl) w.heap.size (dg t9) (by rfl) (by rfl) 23 _ hd5.out hi5.out hr5.out ho5.out ?_; intro w7 hd6 hz6 hg6; replace hd6 := Lib.hid hd6)
  refine bodyPost_ret (v := .agg (dg t9)) (results_cell_row rfl _ _ w.heap.size 23 (dg t9) (0, 0) _ rfl hd6.out Tryd.underlying23 (by rfl) hi5.out) rfl ⟨by rw [ht9.out], hB50.grown hg6 hB50.size (fun k e => by have := Option.some.inj e; omega)⟩
end Go.Proofs.YtnccbhndlnkboaaDoor
