/- The walk of digest's absorb. -/
import Derived.Test.YtnccbhndlnkboaaDoorShaA
import Derived.Laws.Rows
import Derived.Below
import Derived.LoopTactic
import Derived.StillTailTactics
import Derived.Laws.CopyOwn
import Derived.Lib.BufferOwn
import Derived.Deep.RegionLaw
namespace Go.Proofs.YtnccbhndlnkboaaDoor
open Go.RowKit Sha
set_option linter.unusedVariables false
set_option linter.unusedSimpArgs false

/-- a state's cells -/
abbrev stV (s : St) : Array Value := #[uv s.a, uv s.b, uv s.c, uv s.d, uv s.e, uv s.f, uv s.g, uv s.h]

/-- the block wb holds the words ws, from its head on -/
structure WB (w : World) (wb : Nat) (ws : List W) : Prop where
  len : ws.length ≤ 64
  cells : ∃ arr : Array Value, arr.size = 64 ∧ w.heap[wb]? = some (.cells arr 154 (0, 0)) ∧ ∀ (j : Nat) (x : W), ws[j]? = some x → arr[j]? = some (uv x)

theorem WB.cell {w : World} {wb : Nat} {ws : List W} (h : WB w wb ws) {j : Nat} {x : W} (hx : ws[j]? = some x) : w.cell? ⟨wb, j, none⟩ = some (uv x) := by
  obtain ⟨arr, _, hh, hc⟩ := h.cells
  simp [World.cell?, hh, hc j x hx]
theorem WB.any {w : World} {wb : Nat} {ws : List W} (h : WB w wb ws) {j : Nat} (hj : j < 64) : ∃ v, w.cell? ⟨wb, j, none⟩ = some v := by
  obtain ⟨arr, hs, hh, hc⟩ := h.cells
  exact ⟨arr[j], by simp [World.cell?, hh, hs, hj]⟩
theorem WB.frozen {w : World} {wb : Nat} {ws : List W} (h : WB w wb ws) (j : Nat) : w.frozen? ⟨wb, j, none⟩ = false := by
  obtain ⟨arr, hs, hh, hc⟩ := h.cells
  exact frozen_of_row w wb j _ _ hh
theorem WB.keep {w w' : World} {wb : Nat} {ws : List W} (h : WB w wb ws) (hk : w'.heap[wb]? = w.heap[wb]?) : WB w' wb ws := by
  obtain ⟨arr, hs, hh, hc⟩ := h.cells
  exact ⟨h.len, arr, hs, hk.trans hh, hc⟩
theorem WB.set {w : World} {wb : Nat} {ws : List W} (h : WB w wb ws) (t : Nat) (ht : ws.length = t) (h64 : t < 64) (x : W) : WB (w.setCell ⟨wb, t, none⟩ (uv x)) wb (ws ++ [x]) := by
  obtain ⟨arr, hs, hh, hc⟩ := h.cells
  refine ⟨by simp; omega, _, ?_, heap_setCell_same w wb t _ _ (uv x) hh, ?_⟩
  · simp [hs]
  · intro j y hj
    by_cases hjt : j < t
    · rw [List.getElem?_append_left (by omega)] at hj
      have hne : t ≠ j := by omega
      simp [Array.getElem?_setIfInBounds, hne, hc j y hj]
    · have hjl := (List.getElem?_eq_some_iff.1 hj).1
      simp at hjl
      have hje : j = t := by omega
      subst hje
      rw [List.getElem?_append_right (by omega), ht] at hj
      simp at hj
      subst hj
      simp [Array.getElem?_setIfInBounds, hs, h64]
theorem WB.new (w : World) (arr : Array Value) (h : arr.size = 64) : WB (w.alloc (.cells arr 154)) w.heap.size [] :=
  ⟨by simp, arr, h, heap_alloc_new w _, fun j x hx => by simp at hx⟩

theorem words_take (bs : List UInt8) (t : Nat) (ht : t < 16) : (words bs).take (t + 1) = (words bs).take t ++ [word ((bs.drop (4 * t)).take 4)] := by
  have hx : (words bs)[t]? = some (word ((bs.drop (4 * t)).take 4)) := by simp [words, ht]
  rw [List.take_add_one, hx]
  rfl
theorem sched_len (ws : List W) (n : Nat) : (sched ws n).length = ws.length + n := by
  induction n with
  | zero => rfl
  | succ n ih => simp only [sched, List.length_append, List.length_singleton, ih]; omega
theorem sched_more (bs : List UInt8) (t : Nat) (h1 : 16 ≤ t) (x16 x15 x7 x2 : W) (e16 : (sched (words bs) (t - 16))[t - 16]? = some x16) (e15 : (sched (words bs) (t - 16))[t - 15]? = some x15) (e7 : (sched (words bs) (t - 16))[t - 7]? = some x7)
    (e2 : (sched (words bs) (t - 16))[t - 2]? = some x2) : sched (words bs) (t + 1 - 16) = sched (words bs) (t - 16) ++ [x16 + s0 x15 + x7 + s1 x2] := by
  have hl : (sched (words bs) (t - 16)).length = t := by rw [sched_len]; simp [words]; omega
  have e : t + 1 - 16 = (t - 16) + 1 := by omega
  rw [e, sched]
  simp only [hl, List.getD_eq_getElem?_getD, e16, e15, e7, e2, Option.getD_some]
theorem cells8 {w : World} {g : Nat} {s : St} {t : TypeId} (h : w.heap[g]? = some (.cells (stV s) t (0, 0))) :
    (w.cell? ⟨g, 0, none⟩ = some (uv s.a) ∧ w.cell? ⟨g, 1, none⟩ = some (uv s.b) ∧ w.cell? ⟨g, 2, none⟩ = some (uv s.c) ∧ w.cell? ⟨g, 3, none⟩ = some (uv s.d)) ∧
    (w.cell? ⟨g, 4, none⟩ = some (uv s.e) ∧ w.cell? ⟨g, 5, none⟩ = some (uv s.f) ∧ w.cell? ⟨g, 6, none⟩ = some (uv s.g) ∧ w.cell? ⟨g, 7, none⟩ = some (uv s.h)) :=
  ⟨⟨by simp [World.cell?, h], by simp [World.cell?, h], by simp [World.cell?, h], by simp [World.cell?, h]⟩, by simp [World.cell?, h], by simp [World.cell?, h], by simp [World.cell?, h], by simp [World.cell?, h]⟩
theorem frozen8 {w : World} {g : Nat} {s : St} {t : TypeId} (h : w.heap[g]? = some (.cells (stV s) t (0, 0))) (j : Nat) : w.frozen? ⟨g, j, none⟩ = false := frozen_of_row w g j _ _ h
theorem src7 {w : World} {g : Nat} {s : St} {t : TypeId} (h : w.heap[g]? = some (.cells (stV s) t (0, 0))) : ∀ (j : Nat) (v : Value), [uv s.a, uv s.b, uv s.c, uv s.d, uv s.e, uv s.f, uv s.g][j]? = some v → w.cell? ((⟨g, 0, none⟩ : Addr).add j) = some v := by
  obtain ⟨⟨p0, p1, p2, p3⟩, p4, p5, p6, p7⟩ := cells8 h
  intro j v hj
  match j, hj with
  | 0, hj => simp at hj; subst hj; exact p0
  | 1, hj => simp at hj; subst hj; exact p1
  | 2, hj => simp at hj; subst hj; exact p2
  | 3, hj => simp at hj; subst hj; exact p3
  | 4, hj => simp at hj; subst hj; exact p4
  | 5, hj => simp at hj; subst hj; exact p5
  | 6, hj => simp at hj; subst hj; exact p6
  | n + 7, hj => simp at hj
theorem one7 (s : St) : ∀ v ∈ [uv s.a, uv s.b, uv s.c, uv s.d, uv s.e, uv s.f, uv s.g], v.oneCell' = true := by
  intro v hv
  simp only [List.mem_cons, List.not_mem_nil, or_false] at hv
  rcases hv with rfl | rfl | rfl | rfl | rfl | rfl | rfl <;> rfl
/-- a state's words -/
abbrev stL (s : St) : List W := [s.a, s.b, s.c, s.d, s.e, s.f, s.g, s.h]
/-- a state of which i words have been added to -/
def mixL (s x : St) (i : Nat) : List W := (List.zipWith (· + ·) (stL s) (stL x)).take i ++ (stL s).drop i
theorem mixL_len (s x : St) (i : Nat) (h : i ≤ 8) : (mixL s x i).length = 8 := by simp [mixL]; omega
theorem mixL_zero (s x : St) : mixL s x 0 = stL s := by simp [mixL]
theorem mixL_all (s x : St) : mixL s x 8 = stL (Sha.add s x) := by simp [mixL, Sha.add]
theorem mixL_at (s x : St) (i : Nat) (h : i < 8) : (mixL s x i)[i]? = (stL s)[i]? := by
  unfold mixL
  have hl : ((List.zipWith (· + ·) (stL s) (stL x)).take i).length = i := by simp; omega
  rw [List.getElem?_append_right (by omega), hl, Nat.sub_self, List.getElem?_drop, Nat.add_zero]
theorem mixL_set (s x : St) (i : Nat) (h : i < 8) (a b : W) (ha : (stL s)[i]? = some a) (hb : (stL x)[i]? = some b) : (mixL s x i).set i (a + b) = mixL s x (i + 1) := by
  have hz : (List.zipWith (· + ·) (stL s) (stL x))[i]? = some (a + b) := by rw [List.getElem?_zipWith, ha, hb]
  have hd : (stL s).drop i = a :: (stL s).drop (i + 1) := by
    have hl : i < (stL s).length := by simpa using h
    rw [List.drop_eq_getElem_cons hl]
    rw [List.getElem?_eq_getElem hl] at ha
    injection ha with ha
    rw [ha]
  have htl : ((List.zipWith (· + ·) (stL s) (stL x)).take i).length = i := by simp; omega
  unfold mixL
  rw [hd, List.take_add_one, hz, List.set_append_right _ _ (by omega), htl, Nat.sub_self]
  simp
theorem cellL {w : World} {g : Nat} {l : List W} {t : TypeId} (h : w.heap[g]? = some (.cells (l.map uv).toArray t (0, 0))) {j : Nat} {y : W} (hy : l[j]? = some y) : w.cell? ⟨g, j, none⟩ = some (uv y) := by
  simp [World.cell?, h, hy]
theorem add4 (a b c d : W) : ((a.toNat : Int) + (b.toNat : Int) + (c.toNat : Int) + (d.toNat : Int)) % 4294967296 = ((a + b + c + d).toNat : Int) := by
  rw [BitVec.toNat_add, BitVec.toNat_add, BitVec.toNat_add]
  have e : (2 : Nat) ^ 32 = 4294967296 := by decide
  rw [e]
  omega
theorem val_e (x : St) (kt wt : W) : ((x.d.toNat : Int) + ((x.h.toNat : Int) + ((S1 x.e).toNat : Int) + bits BinOp.xor IntKind.u32 (x.g.toNat : Int) (bits BinOp.and IntKind.u32 (x.e.toNat : Int) (bits BinOp.xor IntKind.u32 (x.f.toNat : Int) (x.g.toNat : Int))) + (kt.toNat : Int) + (wt.toNat : Int))) % 4294967296 =
    ((rnd x kt wt).e.toNat : Int) := by
  rw [w_xor, w_and, w_xor, ch_eq]
  show _ = ((x.d + (x.h + S1 x.e + ch x.e x.f x.g + kt + wt)).toNat : Int)
  rw [BitVec.toNat_add, BitVec.toNat_add, BitVec.toNat_add, BitVec.toNat_add, BitVec.toNat_add]
  have e : (2 : Nat) ^ 32 = 4294967296 := by decide
  rw [e]
  omega
theorem val_a (x : St) (kt wt : W) : ((x.h.toNat : Int) + ((S1 x.e).toNat : Int) + bits BinOp.xor IntKind.u32 (x.g.toNat : Int) (bits BinOp.and IntKind.u32 (x.e.toNat : Int) (bits BinOp.xor IntKind.u32 (x.f.toNat : Int) (x.g.toNat : Int))) + (kt.toNat : Int) + (wt.toNat : Int) +
    (((S0 x.a).toNat : Int) + bits BinOp.or IntKind.u32 (bits BinOp.and IntKind.u32 (x.a.toNat : Int) (x.b.toNat : Int)) (bits BinOp.and IntKind.u32 (x.c.toNat : Int) (bits BinOp.or IntKind.u32 (x.a.toNat : Int) (x.b.toNat : Int))))) % 4294967296 =
    ((rnd x kt wt).a.toNat : Int) := by
  rw [w_xor, w_and, w_xor, ch_eq, w_or, w_and, w_and, w_or, maj_eq]
  show _ = (((x.h + S1 x.e + ch x.e x.f x.g + kt + wt) + (S0 x.a + maj x.a x.b x.c)).toNat : Int)
  rw [BitVec.toNat_add, BitVec.toNat_add, BitVec.toNat_add, BitVec.toNat_add, BitVec.toNat_add, BitVec.toNat_add]
  have e : (2 : Nat) ^ 32 = 4294967296 := by decide
  rw [e]
  omega
theorem shr3 (x : W) : (x.toNat : Int) / (8 : Int) = ((x >>> 3).toNat : Int) := w_shr2 x 3
theorem shr10 (x : W) : (x.toNat : Int) / (1024 : Int) = ((x >>> 10).toNat : Int) := w_shr2 x 10
theorem sched_val (x16 x15 x7 x2 : W) : ((x16.toNat : Int) + bits BinOp.xor IntKind.u32 (bits BinOp.xor IntKind.u32 ((ror x15 7).toNat : Int) ((ror x15 18).toNat : Int)) ((x15.toNat : Int) / (8 : Int)) + (x7.toNat : Int) +
    bits BinOp.xor IntKind.u32 (bits BinOp.xor IntKind.u32 ((ror x2 17).toNat : Int) ((ror x2 19).toNat : Int)) ((x2.toNat : Int) / (1024 : Int))) % 4294967296 = ((x16 + s0 x15 + x7 + s1 x2).toNat : Int) := by
  rw [shr3, shr10, w_xor, w_xor, w_xor, w_xor, add4]
  rfl
theorem words_len (bs : List UInt8) : (words bs).length = 16 := by simp [words]

set_option maxRecDepth 100000 in
set_option maxHeartbeats 1000000 in
theorem absorb_any (s : St) (bs : List UInt8) (hbs : bs.length = 64) (sb ab ao n c : Nat) (w : World) (hs : w.heap[sb]? = some (.cells (stV s) 136 (0, 0))) (h : At w ab ao bs) (hn : 64 ≤ n) (hc : n ≤ c) (hcm : c ≤ 9223372036854775807)
    (hK : ∀ t, t < 64 → w.cell? ⟨1, t, none⟩ = some (uv (K.getD t 0))) :
    Calls Tryd.prog 90 #[.pointer (some ⟨sb, 0, none⟩), .slice (some ⟨ab, ao, none⟩) n c] w fun e w' => e = .returned (.tuple #[]) ∧ w'.heap[sb]? = some (.cells (stV (comp s bs)) 136 (0, 0)) ∧ w.grownBy w' (some sb) := by
  replace h := Lib.hid h
  replace hbs := Lib.hid hbs
  replace hK := Lib.hid hK
  replace hs := Lib.hid hs
  go_enter Tryd.func90, Tryd.ntmps90
  go_wp2_with fail
  have habs : ab < w.heap.size := by
    obtain ⟨x, hx⟩ : ∃ x, bs[0]? = some x := ⟨_, List.getElem?_eq_getElem (by rw [hbs.out]; omega)⟩
    exact World.block_lt_of_cell? w ⟨ab, ao + 0, none⟩ (h.out 0 x hx)
  have hW0 : ∀ arr : Array Value, arr.size = 64 → WB (w.alloc (.cells arr 154)) w.heap.size [] ∧ Below w.heap.size w (w.alloc (.cells arr 154)) := fun arr ha => ⟨WB.new w arr ha, (Below.refl _ _).alloc (Nat.le_refl _) _⟩
  go_loopw [14] (fun s14 wr => ∃ t : Nat, t ≤ 16 ∧ s14 = .int .i64 t ∧ WB wr w.heap.size ((words bs).take t) ∧ Below w.heap.size w wr) (fun s14 _ => 16 - (intOf s14).toNat)
  case atStart => exact ⟨0, by omega, rfl, (hW0 _ rfl).1, (hW0 _ rfl).2⟩
  case round =>
    obtain ⟨t, ht, rfl, hwb, hB⟩ := hrel
    by_cases hlt : t < 16
    · have hl4 : ((bs.drop (4 * t)).take 4).length = 4 := by rw [List.length_take, List.length_drop, hbs.out]; omega
      have hAt := Lib.hid (((h.out.keep (hB.block ab habs)).drop (4 * t)).take 4)
      have hfr := hwb.frozen t
      obtain ⟨v0, hv0⟩ := hwb.any (j := t) (by omega)
      have hset := hwb.set t (by rw [List.length_take, words_len]; omega) (by omega) (word ((bs.drop (4 * t)).take 4))
      rw [← words_take bs t hlt] at hset
      replace hset := Lib.hid hset
      replace hl4 := Lib.hid hl4
      have hne : c ≠ 4 * t := by omega
      clear hwb
      go_wp2_with fail
      refine (word_any ((bs.drop (4 * t)).take 4) hl4.out ab (ao + 4 * t) (n - 4 * t) (c - 4 * t) _ hAt.out (by omega) (by omega) (by omega)).mono ?_
      rintro e w' ⟨rfl, rfl⟩
      go_wp2_with fail
      go_roundw
      case rel => exact ⟨t + 1, by omega, by go_num, hset.out, hB.setCell (p := ⟨w.heap.size, t, none⟩) (Nat.le_refl _) _⟩
      case measure => simp [intOf]; omega
    · have hw16 : WB wr w.heap.size (words bs) := by
        have := hwb
        rw [List.take_of_length_le (by rw [words_len]; omega)] at this
        exact this
      obtain ⟨t0, ht0⟩ : ∃ t0, t = t0 := ⟨_, rfl⟩
      subst ht0
      replace hw16 := Lib.hid hw16
      have hsz : w.heap.size < wr.heap.size := by
        obtain ⟨arr, _, hh, _⟩ := hwb.cells
        exact (Array.getElem?_eq_some_iff.1 hh).1
      clear hwb
      go_wp2_with fail
      clear hW0 ht
      go_loopw [6] (fun s6 w2 => ∃ t : Nat, 16 ≤ t ∧ t ≤ 64 ∧ s6 = .int .i64 t ∧ WB w2 w.heap.size (sched (words bs) (t - 16)) ∧ Below w.heap.size w w2) (fun s6 _ => 64 - (intOf s6).toNat)
      case atStart => exact ⟨16, by omega, by omega, rfl, hw16.out, hB⟩
      case round =>
        clear hw16 hB hsz
        obtain ⟨t, ht1, ht2, rfl, hwb, hB⟩ := hrel
        by_cases hlt : t < 64
        · have hl : (sched (words bs) (t - 16)).length = t := by rw [sched_len, words_len]; omega
          obtain ⟨x16, e16⟩ : ∃ x, (sched (words bs) (t - 16))[t - 16]? = some x := ⟨_, List.getElem?_eq_getElem (by omega)⟩
          obtain ⟨x15, e15⟩ : ∃ x, (sched (words bs) (t - 16))[t - 15]? = some x := ⟨_, List.getElem?_eq_getElem (by omega)⟩
          obtain ⟨x7, e7⟩ : ∃ x, (sched (words bs) (t - 16))[t - 7]? = some x := ⟨_, List.getElem?_eq_getElem (by omega)⟩
          obtain ⟨x2, e2⟩ : ∃ x, (sched (words bs) (t - 16))[t - 2]? = some x := ⟨_, List.getElem?_eq_getElem (by omega)⟩
          have c16 := hwb.cell e16
          have c15 := hwb.cell e15
          have c7 := hwb.cell e7
          have c2 := hwb.cell e2
          have hfr := hwb.frozen t
          obtain ⟨v0, hv0⟩ := hwb.any (j := t) hlt
          have hset : ∀ W' : World, W'.heap = wr.heap → WB (W'.setCell ⟨w.heap.size, t, none⟩ (uv (x16 + s0 x15 + x7 + s1 x2))) w.heap.size (sched (words bs) (t + 1 - 16)) := fun W' hW' => by
            have := (hwb.keep (w' := W') (by rw [hW'])).set t hl hlt (x16 + s0 x15 + x7 + s1 x2)
            rw [← sched_more bs t ht1 x16 x15 x7 x2 e16 e15 e7 e2] at this
            exact this
          replace hset := Lib.hid hset
          have W16 : IntKind.i64.wrap ((t : Int) - 16) = (t : Int) - 16 := IntWalk.i64_in _ (by omega)
          have W15 : IntKind.i64.wrap ((t : Int) - 15) = (t : Int) - 15 := IntWalk.i64_in _ (by omega)
          have W7 : IntKind.i64.wrap ((t : Int) - 7) = (t : Int) - 7 := IntWalk.i64_in _ (by omega)
          have W2 : IntKind.i64.wrap ((t : Int) - 2) = (t : Int) - 2 := IntWalk.i64_in _ (by omega)
          have T16 : ((t : Int) - 16).toNat = t - 16 := by omega
          have T15 : ((t : Int) - 15).toNat = t - 15 := by omega
          have T7 : ((t : Int) - 7).toNat = t - 7 := by omega
          have T2 : ((t : Int) - 2).toNat = t - 2 := by omega
          have G16 : (0 : Int) ≤ (t : Int) - 16 := by omega
          have G15 : (0 : Int) ≤ (t : Int) - 15 := by omega
          have G7 : (0 : Int) ≤ (t : Int) - 7 := by omega
          have G2 : (0 : Int) ≤ (t : Int) - 2 := by omega
          have M16 : (16 : Int) ≤ (t : Int) := by omega
          have M15 : (15 : Int) ≤ (t : Int) := by omega
          have M7 : (7 : Int) ≤ (t : Int) := by omega
          have M2 : (2 : Int) ≤ (t : Int) := by omega
          have L16 : (t : Int) - 16 < 64 := by omega
          have L15 : (t : Int) - 15 < 64 := by omega
          have L7 : (t : Int) - 7 < 64 := by omega
          have L2 : (t : Int) - 2 < 64 := by omega
          clear e16 e15 e7 e2 hl hwb
          go_wp2_with fail
          go_quiet (fail)
          go_wp2_with fail
          have hWB : Below w.heap.size w (wr.drewN nq) := ⟨hB.os, hB.tape, hB.output, hB.size, hB.block⟩
          have hWh : (wr.drewN nq).heap = wr.heap := rfl
          replace c16 : (wr.drewN nq).cell? ⟨w.heap.size, t - 16, none⟩ = some (uv x16) := c16
          replace c7 : (wr.drewN nq).cell? ⟨w.heap.size, t - 7, none⟩ = some (uv x7) := c7
          replace hv0 : (wr.drewN nq).cell? ⟨w.heap.size, t, none⟩ = some v0 := hv0
          replace hfr : (wr.drewN nq).frozen? ⟨w.heap.size, t, none⟩ = false := hfr
          replace hWh := Lib.hid hWh
          generalize wr.drewN nq = W at *
          go_still_tail 29, (by kernel_rfl)
          still_call (rot_any x15 7 (by omega) _).mono fun _ _ h => ⟨h.1, h.2.symm⟩
          repeat still_step
          still_call (rot_any x15 18 (by omega) _).mono fun _ _ h => ⟨h.1, h.2.symm⟩
          repeat still_step
          still_call (rot_any x2 17 (by omega) _).mono fun _ _ h => ⟨h.1, h.2.symm⟩
          repeat still_step
          still_call (rot_any x2 19 (by omega) _).mono fun _ _ h => ⟨h.1, h.2.symm⟩
          repeat still_step
          try refine wpStill_nil ?_
          change wpList _ _ _ _ _ W.drew
          go_wp2_with fail
          go_roundw
          case rel =>
            refine ⟨t + 1, by omega, by omega, by go_num, ?_, ?_⟩
            · rw [sched_val]
              exact (hset.out _ hWh.out).keep rfl
            · exact (hWB.setCell (p := ⟨w.heap.size, t, none⟩) (Nat.le_refl _) _).drew
          case measure => simp [intOf]; omega
        · have hl64 : t = 64 := by omega
          have hw64 : WB wr w.heap.size (sched (words bs) 48) := by
            subst hl64
            exact hwb
          replace hw64 := Lib.hid hw64
          have hsbs : sb < w.heap.size := (Array.getElem?_eq_some_iff.1 hs.out).1
          have hs2 : wr.heap[sb]? = some (.cells (stV s) 136 (0, 0)) := (hB.block sb hsbs).trans hs.out
          obtain ⟨⟨p0, p1, p2, p3⟩, p4, p5, p6, p7⟩ := cells8 hs2
          clear hwb
          clear hl64
          go_wp2_with fail
          clear hlt ht1 ht2 p0 p1 p2 p3 p4 p5 p6 p7
          have hvn := heap_alloc_new wr (.cells (stV s) 136)
          have hsz2 : w.heap.size < wr.heap.size := by
            obtain ⟨arr, _, hh, _⟩ := hw64.out.cells
            exact (Array.getElem?_eq_some_iff.1 hh).1
          have hBn := hB.alloc hB.size (.cells (stV s) 136)
          have hwn := hw64.out.keep (w' := wr.alloc (.cells (stV s) 136)) (Below.heap_alloc _ _ _ hsz2)
          replace hvn := Lib.hid hvn
          replace hwn := Lib.hid hwn
          have hwl : (sched (words bs) 48).length = 64 := by rw [sched_len, words_len]
          generalize hwe : sched (words bs) 48 = ws at *
          have hcomp : Hid (comp s bs = Sha.add s (rnds ws s 64)) := Lib.hid (by rw [← hwe]; rfl)
          clear hwe
          generalize hvbe : wr.heap.size = vb at *
          go_loopw [69] (fun s69 w3 => ∃ t : Nat, t ≤ 64 ∧ s69 = .int .i64 t ∧ w3.heap[vb]? = some (.cells (stV (rnds ws s t)) 136 (0, 0)) ∧ WB w3 w.heap.size ws ∧ Below w.heap.size w w3) (fun s69 _ => 64 - (intOf s69).toNat)
          case atStart => exact ⟨0, by omega, rfl, hvn.out, hwn.out, hBn⟩
          case round =>
            clear hw64 hs2 hvn hwn hBn
            obtain ⟨t, ht, rfl, hv, hwb, hB⟩ := hrel
            by_cases hlt : t < 64
            · obtain ⟨wt, hwt⟩ : ∃ x, ws[t]? = some x := ⟨_, List.getElem?_eq_getElem (by omega)⟩
              have cw := hwb.cell hwt
              have h1lt : 1 < w.heap.size := World.block_lt_of_cell? w ⟨1, 0, none⟩ (hK.out 0 (by omega))
              have ck := (hB.cell (p := ⟨1, t, none⟩) h1lt).trans (hK.out t hlt)
              have hrn : rnds ws s (t + 1) = rnd (rnds ws s t) (K.getD t 0) wt := by
                have e : ws.getD t 0 = wt := by rw [List.getD_eq_getElem?_getD, hwt]; rfl
                rw [rnds, e]
              replace hrn := Lib.hid hrn
              generalize rnds ws s t = x at *
              generalize K.getD t 0 = kt at *
              obtain ⟨⟨p0, p1, p2, p3⟩, p4, p5, p6, p7⟩ := cells8 hv
              have G0 : (0 : Int) ≤ (t : Int) := by omega
              have G1 : (t : Int) < 64 := by omega
              have hr1 : Hid (∀ W : World, Calls Tryd.prog 109 #[uv x.e, .int .i64 6, .int .i64 11, .int .i64 25] W fun e w' => e = .returned (uv (S1 x.e)) ∧ w' = W) := fun W => (rotated_any x.e 6 11 25 (by omega) (by omega) (by omega) W).mono fun _ _ h => ⟨h.1, h.2.symm⟩
              have hr2 : Hid (∀ W : World, Calls Tryd.prog 109 #[uv x.a, .int .i64 2, .int .i64 13, .int .i64 22] W fun e w' => e = .returned (uv (S0 x.a)) ∧ w' = W) := fun W => (rotated_any x.a 2 13 22 (by omega) (by omega) (by omega) W).mono fun _ _ h => ⟨h.1, h.2.symm⟩
              go_wp2_with fail
              go_quiet ((go_at_call 109; exact Calls.quiet_of_same (hr1.out _)))
              have hv1 : (wr.drewN nq).heap[vb]? = some (.cells (stV x) 136 (0, 0)) := hv
              have hwb1 : WB (wr.drewN nq) w.heap.size ws := hwb.keep rfl
              have hB1 : Below w.heap.size w (wr.drewN nq) := ⟨hB.os, hB.tape, hB.output, hB.size, hB.block⟩
              clear p0 p1 p2 p3 p4 p5 p6 p7 cw ck hv hwb hB hr1 G0 G1
              generalize wr.drewN nq = U1 at *
              obtain ⟨⟨p0, p1, p2, p3⟩, p4, p5, p6, p7⟩ := cells8 hv1
              go_wp2_with fail
              go_quiet ((go_at_call 109; exact Calls.quiet_of_same (hr2.out _)))
              have hv2 : (U1.drewN nq).heap[vb]? = some (.cells (stV x) 136 (0, 0)) := hv1
              have hwb2 : WB (U1.drewN nq) w.heap.size ws := hwb1.keep rfl
              have hB2 : Below w.heap.size w (U1.drewN nq) := ⟨hB1.os, hB1.tape, hB1.output, hB1.size, hB1.block⟩
              clear p0 p1 p2 p3 p4 p5 p6 p7 hv1 hwb1 hB1 hr2
              generalize U1.drewN nq = U2 at *
              have hB3 : Below vb U2 U2.drew := ⟨rfl, rfl, rfl, Nat.le_refl _, fun _ _ => rfl⟩
              have hv3 : U2.drew.heap[vb]? = some (.cells [uv x.a, uv x.b, uv x.c, uv x.d, uv x.e, uv x.f, uv x.g, uv x.h].toArray 136 (0, 0)) := hv2
              have hsr := src7 (w := U2.drew) hv2
              replace hv2 := Lib.hid hv2
              replace hwb2 := Lib.hid hwb2
              go_wp2_with fail
              go_region_law (refine step_copy_splice (by rfl) (.tmp 116) (.tmp 117) 159 159 (by rfl) 134 Tryd.underlying159 (by kernel_rfl) (some ⟨vb, 1, none⟩) (some ⟨vb, 0, none⟩) 7 7 7 8 (by rfl) (by rfl) vb 1 [uv x.a, uv x.b, uv x.c, uv x.d, uv x.e, uv x.f, uv x.g, uv x.h] 136 hv3 [uv x.a, uv x.b, uv x.c, uv x.d, uv x.e, uv x.f, uv x.g] (by rfl) (fun _ => ⟨rfl, _, rfl, hsr⟩) (by simp) (one7 x) vb U2 hB3 (Nat.le_refl _) ?_; intro w4 hcop hbel)
              have hv4 : w4.heap[vb]? = some (.cells (stV ⟨x.a, x.a, x.b, x.c, x.d, x.e, x.f, x.g⟩) 136 (0, 0)) := hcop.out
              have hwb4 : WB w4 w.heap.size ws := hwb2.out.keep (hbel.block _ hsz2)
              have hB4 : Below w.heap.size w w4 := hB2.trans (hbel.mono (Nat.le_of_lt hsz2))
              obtain ⟨⟨p0, p1, p2, p3⟩, p4, p5, p6, p7⟩ := cells8 hv4
              have f0 := frozen8 hv4 0
              have f4 := frozen8 hv4 4
              clear hcop hbel hv2 hwb2 hB2 hB3 hv3 hsr
              replace hv4 := Lib.hid hv4
              replace hwb4 := Lib.hid hwb4
              go_wp2_with fail
              go_roundw
              case rel =>
                rw [val_e, val_a]
                have h4 := heap_setCell_same w4 vb 4 _ _ (uv (rnd x kt wt).e) hv4.out
                have h0 := heap_setCell_same _ vb 0 _ _ (uv (rnd x kt wt).a) h4
                refine ⟨t + 1, by omega, by go_num, ?_, ?_, ?_⟩
                · rw [hrn.out]
                  exact h0
                · refine (hwb4.out.keep (heap_setCell_other w4 ⟨vb, 4, none⟩ _ _ ?_)).keep (heap_setCell_other _ ⟨vb, 0, none⟩ _ _ ?_)
                  · exact Nat.ne_of_lt hsz2
                  · exact Nat.ne_of_lt hsz2
                · exact (hB4.setCell (p := ⟨vb, 4, none⟩) (Nat.le_of_lt hsz2) _).setCell (p := ⟨vb, 0, none⟩) (Nat.le_of_lt hsz2) _
              case measure => simp [intOf]; omega
            · have hl64 : t = 64 := by omega
              have hv64 : wr.heap[vb]? = some (.cells (stV (rnds ws s 64)) 136 (0, 0)) := by
                subst hl64
                exact hv
              have hs2 : wr.heap[sb]? = some (.cells (stV s) 136 (0, 0)) := (hB.block sb hsbs).trans hs.out
              clear hv hwb
              have hgr : w.grownBy wr (some sb) := ⟨hB.os, hB.tape, hB.output, hB.size, fun k hk _ => hB.block k hk⟩
              have hsv : sb < vb := by omega
              clear hl64 ht
              go_wp2_with fail
              clear hB hlt
              generalize hxe : rnds ws s 64 = x at *
              go_loopw [129] (fun s129 w5 => ∃ i : Nat, i ≤ 8 ∧ s129 = .int .i64 i ∧ w5.heap[sb]? = some (.cells ((mixL s x i).map uv).toArray 136 (0, 0)) ∧ w5.heap[vb]? = some (.cells ((stL x).map uv).toArray 136 (0, 0)) ∧ w.grownBy w5 (some sb)) (fun s129 _ => 8 - (intOf s129).toNat)
              case atStart => exact ⟨0, by omega, rfl, by rw [mixL_zero]; exact hs2, hv64, hgr⟩
              case round =>
                clear hs2 hv64 hgr
                obtain ⟨i, hi, rfl, hm, hv, hgr⟩ := hrel
                by_cases hlt8 : i < 8
                · obtain ⟨a, ha⟩ : ∃ a, (stL s)[i]? = some a := ⟨_, List.getElem?_eq_getElem (by simpa using hlt8)⟩
                  obtain ⟨b, hb⟩ : ∃ a, (stL x)[i]? = some a := ⟨_, List.getElem?_eq_getElem (by simpa using hlt8)⟩
                  have ca := cellL hm ((mixL_at s x i hlt8).trans ha)
                  have cb := cellL hv hb
                  have cf := frozen_of_row wr sb i _ _ hm
                  have hset := Lib.hid (mixL_set s x i hlt8 a b ha hb)
                  have G0 : (0 : Int) ≤ (i : Int) := by omega
                  have G1 : (i : Int) < 8 := by omega
                  replace hm := Lib.hid hm
                  replace hv := Lib.hid hv
                  clear ha hb
                  go_wp2_with fail
                  go_still_tail 11, (by kernel_rfl)
                  try refine wpStill_nil ?_
                  change wpList _ _ _ _ _ (World.drew _)
                  go_wp2_with fail
                  go_roundw
                  case rel =>
                    have hne : sb ≠ vb := Nat.ne_of_lt hsv
                    have h1 := heap_setCell_same wr sb i _ _ (uv (a + b)) hm.out
                    have h2 := (heap_setCell_other wr ⟨sb, i, none⟩ vb (uv (a + b)) hne.symm).trans hv.out
                    rw [w_add2]
                    refine ⟨i + 1, by omega, by go_num, ?_, h2, Lib.grownBy_trans (Lib.grownBy_setB hgr i _) ⟨rfl, rfl, rfl, Nat.le_refl _, fun _ _ _ => rfl⟩⟩
                    · rw [← hset.out]
                      refine Eq.trans h1 ?_
                      simp
                  case measure => simp [intOf]; omega
                · have hi8 : i = 8 := by omega
                  have hm8 : wr.heap[sb]? = some (.cells (stV (Sha.add s x)) 136 (0, 0)) := by
                    rw [hm, hi8, mixL_all]
                    rfl
                  clear hm hv hi8
                  go_wp2_with fail
                  go_end0
                  refine ⟨rfl, ?_, hgr⟩
                  rw [hcomp.out]
                  exact hm8
end Go.Proofs.YtnccbhndlnkboaaDoor
