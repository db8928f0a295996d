/- The walk of the iterator of merkle's rows. -/
import Derived.Test.YtnccbhndlnkboaaDoorMUp
import Derived.Test.YtnccbhndlnkboaaDoorRangeW
import Derived.Test.YtnccbhndlnkboaaDoorRoundR
import Derived.Lib.RabinKarpLaws
import Derived.Shelf.RegionOpen
import Derived.LoopIn
import Derived.LoopNIn
import Derived.OwnWalkIn
namespace Go.Proofs.YtnccbhndlnkboaaDoor
open Go.RowKit Go.Shelf Cdc Sha
set_option linter.unusedVariables false
set_option linter.unusedSimpArgs false
attribute [local go_sem] Oper.semAt_some

/-- leaves that lie somewhere -/
def LvAt (w : World) (A : Option Addr) (ls : List (List UInt8)) : Prop := ∀ i xs, ls[i]? = some xs → ∃ g o A' c', A = some ⟨g, o, none⟩ ∧ w.cell? ⟨g, o + i, none⟩ = some (.slice A' xs.length c') ∧ xs.length ≤ c' ∧ c' ≤ 9223372036854775807 ∧ AtO w A' xs
theorem LvAt.below {w w' : World} {A : Option Addr} {ls : List (List UInt8)} (h : LvAt w A ls) (hb : Below w.heap.size w w') : LvAt w' A ls := fun i xs hi => by
  obtain ⟨g, o, A', c', hA, hc, h1, h2, h3⟩ := h i xs hi
  exact ⟨g, o, A', c', hA, (hb.cell (p := ⟨g, o + i, none⟩) (World.block_lt_of_cell? w _ hc)).trans hc, h1, h2, h3.below hb⟩

/-- what is yielded: a row, its block, its capacity -/
abbrev Rw := List (List UInt8) × Nat × Nat
abbrev rwEncs (x : Rw) : Array Value := #[.slice (some ⟨x.2.1, 0, none⟩) x.1.length x.2.2]
def RwNx (r : List (List UInt8)) (pre : List Rw) (x : Rw) (B : Nat) (W : World) : Prop :=
  (rowsM r)[pre.length]? = some x.1 ∧ x.1.length ≤ x.2.2 ∧ x.1 ≠ [] ∧ B ≤ x.2.1 ∧ DsAt W (some ⟨x.2.1, 0, none⟩) x.1 ∧ (∀ d ∈ x.1, d.length = 32) ∧ ∃ cs ty fr, W.heap[x.2.1]? = some (.cells cs ty fr)
def RwKp (N : Nat) (x : Rw) (A B : World) : Prop := Below N A B ∧ ∀ o, A.heap[x.2.1]? = some o → o.isCells = true → B.heap[x.2.1]? = some o
theorem wp_appD {o : Oper} {a : Act} {K : Act → World → Prop} {Q : Exit → Act → World → Prop} (w : World) (s x : Operand)
    (ho : o.op = .call { callee := .builtin .append, args := #[s, x], argTypes := #[31, 31] }) (b : Nat) (row : Value) (l l2 : List (List UInt8)) (A : Option Addr) (m c : Nat)
    (hs : a.eval s = row) (hx : a.eval x = .slice A m c) (hm : l2.length = m) (hA : DsAt w A l2) (hown : RowD w b row l) (hp2 : ∀ y ∈ l2, y.length = 32) (hl : l.length ≤ 1000000) (hm2 : m ≤ 1000000) (hb : b ≤ w.heap.size)
    (h : ∀ row' w', RowD w' b row' (l ++ l2) → w.grownBy w' row.ownBlock → K (a.put o.dst row') w') : Oper.wp Tryd.prog o a w K Q := by
  obtain ⟨v', w', hr, h2, h3, h5⟩ := run_app_dg w o.type b row l l2 A m c hm hA hown hp2 hl hm2 hb
  unfold Oper.wp execOp
  simp only [ho, resolve, invoke, builtin, Sem.run_bind, Sem.run_pure, Result.andThen_ok, List.map_toArray, List.map_cons, List.map_nil, hs, hx, hr]
  exact h v' w' h2 h3
theorem DsAt.block {W W' : World} {g : Nat} {l : List (List UInt8)} {o : Nat} (h : DsAt W (some ⟨g, o, none⟩) l) (hk : W'.heap[g]? = W.heap[g]?) : DsAt W' (some ⟨g, o, none⟩) l := fun i x hi => by
  obtain ⟨g', o', e, hlt, hr⟩ := h i x hi
  cases e
  refine ⟨g, o, rfl, ?_, fun j v hj => (World.cell?_of_block (w := W) (a := ⟨g, o + i * 32 + j, none⟩) hk).trans (hr j v hj)⟩
  rw [Array.getElem?_eq_getElem hlt] at hk
  exact (Array.getElem?_eq_some_iff.1 hk).1

set_option maxRecDepth 100000 in
set_option maxHeartbeats 2000000 in
theorem rows_seq (n0 : Nat) (hn0 : 1 ≤ n0) (ls : List (List UInt8)) (m : Nat) (A : Option Addr) (c b : Nat) (w0 W : World) (hn : ls.length = m) (h0m : 0 < m) (hm : m ≤ 1000) (hls : LvAt w0 A ls) (hsm : ∀ x ∈ ls, x.length ≤ 1000000) (hL : Laid w0) (hbW : Below w0.heap.size w0 W) (hbox : W.cell? ⟨b, 0, none⟩ = some (.slice A m c)) :
    SeqW Fence.wide n0 Tryd.prog 82 #[.pointer (some ⟨b, 0, none⟩)] rwEncs (RwNx (ls.map lfD)) (RwKp w0.heap.size) (fun xs => xs.map (·.1) = rowsM (ls.map lfD)) (fun _ => True) W := by
  intro r J Jx hJ hJx hY h0
  refine callsIn_of_wp Tryd.func82 rfl trivial ?_ rfl
  simp only [Tryd.ntmps82, List.size_toArray, List.length_cons, List.length_nil, Nat.reduceAdd, Nat.reduceSub, Array.replicate_succ, Array.replicate_zero, List.push_toArray, List.append_toArray, List.nil_append, List.cons_append]
  have hblt := World.block_lt_of_cell? W _ hbox
  replace hls := Lib.hid hls
  replace hsm := Lib.hid hsm
  replace hL := Lib.hid hL
  replace hY := Lib.hid hY
  replace hn := Lib.hid hn
  gi_wp2
  gi_loopw [3, 8] (fun s3 s8 wr => ∃ i : Nat, i ≤ m ∧ s8 = .int .i64 (i : Int) ∧ RowD wr W.heap.size s3 ((ls.take i).map lfD) ∧ Below W.heap.size W wr) (fun _ s8 _ => m - (intOf s8).toNat)
  case atStart => exact ⟨0, Nat.zero_le _, rfl, RowD.nil _ _, Below.refl _ _⟩
  case round =>
    obtain ⟨i, him, rfl, hrow, hB⟩ := hrel
    by_cases hlt : i < m
    · obtain ⟨x, hx⟩ : ∃ x, ls[i]? = some x := ⟨_, List.getElem?_eq_getElem (by rw [hn.out]; exact hlt)⟩
      have hxm := hsm.out x (List.mem_of_getElem? hx)
      have hbw := hbW.trans (hB.mono hbW.size)
      obtain ⟨g, o, A', c', hA, hc, hl1, hl2, hat⟩ := (hls.out.below hbw) i x hx
      subst hA
      have hF : Hid (∀ V, Below wr.heap.size wr V → Calls Tryd.prog 83 #[.slice A' x.length c'] V fun e w' => e = .returned (.agg (dc (lfD x)).toArray) ∧ Below V.heap.size V w') := Lib.hid fun V hV => mleaf_any x x.length rfl (by omega) A' c' V (hat.below hV) (hL.out.below (hbw.trans (hV.mono hbw.size)))
      have hbu := Lib.hid (builtSlice_d1 (lfD x) (lfD_len x))
      have hD1 : Hid (∀ d ∈ [lfD x], d.length = 32) := Lib.hid (fun d hd => by simp at hd; subst hd; exact lfD_len x)
      have htk : Hid ((ls.take (i + 1)).map lfD = (ls.take i).map lfD ++ [lfD x]) := Lib.hid (by rw [List.take_add_one, hx]; simp)
      have hlen : ((ls.take i).map lfD).length ≤ 1000000 := by simp; omega
      obtain ⟨D, hD⟩ : ∃ D, lfD x = D := ⟨_, rfl⟩
      rw [hD] at hF hbu hD1 htk
      obtain ⟨acc, hacc⟩ : ∃ acc, (ls.take i).map lfD = acc := ⟨_, rfl⟩
      rw [hacc] at hrow htk hlen
      clear hD hacc hat hbw hxm hx hl1 hl2
      gi_wp2_with (first
        | (refine wpListIn_of_wp (by rfl) (wp_built 31 23 1 #[(0, .tmp 14)] (by rfl) Tryd.underlying31 (dc D).toArray (by simp only [List.map_toArray, List.map_cons, List.map_nil]; exact hbu.out) ?_))
        | (refine wpListIn_of_wp (by rfl) (wp_appD _ (.tmp 12) (.tmp 15) (by rfl) W.heap.size u3 acc [D] (some ⟨w5.heap.size, 0, none⟩) 1 1 (by rfl) (by rfl) (by rfl) (dsAt_row (l := [D]) hD1.out (heap_alloc_new w5 (.cells (dc D).toArray 23)) (by simp [dsC])) (hrow.below (hb5.alloc hb5.size _)) hD1.out hlen (by decide) (by simp; have := hB.size; have := hb5.size; omega) ?_); intro row' w6 hrow6 hg6)
        | (refine ⟨trivial, ?_⟩; gi_at_call 83; refine (callsIn_wide.2 (hF.out _ (Below.refl _ _))).mono ?_; rintro e w5 ⟨rfl, hb5⟩))
      have hB6 : Below W.heap.size W w6 := RowD.grown (hrow.below (hb5.alloc hb5.size (.cells (dc D).toArray 23))) (hB.trans ((hb5.alloc hb5.size _).mono hB.size)) (Nat.le_refl _) (by simp; have := hB.size; have := hb5.size; omega) hg6
      go_roundw
      case rel => exact ⟨i + 1, by omega, by go_num, by rw [htk.out]; exact hrow6, hB6⟩
      case measure => simp [intOf]; omega
    · obtain rfl : i = m := by omega
      have hall : (ls.take i).map lfD = ls.map lfD := by rw [← hn.out, List.take_length]
      rw [hall] at hrow
      obtain ⟨l, hl⟩ : ∃ l, ls.map lfD = l := ⟨_, rfl⟩
      have h32 : ∀ d ∈ l, d.length = 32 := fun d hd => by
        rw [← hl] at hd
        obtain ⟨x, _, rfl⟩ := List.mem_map.1 hd
        exact lfD_len x
      have hll : l.length = i := by rw [← hl, List.length_map, hn.out]
      rw [hl] at hrow hY
      have hl9 := Lib.hid hl
      have hne : l ≠ [] := fun e => by rw [e] at hll; simp at hll; omega
      obtain ⟨A3, c3, rfl, hc3, hds3⟩ := hrow.ds h32
      obtain ⟨g3, cs3, ty3, fr3, rfl, hg3, hh3⟩ := RowD.spot hrow hne
      have hbwr := hbW.trans (hB.mono hbW.size)
      clear hl hall hls hsm hbox hrow
      replace hn := hll
      clear hll
      gi_wp2
      gi_loopw [3] (fun s3 wq => ∃ (pre : List Rw) (row : List (List UInt8)) (g c : Nat) (W0 : World), s3 = .slice (some ⟨g, 0, none⟩) row.length c ∧ row.length ≤ c ∧ row ≠ [] ∧ row.length ≤ i ∧ J pre W0 ∧ Below W0.heap.size W0 wq ∧ W0.heap.size ≤ g ∧ DsAt wq (some ⟨g, 0, none⟩) row ∧ (∀ d ∈ row, d.length = 32) ∧ (∃ cs ty fr, wq.heap[g]? = some (.cells cs ty fr)) ∧ Hid (rowsM l = pre.map (·.1) ++ rowsM row) ∧ Below w0.heap.size w0 wq) (fun s3 _ => lenSl s3)
      case atStart => exact ⟨[], l, g3, c3, W, rfl, hc3, hne, by omega, h0, hB, hg3, hds3, h32, ⟨_, _, _, hh3⟩, Lib.hid (by simp), hbwr⟩
      case round =>
        clear hB hc3 hne h0 hg3 hds3 h32 hh3 hbwr
        obtain ⟨pre, row, g, c4, W0, rfl, hc4, hne, hri, hJ0, hB0, hgB, hds, h32, ⟨cs, ty, fr, hh⟩, hrows, hbw⟩ := hrel
        have hnx : RwNx l pre (row, g, c4) W0.heap.size wr := ⟨by
          rw [hrows.out, List.getElem?_append_right (by simp)]
          by_cases h1 : 1 < row.length
          · rw [rowsM_big h1]; simp
          · rw [rowsM_one h1]; simp, hc4, hne, hgB, hds, h32, cs, ty, fr, hh⟩
        obtain ⟨fn, tmps, assign, body, hy, hR⟩ := hY.out pre (row, g, c4) W0 wr hJ0 hB0 hnx
        dsimp only [rwEncs] at hy
        by_cases h1 : 1 < row.length
        · obtain ⟨k, hk⟩ : ∃ k, row.length = k := ⟨_, rfl⟩
          have hrow2 := Lib.hid (rowsM_big h1)
          rw [hk] at hy h1 hri ⊢
          rw [hk] at hc4
          have d1 : decide ((1 : Int) < (k : Int)) = true := decide_eq_true (by omega)
          replace hk := Lib.hid hk
          replace hh := Lib.hid hh
          gi_wp2
          refine hR.mono ?_
          rintro e W3 (⟨rfl, hJ3, hk3⟩ | ⟨rfl, hJx3⟩)
          · have hds9 : DsAt W3 (some ⟨g, 0, none⟩) row := hds.block ((hk3.2 _ hh.out rfl).trans hh.out.symm)
            have hbw3 := hbw.trans hk3.1
            have hU := Lib.hid (mup_any row k hk.out (by omega) (some ⟨g, 0, none⟩) c4 hc4 W3 hds9 h32 (hL.out.below hbw3))
            clear hds hds9
            gi_wp2_with (refine ⟨trivial, ?_⟩; gi_at_call 84; refine (callsIn_wide.2 hU.out).mono ?_; unfold UpC; rintro e W4 ⟨A9, c9, rfl, hc9, hd9, hb9, hs9⟩)
            have hul := up_len row
            rw [hk.out] at hul
            have hune : up row ≠ [] := fun e => by rw [e] at hul; simp at hul; omega
            obtain ⟨g9, cs9, ty9, fr9, rfl, hg9, hh9⟩ := hs9 hune
            go_roundw
            case rel => exact ⟨pre ++ [(row, g, c4)], up row, g9, c9, W3, rfl, hc9, hune, by omega, hJ3, hb9, hg9, hd9, up_all row h32, ⟨cs9, ty9, fr9, hh9⟩, Lib.hid (by rw [hrows.out, hrow2.out]; simp), hbw3.trans (hb9.mono hbw3.size)⟩
            case measure => simp [lenSl]; omega
          · gi_wp2
            go_end0
            exact ⟨⟨_, rfl⟩, .inr ⟨_, trivial, hJx3⟩⟩
        · obtain ⟨k, hk⟩ : ∃ k, row.length = k := ⟨_, rfl⟩
          have hrow2 := Lib.hid (rowsM_one h1)
          rw [hk] at hy h1 hri ⊢
          have d1 : decide ((1 : Int) < (k : Int)) = false := decide_eq_false (by omega)
          replace hk := Lib.hid hk
          replace hh := Lib.hid hh
          gi_wp2
          refine hR.mono ?_
          rintro e W3 (⟨rfl, hJ3, hk3⟩ | ⟨rfl, hJx3⟩)
          · gi_wp2
            go_end0
            exact ⟨⟨_, rfl⟩, .inl ⟨pre ++ [(row, g, c4)], by rw [hl9.out, hrows.out, hrow2.out]; simp, hJ3⟩⟩
          · gi_wp2
            go_end0
            exact ⟨⟨_, rfl⟩, .inr ⟨_, trivial, hJx3⟩⟩
end Go.Proofs.YtnccbhndlnkboaaDoor
