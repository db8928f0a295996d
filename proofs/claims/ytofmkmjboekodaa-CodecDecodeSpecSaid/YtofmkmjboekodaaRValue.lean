/- The walk of the reference's Value, but at lists. -/
import Derived.Test.YtofmkmjboekodaaRNumber
import Derived.Test.YtofmkmjboekodaaValueL
namespace Go.Proofs.Ytofmkmjboekodaa
open Go.RowKit Cdc
set_option linter.unusedVariables false
set_option linter.unusedSimpArgs false

/-- what Value answers: some value always; right if the reader is not bad -/
def RValPost (w : World) (B r D : Nat) (b : List UInt8) (k : Nat) (e : Ending) (w' : World) : Prop :=
  Rd w w' r ∧ ∃ (x : V) (v' : Value), e = .returned (vv x v') ∧ RSb (fun j => w.heap.size ≤ j ∧ j < w'.heap.size) w' D x.l v' ∧
    ((∃ k', pV D (b.drop k) = some (x, b.drop k') ∧ RAt w' B r b k' false) ∨ (pV D (b.drop k) = none ∧ ∃ k', RAt w' B r b k' true))

/-- behind the first byte -/
structure RHead (w w1 : World) (B r : Nat) (b : List UInt8) (k : Nat) (bad : Bool) : Prop where
  rd : RAt w1 B r b k bad
  R : Rd w w1 r
  blk : w1.heap[w.heap.size]? = some (.cells #[.int .i64 0, .int .i64 0, .string ⟨#[]⟩, .slice none 0 0] 24 (0, 0))

abbrev OV : Obj := .cells #[.int .i64 0, .int .i64 0, .string ⟨#[]⟩, .slice none 0 0] 24

theorem rhead_ok (B r : Nat) (b : List UInt8) (k : Nat) (x : UInt8) (w : World) (h : RAt w B r b k false) (hx : b[k]? = some x) (hl : b.length ≤ 1000000000000) :
    Calls Try.prog 48 #[.pointer (some ⟨r, 0, none⟩)] (w.alloc OV) fun e w1 => e = .returned (.int .u8 x.toNat) ∧ RHead w w1 B r b (k + 1) false := by
  refine (next_ok B r b k x false _ (h.of (World.grownBy_alloc _ _ _)) hx hl).mono ?_
  rintro e w1 ⟨rfl, hr, hR⟩
  refine ⟨rfl, hr, Rd.trans (World.grownBy_alloc _ _ _) hR, ?_⟩
  rw [hR.block _ (by simp) (fun e => by injection e with e; have := h.lt; omega)]
  exact heap_alloc_new w _
theorem rhead_end (B r : Nat) (b : List UInt8) (w : World) (h : RAt w B r b b.length false) :
    Calls Try.prog 48 #[.pointer (some ⟨r, 0, none⟩)] (w.alloc OV) fun e w1 => e = .returned (.int .u8 0) ∧ RHead w w1 B r b b.length true := by
  refine (next_end B r b false _ (h.of (World.grownBy_alloc _ _ _))).mono ?_
  rintro e w1 ⟨rfl, hr, hR⟩
  refine ⟨rfl, hr, Rd.trans (World.grownBy_alloc _ _ _) hR, ?_⟩
  rw [hR.block _ (by simp) (fun e => by injection e with e; have := h.lt; omega)]
  exact heap_alloc_new w _

theorem rall4_rd {w W : World} {B r j k : Nat} {b : List UInt8} {bad : Bool} (hR : Rd w W r) (h : RAt W B r b k bad) (hb : w.heap.size ≤ j) (hne : j ≠ r) (hB : B ≤ j) (y0 y1 y2 y3 : Value) :
    Rd w (all4 W j y0 y1 y2 y3) r ∧ RAt (all4 W j y0 y1 y2 y3) B r b k bad :=
  ⟨(((hR.set_new _ _ hb).set_new _ _ hb).set_new _ _ hb).set_new _ _ hb, (((h.other _ _ hne hB).other _ _ hne hB).other _ _ hne hB).other _ _ hne hB⟩

theorem rvalue_end {W : World} {b : Nat} {y0 y1 y2 y3 : Value} {R : Ending → World → Prop} {a : Act} (ha : a.tmps[4]? = some (.pointer (some ⟨b, 0, none⟩))) (hd : a.defers = [])
    (h : W.heap[b]? = some (.cells #[y0, y1, y2, y3] 24 (0, 0))) (hR : R (.returned (.agg #[y0, y1, y2, y3])) W) : bodyPost Try.prog Try.f34 R .ret a W := by
  obtain ⟨⟨q0, q1, q2, q3⟩, _⟩ := cells4 h
  refine bodyPost_ret (v := .agg #[y0, y1, y2, y3]) ?_ hd hR
  simp [results, Try.results34, go_sem, ha, q0, q1, q2, q3]

set_option maxRecDepth 100000 in
set_option maxHeartbeats 2000000 in
/-- no kind at the head -/
theorem rvalue_bad (B r D : Nat) (dep : Int) (b : List UInt8) (k k1 : Nat) (bad : Bool) (c : Nat) (w : World) (hlt : r < w.heap.size) (hBl : B ≤ w.heap.size) (hc : ¬ c = 1 ∧ ¬ c = 2 ∧ ¬ c = 3) (hv : pV D (b.drop k) = none)
    (hn : Calls Try.prog 48 #[.pointer (some ⟨r, 0, none⟩)] (w.alloc OV) fun e w1 => e = .returned (.int .u8 c) ∧ RHead w w1 B r b k1 bad) :
    Calls Try.prog 34 #[.pointer (some ⟨r, 0, none⟩), .int .i64 dep] w (RValPost w B r D b k) := by
  have hc1 : ((c : Int) == 1) = false := by simp; omega
  have hc2 : ((c : Int) == 2) = false := by simp; omega
  have hc3 : ((c : Int) == 3) = false := by simp; omega
  have hne : w.heap.size ≠ r := by omega
  unfold RValPost
  replace hn := Lib.hid hn
  clear hc
  go_enter Try.func34, Try.ntmps34
  go_wp2_with fail
  refine hn.out.mono ?_
  rintro e w1 ⟨rfl, hh⟩
  obtain ⟨⟨q0, q1, q2, q3⟩, f0, f1, f2, f3⟩ := cells4 hh.blk
  obtain ⟨A', c', hh', _⟩ := hh.rd.cell
  obtain ⟨⟨p0, p1, p2⟩, z1, z2⟩ := cells3 hh'
  clear hh'
  go_wp2_with fail
  have hb2 : (w1.setCell ⟨r, 2, none⟩ (.bool true)).heap[w.heap.size]? = some (.cells #[.int .i64 0, .int .i64 0, .string ⟨#[]⟩, .slice none 0 0] 24 (0, 0)) := (heap_setCell_other w1 ⟨r, 2, none⟩ _ _ hne).trans hh.blk
  obtain ⟨hs1, hs2⟩ := hh.rd.setBad
  obtain ⟨hR3, hrd3⟩ := rall4_rd (hh.R.trans hs2) hs1 (Nat.le_refl _) hne hBl (.int .i64 0) (.int .i64 0) (.string ⟨#[]⟩) (.slice none 0 0)
  exact rvalue_end rfl rfl (all4_heap hb2 _ _ _ _) ⟨hR3, ⟨0, 0, ⟨#[]⟩, []⟩, _, rfl, RSb.nil _ _ _, .inr ⟨hv, k1, hrd3⟩⟩

/-- number behind the head: an answer always -/
theorem rnum_head (B r : Nat) (b : List UInt8) (k : Nat) (w w1 : World) (hh : RHead w w1 B r b k false) (hne : w.heap.size ≠ r) (hl : b.length ≤ 1000000000000) :
    Calls Try.prog 49 #[.pointer (some ⟨r, 0, none⟩)] w1 fun e w' => ∃ (u k' : Nat) (bad : Bool), u < 18446744073709551616 ∧ e = .returned (.int .u64 u) ∧ RHead w w' B r b k' bad ∧
      ((bad = false ∧ pN 0 0 (b.drop k) = some (u, b.drop k')) ∨ (bad = true ∧ pN 0 0 (b.drop k) = none)) := by
  refine (rnumber_any2 B r b k w1 hh.rd hl).mono ?_
  rintro e w' ⟨hR, h⟩
  have hblk : w'.heap[w.heap.size]? = some (.cells #[.int .i64 0, .int .i64 0, .string ⟨#[]⟩, .slice none 0 0] 24 (0, 0)) := by
    rw [hR.block _ (Array.getElem?_eq_some_iff.1 hh.blk).1 (fun e => by injection e with e; exact hne e)]
    exact hh.blk
  rcases h with ⟨u, k', hp, rfl, hr⟩ | ⟨hp, u, k', hu, rfl, hr⟩
  · exact ⟨u, k', false, (pN_len hp).2, rfl, ⟨hr, hh.R.trans hR, hblk⟩, .inl ⟨rfl, hp⟩⟩
  · exact ⟨u, k', true, hu, rfl, ⟨hr, hh.R.trans hR, hblk⟩, .inr ⟨rfl, hp⟩⟩

set_option maxRecDepth 100000 in
set_option maxHeartbeats 2000000 in
theorem rvalue_int (B r D : Nat) (dep : Int) (b : List UInt8) (k : Nat) (w : World) (h : RAt w B r b k false) (hx : b[k]? = some 1) (hl : b.length ≤ 1000000000000) :
    Calls Try.prog 34 #[.pointer (some ⟨r, 0, none⟩), .int .i64 dep] w (RValPost w B r D b k) := by
  have hrlt := h.lt
  have hBl := h.le
  have hne : w.heap.size ≠ r := by omega
  have hn := Lib.hid (rhead_ok B r b k 1 w h hx hl)
  have hm := Lib.hid (fun w1 hh => rnum_head B r b (k + 1) w w1 hh hne hl)
  have hv : ∀ u rest, pN 0 0 (b.drop (k + 1)) = some (u, rest) → pV D (b.drop k) = some (⟨1, sz u, ⟨#[]⟩, []⟩, rest) := by
    intro u rest hp
    rw [drop_cons hx]
    unfold pV
    rw [if_pos (by decide), hp]
    rfl
  have hv0 : pN 0 0 (b.drop (k + 1)) = none → pV D (b.drop k) = none := by
    intro hp
    rw [drop_cons hx]
    unfold pV
    rw [if_pos (by decide), hp]
    rfl
  replace hv := Lib.hid hv
  replace hv0 := Lib.hid hv0
  unfold RValPost
  clear h hx
  go_enter Try.func34, Try.ntmps34
  go_wp2_with fail
  refine hn.out.mono ?_
  rintro e w1 ⟨rfl, hh⟩
  have hk := hm.out w1 hh
  obtain ⟨⟨q0, q1, q2, q3⟩, f0, f1, f2, f3⟩ := cells4 hh.blk
  go_wp2_with fail
  refine hk.mono ?_
  rintro e w2 ⟨u, k', bad, hu, rfl, hh2, hcase⟩
  clear q0 q1 q2 q3 f0 f1 f2 f3 hk hh hn hm
  obtain ⟨⟨q0, q1, q2, q3⟩, f0, f1, f2, f3⟩ := cells4 hh2.blk
  have hpost : ∀ (v : Int), v = sz u → ∀ W, Rd w W r ∧ RAt W B r b k' bad → Rd w W r ∧ ∃ (x : V) (v' : Value), Ending.returned (.agg #[.int .i64 1, .int .i64 v, .string ⟨#[]⟩, .slice none 0 0]) = .returned (vv x v') ∧ RSb (fun j => w.heap.size ≤ j ∧ j < W.heap.size) W D x.l v' ∧
      ((∃ k', pV D (b.drop k) = some (x, b.drop k') ∧ RAt W B r b k' false) ∨ (pV D (b.drop k) = none ∧ ∃ k', RAt W B r b k' true)) := by
    rintro v rfl W ⟨h1, h2⟩
    refine ⟨h1, ⟨1, sz u, ⟨#[]⟩, []⟩, _, rfl, RSb.nil _ _ _, ?_⟩
    rcases hcase with ⟨rfl, hp⟩ | ⟨rfl, hp⟩
    · exact .inl ⟨k', hv.out u _ hp, h2⟩
    · exact .inr ⟨hv0.out hp, k', h2⟩
  replace hpost := Lib.hid hpost
  clear hcase
  by_cases hu2 : u % 2 = 0
  · have hs : ((u / 2 : Nat) : Int) = sz u := by unfold sz; rw [if_pos hu2]
    have ht : ((u : Int) % 2 == 1) = false := by simp; omega
    replace hs := Lib.hid hs
    clear hu2
    go_wp2_with fail
    obtain ⟨hR3, hrd3⟩ := rall4_rd hh2.R hh2.rd (Nat.le_refl _) hne hBl (.int .i64 1) (.int .i64 ((u : Int) / 2)) (.string ⟨#[]⟩) (.slice none 0 0)
    exact rvalue_end rfl rfl (all4_heap hh2.blk _ _ _ _) (hpost.out _ (by rw [← hs.out]; omega) _ ⟨hR3, hrd3⟩)
  · have hs : -((u / 2 : Nat) : Int) - 1 = sz u := by unfold sz; rw [if_neg hu2]
    have ht : ((u : Int) % 2 == 1) = true := by simp; omega
    replace hs := Lib.hid hs
    clear hu2
    go_wp2_with fail
    obtain ⟨hR3, hrd3⟩ := rall4_rd hh2.R hh2.rd (Nat.le_refl _) hne hBl (.int .i64 1) (.int .i64 (-((u : Int) / 2) - 1)) (.string ⟨#[]⟩) (.slice none 0 0)
    exact rvalue_end rfl rfl (all4_heap hh2.blk _ _ _ _) (hpost.out _ (by rw [← hs.out]; omega) _ ⟨hR3, hrd3⟩)
end Go.Proofs.Ytofmkmjboekodaa
