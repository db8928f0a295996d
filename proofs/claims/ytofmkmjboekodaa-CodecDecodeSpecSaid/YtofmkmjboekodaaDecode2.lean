/- The walk of codec.Decode where a value is read. -/
import Derived.Test.YtofmkmjboekodaaDecode
namespace Go.Proofs.Ytofmkmjboekodaa
open Go.RowKit Cdc
set_option linter.unusedVariables false
set_option linter.unusedSimpArgs false

/-- what Decode's walk wants behind the call of value -/
structure Got (w w1 : World) (x : V) (A' : Option Addr) (c' n : Nat) : Prop where
  below : Below w.heap.size w w1
  b : w1.heap[w.heap.size]? = some (.cells #[.int .i64 0, .int .i64 0, .string ⟨#[]⟩, .slice none 0 0] 24 (0, 0))
  d : w1.heap[w.heap.size + 1]? = some (.cells #[.int .i64 0] 28 (0, 0))
  r : ∃ A2 c2, w1.cell? ⟨w.heap.size + 1 + 1, 0, none⟩ = some (.slice A2 n c2)
  rs : RSb (fun k => w.heap.size + 1 < k ∧ k < w1.heap.size) w1 16 x.l (.slice A' x.l.length c')

theorem got_of (xs : List UInt8) (A : Option Addr) (c : Nat) (w : World) (hl : xs.length ≤ 10000000) (hc : xs.length ≤ c) (hrb : RB w w.heap.size (w.heap.size + 1 + 1) A xs) (x : V) (rest : List UInt8) (h : pV 16 xs = some (x, rest)) :
    Calls Try.prog 32 #[.pointer (some ⟨w.heap.size + 1 + 1, 0, none⟩), .int .i64 0] (W3 w A xs.length c) fun e w' => ∃ A' c', e = .returned (vv x (.slice A' x.l.length c')) ∧ Got w w' x A' c' rest.length := by
  refine (value_any w.heap.size (w.heap.size + 1 + 1) 16 (Nat.le_refl _) _ xs (W3_rd w A xs c hc hrb) (by omega)).mono ?_
  rintro e w' ⟨h1, ⟨x2, rest2, v', h2, h3, h4, h5⟩ | ⟨h2, _⟩⟩
  · rw [h] at h2
    injection h2 with h2
    injection h2 with h6 h7
    subst h6 h7
    obtain ⟨A', c', rfl⟩ := h4.form
    obtain ⟨k1, k2, k3⟩ := W3_below w w' A _ c h1
    obtain ⟨A2, c2, hh, _⟩ := h5.cell
    exact ⟨A', c', h3, k1, k2, k3, ⟨A2, c2, by simp [World.cell?, hh]⟩, h4.keep (fun k hk => ⟨by have := hk.1; simp at this; omega, hk.2⟩) fun _ _ => rfl⟩
  · rw [h] at h2; cases h2

theorem setCell_keep (w : World) (p : Addr) (v : Value) : (w.setCell p v).os = w.os ∧ (w.setCell p v).tape = w.tape ∧ (w.setCell p v).output = w.output := ⟨rfl, rfl, rfl⟩

theorem all4_keep (w : World) (b : Nat) (y0 y1 y2 y3 : Value) : (all4 w b y0 y1 y2 y3).os = w.os ∧ (all4 w b y0 y1 y2 y3).tape = w.tape ∧ (all4 w b y0 y1 y2 y3).output = w.output := by
  unfold all4
  refine ⟨?_, ?_, ?_⟩
  · rw [(setCell_keep _ _ _).1, (setCell_keep _ _ _).1, (setCell_keep _ _ _).1, (setCell_keep _ _ _).1]
  · rw [(setCell_keep _ _ _).2.1, (setCell_keep _ _ _).2.1, (setCell_keep _ _ _).2.1, (setCell_keep _ _ _).2.1]
  · rw [(setCell_keep _ _ _).2.2, (setCell_keep _ _ _).2.2, (setCell_keep _ _ _).2.2, (setCell_keep _ _ _).2.2]

theorem all4_twice {w1 : World} {b d : Nat} {x0 x1 x2 x3 e0 : Value} (hb : w1.heap[b]? = some (.cells #[x0, x1, x2, x3] 24 (0, 0))) (hd : w1.heap[d]? = some (.cells #[e0] 28 (0, 0))) (hne : d ≠ b) (y0 y1 y2 y3 e : Value) :
    ((all4 (all4 w1 b y0 y1 y2 y3) b y0 y1 y2 y3).setCell ⟨d, 0, none⟩ e).heap[b]? = some (.cells #[y0, y1, y2, y3] 24 (0, 0)) ∧ ((all4 (all4 w1 b y0 y1 y2 y3) b y0 y1 y2 y3).setCell ⟨d, 0, none⟩ e).heap[d]? = some (.cells #[e] 28 (0, 0)) ∧
      (∀ k, k ≠ b → k ≠ d → ((all4 (all4 w1 b y0 y1 y2 y3) b y0 y1 y2 y3).setCell ⟨d, 0, none⟩ e).heap[k]? = w1.heap[k]?) ∧ ((all4 (all4 w1 b y0 y1 y2 y3) b y0 y1 y2 y3).setCell ⟨d, 0, none⟩ e).heap.size = w1.heap.size ∧
      (((all4 (all4 w1 b y0 y1 y2 y3) b y0 y1 y2 y3).setCell ⟨d, 0, none⟩ e).os = w1.os ∧ ((all4 (all4 w1 b y0 y1 y2 y3) b y0 y1 y2 y3).setCell ⟨d, 0, none⟩ e).tape = w1.tape ∧ ((all4 (all4 w1 b y0 y1 y2 y3) b y0 y1 y2 y3).setCell ⟨d, 0, none⟩ e).output = w1.output) := by
  have h1 := all4_heap (all4_heap hb y0 y1 y2 y3) y0 y1 y2 y3
  have hk : ∀ k, k ≠ b → (all4 (all4 w1 b y0 y1 y2 y3) b y0 y1 y2 y3).heap[k]? = w1.heap[k]? := fun k hk => (all4_other hk y0 y1 y2 y3).trans (all4_other hk y0 y1 y2 y3)
  have hz : (all4 (all4 w1 b y0 y1 y2 y3) b y0 y1 y2 y3).heap.size = w1.heap.size := (all4_size y0 y1 y2 y3).trans (all4_size y0 y1 y2 y3)
  have ho : (all4 (all4 w1 b y0 y1 y2 y3) b y0 y1 y2 y3).os = w1.os ∧ (all4 (all4 w1 b y0 y1 y2 y3) b y0 y1 y2 y3).tape = w1.tape ∧ (all4 (all4 w1 b y0 y1 y2 y3) b y0 y1 y2 y3).output = w1.output :=
    ⟨(all4_keep _ _ _ _ _ _).1.trans (all4_keep _ _ _ _ _ _).1, (all4_keep _ _ _ _ _ _).2.1.trans (all4_keep _ _ _ _ _ _).2.1, (all4_keep _ _ _ _ _ _).2.2.trans (all4_keep _ _ _ _ _ _).2.2⟩
  generalize all4 (all4 w1 b y0 y1 y2 y3) b y0 y1 y2 y3 = W at h1 hk hz ho ⊢
  refine ⟨(heap_setCell_other W ⟨d, 0, none⟩ b e (fun h => hne h.symm)).trans h1, heap_setCell_same W d 0 _ _ e ((hk d hne).trans hd), fun k h2 h3 => (heap_setCell_other W ⟨d, 0, none⟩ k e h3).trans (hk k h2), by simpa using hz, (setCell_keep _ _ _).1.trans ho.1, (setCell_keep _ _ _).2.1.trans ho.2.1, (setCell_keep _ _ _).2.2.trans ho.2.2⟩

set_option maxRecDepth 100000 in
set_option maxHeartbeats 1000000 in
theorem decode_ok (xs : List UInt8) (A : Option Addr) (c : Nat) (w : World) (hl : xs.length ≤ 10000000) (hc : xs.length ≤ c) (hrb : RB w w.heap.size (w.heap.size + 1 + 1) A xs) (x : V) (h : pV 16 xs = some (x, [])) :
    Calls Try.prog 18 #[.slice A xs.length c] w (DecPost w xs) := by
  have hmf : ∀ (fn : Fn) (first cap : Array Value) (w : World), (Instr.makeFunc fn first cap).run Try.prog w = .ok (.func fn first cap) w := fun _ _ _ _ => rfl
  have hdc : dcV xs = some x := by unfold dcV; rw [h]
  have hv := Lib.hid (got_of xs A c w hl hc hrb x [] h)
  unfold DecPost
  clear h hrb
  go_enter_defers Try.func18, Try.ntmps18
  go_wp2_with (first
    | (go_at_call 33; refine (want_true _ _).mono ?_; rintro e w2 ⟨rfl, rfl⟩)
    | (go_at_call 32; refine hv.out.mono ?_; rintro e w1 ⟨A', c', rfl, hG⟩; obtain ⟨⟨q0, q1, q2, q3⟩, f0, f1, f2, f3⟩ := cells4 hG.b; obtain ⟨t0, s0⟩ := cells1 hG.d; obtain ⟨A2, c2, r0⟩ := hG.r))
  change bodyPostD _ _ _ _ _ ((all4 (all4 w1 w.heap.size (.int .i64 x.k) (.int .i64 x.n) (.string x.s) (.slice A' x.l.length c')) w.heap.size (.int .i64 x.k) (.int .i64 x.n) (.string x.s) (.slice A' x.l.length c')).setCell ⟨w.heap.size + 1, 0, none⟩ (.int .i64 0))
  obtain ⟨hb2, hd2, hk2, hz2, ho2⟩ := all4_twice hG.b hG.d (by omega) (.int .i64 x.k) (.int .i64 x.n) (.string x.s) (.slice A' x.l.length c') (.int .i64 0)
  generalize (all4 (all4 w1 w.heap.size (.int .i64 x.k) (.int .i64 x.n) (.string x.s) (.slice A' x.l.length c')) w.heap.size (.int .i64 x.k) (.int .i64 x.n) (.string x.s) (.slice A' x.l.length c')).setCell ⟨w.heap.size + 1, 0, none⟩ (.int .i64 0) = W6 at hb2 hd2 hk2 hz2 ho2 ⊢
  refine leaves_cons (f := 31) (args := #[.pointer (some ⟨w.heap.size, 0, none⟩), .pointer (some ⟨w.heap.size + 1, 0, none⟩)]) (by simp) (by simp [go_sem]) ?_
  refine (catch_idle _ _ _).mono ?_
  rintro e u' w'' ⟨rfl, rfl, rfl⟩
  have hB := hG.below
  refine decode_end rfl rfl hb2 hd2 ⟨⟨ho2.1.trans hB.os, ho2.2.1.trans hB.tape, ho2.2.2.trans hB.output, by rw [hz2]; exact hB.size, fun k hk => (hk2 k (by omega) (by omega)).trans (hB.block k hk)⟩, .inl ⟨x, .slice A' x.l.length c', hdc, rfl, ?_⟩⟩
  exact (hG.rs.keep (S' := fun k => k < w''.heap.size) (fun k hk => by rw [hz2]; exact hk.2) fun k hk => hk2 k (by omega) (by omega)).rs fun k hk => hk

/-- what the closure leaves -/
theorem all4_then {w1 : World} {b d : Nat} {x0 x1 x2 x3 e0 : Value} (hb : w1.heap[b]? = some (.cells #[x0, x1, x2, x3] 24 (0, 0))) (hd : w1.heap[d]? = some (.cells #[e0] 28 (0, 0))) (hne : d ≠ b) (y0 y1 y2 y3 e : Value) :
    ((all4 w1 b y0 y1 y2 y3).setCell ⟨d, 0, none⟩ e).drew.heap[b]? = some (.cells #[y0, y1, y2, y3] 24 (0, 0)) ∧ ((all4 w1 b y0 y1 y2 y3).setCell ⟨d, 0, none⟩ e).drew.heap[d]? = some (.cells #[e] 28 (0, 0)) ∧
      (∀ k, k ≠ b → k ≠ d → ((all4 w1 b y0 y1 y2 y3).setCell ⟨d, 0, none⟩ e).drew.heap[k]? = w1.heap[k]?) ∧ ((all4 w1 b y0 y1 y2 y3).setCell ⟨d, 0, none⟩ e).drew.heap.size = w1.heap.size ∧
      (((all4 w1 b y0 y1 y2 y3).setCell ⟨d, 0, none⟩ e).drew.os = w1.os ∧ ((all4 w1 b y0 y1 y2 y3).setCell ⟨d, 0, none⟩ e).drew.tape = w1.tape ∧ ((all4 w1 b y0 y1 y2 y3).setCell ⟨d, 0, none⟩ e).drew.output = w1.output) := by
  have h1 := all4_heap hb y0 y1 y2 y3
  have hk : ∀ k, k ≠ b → (all4 w1 b y0 y1 y2 y3).heap[k]? = w1.heap[k]? := fun k hk => all4_other hk y0 y1 y2 y3
  have hz : (all4 w1 b y0 y1 y2 y3).heap.size = w1.heap.size := all4_size y0 y1 y2 y3
  have ho := all4_keep w1 b y0 y1 y2 y3
  generalize all4 w1 b y0 y1 y2 y3 = W at h1 hk hz ho ⊢
  have h2 := heap_setCell_same W d 0 _ _ e ((hk d hne).trans hd)
  have h3 : ∀ k, k ≠ d → (W.setCell ⟨d, 0, none⟩ e).heap[k]? = W.heap[k]? := fun k hk => heap_setCell_other W ⟨d, 0, none⟩ k e hk
  have h4 : (W.setCell ⟨d, 0, none⟩ e).heap.size = W.heap.size := by simp
  have h5 := setCell_keep W ⟨d, 0, none⟩ e
  generalize W.setCell ⟨d, 0, none⟩ e = W2 at h2 h3 h4 h5 ⊢
  exact ⟨(h3 b (fun h => hne h.symm)).trans h1, h2, fun k k1 k2 => (h3 k k2).trans (hk k k1), h4.trans hz, h5.1.trans ho.1, h5.2.1.trans ho.2.1, h5.2.2.trans ho.2.2⟩

set_option maxRecDepth 100000 in
set_option maxHeartbeats 1000000 in
theorem decode_rest (xs : List UInt8) (A : Option Addr) (c : Nat) (w : World) (hl : xs.length ≤ 10000000) (hc : xs.length ≤ c) (hrb : RB w w.heap.size (w.heap.size + 1 + 1) A xs) (x : V) (y : UInt8) (ys : List UInt8) (h : pV 16 xs = some (x, y :: ys)) :
    Calls Try.prog 18 #[.slice A xs.length c] w (DecPost w xs) := by
  have hmf : ∀ (fn : Fn) (first cap : Array Value) (w : World), (Instr.makeFunc fn first cap).run Try.prog w = .ok (.func fn first cap) w := fun _ _ _ _ => rfl
  have hdc : dcV xs = none := by unfold dcV; rw [h]
  have hv := Lib.hid (got_of xs A c w hl hc hrb x (y :: ys) h)
  have hn0 : (((y :: ys).length : Int) == 0) = false := by simp; omega
  unfold DecPost
  clear h hrb
  generalize hN : (y :: ys).length = N at hv hn0
  clear hN
  go_enter_defers Try.func18, Try.ntmps18
  go_wp2_with (first
    | (go_at_call 33; refine (want_false _ _).mono ?_; rintro e w2 ⟨rfl, rfl⟩)
    | (go_at_call 32; refine hv.out.mono ?_; rintro e w1 ⟨A', c', rfl, hG⟩; obtain ⟨⟨q0, q1, q2, q3⟩, f0, f1, f2, f3⟩ := cells4 hG.b; obtain ⟨t0, s0⟩ := cells1 hG.d; obtain ⟨A2, c2, r0⟩ := hG.r))
  change bodyPostD _ _ _ _ _ (all4 w1 w.heap.size (.int .i64 x.k) (.int .i64 x.n) (.string x.s) (.slice A' x.l.length c'))
  have hb1 := all4_heap hG.b (.int .i64 x.k) (.int .i64 x.n) (.string x.s) (.slice A' x.l.length c')
  have hd1 := (all4_other (w := w1) (b := w.heap.size) (k := w.heap.size + 1) (by omega) (.int .i64 x.k) (.int .i64 x.n) (.string x.s) (.slice A' x.l.length c')).trans hG.d
  have hk1 : ∀ k, k ≠ w.heap.size → (all4 w1 w.heap.size (.int .i64 x.k) (.int .i64 x.n) (.string x.s) (.slice A' x.l.length c')).heap[k]? = w1.heap[k]? := fun k hk => all4_other hk _ _ _ _
  have hz1 : (all4 w1 w.heap.size (.int .i64 x.k) (.int .i64 x.n) (.string x.s) (.slice A' x.l.length c')).heap.size = w1.heap.size := all4_size _ _ _ _
  have ho1 := all4_keep w1 w.heap.size (.int .i64 x.k) (.int .i64 x.n) (.string x.s) (.slice A' x.l.length c')
  generalize all4 w1 w.heap.size (.int .i64 x.k) (.int .i64 x.n) (.string x.s) (.slice A' x.l.length c') = W5 at hb1 hd1 hk1 hz1 ho1 ⊢
  refine leaves_cons (f := 31) (args := #[.pointer (some ⟨w.heap.size, 0, none⟩), .pointer (some ⟨w.heap.size + 1, 0, none⟩)]) (by simp) (by simp [go_sem]) ?_
  refine (catch_panicking w.heap.size (w.heap.size + 1) _ _ _ _ _ [] _ hb1 hd1 (by omega)).mono ?_
  rintro e u' w'' ⟨rfl, rfl, rfl⟩
  obtain ⟨hb2, hd2, hk2, hz2, ho2⟩ := all4_then hb1 hd1 (by omega) (.int .i64 0) (.int .i64 0) (.string ⟨#[]⟩) (.slice none 0 0) (.int .i64 10)
  generalize ((all4 W5 w.heap.size (.int .i64 0) (.int .i64 0) (.string ⟨#[]⟩) (.slice none 0 0)).setCell ⟨w.heap.size + 1, 0, none⟩ (.int .i64 10)).drew = W6 at hb2 hd2 hk2 hz2 ho2 ⊢
  have hB := hG.below
  change Leaves _ _ _ _ _ FrameMode.returning _
  exact decode_end rfl rfl hb2 hd2 ⟨⟨ho2.1.trans (ho1.1.trans hB.os), ho2.2.1.trans (ho1.2.1.trans hB.tape), ho2.2.2.trans (ho1.2.2.trans hB.output), by rw [hz2, hz1]; exact hB.size, fun k hk => (hk2 k (by omega) (by omega)).trans ((hk1 k (by omega)).trans (hB.block k hk))⟩, .inr ⟨hdc, rfl⟩⟩

theorem decode_any (xs : List UInt8) (A : Option Addr) (c : Nat) (w : World) (hl : xs.length ≤ 10000000) (hc : xs.length ≤ c) (hrb : RB w w.heap.size (w.heap.size + 1 + 1) A xs) :
    Calls Try.prog 18 #[.slice A xs.length c] w (DecPost w xs) := by
  cases h : pV 16 xs with
  | none => exact decode_none xs A c w hl hc hrb h
  | some q =>
    obtain ⟨x, rest⟩ := q
    cases rest with
    | nil => exact decode_ok xs A c w hl hc hrb x h
    | cons y ys => exact decode_rest xs A c w hl hc hrb x y ys h
end Go.Proofs.Ytofmkmjboekodaa
