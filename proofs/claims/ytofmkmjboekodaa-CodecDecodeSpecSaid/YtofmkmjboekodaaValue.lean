/- The walk of codec.reader's value. -/
import Derived.Test.YtofmkmjboekodaaNumber
import Derived.Test.YtofmkmjboekodaaRefNum
import Derived.Laws.IdiomStrings
import Derived.Lib.BufferRead
namespace Go.Proofs.Ytofmkmjboekodaa
open Go.RowKit Cdc
set_option linter.unusedVariables false
set_option linter.unusedSimpArgs false

/-- the slice v holds the values l, nested at most d deep, in blocks that S names -/
def RSb (S : Nat → Prop) (w : World) : Nat → List V → Value → Prop
  | 0, l, v => l = [] ∧ ∃ A c, v = .slice A 0 c
  | d + 1, l, v => ∃ A c, v = .slice A l.length c ∧ l.length ≤ c ∧ ∀ i y, l[i]? = some y → ∃ b o v', A = some ⟨b, o, none⟩ ∧ S b ∧
      w.cell? ⟨b, o + i * 4, none⟩ = some (.int .i64 y.k) ∧ w.cell? ⟨b, o + i * 4 + 1, none⟩ = some (.int .i64 y.n) ∧ w.cell? ⟨b, o + i * 4 + 2, none⟩ = some (.string y.s) ∧
      w.cell? ⟨b, o + i * 4 + 3, none⟩ = some v' ∧ RSb S w d y.l v'

theorem RSb.keep {S S' : Nat → Prop} {w w' : World} (hS : ∀ k, S k → S' k) (hk : ∀ k, S k → w'.heap[k]? = w.heap[k]?) : ∀ {d : Nat} {l : List V} {v : Value}, RSb S w d l v → RSb S' w' d l v
  | 0, _, _, h => h
  | d + 1, l, v, h => by
    obtain ⟨A, c, hv, hc, hi⟩ := h
    refine ⟨A, c, hv, hc, fun i y hy => ?_⟩
    obtain ⟨b, o, v', hA, hb, h0, h1, h2, h3, hr⟩ := hi i y hy
    exact ⟨b, o, v', hA, hS b hb, (World.cell?_of_block (a := ⟨b, _, none⟩) (hk b hb)).trans h0, (World.cell?_of_block (a := ⟨b, _, none⟩) (hk b hb)).trans h1, (World.cell?_of_block (a := ⟨b, _, none⟩) (hk b hb)).trans h2, (World.cell?_of_block (a := ⟨b, _, none⟩) (hk b hb)).trans h3, hr.keep hS hk⟩

theorem RSb.rs {S : Nat → Prop} {w : World} (hS : ∀ k, S k → k < w.heap.size) : ∀ {d : Nat} {l : List V} {v : Value}, RSb S w d l v → RS w d l v
  | 0, _, _, h => h
  | d + 1, l, v, h => by
    obtain ⟨A, c, hv, hc, hi⟩ := h
    refine ⟨A, c, hv, hc, fun i y hy => ?_⟩
    obtain ⟨b, o, v', hA, hb, h0, h1, h2, h3, hr⟩ := hi i y hy
    exact ⟨b, o, v', hA, hS b hb, h0, h1, h2, h3, hr.rs hS⟩

theorem RSb.nil (S : Nat → Prop) (w : World) (d : Nat) : RSb S w d [] (.slice none 0 0) := by
  cases d with
  | zero => exact ⟨rfl, none, 0, rfl⟩
  | succ d => exact ⟨none, 0, rfl, Nat.zero_le _, fun i y h => by simp at h⟩

theorem RSb.form {S : Nat → Prop} {w : World} {d : Nat} {l : List V} {v : Value} (h : RSb S w d l v) : ∃ A c, v = .slice A l.length c := by
  cases d with
  | zero => obtain ⟨rfl, A, c, rfl⟩ := h; exact ⟨A, c, rfl⟩
  | succ d => obtain ⟨A, c, hv, _⟩ := h; exact ⟨A, c, hv⟩

def ValPost (w : World) (B r D : Nat) (xs : List UInt8) (e : Ending) (w' : World) : Prop :=
  Rd w w' r ∧ ((∃ x rest v', pV D xs = some (x, rest) ∧ e = .returned (vv x v') ∧ RSb (fun k => w.heap.size ≤ k ∧ k < w'.heap.size) w' D x.l v' ∧ RdAt w' B r rest) ∨ (pV D xs = none ∧ e = errP))

theorem cells4 {w : World} {g : Nat} {a b c d : Value} (h : w.heap[g]? = some (.cells #[a, b, c, d] 24 (0, 0))) :
    (w.cell? ⟨g, 0, none⟩ = some a ∧ w.cell? ⟨g, 1, none⟩ = some b ∧ w.cell? ⟨g, 2, none⟩ = some c ∧ w.cell? ⟨g, 3, none⟩ = some d) ∧ w.frozen? ⟨g, 0, none⟩ = false ∧ w.frozen? ⟨g, 1, none⟩ = false ∧ w.frozen? ⟨g, 2, none⟩ = false ∧ w.frozen? ⟨g, 3, none⟩ = false :=
  ⟨by simp [World.cell?, h], frozen_of_row w g 0 _ _ h, frozen_of_row w g 1 _ _ h, frozen_of_row w g 2 _ _ h, frozen_of_row w g 3 _ _ h⟩

theorem RdAt.other {w : World} {B r : Nat} {xs : List UInt8} (h : RdAt w B r xs) (p : Addr) (u : Value) (h1 : p.block ≠ r) (h2 : B ≤ p.block) : RdAt (w.setCell p u) B r xs := by
  obtain ⟨A, c, hh, h3, h4⟩ := h.cell
  exact ⟨by simpa using h.lt, by simpa using h.le, A, c, (heap_setCell_other w p r u (fun e => h1 e.symm)).trans hh, h3, h4.keep fun k hk _ => heap_setCell_other w p k u (fun e => by omega)⟩

theorem Rd.set_new {w W : World} {r : Nat} (h : Rd w W r) (p : Addr) (u : Value) (hp : w.heap.size ≤ p.block) : Rd w (W.setCell p u) r :=
  ⟨h.os, h.tape, h.output, by simpa using h.size, fun k hk hne => (heap_setCell_other W p k u (fun e => by omega)).trans (h.block k hk hne)⟩

set_option maxRecDepth 100000 in
set_option maxHeartbeats 1000000 in
theorem value_none (B r D : Nat) (dep : Int) (w : World) (h : RdAt w B r []) :
    Calls Try.prog 32 #[.pointer (some ⟨r, 0, none⟩), .int .i64 dep] w (ValPost w B r D []) := by
  have hrd : RdAt (w.alloc (.cells #[.int .i64 0, .int .i64 0, .string ⟨#[]⟩, .slice none 0 0] 24)) B r [] := h.of (World.grownBy_alloc _ _ _)
  unfold ValPost
  go_enter Try.func32, Try.ntmps32
  go_wp2_with (go_at_call 44; refine (take_bad B r 1 [] _ hrd (by simp) (by simp)).mono ?_; rintro e w' ⟨rfl, rfl⟩)
  refine ⟨rfl, World.grownBy_alloc _ _ _, .inr ⟨?_, rfl⟩⟩
  cases D <;> rfl

/-- the four cells of a value are stored anew -/
def all4 (w : World) (b : Nat) (y0 y1 y2 y3 : Value) : World := (((w.setCell ⟨b, 0, none⟩ y0).setCell ⟨b, 1, none⟩ y1).setCell ⟨b, 2, none⟩ y2).setCell ⟨b, 3, none⟩ y3

theorem all4_heap {w : World} {b : Nat} {x0 x1 x2 x3 : Value} (h : w.heap[b]? = some (.cells #[x0, x1, x2, x3] 24 (0, 0))) (y0 y1 y2 y3 : Value) :
    (all4 w b y0 y1 y2 y3).heap[b]? = some (.cells #[y0, y1, y2, y3] 24 (0, 0)) := by
  have h0 := heap_setCell_same w b 0 _ _ y0 h
  have h1 := heap_setCell_same _ b 1 _ _ y1 h0
  have h2 := heap_setCell_same _ b 2 _ _ y2 h1
  exact heap_setCell_same _ b 3 _ _ y3 h2

theorem all4_rd {w W : World} {B r b : Nat} {xs : List UInt8} (hR : Rd w W r) (h : RdAt W B r xs) (hb : w.heap.size ≤ b) (hne : b ≠ r) (hB : B ≤ b) (y0 y1 y2 y3 : Value) :
    Rd w (all4 W b y0 y1 y2 y3) r ∧ RdAt (all4 W b y0 y1 y2 y3) B r xs :=
  ⟨(((hR.set_new _ _ hb).set_new _ _ hb).set_new _ _ hb).set_new _ _ hb, (((h.other _ _ hne hB).other _ _ hne hB).other _ _ hne hB).other _ _ hne hB⟩

theorem all4_other {w : World} {b k : Nat} (hk : k ≠ b) (y0 y1 y2 y3 : Value) : (all4 w b y0 y1 y2 y3).heap[k]? = w.heap[k]? := by
  unfold all4
  rw [heap_setCell_other _ _ k _ hk, heap_setCell_other _ _ k _ hk, heap_setCell_other _ _ k _ hk, heap_setCell_other _ _ k _ hk]

theorem all4_size {w : World} {b : Nat} (y0 y1 y2 y3 : Value) : (all4 w b y0 y1 y2 y3).heap.size = w.heap.size := by simp [all4]

/-- the end of value: its result is read out of its cells -/
theorem value_end {W : World} {b : Nat} {y0 y1 y2 y3 : Value} {R : Ending → World → Prop} {a : Act} (ha : a.tmps[4]? = some (.pointer (some ⟨b, 0, none⟩))) (hd : a.defers = [])
    (h : W.heap[b]? = some (.cells #[y0, y1, y2, y3] 24 (0, 0))) (hR : R (.returned (.agg #[y0, y1, y2, y3])) W) : bodyPost Try.prog Try.f32 R .ret a W := by
  obtain ⟨⟨q0, q1, q2, q3⟩, _⟩ := cells4 h
  refine bodyPost_ret (v := .agg #[y0, y1, y2, y3]) ?_ hd hR
  simp [results, Try.results32, go_sem, ha, q0, q1, q2, q3]

/-- behind the first byte: what holds of the world -/
structure Head (w w1 : World) (B r : Nat) (xs : List UInt8) : Prop where
  rd : RdAt w1 B r xs
  R : Rd w w1 r
  blk : w1.heap[w.heap.size]? = some (.cells #[.int .i64 0, .int .i64 0, .string ⟨#[]⟩, .slice none 0 0] 24 (0, 0))

theorem head_take (B r : Nat) (c : UInt8) (xs : List UInt8) (w : World) (h : RdAt w B r (c :: xs)) (hl : xs.length ≤ 100000000000) :
    Calls Try.prog 44 #[.pointer (some ⟨r, 0, none⟩), .int .i64 1] (w.alloc (.cells #[.int .i64 0, .int .i64 0, .string ⟨#[]⟩, .slice none 0 0] 24))
      fun e w1 => ∃ ad, e = .returned (.slice (some ad) 1 1) ∧ w1.cell? ad = some (.int .u8 c.toNat) ∧ Head w w1 B r xs := by
  have hrd : RdAt (w.alloc (.cells #[.int .i64 0, .int .i64 0, .string ⟨#[]⟩, .slice none 0 0] 24)) B r (c :: xs) := h.of (World.grownBy_alloc _ _ _)
  refine (take_one B r c xs _ hrd (by simp; omega)).mono ?_
  rintro e w1 ⟨ad, rfl, hcell, hrd1, hR1⟩
  refine ⟨ad, rfl, hcell, hrd1, Rd.trans (World.grownBy_alloc _ _ _) hR1, ?_⟩
  rw [hR1.block _ (by simp) (fun e => by injection e with e; have := h.lt; omega)]
  exact heap_alloc_new w _

set_option maxRecDepth 100000 in
set_option maxHeartbeats 1000000 in
theorem value_int (B r D : Nat) (dep : Int) (xs : List UInt8) (w : World) (h : RdAt w B r (1 :: xs)) (hl : xs.length ≤ 100000000000) :
    Calls Try.prog 32 #[.pointer (some ⟨r, 0, none⟩), .int .i64 dep] w (ValPost w B r D (1 :: xs)) := by
  have htk := Lib.hid (head_take B r 1 xs w h hl)
  have hrlt := h.lt
  have hBle := h.le
  have hne : ¬ (⟨w.heap.size, 0, none⟩ : Addr).block = r := by dsimp only; omega
  unfold ValPost
  cases hp : pN 0 0 xs with
  | none =>
    have hv : pV D (1 :: xs) = none := by unfold pV; rw [if_pos (by decide), hp]; rfl
    have hn : Hid (∀ w1, Head w w1 B r xs → Calls Try.prog 46 #[.pointer (some ⟨r, 0, none⟩)] (w1.setCell ⟨w.heap.size, 0, none⟩ (.int .i64 1)) fun e w' => e = errP ∧ Rd w w' r) := by
      intro w1 hh
      refine (number_any B r xs _ (hh.rd.other _ _ hne hBle) (by omega)).mono ?_
      rintro e w' ⟨h1, ⟨u, rest, h2, _⟩ | ⟨_, h2⟩⟩
      · rw [hp] at h2; cases h2
      · exact ⟨h2, (hh.R.set_new _ _ (Nat.le_refl _)).trans h1⟩
    clear h hp
    go_enter Try.func32, Try.ntmps32
    go_wp2_with (first
      | (go_at_call 44; refine htk.out.mono ?_; rintro e w1 ⟨ad, rfl, hcell, hh⟩; obtain ⟨⟨q0, q1, q2, q3⟩, f0, f1, f2, f3⟩ := cells4 hh.blk)
      | (go_at_call 46; refine (hn.out w1 hh).mono ?_; rintro e w2 ⟨rfl, hR2⟩))
    exact ⟨rfl, hR2, .inr ⟨hv, rfl⟩⟩
  | some y =>
    obtain ⟨u, rest⟩ := y
    obtain ⟨hl2, hu⟩ := pN_len hp
    have hv : pV D (1 :: xs) = some (⟨1, sz u, ⟨#[]⟩, []⟩, rest) := by unfold pV; rw [if_pos (by decide), hp]; rfl
    have hn : Hid (∀ w1, Head w w1 B r xs → Calls Try.prog 46 #[.pointer (some ⟨r, 0, none⟩)] (w1.setCell ⟨w.heap.size, 0, none⟩ (.int .i64 1))
        fun e w' => e = .returned (.int .u64 u) ∧ Rd w w' r ∧ RdAt w' B r rest ∧ w'.heap[w.heap.size]? = some (.cells #[.int .i64 1, .int .i64 0, .string ⟨#[]⟩, .slice none 0 0] 24 (0, 0))) := by
      intro w1 hh
      refine (number_any B r xs _ (hh.rd.other _ _ hne hBle) (by omega)).mono ?_
      rintro e w' ⟨h1, ⟨u2, rest2, h2, h3, h4⟩ | ⟨h2, _⟩⟩
      · rw [hp] at h2
        injection h2 with h2
        injection h2 with h5 h6
        subst h5 h6
        refine ⟨h3, (hh.R.set_new _ _ (Nat.le_refl _)).trans h1, h4, ?_⟩
        rw [h1.block _ (by simpa using (Array.getElem?_eq_some_iff.1 hh.blk).1) (fun e => by injection e with e; omega)]
        exact heap_setCell_same w1 w.heap.size 0 _ _ (.int .i64 1) hh.blk
      · rw [hp] at h2; cases h2
    clear h hp
    go_enter Try.func32, Try.ntmps32
    go_wp2_with (first
      | (go_at_call 44; refine htk.out.mono ?_; rintro e w1 ⟨ad, rfl, hcell, hh⟩; obtain ⟨⟨q0, q1, q2, q3⟩, f0, f1, f2, f3⟩ := cells4 hh.blk)
      | (go_at_call 46; refine (hn.out w1 hh).mono ?_; rintro e w2 ⟨rfl, hR2, hrd2, hb2⟩; obtain ⟨⟨p0, p1, p2, p3⟩, z0, z1, z2, z3⟩ := cells4 hb2)
      | (go_at_call 45; refine (signed_any u hu _).mono ?_; rintro e w3 ⟨rfl, rfl⟩))
    have hb3 : (w3.setCell ⟨w.heap.size, 1, none⟩ (.int .i64 (sz u))).heap[w.heap.size]? = some (.cells #[.int .i64 1, .int .i64 (sz u), .string ⟨#[]⟩, .slice none 0 0] 24 (0, 0)) := heap_setCell_same _ _ 1 _ _ _ hb2
    obtain ⟨hR3, hrd3⟩ := all4_rd (b := w.heap.size) (hR2.set_new ⟨w.heap.size, 1, none⟩ (.int .i64 (sz u)) (Nat.le_refl _)) (hrd2.other ⟨w.heap.size, 1, none⟩ (.int .i64 (sz u)) hne hBle) (Nat.le_refl _) hne hBle (.int .i64 1) (.int .i64 (sz u)) (.string ⟨#[]⟩) (.slice none 0 0)
    exact value_end rfl rfl (all4_heap hb3 _ _ _ _) ⟨hR3, .inl ⟨_, rest, _, hv, rfl, RSb.nil _ _ _, hrd3⟩⟩

theorem RB.conv {w : World} {B r : Nat} {A : Option Addr} {xs : List UInt8} (h : RB w B r A xs) (n c : Nat) (hn : n = xs.length) :
    (convert 27 9 (.slice A n c)).run Try.prog w = .ok (.string ⟨xs.toArray⟩) w := by
  subst hn
  cases A with
  | none =>
    cases xs with
    | nil => exact Lib.run_convert_nil_bytes w _ _ 5 c Try.underlying27 Try.underlying5 Try.underlying9
    | cons b xs =>
      obtain ⟨ad, hA, _⟩ := h 0 b (by simp)
      cases hA
  | some a =>
    exact run_convert_bytes_back w _ _ 5 a c xs Try.underlying27 Try.underlying5 Try.underlying9 (fun j hj => by
      obtain ⟨ad, hA, _, _, hc⟩ := h j xs[j] (List.getElem?_eq_getElem hj)
      injection hA with hA
      subst hA
      exact hc)

set_option maxRecDepth 100000 in
set_option maxHeartbeats 1000000 in
theorem value_text (B r D : Nat) (dep : Int) (xs : List UInt8) (w : World) (h : RdAt w B r (2 :: xs)) (hl : xs.length ≤ 100000000000) :
    Calls Try.prog 32 #[.pointer (some ⟨r, 0, none⟩), .int .i64 dep] w (ValPost w B r D (2 :: xs)) := by
  have htk := Lib.hid (head_take B r 2 xs w h hl)
  have hrlt := h.lt
  have hBle := h.le
  have hne : ¬ (⟨w.heap.size, 0, none⟩ : Addr).block = r := by dsimp only; omega
  unfold ValPost
  have hnn : ∀ w1, Head w w1 B r xs → Calls Try.prog 47 #[.pointer (some ⟨r, 0, none⟩)] (w1.setCell ⟨w.heap.size, 0, none⟩ (.int .i64 2)) (LenPost (w1.setCell ⟨w.heap.size, 0, none⟩ (.int .i64 2)) B r xs) :=
    fun w1 hh => length_any B r xs _ (hh.rd.other _ _ hne hBle) (by omega)
  by_cases hok : ∃ u rest, pN 0 0 xs = some (u, rest) ∧ u ≤ rest.length
  · obtain ⟨u, rest, hp, hle⟩ := hok
    obtain ⟨hl2, hu⟩ := pN_len hp
    have hv : pV D (2 :: xs) = some (⟨2, 0, ⟨(rest.take u).toArray⟩, []⟩, rest.drop u) := by
      unfold pV
      rw [if_neg (by decide), if_pos (by decide), hp]
      simp only
      rw [if_pos hle]
    have hn : Hid (∀ w1, Head w w1 B r xs → Calls Try.prog 47 #[.pointer (some ⟨r, 0, none⟩)] (w1.setCell ⟨w.heap.size, 0, none⟩ (.int .i64 2))
        fun e w' => e = .returned (.int .i64 u) ∧ Rd w w' r ∧ RdAt w' B r rest ∧ w'.heap[w.heap.size]? = some (.cells #[.int .i64 2, .int .i64 0, .string ⟨#[]⟩, .slice none 0 0] 24 (0, 0))) := by
      intro w1 hh
      refine (hnn w1 hh).mono ?_
      rintro e w' ⟨h1, ⟨u2, rest2, h2, _, h3, h4⟩ | ⟨h2, _⟩⟩
      · rw [hp] at h2
        injection h2 with h2
        injection h2 with h5 h6
        subst h5 h6
        refine ⟨h3, (hh.R.set_new _ _ (Nat.le_refl _)).trans h1, h4, ?_⟩
        rw [h1.block _ (by simpa using (Array.getElem?_eq_some_iff.1 hh.blk).1) (fun e => by injection e with e; omega)]
        exact heap_setCell_same w1 w.heap.size 0 _ _ (.int .i64 2) hh.blk
      · exact absurd hle (h2 u rest hp)
    have ht : Hid (∀ w2, RdAt w2 B r rest → w2.heap[w.heap.size]? = some (.cells #[.int .i64 2, .int .i64 0, .string ⟨#[]⟩, .slice none 0 0] 24 (0, 0)) → Calls Try.prog 44 #[.pointer (some ⟨r, 0, none⟩), .int .i64 u] w2
        fun e w' => ∃ A, e = .returned (.slice A u u) ∧ (convert 27 9 (.slice A u u)).run Try.prog w' = .ok (.string ⟨(rest.take u).toArray⟩) w' ∧ RdAt w' B r (rest.drop u) ∧ Rd w2 w' r ∧
          w'.heap[w.heap.size]? = some (.cells #[.int .i64 2, .int .i64 0, .string ⟨#[]⟩, .slice none 0 0] 24 (0, 0))) := by
      intro w2 hrd2 hb2
      refine (take_ok B r u rest w2 hrd2 hle (by omega)).mono ?_
      rintro e w' ⟨A, rfl, hrb, hrd', hR'⟩
      refine ⟨A, rfl, hrb.conv u u (by simp; omega), hrd', hR', ?_⟩
      rw [hR'.block _ (Array.getElem?_eq_some_iff.1 hb2).1 (fun e => by injection e with e; omega)]
      exact hb2
    clear h hp hnn
    go_enter Try.func32, Try.ntmps32
    go_wp2_with (first
      | (go_at_call 47; refine (hn.out w1 hh).mono ?_; rintro e w2 ⟨rfl, hR2, hrd2, hb2⟩)
      | (go_at_call 44; refine (ht.out w2 hrd2 hb2).mono ?_; rintro e w3 ⟨A3, rfl, hcv, hrd3, hR3, hb3⟩; obtain ⟨⟨p0, p1, p2, p3⟩, z0, z1, z2, z3⟩ := cells4 hb3)
      | (go_at_call 44; refine htk.out.mono ?_; rintro e w1 ⟨ad, rfl, hcell, hh⟩; obtain ⟨⟨q0, q1, q2, q3⟩, f0, f1, f2, f3⟩ := cells4 hh.blk))
    have hb4 : (w3.setCell ⟨w.heap.size, 2, none⟩ (.string ⟨(rest.take u).toArray⟩)).heap[w.heap.size]? = some (.cells #[.int .i64 2, .int .i64 0, .string ⟨(rest.take u).toArray⟩, .slice none 0 0] 24 (0, 0)) := heap_setCell_same _ _ 2 _ _ _ hb3
    obtain ⟨hR4, hrd4⟩ := all4_rd (b := w.heap.size) ((hR2.trans hR3).set_new ⟨w.heap.size, 2, none⟩ (.string ⟨(rest.take u).toArray⟩) (Nat.le_refl _)) (hrd3.other ⟨w.heap.size, 2, none⟩ (.string ⟨(rest.take u).toArray⟩) hne hBle) (Nat.le_refl _) hne hBle (.int .i64 2) (.int .i64 0) (.string ⟨(rest.take u).toArray⟩) (.slice none 0 0)
    exact value_end rfl rfl (all4_heap hb4 _ _ _ _) ⟨hR4, .inl ⟨_, _, _, hv, rfl, RSb.nil _ _ _, hrd4⟩⟩
  · have hv : pV D (2 :: xs) = none := by
      unfold pV
      rw [if_neg (by decide), if_pos (by decide)]
      cases hp : pN 0 0 xs with
      | none => rfl
      | some y =>
        obtain ⟨u, rest⟩ := y
        simp only
        rw [if_neg (fun hle => hok ⟨u, rest, hp, hle⟩)]
    have hn : Hid (∀ w1, Head w w1 B r xs → Calls Try.prog 47 #[.pointer (some ⟨r, 0, none⟩)] (w1.setCell ⟨w.heap.size, 0, none⟩ (.int .i64 2)) fun e w' => e = errP ∧ Rd w w' r) := by
      intro w1 hh
      refine (hnn w1 hh).mono ?_
      rintro e w' ⟨h1, ⟨u2, rest2, h2, h3, _⟩ | ⟨_, h2⟩⟩
      · exact absurd ⟨u2, rest2, h2, h3⟩ hok
      · exact ⟨h2, (hh.R.set_new _ _ (Nat.le_refl _)).trans h1⟩
    clear h hok hnn
    go_enter Try.func32, Try.ntmps32
    go_wp2_with (first
      | (go_at_call 47; refine (hn.out w1 hh).mono ?_; rintro e w2 ⟨rfl, hR2⟩)
      | (go_at_call 44; refine htk.out.mono ?_; rintro e w1 ⟨ad, rfl, hcell, hh⟩; obtain ⟨⟨q0, q1, q2, q3⟩, f0, f1, f2, f3⟩ := cells4 hh.blk))
    exact ⟨rfl, hR2, .inr ⟨hv, rfl⟩⟩

set_option maxRecDepth 100000 in
set_option maxHeartbeats 1000000 in
theorem value_bad (B r D : Nat) (dep : Int) (c : UInt8) (xs : List UInt8) (w : World) (h : RdAt w B r (c :: xs)) (hl : xs.length ≤ 100000000000) (hc : ¬ c.toNat = 1 ∧ ¬ c.toNat = 2 ∧ ¬ c.toNat = 3) :
    Calls Try.prog 32 #[.pointer (some ⟨r, 0, none⟩), .int .i64 dep] w (ValPost w B r D (c :: xs)) := by
  have htk := Lib.hid (head_take B r c xs w h hl)
  have hrlt := h.lt
  have hBle := h.le
  have hv : pV D (c :: xs) = none := by unfold pV; rw [if_neg hc.1, if_neg hc.2.1, if_neg hc.2.2]
  have hcb : c.toNat < 256 := c.toNat_lt
  have hc1 : ((c.toNat : Int) == 1) = false := by simp; omega
  have hc2 : ((c.toNat : Int) == 2) = false := by simp; omega
  have hc3 : ((c.toNat : Int) == 3) = false := by simp; omega
  unfold ValPost
  clear hc h
  go_enter Try.func32, Try.ntmps32
  go_wp2_with (first
    | (go_at_call 33; refine (want_false r _).mono ?_; rintro e w2 ⟨rfl, rfl⟩)
    | (go_at_call 44; refine htk.out.mono ?_; rintro e w1 ⟨ad, rfl, hcell, hh⟩; obtain ⟨⟨q0, q1, q2, q3⟩, f0, f1, f2, f3⟩ := cells4 hh.blk))
  exact ⟨rfl, hh.R.set_new _ _ (Nat.le_refl _), .inr ⟨hv, rfl⟩⟩
end Go.Proofs.Ytofmkmjboekodaa
