/- The walks of the reference's Reader: next. -/
import Derived.Test.YtofmkmjboekodaaOpen
import Derived.Test.YtofmkmjboekodaaNumber
import Derived.Deep.RegionHeld3
import Derived.Deep.QuietTactic
import Derived.BigQuiet
namespace Go.Proofs.Ytofmkmjboekodaa
open Go.RowKit Cdc
set_option linter.unusedVariables false
set_option linter.unusedSimpArgs false

/-- the reader in block r stands at place k of the bytes b -/
structure RAt (w : World) (B r : Nat) (b : List UInt8) (k : Nat) (bad : Bool) : Prop where
  lt : r < w.heap.size
  le : B ≤ w.heap.size
  kle : k ≤ b.length
  cell : ∃ A c, w.heap[r]? = some (.cells #[.slice A b.length c, .int .i64 k, .bool bad] 62 (0, 0)) ∧ b.length ≤ c ∧ RB w B r A b

theorem RAt.keep {w w' : World} {B r : Nat} {b : List UInt8} {k : Nat} {bad : Bool} (h : RAt w B r b k bad) (hs : w.heap.size ≤ w'.heap.size) (hk : ∀ j, j = r ∨ j < B → w'.heap[j]? = w.heap[j]?) : RAt w' B r b k bad := by
  obtain ⟨A, c, h1, h2, h3⟩ := h.cell
  exact ⟨Nat.lt_of_lt_of_le h.lt hs, Nat.le_trans h.le hs, h.kle, A, c, (hk r (.inl rfl)).trans h1, h2, h3.keep fun j hj _ => hk j (.inr hj)⟩
theorem RAt.drew {w : World} {B r : Nat} {b : List UInt8} {k : Nat} {bad : Bool} (h : RAt w B r b k bad) : RAt w.drew B r b k bad := h.keep (Nat.le_refl _) fun _ _ => rfl
theorem RAt.drewN {w : World} {B r : Nat} {b : List UInt8} {k : Nat} {bad : Bool} (h : RAt w B r b k bad) (n : Nat) : RAt (w.drewN n) B r b k bad := h.keep (Nat.le_refl _) fun _ _ => rfl
theorem RAt.of {w w' : World} {B r : Nat} {b : List UInt8} {k : Nat} {bad : Bool} (h : RAt w B r b k bad) (hg : w.grownBy w' none) : RAt w' B r b k bad :=
  h.keep hg.size fun j hj => hg.block j (by rcases hj with rfl | hj; exact h.lt; exact Nat.lt_of_lt_of_le hj h.le) (by simp)
theorem RAt.other {w : World} {B r : Nat} {b : List UInt8} {k : Nat} {bad : Bool} (h : RAt w B r b k bad) (p : Addr) (u : Value) (h1 : p.block ≠ r) (h2 : B ≤ p.block) : RAt (w.setCell p u) B r b k bad :=
  h.keep (by simp) fun j hj => heap_setCell_other w p j u (fun e => by rcases hj with rfl | hj; exact h1 e.symm; omega)
theorem RAt.setAt {w : World} {B r : Nat} {b : List UInt8} {k : Nat} {bad : Bool} (h : RAt w B r b k bad) (m : Nat) (hm : m ≤ b.length) (v : Value) (hv : v = .int .i64 m) :
    RAt (w.setCell ⟨r, 1, none⟩ v) B r b m bad ∧ Rd w (w.setCell ⟨r, 1, none⟩ v) r := by
  subst hv
  obtain ⟨A, c, h1, h2, h3⟩ := h.cell
  have hg : Rd w (w.setCell ⟨r, 1, none⟩ (.int .i64 m)) r := ⟨rfl, rfl, rfl, by simp, fun k _ hk => heap_setCell_other w ⟨r, 1, none⟩ k _ (fun e => hk (by simp [e]))⟩
  exact ⟨⟨by simpa using h.lt, by simpa using h.le, hm, A, c, heap_setCell_same w r 1 _ _ _ h1, h2, h3.keep fun k hk hne => hg.block k (Nat.lt_of_lt_of_le hk h.le) (fun e => by injection e with e; exact hne e)⟩, hg⟩
theorem RAt.setBad {w : World} {B r : Nat} {b : List UInt8} {k : Nat} {bad : Bool} (h : RAt w B r b k bad) :
    RAt (w.setCell ⟨r, 2, none⟩ (.bool true)) B r b k true ∧ Rd w (w.setCell ⟨r, 2, none⟩ (.bool true)) r := by
  obtain ⟨A, c, h1, h2, h3⟩ := h.cell
  have hg : Rd w (w.setCell ⟨r, 2, none⟩ (.bool true)) r := ⟨rfl, rfl, rfl, by simp, fun k _ hk => heap_setCell_other w ⟨r, 2, none⟩ k _ (fun e => hk (by simp [e]))⟩
  exact ⟨⟨by simpa using h.lt, by simpa using h.le, h.kle, A, c, heap_setCell_same w r 2 _ _ _ h1, h2, h3.keep fun k hk hne => hg.block k (Nat.lt_of_lt_of_le hk h.le) (fun e => by injection e with e; exact hne e)⟩, hg⟩
theorem Rd.fromDrewN {w w' : World} {r n : Nat} (h : Rd (w.drewN n) w' r) : Rd w w' r := ⟨h.os, h.tape, h.output, h.size, h.block⟩
theorem Rd.toDrewN {w w' : World} {r n : Nat} (h : Rd w w' r) : Rd w (w'.drewN n) r := ⟨h.os, h.tape, h.output, h.size, h.block⟩
theorem Rd.toDrew {w w' : World} {r : Nat} (h : Rd w w' r) : Rd w w'.drew r := ⟨h.os, h.tape, h.output, h.size, h.block⟩
theorem Rd.fromDrew {w w' : World} {r : Nat} (h : Rd w.drew w' r) : Rd w w' r := ⟨h.os, h.tape, h.output, h.size, h.block⟩

theorem cells3 {w : World} {g : Nat} {a b c : Value} {t : TypeId} (h : w.heap[g]? = some (.cells #[a, b, c] t (0, 0))) :
    (w.cell? ⟨g, 0, none⟩ = some a ∧ w.cell? ⟨g, 1, none⟩ = some b ∧ w.cell? ⟨g, 2, none⟩ = some c) ∧ w.frozen? ⟨g, 1, none⟩ = false ∧ w.frozen? ⟨g, 2, none⟩ = false :=
  ⟨by simp [World.cell?, h], frozen_of_row w g 1 _ _ h, frozen_of_row w g 2 _ _ h⟩

set_option maxRecDepth 100000 in
set_option maxHeartbeats 1000000 in
theorem next_end (B r : Nat) (b : List UInt8) (bad : Bool) (w : World) (h : RAt w B r b b.length bad) :
    Calls Try.prog 48 #[.pointer (some ⟨r, 0, none⟩)] w fun e w' => e = .returned (.int .u8 0) ∧ RAt w' B r b b.length true ∧ Rd w w' r := by
  obtain ⟨A, c, hh, hc, hrb⟩ := h.cell
  obtain ⟨⟨q0, q1, q2⟩, f1, f2⟩ := cells3 hh
  clear hh hrb
  go_enter Try.func48, Try.ntmps48
  go_wp2_with fail
  go_region_held3 (fun w' => w'.cell? ⟨r, 0, none⟩ = some (.slice A b.length c) ∧ w'.cell? ⟨r, 1, none⟩ = some (.int .i64 b.length))
    (exact ⟨q0, q1⟩) (fail)
  go_wp2_with fail
  go_ret
  exact ⟨rfl, h.drew.setBad.1, h.drew.setBad.2.fromDrew⟩

set_option maxRecDepth 100000 in
set_option maxHeartbeats 1000000 in
theorem next_ok (B r : Nat) (b : List UInt8) (k : Nat) (x : UInt8) (bad : Bool) (w : World) (h : RAt w B r b k bad) (hx : b[k]? = some x) (hl : b.length ≤ 1000000000000) :
    Calls Try.prog 48 #[.pointer (some ⟨r, 0, none⟩)] w fun e w' => e = .returned (.int .u8 x.toNat) ∧ RAt w' B r b (k + 1) bad ∧ Rd w w' r := by
  have hk : k < b.length := (List.getElem?_eq_some_iff.1 hx).1
  obtain ⟨A, c, hh, hc, hrb⟩ := h.cell
  obtain ⟨⟨q0, q1, q2⟩, f1, f2⟩ := cells3 hh
  obtain ⟨ad, rfl, _, hne, hcx⟩ := hrb k x hx
  have had : ad = ⟨ad.block, ad.off, none⟩ := by
    obtain ⟨y0, hy0⟩ : ∃ y0, b[0]? = some y0 := ⟨_, List.getElem?_eq_getElem (by omega)⟩
    obtain ⟨ad', e, _, _, h0⟩ := hrb 0 y0 hy0
    injection e with e
    subst e
    simp [Addr.add] at h0
    exact cell_spot h0
  rw [add_form ad k had] at hcx
  obtain ⟨ab, hab⟩ : ∃ ab, ad.block = ab := ⟨_, rfl⟩
  obtain ⟨ao, hao⟩ : ∃ ao, ad.off = ao := ⟨_, rfl⟩
  rw [hab, hao] at had hcx
  rw [hab] at hne
  clear hab hao
  subst had
  clear hh hrb hx
  obtain ⟨hr1, hd1⟩ := h.setAt (k + 1) (by omega) (.int .i64 ((k : Int) + 1)) (by go_num)
  have hcw : (w.setCell ⟨r, 1, none⟩ (.int .i64 ((k : Int) + 1))).cell? ⟨ab, ao + k, none⟩ = some (bv x) := by
    rw [World.cell?_of_block (w := w) (hd1.block ab (World.block_lt_of_cell? w ⟨ab, ao + k, none⟩ hcx) (fun e => by injection e with e; exact hne e))]
    exact hcx
  obtain ⟨A', c', hh', _, _⟩ := hr1.cell
  have W1 : IntKind.i64.wrap ((k : Int) + 1 - 1) = k := by rw [IntWalk.i64_in _ (by omega)]; omega
  have W2 : IntKind.i64.wrap (k : Int) = k := IntWalk.i64_in _ (by omega)
  have G1 : (0 : Int) ≤ (k : Int) := by omega
  have G2 : (k : Int) < (b.length : Int) := by omega
  have hq1 := (cells3 hh').1.1
  have hq2 := (cells3 hh').1.2.1
  have hq0 : (w.setCell ⟨r, 1, none⟩ (.int .i64 ((k : Int) + 1))).cell? ⟨r, 0, none⟩ = some (.slice (some ⟨ab, ao, none⟩) b.length c) := by
    have hne0 : (⟨r, 1, none⟩ : Addr) ≠ ⟨r, 0, none⟩ := by intro e; injection e with _ e _; cases e
    rw [World.cell?_setCell_other _ _ _ _ hne0]
    exact q0
  clear hq1 hh'
  replace hr1 := Lib.hid hr1
  replace hd1 := Lib.hid hd1
  go_enter Try.func48, Try.ntmps48
  go_wp2_with fail
  go_region_held3 (fun w' => w'.cell? ⟨r, 0, none⟩ = some (.slice (some ⟨ab, ao, none⟩) b.length c) ∧ w'.cell? ⟨r, 1, none⟩ = some (.int .i64 k))
    (exact ⟨q0, q1⟩) (fail)
  go_wp2_with fail
  go_region_held3 (fun w' => w'.cell? ⟨r, 0, none⟩ = some (.slice (some ⟨ab, ao, none⟩) b.length c) ∧ w'.cell? ⟨r, 1, none⟩ = some (.int .i64 ((k : Int) + 1)) ∧ w'.cell? ⟨ab, ao + k, none⟩ = some (bv x))
    (exact ⟨hq0, hq2, hcw⟩) (fail)
  go_wp2_with fail
  go_ret
  exact ⟨rfl, hr1.out.drew.drew, hd1.out.toDrew.toDrew⟩
end Go.Proofs.Ytofmkmjboekodaa
