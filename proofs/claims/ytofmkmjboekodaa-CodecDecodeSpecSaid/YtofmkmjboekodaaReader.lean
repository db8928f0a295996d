/- The walks of codec.reader: want, take. -/
import Derived.Test.YtofmkmjboekodaaRefNum
import Derived.WalkLawsBesides
namespace Go.Proofs.Ytofmkmjboekodaa
open Go.RowKit Cdc
set_option linter.unusedVariables false
set_option linter.unusedSimpArgs false

theorem block_of_add (a : Addr) (n : Nat) : (a.add n).block = a.block := by unfold Addr.add; split <;> rfl
theorem add_of_add (a : Addr) (i j : Nat) : (a.add i).add j = a.add (i + j) := by
  unfold Addr.add
  by_cases hi : i = 0 <;> by_cases hj : j = 0 <;> simp [hi, hj, Nat.add_assoc]

/-- the panic of want(false) -/
abbrev errP : Ending := .panicked [{ v := .iface 28 (.int .i64 10), recovered := false }]

/-- bytes that lie somewhere below block B, and not in block r -/
def RB (w : World) (B r : Nat) (A : Option Addr) (xs : List UInt8) : Prop := ∀ (j : Nat) (b : UInt8), xs[j]? = some b → ∃ ad, A = some ad ∧ ad.block < B ∧ ad.block ≠ r ∧ w.cell? (ad.add j) = some (bv b)

theorem RB.keep {w w' : World} {B r : Nat} {A : Option Addr} {xs : List UInt8} (h : RB w B r A xs) (hk : ∀ k, k < B → k ≠ r → w'.heap[k]? = w.heap[k]?) : RB w' B r A xs := fun j b hb => by
  obtain ⟨ad, hA, h1, h2, h3⟩ := h j b hb
  exact ⟨ad, hA, h1, h2, (World.cell?_of_block (by rw [block_of_add]; exact hk _ h1 h2)).trans h3⟩

theorem RB.cut {w : World} {B r : Nat} {A : Option Addr} {xs : List UInt8} (h : RB w B r A xs) (k c : Nat) (hc : xs.length ≤ c) : RB w B r (if c = k then A else A.map (·.add k)) (xs.drop k) := fun j b hb => by
  rw [List.getElem?_drop] at hb
  obtain ⟨ad, rfl, h1, h2, h3⟩ := h (k + j) b hb
  have hlt : k + j < xs.length := (List.getElem?_eq_some_iff.1 hb).1
  rw [if_neg (by omega)]
  exact ⟨ad.add k, rfl, by rw [block_of_add]; exact h1, by rw [block_of_add]; exact h2, by rw [add_of_add]; exact h3⟩

/-- the reader in block r has the bytes xs before it -/
structure RdAt (w : World) (B r : Nat) (xs : List UInt8) : Prop where
  lt : r < w.heap.size
  le : B ≤ w.heap.size
  cell : ∃ A c, w.heap[r]? = some (.cells #[.slice A xs.length c] 58 (0, 0)) ∧ xs.length ≤ c ∧ RB w B r A xs

/-- from w to w' the reader's block and new blocks alone have changed -/
def Rd (w w' : World) (r : Nat) : Prop := w.grownBy w' (some r)

theorem Rd.refl (w : World) (r : Nat) : Rd w w r := ⟨rfl, rfl, rfl, Nat.le_refl _, fun _ _ _ => rfl⟩
theorem Rd.trans {a b c : World} {r : Nat} (h : Rd a b r) (k : Rd b c r) : Rd a c r := World.grownBy.trans h k
theorem RdAt.of {w w' : World} {B r : Nat} {xs : List UInt8} (h : RdAt w B r xs) (hg : w.grownBy w' none) : RdAt w' B r xs := by
  obtain ⟨A, c, h1, h2, h3⟩ := h.cell
  exact ⟨Nat.lt_of_lt_of_le h.lt hg.size, Nat.le_trans h.le hg.size, A, c, (hg.block r h.lt (by simp)).trans h1, h2, h3.keep fun k hk _ => hg.block k (Nat.lt_of_lt_of_le hk h.le) (by simp)⟩

theorem RdAt.set {w : World} {B r : Nat} {cur : Value} {ys : List UInt8} {A : Option Addr} {c : Nat} (hh : w.heap[r]? = some (.cells #[cur] 58 (0, 0))) (hB : B ≤ w.heap.size) (hc : ys.length ≤ c) (hrb : RB w B r A ys) (m : Nat) (hm : m = ys.length) :
    RdAt (w.setCell ⟨r, 0, none⟩ (.slice A m c)) B r ys ∧ Rd w (w.setCell ⟨r, 0, none⟩ (.slice A m c)) r := by
  subst hm
  have hg : Rd w (w.setCell ⟨r, 0, none⟩ (.slice A ys.length c)) r := ⟨rfl, rfl, rfl, by simp, fun k _ hk => heap_setCell_other w ⟨r, 0, none⟩ k _ (fun e => hk (by simp [e]))⟩
  refine ⟨⟨by simpa using (Array.getElem?_eq_some_iff.1 hh).1, by simpa using hB, A, c, ?_, hc, hrb.keep fun k hk hne => hg.block k (Nat.lt_of_lt_of_le hk hB) (fun e => by injection e with e; exact hne e)⟩, hg⟩
  exact heap_setCell_same w r 0 #[cur] _ _ hh

set_option maxHeartbeats 1000000 in
theorem want_true (r : Nat) (w : World) : Calls Try.prog 33 #[.pointer (some ⟨r, 0, none⟩), .bool true] w fun e w' => e = .returned (.tuple #[]) ∧ w' = w := by
  go_enter Try.func33, Try.ntmps33
  go_wp2
  go_end0
  exact ⟨rfl, rfl⟩

set_option maxHeartbeats 1000000 in
theorem want_false (r : Nat) (w : World) : Calls Try.prog 33 #[.pointer (some ⟨r, 0, none⟩), .bool false] w fun e w' => e = errP ∧ w' = w := by
  go_enter Try.func33, Try.ntmps33
  go_wp2
  exact ⟨rfl, rfl, rfl⟩

set_option maxHeartbeats 1000000 in
theorem take_ok (B r n : Nat) (xs : List UInt8) (w : World) (h : RdAt w B r xs) (hn : n ≤ xs.length) (hl : xs.length ≤ 1000000000000) :
    Calls Try.prog 44 #[.pointer (some ⟨r, 0, none⟩), .int .i64 n] w fun e w' => ∃ A, e = .returned (.slice A n n) ∧ RB w' B r A (xs.take n) ∧ RdAt w' B r (xs.drop n) ∧ Rd w w' r := by
  obtain ⟨A, c, hh, hc, hrb⟩ := h.cell
  have hcell : w.cell? ⟨r, 0, none⟩ = some (.slice A xs.length c) := by simp [World.cell?, hh]
  have hfr : w.frozen? ⟨r, 0, none⟩ = false := frozen_of_row w r 0 _ _ hh
  go_enter Try.func44, Try.ntmps44
  go_wp2_with (go_at_call 33; refine (want_true r _).mono ?_; rintro e w' ⟨rfl, rfl⟩)
  · have hcut := hrb.cut n n (by omega)
    rw [if_pos rfl] at hcut
    obtain ⟨h1, h2⟩ := RdAt.set (A := A) (c := 0) (ys := xs.drop n) hh ‹RdAt _ B r xs›.le (by simp; omega) hcut (xs.length - n) (by simp)
    go_ret
    exact ⟨A, rfl, RB.keep (fun j b hb => hrb j b (by rw [List.getElem?_take] at hb; split at hb <;> simp_all)) (fun k hk hne => h2.block k (Nat.lt_of_lt_of_le hk ‹RdAt _ B r xs›.le) (fun e => by injection e with e; exact hne e)), h1, h2⟩
  · have hcut := hrb.cut n c (by omega)
    rw [if_neg ‹¬ c = n›] at hcut
    obtain ⟨h1, h2⟩ := RdAt.set (c := c - n) (ys := xs.drop n) hh ‹RdAt _ B r xs›.le (by simp; omega) hcut (xs.length - n) (by simp)
    go_ret
    exact ⟨A, rfl, RB.keep (fun j b hb => hrb j b (by rw [List.getElem?_take] at hb; split at hb <;> simp_all)) (fun k hk hne => h2.block k (Nat.lt_of_lt_of_le hk ‹RdAt _ B r xs›.le) (fun e => by injection e with e; exact hne e)), h1, h2⟩

set_option maxHeartbeats 1000000 in
theorem take_bad (B r n : Nat) (xs : List UInt8) (w : World) (h : RdAt w B r xs) (hn : ¬ n ≤ xs.length) (hl : xs.length ≤ 1000000000000) :
    Calls Try.prog 44 #[.pointer (some ⟨r, 0, none⟩), .int .i64 n] w fun e w' => e = errP ∧ w' = w := by
  obtain ⟨A, c, hh, hc, hrb⟩ := h.cell
  have hcell : w.cell? ⟨r, 0, none⟩ = some (.slice A xs.length c) := by simp [World.cell?, hh]
  have hb : decide ((n : Int) ≤ (xs.length : Int)) = false := by simp; omega
  go_enter Try.func44, Try.ntmps44
  go_wp2_with (go_at_call 33; refine (want_false r _).mono ?_; rintro e w' ⟨rfl, rfl⟩)
  exact ⟨rfl, rfl, rfl⟩
end Go.Proofs.Ytofmkmjboekodaa
