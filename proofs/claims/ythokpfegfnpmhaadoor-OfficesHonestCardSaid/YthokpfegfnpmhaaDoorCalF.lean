/- Flat lists of values that lie in one row. -/
import Derived.Test.YthokpfegfnpmhaaDoorSigA
import Derived.Test.YthokpfegfnpmhaaDoorRowFG
namespace Go.Proofs.YthokpfegfnpmhaaDoor
open Go.RowKit Go.Shelf Jac Cdc Sha
set_option linter.unusedVariables false
set_option linter.unusedSimpArgs false

theorem flat_rs (w : World) (l : List V) (C : Array Value) (hC : C = (flatF l).toArray) (k c n : Nat) (hk : k = w.heap.size) (hn : l.length = n) (hc : n ≤ c) (hl : ∀ y ∈ l, y.l = []) : RS (w.alloc (.cells C 80)) 1 l (.slice (some ⟨k, 0, none⟩) n c) := by
  subst hC hk hn
  refine ⟨some ⟨w.heap.size, 0, none⟩, c, rfl, hc, fun i y hy => ?_⟩
  obtain ⟨f0, f1, f2, f3⟩ := flatF_at hy
  have hcell := fun j => cell_of_row (w.alloc (.cells (flatF l).toArray 80)) w.heap.size j _ _ _ (heap_alloc_new w (.cells (flatF l).toArray 80))
  refine ⟨w.heap.size, 0, .slice none 0 0, rfl, by simp, ?_, ?_, ?_, ?_, hl y (List.mem_of_getElem? hy), none, 0, rfl⟩
  · rw [show 0 + i * 4 = i * 4 by omega, hcell]; simpa using f0
  · rw [show 0 + i * 4 + 1 = i * 4 + 1 by omega, hcell]; simpa using f1
  · rw [show 0 + i * 4 + 2 = i * 4 + 2 by omega, hcell]; simpa using f2
  · rw [show 0 + i * 4 + 3 = i * 4 + 3 by omega, hcell]; simpa using f3

theorem ck3 (m n : Int) (bs : List UInt8) (hb : bs.length ≤ 1000000) : ckE (lV [iV m, iV n, tV bs]) = 0 := by
  have hs := bsize bs
  have he : (⟨#[]⟩ : ByteArray) = ByteArray.empty := rfl
  simp [lV, iV, tV, ckE, fm, fmL, hs, he]
end Go.Proofs.YthokpfegfnpmhaaDoor
/- Calendars: fixtures in memory, the text and the digest of a calendar. -/
namespace Go.Proofs.YthokpfegfnpmhaaDoor
open Go.RowKit Cdc Sha
set_option linter.unusedVariables false
set_option linter.unusedSimpArgs false

structure Fx where
  d : Int
  g : Int
  s : Int
instance : DecidableEq Fx := fun a b => decidable_of_iff (a.d = b.d ∧ a.g = b.g ∧ a.s = b.s) ⟨fun ⟨h0, h1, h2⟩ => by cases a; cases b; simp_all, fun h => by subst h; exact ⟨rfl, rfl, rfl⟩⟩
structure Cal where
  no : Int
  fx : List Fx
def fxL (f : Fx) : List V := [iV f.d, iV f.g, iV f.s]
def fxV (f : Fx) : V := lV (fxL f)
def calL (c : Cal) : List V := [iV c.no, lV (c.fx.map fxV)]
def calV (c : Cal) : V := lV (calL c)
/-- a fixture that may lie in a calendar -/
def FxOk (f : Fx) : Prop := -1 ≤ f.d ∧ -1 ≤ f.g ∧ -1 ≤ f.s ∧ f.d ≤ 73048 ∧ f.g ≤ 63 ∧ f.s ≤ 15
def CalOk (c : Cal) : Prop := 0 ≤ c.no ∧ c.no ≤ 1048576 ∧ c.fx.length ≤ 1024 ∧ ∀ f ∈ c.fx, FxOk f
instance (f : Fx) : Decidable (FxOk f) := by unfold FxOk; infer_instance
instance (c : Cal) : Decidable (CalOk c) := by unfold CalOk; infer_instance
def calB : ByteArray := ⟨#[99, 97, 108, 101, 110, 100, 97, 114]⟩
def zero32 : List UInt8 := List.replicate 32 0
def calD (c : Cal) : List UInt8 := if CalOk c then tgd calB.data.toList (enc (calV c)) else zero32
def calE (c : Cal) : Int := if CalOk c then 0 else 350
theorem zero32_len : zero32.length = 32 := by decide
theorem calD_len (c : Cal) : (calD c).length = 32 := by
  unfold calD
  split
  · exact tgd_len _ _
  · exact zero32_len

def fxC (f : Fx) : List Value := [.int .i64 f.d, .int .i64 f.g, .int .i64 f.s]
def FxI (f : Fx) : Prop := I64 f.d ∧ I64 f.g ∧ I64 f.s
/-- fixtures that lie somewhere -/
def FxAt (w : World) (A : Option Addr) (l : List Fx) : Prop := ∀ i x, l[i]? = some x → ∃ b o, A = some ⟨b, o, none⟩ ∧ b < w.heap.size ∧ w.cell? ⟨b, o + i * 3, none⟩ = some (.int .i64 x.d) ∧ w.cell? ⟨b, o + i * 3 + 1, none⟩ = some (.int .i64 x.g) ∧ w.cell? ⟨b, o + i * 3 + 2, none⟩ = some (.int .i64 x.s)
theorem FxAt.below {w w' : World} {A : Option Addr} {l : List Fx} (h : FxAt w A l) (hb : Below w.heap.size w w') : FxAt w' A l := fun i x hi => by
  obtain ⟨b, o, hA, hlt, h0, h1, h2⟩ := h i x hi
  exact ⟨b, o, hA, Nat.lt_of_lt_of_le hlt hb.size, (hb.cell (p := ⟨b, _, none⟩) hlt).trans h0, (hb.cell (p := ⟨b, _, none⟩) hlt).trans h1, (hb.cell (p := ⟨b, _, none⟩) hlt).trans h2⟩

theorem sm_lV {l : List V} (hn : l.length ≤ 1000000000) (h : ∀ x ∈ l, Sm x) : Sm (lV l) := sm_mk _ _ _ _ i64_zero (by decide) hn (by
  induction l with
  | nil => trivial
  | cons x l ih => exact ⟨h x (by simp), ih (by simp at hn ⊢; omega) fun y hy => h y (by simp [hy])⟩)
theorem enc_lV_len (l : List V) (hn : l.length ≤ 1000000000) (k : Nat) (h : ∀ x ∈ l, (enc x).length ≤ k) : (enc (lV l)).length ≤ 11 + l.length * k := by
  have h1 := num_len l.length (by have e : (2 : Nat) ^ 64 = 18446744073709551616 := by decide
                                  omega)
  have h2 : (encL l).length ≤ l.length * k := by
    clear hn h1
    induction l with
    | nil => simp [encL]
    | cons x l ih =>
      have h3 := h x (by simp)
      have h4 := ih fun y hy => h y (by simp [hy])
      have e : (l.length + 1) * k = l.length * k + k := by rw [Nat.add_mul, Nat.one_mul]
      simp only [encL, List.length_append, List.length_cons, e]
      omega
  simp only [lV, enc]
  rw [if_neg (by decide), if_neg (by decide)]
  simp only [List.length_cons, List.length_append]
  omega
theorem fx_sm {f : Fx} (h : FxI f) : Sm (fxV f) ∧ (enc (fxV f)).length ≤ 50 := by
  obtain ⟨h0, h1, h2⟩ := h
  have hm : ∀ x ∈ fxL f, Sm x ∧ (enc x).length ≤ 11 := by
    intro x hx
    simp [fxL] at hx
    rcases hx with rfl | rfl | rfl
    · exact ⟨sm_iV h0, enc_iV h0⟩
    · exact ⟨sm_iV h1, enc_iV h1⟩
    · exact ⟨sm_iV h2, enc_iV h2⟩
  refine ⟨sm_lV (by simp [fxL]) fun x hx => (hm x hx).1, ?_⟩
  have := enc_lV_len (fxL f) (by simp [fxL]) 11 fun x hx => (hm x hx).2
  simp [fxL] at this
  exact Nat.le_trans this (by decide)
theorem cal_sm {c : Cal} (h0 : I64 c.no) (hn : c.fx.length ≤ 2000) (h : ∀ f ∈ c.fx, FxI f) : Sm (calV c) ∧ (enc (calV c)).length ≤ 300000 := by
  have hl : ∀ x ∈ c.fx.map fxV, Sm x ∧ (enc x).length ≤ 50 := by
    intro x hx
    obtain ⟨f, hf, rfl⟩ := List.mem_map.1 hx
    exact fx_sm (h f hf)
  have h1 : Sm (lV (c.fx.map fxV)) := sm_lV (by simp; omega) fun x hx => (hl x hx).1
  have h2 := enc_lV_len (c.fx.map fxV) (by simp; omega) 50 fun x hx => (hl x hx).2
  rw [List.length_map] at h2
  have h3 := enc_iV h0
  have hm : ∀ x ∈ calL c, Sm x ∧ (enc x).length ≤ 100100 := by
    intro x hx
    simp [calL] at hx
    rcases hx with rfl | rfl
    · exact ⟨sm_iV h0, by omega⟩
    · exact ⟨h1, by omega⟩
  refine ⟨sm_lV (by simp [calL]) fun x hx => (hm x hx).1, ?_⟩
  have := enc_lV_len (calL c) (by simp [calL]) 100100 fun x hx => (hm x hx).2
  simp [calL] at this
  exact Nat.le_trans this (by decide)
theorem dp_iV (n : Int) : dp (iV n) = 1 := by simp [iV, dp, dpL]
theorem dp_fxV (f : Fx) : dp (fxV f) = 2 := by simp [fxV, fxL, lV, dp, dpL, iV]
theorem dpL_le {l : List V} {k : Nat} (h : ∀ x ∈ l, dp x ≤ k) : dpL l ≤ k := by
  induction l with
  | nil => simp [dpL]
  | cons x l ih =>
    have h1 := h x (by simp)
    have h2 := ih fun y hy => h y (by simp [hy])
    simp only [dpL]
    omega
theorem dp_calV (c : Cal) : dp (calV c) ≤ 4 := by
  have h1 : dpL (c.fx.map fxV) ≤ 2 := dpL_le fun x hx => by
    obtain ⟨f, _, rfl⟩ := List.mem_map.1 hx
    rw [dp_fxV]
    omega
  simp only [calV, calL, lV, dp, dpL, iV]
  omega
theorem fm_iV (n : Int) : fm (iV n) = some 0 := by
  have he : (⟨#[]⟩ : ByteArray) = ByteArray.empty := rfl
  simp [iV, fm, he]
theorem fm_lV {l : List V} {k : Nat} (h : ∀ x ∈ l, ∃ a, fm x = some a ∧ a ≤ k) : ∃ a, fm (lV l) = some a ∧ a ≤ k + 1 := by
  have h1 : ∃ a, fmL l = some a ∧ a ≤ k := by
    induction l with
    | nil => exact ⟨0, rfl, Nat.zero_le _⟩
    | cons x l ih =>
      obtain ⟨a, ha, hk⟩ := h x (by simp)
      obtain ⟨b, hb, hk2⟩ := ih fun y hy => h y (by simp [hy])
      exact ⟨max a b, by simp [fmL, ha, hb], by omega⟩
  obtain ⟨a, ha, hk⟩ := h1
  have he : (⟨#[]⟩ : ByteArray) = ByteArray.empty := rfl
  exact ⟨a + 1, by simp [lV, fm, he, ha], by omega⟩
theorem ck_of_fm {x : V} (h : ∃ a, fm x = some a ∧ a ≤ 16) : ckE x = 0 := by
  obtain ⟨a, ha, hk⟩ := h
  unfold ckE
  rw [ha]
  exact if_neg (by omega)
theorem ck_cal (c : Cal) : ckE (calV c) = 0 := by
  have h1 : ∃ a, fm (lV (c.fx.map fxV)) = some a ∧ a ≤ 2 := fm_lV fun x hx => by
    obtain ⟨f, _, rfl⟩ := List.mem_map.1 hx
    exact fm_lV (k := 0) fun y hy => by
      simp [fxL] at hy
      rcases hy with rfl | rfl | rfl <;> exact ⟨0, fm_iV _, Nat.le_refl _⟩
  obtain ⟨a, ha, hk⟩ := h1
  have h2 : ∃ a, fm (calV c) = some a ∧ a ≤ 3 := fm_lV (k := 2) fun x hx => by
    simp [calL] at hx
    rcases hx with rfl | rfl
    · exact ⟨0, fm_iV _, by omega⟩
    · exact ⟨a, ha, hk⟩
  obtain ⟨b, hb, hk2⟩ := h2
  exact ck_of_fm ⟨b, hb, by omega⟩
theorem encB_cal (c : Cal) : encB (calV c) = enc (calV c) := by
  unfold encB
  rw [if_pos (ck_cal c)]
end Go.Proofs.YthokpfegfnpmhaaDoor
