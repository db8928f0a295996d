/- Links of a chain: plain, and as they lie in memory. (Never beside the texts of sign: the first names are theirs too; so a claim of chain stays free of the group.) -/
import Derived.Test.YthokpfegfnpmhaaDoorRowF
import Derived.Test.YthokpfegfnpmhaaDoorTagged
import Derived.Deep.MidRow
namespace Go.Proofs.YthokpfegfnpmhaaDoor
open Go.RowKit Cdc Sha
set_option linter.unusedVariables false
set_option linter.unusedSimpArgs false

def iV (n : Int) : V := ⟨1, n, ⟨#[]⟩, []⟩
def tV (bs : List UInt8) : V := ⟨2, 0, ⟨bs.toArray⟩, []⟩
def lV (l : List V) : V := ⟨3, 0, ⟨#[]⟩, l⟩
/-- numbers of 64 bits -/
def I64 (n : Int) : Prop := -9223372036854775808 ≤ n ∧ n ≤ 9223372036854775807
theorem sm_mk (k n : Int) (s : ByteArray) (l : List V) (h1 : I64 n) (h2 : s.size ≤ 1000000000) (h3 : l.length ≤ 1000000000) (h4 : SmL l) : Sm ⟨k, n, s, l⟩ := ⟨h1, h2, h3, h4⟩
theorem i64_zero : I64 0 := ⟨by omega, by omega⟩
theorem bsize (bs : List UInt8) : (⟨bs.toArray⟩ : ByteArray).size = bs.length := by simp [ByteArray.size]
theorem sm_iV {n : Int} (h : I64 n) : Sm (iV n) := sm_mk _ _ _ _ h (by decide) (by decide) trivial
theorem sm_tV (bs : List UInt8) (h : bs.length ≤ 1000000) : Sm (tV bs) := sm_mk _ _ _ _ i64_zero (by rw [bsize]; omega) (by decide) trivial
theorem enc_iV {n : Int} (h : I64 n) : (enc (iV n)).length ≤ 11 := by
  have := num_len (uz n) (uz_lt h)
  simp [iV, enc]; omega
theorem enc_tV (bs : List UInt8) (h : bs.length ≤ 1000000) : (enc (tV bs)).length ≤ bs.length + 11 := by
  have := num_len bs.length (by have e : (2 : Nat) ^ 64 = 18446744073709551616 := by decide
                                omega)
  simp [tV, enc, V.t, ByteArray.size]; omega
theorem encB_le (x : V) : (encB x).length ≤ (enc x).length := by
  unfold encB
  split
  · exact Nat.le_refl _
  · simp

theorem flat_rs (w : World) (l : List V) (C : Array Value) (hC : C = (flatF l).toArray) (k c n : Nat) (hk : k = w.heap.size) (hn : l.length = n) (hc : n ≤ c) (hl : ∀ y ∈ l, y.l = []) : RS (w.alloc (.cells C 80)) 1 l (.slice (some ⟨k, 0, none⟩) n c) := by
  subst hC hk hn
  refine ⟨some ⟨w.heap.size, 0, none⟩, c, rfl, hc, fun i y hy => ?_⟩
  obtain ⟨f0, f1, f2, f3⟩ := flatF_at hy
  have hcell := fun j => cell_of_row (w.alloc (.cells (flatF l).toArray 80)) w.heap.size j _ _ _ (heap_alloc_new w (.cells (flatF l).toArray 80))
  refine ⟨w.heap.size, 0, .slice none 0 0, rfl, by simp, ?_, ?_, ?_, ?_, hl y (List.mem_of_getElem? hy), none, 0, rfl⟩
  · rw [show 0 + i * 4 = i * 4 by omega, hcell]; simpa using f0
  · rw [show 0 + i * 4 + 1 = i * 4 + 1 by omega, hcell]; simpa using f1
  · rw [show 0 + i * 4 + 2 = i * 4 + 2 by omega, hcell]; simpa using f2
  · rw [show 0 + i * 4 + 3 = i * 4 + 3 by omega, hcell]; simpa using f3

structure Lk where
  node : Int
  no : Int
  prev : List UInt8
  data : List UInt8
deriving DecidableEq

def noneB : ByteArray := ⟨#[110, 111, 110, 101]⟩
def linkB : ByteArray := ⟨#[108, 105, 110, 107]⟩
/-- what of a link is encoded -/
def lkL (x : Lk) : List V := [iV x.node, iV x.no, tV x.prev, tV x.data]
/-- the digest of a chain -/
def hdC (l : List Lk) : List UInt8 := match l.getLast? with
  | none => tgd noneB.data.toList []
  | some x => tgd linkB.data.toList (encB (lV (lkL x)))
theorem hdC_len (l : List Lk) : (hdC l).length = 32 := by
  unfold hdC
  split <;> exact tgd_len _ _

/-- numbers of 64 bits, a digest, few bytes -/
structure LkOk (x : Lk) : Prop where
  node : I64 x.node
  no : I64 x.no
  p32 : x.prev.length = 32
  few : x.data.length ≤ 100000

theorem sm4 {x : Lk} (h : LkOk x) : Sm (lV (lkL x)) ∧ (enc (lV (lkL x))).length ≤ 200000 := by
  have hp := h.p32
  have hd := h.few
  refine ⟨sm_mk _ _ _ _ i64_zero (by decide) (by simp [lkL]) ⟨sm_iV h.node, sm_iV h.no, sm_tV _ (by omega), sm_tV _ (by omega), trivial⟩, ?_⟩
  have h0 := enc_iV h.node
  have h1 := enc_iV h.no
  have h2 := enc_tV x.prev (by omega)
  have h3 := enc_tV x.data (by omega)
  have h4 := num_len 4 (by decide)
  have e : enc (lV (lkL x)) = 3 :: (num 4 ++ (enc (iV x.node) ++ (enc (iV x.no) ++ (enc (tV x.prev) ++ (enc (tV x.data) ++ []))))) := by simp [lV, lkL, enc, encL]
  rw [e]
  simp only [List.length_cons, List.length_append, List.length_nil]
  omega

/-- the cells of a link -/
def lkC (x : Lk) (D : Value) : List Value := .int .i64 x.node :: .int .i64 x.no :: (x.prev.map by1 ++ [D])
theorem lkC_len {x : Lk} (h : x.prev.length = 32) (D : Value) : (lkC x D).length = 35 := by simp [lkC, h]
theorem lkC_prev {x : Lk} {D : Value} {j : Nat} {y : UInt8} (h : x.prev[j]? = some y) : (lkC x D)[2 + j]? = some (by1 y) := by
  have hlt := (List.getElem?_eq_some_iff.1 h).1
  rw [show 2 + j = j + 1 + 1 by omega]
  simp only [lkC, List.getElem?_cons_succ]
  rw [List.getElem?_append_left (by simpa using hlt), List.getElem?_map, h]
  rfl
theorem lkC_data {x : Lk} (h : x.prev.length = 32) (D : Value) : (lkC x D)[34]? = some D := by
  simp only [lkC, List.getElem?_cons_succ]
  rw [List.getElem?_append_right (by simp [h])]
  simp [h]

/-- data lies at a slice -/
def DatAt (w : World) (D : Value) (xs : List UInt8) : Prop := ∃ (A : Option Addr) (c : Nat), D = .slice A xs.length c ∧ xs.length ≤ c ∧ c ≤ 9223372036854775807 ∧ AtO w A xs
theorem DatAt.below {w w' : World} {D : Value} {xs : List UInt8} (h : DatAt w D xs) (hb : Below w.heap.size w w') : DatAt w' D xs := by
  obtain ⟨A, c, h1, h2, h3, h4⟩ := h
  exact ⟨A, c, h1, h2, h3, h4.below hb⟩
theorem range_below {w w' : World} {b o : Nat} {cs : List Value} (h : w.rangeAt b o cs) (hb : Below w.heap.size w w') : w'.rangeAt b o cs := fun j v hj => by
  have hc := h j v hj
  exact (hb.cell (p := ⟨b, o + j, none⟩) (World.block_lt_of_cell? w _ hc)).trans hc

/-- links lie in a slice -/
def LsAt (w : World) (A : Option Addr) (l : List Lk) : Prop := ∀ i x, l[i]? = some x → ∃ b o D, A = some ⟨b, o, none⟩ ∧ w.rangeAt b (o + i * 35) (lkC x D) ∧ DatAt w D x.data
theorem LsAt.below {w w' : World} {A : Option Addr} {l : List Lk} (h : LsAt w A l) (hb : Below w.heap.size w w') : LsAt w' A l := fun i x hi => by
  obtain ⟨b, o, D, hA, hr, hd⟩ := h i x hi
  exact ⟨b, o, D, hA, range_below hr hb, hd.below hb⟩
theorem LsAt.take {w : World} {A : Option Addr} {l : List Lk} (h : LsAt w A l) (k : Nat) : LsAt w A (l.take k) := fun i x hi => by
  refine h i x ?_
  rw [List.getElem?_take] at hi
  split at hi
  · exact hi
  · cases hi

/-! ### the makers of chain and of its reference -/
set_option maxRecDepth 100000 in
set_option maxHeartbeats 1000000 in
theorem cnumber_any (n : Int) (w : World) :
    Calls Tryd.prog 48 #[.int .i64 n] w fun e w' => e = .returned (.agg #[.int .i64 1, .int .i64 n, .string ⟨#[]⟩, .slice none 0 0]) ∧ Below w.heap.size w w' := by
  go_enter Tryd.func48, Tryd.ntmps48
  go_wp2
  refine bodyPost_ret (v := .agg #[.int .i64 1, .int .i64 n, .string ⟨#[]⟩, .slice none 0 0]) ?_ rfl ⟨rfl, ?_⟩
  · simp [results, Tryd.results48, go_sem]
  · exact (Below.refl _ _).alloc (Nat.le_refl _) _
set_option maxRecDepth 100000 in
set_option maxHeartbeats 1000000 in
theorem ctext_any (xs : List UInt8) (A : Option Addr) (n c : Nat) (w : World) (hn : xs.length = n) (h : AtO w A xs) :
    Calls Tryd.prog 49 #[.slice A n c] w fun e w' => e = .returned (.agg #[.int .i64 2, .int .i64 0, .string ⟨xs.toArray⟩, .slice none 0 0]) ∧ Below w.heap.size w w' := by
  have hcv := (h.below ((Below.refl _ _).alloc (Nat.le_refl _) (.cells #[.int .i64 0, .int .i64 0, .string ⟨#[]⟩, .slice none 0 0] 80))).conv n c hn
  go_enter Tryd.func49, Tryd.ntmps49
  go_wp2
  refine bodyPost_ret (v := .agg #[.int .i64 2, .int .i64 0, .string ⟨xs.toArray⟩, .slice none 0 0]) ?_ rfl ⟨rfl, ?_⟩
  · simp [results, Tryd.results49, go_sem]
  · exact (Below.refl _ _).alloc (Nat.le_refl _) _
set_option maxRecDepth 100000 in
set_option maxHeartbeats 1000000 in
theorem clist_any (A : Option Addr) (n c : Nat) (w : World) :
    Calls Tryd.prog 47 #[.slice A n c] w fun e w' => e = .returned (.agg #[.int .i64 3, .int .i64 0, .string ⟨#[]⟩, .slice A n c]) ∧ Below w.heap.size w w' := by
  go_enter Tryd.func47, Tryd.ntmps47
  go_wp2
  refine bodyPost_ret (v := .agg #[.int .i64 3, .int .i64 0, .string ⟨#[]⟩, .slice A n c]) ?_ rfl ⟨rfl, ?_⟩
  · simp [results, Tryd.results47, go_sem]
  · exact (Below.refl _ _).alloc (Nat.le_refl _) _
end Go.Proofs.YthokpfegfnpmhaaDoor
