/- The walks of the reference's Formed (at every value) and Check. -/
import Derived.Test.YthokpfegfnpmhaaDoorRefFormed
namespace Go.Proofs.YthokpfegfnpmhaaDoor
open Go.RowKit Cdc
set_option linter.unusedVariables false
set_option linter.unusedSimpArgs false

set_option maxRecDepth 100000 in
set_option maxHeartbeats 1000000 in
theorem rformed_atom (k n : Int) (s : ByteArray) (m : Nat) (A : Option Addr) (c : Nat) (w : World) (b : Bool)
    (h : (k = 1 ∧ b = (s.toList.isEmpty && ((m : Int) == 0))) ∨ (k = 2 ∧ b = ((n == 0) && ((m : Int) == 0))) ∨ ((k == 1) = false ∧ (k == 2) = false ∧ (k == 3) = false ∧ b = false)) :
    Calls Tryd.prog 112 #[.agg #[.int .i64 k, .int .i64 n, .string s, .slice A m c]] w fun e w' => e = .returned (.bool b) ∧ Below w.heap.size w w' := by
  rcases h with ⟨rfl, rfl⟩ | ⟨rfl, rfl⟩ | ⟨h1, h2, h3, rfl⟩
  · by_cases hs : s.size = 0
    · obtain rfl := byte_empty hs
      go_enter Tryd.func112, Tryd.ntmps112
      go_wp2
      go_ret
      refine ⟨?_, ((Below.refl _ _).alloc (Nat.le_refl _) _)⟩
      simp
    · have h := str_ne hs
      go_enter Tryd.func112, Tryd.ntmps112
      go_wp2
      go_ret
      refine ⟨?_, ((Below.refl _ _).alloc (Nat.le_refl _) _)⟩
      first | rfl | simp [h]
  · cases hn : (n == 0) with
    | true =>
      go_enter Tryd.func112, Tryd.ntmps112
      go_wp2
      go_ret
      refine ⟨?_, ((Below.refl _ _).alloc (Nat.le_refl _) _)⟩
      first | rfl | simp
    | false =>
      go_enter Tryd.func112, Tryd.ntmps112
      go_wp2
      go_ret
      refine ⟨?_, ((Below.refl _ _).alloc (Nat.le_refl _) _)⟩
      first | rfl | simp
  · go_enter Tryd.func112, Tryd.ntmps112
    go_wp2
    go_ret
    exact ⟨rfl, ((Below.refl _ _).alloc (Nat.le_refl _) _)⟩

theorem fmOk_case (k n : Int) (s : ByteArray) (l : List V) (h3 : ¬ k = 3) :
    (k = 1 ∧ fmOk ⟨k, n, s, l⟩ = (s.toList.isEmpty && ((l.length : Int) == 0))) ∨ (k = 2 ∧ fmOk ⟨k, n, s, l⟩ = ((n == 0) && ((l.length : Int) == 0))) ∨ ((k == 1) = false ∧ (k == 2) = false ∧ (k == 3) = false ∧ fmOk ⟨k, n, s, l⟩ = false) := by
  unfold fmOk
  rw [fm]
  have hlen : l = [] ↔ l.length = 0 := List.length_eq_zero_iff.symm
  have hl : ((l.length : Int) == 0) = decide (l = []) := by
    by_cases c : l.length = 0
    · rw [decide_eq_true (hlen.2 c)]; simp [c]
    · rw [decide_eq_false (fun e => c (hlen.1 e))]
      have : ¬ ((l.length : Int) = 0) := by omega
      simpa using this
  by_cases h1 : k = 1
  · subst h1
    rw [if_pos rfl, hl]
    refine .inl ⟨rfl, ?_⟩
    by_cases c : s.size = 0
    · have : s.toList.isEmpty = true := by rw [byte_empty c]; simp
      rw [this]
      by_cases c2 : l = []
      · rw [if_pos ⟨c, c2⟩]; simp [c2]
      · rw [if_neg (fun e => c2 e.2)]; simp [c2]
    · rw [str_ne c, if_neg (fun e => c e.1)]; rfl
  · rw [if_neg h1]
    by_cases h2 : k = 2
    · subst h2
      rw [if_pos rfl, hl]
      refine .inr (.inl ⟨rfl, ?_⟩)
      by_cases c : n = 0
      · by_cases c2 : l = []
        · rw [if_pos ⟨c, c2⟩]; simp [c, c2]
        · rw [if_neg (fun e => c2 e.2)]; simp [c, c2]
      · rw [if_neg (fun e => c e.1)]; simp [c]
    · rw [if_neg h2, if_neg h3]
      refine .inr (.inr ⟨by simpa using h1, by simpa using h2, by simpa using h3, rfl⟩)

theorem rformed_any (d : Nat) : ∀ (x : V) (v : Value) (w : World), RS w d x.l v → Sm x →
    Calls Tryd.prog 112 #[vv x v] w (RFormedPost x w) := by
  induction d with
  | zero =>
    intro x v w hv hs
    obtain ⟨k, n, s, l⟩ := x
    obtain ⟨hl, A, c, rfl⟩ := hv
    dsimp only at hl
    subst hl
    by_cases h : k = 3
    · subst h
      exact rformed_list n s [] A c w (by simp) (Els.nil _ _ _)
    · exact rformed_atom k n s 0 A c w _ (fmOk_case k n s [] h)
  | succ d ih =>
    intro x v w hv hs
    obtain ⟨k, n, s, l⟩ := x
    dsimp only at hv
    obtain ⟨A, c, rfl⟩ := hv.form
    simp only [Sm] at hs
    by_cases h : k = 3
    · subst h
      exact rformed_list n s l A c w (by omega) (Els.of_RS hv fun y hy v' W hr => ih y v' W hr (SmL_mem hs.2.2.2 y hy))
    · exact rformed_atom k n s l.length A c w _ (fmOk_case k n s l h)

set_option maxRecDepth 100000 in
set_option maxHeartbeats 1000000 in
/-- the cells of a boxed value, in a later world -/
theorem box_cells (x : V) (A : Option Addr) (c : Nat) (w W : World) (h : Below (w.alloc (.cells #[.int .i64 x.k, .int .i64 x.n, .string x.s, .slice A x.l.length c] 80)).heap.size (w.alloc (.cells #[.int .i64 x.k, .int .i64 x.n, .string x.s, .slice A x.l.length c] 80)) W) :
    W.cell? ⟨w.heap.size, 0, none⟩ = some (.int .i64 x.k) ∧ W.cell? ⟨w.heap.size, 1, none⟩ = some (.int .i64 x.n) ∧ W.cell? ⟨w.heap.size, 2, none⟩ = some (.string x.s) ∧ W.cell? ⟨w.heap.size, 3, none⟩ = some (.slice A x.l.length c) := by
  refine ⟨?_, ?_, ?_, ?_⟩ <;> (rw [h.cell (by simp)]; simp [go_sem])

set_option maxRecDepth 100000 in
set_option maxHeartbeats 1000000 in
theorem rcheck_any (d : Nat) (x : V) (v : Value) (w : World) (hv : RS w d x.l v) (hs : Sm x) (hd : dp x ≤ 1000000000000) :
    Calls Tryd.prog 97 #[vv x v] w fun e w' => e = .returned (.int .i64 (ckE x)) ∧ Below w.heap.size w w' := by
  have hf := fun W (hW : Below w.heap.size w W) => rformed_any d x v W (hv.below hW) hs
  have hdp := fun W (hW : Below w.heap.size w W) => depth_any d x v W (hv.below hW) hs hd
  obtain ⟨A, c, rfl⟩ := hv.form
  have hB0 : Below w.heap.size w (w.alloc (.cells #[.int .i64 x.k, .int .i64 x.n, .string x.s, .slice A x.l.length c] 80)) := (Below.refl _ _).alloc (Nat.le_refl _) _
  have hf2 := hf _ hB0
  unfold RFormedPost fmOk at hf2
  cases h : fm x with
  | none =>
    have hE : ckE x = 1 := by unfold ckE; rw [h]
    rw [hE]
    rw [h] at hf2
    have hf3 := Lib.hid hf2
    clear hf hdp hf2 h hE
    go_enter Tryd.func97, Tryd.ntmps97
    go_wp2_with (go_at_call 112; refine hf3.out.mono ?_; rintro e w' ⟨rfl, hb⟩)
    go_ret
    exact ⟨rfl, hB0.trans (‹Below _ _ w'›.mono hB0.size)⟩
  | some a =>
    rw [h] at hf2
    have hf3 := Lib.hid hf2
    have hrd : rd x = a := rd_fm x a h
    have hd2 := Lib.hid hdp
    have hx : a ≤ 1000000000000 := by have := fm_le_dp x a h; omega
    unfold DepthPost at hd2
    rw [hrd] at hd2
    by_cases h16 : 16 < a
    · have hE : ckE x = 2 := by unfold ckE; rw [h]; simp [h16]
      rw [hE]
      clear hf hdp hf2 h hE hrd
      go_enter Tryd.func97, Tryd.ntmps97
      go_wp2_with (first
        | (go_at_call 112; refine hf3.out.mono ?_; rintro e w1 ⟨rfl, hb⟩; obtain ⟨q0, q1, q2, q3⟩ := box_cells x A c w w1 hb)
        | (go_at_call 113; refine (hd2.out w1 (hB0.trans (hb.mono hB0.size))).mono ?_; rintro e w2 ⟨rfl, hb2⟩))
      go_ret
      exact ⟨rfl, (hB0.trans (hb.mono hB0.size)).trans (hb2.mono (Nat.le_trans hB0.size hb.size))⟩
    · have hE : ckE x = 0 := by unfold ckE; rw [h]; simp [h16]
      have h16' : a ≤ 16 := by omega
      rw [hE]
      clear hf hdp hf2 h hE hrd h16
      go_enter Tryd.func97, Tryd.ntmps97
      go_wp2_with (first
        | (go_at_call 112; refine hf3.out.mono ?_; rintro e w1 ⟨rfl, hb⟩; obtain ⟨q0, q1, q2, q3⟩ := box_cells x A c w w1 hb)
        | (go_at_call 113; refine (hd2.out w1 (hB0.trans (hb.mono hB0.size))).mono ?_; rintro e w2 ⟨rfl, hb2⟩))
      go_ret
      exact ⟨rfl, (hB0.trans (hb.mono hB0.size)).trans (hb2.mono (Nat.le_trans hB0.size hb.size))⟩
end Go.Proofs.YthokpfegfnpmhaaDoor
