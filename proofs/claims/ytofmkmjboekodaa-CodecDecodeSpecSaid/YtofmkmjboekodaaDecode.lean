/- The walk of codec.Decode. -/
import Derived.Test.YtofmkmjboekodaaValueL
import Derived.Defers
import Derived.Recover
namespace Go.Proofs.Ytofmkmjboekodaa
open Go.RowKit Cdc
set_option linter.unusedVariables false
set_option linter.unusedSimpArgs false

set_option maxRecDepth 100000 in
theorem catch_idle (p q : Addr) (w : World) :
    CallsD Try.prog 31 #[.pointer (some p), .pointer (some q)] .returning w fun e u' w' => e = .returned (.tuple #[]) ∧ u' = .returning ∧ w' = w := by
  refine callsD_of_wpS Try.func31 rfl fun c₀ cs hu => ?_
  apply wpS_seq
  apply wpS_region
  simp [wpOpsS, go_sem, recoverD, hu, Try.ntmps31, Exit.thenS]
  apply wpS_seq
  apply wpS_region
  simp [wpOpsS, go_sem, Exit.thenS]
  refine wpS_cond (t := false) (by simp [Act.eval, Array.replicate]) ?_
  simp only [Bool.false_eq_true, if_false]
  refine wpS_of_wp (wp_skip ?_)
  cases c₀
  simp_all [bodyPostS, results, Try.results31]

set_option maxRecDepth 100000 in
theorem catch_panicking (b d : Nat) (a0 a1 a2 a3 e0 : Value) (older : List PanicEntry) (w : World) (hb : w.heap[b]? = some (.cells #[a0, a1, a2, a3] 24 (0, 0))) (hd : w.heap[d]? = some (.cells #[e0] 28 (0, 0))) (hne : b ≠ d) :
    CallsD Try.prog 31 #[.pointer (some ⟨b, 0, none⟩), .pointer (some ⟨d, 0, none⟩)] (.panicking ({ v := .iface 28 (.int .i64 10), recovered := false } :: older)) w fun e u' w' =>
      e = .returned (.tuple #[]) ∧ u' = .panicking ({ v := .iface 28 (.int .i64 10), recovered := true } :: older) ∧
        w' = ((all4 w b (.int .i64 0) (.int .i64 0) (.string ⟨#[]⟩) (.slice none 0 0)).setCell ⟨d, 0, none⟩ (.int .i64 10)).drew := by
  obtain ⟨⟨q0, q1, q2, q3⟩, f0, f1, f2, f3⟩ := cells4 hb
  have g0 : w.cell? ⟨d, 0, none⟩ = some e0 := by simp [World.cell?, hd]
  have z0 : w.frozen? ⟨d, 0, none⟩ = false := frozen_of_row w d 0 _ _ hd
  have hta : ∀ w : World, (Instr.typeAssert (Value.iface 28 (Value.int IntKind.i64 10)) 20 28 false).run Try.prog w = .ok (.int .i64 10) w := fun _ => by kernel_rfl
  refine callsD_of_wpS Try.func31 rfl fun c₀ cs hu => ?_
  apply wpS_seq
  apply wpS_region
  simp [wpOpsS, go_sem, recoverD, hu, Try.ntmps31, Exit.thenS]
  apply wpS_seq
  apply wpS_region
  simp [wpOpsS, go_sem, Exit.thenS]
  refine wpS_cond (t := true) (by simp [Act.eval, Array.replicate]) ?_
  simp only [if_true]
  refine wpS_of_wp ?_
  go_region
  all_goals (clear hta; cases c₀; simp_all [bodyPostS, results, Try.results31, all4])

/-- what Decode answers -/
def dcV (xs : List UInt8) : Option V := match pV 16 xs with
  | some (x, []) => some x
  | _ => none

def DecPost (w : World) (xs : List UInt8) (e : Ending) (w' : World) : Prop :=
  Below w.heap.size w w' ∧ ((∃ x v', dcV xs = some x ∧ e = .returned (.tuple #[vv x v', .int .i64 0]) ∧ RS w' 16 x.l v') ∨
    (dcV xs = none ∧ e = .returned (.tuple #[.agg #[.int .i64 0, .int .i64 0, .string ⟨#[]⟩, .slice none 0 0], .int .i64 10])))

/-- the world in which Decode reads -/
abbrev W3 (w : World) (A : Option Addr) (n c : Nat) : World :=
  ((w.alloc (.cells #[.int .i64 0, .int .i64 0, .string ⟨#[]⟩, .slice none 0 0] 24)).alloc (.cells #[.int .i64 0] 28)).alloc (.cells #[.slice A n c] 58)

theorem W3_rd (w : World) (A : Option Addr) (xs : List UInt8) (c : Nat) (hc : xs.length ≤ c) (hrb : RB w w.heap.size (w.heap.size + 1 + 1) A xs) : RdAt (W3 w A xs.length c) w.heap.size (w.heap.size + 1 + 1) xs := by
  refine ⟨by simp, by simp; omega, A, c, ?_, hc, hrb.keep fun k hk _ => ?_⟩
  · have := heap_alloc_new ((w.alloc (.cells #[.int .i64 0, .int .i64 0, .string ⟨#[]⟩, .slice none 0 0] 24)).alloc (.cells #[.int .i64 0] 28)) (.cells #[.slice A xs.length c] 58)
    simpa using this
  · rw [Below.heap_alloc _ _ _ (by simp; omega), Below.heap_alloc _ _ _ (by simp; omega), Below.heap_alloc _ _ _ hk]

theorem W3_blk (w : World) (A : Option Addr) (n c : Nat) : (W3 w A n c).heap[w.heap.size]? = some (.cells #[.int .i64 0, .int .i64 0, .string ⟨#[]⟩, .slice none 0 0] 24 (0, 0)) ∧
    (W3 w A n c).heap[w.heap.size + 1]? = some (.cells #[.int .i64 0] 28 (0, 0)) := by
  constructor
  · rw [Below.heap_alloc _ _ _ (by simp; omega), Below.heap_alloc _ _ _ (by simp)]
    exact heap_alloc_new w _
  · rw [Below.heap_alloc _ _ _ (by simp)]
    have := heap_alloc_new (w.alloc (.cells #[.int .i64 0, .int .i64 0, .string ⟨#[]⟩, .slice none 0 0] 24)) (.cells #[.int .i64 0] 28)
    simpa using this

theorem W3_below (w w' : World) (A : Option Addr) (n c : Nat) (h : Rd (W3 w A n c) w' (w.heap.size + 1 + 1)) : Below w.heap.size w w' ∧
    w'.heap[w.heap.size]? = some (.cells #[.int .i64 0, .int .i64 0, .string ⟨#[]⟩, .slice none 0 0] 24 (0, 0)) ∧ w'.heap[w.heap.size + 1]? = some (.cells #[.int .i64 0] 28 (0, 0)) := by
  obtain ⟨h1, h2⟩ := W3_blk w A n c
  refine ⟨((((Below.refl _ w).alloc (Nat.le_refl _) _).alloc (by simp) _).alloc (by simp; omega) _).grown h (by simp; omega) (fun g hg => by injection hg with hg; omega), ?_, ?_⟩
  · rw [h.block _ (by simp; omega) (fun e => by injection e with e; omega)]; exact h1
  · rw [h.block _ (by simp) (fun e => by injection e with e; omega)]; exact h2

theorem cells1 {w : World} {g : Nat} {a : Value} (h : w.heap[g]? = some (.cells #[a] 28 (0, 0))) : w.cell? ⟨g, 0, none⟩ = some a ∧ w.frozen? ⟨g, 0, none⟩ = false :=
  ⟨by simp [World.cell?, h], frozen_of_row w g 0 _ _ h⟩

/-- the end of Decode: its results are read out of their cells -/
theorem decode_end {W : World} {b d : Nat} {y0 y1 y2 y3 e0 : Value} {R : Ending → World → Prop} {tmps : Array Value} (h2 : tmps[2]? = some (.pointer (some ⟨b, 0, none⟩))) (h3 : tmps[3]? = some (.pointer (some ⟨d, 0, none⟩)))
    (hb : W.heap[b]? = some (.cells #[y0, y1, y2, y3] 24 (0, 0))) (hd : W.heap[d]? = some (.cells #[e0] 28 (0, 0))) (hR : R (.returned (.tuple #[.agg #[y0, y1, y2, y3], e0])) W) :
    Leaves Try.prog Try.f18 tmps R [] .returning W := by
  obtain ⟨⟨q0, q1, q2, q3⟩, _⟩ := cells4 hb
  obtain ⟨g0, _⟩ := cells1 hd
  have hr : (results Try.f18 tmps).run Try.prog W = .ok (.tuple #[.agg #[y0, y1, y2, y3], e0]) W := by
    simp [results, Try.results18, go_sem, h2, h3, q0, q1, q2, q3, g0]
  simp only [Leaves]
  first | exact ⟨_, hr, hR⟩ | (rw [hr]; exact hR) | (simp [hr]; exact hR)

set_option maxRecDepth 100000 in
set_option maxHeartbeats 1000000 in
theorem decode_none (xs : List UInt8) (A : Option Addr) (c : Nat) (w : World) (hl : xs.length ≤ 10000000) (hc : xs.length ≤ c) (hrb : RB w w.heap.size (w.heap.size + 1 + 1) A xs) (h : pV 16 xs = none) :
    Calls Try.prog 18 #[.slice A xs.length c] w (DecPost w xs) := by
  have hmf : ∀ (fn : Fn) (first cap : Array Value) (w : World), (Instr.makeFunc fn first cap).run Try.prog w = .ok (.func fn first cap) w := fun _ _ _ _ => rfl
  have hdc : dcV xs = none := by unfold dcV; rw [h]
  have hv : Hid (Calls Try.prog 32 #[.pointer (some ⟨w.heap.size + 1 + 1, 0, none⟩), .int .i64 0] (W3 w A xs.length c) fun e w' => e = errP ∧ Below w.heap.size w w' ∧
    w'.heap[w.heap.size]? = some (.cells #[.int .i64 0, .int .i64 0, .string ⟨#[]⟩, .slice none 0 0] 24 (0, 0)) ∧ w'.heap[w.heap.size + 1]? = some (.cells #[.int .i64 0] 28 (0, 0))) := by
    refine (value_any w.heap.size (w.heap.size + 1 + 1) 16 (Nat.le_refl _) _ xs (W3_rd w A xs c hc hrb) (by omega)).mono ?_
    rintro e w' ⟨h1, ⟨x, rest, v', h2, _⟩ | ⟨_, h2⟩⟩
    · rw [h] at h2; cases h2
    · exact ⟨h2, W3_below w w' A _ c h1⟩
  unfold DecPost
  clear h hrb
  go_enter_defers Try.func18, Try.ntmps18
  go_wp2_with (go_at_call 32; refine hv.out.mono ?_; rintro e w1 ⟨rfl, hB1, hb1, hd1⟩)
  refine leaves_cons (f := 31) (args := #[.pointer (some ⟨w.heap.size, 0, none⟩), .pointer (some ⟨w.heap.size + 1, 0, none⟩)]) (by simp) (by simp [go_sem]) ?_
  refine (catch_panicking w.heap.size (w.heap.size + 1) _ _ _ _ _ [] _ hb1 hd1 (by omega)).mono ?_
  rintro e u' w'' ⟨rfl, rfl, rfl⟩
  have hs := all4_heap hb1 (.int .i64 0) (.int .i64 0) (.string ⟨#[]⟩) (.slice none 0 0)
  have hd2 : ((all4 w1 w.heap.size (.int .i64 0) (.int .i64 0) (.string ⟨#[]⟩) (.slice none 0 0)).setCell ⟨w.heap.size + 1, 0, none⟩ (.int .i64 10)).heap[w.heap.size + 1]? = some (.cells #[.int .i64 10] 28 (0, 0)) :=
    heap_setCell_same _ _ 0 _ _ _ ((all4_other (by omega) _ _ _ _).trans hd1)
  have hb2 : ((all4 w1 w.heap.size (.int .i64 0) (.int .i64 0) (.string ⟨#[]⟩) (.slice none 0 0)).setCell ⟨w.heap.size + 1, 0, none⟩ (.int .i64 10)).heap[w.heap.size]? = some (.cells #[.int .i64 0, .int .i64 0, .string ⟨#[]⟩, .slice none 0 0] 24 (0, 0)) :=
    (heap_setCell_other _ ⟨w.heap.size + 1, 0, none⟩ _ _ (by simp)).trans hs
  have hB2 : Below w.heap.size w ((all4 w1 w.heap.size (.int .i64 0) (.int .i64 0) (.string ⟨#[]⟩) (.slice none 0 0)).setCell ⟨w.heap.size + 1, 0, none⟩ (.int .i64 10)) := by
    refine ⟨hB1.os, hB1.tape, hB1.output, by simpa [all4] using hB1.size, fun k hk => ?_⟩
    exact ((heap_setCell_other _ ⟨w.heap.size + 1, 0, none⟩ _ _ (by simp; omega)).trans (all4_other (by omega) _ _ _ _)).trans (hB1.block k hk)
  generalize (all4 w1 w.heap.size (.int .i64 0) (.int .i64 0) (.string ⟨#[]⟩) (.slice none 0 0)).setCell ⟨w.heap.size + 1, 0, none⟩ (.int .i64 10) = WW at hd2 hb2 hB2 ⊢
  clear hs
  have hb3 : WW.drew.heap[w.heap.size]? = some (.cells #[.int .i64 0, .int .i64 0, .string ⟨#[]⟩, .slice none 0 0] 24 (0, 0)) := hb2
  have hd3 : WW.drew.heap[w.heap.size + 1]? = some (.cells #[.int .i64 10] 28 (0, 0)) := hd2
  have hB3 := hB2.drew
  generalize WW.drew = W4 at hb3 hd3 hB3 ⊢
  change Leaves _ _ _ _ _ FrameMode.returning _
  exact decode_end rfl rfl hb3 hd3 ⟨hB3, .inr ⟨hdc, rfl⟩⟩
end Go.Proofs.Ytofmkmjboekodaa
