/- The walk of the law CodecSameSpec. -/
import Derived.Test.YtofmkmjboekodaaLawA
namespace Go.Proofs.Ytofmkmjboekodaa
open Go.RowKit Cdc
set_option linter.unusedVariables false
set_option linter.unusedSimpArgs false

set_option maxRecDepth 100000 in
set_option maxHeartbeats 2000000 in
theorem samespec_few (x y : V) (A A' : Option Addr) (c c' D D' : Nat) (w : World) (hr : RS w D x.l (.slice A x.l.length c)) (hr' : RS w D' y.l (.slice A' y.l.length c')) (hl : Lg x) (hl' : Lg y) (hs : Sm x) (hs' : Sm y)
    (b : Bool) (hb : sm x y = b) (hf : (fewB x && fewB y) = true) :
    Calls Try.prog 5 #[vv x (.slice A x.l.length c), vv y (.slice A' y.l.length c')] w fun e w' => e = .returned (.bool true) ∧ Below w.heap.size w w' := by
  have k1 := fun W (h : Below w.heap.size w W) => same_any D x y _ _ D' W (hr.below h) (hr'.below h) hs hs'
  have k2 := fun W (h : Below w.heap.size w W) => rsame_any D x y _ _ D' W (hr.below h) (hr'.below h) hs hs'
  have k3 := fun W (h : Below w.heap.size w W) => same_any D x x _ _ D W (hr.below h) (hr.below h) hs hs
  have k4 := fun W (h : Below w.heap.size w W) => same_any D' y y _ _ D' W (hr'.below h) (hr'.below h) hs' hs'
  have k0 := fun W (h : Below w.heap.size w W) => few2 x y A A' c c' D D' W (hr.below h) (hr'.below h) hl hl'
  unfold SamePost at k1 k2 k3 k4
  simp only [hb, sm_refl, hf] at k0 k1 k2 k3 k4
  replace k0 := Lib.hid k0
  replace k1 := Lib.hid k1
  replace k2 := Lib.hid k2
  replace k3 := Lib.hid k3
  replace k4 := Lib.hid k4
  have hfH := Lib.hid hf
  clear hr hr' hs hs' hl hl' hb hf
  have HB := Below.refl w.heap.size w
  cases b
  all_goals
    go_enter Try.func5, Try.ntmps5
    go_wp2_with fail
    refine (sane_any _).mono ?_
    rintro e w1 ⟨rfl, hb1⟩
    have HB1 := bt (ba (ba HB _) _) hb1
    have hz1 := hb1.size
    simp at hz1
    obtain ⟨p0, p1, p2, p3⟩ := ((VAt.new w x (.slice A x.l.length c) 24).below (by simp) ((Below.refl _ _).alloc (Nat.le_refl _) _)).below (by simp; omega) hb1
    obtain ⟨q0, q1, q2, q3⟩ := (VAt.new (w.alloc (.cells #[.int .i64 x.k, .int .i64 x.n, .string x.s, .slice A x.l.length c] 24)) y (.slice A' y.l.length c') 24).below (by simp) hb1
    simp at q0 q1 q2 q3
    clear hb1
    go_wp2_with fail
    refine (k0.out _ HB1).mono ?_
    rintro e w2 ⟨rfl, hb2⟩
    replace hb2 := (ba (Below.refl _ w1) (.cells #[.int .i64 x.k, .int .i64 x.n, .string x.s, .slice A x.l.length c, .int .i64 y.k, .int .i64 y.n, .string y.s, .slice A' y.l.length c'] 24)).trans (hb2.mono (Nat.le_succ _))
    have HB2 := bt HB1 hb2
    have r0 := (hb2.cell (p := ⟨w.heap.size, 0, none⟩) (by simp; omega)).trans p0
    have r1 := (hb2.cell (p := ⟨w.heap.size, 1, none⟩) (by simp; omega)).trans p1
    have r2 := (hb2.cell (p := ⟨w.heap.size, 2, none⟩) (by simp; omega)).trans p2
    have r3 := (hb2.cell (p := ⟨w.heap.size, 3, none⟩) (by simp; omega)).trans p3
    have s0 := (hb2.cell (p := ⟨w.heap.size + 1, 0, none⟩) (by simp; omega)).trans q0
    have s1 := (hb2.cell (p := ⟨w.heap.size + 1, 1, none⟩) (by simp; omega)).trans q1
    have s2 := (hb2.cell (p := ⟨w.heap.size + 1, 2, none⟩) (by simp; omega)).trans q2
    have s3 := (hb2.cell (p := ⟨w.heap.size + 1, 3, none⟩) (by simp; omega)).trans q3
    have hz2 := hb2.size
    have hzy : w.heap.size + 1 < w2.heap.size := by omega
    have hzx : w.heap.size < w2.heap.size := by omega
    have HB3 := Below.refl w2.heap.size w2
    clear p0 p1 p2 p3 q0 q1 q2 q3 hz1 hz2 hb2 HB1 HB
    go_wp2_with fail
    go_region_held3 (fun w' => w'.cell? ⟨w.heap.size, 0, none⟩ = some (Value.int .i64 x.k) ∧ w'.cell? ⟨w.heap.size, 1, none⟩ = some (Value.int .i64 x.n) ∧ w'.cell? ⟨w.heap.size, 2, none⟩ = some (Value.string x.s) ∧ w'.cell? ⟨w.heap.size, 3, none⟩ = some (Value.slice A x.l.length c) ∧ w'.cell? ⟨w.heap.size + 1, 0, none⟩ = some (Value.int .i64 y.k) ∧ w'.cell? ⟨w.heap.size + 1, 1, none⟩ = some (Value.int .i64 y.n) ∧ w'.cell? ⟨w.heap.size + 1, 2, none⟩ = some (Value.string y.s) ∧ w'.cell? ⟨w.heap.size + 1, 3, none⟩ = some (Value.slice A' y.l.length c'))
      (first
        | go_keep
        | exact ⟨(HB3.cell (p := ⟨w.heap.size, 0, none⟩) hzx).trans r0, (HB3.cell (p := ⟨w.heap.size, 1, none⟩) hzx).trans r1, (HB3.cell (p := ⟨w.heap.size, 2, none⟩) hzx).trans r2, (HB3.cell (p := ⟨w.heap.size, 3, none⟩) hzx).trans r3, (HB3.cell (p := ⟨w.heap.size + 1, 0, none⟩) hzy).trans s0, (HB3.cell (p := ⟨w.heap.size + 1, 1, none⟩) hzy).trans s1, (HB3.cell (p := ⟨w.heap.size + 1, 2, none⟩) hzy).trans s2, (HB3.cell (p := ⟨w.heap.size + 1, 3, none⟩) hzy).trans s3⟩)
      (first
        | (go_at_call 21; with_reducible refine (k1.out _ ?_).mono ?_; (first | exact HB2 | exact HB2.drew); rintro e w3 ⟨rfl, hb3⟩; (first | replace HB2 := bt HB2 hb3 | replace HB2 := bt HB2.drew hb3); (first | replace HB3 := bt HB3 hb3 | replace HB3 := bt HB3.drew hb3); clear hb3)
        | (go_at_call 20; with_reducible refine (k2.out _ ?_).mono ?_; (first | exact HB2 | exact HB2.drew); rintro e w3 ⟨rfl, hb3⟩; (first | replace HB2 := bt HB2 hb3 | replace HB2 := bt HB2.drew hb3); (first | replace HB3 := bt HB3 hb3 | replace HB3 := bt HB3.drew hb3); clear hb3)
        | (go_at_call 21; with_reducible refine (k3.out _ ?_).mono ?_; (first | exact HB2 | exact HB2.drew); rintro e w3 ⟨rfl, hb3⟩; (first | replace HB2 := bt HB2 hb3 | replace HB2 := bt HB2.drew hb3); (first | replace HB3 := bt HB3 hb3 | replace HB3 := bt HB3.drew hb3); clear hb3)
        | (go_at_call 21; with_reducible refine (k4.out _ ?_).mono ?_; (first | exact HB2 | exact HB2.drew); rintro e w3 ⟨rfl, hb3⟩; (first | replace HB2 := bt HB2 hb3 | replace HB2 := bt HB2.drew hb3); (first | replace HB3 := bt HB3 hb3 | replace HB3 := bt HB3.drew hb3); clear hb3))
    all_goals
      go_wp2_with fail
      go_ret
      exact ⟨rfl, HB2⟩

set_option maxRecDepth 100000 in
set_option maxHeartbeats 2000000 in
theorem samespec_many (x y : V) (A A' : Option Addr) (c c' D D' : Nat) (w : World) (hr : RS w D x.l (.slice A x.l.length c)) (hr' : RS w D' y.l (.slice A' y.l.length c')) (hl : Lg x) (hl' : Lg y) (hf : (fewB x && fewB y) = false) :
    Calls Try.prog 5 #[vv x (.slice A x.l.length c), vv y (.slice A' y.l.length c')] w fun e w' => e = .returned (.bool true) ∧ Below w.heap.size w w' := by
  have k0 := fun W (h : Below w.heap.size w W) => few2 x y A A' c c' D D' W (hr.below h) (hr'.below h) hl hl'
  simp only [hf] at k0
  replace k0 := Lib.hid k0
  clear hr hr' hl hl' hf
  have HB := Below.refl w.heap.size w
  go_enter Try.func5, Try.ntmps5
  go_wp2_with fail
  refine (sane_any _).mono ?_
  rintro e w1 ⟨rfl, hb1⟩
  have HB1 := bt (ba (ba HB _) _) hb1
  have hz1 := hb1.size
  simp at hz1
  obtain ⟨p0, p1, p2, p3⟩ := ((VAt.new w x (.slice A x.l.length c) 24).below (by simp) ((Below.refl _ _).alloc (Nat.le_refl _) _)).below (by simp; omega) hb1
  obtain ⟨q0, q1, q2, q3⟩ := (VAt.new (w.alloc (.cells #[.int .i64 x.k, .int .i64 x.n, .string x.s, .slice A x.l.length c] 24)) y (.slice A' y.l.length c') 24).below (by simp) hb1
  simp at q0 q1 q2 q3
  clear hb1
  go_wp2_with fail
  refine (k0.out _ HB1).mono ?_
  rintro e w2 ⟨rfl, hb2⟩
  replace hb2 := (ba (Below.refl _ w1) (.cells #[.int .i64 x.k, .int .i64 x.n, .string x.s, .slice A x.l.length c, .int .i64 y.k, .int .i64 y.n, .string y.s, .slice A' y.l.length c'] 24)).trans (hb2.mono (Nat.le_succ _))
  have HB2 := bt HB1 hb2
  go_wp2_with fail
  go_ret
  exact ⟨rfl, HB2⟩

theorem walk_CodecSameSpec (x y : V) (A : Option Addr) (c D : Nat) (A' : Option Addr) (c' D' : Nat) (w : World) (hr : RS w D x.l (.slice A x.l.length c)) (hi : Ib x) (hl : Lg x) (hr' : RS w D' y.l (.slice A' y.l.length c')) (hi' : Ib y) (hl' : Lg y) :
    Calls Try.prog 5 #[vv x (.slice A x.l.length c), vv y (.slice A' y.l.length c')] w fun e w' => e = .returned (.bool true) ∧ Below w.heap.size w w' := by
  cases hf : (fewB x && fewB y) with
  | false => exact samespec_many x y A A' c c' D D' w hr hr' hl hl' hf
  | true =>
    have hf2 := hf
    rw [Bool.and_eq_true] at hf2
    exact samespec_few x y A A' c c' D D' w hr hr' hl hl' (few_sm x hi hf2.1).1 (few_sm y hi' hf2.2).1 _ rfl hf
end Go.Proofs.Ytofmkmjboekodaa
