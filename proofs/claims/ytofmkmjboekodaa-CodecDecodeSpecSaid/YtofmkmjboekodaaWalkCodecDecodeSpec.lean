/- The walk of the law CodecDecodeSpec. -/
import Derived.Test.YtofmkmjboekodaaRDecode
namespace Go.Proofs.Ytofmkmjboekodaa
open Go.RowKit Cdc
set_option linter.unusedVariables false
set_option linter.unusedSimpArgs false

set_option maxRecDepth 100000 in
set_option maxHeartbeats 2000000 in
theorem ds_long (b : List UInt8) (A : Option Addr) (c : Nat) (w : World) (hl : decide ((2000 : Int) < (b.length : Int)) = true) :
    Calls Try.prog 4 #[.slice A b.length c] w fun e w' => e = .returned (.bool true) ∧ Below w.heap.size w w' := by
  have HB := Below.refl w.heap.size w
  go_enter Try.func4, Try.ntmps4
  go_wp2_with fail
  refine (sane_any _).mono ?_
  rintro e w1 ⟨rfl, hb1⟩
  replace HB := bt HB hb1
  clear hb1
  go_wp2_with fail
  go_ret
  exact ⟨rfl, HB⟩

set_option maxRecDepth 100000 in
set_option maxHeartbeats 2000000 in
theorem ds_none (b : List UInt8) (A : Option Addr) (c : Nat) (w : World) (hl : b.length ≤ 2000) (hc : b.length ≤ c) (rb : ∀ q, w.heap.size ≤ q → RB w w.heap.size q A b) (hx : dcV b = none) :
    Calls Try.prog 4 #[.slice A b.length c] w fun e w' => e = .returned (.bool true) ∧ Below w.heap.size w w' := by
  have k1 := fun W (h : Below w.heap.size w W) => raw_none rb c hc (by omega) hx h
  have k2 := fun W (h : Below w.heap.size w W) => rdecode_none b A c W (by omega) hc (fun q hq => rb_at rb h q hq) hx
  have hln : decide ((2000 : Int) < (b.length : Int)) = false := by simp only [decide_eq_false_iff_not]; omega
  replace k1 := Lib.hid k1
  replace k2 := Lib.hid k2
  clear hl rb hx
  have HB := Below.refl w.heap.size w
  go_enter Try.func4, Try.ntmps4
  go_wp2_with fail
  refine (sane_any _).mono ?_
  rintro e w1 ⟨rfl, hb1⟩
  replace HB := bt HB hb1
  clear hb1
  go_wp2_with fail
  refine (k1.out _ HB).mono ?_
  rintro e w2 ⟨rfl, hb2⟩
  replace HB := bt HB hb2
  clear hb2
  have ha3 := ba (Below.refl _ w2) (.cells #[.int .i64 0, .int .i64 0, .string ⟨#[]⟩, .slice none 0 0] 24)
  replace HB := bt HB ha3
  clear ha3
  obtain ⟨p0, p1, p2, p3⟩ := VAt.new w2 (⟨0, 0, ⟨#[]⟩, []⟩ : V) (.slice none 0 0) 24
  have px : w2.heap.size < (w2.alloc (.cells #[.int .i64 0, .int .i64 0, .string ⟨#[]⟩, .slice none 0 0] 24)).heap.size := by simp
  go_wp2_with fail
  refine (k2.out _ HB).mono ?_
  rintro e w4 ⟨rfl, hb4⟩
  replace px := And.intro (VAt.below (x := (⟨0, 0, ⟨#[]⟩, []⟩ : V)) (v := (.slice none 0 0)) ⟨p0, p1, p2, p3⟩ px hb4) (Nat.lt_of_lt_of_le px hb4.size)
  clear p0 p1 p2 p3
  obtain ⟨⟨p0, p1, p2, p3⟩, px⟩ := px
  replace HB := bt HB hb4
  clear hb4
  have hpq := px
  have ha5 := ba (Below.refl _ w4) (.cells #[.int .i64 0, .int .i64 0, .string ⟨#[]⟩, .slice none 0 0] 24)
  replace px := And.intro (VAt.below (x := (⟨0, 0, ⟨#[]⟩, []⟩ : V)) (v := (.slice none 0 0)) ⟨p0, p1, p2, p3⟩ px ha5) (Nat.lt_of_lt_of_le px ha5.size)
  clear p0 p1 p2 p3
  obtain ⟨⟨p0, p1, p2, p3⟩, px⟩ := px
  replace HB := bt HB ha5
  clear ha5
  obtain ⟨q0, q1, q2, q3⟩ := VAt.new w4 (⟨0, 0, ⟨#[]⟩, []⟩ : V) (.slice none 0 0) 24
  have qx : w4.heap.size < (w4.alloc (.cells #[.int .i64 0, .int .i64 0, .string ⟨#[]⟩, .slice none 0 0] 24)).heap.size := by simp
  go_wp2_with fail
  refine (rsame_any 0 ⟨0, 0, ⟨#[]⟩, []⟩ ⟨0, 0, ⟨#[]⟩, []⟩ (.slice none 0 0) (.slice none 0 0) 0 _ (RS.nil _ _ _ _) (RS.nil _ _ _ _) sm_0 sm_0).mono ?_
  rintro e w6 ⟨rfl, hb6⟩
  replace px := And.intro (VAt.below (x := (⟨0, 0, ⟨#[]⟩, []⟩ : V)) (v := (.slice none 0 0)) ⟨p0, p1, p2, p3⟩ px hb6) (Nat.lt_of_lt_of_le px hb6.size)
  clear p0 p1 p2 p3
  obtain ⟨⟨p0, p1, p2, p3⟩, px⟩ := px
  replace qx := And.intro (VAt.below (x := (⟨0, 0, ⟨#[]⟩, []⟩ : V)) (v := (.slice none 0 0)) ⟨q0, q1, q2, q3⟩ qx hb6) (Nat.lt_of_lt_of_le qx hb6.size)
  clear q0 q1 q2 q3
  obtain ⟨⟨q0, q1, q2, q3⟩, qx⟩ := qx
  replace HB := bt HB hb6
  clear hb6
  rw [sm_refl]
  go_wp2_with fail
  go_ret
  exact ⟨rfl, HB⟩

set_option maxRecDepth 100000 in
set_option maxHeartbeats 2000000 in
theorem ds_some (b : List UInt8) (A : Option Addr) (c : Nat) (w : World) (hl : b.length ≤ 2000) (hc : b.length ≤ c) (rb : ∀ q, w.heap.size ≤ q → RB w w.heap.size q A b) (x : V) (hx : dcV b = some x) :
    Calls Try.prog 4 #[.slice A b.length c] w fun e w' => e = .returned (.bool true) ∧ Below w.heap.size w w' := by
  have hxs := (dcV_some hx (by omega)).2.2.1
  have k1 := fun W (h : Below w.heap.size w W) => raw_some rb c hc (by omega) hx h
  have k2 := fun W (h : Below w.heap.size w W) => rdecode_some b A c W x (by omega) hc (fun q hq => rb_at rb h q hq) hx
  have k3 := fun W v (h : RS W 16 x.l v) v' (h' : RS W 16 x.l v') => rsame_any 16 x x v v' 16 W h h' hxs hxs
  unfold SamePost at k3
  simp only [sm_refl] at k3
  have hln : decide ((2000 : Int) < (b.length : Int)) = false := by simp only [decide_eq_false_iff_not]; omega
  replace k1 := Lib.hid k1
  replace k2 := Lib.hid k2
  replace k3 := Lib.hid k3
  clear hl rb hx hxs
  have HB := Below.refl w.heap.size w
  go_enter Try.func4, Try.ntmps4
  go_wp2_with fail
  refine (sane_any _).mono ?_
  rintro e w1 ⟨rfl, hb1⟩
  replace HB := bt HB hb1
  clear hb1
  go_wp2_with fail
  refine (k1.out _ HB).mono ?_
  rintro e w2 ⟨A1, c1, rfl, rs1, hb2⟩
  replace HB := bt HB hb2
  clear hb2
  have ha3 := ba (Below.refl _ w2) (.cells #[.int .i64 x.k, .int .i64 x.n, .string x.s, .slice A1 x.l.length c1] 24)
  replace rs1 := rs1.below ha3
  replace HB := bt HB ha3
  clear ha3
  obtain ⟨p0, p1, p2, p3⟩ := VAt.new w2 x (.slice A1 x.l.length c1) 24
  have px : w2.heap.size < (w2.alloc (.cells #[.int .i64 x.k, .int .i64 x.n, .string x.s, .slice A1 x.l.length c1] 24)).heap.size := by simp
  go_wp2_with fail
  refine (k2.out _ HB).mono ?_
  rintro e w4 ⟨A2, c2, rfl, rs2, hb4⟩
  replace px := And.intro (VAt.below (x := x) (v := (.slice A1 x.l.length c1)) ⟨p0, p1, p2, p3⟩ px hb4) (Nat.lt_of_lt_of_le px hb4.size)
  clear p0 p1 p2 p3
  obtain ⟨⟨p0, p1, p2, p3⟩, px⟩ := px
  replace rs1 := rs1.below hb4
  replace HB := bt HB hb4
  clear hb4
  have hpq := px
  have ha5 := ba (Below.refl _ w4) (.cells #[.int .i64 x.k, .int .i64 x.n, .string x.s, .slice A2 x.l.length c2] 24)
  replace px := And.intro (VAt.below (x := x) (v := (.slice A1 x.l.length c1)) ⟨p0, p1, p2, p3⟩ px ha5) (Nat.lt_of_lt_of_le px ha5.size)
  clear p0 p1 p2 p3
  obtain ⟨⟨p0, p1, p2, p3⟩, px⟩ := px
  replace rs1 := rs1.below ha5
  replace rs2 := rs2.below ha5
  replace HB := bt HB ha5
  clear ha5
  obtain ⟨q0, q1, q2, q3⟩ := VAt.new w4 x (.slice A2 x.l.length c2) 24
  have qx : w4.heap.size < (w4.alloc (.cells #[.int .i64 x.k, .int .i64 x.n, .string x.s, .slice A2 x.l.length c2] 24)).heap.size := by simp
  go_wp2_with fail
  refine (k3.out _ _ rs1 _ rs2).mono ?_
  rintro e w6 ⟨rfl, hb6⟩
  replace px := And.intro (VAt.below (x := x) (v := (.slice A1 x.l.length c1)) ⟨p0, p1, p2, p3⟩ px hb6) (Nat.lt_of_lt_of_le px hb6.size)
  clear p0 p1 p2 p3
  obtain ⟨⟨p0, p1, p2, p3⟩, px⟩ := px
  replace qx := And.intro (VAt.below (x := x) (v := (.slice A2 x.l.length c2)) ⟨q0, q1, q2, q3⟩ qx hb6) (Nat.lt_of_lt_of_le qx hb6.size)
  clear q0 q1 q2 q3
  obtain ⟨⟨q0, q1, q2, q3⟩, qx⟩ := qx
  replace rs1 := rs1.below hb6
  replace rs2 := rs2.below hb6
  replace HB := bt HB hb6
  clear hb6
  go_wp2_with fail
  go_ret
  exact ⟨rfl, HB⟩

theorem walk_CodecDecodeSpec (b : List UInt8) (A : Option Addr) (c : Nat) (w : World) (hc : b.length ≤ c) (hm : b.length ≤ maxLen) (rb : ∀ q, w.heap.size ≤ q → RB w w.heap.size q A b) :
    Calls Try.prog 4 #[.slice A b.length c] w fun e w' => e = .returned (.bool true) ∧ Below w.heap.size w w' := by
  by_cases hl : b.length ≤ 2000
  · cases hx : dcV b with
    | none => exact ds_none b A c w hl hc rb hx
    | some x => exact ds_some b A c w hl hc rb x hx
  · exact ds_long b A c w (by simp only [decide_eq_true_eq]; omega)
end Go.Proofs.Ytofmkmjboekodaa
