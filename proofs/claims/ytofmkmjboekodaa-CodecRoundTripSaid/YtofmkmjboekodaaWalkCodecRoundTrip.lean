/- The walk of the law CodecRoundTrip. -/
import Derived.Test.YtofmkmjboekodaaLawB
namespace Go.Proofs.Ytofmkmjboekodaa
open Go.RowKit Cdc
set_option linter.unusedVariables false
set_option linter.unusedSimpArgs false

set_option maxRecDepth 100000 in
set_option maxHeartbeats 2000000 in
theorem rt_ok_some (x : V) (xs : List UInt8) (A : Option Addr) (c D : Nat) (A1 : Option Addr) (c1 : Nat) (w : World) (hr : RS w D x.l (.slice A x.l.length c)) (hl : Lg x) (hs : Sm x) (hd : dp x ≤ 1000000) (hlen : (enc x).length ≤ 1000000) (hf : fewB x = true)
    (lc : xs.length ≤ c1) (ln : xs.length ≤ 2000) (rb : ∀ q, w.heap.size ≤ q → RB w w.heap.size q A1 xs) (hck : ckE x = 0) (z : V) (hz : dcV xs = some z) :
    Calls Try.prog 6 #[vv x (.slice A x.l.length c), .slice A1 xs.length c1] w fun e w' => e = .returned (.bool true) ∧ Below w.heap.size w w' := by
  have k0 := fun W (h : Below w.heap.size w W) => few1 x A c D W (hr.below h) hl
  have k1 := fun W (h : Below w.heap.size w W) => encode_any D x _ W (hr.below h) hs (by omega) (by omega)
  have k2 := fun W (h : Below w.heap.size w W) => check_any D x _ W (hr.below h) hs (by omega)
  have k3 := fun W v (h : Own W v (enc x)) => own_some hs hck hlen h
  have k4 := fun W (h : Below w.heap.size w W) v (hv : RS W 16 x.l v) => same_any D x x _ v 16 W (hr.below h) hv hs hs
  have k5 := fun W (h : Below w.heap.size w W) v (hv : RS W 16 x.l v) => rsame_any D x x _ v 16 W (hr.below h) hv hs hs
  unfold SamePost at k4 k5
  simp only [sm_refl] at k4 k5
  obtain ⟨hxe, hzk, hzs, hzd⟩ := dcV_some hz (by omega)
  have k6 := fun W (h : Below w.heap.size w W) => raw_some rb c1 lc (by omega) hz h
  have k7 := fun W v (hv : RS W 16 z.l v) => encode_any 16 z v W hv hzs (by omega) (by rw [← hxe]; omega)
  have k8 := fun W v (hv : RS W 16 z.l v) => check_any 16 z v W hv hzs (by omega)
  obtain ⟨s, hse⟩ : ∃ s : ByteArray, s = ⟨xs.toArray⟩ := ⟨_, rfl⟩
  have k9 := fun W (h : Below w.heap.size w W) => raw_conv rb c1 (Lib.hid hse) h
  unfold EncPost at k7
  simp only [hzk, encB_of hzk, ← hxe] at k7 k8
  replace hse := Lib.hid hse
  unfold EncPost at k1
  rw [hf] at k0
  simp only [hck, encB_of hck] at k1 k2
  replace k0 := Lib.hid k0
  replace k1 := Lib.hid k1
  replace k2 := Lib.hid k2
  replace k6 := Lib.hid k6
  replace k3 := Lib.hid k3
  replace k4 := Lib.hid k4
  replace k5 := Lib.hid k5
  replace k7 := Lib.hid k7
  replace k8 := Lib.hid k8
  replace k9 := Lib.hid k9
  clear hr hs hl hf hlen hd rb hz hck hxe hzk hzs hzd
  have hln : ¬ (2000 : Int) < (xs.length : Int) := by omega
  have HB := Below.refl w.heap.size w
  go_enter Try.func6, Try.ntmps6
  have ha1 := ba (Below.refl _ w) (.cells #[.int .i64 x.k, .int .i64 x.n, .string x.s, .slice A x.l.length c] 24)
  replace HB := bt HB ha1
  clear ha1
  obtain ⟨p0, p1, p2, p3⟩ := VAt.new w x (.slice A x.l.length c) 24
  have px : w.heap.size < (w.alloc (.cells #[.int .i64 x.k, .int .i64 x.n, .string x.s, .slice A x.l.length c] 24)).heap.size := by simp
  go_wp2_with fail
  refine (sane_any _).mono ?_
  rintro e w2 ⟨rfl, hb2⟩
  replace px := And.intro (VAt.below (x := x) (v := (.slice A x.l.length c)) ⟨p0, p1, p2, p3⟩ px hb2) (Nat.lt_of_lt_of_le px hb2.size)
  clear p0 p1 p2 p3
  obtain ⟨⟨p0, p1, p2, p3⟩, px⟩ := px
  replace HB := bt HB hb2
  clear hb2
  go_wp2_with fail
  refine (k0.out _ HB).mono ?_
  rintro e wf ⟨rfl, hbf⟩
  replace hbf := (ba (Below.refl _ w2) (.cells #[.int .i64 x.k, .int .i64 x.n, .string x.s, .slice A x.l.length c] 24)).trans (hbf.mono (Nat.le_succ _))
  replace px := And.intro (VAt.below (x := x) (v := (.slice A x.l.length c)) ⟨p0, p1, p2, p3⟩ px hbf) (Nat.lt_of_lt_of_le px hbf.size)
  clear p0 p1 p2 p3
  obtain ⟨⟨p0, p1, p2, p3⟩, px⟩ := px
  replace HB := bt HB hbf
  clear hbf
  go_wp2_with fail
  refine (k1.out _ HB).mono ?_
  rintro e w3 ⟨v1, rfl, own1, _, hb3⟩
  replace px := And.intro (VAt.below (x := x) (v := (.slice A x.l.length c)) ⟨p0, p1, p2, p3⟩ px hb3) (Nat.lt_of_lt_of_le px hb3.size)
  clear p0 p1 p2 p3
  obtain ⟨⟨p0, p1, p2, p3⟩, px⟩ := px
  replace HB := bt HB hb3
  clear hb3
  go_wp2_with fail
  refine (k2.out _ HB).mono ?_
  rintro e w4 ⟨rfl, hb4⟩
  replace px := And.intro (VAt.below (x := x) (v := (.slice A x.l.length c)) ⟨p0, p1, p2, p3⟩ px hb4) (Nat.lt_of_lt_of_le px hb4.size)
  clear p0 p1 p2 p3
  obtain ⟨⟨p0, p1, p2, p3⟩, px⟩ := px
  replace own1 := own1.below hb4
  replace HB := bt HB hb4
  clear hb4
  go_wp2_with fail
  refine (k3.out _ _ own1).mono ?_
  rintro e w5 ⟨A2, c2, rfl, rs2, hb5⟩
  replace px := And.intro (VAt.below (x := x) (v := (.slice A x.l.length c)) ⟨p0, p1, p2, p3⟩ px hb5) (Nat.lt_of_lt_of_le px hb5.size)
  clear p0 p1 p2 p3
  obtain ⟨⟨p0, p1, p2, p3⟩, px⟩ := px
  replace own1 := own1.below hb5
  replace HB := bt HB hb5
  clear hb5
  clear own1
  have hpq := px
  have ha6 := ba (Below.refl _ w5) (.cells #[.int .i64 x.k, .int .i64 x.n, .string x.s, .slice A2 x.l.length c2] 24)
  replace px := And.intro (VAt.below (x := x) (v := (.slice A x.l.length c)) ⟨p0, p1, p2, p3⟩ px ha6) (Nat.lt_of_lt_of_le px ha6.size)
  clear p0 p1 p2 p3
  obtain ⟨⟨p0, p1, p2, p3⟩, px⟩ := px
  replace rs2 := rs2.below ha6
  replace HB := bt HB ha6
  clear ha6
  obtain ⟨q0, q1, q2, q3⟩ := VAt.new w5 x (.slice A2 x.l.length c2) 24
  have qx : w5.heap.size < (w5.alloc (.cells #[.int .i64 x.k, .int .i64 x.n, .string x.s, .slice A2 x.l.length c2] 24)).heap.size := by simp
  go_wp2_with fail
  refine (k4.out _ HB _ rs2).mono ?_
  rintro e w7 ⟨rfl, hb7⟩
  replace px := And.intro (VAt.below (x := x) (v := (.slice A x.l.length c)) ⟨p0, p1, p2, p3⟩ px hb7) (Nat.lt_of_lt_of_le px hb7.size)
  clear p0 p1 p2 p3
  obtain ⟨⟨p0, p1, p2, p3⟩, px⟩ := px
  replace qx := And.intro (VAt.below (x := x) (v := (.slice A2 x.l.length c2)) ⟨q0, q1, q2, q3⟩ qx hb7) (Nat.lt_of_lt_of_le qx hb7.size)
  clear q0 q1 q2 q3
  obtain ⟨⟨q0, q1, q2, q3⟩, qx⟩ := qx
  replace rs2 := rs2.below hb7
  replace HB := bt HB hb7
  clear hb7
  go_wp2_with fail
  refine (k5.out _ HB _ rs2).mono ?_
  rintro e w8 ⟨rfl, hb8⟩
  replace px := And.intro (VAt.below (x := x) (v := (.slice A x.l.length c)) ⟨p0, p1, p2, p3⟩ px hb8) (Nat.lt_of_lt_of_le px hb8.size)
  clear p0 p1 p2 p3
  obtain ⟨⟨p0, p1, p2, p3⟩, px⟩ := px
  replace qx := And.intro (VAt.below (x := x) (v := (.slice A2 x.l.length c2)) ⟨q0, q1, q2, q3⟩ qx hb8) (Nat.lt_of_lt_of_le qx hb8.size)
  clear q0 q1 q2 q3
  obtain ⟨⟨q0, q1, q2, q3⟩, qx⟩ := qx
  replace rs2 := rs2.below hb8
  replace HB := bt HB hb8
  clear hb8
  go_wp2_with fail
  refine (k6.out _ HB).mono ?_
  rintro e w9 ⟨A3, c3, rfl, rs3, hb9⟩
  replace px := And.intro (VAt.below (x := x) (v := (.slice A x.l.length c)) ⟨p0, p1, p2, p3⟩ px hb9) (Nat.lt_of_lt_of_le px hb9.size)
  clear p0 p1 p2 p3
  obtain ⟨⟨p0, p1, p2, p3⟩, px⟩ := px
  replace qx := And.intro (VAt.below (x := x) (v := (.slice A2 x.l.length c2)) ⟨q0, q1, q2, q3⟩ qx hb9) (Nat.lt_of_lt_of_le qx hb9.size)
  clear q0 q1 q2 q3
  obtain ⟨⟨q0, q1, q2, q3⟩, qx⟩ := qx
  replace rs2 := rs2.below hb9
  replace HB := bt HB hb9
  clear hb9
  have ha10 := ba (Below.refl _ w9) (.cells #[.int .i64 z.k, .int .i64 z.n, .string z.s, .slice A3 z.l.length c3] 24)
  replace px := And.intro (VAt.below (x := x) (v := (.slice A x.l.length c)) ⟨p0, p1, p2, p3⟩ px ha10) (Nat.lt_of_lt_of_le px ha10.size)
  clear p0 p1 p2 p3
  obtain ⟨⟨p0, p1, p2, p3⟩, px⟩ := px
  replace qx := And.intro (VAt.below (x := x) (v := (.slice A2 x.l.length c2)) ⟨q0, q1, q2, q3⟩ qx ha10) (Nat.lt_of_lt_of_le qx ha10.size)
  clear q0 q1 q2 q3
  obtain ⟨⟨q0, q1, q2, q3⟩, qx⟩ := qx
  replace rs2 := rs2.below ha10
  replace rs3 := rs3.below ha10
  replace HB := bt HB ha10
  clear ha10
  obtain ⟨r0, r1, r2, r3⟩ := VAt.new w9 z (.slice A3 z.l.length c3) 24
  have rx : w9.heap.size < (w9.alloc (.cells #[.int .i64 z.k, .int .i64 z.n, .string z.s, .slice A3 z.l.length c3] 24)).heap.size := by simp
  go_wp2_with fail
  refine (k7.out _ _ rs3).mono ?_
  rintro e w11 ⟨v4, rfl, own4, _, hb11⟩
  replace px := And.intro (VAt.below (x := x) (v := (.slice A x.l.length c)) ⟨p0, p1, p2, p3⟩ px hb11) (Nat.lt_of_lt_of_le px hb11.size)
  clear p0 p1 p2 p3
  obtain ⟨⟨p0, p1, p2, p3⟩, px⟩ := px
  replace qx := And.intro (VAt.below (x := x) (v := (.slice A2 x.l.length c2)) ⟨q0, q1, q2, q3⟩ qx hb11) (Nat.lt_of_lt_of_le qx hb11.size)
  clear q0 q1 q2 q3
  obtain ⟨⟨q0, q1, q2, q3⟩, qx⟩ := qx
  replace rx := And.intro (VAt.below (x := z) (v := (.slice A3 z.l.length c3)) ⟨r0, r1, r2, r3⟩ rx hb11) (Nat.lt_of_lt_of_le rx hb11.size)
  clear r0 r1 r2 r3
  obtain ⟨⟨r0, r1, r2, r3⟩, rx⟩ := rx
  replace rs2 := rs2.below hb11
  replace rs3 := rs3.below hb11
  replace HB := bt HB hb11
  clear hb11
  have cv4 := own4.convAt hse (Below.refl _ _)
  have cv5 := k9.out _ HB
  go_wp2_with fail
  refine (k8.out _ _ rs3).mono ?_
  rintro e w12 ⟨rfl, hb12⟩
  replace px := And.intro (VAt.below (x := x) (v := (.slice A x.l.length c)) ⟨p0, p1, p2, p3⟩ px hb12) (Nat.lt_of_lt_of_le px hb12.size)
  clear p0 p1 p2 p3
  obtain ⟨⟨p0, p1, p2, p3⟩, px⟩ := px
  replace qx := And.intro (VAt.below (x := x) (v := (.slice A2 x.l.length c2)) ⟨q0, q1, q2, q3⟩ qx hb12) (Nat.lt_of_lt_of_le qx hb12.size)
  clear q0 q1 q2 q3
  obtain ⟨⟨q0, q1, q2, q3⟩, qx⟩ := qx
  replace rx := And.intro (VAt.below (x := z) (v := (.slice A3 z.l.length c3)) ⟨r0, r1, r2, r3⟩ rx hb12) (Nat.lt_of_lt_of_le rx hb12.size)
  clear r0 r1 r2 r3
  obtain ⟨⟨r0, r1, r2, r3⟩, rx⟩ := rx
  replace own4 := own4.below hb12
  replace rs2 := rs2.below hb12
  replace rs3 := rs3.below hb12
  replace HB := bt HB hb12
  clear hb12
  go_wp2_with fail
  go_ret
  exact ⟨rfl, HB⟩

set_option maxRecDepth 100000 in
set_option maxHeartbeats 2000000 in
theorem rt_ok_none (x : V) (xs : List UInt8) (A : Option Addr) (c D : Nat) (A1 : Option Addr) (c1 : Nat) (w : World) (hr : RS w D x.l (.slice A x.l.length c)) (hl : Lg x) (hs : Sm x) (hd : dp x ≤ 1000000) (hlen : (enc x).length ≤ 1000000) (hf : fewB x = true)
    (lc : xs.length ≤ c1) (ln : xs.length ≤ 2000) (rb : ∀ q, w.heap.size ≤ q → RB w w.heap.size q A1 xs) (hck : ckE x = 0) (hz : dcV xs = none) :
    Calls Try.prog 6 #[vv x (.slice A x.l.length c), .slice A1 xs.length c1] w fun e w' => e = .returned (.bool true) ∧ Below w.heap.size w w' := by
  have k0 := fun W (h : Below w.heap.size w W) => few1 x A c D W (hr.below h) hl
  have k1 := fun W (h : Below w.heap.size w W) => encode_any D x _ W (hr.below h) hs (by omega) (by omega)
  have k2 := fun W (h : Below w.heap.size w W) => check_any D x _ W (hr.below h) hs (by omega)
  have k3 := fun W v (h : Own W v (enc x)) => own_some hs hck hlen h
  have k4 := fun W (h : Below w.heap.size w W) v (hv : RS W 16 x.l v) => same_any D x x _ v 16 W (hr.below h) hv hs hs
  have k5 := fun W (h : Below w.heap.size w W) v (hv : RS W 16 x.l v) => rsame_any D x x _ v 16 W (hr.below h) hv hs hs
  unfold SamePost at k4 k5
  simp only [sm_refl] at k4 k5
  have k6 := fun W (h : Below w.heap.size w W) => raw_none rb c1 lc (by omega) hz h
  unfold EncPost at k1
  rw [hf] at k0
  simp only [hck, encB_of hck] at k1 k2
  replace k0 := Lib.hid k0
  replace k1 := Lib.hid k1
  replace k2 := Lib.hid k2
  replace k6 := Lib.hid k6
  replace k3 := Lib.hid k3
  replace k4 := Lib.hid k4
  replace k5 := Lib.hid k5
  clear hr hs hl hf hlen hd rb hz hck
  have hln : ¬ (2000 : Int) < (xs.length : Int) := by omega
  have HB := Below.refl w.heap.size w
  go_enter Try.func6, Try.ntmps6
  have ha1 := ba (Below.refl _ w) (.cells #[.int .i64 x.k, .int .i64 x.n, .string x.s, .slice A x.l.length c] 24)
  replace HB := bt HB ha1
  clear ha1
  obtain ⟨p0, p1, p2, p3⟩ := VAt.new w x (.slice A x.l.length c) 24
  have px : w.heap.size < (w.alloc (.cells #[.int .i64 x.k, .int .i64 x.n, .string x.s, .slice A x.l.length c] 24)).heap.size := by simp
  go_wp2_with fail
  refine (sane_any _).mono ?_
  rintro e w2 ⟨rfl, hb2⟩
  replace px := And.intro (VAt.below (x := x) (v := (.slice A x.l.length c)) ⟨p0, p1, p2, p3⟩ px hb2) (Nat.lt_of_lt_of_le px hb2.size)
  clear p0 p1 p2 p3
  obtain ⟨⟨p0, p1, p2, p3⟩, px⟩ := px
  replace HB := bt HB hb2
  clear hb2
  go_wp2_with fail
  refine (k0.out _ HB).mono ?_
  rintro e wf ⟨rfl, hbf⟩
  replace hbf := (ba (Below.refl _ w2) (.cells #[.int .i64 x.k, .int .i64 x.n, .string x.s, .slice A x.l.length c] 24)).trans (hbf.mono (Nat.le_succ _))
  replace px := And.intro (VAt.below (x := x) (v := (.slice A x.l.length c)) ⟨p0, p1, p2, p3⟩ px hbf) (Nat.lt_of_lt_of_le px hbf.size)
  clear p0 p1 p2 p3
  obtain ⟨⟨p0, p1, p2, p3⟩, px⟩ := px
  replace HB := bt HB hbf
  clear hbf
  go_wp2_with fail
  refine (k1.out _ HB).mono ?_
  rintro e w3 ⟨v1, rfl, own1, _, hb3⟩
  replace px := And.intro (VAt.below (x := x) (v := (.slice A x.l.length c)) ⟨p0, p1, p2, p3⟩ px hb3) (Nat.lt_of_lt_of_le px hb3.size)
  clear p0 p1 p2 p3
  obtain ⟨⟨p0, p1, p2, p3⟩, px⟩ := px
  replace HB := bt HB hb3
  clear hb3
  go_wp2_with fail
  refine (k2.out _ HB).mono ?_
  rintro e w4 ⟨rfl, hb4⟩
  replace px := And.intro (VAt.below (x := x) (v := (.slice A x.l.length c)) ⟨p0, p1, p2, p3⟩ px hb4) (Nat.lt_of_lt_of_le px hb4.size)
  clear p0 p1 p2 p3
  obtain ⟨⟨p0, p1, p2, p3⟩, px⟩ := px
  replace own1 := own1.below hb4
  replace HB := bt HB hb4
  clear hb4
  go_wp2_with fail
  refine (k3.out _ _ own1).mono ?_
  rintro e w5 ⟨A2, c2, rfl, rs2, hb5⟩
  replace px := And.intro (VAt.below (x := x) (v := (.slice A x.l.length c)) ⟨p0, p1, p2, p3⟩ px hb5) (Nat.lt_of_lt_of_le px hb5.size)
  clear p0 p1 p2 p3
  obtain ⟨⟨p0, p1, p2, p3⟩, px⟩ := px
  replace own1 := own1.below hb5
  replace HB := bt HB hb5
  clear hb5
  clear own1
  have hpq := px
  have ha6 := ba (Below.refl _ w5) (.cells #[.int .i64 x.k, .int .i64 x.n, .string x.s, .slice A2 x.l.length c2] 24)
  replace px := And.intro (VAt.below (x := x) (v := (.slice A x.l.length c)) ⟨p0, p1, p2, p3⟩ px ha6) (Nat.lt_of_lt_of_le px ha6.size)
  clear p0 p1 p2 p3
  obtain ⟨⟨p0, p1, p2, p3⟩, px⟩ := px
  replace rs2 := rs2.below ha6
  replace HB := bt HB ha6
  clear ha6
  obtain ⟨q0, q1, q2, q3⟩ := VAt.new w5 x (.slice A2 x.l.length c2) 24
  have qx : w5.heap.size < (w5.alloc (.cells #[.int .i64 x.k, .int .i64 x.n, .string x.s, .slice A2 x.l.length c2] 24)).heap.size := by simp
  go_wp2_with fail
  refine (k4.out _ HB _ rs2).mono ?_
  rintro e w7 ⟨rfl, hb7⟩
  replace px := And.intro (VAt.below (x := x) (v := (.slice A x.l.length c)) ⟨p0, p1, p2, p3⟩ px hb7) (Nat.lt_of_lt_of_le px hb7.size)
  clear p0 p1 p2 p3
  obtain ⟨⟨p0, p1, p2, p3⟩, px⟩ := px
  replace qx := And.intro (VAt.below (x := x) (v := (.slice A2 x.l.length c2)) ⟨q0, q1, q2, q3⟩ qx hb7) (Nat.lt_of_lt_of_le qx hb7.size)
  clear q0 q1 q2 q3
  obtain ⟨⟨q0, q1, q2, q3⟩, qx⟩ := qx
  replace rs2 := rs2.below hb7
  replace HB := bt HB hb7
  clear hb7
  go_wp2_with fail
  refine (k5.out _ HB _ rs2).mono ?_
  rintro e w8 ⟨rfl, hb8⟩
  replace px := And.intro (VAt.below (x := x) (v := (.slice A x.l.length c)) ⟨p0, p1, p2, p3⟩ px hb8) (Nat.lt_of_lt_of_le px hb8.size)
  clear p0 p1 p2 p3
  obtain ⟨⟨p0, p1, p2, p3⟩, px⟩ := px
  replace qx := And.intro (VAt.below (x := x) (v := (.slice A2 x.l.length c2)) ⟨q0, q1, q2, q3⟩ qx hb8) (Nat.lt_of_lt_of_le qx hb8.size)
  clear q0 q1 q2 q3
  obtain ⟨⟨q0, q1, q2, q3⟩, qx⟩ := qx
  replace rs2 := rs2.below hb8
  replace HB := bt HB hb8
  clear hb8
  go_wp2_with fail
  refine (k6.out _ HB).mono ?_
  rintro e w9 ⟨rfl, hb9⟩
  replace px := And.intro (VAt.below (x := x) (v := (.slice A x.l.length c)) ⟨p0, p1, p2, p3⟩ px hb9) (Nat.lt_of_lt_of_le px hb9.size)
  clear p0 p1 p2 p3
  obtain ⟨⟨p0, p1, p2, p3⟩, px⟩ := px
  replace qx := And.intro (VAt.below (x := x) (v := (.slice A2 x.l.length c2)) ⟨q0, q1, q2, q3⟩ qx hb9) (Nat.lt_of_lt_of_le qx hb9.size)
  clear q0 q1 q2 q3
  obtain ⟨⟨q0, q1, q2, q3⟩, qx⟩ := qx
  replace rs2 := rs2.below hb9
  replace HB := bt HB hb9
  clear hb9
  have ha10 := ba (Below.refl _ w9) (.cells #[.int .i64 0, .int .i64 0, .string ⟨#[]⟩, .slice none 0 0] 24)
  replace px := And.intro (VAt.below (x := x) (v := (.slice A x.l.length c)) ⟨p0, p1, p2, p3⟩ px ha10) (Nat.lt_of_lt_of_le px ha10.size)
  clear p0 p1 p2 p3
  obtain ⟨⟨p0, p1, p2, p3⟩, px⟩ := px
  replace qx := And.intro (VAt.below (x := x) (v := (.slice A2 x.l.length c2)) ⟨q0, q1, q2, q3⟩ qx ha10) (Nat.lt_of_lt_of_le qx ha10.size)
  clear q0 q1 q2 q3
  obtain ⟨⟨q0, q1, q2, q3⟩, qx⟩ := qx
  replace rs2 := rs2.below ha10
  replace HB := bt HB ha10
  clear ha10
  go_wp2_with fail
  refine (same_any 0 ⟨0, 0, ⟨#[]⟩, []⟩ ⟨0, 0, ⟨#[]⟩, []⟩ (.slice none 0 0) (.slice none 0 0) 0 _ (RS.nil _ _ _ _) (RS.nil _ _ _ _) sm_0 sm_0).mono ?_
  rintro e w11 ⟨rfl, hb11⟩
  replace px := And.intro (VAt.below (x := x) (v := (.slice A x.l.length c)) ⟨p0, p1, p2, p3⟩ px hb11) (Nat.lt_of_lt_of_le px hb11.size)
  clear p0 p1 p2 p3
  obtain ⟨⟨p0, p1, p2, p3⟩, px⟩ := px
  replace qx := And.intro (VAt.below (x := x) (v := (.slice A2 x.l.length c2)) ⟨q0, q1, q2, q3⟩ qx hb11) (Nat.lt_of_lt_of_le qx hb11.size)
  clear q0 q1 q2 q3
  obtain ⟨⟨q0, q1, q2, q3⟩, qx⟩ := qx
  replace rs2 := rs2.below hb11
  replace HB := bt HB hb11
  clear hb11
  rw [sm_refl]
  go_wp2_with fail
  go_ret
  exact ⟨rfl, HB⟩

set_option maxRecDepth 100000 in
set_option maxHeartbeats 2000000 in
theorem rt_bad_some (x : V) (xs : List UInt8) (A : Option Addr) (c D : Nat) (A1 : Option Addr) (c1 : Nat) (w : World) (hr : RS w D x.l (.slice A x.l.length c)) (hl : Lg x) (hs : Sm x) (hd : dp x ≤ 1000000) (hlen : (enc x).length ≤ 1000000) (hf : fewB x = true)
    (lc : xs.length ≤ c1) (ln : xs.length ≤ 2000) (rb : ∀ q, w.heap.size ≤ q → RB w w.heap.size q A1 xs) (hck : (ckE x == 0) = false) (z : V) (hz : dcV xs = some z) :
    Calls Try.prog 6 #[vv x (.slice A x.l.length c), .slice A1 xs.length c1] w fun e w' => e = .returned (.bool true) ∧ Below w.heap.size w w' := by
  have k0 := fun W (h : Below w.heap.size w W) => few1 x A c D W (hr.below h) hl
  have k1 := fun W (h : Below w.heap.size w W) => encode_any D x _ W (hr.below h) hs (by omega) (by omega)
  have k2 := fun W (h : Below w.heap.size w W) => check_any D x _ W (hr.below h) hs (by omega)
  obtain ⟨hxe, hzk, hzs, hzd⟩ := dcV_some hz (by omega)
  have k6 := fun W (h : Below w.heap.size w W) => raw_some rb c1 lc (by omega) hz h
  have k7 := fun W v (hv : RS W 16 z.l v) => encode_any 16 z v W hv hzs (by omega) (by rw [← hxe]; omega)
  have k8 := fun W v (hv : RS W 16 z.l v) => check_any 16 z v W hv hzs (by omega)
  obtain ⟨s, hse⟩ : ∃ s : ByteArray, s = ⟨xs.toArray⟩ := ⟨_, rfl⟩
  have k9 := fun W (h : Below w.heap.size w W) => raw_conv rb c1 (Lib.hid hse) h
  unfold EncPost at k7
  simp only [hzk, encB_of hzk, ← hxe] at k7 k8
  replace hse := Lib.hid hse
  unfold EncPost at k1
  rw [hf] at k0
  generalize ckE x = ck at k1 k2 hck
  generalize encB x = bs at k1
  replace k0 := Lib.hid k0
  replace k1 := Lib.hid k1
  replace k2 := Lib.hid k2
  replace k6 := Lib.hid k6
  replace k7 := Lib.hid k7
  replace k8 := Lib.hid k8
  replace k9 := Lib.hid k9
  clear hr hs hl hf hlen hd rb hz hxe hzk hzs hzd
  have hln : ¬ (2000 : Int) < (xs.length : Int) := by omega
  have HB := Below.refl w.heap.size w
  go_enter Try.func6, Try.ntmps6
  have ha1 := ba (Below.refl _ w) (.cells #[.int .i64 x.k, .int .i64 x.n, .string x.s, .slice A x.l.length c] 24)
  replace HB := bt HB ha1
  clear ha1
  obtain ⟨p0, p1, p2, p3⟩ := VAt.new w x (.slice A x.l.length c) 24
  have px : w.heap.size < (w.alloc (.cells #[.int .i64 x.k, .int .i64 x.n, .string x.s, .slice A x.l.length c] 24)).heap.size := by simp
  go_wp2_with fail
  refine (sane_any _).mono ?_
  rintro e w2 ⟨rfl, hb2⟩
  replace px := And.intro (VAt.below (x := x) (v := (.slice A x.l.length c)) ⟨p0, p1, p2, p3⟩ px hb2) (Nat.lt_of_lt_of_le px hb2.size)
  clear p0 p1 p2 p3
  obtain ⟨⟨p0, p1, p2, p3⟩, px⟩ := px
  replace HB := bt HB hb2
  clear hb2
  go_wp2_with fail
  refine (k0.out _ HB).mono ?_
  rintro e wf ⟨rfl, hbf⟩
  replace hbf := (ba (Below.refl _ w2) (.cells #[.int .i64 x.k, .int .i64 x.n, .string x.s, .slice A x.l.length c] 24)).trans (hbf.mono (Nat.le_succ _))
  replace px := And.intro (VAt.below (x := x) (v := (.slice A x.l.length c)) ⟨p0, p1, p2, p3⟩ px hbf) (Nat.lt_of_lt_of_le px hbf.size)
  clear p0 p1 p2 p3
  obtain ⟨⟨p0, p1, p2, p3⟩, px⟩ := px
  replace HB := bt HB hbf
  clear hbf
  go_wp2_with fail
  refine (k1.out _ HB).mono ?_
  rintro e w3 ⟨v1, rfl, own1, _, hb3⟩
  replace px := And.intro (VAt.below (x := x) (v := (.slice A x.l.length c)) ⟨p0, p1, p2, p3⟩ px hb3) (Nat.lt_of_lt_of_le px hb3.size)
  clear p0 p1 p2 p3
  obtain ⟨⟨p0, p1, p2, p3⟩, px⟩ := px
  replace HB := bt HB hb3
  clear hb3
  go_wp2_with fail
  refine (k2.out _ HB).mono ?_
  rintro e w4 ⟨rfl, hb4⟩
  replace px := And.intro (VAt.below (x := x) (v := (.slice A x.l.length c)) ⟨p0, p1, p2, p3⟩ px hb4) (Nat.lt_of_lt_of_le px hb4.size)
  clear p0 p1 p2 p3
  obtain ⟨⟨p0, p1, p2, p3⟩, px⟩ := px
  replace own1 := own1.below hb4
  replace HB := bt HB hb4
  clear hb4
  go_wp2_with fail
  refine (k6.out _ HB).mono ?_
  rintro e w5 ⟨A3, c3, rfl, rs3, hb5⟩
  replace px := And.intro (VAt.below (x := x) (v := (.slice A x.l.length c)) ⟨p0, p1, p2, p3⟩ px hb5) (Nat.lt_of_lt_of_le px hb5.size)
  clear p0 p1 p2 p3
  obtain ⟨⟨p0, p1, p2, p3⟩, px⟩ := px
  replace own1 := own1.below hb5
  replace HB := bt HB hb5
  clear hb5
  have ha6 := ba (Below.refl _ w5) (.cells #[.int .i64 z.k, .int .i64 z.n, .string z.s, .slice A3 z.l.length c3] 24)
  replace px := And.intro (VAt.below (x := x) (v := (.slice A x.l.length c)) ⟨p0, p1, p2, p3⟩ px ha6) (Nat.lt_of_lt_of_le px ha6.size)
  clear p0 p1 p2 p3
  obtain ⟨⟨p0, p1, p2, p3⟩, px⟩ := px
  replace own1 := own1.below ha6
  replace rs3 := rs3.below ha6
  replace HB := bt HB ha6
  clear ha6
  obtain ⟨r0, r1, r2, r3⟩ := VAt.new w5 z (.slice A3 z.l.length c3) 24
  have rx : w5.heap.size < (w5.alloc (.cells #[.int .i64 z.k, .int .i64 z.n, .string z.s, .slice A3 z.l.length c3] 24)).heap.size := by simp
  go_wp2_with fail
  refine (k7.out _ _ rs3).mono ?_
  rintro e w7 ⟨v4, rfl, own4, _, hb7⟩
  replace px := And.intro (VAt.below (x := x) (v := (.slice A x.l.length c)) ⟨p0, p1, p2, p3⟩ px hb7) (Nat.lt_of_lt_of_le px hb7.size)
  clear p0 p1 p2 p3
  obtain ⟨⟨p0, p1, p2, p3⟩, px⟩ := px
  replace rx := And.intro (VAt.below (x := z) (v := (.slice A3 z.l.length c3)) ⟨r0, r1, r2, r3⟩ rx hb7) (Nat.lt_of_lt_of_le rx hb7.size)
  clear r0 r1 r2 r3
  obtain ⟨⟨r0, r1, r2, r3⟩, rx⟩ := rx
  replace own1 := own1.below hb7
  replace rs3 := rs3.below hb7
  replace HB := bt HB hb7
  clear hb7
  have cv4 := own4.convAt hse (Below.refl _ _)
  have cv5 := k9.out _ HB
  go_wp2_with fail
  refine (k8.out _ _ rs3).mono ?_
  rintro e w8 ⟨rfl, hb8⟩
  replace px := And.intro (VAt.below (x := x) (v := (.slice A x.l.length c)) ⟨p0, p1, p2, p3⟩ px hb8) (Nat.lt_of_lt_of_le px hb8.size)
  clear p0 p1 p2 p3
  obtain ⟨⟨p0, p1, p2, p3⟩, px⟩ := px
  replace rx := And.intro (VAt.below (x := z) (v := (.slice A3 z.l.length c3)) ⟨r0, r1, r2, r3⟩ rx hb8) (Nat.lt_of_lt_of_le rx hb8.size)
  clear r0 r1 r2 r3
  obtain ⟨⟨r0, r1, r2, r3⟩, rx⟩ := rx
  replace own1 := own1.below hb8
  replace own4 := own4.below hb8
  replace rs3 := rs3.below hb8
  replace HB := bt HB hb8
  clear hb8
  go_wp2_with fail
  go_ret
  exact ⟨rfl, HB⟩

set_option maxRecDepth 100000 in
set_option maxHeartbeats 2000000 in
theorem rt_bad_none (x : V) (xs : List UInt8) (A : Option Addr) (c D : Nat) (A1 : Option Addr) (c1 : Nat) (w : World) (hr : RS w D x.l (.slice A x.l.length c)) (hl : Lg x) (hs : Sm x) (hd : dp x ≤ 1000000) (hlen : (enc x).length ≤ 1000000) (hf : fewB x = true)
    (lc : xs.length ≤ c1) (ln : xs.length ≤ 2000) (rb : ∀ q, w.heap.size ≤ q → RB w w.heap.size q A1 xs) (hck : (ckE x == 0) = false) (hz : dcV xs = none) :
    Calls Try.prog 6 #[vv x (.slice A x.l.length c), .slice A1 xs.length c1] w fun e w' => e = .returned (.bool true) ∧ Below w.heap.size w w' := by
  have k0 := fun W (h : Below w.heap.size w W) => few1 x A c D W (hr.below h) hl
  have k1 := fun W (h : Below w.heap.size w W) => encode_any D x _ W (hr.below h) hs (by omega) (by omega)
  have k2 := fun W (h : Below w.heap.size w W) => check_any D x _ W (hr.below h) hs (by omega)
  have k6 := fun W (h : Below w.heap.size w W) => raw_none rb c1 lc (by omega) hz h
  unfold EncPost at k1
  rw [hf] at k0
  generalize ckE x = ck at k1 k2 hck
  generalize encB x = bs at k1
  replace k0 := Lib.hid k0
  replace k1 := Lib.hid k1
  replace k2 := Lib.hid k2
  replace k6 := Lib.hid k6
  clear hr hs hl hf hlen hd rb hz
  have hln : ¬ (2000 : Int) < (xs.length : Int) := by omega
  have HB := Below.refl w.heap.size w
  go_enter Try.func6, Try.ntmps6
  have ha1 := ba (Below.refl _ w) (.cells #[.int .i64 x.k, .int .i64 x.n, .string x.s, .slice A x.l.length c] 24)
  replace HB := bt HB ha1
  clear ha1
  obtain ⟨p0, p1, p2, p3⟩ := VAt.new w x (.slice A x.l.length c) 24
  have px : w.heap.size < (w.alloc (.cells #[.int .i64 x.k, .int .i64 x.n, .string x.s, .slice A x.l.length c] 24)).heap.size := by simp
  go_wp2_with fail
  refine (sane_any _).mono ?_
  rintro e w2 ⟨rfl, hb2⟩
  replace px := And.intro (VAt.below (x := x) (v := (.slice A x.l.length c)) ⟨p0, p1, p2, p3⟩ px hb2) (Nat.lt_of_lt_of_le px hb2.size)
  clear p0 p1 p2 p3
  obtain ⟨⟨p0, p1, p2, p3⟩, px⟩ := px
  replace HB := bt HB hb2
  clear hb2
  go_wp2_with fail
  refine (k0.out _ HB).mono ?_
  rintro e wf ⟨rfl, hbf⟩
  replace hbf := (ba (Below.refl _ w2) (.cells #[.int .i64 x.k, .int .i64 x.n, .string x.s, .slice A x.l.length c] 24)).trans (hbf.mono (Nat.le_succ _))
  replace px := And.intro (VAt.below (x := x) (v := (.slice A x.l.length c)) ⟨p0, p1, p2, p3⟩ px hbf) (Nat.lt_of_lt_of_le px hbf.size)
  clear p0 p1 p2 p3
  obtain ⟨⟨p0, p1, p2, p3⟩, px⟩ := px
  replace HB := bt HB hbf
  clear hbf
  go_wp2_with fail
  refine (k1.out _ HB).mono ?_
  rintro e w3 ⟨v1, rfl, own1, _, hb3⟩
  replace px := And.intro (VAt.below (x := x) (v := (.slice A x.l.length c)) ⟨p0, p1, p2, p3⟩ px hb3) (Nat.lt_of_lt_of_le px hb3.size)
  clear p0 p1 p2 p3
  obtain ⟨⟨p0, p1, p2, p3⟩, px⟩ := px
  replace HB := bt HB hb3
  clear hb3
  go_wp2_with fail
  refine (k2.out _ HB).mono ?_
  rintro e w4 ⟨rfl, hb4⟩
  replace px := And.intro (VAt.below (x := x) (v := (.slice A x.l.length c)) ⟨p0, p1, p2, p3⟩ px hb4) (Nat.lt_of_lt_of_le px hb4.size)
  clear p0 p1 p2 p3
  obtain ⟨⟨p0, p1, p2, p3⟩, px⟩ := px
  replace own1 := own1.below hb4
  replace HB := bt HB hb4
  clear hb4
  go_wp2_with fail
  refine (k6.out _ HB).mono ?_
  rintro e w5 ⟨rfl, hb5⟩
  replace px := And.intro (VAt.below (x := x) (v := (.slice A x.l.length c)) ⟨p0, p1, p2, p3⟩ px hb5) (Nat.lt_of_lt_of_le px hb5.size)
  clear p0 p1 p2 p3
  obtain ⟨⟨p0, p1, p2, p3⟩, px⟩ := px
  replace own1 := own1.below hb5
  replace HB := bt HB hb5
  clear hb5
  have ha6 := ba (Below.refl _ w5) (.cells #[.int .i64 0, .int .i64 0, .string ⟨#[]⟩, .slice none 0 0] 24)
  replace px := And.intro (VAt.below (x := x) (v := (.slice A x.l.length c)) ⟨p0, p1, p2, p3⟩ px ha6) (Nat.lt_of_lt_of_le px ha6.size)
  clear p0 p1 p2 p3
  obtain ⟨⟨p0, p1, p2, p3⟩, px⟩ := px
  replace own1 := own1.below ha6
  replace HB := bt HB ha6
  clear ha6
  go_wp2_with fail
  refine (same_any 0 ⟨0, 0, ⟨#[]⟩, []⟩ ⟨0, 0, ⟨#[]⟩, []⟩ (.slice none 0 0) (.slice none 0 0) 0 _ (RS.nil _ _ _ _) (RS.nil _ _ _ _) sm_0 sm_0).mono ?_
  rintro e w7 ⟨rfl, hb7⟩
  replace px := And.intro (VAt.below (x := x) (v := (.slice A x.l.length c)) ⟨p0, p1, p2, p3⟩ px hb7) (Nat.lt_of_lt_of_le px hb7.size)
  clear p0 p1 p2 p3
  obtain ⟨⟨p0, p1, p2, p3⟩, px⟩ := px
  replace own1 := own1.below hb7
  replace HB := bt HB hb7
  clear hb7
  rw [sm_refl]
  go_wp2_with fail
  go_ret
  exact ⟨rfl, HB⟩

set_option maxRecDepth 100000 in
set_option maxHeartbeats 2000000 in
theorem rt_many (x : V) (xs : List UInt8) (A : Option Addr) (c D : Nat) (A1 : Option Addr) (c1 : Nat) (w : World) (hr : RS w D x.l (.slice A x.l.length c)) (hl : Lg x) (hf : fewB x = false) :
    Calls Try.prog 6 #[vv x (.slice A x.l.length c), .slice A1 xs.length c1] w fun e w' => e = .returned (.bool true) ∧ Below w.heap.size w w' := by
  have k0 := fun W (h : Below w.heap.size w W) => few1 x A c D W (hr.below h) hl
  rw [hf] at k0
  replace k0 := Lib.hid k0
  clear hr hl hf
  have HB := Below.refl w.heap.size w
  go_enter Try.func6, Try.ntmps6
  have ha1 := ba (Below.refl _ w) (.cells #[.int .i64 x.k, .int .i64 x.n, .string x.s, .slice A x.l.length c] 24)
  replace HB := bt HB ha1
  clear ha1
  obtain ⟨p0, p1, p2, p3⟩ := VAt.new w x (.slice A x.l.length c) 24
  have px : w.heap.size < (w.alloc (.cells #[.int .i64 x.k, .int .i64 x.n, .string x.s, .slice A x.l.length c] 24)).heap.size := by simp
  go_wp2_with fail
  refine (sane_any _).mono ?_
  rintro e w2 ⟨rfl, hb2⟩
  replace px := And.intro (VAt.below (x := x) (v := (.slice A x.l.length c)) ⟨p0, p1, p2, p3⟩ px hb2) (Nat.lt_of_lt_of_le px hb2.size)
  clear p0 p1 p2 p3
  obtain ⟨⟨p0, p1, p2, p3⟩, px⟩ := px
  replace HB := bt HB hb2
  clear hb2
  go_wp2_with fail
  refine (k0.out _ HB).mono ?_
  rintro e wf ⟨rfl, hbf⟩
  replace hbf := (ba (Below.refl _ w2) (.cells #[.int .i64 x.k, .int .i64 x.n, .string x.s, .slice A x.l.length c] 24)).trans (hbf.mono (Nat.le_succ _))
  replace px := And.intro (VAt.below (x := x) (v := (.slice A x.l.length c)) ⟨p0, p1, p2, p3⟩ px hbf) (Nat.lt_of_lt_of_le px hbf.size)
  clear p0 p1 p2 p3
  obtain ⟨⟨p0, p1, p2, p3⟩, px⟩ := px
  replace HB := bt HB hbf
  clear hbf
  go_wp2_with fail
  go_ret
  exact ⟨rfl, HB⟩

set_option maxRecDepth 100000 in
set_option maxHeartbeats 2000000 in
theorem rt_long (x : V) (xs : List UInt8) (A : Option Addr) (c D : Nat) (A1 : Option Addr) (c1 : Nat) (w : World) (hr : RS w D x.l (.slice A x.l.length c)) (hl : Lg x) (hf : fewB x = true) (hln : decide ((2000 : Int) < (xs.length : Int)) = true) :
    Calls Try.prog 6 #[vv x (.slice A x.l.length c), .slice A1 xs.length c1] w fun e w' => e = .returned (.bool true) ∧ Below w.heap.size w w' := by
  have k0 := fun W (h : Below w.heap.size w W) => few1 x A c D W (hr.below h) hl
  rw [hf] at k0
  replace k0 := Lib.hid k0
  clear hr hl hf
  have HB := Below.refl w.heap.size w
  go_enter Try.func6, Try.ntmps6
  have ha1 := ba (Below.refl _ w) (.cells #[.int .i64 x.k, .int .i64 x.n, .string x.s, .slice A x.l.length c] 24)
  replace HB := bt HB ha1
  clear ha1
  obtain ⟨p0, p1, p2, p3⟩ := VAt.new w x (.slice A x.l.length c) 24
  have px : w.heap.size < (w.alloc (.cells #[.int .i64 x.k, .int .i64 x.n, .string x.s, .slice A x.l.length c] 24)).heap.size := by simp
  go_wp2_with fail
  refine (sane_any _).mono ?_
  rintro e w2 ⟨rfl, hb2⟩
  replace px := And.intro (VAt.below (x := x) (v := (.slice A x.l.length c)) ⟨p0, p1, p2, p3⟩ px hb2) (Nat.lt_of_lt_of_le px hb2.size)
  clear p0 p1 p2 p3
  obtain ⟨⟨p0, p1, p2, p3⟩, px⟩ := px
  replace HB := bt HB hb2
  clear hb2
  go_wp2_with fail
  refine (k0.out _ HB).mono ?_
  rintro e wf ⟨rfl, hbf⟩
  replace hbf := (ba (Below.refl _ w2) (.cells #[.int .i64 x.k, .int .i64 x.n, .string x.s, .slice A x.l.length c] 24)).trans (hbf.mono (Nat.le_succ _))
  replace px := And.intro (VAt.below (x := x) (v := (.slice A x.l.length c)) ⟨p0, p1, p2, p3⟩ px hbf) (Nat.lt_of_lt_of_le px hbf.size)
  clear p0 p1 p2 p3
  obtain ⟨⟨p0, p1, p2, p3⟩, px⟩ := px
  replace HB := bt HB hbf
  clear hbf
  go_wp2_with fail
  go_ret
  exact ⟨rfl, HB⟩

theorem walk_CodecRoundTrip (x : V) (xs : List UInt8) (A : Option Addr) (c D : Nat) (A1 : Option Addr) (c1 : Nat) (w : World) (hr : RS w D x.l (.slice A x.l.length c)) (hi : Ib x) (hl : Lg x) (lc : xs.length ≤ c1) (ln : xs.length ≤ maxLen) (rb : ∀ q, w.heap.size ≤ q → RB w w.heap.size q A1 xs) :
    Calls Try.prog 6 #[vv x (.slice A x.l.length c), .slice A1 xs.length c1] w fun e w' => e = .returned (.bool true) ∧ Below w.heap.size w w' := by
  cases hf : fewB x with
  | false => exact rt_many x xs A c D A1 c1 w hr hl hf
  | true =>
    by_cases h2 : xs.length ≤ 2000
    · obtain ⟨h3, h4, h5⟩ := few_sm x hi hf
      by_cases hck : ckE x = 0
      · cases hz : dcV xs with
        | none => exact rt_ok_none x xs A c D A1 c1 w hr hl h3 (by omega) (by omega) hf lc h2 rb hck hz
        | some z => exact rt_ok_some x xs A c D A1 c1 w hr hl h3 (by omega) (by omega) hf lc h2 rb hck z hz
      · cases hz : dcV xs with
        | none => exact rt_bad_none x xs A c D A1 c1 w hr hl h3 (by omega) (by omega) hf lc h2 rb (by simpa using hck) hz
        | some z => exact rt_bad_some x xs A c D A1 c1 w hr hl h3 (by omega) (by omega) hf lc h2 rb (by simpa using hck) z hz
    · exact rt_long x xs A c D A1 c1 w hr hl hf (by simp only [decide_eq_true_eq]; omega)
end Go.Proofs.Ytofmkmjboekodaa
