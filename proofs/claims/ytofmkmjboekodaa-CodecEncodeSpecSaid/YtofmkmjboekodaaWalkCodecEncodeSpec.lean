/- The walk of the law CodecEncodeSpec. -/
import Derived.Test.YtofmkmjboekodaaLawA
namespace Go.Proofs.Ytofmkmjboekodaa
open Go.RowKit Cdc
set_option linter.unusedVariables false
set_option linter.unusedSimpArgs false

set_option maxRecDepth 100000 in
set_option maxHeartbeats 2000000 in
theorem encodespec_few (x : V) (A : Option Addr) (c D : Nat) (w : World) (hr : RS w D x.l (.slice A x.l.length c)) (hl : Lg x) (hs : Sm x) (hd : dp x ≤ 1000000) (hlen : (enc x).length ≤ 1000000)
    (hf : fewB x = true) :
    Calls Try.prog 3 #[vv x (.slice A x.l.length c)] w fun e w' => e = .returned (.bool true) ∧ Below w.heap.size w w' := by
  have k0 := fun W (h : Below w.heap.size w W) => few1 x A c D W (hr.below h) hl
  have k1 := fun W (h : Below w.heap.size w W) => encode_any D x _ W (hr.below h) hs (by omega) (by omega)
  have k2 := fun W (h : Below w.heap.size w W) => rEncode_any D x _ W (hr.below h) hs (by omega) (by omega)
  have k3 := fun W (h : Below w.heap.size w W) => size_any D x _ W (hr.below h) hs (by omega) (by omega)
  have k4 := fun W (h : Below w.heap.size w W) => rsize_any D x _ W (hr.below h) hs (by omega) (by omega)
  have k5 := fun W (h : Below w.heap.size w W) => check_any D x _ W (hr.below h) hs (by omega)
  have k6 := fun W (h : Below w.heap.size w W) => rcheck_any D x _ W (hr.below h) hs (by omega)
  unfold EncPost at k1 k2
  rw [hf] at k0
  obtain ⟨s, hse⟩ : ∃ s : ByteArray, s = ⟨(encB x).toArray⟩ := ⟨_, rfl⟩
  generalize ckE x = ck at k1 k2 k3 k4 k5 k6
  generalize lenB x = ln at k3 k4
  generalize encB x = bs at k1 k2 hse
  replace hse := Lib.hid hse
  replace k0 := Lib.hid k0
  replace k1 := Lib.hid k1
  replace k2 := Lib.hid k2
  replace k3 := Lib.hid k3
  replace k4 := Lib.hid k4
  replace k5 := Lib.hid k5
  replace k6 := Lib.hid k6
  clear hr hs hl hf hlen hd
  have HB := Below.refl w.heap.size w
  go_enter Try.func3, Try.ntmps3
  go_wp2_with fail
  refine (sane_any _).mono ?_
  rintro e w1 ⟨rfl, hb1⟩
  have HB1 := bt (ba HB _) hb1
  have hz1 := hb1.size
  simp at hz1
  have P1 := (VAt.new w x (.slice A x.l.length c) 24).below (by simp) hb1
  obtain ⟨p0, p1, p2, p3⟩ := P1
  go_wp2_with fail
  refine (k0.out _ HB1).mono ?_
  rintro e w2 ⟨rfl, hb2⟩
  replace hb2 := (ba (Below.refl _ w1) (.cells #[.int .i64 x.k, .int .i64 x.n, .string x.s, .slice A x.l.length c] 24)).trans (hb2.mono (Nat.le_succ _))
  have HB2 := bt HB1 hb2
  have hz2 := hb2.size
  have P2 := VAt.below (x := x) (v := .slice A x.l.length c) ⟨p0, p1, p2, p3⟩ (by omega) hb2
  clear p0 p1 p2 p3 hb1 hb2 HB HB1
  have hx2 : w.heap.size < w2.heap.size := by omega
  clear hz1 hz2
  obtain ⟨p0, p1, p2, p3⟩ := P2
  go_wp2_with fail
  refine (k1.out _ HB2).mono ?_
  rintro e w3 ⟨v3, rfl, own3, _, hb3⟩
  have HB3 := bt HB2 hb3
  have P3 := VAt.below (x := x) (v := .slice A x.l.length c) ⟨p0, p1, p2, p3⟩ hx2 hb3
  have hx3 := Nat.lt_of_lt_of_le hx2 hb3.size
  clear p0 p1 p2 p3 hb3 hx2 HB2
  obtain ⟨p0, p1, p2, p3⟩ := P3
  go_wp2_with fail
  refine (k2.out _ HB3).mono ?_
  rintro e w4 ⟨v4, rfl, own4, _, hb4⟩
  have HB4 := bt HB3 hb4
  replace own3 := own3.below hb4
  have P4 := VAt.below (x := x) (v := .slice A x.l.length c) ⟨p0, p1, p2, p3⟩ hx3 hb4
  have hx4 := Nat.lt_of_lt_of_le hx3 hb4.size
  clear p0 p1 p2 p3 hb4 hx3 HB3
  obtain ⟨p0, p1, p2, p3⟩ := P4
  go_wp2_with fail
  refine (k3.out _ HB4).mono ?_
  rintro e w5 ⟨rfl, hb5⟩
  have HB5 := bt HB4 hb5
  replace own3 := own3.below hb5
  replace own4 := own4.below hb5
  have P5 := VAt.below (x := x) (v := .slice A x.l.length c) ⟨p0, p1, p2, p3⟩ hx4 hb5
  have hx5 := Nat.lt_of_lt_of_le hx4 hb5.size
  clear p0 p1 p2 p3 hb5 hx4 HB4
  obtain ⟨p0, p1, p2, p3⟩ := P5
  go_wp2_with fail
  refine (k4.out _ HB5).mono ?_
  rintro e w6 ⟨rfl, hb6⟩
  have HB6 := bt HB5 hb6
  replace own3 := own3.below hb6
  replace own4 := own4.below hb6
  have P6 := VAt.below (x := x) (v := .slice A x.l.length c) ⟨p0, p1, p2, p3⟩ hx5 hb6
  have hx6 := Nat.lt_of_lt_of_le hx5 hb6.size
  clear p0 p1 p2 p3 hb6 hx5 HB5
  obtain ⟨p0, p1, p2, p3⟩ := P6
  replace own3 := Lib.hid own3
  replace own4 := Lib.hid own4
  have HBc := Below.refl w6.heap.size w6
  go_wp2_with fail
  go_region_held3 (fun w' => w'.cell? ⟨w.heap.size, 0, none⟩ = some (Value.int .i64 x.k) ∧ w'.cell? ⟨w.heap.size, 1, none⟩ = some (Value.int .i64 x.n) ∧ w'.cell? ⟨w.heap.size, 2, none⟩ = some (Value.string x.s) ∧ w'.cell? ⟨w.heap.size, 3, none⟩ = some (Value.slice A x.l.length c) ∧ (convert 27 9 v3).run Try.prog w' = .ok (.string s) w' ∧ (convert 27 9 v4).run Try.prog w' = .ok (.string s) w')
    (first
      | exact ⟨p0, p1, p2, p3, own3.out.convAt hse HBc.drew, own4.out.convAt hse HBc.drew⟩
      | exact ⟨(HBc.cell (p := ⟨w.heap.size, 0, none⟩) hx6).trans p0, (HBc.cell (p := ⟨w.heap.size, 1, none⟩) hx6).trans p1, (HBc.cell (p := ⟨w.heap.size, 2, none⟩) hx6).trans p2, (HBc.cell (p := ⟨w.heap.size, 3, none⟩) hx6).trans p3, own3.out.convAt hse HBc, own4.out.convAt hse HBc⟩)
    (first
      | (go_at_call 16; with_reducible refine (k5.out _ ?_).mono ?_; (first | exact HB6 | exact HB6.drew); rintro e w7 ⟨rfl, hb7⟩; (first | replace HB6 := bt HB6 hb7 | replace HB6 := bt HB6.drew hb7); (first | replace HBc := bt HBc hb7 | replace HBc := bt HBc.drew hb7); clear hb7)
      | (go_at_call 17; with_reducible refine (k6.out _ ?_).mono ?_; (first | exact HB6 | exact HB6.drew); rintro e w7 ⟨rfl, hb7⟩; (first | replace HB6 := bt HB6 hb7 | replace HB6 := bt HB6.drew hb7); (first | replace HBc := bt HBc hb7 | replace HBc := bt HBc.drew hb7); clear hb7))
  all_goals
    go_wp2_with fail
    go_ret
    exact ⟨rfl, HB6⟩

set_option maxRecDepth 100000 in
set_option maxHeartbeats 2000000 in
theorem encodespec_many (x : V) (A : Option Addr) (c D : Nat) (w : World) (hr : RS w D x.l (.slice A x.l.length c)) (hl : Lg x) (hf : fewB x = false) :
    Calls Try.prog 3 #[vv x (.slice A x.l.length c)] w fun e w' => e = .returned (.bool true) ∧ Below w.heap.size w w' := by
  have k0 := fun W (h : Below w.heap.size w W) => few1 x A c D W (hr.below h) hl
  rw [hf] at k0
  replace k0 := Lib.hid k0
  clear hr hl hf
  have HB := Below.refl w.heap.size w
  go_enter Try.func3, Try.ntmps3
  go_wp2_with fail
  refine (sane_any _).mono ?_
  rintro e w1 ⟨rfl, hb1⟩
  have HB1 := bt (ba HB _) hb1
  have P1 := (VAt.new w x (.slice A x.l.length c) 24).below (by simp) hb1
  obtain ⟨p0, p1, p2, p3⟩ := P1
  clear hb1
  go_wp2_with fail
  refine (k0.out _ HB1).mono ?_
  rintro e w2 ⟨rfl, hb2⟩
  replace hb2 := (ba (Below.refl _ w1) (.cells #[.int .i64 x.k, .int .i64 x.n, .string x.s, .slice A x.l.length c] 24)).trans (hb2.mono (Nat.le_succ _))
  have HB2 := bt HB1 hb2
  go_wp2_with fail
  go_ret
  exact ⟨rfl, HB2⟩

theorem walk_CodecEncodeSpec (x : V) (A : Option Addr) (c D : Nat) (w : World) (hr : RS w D x.l (.slice A x.l.length c)) (hi : Ib x) (hl : Lg x) :
    Calls Try.prog 3 #[vv x (.slice A x.l.length c)] w fun e w' => e = .returned (.bool true) ∧ Below w.heap.size w w' := by
  cases hf : fewB x with
  | false => exact encodespec_many x A c D w hr hl hf
  | true =>
    obtain ⟨h1, h2, h3⟩ := few_sm x hi hf
    exact encodespec_few x A c D w hr hl h1 (by omega) (by omega) hf
end Go.Proofs.Ytofmkmjboekodaa
