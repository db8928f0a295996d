/- The walk of the law CodecDifferent. -/
import Derived.Test.YtofmkmjboekodaaLawB
namespace Go.Proofs.Ytofmkmjboekodaa
open Go.RowKit Cdc
set_option linter.unusedVariables false
set_option linter.unusedSimpArgs false

/-- different values: neither encoding begins the other one -/
theorem enc_apart {x y : V} (hx : ckE x = 0) (hy : ckE y = 0) (hsx : Sm x) (hsy : Sm y) (h : sm x y = false) (n : Nat) (hn : n = min (enc x).length (enc y).length) : (enc x).take n ≠ (enc y).take n := by
  intro e
  obtain ⟨a, ha, h16⟩ := ckE_zero.1 hx
  obtain ⟨a', ha', h16'⟩ := ckE_zero.1 hy
  have key : x = y := by
    by_cases hle : (enc x).length ≤ (enc y).length
    · have e1 : enc y = enc x ++ (enc y).drop n := by
        have e2 : (enc x).take n = enc x := List.take_of_length_le (by omega)
        rw [e2] at e
        rw [e, List.take_append_drop]
      have p1 := pV_enc x 16 a ((enc y).drop n) (fits_of_Sm x hsx) ha h16
      have p2 := pV_enc y 16 a' [] (fits_of_Sm y hsy) ha' h16'
      rw [List.append_nil, e1, p1] at p2
      injection p2 with p2
      injection p2
    · have e1 : enc x = enc y ++ (enc x).drop n := by
        have e2 : (enc y).take n = enc y := List.take_of_length_le (by omega)
        rw [e2] at e
        rw [← e, List.take_append_drop]
      have p1 := pV_enc y 16 a' ((enc x).drop n) (fits_of_Sm y hsy) ha' h16'
      have p2 := pV_enc x 16 a [] (fits_of_Sm x hsx) ha h16
      rw [List.append_nil, e1, p1] at p2
      injection p2 with p2
      injection p2 with p2 _
      exact p2.symm
  rw [key, sm_refl] at h
  cases h

/-- string(b[:n]) -/
theorem Own.convTake {w W : World} {A : Option Addr} {c : Nat} {xs : List UInt8} {n : Nat} {s : ByteArray} (h : Own w (.slice A xs.length c) xs) (hn : n ≤ xs.length) (hs : Hid (s = ⟨(xs.take n).toArray⟩)) (hb : Below w.heap.size w W) :
    (convert 27 9 (.slice A n c)).run Try.prog W = .ok (.string s) W := by
  have hs2 := hs.out
  subst hs2
  obtain ⟨A2, c2, e, hc, hrb⟩ := (h.below hb).rb W.heap.size (Nat.le_refl _)
  injection e with e1 e2 e3
  subst e1 e3
  have hrb2 : RB W W.heap.size W.heap.size A (xs.take n) := fun j b hj => hrb j b (by rw [List.getElem?_take] at hj; split at hj <;> simp_all)
  exact hrb2.conv _ _ (by simp; omega)

set_option maxRecDepth 100000 in
set_option maxHeartbeats 2000000 in
theorem df_many (x y : V) (A : Option Addr) (c D : Nat) (A' : Option Addr) (c' D' : Nat) (w : World) (hr : RS w D x.l (.slice A x.l.length c)) (hr' : RS w D' y.l (.slice A' y.l.length c')) (hl : Lg x) (hl' : Lg y) (hf : (fewB x && fewB y) = false) :
    Calls Try.prog 7 #[vv x (.slice A x.l.length c), vv y (.slice A' y.l.length c')] w fun e w' => e = .returned (.bool true) ∧ Below w.heap.size w w' := by
  have k0 := fun W (h : Below w.heap.size w W) => few2 x y A A' c c' D D' W (hr.below h) (hr'.below h) hl hl'
  rw [hf] at k0
  replace k0 := Lib.hid k0
  clear hr hr' hl hl' hf
  have HB := Below.refl w.heap.size w
  go_enter Try.func7, Try.ntmps7
  have ha1 := ba (Below.refl _ w) (.cells #[.int .i64 x.k, .int .i64 x.n, .string x.s, .slice A x.l.length c] 24)
  replace HB := bt HB ha1
  clear ha1
  obtain ⟨p0, p1, p2, p3⟩ := VAt.new w x (.slice A x.l.length c) 24
  have px : w.heap.size < (w.alloc (.cells #[.int .i64 x.k, .int .i64 x.n, .string x.s, .slice A x.l.length c] 24)).heap.size := by simp
  have hpq := px
  have ha2 := ba (Below.refl _ (w.alloc (.cells #[.int .i64 x.k, .int .i64 x.n, .string x.s, .slice A x.l.length c] 24))) (.cells #[.int .i64 y.k, .int .i64 y.n, .string y.s, .slice A' y.l.length c'] 24)
  replace px := And.intro (VAt.below (x := x) (v := (.slice A x.l.length c)) ⟨p0, p1, p2, p3⟩ px ha2) (Nat.lt_of_lt_of_le px ha2.size)
  clear p0 p1 p2 p3
  obtain ⟨⟨p0, p1, p2, p3⟩, px⟩ := px
  replace HB := bt HB ha2
  clear ha2
  obtain ⟨q0, q1, q2, q3⟩ := VAt.new (w.alloc (.cells #[.int .i64 x.k, .int .i64 x.n, .string x.s, .slice A x.l.length c] 24)) y (.slice A' y.l.length c') 24
  have qx : (w.alloc (.cells #[.int .i64 x.k, .int .i64 x.n, .string x.s, .slice A x.l.length c] 24)).heap.size < ((w.alloc (.cells #[.int .i64 x.k, .int .i64 x.n, .string x.s, .slice A x.l.length c] 24)).alloc (.cells #[.int .i64 y.k, .int .i64 y.n, .string y.s, .slice A' y.l.length c'] 24)).heap.size := by simp
  go_wp2_with fail
  refine (sane_any _).mono ?_
  rintro e w3 ⟨rfl, hb3⟩
  replace px := And.intro (VAt.below (x := x) (v := (.slice A x.l.length c)) ⟨p0, p1, p2, p3⟩ px hb3) (Nat.lt_of_lt_of_le px hb3.size)
  clear p0 p1 p2 p3
  obtain ⟨⟨p0, p1, p2, p3⟩, px⟩ := px
  replace qx := And.intro (VAt.below (x := y) (v := (.slice A' y.l.length c')) ⟨q0, q1, q2, q3⟩ qx hb3) (Nat.lt_of_lt_of_le qx hb3.size)
  clear q0 q1 q2 q3
  obtain ⟨⟨q0, q1, q2, q3⟩, qx⟩ := qx
  replace HB := bt HB hb3
  clear hb3
  simp at q0 q1 q2 q3 qx hpq
  go_wp2_with fail
  refine (k0.out _ HB).mono ?_
  rintro e wf ⟨rfl, hbf⟩
  replace hbf := (ba (Below.refl _ w3) (.cells #[.int .i64 x.k, .int .i64 x.n, .string x.s, .slice A x.l.length c, .int .i64 y.k, .int .i64 y.n, .string y.s, .slice A' y.l.length c'] 24)).trans (hbf.mono (Nat.le_succ _))
  replace px := And.intro (VAt.below (x := x) (v := (.slice A x.l.length c)) ⟨p0, p1, p2, p3⟩ px hbf) (Nat.lt_of_lt_of_le px hbf.size)
  clear p0 p1 p2 p3
  obtain ⟨⟨p0, p1, p2, p3⟩, px⟩ := px
  replace qx := And.intro (VAt.below (x := y) (v := (.slice A' y.l.length c')) ⟨q0, q1, q2, q3⟩ qx hbf) (Nat.lt_of_lt_of_le qx hbf.size)
  clear q0 q1 q2 q3
  obtain ⟨⟨q0, q1, q2, q3⟩, qx⟩ := qx
  replace HB := bt HB hbf
  clear hbf
  go_wp2_with fail
  go_ret
  exact ⟨rfl, HB⟩

set_option maxRecDepth 100000 in
set_option maxHeartbeats 2000000 in
theorem df_bad1 (x y : V) (A : Option Addr) (c D : Nat) (A' : Option Addr) (c' D' : Nat) (w : World) (hr : RS w D x.l (.slice A x.l.length c)) (hr' : RS w D' y.l (.slice A' y.l.length c')) (hl : Lg x) (hl' : Lg y) (hf : (fewB x && fewB y) = true) (hs : Sm x) (hs' : Sm y) (hd : dp x ≤ 1000000) (hd' : dp y ≤ 1000000) (hlen : (enc x).length ≤ 1000000) (hlen' : (enc y).length ≤ 1000000) (hck : (ckE x == 0) = false) (hcy : ckE y = 0) :
    Calls Try.prog 7 #[vv x (.slice A x.l.length c), vv y (.slice A' y.l.length c')] w fun e w' => e = .returned (.bool true) ∧ Below w.heap.size w w' := by
  have k0 := fun W (h : Below w.heap.size w W) => few2 x y A A' c c' D D' W (hr.below h) (hr'.below h) hl hl'
  rw [hf] at k0
  replace k0 := Lib.hid k0
  have k1 := fun W (h : Below w.heap.size w W) => encode_any D x _ W (hr.below h) hs (by omega) (by omega)
  have k2 := fun W (h : Below w.heap.size w W) => encode_any D' y _ W (hr'.below h) hs' (by omega) (by omega)
  unfold EncPost at k1 k2
  simp only [hcy] at k2
  generalize ckE x = ck at k1 hck
  generalize encB x = bs at k1
  generalize encB y = cs at k2
  replace k1 := Lib.hid k1
  replace k2 := Lib.hid k2
  clear hr hr' hl hl' hf hs hs' hd hd' hlen hlen'
  have HB := Below.refl w.heap.size w
  go_enter Try.func7, Try.ntmps7
  have ha1 := ba (Below.refl _ w) (.cells #[.int .i64 x.k, .int .i64 x.n, .string x.s, .slice A x.l.length c] 24)
  replace HB := bt HB ha1
  clear ha1
  obtain ⟨p0, p1, p2, p3⟩ := VAt.new w x (.slice A x.l.length c) 24
  have px : w.heap.size < (w.alloc (.cells #[.int .i64 x.k, .int .i64 x.n, .string x.s, .slice A x.l.length c] 24)).heap.size := by simp
  have hpq := px
  have ha2 := ba (Below.refl _ (w.alloc (.cells #[.int .i64 x.k, .int .i64 x.n, .string x.s, .slice A x.l.length c] 24))) (.cells #[.int .i64 y.k, .int .i64 y.n, .string y.s, .slice A' y.l.length c'] 24)
  replace px := And.intro (VAt.below (x := x) (v := (.slice A x.l.length c)) ⟨p0, p1, p2, p3⟩ px ha2) (Nat.lt_of_lt_of_le px ha2.size)
  clear p0 p1 p2 p3
  obtain ⟨⟨p0, p1, p2, p3⟩, px⟩ := px
  replace HB := bt HB ha2
  clear ha2
  obtain ⟨q0, q1, q2, q3⟩ := VAt.new (w.alloc (.cells #[.int .i64 x.k, .int .i64 x.n, .string x.s, .slice A x.l.length c] 24)) y (.slice A' y.l.length c') 24
  have qx : (w.alloc (.cells #[.int .i64 x.k, .int .i64 x.n, .string x.s, .slice A x.l.length c] 24)).heap.size < ((w.alloc (.cells #[.int .i64 x.k, .int .i64 x.n, .string x.s, .slice A x.l.length c] 24)).alloc (.cells #[.int .i64 y.k, .int .i64 y.n, .string y.s, .slice A' y.l.length c'] 24)).heap.size := by simp
  go_wp2_with fail
  refine (sane_any _).mono ?_
  rintro e w3 ⟨rfl, hb3⟩
  replace px := And.intro (VAt.below (x := x) (v := (.slice A x.l.length c)) ⟨p0, p1, p2, p3⟩ px hb3) (Nat.lt_of_lt_of_le px hb3.size)
  clear p0 p1 p2 p3
  obtain ⟨⟨p0, p1, p2, p3⟩, px⟩ := px
  replace qx := And.intro (VAt.below (x := y) (v := (.slice A' y.l.length c')) ⟨q0, q1, q2, q3⟩ qx hb3) (Nat.lt_of_lt_of_le qx hb3.size)
  clear q0 q1 q2 q3
  obtain ⟨⟨q0, q1, q2, q3⟩, qx⟩ := qx
  replace HB := bt HB hb3
  clear hb3
  simp at q0 q1 q2 q3 qx hpq
  go_wp2_with fail
  refine (k0.out _ HB).mono ?_
  rintro e wf ⟨rfl, hbf⟩
  replace hbf := (ba (Below.refl _ w3) (.cells #[.int .i64 x.k, .int .i64 x.n, .string x.s, .slice A x.l.length c, .int .i64 y.k, .int .i64 y.n, .string y.s, .slice A' y.l.length c'] 24)).trans (hbf.mono (Nat.le_succ _))
  replace px := And.intro (VAt.below (x := x) (v := (.slice A x.l.length c)) ⟨p0, p1, p2, p3⟩ px hbf) (Nat.lt_of_lt_of_le px hbf.size)
  clear p0 p1 p2 p3
  obtain ⟨⟨p0, p1, p2, p3⟩, px⟩ := px
  replace qx := And.intro (VAt.below (x := y) (v := (.slice A' y.l.length c')) ⟨q0, q1, q2, q3⟩ qx hbf) (Nat.lt_of_lt_of_le qx hbf.size)
  clear q0 q1 q2 q3
  obtain ⟨⟨q0, q1, q2, q3⟩, qx⟩ := qx
  replace HB := bt HB hbf
  clear hbf
  have hcn : (ck != 0) = true := by simp [bne, hck]
  go_wp2_with fail
  refine (k1.out _ HB).mono ?_
  rintro e w4 ⟨v1, rfl, _, _, hb4⟩
  replace px := And.intro (VAt.below (x := x) (v := (.slice A x.l.length c)) ⟨p0, p1, p2, p3⟩ px hb4) (Nat.lt_of_lt_of_le px hb4.size)
  clear p0 p1 p2 p3
  obtain ⟨⟨p0, p1, p2, p3⟩, px⟩ := px
  replace qx := And.intro (VAt.below (x := y) (v := (.slice A' y.l.length c')) ⟨q0, q1, q2, q3⟩ qx hb4) (Nat.lt_of_lt_of_le qx hb4.size)
  clear q0 q1 q2 q3
  obtain ⟨⟨q0, q1, q2, q3⟩, qx⟩ := qx
  replace HB := bt HB hb4
  clear hb4
  go_wp2_with fail
  refine (k2.out _ HB).mono ?_
  rintro e w5 ⟨v2, rfl, _, _, hb5⟩
  replace px := And.intro (VAt.below (x := x) (v := (.slice A x.l.length c)) ⟨p0, p1, p2, p3⟩ px hb5) (Nat.lt_of_lt_of_le px hb5.size)
  clear p0 p1 p2 p3
  obtain ⟨⟨p0, p1, p2, p3⟩, px⟩ := px
  replace qx := And.intro (VAt.below (x := y) (v := (.slice A' y.l.length c')) ⟨q0, q1, q2, q3⟩ qx hb5) (Nat.lt_of_lt_of_le qx hb5.size)
  clear q0 q1 q2 q3
  obtain ⟨⟨q0, q1, q2, q3⟩, qx⟩ := qx
  replace HB := bt HB hb5
  clear hb5
  go_wp2_with fail
  go_ret
  exact ⟨rfl, HB⟩

set_option maxRecDepth 100000 in
set_option maxHeartbeats 2000000 in
theorem df_bad2 (x y : V) (A : Option Addr) (c D : Nat) (A' : Option Addr) (c' D' : Nat) (w : World) (hr : RS w D x.l (.slice A x.l.length c)) (hr' : RS w D' y.l (.slice A' y.l.length c')) (hl : Lg x) (hl' : Lg y) (hf : (fewB x && fewB y) = true) (hs : Sm x) (hs' : Sm y) (hd : dp x ≤ 1000000) (hd' : dp y ≤ 1000000) (hlen : (enc x).length ≤ 1000000) (hlen' : (enc y).length ≤ 1000000) (hcy : ckE x = 0) (hck : (ckE y == 0) = false) :
    Calls Try.prog 7 #[vv x (.slice A x.l.length c), vv y (.slice A' y.l.length c')] w fun e w' => e = .returned (.bool true) ∧ Below w.heap.size w w' := by
  have k0 := fun W (h : Below w.heap.size w W) => few2 x y A A' c c' D D' W (hr.below h) (hr'.below h) hl hl'
  rw [hf] at k0
  replace k0 := Lib.hid k0
  have k1 := fun W (h : Below w.heap.size w W) => encode_any D x _ W (hr.below h) hs (by omega) (by omega)
  have k2 := fun W (h : Below w.heap.size w W) => encode_any D' y _ W (hr'.below h) hs' (by omega) (by omega)
  unfold EncPost at k1 k2
  simp only [hcy] at k1
  generalize ckE y = ck at k2 hck
  generalize encB x = bs at k1
  generalize encB y = cs at k2
  replace k1 := Lib.hid k1
  replace k2 := Lib.hid k2
  clear hr hr' hl hl' hf hs hs' hd hd' hlen hlen'
  have HB := Below.refl w.heap.size w
  go_enter Try.func7, Try.ntmps7
  have ha1 := ba (Below.refl _ w) (.cells #[.int .i64 x.k, .int .i64 x.n, .string x.s, .slice A x.l.length c] 24)
  replace HB := bt HB ha1
  clear ha1
  obtain ⟨p0, p1, p2, p3⟩ := VAt.new w x (.slice A x.l.length c) 24
  have px : w.heap.size < (w.alloc (.cells #[.int .i64 x.k, .int .i64 x.n, .string x.s, .slice A x.l.length c] 24)).heap.size := by simp
  have hpq := px
  have ha2 := ba (Below.refl _ (w.alloc (.cells #[.int .i64 x.k, .int .i64 x.n, .string x.s, .slice A x.l.length c] 24))) (.cells #[.int .i64 y.k, .int .i64 y.n, .string y.s, .slice A' y.l.length c'] 24)
  replace px := And.intro (VAt.below (x := x) (v := (.slice A x.l.length c)) ⟨p0, p1, p2, p3⟩ px ha2) (Nat.lt_of_lt_of_le px ha2.size)
  clear p0 p1 p2 p3
  obtain ⟨⟨p0, p1, p2, p3⟩, px⟩ := px
  replace HB := bt HB ha2
  clear ha2
  obtain ⟨q0, q1, q2, q3⟩ := VAt.new (w.alloc (.cells #[.int .i64 x.k, .int .i64 x.n, .string x.s, .slice A x.l.length c] 24)) y (.slice A' y.l.length c') 24
  have qx : (w.alloc (.cells #[.int .i64 x.k, .int .i64 x.n, .string x.s, .slice A x.l.length c] 24)).heap.size < ((w.alloc (.cells #[.int .i64 x.k, .int .i64 x.n, .string x.s, .slice A x.l.length c] 24)).alloc (.cells #[.int .i64 y.k, .int .i64 y.n, .string y.s, .slice A' y.l.length c'] 24)).heap.size := by simp
  go_wp2_with fail
  refine (sane_any _).mono ?_
  rintro e w3 ⟨rfl, hb3⟩
  replace px := And.intro (VAt.below (x := x) (v := (.slice A x.l.length c)) ⟨p0, p1, p2, p3⟩ px hb3) (Nat.lt_of_lt_of_le px hb3.size)
  clear p0 p1 p2 p3
  obtain ⟨⟨p0, p1, p2, p3⟩, px⟩ := px
  replace qx := And.intro (VAt.below (x := y) (v := (.slice A' y.l.length c')) ⟨q0, q1, q2, q3⟩ qx hb3) (Nat.lt_of_lt_of_le qx hb3.size)
  clear q0 q1 q2 q3
  obtain ⟨⟨q0, q1, q2, q3⟩, qx⟩ := qx
  replace HB := bt HB hb3
  clear hb3
  simp at q0 q1 q2 q3 qx hpq
  go_wp2_with fail
  refine (k0.out _ HB).mono ?_
  rintro e wf ⟨rfl, hbf⟩
  replace hbf := (ba (Below.refl _ w3) (.cells #[.int .i64 x.k, .int .i64 x.n, .string x.s, .slice A x.l.length c, .int .i64 y.k, .int .i64 y.n, .string y.s, .slice A' y.l.length c'] 24)).trans (hbf.mono (Nat.le_succ _))
  replace px := And.intro (VAt.below (x := x) (v := (.slice A x.l.length c)) ⟨p0, p1, p2, p3⟩ px hbf) (Nat.lt_of_lt_of_le px hbf.size)
  clear p0 p1 p2 p3
  obtain ⟨⟨p0, p1, p2, p3⟩, px⟩ := px
  replace qx := And.intro (VAt.below (x := y) (v := (.slice A' y.l.length c')) ⟨q0, q1, q2, q3⟩ qx hbf) (Nat.lt_of_lt_of_le qx hbf.size)
  clear q0 q1 q2 q3
  obtain ⟨⟨q0, q1, q2, q3⟩, qx⟩ := qx
  replace HB := bt HB hbf
  clear hbf
  have hcn : (ck != 0) = true := by simp [bne, hck]
  go_wp2_with fail
  refine (k1.out _ HB).mono ?_
  rintro e w4 ⟨v1, rfl, _, _, hb4⟩
  replace px := And.intro (VAt.below (x := x) (v := (.slice A x.l.length c)) ⟨p0, p1, p2, p3⟩ px hb4) (Nat.lt_of_lt_of_le px hb4.size)
  clear p0 p1 p2 p3
  obtain ⟨⟨p0, p1, p2, p3⟩, px⟩ := px
  replace qx := And.intro (VAt.below (x := y) (v := (.slice A' y.l.length c')) ⟨q0, q1, q2, q3⟩ qx hb4) (Nat.lt_of_lt_of_le qx hb4.size)
  clear q0 q1 q2 q3
  obtain ⟨⟨q0, q1, q2, q3⟩, qx⟩ := qx
  replace HB := bt HB hb4
  clear hb4
  go_wp2_with fail
  refine (k2.out _ HB).mono ?_
  rintro e w5 ⟨v2, rfl, _, _, hb5⟩
  replace px := And.intro (VAt.below (x := x) (v := (.slice A x.l.length c)) ⟨p0, p1, p2, p3⟩ px hb5) (Nat.lt_of_lt_of_le px hb5.size)
  clear p0 p1 p2 p3
  obtain ⟨⟨p0, p1, p2, p3⟩, px⟩ := px
  replace qx := And.intro (VAt.below (x := y) (v := (.slice A' y.l.length c')) ⟨q0, q1, q2, q3⟩ qx hb5) (Nat.lt_of_lt_of_le qx hb5.size)
  clear q0 q1 q2 q3
  obtain ⟨⟨q0, q1, q2, q3⟩, qx⟩ := qx
  replace HB := bt HB hb5
  clear hb5
  go_wp2_with fail
  go_ret
  exact ⟨rfl, HB⟩

set_option maxRecDepth 100000 in
set_option maxHeartbeats 2000000 in
theorem df_bad3 (x y : V) (A : Option Addr) (c D : Nat) (A' : Option Addr) (c' D' : Nat) (w : World) (hr : RS w D x.l (.slice A x.l.length c)) (hr' : RS w D' y.l (.slice A' y.l.length c')) (hl : Lg x) (hl' : Lg y) (hf : (fewB x && fewB y) = true) (hs : Sm x) (hs' : Sm y) (hd : dp x ≤ 1000000) (hd' : dp y ≤ 1000000) (hlen : (enc x).length ≤ 1000000) (hlen' : (enc y).length ≤ 1000000) (hcy : (ckE x == 0) = false) (hck : (ckE y == 0) = false) :
    Calls Try.prog 7 #[vv x (.slice A x.l.length c), vv y (.slice A' y.l.length c')] w fun e w' => e = .returned (.bool true) ∧ Below w.heap.size w w' := by
  have k0 := fun W (h : Below w.heap.size w W) => few2 x y A A' c c' D D' W (hr.below h) (hr'.below h) hl hl'
  rw [hf] at k0
  replace k0 := Lib.hid k0
  have k1 := fun W (h : Below w.heap.size w W) => encode_any D x _ W (hr.below h) hs (by omega) (by omega)
  have k2 := fun W (h : Below w.heap.size w W) => encode_any D' y _ W (hr'.below h) hs' (by omega) (by omega)
  unfold EncPost at k1 k2
  generalize ckE x = cj at k1 hcy
  generalize ckE y = ck at k2 hck
  generalize encB x = bs at k1
  generalize encB y = cs at k2
  replace k1 := Lib.hid k1
  replace k2 := Lib.hid k2
  clear hr hr' hl hl' hf hs hs' hd hd' hlen hlen'
  have HB := Below.refl w.heap.size w
  go_enter Try.func7, Try.ntmps7
  have ha1 := ba (Below.refl _ w) (.cells #[.int .i64 x.k, .int .i64 x.n, .string x.s, .slice A x.l.length c] 24)
  replace HB := bt HB ha1
  clear ha1
  obtain ⟨p0, p1, p2, p3⟩ := VAt.new w x (.slice A x.l.length c) 24
  have px : w.heap.size < (w.alloc (.cells #[.int .i64 x.k, .int .i64 x.n, .string x.s, .slice A x.l.length c] 24)).heap.size := by simp
  have hpq := px
  have ha2 := ba (Below.refl _ (w.alloc (.cells #[.int .i64 x.k, .int .i64 x.n, .string x.s, .slice A x.l.length c] 24))) (.cells #[.int .i64 y.k, .int .i64 y.n, .string y.s, .slice A' y.l.length c'] 24)
  replace px := And.intro (VAt.below (x := x) (v := (.slice A x.l.length c)) ⟨p0, p1, p2, p3⟩ px ha2) (Nat.lt_of_lt_of_le px ha2.size)
  clear p0 p1 p2 p3
  obtain ⟨⟨p0, p1, p2, p3⟩, px⟩ := px
  replace HB := bt HB ha2
  clear ha2
  obtain ⟨q0, q1, q2, q3⟩ := VAt.new (w.alloc (.cells #[.int .i64 x.k, .int .i64 x.n, .string x.s, .slice A x.l.length c] 24)) y (.slice A' y.l.length c') 24
  have qx : (w.alloc (.cells #[.int .i64 x.k, .int .i64 x.n, .string x.s, .slice A x.l.length c] 24)).heap.size < ((w.alloc (.cells #[.int .i64 x.k, .int .i64 x.n, .string x.s, .slice A x.l.length c] 24)).alloc (.cells #[.int .i64 y.k, .int .i64 y.n, .string y.s, .slice A' y.l.length c'] 24)).heap.size := by simp
  go_wp2_with fail
  refine (sane_any _).mono ?_
  rintro e w3 ⟨rfl, hb3⟩
  replace px := And.intro (VAt.below (x := x) (v := (.slice A x.l.length c)) ⟨p0, p1, p2, p3⟩ px hb3) (Nat.lt_of_lt_of_le px hb3.size)
  clear p0 p1 p2 p3
  obtain ⟨⟨p0, p1, p2, p3⟩, px⟩ := px
  replace qx := And.intro (VAt.below (x := y) (v := (.slice A' y.l.length c')) ⟨q0, q1, q2, q3⟩ qx hb3) (Nat.lt_of_lt_of_le qx hb3.size)
  clear q0 q1 q2 q3
  obtain ⟨⟨q0, q1, q2, q3⟩, qx⟩ := qx
  replace HB := bt HB hb3
  clear hb3
  simp at q0 q1 q2 q3 qx hpq
  go_wp2_with fail
  refine (k0.out _ HB).mono ?_
  rintro e wf ⟨rfl, hbf⟩
  replace hbf := (ba (Below.refl _ w3) (.cells #[.int .i64 x.k, .int .i64 x.n, .string x.s, .slice A x.l.length c, .int .i64 y.k, .int .i64 y.n, .string y.s, .slice A' y.l.length c'] 24)).trans (hbf.mono (Nat.le_succ _))
  replace px := And.intro (VAt.below (x := x) (v := (.slice A x.l.length c)) ⟨p0, p1, p2, p3⟩ px hbf) (Nat.lt_of_lt_of_le px hbf.size)
  clear p0 p1 p2 p3
  obtain ⟨⟨p0, p1, p2, p3⟩, px⟩ := px
  replace qx := And.intro (VAt.below (x := y) (v := (.slice A' y.l.length c')) ⟨q0, q1, q2, q3⟩ qx hbf) (Nat.lt_of_lt_of_le qx hbf.size)
  clear q0 q1 q2 q3
  obtain ⟨⟨q0, q1, q2, q3⟩, qx⟩ := qx
  replace HB := bt HB hbf
  clear hbf
  have hcz : (cj != 0) = true := by simp [bne, hcy]
  have hcn : (ck != 0) = true := by simp [bne, hck]
  go_wp2_with fail
  refine (k1.out _ HB).mono ?_
  rintro e w4 ⟨v1, rfl, _, _, hb4⟩
  replace px := And.intro (VAt.below (x := x) (v := (.slice A x.l.length c)) ⟨p0, p1, p2, p3⟩ px hb4) (Nat.lt_of_lt_of_le px hb4.size)
  clear p0 p1 p2 p3
  obtain ⟨⟨p0, p1, p2, p3⟩, px⟩ := px
  replace qx := And.intro (VAt.below (x := y) (v := (.slice A' y.l.length c')) ⟨q0, q1, q2, q3⟩ qx hb4) (Nat.lt_of_lt_of_le qx hb4.size)
  clear q0 q1 q2 q3
  obtain ⟨⟨q0, q1, q2, q3⟩, qx⟩ := qx
  replace HB := bt HB hb4
  clear hb4
  go_wp2_with fail
  refine (k2.out _ HB).mono ?_
  rintro e w5 ⟨v2, rfl, _, _, hb5⟩
  replace px := And.intro (VAt.below (x := x) (v := (.slice A x.l.length c)) ⟨p0, p1, p2, p3⟩ px hb5) (Nat.lt_of_lt_of_le px hb5.size)
  clear p0 p1 p2 p3
  obtain ⟨⟨p0, p1, p2, p3⟩, px⟩ := px
  replace qx := And.intro (VAt.below (x := y) (v := (.slice A' y.l.length c')) ⟨q0, q1, q2, q3⟩ qx hb5) (Nat.lt_of_lt_of_le qx hb5.size)
  clear q0 q1 q2 q3
  obtain ⟨⟨q0, q1, q2, q3⟩, qx⟩ := qx
  replace HB := bt HB hb5
  clear hb5
  go_wp2_with fail
  go_ret
  exact ⟨rfl, HB⟩

set_option maxRecDepth 100000 in
set_option maxHeartbeats 2000000 in
theorem df_same (x y : V) (A : Option Addr) (c D : Nat) (A' : Option Addr) (c' D' : Nat) (w : World) (hr : RS w D x.l (.slice A x.l.length c)) (hr' : RS w D' y.l (.slice A' y.l.length c')) (hl : Lg x) (hl' : Lg y) (hf : (fewB x && fewB y) = true) (hs : Sm x) (hs' : Sm y) (hd : dp x ≤ 1000000) (hd' : dp y ≤ 1000000) (hlen : (enc x).length ≤ 1000000) (hlen' : (enc y).length ≤ 1000000) (hck : ckE x = 0) (hcy : ckE y = 0) (hsm : sm x y = true) :
    Calls Try.prog 7 #[vv x (.slice A x.l.length c), vv y (.slice A' y.l.length c')] w fun e w' => e = .returned (.bool true) ∧ Below w.heap.size w w' := by
  have k0 := fun W (h : Below w.heap.size w W) => few2 x y A A' c c' D D' W (hr.below h) (hr'.below h) hl hl'
  rw [hf] at k0
  replace k0 := Lib.hid k0
  have k1 := fun W (h : Below w.heap.size w W) => encode_any D x _ W (hr.below h) hs (by omega) (by omega)
  have k2 := fun W (h : Below w.heap.size w W) => encode_any D' y _ W (hr'.below h) hs' (by omega) (by omega)
  unfold EncPost at k1 k2
  have k3 := fun W (h : Below w.heap.size w W) => same_any D x y _ _ D' W (hr.below h) (hr'.below h) hs hs'
  unfold SamePost at k3
  simp only [hsm] at k3
  simp only [hck, hcy, encB_of hck, encB_of hcy] at k1 k2
  obtain ⟨t, hte⟩ : ∃ t : ByteArray, t = ⟨(enc x).toArray⟩ := ⟨_, rfl⟩
  have he : enc y = enc x := by rw [sm_eq x y hsm]
  rw [he] at k2
  replace hte := Lib.hid hte
  replace k1 := Lib.hid k1
  replace k2 := Lib.hid k2
  replace k3 := Lib.hid k3
  clear hr hr' hl hl' hf hs hs' hd hd' hlen hlen' hck hcy hsm he
  have HB := Below.refl w.heap.size w
  go_enter Try.func7, Try.ntmps7
  have ha1 := ba (Below.refl _ w) (.cells #[.int .i64 x.k, .int .i64 x.n, .string x.s, .slice A x.l.length c] 24)
  replace HB := bt HB ha1
  clear ha1
  obtain ⟨p0, p1, p2, p3⟩ := VAt.new w x (.slice A x.l.length c) 24
  have px : w.heap.size < (w.alloc (.cells #[.int .i64 x.k, .int .i64 x.n, .string x.s, .slice A x.l.length c] 24)).heap.size := by simp
  have hpq := px
  have ha2 := ba (Below.refl _ (w.alloc (.cells #[.int .i64 x.k, .int .i64 x.n, .string x.s, .slice A x.l.length c] 24))) (.cells #[.int .i64 y.k, .int .i64 y.n, .string y.s, .slice A' y.l.length c'] 24)
  replace px := And.intro (VAt.below (x := x) (v := (.slice A x.l.length c)) ⟨p0, p1, p2, p3⟩ px ha2) (Nat.lt_of_lt_of_le px ha2.size)
  clear p0 p1 p2 p3
  obtain ⟨⟨p0, p1, p2, p3⟩, px⟩ := px
  replace HB := bt HB ha2
  clear ha2
  obtain ⟨q0, q1, q2, q3⟩ := VAt.new (w.alloc (.cells #[.int .i64 x.k, .int .i64 x.n, .string x.s, .slice A x.l.length c] 24)) y (.slice A' y.l.length c') 24
  have qx : (w.alloc (.cells #[.int .i64 x.k, .int .i64 x.n, .string x.s, .slice A x.l.length c] 24)).heap.size < ((w.alloc (.cells #[.int .i64 x.k, .int .i64 x.n, .string x.s, .slice A x.l.length c] 24)).alloc (.cells #[.int .i64 y.k, .int .i64 y.n, .string y.s, .slice A' y.l.length c'] 24)).heap.size := by simp
  go_wp2_with fail
  refine (sane_any _).mono ?_
  rintro e w3 ⟨rfl, hb3⟩
  replace px := And.intro (VAt.below (x := x) (v := (.slice A x.l.length c)) ⟨p0, p1, p2, p3⟩ px hb3) (Nat.lt_of_lt_of_le px hb3.size)
  clear p0 p1 p2 p3
  obtain ⟨⟨p0, p1, p2, p3⟩, px⟩ := px
  replace qx := And.intro (VAt.below (x := y) (v := (.slice A' y.l.length c')) ⟨q0, q1, q2, q3⟩ qx hb3) (Nat.lt_of_lt_of_le qx hb3.size)
  clear q0 q1 q2 q3
  obtain ⟨⟨q0, q1, q2, q3⟩, qx⟩ := qx
  replace HB := bt HB hb3
  clear hb3
  simp at q0 q1 q2 q3 qx hpq
  go_wp2_with fail
  refine (k0.out _ HB).mono ?_
  rintro e wf ⟨rfl, hbf⟩
  replace hbf := (ba (Below.refl _ w3) (.cells #[.int .i64 x.k, .int .i64 x.n, .string x.s, .slice A x.l.length c, .int .i64 y.k, .int .i64 y.n, .string y.s, .slice A' y.l.length c'] 24)).trans (hbf.mono (Nat.le_succ _))
  replace px := And.intro (VAt.below (x := x) (v := (.slice A x.l.length c)) ⟨p0, p1, p2, p3⟩ px hbf) (Nat.lt_of_lt_of_le px hbf.size)
  clear p0 p1 p2 p3
  obtain ⟨⟨p0, p1, p2, p3⟩, px⟩ := px
  replace qx := And.intro (VAt.below (x := y) (v := (.slice A' y.l.length c')) ⟨q0, q1, q2, q3⟩ qx hbf) (Nat.lt_of_lt_of_le qx hbf.size)
  clear q0 q1 q2 q3
  obtain ⟨⟨q0, q1, q2, q3⟩, qx⟩ := qx
  replace HB := bt HB hbf
  clear hbf
  go_wp2_with fail
  refine (k1.out _ HB).mono ?_
  rintro e w4 ⟨v1, rfl, own1, _, hb4⟩
  replace px := And.intro (VAt.below (x := x) (v := (.slice A x.l.length c)) ⟨p0, p1, p2, p3⟩ px hb4) (Nat.lt_of_lt_of_le px hb4.size)
  clear p0 p1 p2 p3
  obtain ⟨⟨p0, p1, p2, p3⟩, px⟩ := px
  replace qx := And.intro (VAt.below (x := y) (v := (.slice A' y.l.length c')) ⟨q0, q1, q2, q3⟩ qx hb4) (Nat.lt_of_lt_of_le qx hb4.size)
  clear q0 q1 q2 q3
  obtain ⟨⟨q0, q1, q2, q3⟩, qx⟩ := qx
  replace HB := bt HB hb4
  clear hb4
  go_wp2_with fail
  refine (k2.out _ HB).mono ?_
  rintro e w5 ⟨v2, rfl, own2, _, hb5⟩
  replace px := And.intro (VAt.below (x := x) (v := (.slice A x.l.length c)) ⟨p0, p1, p2, p3⟩ px hb5) (Nat.lt_of_lt_of_le px hb5.size)
  clear p0 p1 p2 p3
  obtain ⟨⟨p0, p1, p2, p3⟩, px⟩ := px
  replace qx := And.intro (VAt.below (x := y) (v := (.slice A' y.l.length c')) ⟨q0, q1, q2, q3⟩ qx hb5) (Nat.lt_of_lt_of_le qx hb5.size)
  clear q0 q1 q2 q3
  obtain ⟨⟨q0, q1, q2, q3⟩, qx⟩ := qx
  replace own1 := own1.below hb5
  replace HB := bt HB hb5
  clear hb5
  go_wp2_with fail
  refine (k3.out _ HB).mono ?_
  rintro e w6 ⟨rfl, hb6⟩
  replace px := And.intro (VAt.below (x := x) (v := (.slice A x.l.length c)) ⟨p0, p1, p2, p3⟩ px hb6) (Nat.lt_of_lt_of_le px hb6.size)
  clear p0 p1 p2 p3
  obtain ⟨⟨p0, p1, p2, p3⟩, px⟩ := px
  replace qx := And.intro (VAt.below (x := y) (v := (.slice A' y.l.length c')) ⟨q0, q1, q2, q3⟩ qx hb6) (Nat.lt_of_lt_of_le qx hb6.size)
  clear q0 q1 q2 q3
  obtain ⟨⟨q0, q1, q2, q3⟩, qx⟩ := qx
  replace own1 := own1.below hb6
  replace own2 := own2.below hb6
  replace HB := bt HB hb6
  clear hb6
  have cv1 := own1.convAt hte (Below.refl _ _)
  have cv2 := own2.convAt hte (Below.refl _ _)
  go_wp2_with fail
  go_ret
  exact ⟨rfl, HB⟩

set_option maxRecDepth 100000 in
set_option maxHeartbeats 2000000 in
theorem df_apart1 (x y : V) (A : Option Addr) (c D : Nat) (A' : Option Addr) (c' D' : Nat) (w : World) (hr : RS w D x.l (.slice A x.l.length c)) (hr' : RS w D' y.l (.slice A' y.l.length c')) (hl : Lg x) (hl' : Lg y) (hf : (fewB x && fewB y) = true) (hs : Sm x) (hs' : Sm y) (hd : dp x ≤ 1000000) (hd' : dp y ≤ 1000000) (hlen : (enc x).length ≤ 1000000) (hlen' : (enc y).length ≤ 1000000) (hck : ckE x = 0) (hcy : ckE y = 0) (hsm : sm x y = false) (hle : (enc x).length ≤ (enc y).length) :
    Calls Try.prog 7 #[vv x (.slice A x.l.length c), vv y (.slice A' y.l.length c')] w fun e w' => e = .returned (.bool true) ∧ Below w.heap.size w w' := by
  have k0 := fun W (h : Below w.heap.size w W) => few2 x y A A' c c' D D' W (hr.below h) (hr'.below h) hl hl'
  rw [hf] at k0
  replace k0 := Lib.hid k0
  have k1 := fun W (h : Below w.heap.size w W) => encode_any D x _ W (hr.below h) hs (by omega) (by omega)
  have k2 := fun W (h : Below w.heap.size w W) => encode_any D' y _ W (hr'.below h) hs' (by omega) (by omega)
  unfold EncPost at k1 k2
  have k3 := fun W (h : Below w.heap.size w W) => same_any D x y _ _ D' W (hr.below h) (hr'.below h) hs hs'
  unfold SamePost at k3
  simp only [hsm] at k3
  simp only [hck, hcy, encB_of hck, encB_of hcy] at k1 k2
  obtain ⟨t, hte⟩ : ∃ t : ByteArray, t = ⟨((enc x).take (enc x).length).toArray⟩ := ⟨_, rfl⟩
  obtain ⟨u, hue⟩ : ∃ t : ByteArray, t = ⟨((enc y).take (enc x).length).toArray⟩ := ⟨_, rfl⟩
  have hne : (t.toList == u.toList) = false := by
    have := enc_apart hck hcy hs hs' hsm (enc x).length (by omega)
    rw [hte, hue, Lib.toList_data, Lib.toList_data]
    simpa using this
  replace hte := Lib.hid hte
  replace hue := Lib.hid hue
  replace k1 := Lib.hid k1
  replace k2 := Lib.hid k2
  replace k3 := Lib.hid k3
  generalize enc x = bs at *
  generalize enc y = cs at *
  clear hr hr' hl hl' hf hs hs' hd hd' hck hcy hsm
  have HB := Below.refl w.heap.size w
  go_enter Try.func7, Try.ntmps7
  have ha1 := ba (Below.refl _ w) (.cells #[.int .i64 x.k, .int .i64 x.n, .string x.s, .slice A x.l.length c] 24)
  replace HB := bt HB ha1
  clear ha1
  obtain ⟨p0, p1, p2, p3⟩ := VAt.new w x (.slice A x.l.length c) 24
  have px : w.heap.size < (w.alloc (.cells #[.int .i64 x.k, .int .i64 x.n, .string x.s, .slice A x.l.length c] 24)).heap.size := by simp
  have hpq := px
  have ha2 := ba (Below.refl _ (w.alloc (.cells #[.int .i64 x.k, .int .i64 x.n, .string x.s, .slice A x.l.length c] 24))) (.cells #[.int .i64 y.k, .int .i64 y.n, .string y.s, .slice A' y.l.length c'] 24)
  replace px := And.intro (VAt.below (x := x) (v := (.slice A x.l.length c)) ⟨p0, p1, p2, p3⟩ px ha2) (Nat.lt_of_lt_of_le px ha2.size)
  clear p0 p1 p2 p3
  obtain ⟨⟨p0, p1, p2, p3⟩, px⟩ := px
  replace HB := bt HB ha2
  clear ha2
  obtain ⟨q0, q1, q2, q3⟩ := VAt.new (w.alloc (.cells #[.int .i64 x.k, .int .i64 x.n, .string x.s, .slice A x.l.length c] 24)) y (.slice A' y.l.length c') 24
  have qx : (w.alloc (.cells #[.int .i64 x.k, .int .i64 x.n, .string x.s, .slice A x.l.length c] 24)).heap.size < ((w.alloc (.cells #[.int .i64 x.k, .int .i64 x.n, .string x.s, .slice A x.l.length c] 24)).alloc (.cells #[.int .i64 y.k, .int .i64 y.n, .string y.s, .slice A' y.l.length c'] 24)).heap.size := by simp
  go_wp2_with fail
  refine (sane_any _).mono ?_
  rintro e w3 ⟨rfl, hb3⟩
  replace px := And.intro (VAt.below (x := x) (v := (.slice A x.l.length c)) ⟨p0, p1, p2, p3⟩ px hb3) (Nat.lt_of_lt_of_le px hb3.size)
  clear p0 p1 p2 p3
  obtain ⟨⟨p0, p1, p2, p3⟩, px⟩ := px
  replace qx := And.intro (VAt.below (x := y) (v := (.slice A' y.l.length c')) ⟨q0, q1, q2, q3⟩ qx hb3) (Nat.lt_of_lt_of_le qx hb3.size)
  clear q0 q1 q2 q3
  obtain ⟨⟨q0, q1, q2, q3⟩, qx⟩ := qx
  replace HB := bt HB hb3
  clear hb3
  simp at q0 q1 q2 q3 qx hpq
  go_wp2_with fail
  refine (k0.out _ HB).mono ?_
  rintro e wf ⟨rfl, hbf⟩
  replace hbf := (ba (Below.refl _ w3) (.cells #[.int .i64 x.k, .int .i64 x.n, .string x.s, .slice A x.l.length c, .int .i64 y.k, .int .i64 y.n, .string y.s, .slice A' y.l.length c'] 24)).trans (hbf.mono (Nat.le_succ _))
  replace px := And.intro (VAt.below (x := x) (v := (.slice A x.l.length c)) ⟨p0, p1, p2, p3⟩ px hbf) (Nat.lt_of_lt_of_le px hbf.size)
  clear p0 p1 p2 p3
  obtain ⟨⟨p0, p1, p2, p3⟩, px⟩ := px
  replace qx := And.intro (VAt.below (x := y) (v := (.slice A' y.l.length c')) ⟨q0, q1, q2, q3⟩ qx hbf) (Nat.lt_of_lt_of_le qx hbf.size)
  clear q0 q1 q2 q3
  obtain ⟨⟨q0, q1, q2, q3⟩, qx⟩ := qx
  replace HB := bt HB hbf
  clear hbf
  go_wp2_with fail
  refine (k1.out _ HB).mono ?_
  rintro e w4 ⟨v1, rfl, own1, _, hb4⟩
  replace px := And.intro (VAt.below (x := x) (v := (.slice A x.l.length c)) ⟨p0, p1, p2, p3⟩ px hb4) (Nat.lt_of_lt_of_le px hb4.size)
  clear p0 p1 p2 p3
  obtain ⟨⟨p0, p1, p2, p3⟩, px⟩ := px
  replace qx := And.intro (VAt.below (x := y) (v := (.slice A' y.l.length c')) ⟨q0, q1, q2, q3⟩ qx hb4) (Nat.lt_of_lt_of_le qx hb4.size)
  clear q0 q1 q2 q3
  obtain ⟨⟨q0, q1, q2, q3⟩, qx⟩ := qx
  replace HB := bt HB hb4
  clear hb4
  obtain ⟨B1, d1, rfl⟩ := own1.form
  go_wp2_with fail
  refine (k2.out _ HB).mono ?_
  rintro e w5 ⟨v2, rfl, own2, _, hb5⟩
  replace px := And.intro (VAt.below (x := x) (v := (.slice A x.l.length c)) ⟨p0, p1, p2, p3⟩ px hb5) (Nat.lt_of_lt_of_le px hb5.size)
  clear p0 p1 p2 p3
  obtain ⟨⟨p0, p1, p2, p3⟩, px⟩ := px
  replace qx := And.intro (VAt.below (x := y) (v := (.slice A' y.l.length c')) ⟨q0, q1, q2, q3⟩ qx hb5) (Nat.lt_of_lt_of_le qx hb5.size)
  clear q0 q1 q2 q3
  obtain ⟨⟨q0, q1, q2, q3⟩, qx⟩ := qx
  replace own1 := own1.below hb5
  replace HB := bt HB hb5
  clear hb5
  obtain ⟨B2, d2, rfl⟩ := own2.form
  go_wp2_with fail
  refine (k3.out _ HB).mono ?_
  rintro e w6 ⟨rfl, hb6⟩
  replace px := And.intro (VAt.below (x := x) (v := (.slice A x.l.length c)) ⟨p0, p1, p2, p3⟩ px hb6) (Nat.lt_of_lt_of_le px hb6.size)
  clear p0 p1 p2 p3
  obtain ⟨⟨p0, p1, p2, p3⟩, px⟩ := px
  replace qx := And.intro (VAt.below (x := y) (v := (.slice A' y.l.length c')) ⟨q0, q1, q2, q3⟩ qx hb6) (Nat.lt_of_lt_of_le qx hb6.size)
  clear q0 q1 q2 q3
  obtain ⟨⟨q0, q1, q2, q3⟩, qx⟩ := qx
  replace own1 := own1.below hb6
  replace own2 := own2.below hb6
  replace HB := bt HB hb6
  clear hb6
  have hd1 : bs.length ≤ d1 := by obtain ⟨_, _, e, h, _⟩ := own1.rb _ (Nat.le_refl _); injection e with _ _ e; omega
  have hd2 : cs.length ≤ d2 := by obtain ⟨_, _, e, h, _⟩ := own2.rb _ (Nat.le_refl _); injection e with _ _ e; omega
  have hd3 : bs.length ≤ d2 := by omega
  go_wp2_with fail
  have HBc := Below.refl w6.heap.size w6
  replace own1 := Lib.hid own1
  replace own2 := Lib.hid own2
  go_region_held3 (fun w' => (convert 27 9 (.slice B1 bs.length d1)).run Try.prog w' = .ok (.string t) w' ∧ (convert 27 9 (.slice B2 bs.length d2)).run Try.prog w' = .ok (.string u) w')
    (first | exact ⟨own1.out.convTake (Nat.le_refl _) hte HBc.drew, own2.out.convTake hle hue HBc.drew⟩ | exact ⟨own1.out.convTake (Nat.le_refl _) hte HBc, own2.out.convTake hle hue HBc⟩)
    (fail)
  all_goals
    go_wp2_with fail
    go_ret
    exact ⟨rfl, HB.drew⟩

set_option maxRecDepth 100000 in
set_option maxHeartbeats 2000000 in
theorem df_apart2 (x y : V) (A : Option Addr) (c D : Nat) (A' : Option Addr) (c' D' : Nat) (w : World) (hr : RS w D x.l (.slice A x.l.length c)) (hr' : RS w D' y.l (.slice A' y.l.length c')) (hl : Lg x) (hl' : Lg y) (hf : (fewB x && fewB y) = true) (hs : Sm x) (hs' : Sm y) (hd : dp x ≤ 1000000) (hd' : dp y ≤ 1000000) (hlen : (enc x).length ≤ 1000000) (hlen' : (enc y).length ≤ 1000000) (hck : ckE x = 0) (hcy : ckE y = 0) (hsm : sm x y = false) (hle : (enc y).length < (enc x).length) :
    Calls Try.prog 7 #[vv x (.slice A x.l.length c), vv y (.slice A' y.l.length c')] w fun e w' => e = .returned (.bool true) ∧ Below w.heap.size w w' := by
  have k0 := fun W (h : Below w.heap.size w W) => few2 x y A A' c c' D D' W (hr.below h) (hr'.below h) hl hl'
  rw [hf] at k0
  replace k0 := Lib.hid k0
  have k1 := fun W (h : Below w.heap.size w W) => encode_any D x _ W (hr.below h) hs (by omega) (by omega)
  have k2 := fun W (h : Below w.heap.size w W) => encode_any D' y _ W (hr'.below h) hs' (by omega) (by omega)
  unfold EncPost at k1 k2
  have k3 := fun W (h : Below w.heap.size w W) => same_any D x y _ _ D' W (hr.below h) (hr'.below h) hs hs'
  unfold SamePost at k3
  simp only [hsm] at k3
  simp only [hck, hcy, encB_of hck, encB_of hcy] at k1 k2
  obtain ⟨t, hte⟩ : ∃ t : ByteArray, t = ⟨((enc x).take (enc y).length).toArray⟩ := ⟨_, rfl⟩
  obtain ⟨u, hue⟩ : ∃ t : ByteArray, t = ⟨((enc y).take (enc y).length).toArray⟩ := ⟨_, rfl⟩
  have hne : (t.toList == u.toList) = false := by
    have := enc_apart hck hcy hs hs' hsm (enc y).length (by omega)
    rw [hte, hue, Lib.toList_data, Lib.toList_data]
    simpa using this
  replace hte := Lib.hid hte
  replace hue := Lib.hid hue
  replace k1 := Lib.hid k1
  replace k2 := Lib.hid k2
  replace k3 := Lib.hid k3
  generalize enc x = bs at *
  generalize enc y = cs at *
  clear hr hr' hl hl' hf hs hs' hd hd' hck hcy hsm
  have HB := Below.refl w.heap.size w
  go_enter Try.func7, Try.ntmps7
  have ha1 := ba (Below.refl _ w) (.cells #[.int .i64 x.k, .int .i64 x.n, .string x.s, .slice A x.l.length c] 24)
  replace HB := bt HB ha1
  clear ha1
  obtain ⟨p0, p1, p2, p3⟩ := VAt.new w x (.slice A x.l.length c) 24
  have px : w.heap.size < (w.alloc (.cells #[.int .i64 x.k, .int .i64 x.n, .string x.s, .slice A x.l.length c] 24)).heap.size := by simp
  have hpq := px
  have ha2 := ba (Below.refl _ (w.alloc (.cells #[.int .i64 x.k, .int .i64 x.n, .string x.s, .slice A x.l.length c] 24))) (.cells #[.int .i64 y.k, .int .i64 y.n, .string y.s, .slice A' y.l.length c'] 24)
  replace px := And.intro (VAt.below (x := x) (v := (.slice A x.l.length c)) ⟨p0, p1, p2, p3⟩ px ha2) (Nat.lt_of_lt_of_le px ha2.size)
  clear p0 p1 p2 p3
  obtain ⟨⟨p0, p1, p2, p3⟩, px⟩ := px
  replace HB := bt HB ha2
  clear ha2
  obtain ⟨q0, q1, q2, q3⟩ := VAt.new (w.alloc (.cells #[.int .i64 x.k, .int .i64 x.n, .string x.s, .slice A x.l.length c] 24)) y (.slice A' y.l.length c') 24
  have qx : (w.alloc (.cells #[.int .i64 x.k, .int .i64 x.n, .string x.s, .slice A x.l.length c] 24)).heap.size < ((w.alloc (.cells #[.int .i64 x.k, .int .i64 x.n, .string x.s, .slice A x.l.length c] 24)).alloc (.cells #[.int .i64 y.k, .int .i64 y.n, .string y.s, .slice A' y.l.length c'] 24)).heap.size := by simp
  go_wp2_with fail
  refine (sane_any _).mono ?_
  rintro e w3 ⟨rfl, hb3⟩
  replace px := And.intro (VAt.below (x := x) (v := (.slice A x.l.length c)) ⟨p0, p1, p2, p3⟩ px hb3) (Nat.lt_of_lt_of_le px hb3.size)
  clear p0 p1 p2 p3
  obtain ⟨⟨p0, p1, p2, p3⟩, px⟩ := px
  replace qx := And.intro (VAt.below (x := y) (v := (.slice A' y.l.length c')) ⟨q0, q1, q2, q3⟩ qx hb3) (Nat.lt_of_lt_of_le qx hb3.size)
  clear q0 q1 q2 q3
  obtain ⟨⟨q0, q1, q2, q3⟩, qx⟩ := qx
  replace HB := bt HB hb3
  clear hb3
  simp at q0 q1 q2 q3 qx hpq
  go_wp2_with fail
  refine (k0.out _ HB).mono ?_
  rintro e wf ⟨rfl, hbf⟩
  replace hbf := (ba (Below.refl _ w3) (.cells #[.int .i64 x.k, .int .i64 x.n, .string x.s, .slice A x.l.length c, .int .i64 y.k, .int .i64 y.n, .string y.s, .slice A' y.l.length c'] 24)).trans (hbf.mono (Nat.le_succ _))
  replace px := And.intro (VAt.below (x := x) (v := (.slice A x.l.length c)) ⟨p0, p1, p2, p3⟩ px hbf) (Nat.lt_of_lt_of_le px hbf.size)
  clear p0 p1 p2 p3
  obtain ⟨⟨p0, p1, p2, p3⟩, px⟩ := px
  replace qx := And.intro (VAt.below (x := y) (v := (.slice A' y.l.length c')) ⟨q0, q1, q2, q3⟩ qx hbf) (Nat.lt_of_lt_of_le qx hbf.size)
  clear q0 q1 q2 q3
  obtain ⟨⟨q0, q1, q2, q3⟩, qx⟩ := qx
  replace HB := bt HB hbf
  clear hbf
  go_wp2_with fail
  refine (k1.out _ HB).mono ?_
  rintro e w4 ⟨v1, rfl, own1, _, hb4⟩
  replace px := And.intro (VAt.below (x := x) (v := (.slice A x.l.length c)) ⟨p0, p1, p2, p3⟩ px hb4) (Nat.lt_of_lt_of_le px hb4.size)
  clear p0 p1 p2 p3
  obtain ⟨⟨p0, p1, p2, p3⟩, px⟩ := px
  replace qx := And.intro (VAt.below (x := y) (v := (.slice A' y.l.length c')) ⟨q0, q1, q2, q3⟩ qx hb4) (Nat.lt_of_lt_of_le qx hb4.size)
  clear q0 q1 q2 q3
  obtain ⟨⟨q0, q1, q2, q3⟩, qx⟩ := qx
  replace HB := bt HB hb4
  clear hb4
  obtain ⟨B1, d1, rfl⟩ := own1.form
  go_wp2_with fail
  refine (k2.out _ HB).mono ?_
  rintro e w5 ⟨v2, rfl, own2, _, hb5⟩
  replace px := And.intro (VAt.below (x := x) (v := (.slice A x.l.length c)) ⟨p0, p1, p2, p3⟩ px hb5) (Nat.lt_of_lt_of_le px hb5.size)
  clear p0 p1 p2 p3
  obtain ⟨⟨p0, p1, p2, p3⟩, px⟩ := px
  replace qx := And.intro (VAt.below (x := y) (v := (.slice A' y.l.length c')) ⟨q0, q1, q2, q3⟩ qx hb5) (Nat.lt_of_lt_of_le qx hb5.size)
  clear q0 q1 q2 q3
  obtain ⟨⟨q0, q1, q2, q3⟩, qx⟩ := qx
  replace own1 := own1.below hb5
  replace HB := bt HB hb5
  clear hb5
  obtain ⟨B2, d2, rfl⟩ := own2.form
  go_wp2_with fail
  refine (k3.out _ HB).mono ?_
  rintro e w6 ⟨rfl, hb6⟩
  replace px := And.intro (VAt.below (x := x) (v := (.slice A x.l.length c)) ⟨p0, p1, p2, p3⟩ px hb6) (Nat.lt_of_lt_of_le px hb6.size)
  clear p0 p1 p2 p3
  obtain ⟨⟨p0, p1, p2, p3⟩, px⟩ := px
  replace qx := And.intro (VAt.below (x := y) (v := (.slice A' y.l.length c')) ⟨q0, q1, q2, q3⟩ qx hb6) (Nat.lt_of_lt_of_le qx hb6.size)
  clear q0 q1 q2 q3
  obtain ⟨⟨q0, q1, q2, q3⟩, qx⟩ := qx
  replace own1 := own1.below hb6
  replace own2 := own2.below hb6
  replace HB := bt HB hb6
  clear hb6
  have hd1 : bs.length ≤ d1 := by obtain ⟨_, _, e, h, _⟩ := own1.rb _ (Nat.le_refl _); injection e with _ _ e; omega
  have hd2 : cs.length ≤ d2 := by obtain ⟨_, _, e, h, _⟩ := own2.rb _ (Nat.le_refl _); injection e with _ _ e; omega
  have hd3 : cs.length ≤ d1 := by omega
  go_wp2_with fail
  have HBc := Below.refl w6.heap.size w6
  replace own1 := Lib.hid own1
  replace own2 := Lib.hid own2
  go_region_held3 (fun w' => (convert 27 9 (.slice B1 cs.length d1)).run Try.prog w' = .ok (.string t) w' ∧ (convert 27 9 (.slice B2 cs.length d2)).run Try.prog w' = .ok (.string u) w')
    (first | exact ⟨own1.out.convTake (Nat.le_of_lt hle) hte HBc.drew, own2.out.convTake (Nat.le_refl _) hue HBc.drew⟩ | exact ⟨own1.out.convTake (Nat.le_of_lt hle) hte HBc, own2.out.convTake (Nat.le_refl _) hue HBc⟩)
    (fail)
  all_goals
    go_wp2_with fail
    go_ret
    exact ⟨rfl, HB.drew⟩

theorem walk_CodecDifferent (x y : V) (A : Option Addr) (c D : Nat) (A' : Option Addr) (c' D' : Nat) (w : World) (hr : RS w D x.l (.slice A x.l.length c)) (hi : Ib x) (hl : Lg x) (hr' : RS w D' y.l (.slice A' y.l.length c')) (hi' : Ib y) (hl' : Lg y) :
    Calls Try.prog 7 #[vv x (.slice A x.l.length c), vv y (.slice A' y.l.length c')] w fun e w' => e = .returned (.bool true) ∧ Below w.heap.size w w' := by
  cases hf : (fewB x && fewB y) with
  | false => exact df_many x y A c D A' c' D' w hr hr' hl hl' hf
  | true =>
    have hf2 := hf
    rw [Bool.and_eq_true] at hf2
    obtain ⟨h3, h4, h5⟩ := few_sm x hi hf2.1
    obtain ⟨h6, h7, h8⟩ := few_sm y hi' hf2.2
    by_cases hx : ckE x = 0
    · by_cases hy : ckE y = 0
      · cases hsm : sm x y with
        | true => exact df_same x y A c D A' c' D' w hr hr' hl hl' hf h3 h6 (by omega) (by omega) (by omega) (by omega) hx hy hsm
        | false =>
          by_cases hle : (enc x).length ≤ (enc y).length
          · exact df_apart1 x y A c D A' c' D' w hr hr' hl hl' hf h3 h6 (by omega) (by omega) (by omega) (by omega) hx hy hsm hle
          · exact df_apart2 x y A c D A' c' D' w hr hr' hl hl' hf h3 h6 (by omega) (by omega) (by omega) (by omega) hx hy hsm (by omega)
      · exact df_bad2 x y A c D A' c' D' w hr hr' hl hl' hf h3 h6 (by omega) (by omega) (by omega) (by omega) hx (by simpa using hy)
    · by_cases hy : ckE y = 0
      · exact df_bad1 x y A c D A' c' D' w hr hr' hl hl' hf h3 h6 (by omega) (by omega) (by omega) (by omega) (by simpa using hx) hy
      · exact df_bad3 x y A c D A' c' D' w hr hr' hl hl' hf h3 h6 (by omega) (by omega) (by omega) (by omega) (by simpa using hx) (by simpa using hy)
end Go.Proofs.Ytofmkmjboekodaa
