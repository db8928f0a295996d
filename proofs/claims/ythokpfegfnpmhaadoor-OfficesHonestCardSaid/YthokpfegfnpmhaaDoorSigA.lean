/- The walks of sign.power, Sign, Verify. -/
import Derived.Test.YthokpfegfnpmhaaDoorSList
import Derived.Test.YthokpfegfnpmhaaDoorTagH
import Derived.Test.YthokpfegfnpmhaaDoorGrpLaw
import Derived.WalkLawsBesides
import Derived.Deep.RegionHeld3
namespace Go.Proofs.YthokpfegfnpmhaaDoor
open Go.RowKit Go.Shelf Jac Cdc Sha
set_option linter.unusedVariables false
set_option linter.unusedSimpArgs false

def iV (n : Int) : V := ⟨1, n, ⟨#[]⟩, []⟩
def tV (bs : List UInt8) : V := ⟨2, 0, ⟨bs.toArray⟩, []⟩
def lV (l : List V) : V := ⟨3, 0, ⟨#[]⟩, l⟩
theorem iV_at (w : World) (n : Int) : ArgAt w (.iface 3 (.int .i64 n)) (iV n) := .inl ⟨n, rfl, rfl⟩
theorem tV_at {w : World} {A : Option Addr} {bs : List UInt8} (h : AtO w A bs) (n c : Nat) (hn : bs.length = n) : ArgAt w (.iface 23 (.slice A n c)) (tV bs) := by
  subst hn
  exact .inr ⟨A, c, bs, rfl, rfl, h⟩
theorem args_mk (w : World) (vs : Array Value) (l : List V) (k : Nat) (hk : k = w.heap.size) (h : ∀ (i : Nat) (y : V), l[i]? = some y → ∃ v, vs[i]? = some v ∧ ArgAt w v y) : ArgsAt (w.alloc (.cells vs 20)) k l := fun i y hi => by
  subst hk
  obtain ⟨v, hv, ha⟩ := h i y hi
  refine ⟨v, ?_, ha.below ((Below.refl _ _).alloc (Nat.le_refl _) _)⟩
  rw [cell_of_row _ _ _ _ _ _ (heap_alloc_new w _)]
  exact hv
theorem args2 (w : World) (v0 v1 : Value) (y0 y1 : V) (k : Nat) (hk : k = w.heap.size) (h0 : ArgAt w v0 y0) (h1 : ArgAt w v1 y1) : ArgsAt (w.alloc (.cells #[v0, v1] 20)) k [y0, y1] :=
  args_mk w _ _ k hk fun i y hi => by
    match i, hi with
    | 0, hi => obtain rfl : y0 = y := by simpa using hi
               exact ⟨v0, rfl, h0⟩
    | 1, hi => obtain rfl : y1 = y := by simpa using hi
               exact ⟨v1, rfl, h1⟩
    | i + 2, hi => simp at hi
theorem args3 (w : World) (v0 v1 v2 : Value) (y0 y1 y2 : V) (k : Nat) (hk : k = w.heap.size) (h0 : ArgAt w v0 y0) (h1 : ArgAt w v1 y1) (h2 : ArgAt w v2 y2) : ArgsAt (w.alloc (.cells #[v0, v1, v2] 20)) k [y0, y1, y2] :=
  args_mk w _ _ k hk fun i y hi => by
    match i, hi with
    | 0, hi => obtain rfl : y0 = y := by simpa using hi
               exact ⟨v0, rfl, h0⟩
    | 1, hi => obtain rfl : y1 = y := by simpa using hi
               exact ⟨v1, rfl, h1⟩
    | 2, hi => obtain rfl : y2 = y := by simpa using hi
               exact ⟨v2, rfl, h2⟩
    | i + 3, hi => simp at hi

/-- numbers of 64 bits -/
def I64 (n : Int) : Prop := -9223372036854775808 ≤ n ∧ n ≤ 9223372036854775807
theorem sm_mk (k n : Int) (s : ByteArray) (l : List V) (h1 : I64 n) (h2 : s.size ≤ 1000000000) (h3 : l.length ≤ 1000000000) (h4 : SmL l) : Sm ⟨k, n, s, l⟩ := ⟨h1, h2, h3, h4⟩
theorem i64_zero : I64 0 := ⟨by omega, by omega⟩
theorem bsize (bs : List UInt8) : (⟨bs.toArray⟩ : ByteArray).size = bs.length := by simp [ByteArray.size]
theorem sm_iV {n : Int} (h : I64 n) : Sm (iV n) := sm_mk _ _ _ _ h (by decide) (by decide) trivial
theorem sm_tV (bs : List UInt8) (h : bs.length ≤ 1000000) : Sm (tV bs) := sm_mk _ _ _ _ i64_zero (by rw [bsize]; omega) (by decide) trivial
theorem enc_iV {n : Int} (h : I64 n) : (enc (iV n)).length ≤ 11 := by
  have := num_len (uz n) (uz_lt h)
  simp [iV, enc]; omega
theorem enc_tV (bs : List UInt8) (h : bs.length ≤ 1000000) : (enc (tV bs)).length ≤ bs.length + 11 := by
  have := num_len bs.length (by have e : (2 : Nat) ^ 64 = 18446744073709551616 := by decide
                                omega)
  simp [tV, enc, V.t, ByteArray.size]; omega
theorem sm2 (n : Int) (bs : List UInt8) (hn : I64 n) (hb : bs.length ≤ 1000000) : Sm (lV [iV n, tV bs]) ∧ (enc (lV [iV n, tV bs])).length ≤ bs.length + 100 := by
  refine ⟨sm_mk _ _ _ _ i64_zero (by decide) (by simp) ⟨sm_iV hn, sm_tV bs hb, trivial⟩, ?_⟩
  have h1 := enc_iV hn
  have h2 := enc_tV bs hb
  have h3 := num_len 2 (by decide)
  have e : enc (lV [iV n, tV bs]) = 3 :: (num 2 ++ (enc (iV n) ++ (enc (tV bs) ++ []))) := by simp [lV, enc, encL]
  rw [e]
  simp only [List.length_cons, List.length_append, List.length_nil]
  omega
theorem sm3 (m n : Int) (bs : List UInt8) (hm : I64 m) (hn : I64 n) (hb : bs.length ≤ 1000000) : Sm (lV [iV m, iV n, tV bs]) ∧ (enc (lV [iV m, iV n, tV bs])).length ≤ bs.length + 100 := by
  refine ⟨sm_mk _ _ _ _ i64_zero (by decide) (by simp) ⟨sm_iV hm, sm_iV hn, sm_tV bs hb, trivial⟩, ?_⟩
  have h0 := enc_iV hm
  have h1 := enc_iV hn
  have h2 := enc_tV bs hb
  have h3 := num_len 3 (by decide)
  have e : enc (lV [iV m, iV n, tV bs]) = 3 :: (num 3 ++ (enc (iV m) ++ (enc (iV n) ++ (enc (tV bs) ++ [])))) := by simp [lV, enc, encL]
  rw [e]
  simp only [List.length_cons, List.length_append, List.length_nil]
  omega
theorem encB_le (x : V) : (encB x).length ≤ (enc x).length := by
  unfold encB
  split
  · exact Nat.le_refl _
  · simp

set_option maxRecDepth 100000 in
set_option maxHeartbeats 1000000 in
theorem power_any (a n : Int) (w : World) :
    Calls Tryd.prog 81 #[.int .i64 a, .int .i64 n] w fun e w' => e = .returned (.int .i64 (powC a n)) ∧ Below w.heap.size w w' := by
  go_enter Tryd.func81, Tryd.ntmps81
  go_wp2_with fail
  refine (pow_any _ _ _).mono ?_
  rintro e w' ⟨rfl, hb⟩
  go_wp2_with fail
  go_ret
  exact ⟨rfl, hb⟩

/-- the names under which sign hashes -/
def nonceB : ByteArray := ⟨#[110, 111, 110, 99, 101]⟩
def signB : ByteArray := ⟨#[115, 105, 103, 110]⟩
/-- the number of a hash under a name -/
def hN (tag : ByteArray) (l : List V) : Int := (hq (tgd tag.data.toList (encB (lV l))) : Nat)
theorem hN_bd (tag : ByteArray) (l : List V) : 0 ≤ hN tag l ∧ hN tag l < 1073741789 := by
  have := hq_lt (tgd tag.data.toList (encB (lV l)))
  unfold hN
  omega
/-- the numbers of a signature -/
def sgK (x : Int) (bs : List UInt8) : Int := max (hN nonceB [iV x, tV bs]) 1
noncomputable def sgE (x : Int) (bs : List UInt8) : Int := hN signB [iV (powC 4 (sgK x bs)), iV (powC 4 x), tV bs]
noncomputable def sgS (x : Int) (bs : List UInt8) : Int := (sgK x bs + sgE x bs * x) % 1073741789
theorem sgK_bd (x : Int) (bs : List UInt8) : 1 ≤ sgK x bs ∧ sgK x bs < 1073741789 := by
  have := hN_bd nonceB [iV x, tV bs]
  unfold sgK
  omega
theorem powC_bd (a n : Int) : 0 ≤ powC a n ∧ powC a n < 2147483579 := by
  unfold powC
  split
  · have := pw_lt a.toNat (n % 1073741789).toNat
    omega
  · omega
theorem i64_of {n : Int} (h : 0 ≤ n ∧ n < 2147483579) : I64 n := ⟨by omega, by omega⟩

/-- list and the hash of what it gives, as one step of a walk -/
theorem listhash (tag : ByteArray) (ht : tag.size ≤ 1000) (l : List V) (w0 : World) (cb n c : Nat) (w : World) (hn : l.length = n) (hnm : n ≤ 100000) (hB : Below w0.heap.size w0 w) (h : ArgsAt w cb l) (hsm : Sm (lV l) ∧ (enc (lV l)).length ≤ 1000000) (hL : Laid w0) :
    Calls Tryd.prog 80 #[.slice (some ⟨cb, 0, none⟩) n c] w fun e w1 => ∃ A m c1, e = .returned (.slice A m c1) ∧ Below w0.heap.size w0 w1 ∧ Below w.heap.size w w1 ∧
      Calls Tryd.prog 79 #[.string tag, .slice A m c1] w1 fun e w2 => e = .returned (.int .i64 (hN tag l)) ∧ Below w1.heap.size w1 w2 := by
  refine (list_any l cb n c hn hnm w h hsm.1 (Nat.le_trans hsm.2 (by omega))).mono ?_
  unfold Fresh
  rintro e w1 ⟨v1, rfl, ho1, hh1, hB1⟩
  obtain ⟨A1, c1, rfl⟩ := ho1.form
  have hc := ho1.cap
  have hl := encB_le (lV l)
  exact ⟨A1, _, c1, rfl, hB.trans (hB1.mono hB.size), hB1, hash_any tag (by omega) (encB (lV l)) _ rfl (by have := hsm.2; omega) A1 c1 hc.1 hc.2 w1 ho1.atO (hL.below (hB.trans (hB1.mono hB.size)))⟩

theorem lh2 (tag : ByteArray) (ht : tag.size ≤ 1000) (x : Int) (bs : List UInt8) (A : Option Addr) (n c : Nat) (hn : bs.length = n) (hb : n ≤ 100000) (hx : I64 x) (w0 W : World) (k : Nat) (hk : k = W.heap.size) (hB : Below w0.heap.size w0 W) (h : AtO w0 A bs) (hL : Laid w0) :
    Calls Tryd.prog 80 #[.slice (some ⟨k, 0, none⟩) 2 2] (W.alloc (.cells #[.iface 3 (.int .i64 x), .iface 23 (.slice A n c)] 20)) fun e w1 => ∃ A1 m c1, e = .returned (.slice A1 m c1) ∧ Below w0.heap.size w0 w1 ∧ Below W.heap.size W w1 ∧
      Calls Tryd.prog 79 #[.string tag, .slice A1 m c1] w1 fun e w2 => e = .returned (.int .i64 (hN tag [iV x, tV bs])) ∧ Below w1.heap.size w1 w2 := by
  have h2 := sm2 x bs hx (by omega)
  refine (listhash tag ht [iV x, tV bs] w0 k 2 2 _ rfl (by omega) (hB.alloc hB.size _) (args2 W _ _ _ _ k hk (iV_at _ _) (tV_at (h.below hB) n c hn)) ⟨h2.1, by omega⟩ hL).mono ?_
  rintro e w1 ⟨A1, m, c1, rfl, h3, h4, h5⟩
  exact ⟨A1, m, c1, rfl, h3, ((Below.refl _ _).alloc (Nat.le_refl _) _).trans (h4.mono (by simp)), h5⟩
theorem lh3 (tag : ByteArray) (ht : tag.size ≤ 1000) (x y : Int) (bs : List UInt8) (A : Option Addr) (n c : Nat) (hn : bs.length = n) (hb : n ≤ 100000) (hx : I64 x) (hy : I64 y) (w0 W : World) (k : Nat) (hk : k = W.heap.size) (hB : Below w0.heap.size w0 W) (h : AtO w0 A bs) (hL : Laid w0) :
    Calls Tryd.prog 80 #[.slice (some ⟨k, 0, none⟩) 3 3] (W.alloc (.cells #[.iface 3 (.int .i64 x), .iface 3 (.int .i64 y), .iface 23 (.slice A n c)] 20)) fun e w1 => ∃ A1 m c1, e = .returned (.slice A1 m c1) ∧ Below w0.heap.size w0 w1 ∧ Below W.heap.size W w1 ∧
      Calls Tryd.prog 79 #[.string tag, .slice A1 m c1] w1 fun e w2 => e = .returned (.int .i64 (hN tag [iV x, iV y, tV bs])) ∧ Below w1.heap.size w1 w2 := by
  have h2 := sm3 x y bs hx hy (by omega)
  refine (listhash tag ht [iV x, iV y, tV bs] w0 k 3 3 _ rfl (by omega) (hB.alloc hB.size _) (args3 W _ _ _ _ _ _ k hk (iV_at _ _) (iV_at _ _) (tV_at (h.below hB) n c hn)) ⟨h2.1, by omega⟩ hL).mono ?_
  rintro e w1 ⟨A1, m, c1, rfl, h3, h4, h5⟩
  exact ⟨A1, m, c1, rfl, h3, ((Below.refl _ _).alloc (Nat.le_refl _) _).trans (h4.mono (by simp)), h5⟩

theorem sig_info (a b : Int) : (Tryd.prog.info? 47).map (·.size) = some (#[Value.int .i64 a, Value.int .i64 b] : Array Value).size := by
  have h : (Tryd.prog.info? 47).map (·.size) = some 2 := by kernel_rfl
  rw [h]; rfl

set_option maxRecDepth 100000 in
set_option maxHeartbeats 1000000 in
theorem times_any (a b : Int) (ha : 0 ≤ a ∧ a < 1073741789) (hb : 0 ≤ b ∧ b < 1073741789) (w : World) :
    Calls Tryd.prog 83 #[.int .i64 a, .int .i64 b] w fun e w' => e = .returned (.int .i64 (a * b % 1073741789)) ∧ w = w' := by
  have h1 : 0 ≤ a * b := Int.mul_nonneg ha.1 hb.1
  have h2 : a * b ≤ 1073741789 * 1073741789 := Int.mul_le_mul (by omega) (by omega) hb.1 (by omega)
  have h3 : a * b ≤ 9223372036854775807 := by omega
  go_enter Tryd.func83, Tryd.ntmps83
  go_wp2_with fail
  go_ret
  exact ⟨rfl, rfl⟩
set_option maxRecDepth 100000 in
set_option maxHeartbeats 1000000 in
theorem plus_any (a b : Int) (ha : 0 ≤ a ∧ a < 1073741789) (hb : 0 ≤ b ∧ b < 1073741789) (w : World) :
    Calls Tryd.prog 82 #[.int .i64 a, .int .i64 b] w fun e w' => e = .returned (.int .i64 ((a + b) % 1073741789)) ∧ w = w' := by
  obtain ⟨h1, h2⟩ := ha
  obtain ⟨h3, h4⟩ := hb
  go_enter Tryd.func82, Tryd.ntmps82
  go_wp2_with fail
  go_ret
  exact ⟨rfl, rfl⟩

set_option maxRecDepth 100000 in
set_option maxHeartbeats 4000000 in
theorem sign_out (x : Int) (A : Option Addr) (n c : Nat) (w : World) (h : x < 1 ∨ 1073741789 ≤ x) :
    Calls Tryd.prog 56 #[.int .i64 x, .slice A n c] w fun e w' => e = .returned (.tuple #[.agg #[.int .i64 0, .int .i64 0], .int .i64 110]) ∧ Below w.heap.size w w' := by
  rcases h with h | h
  · go_enter Tryd.func56, Tryd.ntmps56
    go_wp2_with fail
    exact bodyPost_ret (v := .tuple #[.agg #[.int .i64 0, .int .i64 0], .int .i64 110]) (by simp [results, Tryd.results56, go_sem]) rfl ⟨rfl, (Below.refl _ _).alloc (Nat.le_refl _) _⟩
  · have h2 : ¬ x < 1 := by omega
    go_enter Tryd.func56, Tryd.ntmps56
    go_wp2_with fail
    exact bodyPost_ret (v := .tuple #[.agg #[.int .i64 0, .int .i64 0], .int .i64 110]) (by simp [results, Tryd.results56, go_sem]) rfl ⟨rfl, (Below.refl _ _).alloc (Nat.le_refl _) _⟩

set_option maxRecDepth 100000 in
set_option maxHeartbeats 4000000 in
theorem sign_in (x : Int) (bs : List UInt8) (A : Option Addr) (n c : Nat) (w : World) (hx : 1 ≤ x) (hx2 : x < 1073741789) (hn : bs.length = n) (hb : n ≤ 100000) (h : AtO w A bs) (hL : Laid w) :
    Calls Tryd.prog 56 #[.int .i64 x, .slice A n c] w fun e w' => e = .returned (.tuple #[.agg #[.int .i64 (sgE x bs), .int .i64 (sgS x bs)], .int .i64 0]) ∧ Below w.heap.size w w' := by
  have hx3 : ¬ x < 1 := by omega
  have hx4 : ¬ 1073741789 ≤ x := by omega
  replace hn := Lib.hid hn
  replace h := Lib.hid h
  have hd0 := heap_alloc_new w (.cells #[.int .i64 0, .int .i64 0] 47)
  have hB0 : Below w.heap.size w (w.alloc (.cells #[.int .i64 0, .int .i64 0] 47)) := (Below.refl _ _).alloc (Nat.le_refl _) _
  replace hd0 := Lib.hid hd0
  have hxI : I64 x := ⟨by omega, by omega⟩
  have hmf : ∀ (fn : Fn) (first cap : Array Value) (w : World), (Instr.makeFunc fn first cap).run Tryd.prog w = .ok (.func fn first cap) w := fun _ _ _ _ => rfl
  go_enter Tryd.func56, Tryd.ntmps56
  go_wp2_with fail
  refine (lh2 nonceB (by decide) x bs A n c hn.out hb hxI w _ _ (by simp) hB0 h.out hL).mono ?_
  rintro e w1 ⟨A1, m1, c1, rfl, hB1, hB1', hH1⟩
  have hd1 := (hB1'.block w.heap.size (by simp)).trans hd0.out
  clear hB1' hB0 hd0
  go_wp2_with fail
  refine hH1.mono ?_
  rintro e w2 ⟨rfl, hB2⟩
  have hd2 := Lib.hid ((hB2.block w.heap.size (Array.getElem?_eq_some_iff.1 hd1).1).trans hd1)
  have hB20 := hB1.trans (hB2.mono hB1.size)
  have hkb := sgK_bd x bs
  have hk0 := Lib.hid (show max (hN nonceB [iV x, tV bs]) 1 = sgK x bs from rfl)
  clear hd1 hB1 hH1 hB2
  go_wp2_with fail
  rw [hk0.out]
  generalize hkk : sgK x bs = kk at *
  replace hkk := Lib.hid hkk
  refine (power_any 4 kk _).mono ?_
  rintro e w3 ⟨rfl, hB3⟩
  have hd3 := Lib.hid ((hB3.block w.heap.size (Array.getElem?_eq_some_iff.1 hd2.out).1).trans hd2.out)
  have hB30 := hB20.trans (hB3.mono hB20.size)
  have hp1 := powC_bd 4 kk
  generalize hpk : powC 4 kk = pk at *
  replace hpk := Lib.hid hpk
  clear hd2 hB20 hB3 hk0
  go_wp2_with fail
  refine (power_any 4 x _).mono ?_
  rintro e w4 ⟨rfl, hB4⟩
  have hd4 := Lib.hid ((hB4.block w.heap.size (Array.getElem?_eq_some_iff.1 hd3.out).1).trans hd3.out)
  have hB40 := hB30.trans (hB4.mono hB30.size)
  have hp2 := powC_bd 4 x
  generalize hpx : powC 4 x = px at *
  replace hpx := Lib.hid hpx
  clear hd3 hB30 hB4
  go_wp2_with fail
  refine (lh3 signB (by decide) pk px bs A n c hn.out hb (i64_of hp1) (i64_of hp2) w _ _ rfl hB40 h.out hL).mono ?_
  rintro e w5 ⟨A5, m5, c5, rfl, hB5, hB5', hH5⟩
  have hd5 := (hB5'.block w.heap.size (Array.getElem?_eq_some_iff.1 hd4.out).1).trans hd4.out
  clear hB5' hB40 hd4
  go_wp2_with fail
  refine hH5.mono ?_
  rintro e w6 ⟨rfl, hB6⟩
  have hd6 := (hB6.block w.heap.size (Array.getElem?_eq_some_iff.1 hd5).1).trans hd5
  have hB60 := hB5.trans (hB6.mono hB5.size)
  have hE : Hid (hN signB [iV pk, iV px, tV bs] = sgE x bs) := Lib.hid (by unfold sgE; rw [hkk.out, hpk.out, hpx.out])
  have hEb := hN_bd signB [iV pk, iV px, tV bs]
  rw [hE.out] at hEb ⊢
  have hS : Hid ((kk + sgE x bs * x) % 1073741789 = sgS x bs) := Lib.hid (by unfold sgS; rw [hkk.out])
  generalize hEe : sgE x bs = E at *
  replace hEe := Lib.hid hEe
  have hc0 : w6.cell? ⟨w.heap.size, 0, none⟩ = some (.int .i64 0) := by rw [cell_of_row _ _ _ _ _ _ hd6]; rfl
  have hc1 : w6.cell? ⟨w.heap.size, 1, none⟩ = some (.int .i64 0) := by rw [cell_of_row _ _ _ _ _ _ hd6]; rfl
  have hf0 := frozen_of_row w6 w.heap.size 0 _ _ hd6
  have hf1 := frozen_of_row w6 w.heap.size 1 _ _ hd6
  have hlt := (Array.getElem?_eq_some_iff.1 hd6).1
  clear hd5 hB5 hH5 hB6
  go_wp2_with (first
    | (go_at_call 83; refine (times_any E x hEb ⟨by omega, hx2⟩ _).mono ?_; rintro e w7 ⟨rfl, rfl⟩)
    | (go_at_call 82; refine (plus_any kk (E * x % 1073741789) ⟨by omega, by omega⟩ ⟨by omega, by omega⟩ _).mono ?_; rintro e w8 ⟨rfl, rfl⟩))
  have r1 := heap_setCell_same w6 w.heap.size 0 _ _ (.int .i64 E) hd6
  have r2 := heap_setCell_same _ w.heap.size 1 _ _ (.int .i64 ((kk + E * x) % 1073741789)) r1
  have r3 := heap_setCell_same _ w.heap.size 0 _ _ (.int .i64 E) r2
  have r4 := heap_setCell_same _ w.heap.size 1 _ _ (.int .i64 ((kk + E * x) % 1073741789)) r3
  have hB9 := (((hB60.setCell (p := ⟨w.heap.size, 0, none⟩) (Nat.le_refl _) (.int .i64 E)).setCell (p := ⟨w.heap.size, 1, none⟩) (Nat.le_refl _) (.int .i64 ((kk + E * x) % 1073741789))).setCell (p := ⟨w.heap.size, 0, none⟩) (Nat.le_refl _) (.int .i64 E)).setCell (p := ⟨w.heap.size, 1, none⟩) (Nat.le_refl _) (.int .i64 ((kk + E * x) % 1073741789))
  clear r1 r2 r3 hd6 hc0 hc1 hf0 hf1 hB60
  generalize (((w6.setCell ⟨w.heap.size, 0, none⟩ (.int .i64 E)).setCell ⟨w.heap.size, 1, none⟩ (.int .i64 ((kk + E * x) % 1073741789))).setCell ⟨w.heap.size, 0, none⟩ (.int .i64 E)).setCell ⟨w.heap.size, 1, none⟩ (.int .i64 ((kk + E * x) % 1073741789)) = w9 at *
  have g0 : w9.cell? ⟨w.heap.size, 0, none⟩ = some (.int .i64 E) := by rw [cell_of_row _ _ _ _ _ _ r4]; simp
  have g1 : w9.cell? ⟨w.heap.size, 1, none⟩ = some (.int .i64 ((kk + E * x) % 1073741789)) := by rw [cell_of_row _ _ _ _ _ _ r4]; simp
  refine bodyPost_ret (v := .tuple #[.agg #[.int .i64 E, .int .i64 ((kk + E * x) % 1073741789)], .int .i64 0]) ?_ rfl ⟨by rw [hEe.out, ← hS.out], hB9⟩
  simp [results, Tryd.results56, go_sem, g0, g1]
end Go.Proofs.YthokpfegfnpmhaaDoor
/- The walk of sign.Verify. -/
namespace Go.Proofs.YthokpfegfnpmhaaDoor
open Go.RowKit Go.Shelf Jac Cdc Sha
set_option linter.unusedVariables false
set_option linter.unusedSimpArgs false

/-- the point of a signature -/
noncomputable def ptC (key E S : Int) : Int := mulC (powC 4 S) (powC key (-E))
/-- what Verify answers -/
noncomputable def vfB (key : Int) (bs : List UInt8) (E S : Int) : Bool :=
  decide (0 ≤ E ∧ E < 1073741789 ∧ 0 ≤ S ∧ S < 1073741789) && validB key && (E == hN signB [iV (ptC key E S), iV key, tV bs])

theorem mulC_bd (a b : Int) : 0 ≤ mulC a b ∧ mulC a b < 2147483579 := by
  unfold mulC
  split
  · omega
  · omega

set_option maxRecDepth 100000 in
set_option maxHeartbeats 4000000 in
theorem verify_out (key E S : Int) (A : Option Addr) (n c : Nat) (w : World) (h : E < 0 ∨ 1073741789 ≤ E ∨ S < 0 ∨ 1073741789 ≤ S) :
    Calls Tryd.prog 61 #[.int .i64 key, .slice A n c, .agg #[.int .i64 E, .int .i64 S]] w fun e w' => e = .returned (.bool false) ∧ Below w.heap.size w w' := by
  by_cases h1 : min E S < 0
  · go_enter Tryd.func61, Tryd.ntmps61
    go_wp2_with fail
    go_ret
    exact ⟨rfl, (Below.refl _ _).alloc (Nat.le_refl _) _⟩
  · have h2 : 1073741789 ≤ max E S := by omega
    go_enter Tryd.func61, Tryd.ntmps61
    go_wp2_with fail
    go_ret
    exact ⟨rfl, (Below.refl _ _).alloc (Nat.le_refl _) _⟩

set_option maxRecDepth 100000 in
set_option maxHeartbeats 4000000 in
theorem verify_bad (key E S : Int) (A : Option Addr) (n c : Nat) (w : World) (h : 0 ≤ E ∧ E < 1073741789 ∧ 0 ≤ S ∧ S < 1073741789) (hv : validB key = false) :
    Calls Tryd.prog 61 #[.int .i64 key, .slice A n c, .agg #[.int .i64 E, .int .i64 S]] w fun e w' => e = .returned (.bool false) ∧ Below w.heap.size w w' := by
  have h1 : ¬ min E S < 0 := by omega
  have h2 : ¬ 1073741789 ≤ max E S := by omega
  have hv2 := Lib.hid hv
  clear hv
  go_enter Tryd.func61, Tryd.ntmps61
  go_wp2_with (go_at_call 90; refine (valid_any _ _).mono ?_; rintro e w' ⟨rfl, rfl⟩; rw [hv2.out])
  go_ret
  exact ⟨rfl, (Below.refl _ _).alloc (Nat.le_refl _) _⟩

set_option maxRecDepth 100000 in
set_option maxHeartbeats 4000000 in
theorem verify_in (key : Int) (bs : List UInt8) (E S : Int) (A : Option Addr) (n c : Nat) (w : World) (h : 0 ≤ E ∧ E < 1073741789 ∧ 0 ≤ S ∧ S < 1073741789) (hv : validB key = true) (hn : bs.length = n) (hb : n ≤ 100000) (hA : AtO w A bs) (hL : Laid w) :
    Calls Tryd.prog 61 #[.int .i64 key, .slice A n c, .agg #[.int .i64 E, .int .i64 S]] w fun e w' => e = .returned (.bool ((E == hN signB [iV (ptC key E S), iV key, tV bs]))) ∧ Below w.heap.size w w' := by
  have h1 : ¬ min E S < 0 := by omega
  have h2 : ¬ 1073741789 ≤ max E S := by omega
  have hkr := validB_range hv
  have hv2 := Lib.hid hv
  replace hn := Lib.hid hn
  replace hA := Lib.hid hA
  clear hv
  go_enter Tryd.func61, Tryd.ntmps61
  go_wp2_with (go_at_call 90; refine (valid_any _ _).mono ?_; rintro e w' ⟨rfl, rfl⟩; rw [hv2.out])
  obtain ⟨W0, hW0⟩ : ∃ W0, w.alloc (Obj.cells #[Value.int IntKind.i64 E, Value.int IntKind.i64 S] 47) = W0 := ⟨_, rfl⟩
  have hr0 : W0.heap[w.heap.size]? = some (.cells #[.int .i64 E, .int .i64 S] 47 (0, 0)) := by rw [← hW0]; exact heap_alloc_new w _
  have hB0 : Below w.heap.size w W0 := by rw [← hW0]; exact (Below.refl _ _).alloc (Nat.le_refl _) _
  rw [hW0]
  clear hW0
  have hlt0 := (Array.getElem?_eq_some_iff.1 hr0).1
  have c0 : W0.cell? ⟨w.heap.size, 0, none⟩ = some (.int .i64 E) := by rw [cell_of_row _ _ _ _ _ _ hr0]; rfl
  have c1 : W0.cell? ⟨w.heap.size, 1, none⟩ = some (.int .i64 S) := by rw [cell_of_row _ _ _ _ _ _ hr0]; rfl
  have G1 : -9223372036854775808 ≤ -E := by omega
  have G2 : -E ≤ 0 := by omega
  have hne : IntKind.i64.wrap (-E) = -E := IntWalk.i64_in _ (by omega)
  obtain ⟨b, hbe⟩ : ∃ b, w.heap.size = b := ⟨_, rfl⟩
  rw [hbe] at c0 c1 hlt0 ⊢
  replace hbe := Lib.hid hbe
  have hp1 : Hid (∀ W : World, Calls Tryd.prog 81 #[.int .i64 4, .int .i64 S] W fun e w' => e = .returned (.int .i64 (powC 4 S)) ∧ Below W.heap.size W w') := Lib.hid fun W => power_any 4 S W
  have hp2 : Hid (∀ W : World, Calls Tryd.prog 81 #[.int .i64 key, .int .i64 (-E)] W fun e w' => e = .returned (.int .i64 (powC key (-E))) ∧ Below W.heap.size W w') := Lib.hid fun W => power_any key (-E) W
  have hm1 : Hid (∀ W : World, Calls Tryd.prog 91 #[.int .i64 (powC 4 S), .int .i64 (powC key (-E))] W fun e w' => e = .returned (.tuple #[.int .i64 (ptC key E S), .int .i64 (mulE (powC 4 S) (powC key (-E)))]) ∧ w' = W) := Lib.hid fun W => mul_any _ _ W
  go_region_held3 (fun w' => w'.cell? ⟨b, 0, none⟩ = some (.int .i64 E) ∧ w'.cell? ⟨b, 1, none⟩ = some (.int .i64 S))
    (first
      | go_keep
      | (refine ⟨?_, ?_⟩
         · exact (hb1.cell (p := ⟨b, 0, none⟩) (by simp; omega)).trans c0
         · exact (hb1.cell (p := ⟨b, 1, none⟩) (by simp; omega)).trans c1)
      | (have hs1 := hb1.size
         refine ⟨?_, ?_⟩
         · exact (hb2.cell (p := ⟨b, 0, none⟩) (by simp at hs1 ⊢; omega)).trans ((hb1.cell (p := ⟨b, 0, none⟩) (by simp; omega)).trans c0)
         · exact (hb2.cell (p := ⟨b, 1, none⟩) (by simp at hs1 ⊢; omega)).trans ((hb1.cell (p := ⟨b, 1, none⟩) (by simp; omega)).trans c1)))
    (first
      | (go_at_call 81; (with_reducible refine (hp1.out _).mono ?_); rintro e w1 ⟨rfl, hb1⟩)
      | (go_at_call 81; (with_reducible refine (hp2.out _).mono ?_); rintro e w2 ⟨rfl, hb2⟩)
      | (go_at_call 91; (with_reducible refine (hm1.out _).mono ?_); rintro e w' ⟨rfl, rfl⟩))
  have hs1 := hb1.size
  have hs2 := hb2.size
  have hl1 : W0.heap.size ≤ w1.heap.size := hs1
  have d0 : w'.cell? ⟨b, 0, none⟩ = some (.int .i64 E) := (hb2.cell (p := ⟨b, 0, none⟩) (by simp; omega)).trans ((hb1.cell (p := ⟨b, 0, none⟩) (by simp; omega)).trans c0)
  have hBw : Below w.heap.size w w' := (hB0.drew.trans (hb1.mono hB0.size)).trans (hb2.mono (Nat.le_trans hB0.size hl1))
  have hlw : b < w'.heap.size := by omega
  clear hb1 hb2 hB0 hr0 c0 c1 hp1 hp2 hm1 hs1 hs2 hl1 hlt0
  have hpt := i64_of (mulC_bd (powC 4 S) (powC key (-E)))
  have hptI : I64 (ptC key E S) := hpt
  have hkI : I64 key := ⟨by omega, by omega⟩
  have hll : Hid (∀ (W : World) (k : Nat), k = W.heap.size → Below w.heap.size w W → Calls Tryd.prog 80 #[.slice (some ⟨k, 0, none⟩) 3 3] (W.alloc (.cells #[.iface 3 (.int .i64 (ptC key E S)), .iface 3 (.int .i64 key), .iface 23 (.slice A n c)] 20)) fun e w1 => ∃ A1 m c1, e = .returned (.slice A1 m c1) ∧ Below w.heap.size w w1 ∧ Below W.heap.size W w1 ∧
      Calls Tryd.prog 79 #[.string signB, .slice A1 m c1] w1 fun e w2 => e = .returned (.int .i64 (hN signB [iV (ptC key E S), iV key, tV bs])) ∧ Below w1.heap.size w1 w2) := Lib.hid fun W k hk hB => lh3 signB (by decide) (ptC key E S) key bs A n c hn.out hb hptI hkI w W k hk hB hA.out hL
  have hl9 := Lib.hid (hll.out w'.drew w'.heap.size rfl hBw.drew)
  go_wp2_with fail
  go_region_held3 (fun w9 => w9.cell? ⟨b, 0, none⟩ = some (.int .i64 E))
    (first
      | go_keep
      | exact (hb3.cell (p := ⟨b, 0, none⟩) hlw).trans d0
      | (have hs3 := hb3.size
         exact (hb4.cell (p := ⟨b, 0, none⟩) (Nat.lt_of_lt_of_le hlw hs3)).trans ((hb3.cell (p := ⟨b, 0, none⟩) hlw).trans d0)))
    (first
      | (go_at_call 80; refine (hl9.out).mono ?_; rintro e w3 ⟨A3, m3, c3, rfl, hB3, hb3, hH3⟩)
      | (go_at_call 79; refine hH3.mono ?_; rintro e w4 ⟨rfl, hb4⟩))
  go_wp2_with fail
  go_ret
  exact ⟨rfl, hB3.trans (hb4.mono hB3.size)⟩

theorem verify_any (key : Int) (bs : List UInt8) (E S : Int) (A : Option Addr) (n c : Nat) (w : World) (hn : bs.length = n) (hb : n ≤ 100000) (hA : AtO w A bs) (hL : Laid w) :
    Calls Tryd.prog 61 #[.int .i64 key, .slice A n c, .agg #[.int .i64 E, .int .i64 S]] w fun e w' => e = .returned (.bool (vfB key bs E S)) ∧ Below w.heap.size w w' := by
  by_cases h : 0 ≤ E ∧ E < 1073741789 ∧ 0 ≤ S ∧ S < 1073741789
  · by_cases hv : validB key = true
    · refine (verify_in key bs E S A n c w h hv hn hb hA hL).mono ?_
      rintro e w' ⟨rfl, hB⟩
      refine ⟨?_, hB⟩
      unfold vfB
      rw [decide_eq_true h, hv]
      rfl
    · have hv2 : validB key = false := by simpa using hv
      refine (verify_bad key E S A n c w h hv2).mono ?_
      rintro e w' ⟨rfl, hB⟩
      refine ⟨?_, hB⟩
      unfold vfB
      rw [decide_eq_true h, hv2]
      rfl
  · refine (verify_out key E S A n c w (by omega)).mono ?_
    rintro e w' ⟨rfl, hB⟩
    refine ⟨?_, hB⟩
    unfold vfB
    rw [decide_eq_false h]
    rfl
end Go.Proofs.YthokpfegfnpmhaaDoor
/- What is signed is right: the plain law. -/
namespace Go.Proofs.YthokpfegfnpmhaaDoor
open Go.RowKit Go.Shelf Jac Cdc Sha
set_option linter.unusedVariables false
set_option linter.unusedSimpArgs false

theorem exp_law (k E x : Int) : ((k + E * x) % 1073741789 + x * ((-E) % 1073741789)) % 1073741789 = k % 1073741789 := by
  rw [Int.add_emod, Int.mul_emod, Int.emod_emod, Int.emod_emod, ← Int.mul_emod, ← Int.add_emod]
  have e : k + E * x + x * -E = k := by
    rw [Int.mul_neg, Int.mul_comm x E]
    omega
  rw [e]
theorem pow4_nat {n : Int} (h : 0 ≤ n) : powC 4 n = ((pw 4 n.toNat : Nat) : Int) := by
  have h1 := powC_valid (a := 4) valid_four n
  rw [show ((4 : Nat) : Int) = 4 from rfl] at h1
  rw [h1]
  have e : (n % 1073741789).toNat = n.toNat % Qn := by rw [Qn_eq]; omega
  rw [e, pw_modQ (a := 4) valid_four]
theorem pow4_valid (n : Int) : validB (powC 4 n) = true := by
  have h1 := powC_valid (a := 4) valid_four n
  rw [show ((4 : Nat) : Int) = 4 from rfl] at h1
  rw [h1]
  exact valid_pow (a := 4) valid_four _
theorem pt_right (x k E : Int) (hx : 0 ≤ x) (hk : 0 ≤ k) : ptC (powC 4 x) E ((k + E * x) % 1073741789) = powC 4 k := by
  have hS : 0 ≤ (k + E * x) % 1073741789 := Int.emod_nonneg _ (by decide)
  have hm : 0 ≤ (-E) % 1073741789 := Int.emod_nonneg _ (by decide)
  unfold ptC
  rw [pow4_nat hx, pow4_nat hS, pow4_nat hk]
  have hv := valid_pow (a := 4) valid_four x.toNat
  rw [powC_valid hv, pw_pw]
  rw [mulC_valid (valid_pow (a := 4) valid_four _) (valid_pow (a := 4) valid_four _), ← pw_add]
  have hex := exp_law k E x
  have e : (((k + E * x) % 1073741789).toNat + x.toNat * ((-E) % 1073741789).toNat) % Qn = k.toNat % Qn := by
    rw [Qn_eq]
    have h1 : ((((k + E * x) % 1073741789).toNat + x.toNat * ((-E) % 1073741789).toNat : Nat) : Int) = (k + E * x) % 1073741789 + x * ((-E) % 1073741789) := by
      rw [Int.natCast_add, Int.natCast_mul, Int.toNat_of_nonneg hS, Int.toNat_of_nonneg hx, Int.toNat_of_nonneg hm]
    rw [← h1] at hex
    omega
  rw [← pw_modQ (a := 4) valid_four, e, pw_modQ (a := 4) valid_four]
/-- what is signed is right -/
theorem vf_right (x : Int) (bs : List UInt8) (hx : 1 ≤ x) (hx2 : x < 1073741789) : vfB (powC 4 x) bs (sgE x bs) (sgS x bs) = true := by
  have hk := sgK_bd x bs
  have hE : 0 ≤ sgE x bs ∧ sgE x bs < 1073741789 := hN_bd _ _
  have hS : 0 ≤ sgS x bs ∧ sgS x bs < 1073741789 := by unfold sgS; omega
  have hp : ptC (powC 4 x) (sgE x bs) (sgS x bs) = powC 4 (sgK x bs) := by
    unfold sgS
    exact pt_right x (sgK x bs) (sgE x bs) (by omega) (by omega)
  unfold vfB
  rw [decide_eq_true ⟨hE.1, hE.2, hS.1, hS.2⟩, pow4_valid, hp]
  simp only [Bool.true_and, beq_iff_eq]
  rfl
theorem pow_1024 : powC 4 5 = 1024 := by
  rw [pow4_nat (by decide)]
  rfl
theorem pow_m1 : powC 4 1073741788 = 536870895 := by
  rw [← s_pow3]
  unfold powC
  rfl
end Go.Proofs.YthokpfegfnpmhaaDoor
