/- The walk of the reference's padded. -/
import Derived.Test.YthokpfegfnpmhaaDoorTagH
import Derived.Test.YthokpfegfnpmhaaDoorNumR
namespace Go.Proofs.YthokpfegfnpmhaaDoor
open Go.RowKit Sha Cdc
set_option linter.unusedVariables false
set_option linter.unusedSimpArgs false

theorem Own.empty (w : World) (k : Nat) (hk : k = w.heap.size) : Own (w.alloc (.cells #[] 5)) (.slice (some ⟨k, 0, none⟩) 0 0) [] := by
  subst hk
  exact ⟨rfl, .inr ⟨w.heap.size, 0, #[], rfl, Nat.zero_le _, heap_alloc_new w _, Nat.le_refl _, by simp [maxLen], rfl, rfl⟩⟩
theorem one_atO (w : World) (x : UInt8) (v : Value) (hv : v = by1 x) (k : Nat) (hk : k = w.heap.size) : AtO (w.alloc (.cells #[v] 5)) (some ⟨k, 0, none⟩) [x] := by
  subst hv; subst hk
  intro j y hj
  have hlt := (List.getElem?_eq_some_iff.1 hj).1
  simp at hlt
  subst hlt
  simp at hj
  subst hj
  refine ⟨w.heap.size, 0, rfl, ?_⟩
  simp
/-- how many zeros fill up -/
def zf (n : Nat) : Nat := (119 - n % 64) % 64
theorem zf_lt (n : Nat) : zf n < 64 := Nat.mod_lt _ (by decide)
theorem be8_take (v j : Nat) (h : j < 8) : (be8 v).take (j + 1) = (be8 v).take j ++ [UInt8.ofNat (v / 256 ^ (7 - j))] := by
  rw [List.take_add_one, be8_at v j h]
  rfl
theorem high_grew {B : Nat} {w w' : World} {v v' : Value} (hg : Grew w w' v v') (hl : B ≤ w.heap.size) (hv : ∀ g, v.ownBlock = some g → B ≤ g) : ∀ g, v'.ownBlock = some g → B ≤ g := fun g e => by
  rcases hg.lies with h | ⟨g', h, hg'⟩
  · exact hv g (h ▸ e)
  · rw [h] at e; injection e with e; omega
/-- what a loop of appends keeps: the row, its place, and the old memory -/
def Out (w0 : World) (w : World) (v : Value) (xs : List UInt8) : Prop := Own w v xs ∧ (∀ g, v.ownBlock = some g → w0.heap.size ≤ g) ∧ Below w0.heap.size w0 w
theorem Out.step {w0 w w' : World} {v v' : Value} {xs ys : List UInt8} (h : Out w0 w v xs) (o : Obj) (ho : Own w' v' ys) (hg : Grew (w.alloc o) w' v v') : Out w0 w' v' ys := by
  have hB := h.2.2.alloc h.2.2.size o
  exact ⟨ho, high_grew hg hB.size h.2.1, hB.grown hg.grown hB.size h.2.1⟩
theorem Out.step0 {w0 w w' : World} {v v' : Value} {xs ys : List UInt8} (h : Out w0 w v xs) (ho : Own w' v' ys) (hg : Grew w w' v v') : Out w0 w' v' ys :=
  ⟨ho, high_grew hg h.2.2.size h.2.1, h.2.2.grown hg.grown h.2.2.size h.2.1⟩
theorem Out.zero (w : World) (k : Nat) (hk : k = w.heap.size) : Out w (w.alloc (.cells #[] 5)) (.slice (some ⟨k, 0, none⟩) 0 0) [] :=
  ⟨Own.empty w k hk, fun g e => by injection e with e; have : k = g := e; omega, (Below.refl _ _).alloc (Nat.le_refl _) _⟩
theorem Out.form {w0 w : World} {v : Value} {xs : List UInt8} (h : Out w0 w v xs) : ∃ A c, v = .slice A xs.length c := h.1.form

set_option maxRecDepth 100000 in
set_option maxHeartbeats 2000000 in
theorem rpadded_any (bs : List UInt8) (n : Nat) (hn : bs.length = n) (hb : n ≤ 100000000000) (A : Option Addr) (c : Nat) (w : World) (h : AtO w A bs) :
    Calls Tryd.prog 119 #[.slice A n c] w (Fresh (pad bs) w) := by
  have hpad : Hid (pad bs = bs ++ 0x80 :: (List.replicate (zf n) 0 ++ be8 (8 * n))) := Lib.hid (by rw [pad, hn]; rfl)
  have hz := zf_lt n
  have hzz : (n + 1 + zf n) % 64 = 56 := by unfold zf; omega
  have hzn : ∀ k, k < zf n → ¬ (n + 1 + k) % 64 = 56 := by intro k hk; unfold zf at hk; omega
  replace hzn := Lib.hid hzn
  replace hzz := Lib.hid hzz
  replace hn := Lib.hid hn
  generalize zf n = Z at *
  unfold Fresh
  have h2 : Hid (∀ o, AtO (w.alloc o) A bs) := Lib.hid fun o => h.below ((Below.refl _ _).alloc (Nat.le_refl _) o)
  clear h
  go_enter Tryd.func119, Tryd.ntmps119
  go_wp2_with (first
    | (at_builtin; refine wpList_appO _ (by rfl) (.tmp 6) (.tmp 7) (by rfl) _ [] A n c bs (by rfl) (by rfl) (Own.empty w _ rfl) hn.out (h2.out _) (by simp; omega) ?_; intro v2 w2 ho2 hg2)
    | (at_builtin; refine wpList_appO _ (by rfl) (.tmp 8) (.tmp 9) (by rfl) _ ([] ++ bs) (some ⟨_, 0, none⟩) 1 1 [0x80] (by rfl) (by rfl) (ho2.alloc _) (by rfl) (one_atO _ _ _ (by rfl) _ (by rfl)) (by simp [hn.out]; omega) ?_; intro v3 w3 ho3 hg3))
  have hO : Out w w3 v3 (bs ++ 0x80 :: List.replicate 0 0) := ((Out.zero w _ rfl).step0 ho2 hg2).step _ ho3 hg3
  clear ho2 hg2 ho3 hg3 h2
  go_loopw [3] (fun s3 wr => ∃ k : Nat, k ≤ Z ∧ Out w wr s3 (bs ++ 0x80 :: List.replicate k 0)) (fun s3 _ => n + 1 + Z - lenV s3)
  case atStart => exact ⟨0, by omega, hO⟩
  case round =>
    clear hO
    obtain ⟨k, hk, hO⟩ := hrel
    obtain ⟨A1, c1, rfl⟩ := hO.form
    have hlen : (bs ++ 0x80 :: List.replicate k 0).length = n + 1 + k := by simp [hn.out]; omega
    rw [hlen] at hO ⊢
    by_cases hkz : k < Z
    · have hne := hzn.out k hkz
      have hml : ((n + 1 + k : Nat) : Int) % 64 = ((n + 1 + k) % 64 : Nat) := by omega
      have hm : ((((n + 1 + k : Nat) : Int) % 64) != 56) = true := by
        rw [hml]; simp; omega
      have hown := Lib.hid hO.1
      clear hml hne
      replace hlen := Lib.hid hlen
      replace hO := Lib.hid hO
      go_wp2_with (at_builtin; refine wpList_appO _ (by rfl) (.tmp 15) (.tmp 16) (by rfl) _ (bs ++ 0x80 :: List.replicate k 0) (some ⟨_, 0, none⟩) 1 1 [0] (by rfl) (by rfl) (hown.out.alloc _) (by rfl) (one_atO _ _ _ (by rfl) _ (by rfl)) (by rw [hlen.out]; omega) ?_; intro v4 w4 ho4 hg4; replace ho4 := Lib.hid ho4)
      have hO4 : Out w w4 v4 (bs ++ 0x80 :: List.replicate (k + 1) 0) := by
        have := hO.out.step _ ho4.out hg4
        rw [List.append_assoc, List.cons_append, ← List.replicate_succ'] at this
        exact this
      clear hg4 ho4 hO hown
      replace hO4 := Lib.hid hO4
      go_roundw
      case rel => exact ⟨k + 1, by omega, hO4.out⟩
      case measure =>
        obtain ⟨A5, c5, h5⟩ := hO4.out.form
        subst h5
        simp [lenV, hn.out]
        omega
    · have hkz2 : k = Z := by omega
      rw [hkz2] at hO hlen ⊢
      clear hkz2 hkz hk
      have hm : ((((n + 1 + Z : Nat) : Int) % 64) != 56) = false := by
        have e : ((n + 1 + Z : Nat) : Int) % 64 = 56 := by have := hzz.out; omega
        rw [e]; rfl
      replace hlen := Lib.hid hlen
      replace hO := Lib.hid hO
      have hw8 : IntKind.u64.wrap ((n : Int) * 8) = ((8 * n : Nat) : Int) := by simp [IntKind.wrap, IntKind.bits, IntKind.signed]; omega
      have hwn : IntKind.u64.wrap (n : Int) = (n : Int) := by simp [IntKind.wrap, IntKind.bits, IntKind.signed]; omega
      have hV : 8 * n < 18446744073709551616 := by omega
      have hbe : Hid (∀ j, j < 8 → (be8 (8 * n)).take (j + 1) = (be8 (8 * n)).take j ++ [UInt8.ofNat (8 * n / 256 ^ (7 - j))]) := Lib.hid fun j hj => be8_take (8 * n) j hj
      have hall : Hid ((be8 (8 * n)).take 8 = be8 (8 * n)) := Lib.hid (List.take_of_length_le (by rw [be8_len]; omega))
      have htl : Hid (∀ j, j ≤ 8 → ((be8 (8 * n)).take j).length = j) := Lib.hid fun j hj => by rw [List.length_take, be8_len]; omega
      generalize hVe : 8 * n = V at *
      replace hVe := Lib.hid hVe
      go_wp2_with fail
      have hm2 : ((((n : Int) + 1 + (Z : Int)) % 64) != 56) = false := by
        have e : ((n : Int) + 1 + (Z : Int)) % 64 = 56 := by have := hzz.out; omega
        rw [e]; rfl
      rw [hm2]
      clear hm hm2 hw8 hwn
      go_loopw [3, 5] (fun s3 s5 w5 => ∃ (j : Nat) (q : Int), j ≤ 8 ∧ Hid (q = 7 - (j : Int)) ∧ s5 = .int .i64 q ∧ Out w w5 s3 ((bs ++ 0x80 :: List.replicate Z 0) ++ (be8 V).take j)) (fun s3 s5 _ => (1 + intOf s5).toNat)
      case atStart => exact ⟨0, 7, by omega, Lib.hid (by omega), rfl, by simpa using hO.out⟩
      case round =>
        clear hO
        obtain ⟨j, q, hj, hq, rfl, hO⟩ := hrel
        obtain ⟨A5, c5, rfl⟩ := hO.form
        have hlen5 : ((bs ++ 0x80 :: List.replicate Z 0) ++ (be8 V).take j).length = n + 1 + Z + j := by rw [List.length_append, hlen.out, htl.out j hj]
        by_cases hj8 : j < 8
        · have hval := putI_val V (7 - j)
          have hown := Lib.hid hO.1
          have hsn := Lib.hid (hbe.out j hj8)
          generalize hy : UInt8.ofNat (V / 256 ^ (7 - j)) = y at *
          obtain rfl : q = ((7 - j : Nat) : Int) := by have := hq.out; omega
          have hd : (7 - j) + 1 = 8 - j := by omega
          generalize h7 : 7 - j = i at *
          have hi7 : i < 8 := by omega
          have T3 : (8 * (i : Int)).toNat = 8 * i := by omega
          have G2 : (0 : Int) ≤ 8 * (i : Int) := by omega
          have G3 : 8 * (i : Int) < 64 := by omega
          have G4 : 8 * i < 64 := by omega
          have W3 : IntKind.i64.wrap (8 * (i : Int)) = 8 * (i : Int) := IntWalk.i64_in _ (by omega)
          have G5 : (0 : Int) ≤ (i : Int) := by omega
          replace hlen5 := Lib.hid hlen5
          replace hO := Lib.hid hO
          replace h7 := Lib.hid h7
          replace hd := Lib.hid hd
          clear hy
          go_wp2_with (at_builtin; refine wpList_appO _ (by rfl) (.tmp 26) (.tmp 32) (by rfl) _ ((bs ++ 0x80 :: List.replicate Z 0) ++ (be8 V).take j) (some ⟨_, 0, none⟩) 1 1 [y] (by rfl) (by rfl) (hown.out.alloc _) (by rfl) (one_atO _ _ _ (by rfl) _ (by rfl)) (by rw [hlen5.out]; omega) ?_; intro v6 w6 ho6 hg6; replace ho6 := Lib.hid ho6)
          have hO6 : Out w w6 v6 ((bs ++ 0x80 :: List.replicate Z 0) ++ (be8 V).take (j + 1)) := by
            have := hO.out.step _ ho6.out hg6
            rw [List.append_assoc, ← hsn.out] at this
            exact this
          clear hg6 ho6 hO hown
          replace hO6 := Lib.hid hO6
          go_roundw
          case rel => exact ⟨j + 1, (i : Int) - 1, by omega, Lib.hid (by have := h7.out; omega), rfl, hO6.out⟩
          case measure => simp [intOf]; omega
        · have hje : j = 8 := by omega
          obtain rfl : q = -1 := by have := hq.out; omega
          rw [hje] at hO ⊢
          clear hje hj8 hj hq
          replace hO := Lib.hid hO
          go_wp2_with fail
          go_ret
          have h9 := hO.out
          refine ⟨_, rfl, ?_, h9.2.1, h9.2.2⟩
          have el : bs ++ 0x80 :: (List.replicate Z 0 ++ be8 V) = (bs ++ 0x80 :: List.replicate Z 0) ++ (be8 V).take 8 := by rw [hall.out]; simp
          rw [hpad.out, el]
          exact h9.1
end Go.Proofs.YthokpfegfnpmhaaDoor
