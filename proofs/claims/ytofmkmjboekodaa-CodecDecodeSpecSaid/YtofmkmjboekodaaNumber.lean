/- The walk of codec.reader's number and length. -/
import Derived.Test.YtofmkmjboekodaaReader
namespace Go.Proofs.Ytofmkmjboekodaa
open Go.RowKit Cdc
set_option linter.unusedVariables false
set_option linter.unusedSimpArgs false

def NumPost (w : World) (B r : Nat) (xs : List UInt8) (e : Ending) (w' : World) : Prop :=
  Rd w w' r ∧ ((∃ u rest, pN 0 0 xs = some (u, rest) ∧ e = .returned (.int .u64 u) ∧ RdAt w' B r rest) ∨ (pN 0 0 xs = none ∧ e = errP))

theorem mask7 (c : UInt8) : bits BinOp.and IntKind.u8 (c.toNat : Int) 127 = ((c.toNat % 128 : Nat) : Int) := by
  have := u8_and_nat c.toNat 127 c.toNat_lt (by omega)
  rw [nat_mask7] at this
  exact this

theorem take_one (B r : Nat) (c : UInt8) (rest : List UInt8) (w : World) (h : RdAt w B r (c :: rest)) (hl : (c :: rest).length ≤ 1000000000000) :
    Calls Try.prog 44 #[.pointer (some ⟨r, 0, none⟩), .int .i64 1] w fun e w' => ∃ ad, e = .returned (.slice (some ad) 1 1) ∧ w'.cell? ad = some (.int .u8 c.toNat) ∧ RdAt w' B r rest ∧ Rd w w' r := by
  refine (take_ok B r 1 (c :: rest) w h (by simp) hl).mono ?_
  rintro e w' ⟨A, rfl, hrb, hrd', hR'⟩
  obtain ⟨ad, rfl, _, _, hcell⟩ := hrb 0 c (by simp)
  exact ⟨ad, rfl, by simpa [Addr.add] using hcell, hrd', hR'⟩

theorem or_shift (acc i : Nat) (c : UInt8) (ha : acc < 2 ^ (7 * i)) (hi : i ≤ 9) (h9 : i < 9 ∨ c.toNat ≤ 1) :
    bits BinOp.or IntKind.u64 (acc : Int) (IntKind.u64.wrap ((c.toNat : Int) % 128 * 2 ^ (7 * i))) = ((acc + c.toNat % 128 * 2 ^ (7 * i) : Nat) : Int) ∧ acc + c.toNat % 128 * 2 ^ (7 * i) < 18446744073709551616 ∧
      (i < 9 → acc + c.toNat % 128 * 2 ^ (7 * i) < 2 ^ (7 * (i + 1))) := by
  have hp : (2 : Nat) ^ (7 * i) ≤ 2 ^ 63 := Nat.pow_le_pow_right (by decide) (by omega)
  have e63 : (2 : Nat) ^ 63 = 9223372036854775808 := by decide
  have e56 : (2 : Nat) ^ 56 = 72057594037927936 := by decide
  have hs : acc + c.toNat % 128 * 2 ^ (7 * i) < 18446744073709551616 := by
    rcases h9 with h | h
    · have hp2 : (2 : Nat) ^ (7 * i) ≤ 2 ^ 56 := Nat.pow_le_pow_right (by decide) (by omega)
      have : c.toNat % 128 * 2 ^ (7 * i) ≤ 127 * 2 ^ 56 := Nat.mul_le_mul (by omega) hp2
      omega
    · have : c.toNat % 128 * 2 ^ (7 * i) ≤ 1 * 2 ^ 63 := Nat.mul_le_mul (by omega) hp
      omega
  refine ⟨?_, hs, fun hi9 => ?_⟩
  · have e1 : (c.toNat : Int) % 128 * 2 ^ (7 * i) = ((c.toNat % 128 * 2 ^ (7 * i) : Nat) : Int) := by push_cast; rfl
    have hw : IntKind.u64.wrap ((c.toNat : Int) % 128 * 2 ^ (7 * i)) = ((c.toNat % 128 * 2 ^ (7 * i) : Nat) : Int) := by
      rw [e1, wrap_u64]; omega
    rw [hw, u64_or_nat _ _ (by omega) (by omega), Nat.or_comm, nat_join (7 * i) _ _ (Nat.mul_mod_left _ _) ha, Nat.add_comm]
  · rw [pow7]
    have : (c.toNat % 128 + 1) * 2 ^ (7 * i) ≤ 128 * 2 ^ (7 * i) := Nat.mul_le_mul_right _ (by omega)
    rw [Nat.add_mul, Nat.one_mul] at this
    omega

theorem pN_ret {i acc : Nat} {c : UInt8} {rest : List UInt8} (h1 : (i = 0 ∨ c.toNat ≠ 0) ∧ (i < 9 ∨ c.toNat ≤ 1)) (h2 : c.toNat < 128) : pN i acc (c :: rest) = some (acc + c.toNat % 128 * 2 ^ (7 * i), rest) := by
  rw [pN, if_pos h1, if_pos h2]
theorem pN_more {i acc : Nat} {c : UInt8} {rest : List UInt8} (h1 : (i = 0 ∨ c.toNat ≠ 0) ∧ (i < 9 ∨ c.toNat ≤ 1)) (h2 : ¬ c.toNat < 128) : pN i acc (c :: rest) = pN (i + 1) (acc + c.toNat % 128 * 2 ^ (7 * i)) rest := by
  rw [pN, if_pos h1, if_neg h2]
theorem pN_bad {i acc : Nat} {c : UInt8} {rest : List UInt8} (h1 : ¬ ((i = 0 ∨ c.toNat ≠ 0) ∧ (i < 9 ∨ c.toNat ≤ 1))) : pN i acc (c :: rest) = none := by
  rw [pN, if_neg h1]

set_option maxRecDepth 100000 in
set_option maxHeartbeats 1000000 in
theorem number_any (B r : Nat) (xs : List UInt8) (w : World) (h : RdAt w B r xs) (hl : xs.length ≤ 1000000000000) :
    Calls Try.prog 46 #[.pointer (some ⟨r, 0, none⟩)] w (NumPost w B r xs) := by
  unfold NumPost
  go_enter Try.func46, Try.ntmps46
  go_wp2
  go_loopw [2, 3] (fun s2 s3 wr => ∃ (i acc : Nat) (ys : List UInt8), s2 = .int .u64 acc ∧ s3 = .int .i64 i ∧ i ≤ 9 ∧ acc < 2 ^ (7 * i) ∧ Hid (pN i acc ys = pN 0 0 xs) ∧ RdAt wr B r ys ∧ Rd w wr r ∧ ys.length ≤ xs.length) (fun _ s3 _ => 10 - (intOf s3).toNat)
  case atStart => exact ⟨0, 0, xs, rfl, rfl, by omega, by decide, rfl, h, Rd.refl _ _, Nat.le_refl _⟩
  case round =>
    obtain ⟨i, acc, ys, rfl, rfl, hi, hacc, hp, hrd, hR, hle⟩ := hrel
    cases ys with
    | nil =>
      have hp2 : pN 0 0 xs = none := hp.out.symm
      clear hp
      go_wp2_with (go_at_call 44; refine (take_bad B r 1 [] _ hrd (by simp) (by simp)).mono ?_; rintro e w' ⟨rfl, rfl⟩)
      exact ⟨rfl, hR, .inr ⟨hp2, rfl⟩⟩
    | cons c rest =>
      have hm := mask7 c
      simp only [List.length_cons] at hle
      have htk := Lib.hid (take_one B r c rest wr hrd (by simp; omega))
      by_cases h1 : i = 0
      · have hi0 : ((i : Int) == 0) = true := by simp; omega
        obtain ⟨ho, hs, hb⟩ := or_shift acc i c hacc hi (by omega)
        have ho2 : bits BinOp.or IntKind.u64 (acc : Int) ((c.toNat : Int) % 128) = ((acc + c.toNat % 128 * 2 ^ (7 * i) : Nat) : Int) := by
          rw [← ho, h1]
          congr 1
          rw [wrap_u64]
          simp
          omega
        have hO := Lib.hid ho2
        clear ho ho2
        by_cases h2 : c.toNat < 128
        · have hq := hp.out.symm.trans (pN_ret (acc := acc) (rest := rest) (by omega) h2)
          clear hp
          go_wp2_with (first
              | (go_at_call 33; refine (want_true r _).mono ?_; rintro e w' ⟨rfl, rfl⟩)
              | (go_at_call 44; refine htk.out.mono ?_; rintro e w' ⟨ad, rfl, hcell, hrd', hR'⟩))
          go_ret
          exact ⟨hR.trans hR', .inl ⟨_, rest, hq, by rw [← hO.out]; rfl, hrd'⟩⟩
        · have hq := (pN_more (acc := acc) (rest := rest) (by omega) h2).symm.trans hp.out
          have hq2 := Lib.hid hq
          clear hp hq
          go_wp2_with (first
              | (go_at_call 33; refine (want_true r _).mono ?_; rintro e w' ⟨rfl, rfl⟩)
              | (go_at_call 44; refine htk.out.mono ?_; rintro e w' ⟨ad, rfl, hcell, hrd', hR'⟩))
          refine ⟨⟨i + 1, _, rest, by rw [← hO.out], by go_num, by omega, hb (by omega), hq2, hrd', hR.trans hR', by omega⟩, by simp [intOf]; omega⟩
      · have hi0 : ((i : Int) == 0) = false := by simp; omega
        by_cases h3 : c.toNat = 0
        · have hc0 : ((c.toNat : Int) != 0) = false := by simp; omega
          have hq := hp.out.symm.trans (pN_bad (acc := acc) (rest := rest) (by omega))
          clear hp
          go_wp2_with (first
              | (go_at_call 33; refine (want_false r _).mono ?_; rintro e w' ⟨rfl, rfl⟩)
              | (go_at_call 44; refine htk.out.mono ?_; rintro e w' ⟨ad, rfl, hcell, hrd', hR'⟩))
          exact ⟨rfl, hR.trans hR', .inr ⟨hq, rfl⟩⟩
        · have hc0 : ((c.toNat : Int) != 0) = true := by simp; omega
          by_cases h4 : i < 9
          · have hi9 : decide ((i : Int) < 9) = true := by simp; omega
            obtain ⟨ho, hs, hb⟩ := or_shift acc i c hacc hi (by omega)
            have hO := Lib.hid ho
            clear ho
            by_cases h2 : c.toNat < 128
            · have hq := hp.out.symm.trans (pN_ret (acc := acc) (rest := rest) (by omega) h2)
              clear hp
              go_wp2_with (first
                  | (go_at_call 33; refine (want_true r _).mono ?_; rintro e w' ⟨rfl, rfl⟩)
                  | (go_at_call 44; refine htk.out.mono ?_; rintro e w' ⟨ad, rfl, hcell, hrd', hR'⟩))
              go_ret
              exact ⟨hR.trans hR', .inl ⟨_, rest, hq, by rw [← hO.out]; rfl, hrd'⟩⟩
            · have hq := (pN_more (acc := acc) (rest := rest) (by omega) h2).symm.trans hp.out
              have hq2 := Lib.hid hq
              clear hp hq
              go_wp2_with (first
                  | (go_at_call 33; refine (want_true r _).mono ?_; rintro e w' ⟨rfl, rfl⟩)
                  | (go_at_call 44; refine htk.out.mono ?_; rintro e w' ⟨ad, rfl, hcell, hrd', hR'⟩))
              refine ⟨⟨i + 1, _, rest, by rw [← hO.out], by go_num, by omega, hb (by omega), hq2, hrd', hR.trans hR', by omega⟩, by simp [intOf]; omega⟩
          · have hi9 : decide ((i : Int) < 9) = false := by simp; omega
            by_cases h5 : c.toNat ≤ 1
            · have hc1 : decide ((c.toNat : Int) ≤ 1) = true := by simp; omega
              obtain ⟨ho, hs, hb⟩ := or_shift acc i c hacc hi (by omega)
              have hO := Lib.hid ho
              clear ho
              by_cases h2 : c.toNat < 128
              · have hq := hp.out.symm.trans (pN_ret (acc := acc) (rest := rest) (by omega) h2)
                clear hp
                go_wp2_with (first
                    | (go_at_call 33; refine (want_true r _).mono ?_; rintro e w' ⟨rfl, rfl⟩)
                    | (go_at_call 44; refine htk.out.mono ?_; rintro e w' ⟨ad, rfl, hcell, hrd', hR'⟩))
                go_ret
                exact ⟨hR.trans hR', .inl ⟨_, rest, hq, by rw [← hO.out]; rfl, hrd'⟩⟩
              · omega
            · have hc1 : decide ((c.toNat : Int) ≤ 1) = false := by simp; omega
              have hq := hp.out.symm.trans (pN_bad (acc := acc) (rest := rest) (by omega))
              clear hp
              go_wp2_with (first
                  | (go_at_call 33; refine (want_false r _).mono ?_; rintro e w' ⟨rfl, rfl⟩)
                  | (go_at_call 44; refine htk.out.mono ?_; rintro e w' ⟨ad, rfl, hcell, hrd', hR'⟩))
              exact ⟨rfl, hR.trans hR', .inr ⟨hq, rfl⟩⟩

def LenPost (w : World) (B r : Nat) (xs : List UInt8) (e : Ending) (w' : World) : Prop :=
  Rd w w' r ∧ ((∃ u rest, pN 0 0 xs = some (u, rest) ∧ u ≤ rest.length ∧ e = .returned (.int .i64 u) ∧ RdAt w' B r rest) ∨ ((∀ u rest, pN 0 0 xs = some (u, rest) → ¬ u ≤ rest.length) ∧ e = errP))

theorem pN_len {xs : List UInt8} {u : Nat} {rest : List UInt8} (h : pN 0 0 xs = some (u, rest)) : rest.length ≤ xs.length ∧ u < 18446744073709551616 := by
  obtain ⟨h1, h2⟩ := pN0_some h
  rw [h1]
  exact ⟨by simp, by simpa using h2⟩

set_option maxRecDepth 100000 in
set_option maxHeartbeats 1000000 in
theorem length_any (B r : Nat) (xs : List UInt8) (w : World) (h : RdAt w B r xs) (hl : xs.length ≤ 1000000000000) :
    Calls Try.prog 47 #[.pointer (some ⟨r, 0, none⟩)] w (LenPost w B r xs) := by
  have hn := number_any B r xs w h hl
  unfold NumPost at hn
  unfold LenPost
  cases hp : pN 0 0 xs with
  | none =>
    have hn2 : Hid (Calls Try.prog 46 #[.pointer (some ⟨r, 0, none⟩)] w fun e w' => e = errP ∧ Rd w w' r) := by
      refine hn.mono ?_
      rintro e w' ⟨h1, ⟨u, rest, h2, _⟩ | ⟨_, h2⟩⟩
      · rw [hp] at h2; cases h2
      · exact ⟨h2, h1⟩
    clear hn
    go_enter Try.func47, Try.ntmps47
    go_wp2_with (go_at_call 46; refine hn2.out.mono ?_; rintro e w' ⟨rfl, hR⟩)
    exact ⟨rfl, hR, .inr ⟨fun u rest h => by (cases h), rfl⟩⟩
  | some x =>
    obtain ⟨u, rest⟩ := x
    obtain ⟨hl2, hu⟩ := pN_len hp
    have hn2 : Hid (Calls Try.prog 46 #[.pointer (some ⟨r, 0, none⟩)] w fun e w' => e = .returned (.int .u64 u) ∧ Rd w w' r ∧ ∃ A c, w'.cell? ⟨r, 0, none⟩ = some (.slice A rest.length c) ∧ RdAt w' B r rest) := by
      refine hn.mono ?_
      rintro e w' ⟨h1, ⟨u2, rest2, h2, h3, h4⟩ | ⟨h2, _⟩⟩
      · rw [hp] at h2
        injection h2 with h2
        injection h2 with h5 h6
        subst h5 h6
        obtain ⟨A, c, hh, _⟩ := h4.cell
        exact ⟨h3, h1, A, c, by simp [World.cell?, hh], h4⟩
      · rw [hp] at h2; cases h2
    clear hn
    have hwr : IntKind.u64.wrap (rest.length : Int) = rest.length := by rw [wrap_u64]; omega
    by_cases hle : u ≤ rest.length
    · have hd : decide ((u : Int) ≤ (rest.length : Int)) = true := by simp; omega
      go_enter Try.func47, Try.ntmps47
      go_wp2_with (first
        | (go_at_call 33; refine (want_true r _).mono ?_; rintro e w' ⟨rfl, rfl⟩)
        | (go_at_call 46; refine hn2.out.mono ?_; rintro e w' ⟨rfl, hR, A, c, hcell, hrd⟩))
      go_ret
      exact ⟨hR, .inl ⟨u, rest, rfl, hle, rfl, hrd⟩⟩
    · have hd : decide ((u : Int) ≤ (rest.length : Int)) = false := by simp; omega
      go_enter Try.func47, Try.ntmps47
      go_wp2_with (first
        | (go_at_call 33; refine (want_false r _).mono ?_; rintro e w' ⟨rfl, rfl⟩)
        | (go_at_call 46; refine hn2.out.mono ?_; rintro e w' ⟨rfl, hR, A, c, hcell, hrd⟩))
      exact ⟨rfl, hR, .inr ⟨fun u2 rest2 h => by injection h with h; injection h with h5 h6; subst h5 h6; exact hle, rfl⟩⟩
end Go.Proofs.Ytofmkmjboekodaa
