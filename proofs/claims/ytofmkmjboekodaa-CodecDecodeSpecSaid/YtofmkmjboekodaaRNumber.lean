/- The walk of the reference's number. -/
import Derived.Test.YtofmkmjboekodaaRReader
namespace Go.Proofs.Ytofmkmjboekodaa
open Go.RowKit Cdc
set_option linter.unusedVariables false
set_option linter.unusedSimpArgs false

def RNumPost (w : World) (B r : Nat) (b : List UInt8) (k : Nat) (e : Ending) (w' : World) : Prop :=
  Rd w w' r ∧ ((∃ u k', pN 0 0 (b.drop k) = some (u, b.drop k') ∧ e = .returned (.int .u64 u) ∧ RAt w' B r b k' false) ∨ (pN 0 0 (b.drop k) = none ∧ ∃ (u : Nat) (k' : Nat), u < 18446744073709551616 ∧ e = .returned (.int .u64 u) ∧ RAt w' B r b k' true))

theorem sum_shift (acc i : Nat) (c : UInt8) (ha : acc < 2 ^ (7 * i)) (hi : i ≤ 9) (h9 : i < 9 ∨ c.toNat ≤ 1) :
    IntKind.u64.wrap ((acc : Int) + IntKind.u64.wrap ((c.toNat : Int) % 128 * 2 ^ (7 * i))) = ((acc + c.toNat % 128 * 2 ^ (7 * i) : Nat) : Int) := by
  obtain ⟨_, hs, _⟩ := or_shift acc i c ha hi h9
  have e1 : (c.toNat : Int) % 128 * 2 ^ (7 * i) = ((c.toNat % 128 * 2 ^ (7 * i) : Nat) : Int) := by push_cast; rfl
  have hw : IntKind.u64.wrap ((c.toNat : Int) % 128 * 2 ^ (7 * i)) = ((c.toNat % 128 * 2 ^ (7 * i) : Nat) : Int) := by
    rw [e1, wrap_u64]; omega
  rw [hw, wrap_u64]
  omega

theorem drop_cons {b : List UInt8} {k : Nat} {x : UInt8} (h : b[k]? = some x) : b.drop k = x :: b.drop (k + 1) := by
  have hk := (List.getElem?_eq_some_iff.1 h).1
  rw [List.drop_eq_getElem_cons hk]
  rw [List.getElem?_eq_getElem hk] at h
  injection h with h
  rw [h]

set_option maxRecDepth 100000 in
set_option maxHeartbeats 2000000 in
theorem rnumber_any2 (B r : Nat) (b : List UInt8) (k : Nat) (w : World) (h : RAt w B r b k false) (hl : b.length ≤ 1000000000000) :
    Calls Try.prog 49 #[.pointer (some ⟨r, 0, none⟩)] w (RNumPost w B r b k) := by
  unfold RNumPost
  go_enter Try.func49, Try.ntmps49
  go_wp2_with fail
  go_loopw [3, 4] (fun s3 s4 wr => ∃ (i acc m : Nat), s3 = .int .u64 acc ∧ s4 = .int .i64 i ∧ i ≤ 9 ∧ acc < 2 ^ (7 * i) ∧ Hid (pN i acc (b.drop m) = pN 0 0 (b.drop k)) ∧ RAt wr B r b m false ∧ Rd w wr r) (fun _ s4 _ => 10 - (intOf s4).toNat)
  case atStart => exact ⟨0, 0, k, rfl, rfl, by omega, by decide, rfl, h, Rd.refl _ _⟩
  case round =>
    obtain ⟨i, acc, m, rfl, rfl, hi, hacc, hp, hrd, hR⟩ := hrel
    obtain ⟨A, c, hh, _⟩ := hrd.cell
    obtain ⟨⟨q0, q1, q2⟩, f1, f2⟩ := cells3 hh
    clear hh
    by_cases hm : m < b.length
    · obtain ⟨x, hx⟩ : ∃ x, b[m]? = some x := ⟨_, List.getElem?_eq_getElem hm⟩
      have hnx := Lib.hid (next_ok B r b m x false wr hrd hx hl)
      rw [drop_cons hx] at hp
      have hxb := x.toNat_lt
      have hnum := fun h9 => sum_shift acc i x hacc hi h9
      by_cases h1 : (i = 0 ∨ x.toNat ≠ 0) ∧ (i < 9 ∨ x.toNat ≤ 1)
      · have hN := Lib.hid (hnum h1.2)
        have hsb := (or_shift acc i x hacc hi h1.2).2
        clear hnum
        have hg : (((i : Int) == 9) = false ∧ ¬ 0 < i) ∨ (((i : Int) == 9) = false ∧ 0 < i ∧ ((x.toNat : Int) == 0) = false) ∨ (((i : Int) == 9) = true ∧ 0 < i ∧ ((x.toNat : Int) == 0) = false ∧ decide ((1 : Int) < (x.toNat : Int)) = false) := by
          by_cases h : i = 9
          · right; right; subst h; refine ⟨by simp, by omega, by simp; omega, by simp only [decide_eq_false_iff_not]; omega⟩
          · by_cases h0 : i = 0
            · left; refine ⟨by simp; omega, by omega⟩
            · right; left; refine ⟨by simp; omega, by omega, by simp; omega⟩
        by_cases h2 : x.toNat < 128
        · have hq := hp.out.symm.trans (pN_ret (acc := acc) (rest := b.drop (m + 1)) h1 h2)
          replace hq := Lib.hid hq
          clear hp h1
          rcases hg with ⟨hg, hgl⟩ | ⟨hg, hgl, hg0⟩ | ⟨hg, hgl, hg0, hg1⟩
          all_goals
            go_wp2_with fail
            refine hnx.out.mono ?_
            rintro e w1 ⟨rfl, hr1, hR1⟩
            go_wp2_with fail
            go_ret
            exact ⟨hR.trans hR1, .inl ⟨_, m + 1, hq.out, by rw [← hN.out]; rfl, hr1⟩⟩
        · have hq := (pN_more (acc := acc) (rest := b.drop (m + 1)) h1 h2).symm.trans hp.out
          replace hq := Lib.hid hq
          have hi9 : i < 9 := by omega
          clear hp h1
          rcases hg with ⟨hg, hgl⟩ | ⟨hg, hgl, hg0⟩ | ⟨hg, hgl, hg0, hg1⟩
          all_goals
            go_wp2_with fail
            refine hnx.out.mono ?_
            rintro e w1 ⟨rfl, hr1, hR1⟩
            go_wp2_with fail
            go_roundw
            case rel => exact ⟨i + 1, _, m + 1, by rw [← hN.out], by go_num, by omega, hsb.2 hi9, hq, hr1, hR.trans hR1⟩
            case measure => simp [intOf]; omega
      · have hq := hp.out.symm.trans (pN_bad (acc := acc) (rest := b.drop (m + 1)) h1)
        have hg : (((i : Int) == 9) = false ∧ 0 < i ∧ ((x.toNat : Int) == 0) = true) ∨ (((i : Int) == 9) = true ∧ decide ((1 : Int) < (x.toNat : Int)) = true) ∨ (((i : Int) == 9) = true ∧ decide ((1 : Int) < (x.toNat : Int)) = false ∧ 0 < i ∧ ((x.toNat : Int) == 0) = true) := by
          by_cases h : i = 9
          · by_cases h3 : 1 < x.toNat
            · right; left; subst h; refine ⟨by simp, by simp only [decide_eq_true_eq]; omega⟩
            · right; right; subst h; refine ⟨by simp, by simp only [decide_eq_false_iff_not]; omega, by omega, by simp; omega⟩
          · left; refine ⟨by simp; omega, by omega, by simp; omega⟩
        clear hp h1 hnum
        rcases hg with ⟨hg, hgl, hg0⟩ | ⟨hg, hg1⟩ | ⟨hg, hg1, hgl, hg0⟩
        all_goals
          go_wp2_with fail
          refine hnx.out.mono ?_
          rintro e w1 ⟨rfl, hr1, hR1⟩
          obtain ⟨A', c', hh', _⟩ := hr1.cell
          obtain ⟨⟨p0, p1, p2⟩, z1, z2⟩ := cells3 hh'
          clear hh'
          go_wp2_with fail
          go_ret
          exact ⟨(hR.trans hR1).trans hr1.setBad.2, .inr ⟨hq, 0, m + 1, by omega, rfl, hr1.setBad.1⟩⟩
    · have hml : m = b.length := by have := hrd.kle; omega
      subst hml
      have hp2 : pN 0 0 (b.drop k) = none := by rw [← hp.out]; simp [pN]
      have hnx := Lib.hid (next_end B r b false wr hrd)
      clear hp
      by_cases h1 : i = 0
      · subst h1
        go_wp2_with fail
        refine hnx.out.mono ?_
        rintro e w1 ⟨rfl, hr1, hR1⟩
        go_wp2_with fail
        go_ret
        exact ⟨hR.trans hR1, .inr ⟨hp2, acc, b.length, by omega, rfl, hr1⟩⟩
      · have hgl : 0 < i := by omega
        have hg : ((i : Int) == 9) = false ∨ ((i : Int) == 9) = true := by cases ((i : Int) == 9) <;> simp
        rcases hg with hg | hg
        all_goals
          go_wp2_with fail
          refine hnx.out.mono ?_
          rintro e w1 ⟨rfl, hr1, hR1⟩
          obtain ⟨A', c', hh', _⟩ := hr1.cell
          obtain ⟨⟨p0, p1, p2⟩, z1, z2⟩ := cells3 hh'
          clear hh'
          go_wp2_with fail
          go_ret
          exact ⟨(hR.trans hR1).trans hr1.setBad.2, .inr ⟨hp2, 0, b.length, by omega, rfl, hr1.setBad.1⟩⟩
end Go.Proofs.Ytofmkmjboekodaa
