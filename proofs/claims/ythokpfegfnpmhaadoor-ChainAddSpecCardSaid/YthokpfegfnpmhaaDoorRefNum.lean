/- The walks of the reference's numeral, unsigned. -/
import Derived.Test.YthokpfegfnpmhaaDoorNumeral
namespace Go.Proofs.YthokpfegfnpmhaaDoor
open Go.RowKit Cdc
set_option linter.unusedVariables false
set_option linter.unusedSimpArgs false

theorem Own.below {w w' : World} {v : Value} {xs : List UInt8} (h : Own w v xs) (hb : Below w.heap.size w w') : Own w' v xs :=
  World.ownsRow.kept (row := none) h ⟨hb.os, hb.tape, hb.output, hb.size, fun k hk _ => hb.block k hk⟩ (by cases v.ownBlock <;> simp)

theorem Own.addr {w : World} {v : Value} {xs : List UInt8} (h : Own w v xs) (hx : xs ≠ []) :
    ∃ g c, v = .slice (some ⟨g, 0, none⟩) xs.length c ∧ g < w.heap.size ∧ ∀ j u, (xs.map bv)[j]? = some u → w.cell? ((⟨g, 0, none⟩ : Addr).add j) = some u := by
  rcases h.2 with ⟨_, h0⟩ | ⟨g, cap, cur, rfl, _, hh, _⟩
  · exact absurd (List.length_eq_zero_iff.1 h0) hx
  · exact ⟨g, cap, rfl, (Array.getElem?_eq_some_iff.1 hh).1, World.ownsRow.cells h (g := g) rfl⟩

/-- a fresh row of one byte -/
theorem Own.one (w : World) (b : UInt8) (x : Value) (hx : x = bv b) : Own (w.alloc (.cells #[x] 5)) (.slice (some ⟨w.heap.size, 0, none⟩) 1 1) [b] := by
  subst hx
  exact World.ownsRow_lit (e := 5) (size := 1) (base := 0) w #[bv b] 1 (Nat.zero_le _) (by simp [maxLen]) rfl

theorem Own.one2 (w : World) (b : UInt8) (x : Value) (hx : x = bv b) (k : Nat) (hk : k = w.heap.size) : Own (w.alloc (.cells #[x] 5)) (.slice (some ⟨k, 0, none⟩) 1 1) [b] := by
  subst hk; exact Own.one w b x hx

/-- a fresh row of bytes -/
def Fresh (xs : List UInt8) (w : World) (e : Ending) (w' : World) : Prop := ∃ v', e = .returned v' ∧ Own w' v' xs ∧ (∀ g, v'.ownBlock = some g → w.heap.size ≤ g) ∧ Below w.heap.size w w'

theorem Grew.high {B : Nat} {w w' : World} {v v' : Value} (hg : Grew w w' v v') (hl : B ≤ w.heap.size) (hv : ∀ g, v.ownBlock = some g → B ≤ g) : ∀ g, v'.ownBlock = some g → B ≤ g := by
  intro g h
  rcases hg.lies with e | ⟨g', e, hg'⟩
  · exact hv g (by rw [← e]; exact h)
  · rw [e] at h; injection h with h; omega

theorem num_ne (u : Nat) : num u ≠ [] := fun e => by have := num_pos u; rw [e] at this; simp at this

set_option maxRecDepth 100000 in
set_option maxHeartbeats 1000000 in
theorem rnumeral_any (u : Nat) : ∀ (w : World), u < 18446744073709551616 → Calls Tryd.prog 114 #[.int .u64 u] w (Fresh (num u) w) := by
  induction u using Nat.strongRecOn with
  | _ u ih =>
    intro w hu
    unfold Fresh
    by_cases c : u < 128
    · have hb : bv (UInt8.ofNat u) = .int .u8 u := by unfold bv; rw [toNat_ofNat (by omega)]
      rw [num_lt c]
      clear ih
      go_enter Tryd.func114, Tryd.ntmps114
      go_wp2
      go_ret
      refine ⟨_, rfl, Own.one w _ _ hb.symm, fun g hg => ?_, (Below.refl _ _).alloc (Nat.le_refl _) _⟩
      injection hg with hg
      exact Nat.le_of_eq hg
    · have hq := fun W => ih (u / 128) (by omega) W (by omega)
      have hq2 := Lib.hid hq
      have hb : bv (UInt8.ofNat (u % 128 + 128)) = .int .u8 ((u : Int) % 128 + 128) := by unfold bv; rw [toNat_ofNat (by omega)]; rfl
      have hlen := num_len (u / 128) (by have e : (2 : Nat) ^ 64 = 18446744073709551616 := by decide
                                         omega)
      rw [num_ge c]
      clear ih hq
      go_enter Tryd.func114, Tryd.ntmps114
      go_wp2_with (first
        | (go_at_call 114; refine (hq2.out _).mono ?_; rintro e w1 ⟨v1, rfl, hown, hh, hbl⟩; obtain ⟨g, cc, rfl, hg, hcell⟩ := hown.addr (num_ne _))
        | (at_builtin; refine wpList_app _ rfl (.tmp 12) (.tmp 15) rfl _ [UInt8.ofNat (u % 128 + 128)] ⟨g, 0, none⟩ _ cc (num (u / 128)) rfl rfl ((Own.one w _ _ hb.symm).below hbl) rfl hcell (by simp; omega) ?_; intro v2 w2 hown2 hg2))
      go_ret
      refine ⟨v2, rfl, hown2, hg2.high (B := w.heap.size) (by have := hbl.size; simp at this; omega) (fun g hg => by injection hg with hg; exact Nat.le_of_eq hg), ?_⟩
      exact (((Below.refl _ _).alloc (Nat.le_refl _) _).trans (hbl.mono (by simp))).grown hg2.grown (by have := hbl.size; simp at this; omega) (fun g hg => by injection hg with hg; exact Nat.le_of_eq hg)

set_option maxRecDepth 100000 in
theorem runsigned_any (n : Int) (hn : -9223372036854775808 ≤ n ∧ n ≤ 9223372036854775807) (w : World) :
    Calls Tryd.prog 115 #[.int .i64 n] w fun e w' => e = .returned (.int .u64 (uz n)) ∧ w' = w := by
  by_cases h : 0 ≤ n
  · go_enter Tryd.func115, Tryd.ntmps115
    go_wp2
    go_ret
    refine ⟨?_, rfl⟩
    have e : 2 * n = (uz n : Int) := by unfold uz; rw [if_pos h]; omega
    rw [← e]
    rfl
  · go_enter Tryd.func115, Tryd.ntmps115
    go_wp2
    go_ret
    refine ⟨?_, rfl⟩
    have e : 2 * -(n + 1) + 1 = (uz n : Int) := by unfold uz; rw [if_neg (by omega)]; omega
    rw [← e]
    rfl
end Go.Proofs.YthokpfegfnpmhaaDoor
