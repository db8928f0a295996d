/- The walk of the statement GroupHash. -/
import Derived.Test.YtallnbbdacngnaaDoorLaw10A
import Derived.Test.YtallnbbdacngnaaDoorHash
namespace Go.Proofs.YtallnbbdacngnaaDoor
open Go.RowKit Go.Shelf Jac Sha
set_option linter.unusedVariables false
set_option linter.unusedSimpArgs false

/-- the byte that the statement takes at place i -/
def gby (l : List UInt8) (i : Nat) (x : UInt8) : Nat := if i = 0 then x.toNat % 128 else x.toNat
theorem top_at (l : List UInt8) (i : Nat) (x : UInt8) (h : l[i]? = some x) : ∃ y, (top l)[i]? = some y ∧ y.toNat = gby l i x := by
  by_cases hi : i = 0
  · subst hi
    exact ⟨_, top_zero l x h, by rw [tb_nat]; rfl⟩
  · exact ⟨x, by rw [top_succ l i (by omega)]; exact h, by unfold gby; rw [if_neg hi]⟩
theorem rest_succ (l : List UInt8) (i : Nat) (x : UInt8) (h : l[i]? = some x) : hz l (i + 1) % 1073741789 = (hz l i % 1073741789 * 256 + gby l i x) % 1073741789 := by
  obtain ⟨y, h1, h2⟩ := top_at l i x h
  rw [hz_succ l i y h1, h2]
  omega

set_option maxRecDepth 100000 in
set_option maxHeartbeats 2000000 in
theorem walk_GroupHash (tag : ByteArray) (bs : List UInt8) (A : Option Addr) (c : Nat) (w : World) (hts : tag.size ≤ 140737488351232) (hc : bs.length ≤ c) (hcm : c ≤ 9223372036854775807) (h : AtO w A bs) (hL : Laid w) :
    Calls Tryd.prog 4 #[.string tag, .slice A bs.length c] w fun e w' => e = .returned (.bool true) ∧ Below w.heap.size w w' := by
  obtain ⟨n, hn⟩ : ∃ n, bs.length = n := ⟨_, rfl⟩
  rw [hn] at hc ⊢
  have hsane := Lib.hid (sane_any)
  by_cases hbig : 2000 < n
  · go_enter Tryd.func4, Tryd.ntmps4
    go_wp2_with fail
    refine (hsane.out _).mono ?_
    rintro e w1 ⟨rfl, hB1⟩
    go_wp2_with fail
    go_ret
    exact ⟨rfl, hB1⟩
  by_cases hbig2 : 200 < tag.size
  · go_enter Tryd.func4, Tryd.ntmps4
    go_wp2_with fail
    refine (hsane.out _).mono ?_
    rintro e w1 ⟨rfl, hB1⟩
    go_wp2_with fail
    go_ret
    exact ⟨rfl, hB1⟩
  replace h := Lib.hid h
  replace hL := Lib.hid hL
  replace hn := Lib.hid hn
  go_enter Tryd.func4, Tryd.ntmps4
  go_wp2_with fail
  refine (hsane.out _).mono ?_
  rintro e w1 ⟨rfl, hB1⟩
  go_wp2_with fail
  refine (hash_any tag (by omega) bs n hn.out (by omega) A c hc hcm _ (h.out.below hB1) (hL.out.below hB1)).mono ?_
  rintro e w2 ⟨rfl, hB2⟩
  have hB20 := hB1.trans (hB2.mono hB1.size)
  have hqn := hq_lt (tgd tag.data.toList bs)
  obtain ⟨q, hq9⟩ : ∃ q, hq (tgd tag.data.toList bs) = q := ⟨_, rfl⟩
  rw [hq9] at hqn ⊢
  replace hq9 := Lib.hid hq9
  clear hB1 hB2
  go_wp2_with fail
  refine (tagged_any tag (by omega) bs n hn.out (by omega) A c hc hcm _ (h.out.below hB20) (hL.out.below hB20)).mono ?_
  rintro e w3 ⟨rfl, hB3⟩
  have hB30 := hB20.trans (hB3.mono hB20.size)
  have hlen := Lib.hid (tgd_len tag.data.toList bs)
  generalize ht9 : tgd tag.data.toList bs = t at *
  replace ht9 := Lib.hid ht9
  have hi2 := Lib.hid (dg_info _ hlen.out)
  have ho2 := Lib.hid (dg_one t)
  have hr2 : Hid (32 = (dg t).size) := Lib.hid (by rw [dg_size, hlen.out])
  clear hB20 hB3
  go_wp2_with (refine wpList_new_row (by rfl) 30 (.tmp 6) (.tmp 25) (by rfl) (by rfl) (dg t) (by rfl) (by rfl) 30 _ hi2 hr2 ho2 ?_; intro w4 hd4 hz4 hB4; replace hd4 := Lib.hid hd4; replace hz4 := Lib.hid hz4)
  have hB40 := hB30.trans (hB4.mono hB30.size)
  clear hB30 hB4
  go_loop [7, 26] (fun s7 s26 => ∃ i : Nat, i ≤ 8 ∧ s26 = .int .i64 i ∧ s7 = .int .i64 ((hz t i % 1073741789 : Nat) : Int)) (fun _ s26 => 8 - (intOf s26).toNat)
  case atStart => exact ⟨0, by omega, rfl, rfl⟩
  case round =>
    obtain ⟨i, hi, rfl, rfl⟩ := hrel
    by_cases hi8 : i < 8
    · obtain ⟨y, hy⟩ : ∃ y, t[i]? = some y := ⟨_, List.getElem?_eq_getElem (by rw [hlen.out]; omega)⟩
      have hcy : w4.cell? ⟨w3.heap.size, i, none⟩ = some (by1 y) := rowAt hd4.out hy
      have hs := Lib.hid (rest_succ t i y hy)
      have hb : hz t i % 1073741789 < 1073741789 := Nat.mod_lt _ (by decide)
      have hyl := y.toNat_lt
      generalize hz t i % 1073741789 = m at *
      clear hy
      by_cases hi0 : i = 0
      · subst hi0
        go_wp2_with fail
        go_round
        case rel => exact ⟨0 + 1, by omega, by go_num, by rw [hs.out]; unfold gby; rw [if_pos rfl]; go_num⟩
        case measure => simp [intOf]
      · have hi1 : 0 < i := by omega
        go_wp2_with fail
        go_round
        case rel => exact ⟨i + 1, by omega, by go_num, by rw [hs.out]; unfold gby; rw [if_neg hi0]; go_num⟩
        case measure => simp [intOf]; omega
    · obtain rfl : i = 8 := by omega
      have hm : hz t 8 % 1073741789 = q := by have h := hq9.out; unfold hq at h; exact h
      rw [hm]
      clear hm
      have hqi : (q : Int) < 1073741789 := by omega
      go_wp2_with fail
      go_ret
      exact ⟨rfl, hB40⟩
end Go.Proofs.YtallnbbdacngnaaDoor
