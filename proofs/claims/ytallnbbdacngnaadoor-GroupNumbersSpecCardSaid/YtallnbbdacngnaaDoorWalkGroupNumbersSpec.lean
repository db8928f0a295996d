/- The walk of the statement GroupNumbersSpec. -/
import Derived.Test.YtallnbbdacngnaaDoorLaw10A
import Derived.Test.YtallnbbdacngnaaDoorRefE
import Derived.Test.YtallnbbdacngnaaDoorRTagged
namespace Go.Proofs.YtallnbbdacngnaaDoor
open Go.RowKit Go.Shelf Jac Sha
set_option linter.unusedVariables false
set_option linter.unusedSimpArgs false

set_option maxRecDepth 100000 in
set_option maxHeartbeats 2000000 in
theorem walk_GroupNumbersSpec (a : Int) (tag : ByteArray) (bs : List UInt8) (A : Option Addr) (c : Nat) (w : World) (hab : -9223372036854775808 ≤ a ∧ a ≤ 9223372036854775807) (hts : tag.size ≤ 140737488351232) (hc : bs.length ≤ c) (hcm : c ≤ 9223372036854775807) (h : AtO w A bs) (hL : Laid w) :
    Calls Tryd.prog 3 #[.int .i64 a, .string tag, .slice A bs.length c] w fun e w' => e = .returned (.bool true) ∧ Below w.heap.size w w' := by
  obtain ⟨n, hn⟩ : ∃ n, bs.length = n := ⟨_, rfl⟩
  rw [hn] at hc ⊢
  have hsane := Lib.hid (sane_any)
  by_cases hbig : 2000 < n
  · go_enter Tryd.func3, Tryd.ntmps3
    go_wp2_with fail
    refine (hsane.out _).mono ?_
    rintro e w1 ⟨rfl, hB1⟩
    go_wp2_with fail
    go_ret
    exact ⟨rfl, hB1⟩
  by_cases hbig2 : 200 < tag.size
  · go_enter Tryd.func3, Tryd.ntmps3
    go_wp2_with fail
    refine (hsane.out _).mono ?_
    rintro e w1 ⟨rfl, hB1⟩
    go_wp2_with fail
    go_ret
    exact ⟨rfl, hB1⟩
  replace h := Lib.hid h
  replace hL := Lib.hid hL
  replace hn := Lib.hid hn
  have HB := Below.refl w.heap.size w
  go_enter Tryd.func3, Tryd.ntmps3
  go_wp2_with (first
    | (go_at_call 14; refine (sane_any _).mono ?_; rintro e w' ⟨rfl, hb⟩; replace HB := HB.trans (hb.mono HB.size); clear hb)
    | (go_at_call 15; refine (element_any _ _).mono ?_; rintro e w' ⟨rfl, rfl⟩)
    | (go_at_call 16; refine (relement_any _ _).mono ?_; rintro e w' ⟨rfl, rfl⟩)
    | (go_at_call 17; refine (number_any _ _).mono ?_; rintro e w' ⟨rfl, rfl⟩)
    | (go_at_call 18; refine (rnumber_any _ _).mono ?_; rintro e w' ⟨rfl, rfl⟩)
    | (go_at_call 19; refine (hash_any tag (by omega) bs n hn.out (by omega) A c hc hcm _ (h.out.below HB) (hL.out.below HB)).mono ?_; rintro e w' ⟨rfl, hb⟩; replace HB := HB.trans (hb.mono HB.size); clear hb)
    | (go_at_call 20; refine (rhash_any tag (by omega) bs n hn.out (by omega) A c _ (h.out.below HB)).mono ?_; rintro e w' ⟨rfl, hb⟩; replace HB := HB.trans (hb.mono HB.size); clear hb))
  go_ret
  exact ⟨rfl, HB⟩
end Go.Proofs.YtallnbbdacngnaaDoor
