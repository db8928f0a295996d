/- An honest office is never convicted, whatever is announced, in any order; no condition. -/
import Derived.Test.YthokpfegfnpmhaaDoorRows
import Derived.Test.YthokpfegfnpmhaaDoorTie
import Derived.Test.YthokpfegfnpmhaaDoorCards
import Derived.Test.YthokpfegfnpmhaaDoorDoor
import Derived.Test.YthokpfegfnpmhaaDoorWalkOfficesHonest
import Derived.Test.YthokpfegfnpmhaaDoorOpenPo
import Derived.WalkKit
import Derived.ProofKit
import Derived.OpenShut
import Derived.ShutString
import Derived.ChangeOld
import Derived.Below
import Derived.SizedLaws
import Derived.LaidMore
import Derived.Stop.Joined
import Derived.SevenTiedAt
namespace Go.Proofs.YthokpfegfnpmhaaDoor.officesHonest
open Go.ChangeShapes Go.WideShapes Go.ChangeAt Go.WideMaps Go.WideElems Go.RowKit
open Go.ChangeMaps (open_string shut_string)
set_option linter.unusedVariables false
theorem own : ownKnob Tryd.prog.godebug = none := by kernel_rfl
theorem laidOut : laidOutB Tryd.prog = true := by kernel_rfl
set_option maxRecDepth 100000 in
theorem lifted (os : Os) (started : os.Started) (H : Type) (enc : TypeId × Value → H) :
    ReturnsInHanded {} Tryd.checked os 10 .any (fun w args => (Rows.officesHonestSpec.pre enc Tryd.prog Tryd.f10 [] false w args ∧ laidMetH Tryd.prog laid2 w) ∧ sizedMet enc Tryd.prog Tryd.f10 (OpenSpec.ofChange Rows.officesHonestSpec) false w args) (Rows.officesHonestSpec.post enc Tryd.prog Tryd.f10 false true false false) := by
  refine returnsInHanded_of_change_and (C := Tryd.checked) (X := fun w _ => laidMetH Tryd.prog laid2 w) (fun _ _ _ hh h => h.of_heap hh) own started (by kernel_rfl) Tryd.func10
    (ChangeSpec.witness_shaped (enc := enc) (C := Tryd.checked) (os := os) (X := fun w _ => laidMetH Tryd.prog laid2 w) false (World.doorLaid Tryd.prog 19 os) #[.int .i64 0, .slice none 0 0, .slice none 0 0, .slice none 0 0] 8 rfl (World.shaped_of_RefB (by kernel_rfl) (by kernel_rfl)) (by kernel_rfl) (by kernel_rfl) (by kernel_rfl) (door_met os _)) ?_
  intro W base args ds gs before hval0 hW hcnd hsz0 hL _
  have hsz : (DataW.weightsEach Tryd.prog (Tryd.f10.params.toList ++ Rows.officesHonestSpec.plain.varTypes Tryd.prog) (ds ++ gs)).all (· ≤ reachBytes) = true := hsz0
  have hval : ∀ (j : Nat) t v, Tryd.f10.params[j]? = some t → args[j]? = some v → Value.okWide Tryd.prog W .any base t v := hval0
  have hW' := hW
  obtain ⟨p, q, hA0, hV, rfl, hfz, hnd⟩ := hW
  have hA : DataW.TrodAll enc Tryd.prog W 0 (fun _ => true) true Tryd.f10.params.toList args.toList ds p := hA0
  rw [Tryd.params10] at hA hval hsz
  obtain ⟨v0, vs0, d0, ds0, p0, q0, hargs, rfl, rfl, h0, r0⟩ := trodAll_cons hA
  obtain ⟨v1, vs1, d1, ds1, p1, q1, rfl, rfl, rfl, h1, r1⟩ := trodAll_cons r0
  obtain ⟨v2, vs2, d2, ds2, p2, q2, rfl, rfl, rfl, h2, r2⟩ := trodAll_cons r1
  obtain ⟨v3, vs3, d3, ds3, p3, q3, rfl, rfl, rfl, h3, r3⟩ := trodAll_cons r2
  obtain ⟨rfl, rfl, rfl⟩ := trodAll_nil r3
  obtain rfl : args = #[v0, v1, v2, v3] := by cases args; simp_all
  obtain ⟨rfl, rfl⟩ := trodVars_none hV
  obtain ⟨a0, rfl, rfl, rfl, w0⟩ := open_int Tryd.underlying3 (hval 0 3 v0 rfl rfl) h0
  have b0 := bounds_i64 w0
  obtain ⟨a1, A1, c1, rfl, lc1, nc1, cs1, ci1⟩ := open_calsD (hval 1 62 v1 rfl rfl) h1
  obtain ⟨a2, A2, c2, rfl, lc2, cm2, at2⟩ := open_bytesD (hval 2 23 v2 rfl rfl) h2
  obtain ⟨a3, A3, c3, rfl, lc3, nc3, ps3, po3⟩ := open_postsD (hval 3 53 v3 rfl rfl) h3
  clear hA0 hval0 hsz0 hsz
  refine (walk_OfficesHonest a0 a1 a2 a3 A1 c1 A2 c2 A3 c3 W b0 lc1 nc1 cs1 ci1 lc2 cm2 at2 lc3 nc3 ps3 po3 (laid_of hL)).mono fun e W' ⟨he, bel⟩ => ?_
  subst he
  exact ⟨_, rfl, _, _, _, [], _, [], hW', trodAll_mk1 (shut_bool Tryd.underlying4 _), (trodAll_cons_mk (shut_int Tryd.underlying3 w0) (trodAll_cons_mk (backD (by kernel_rfl) (by kernel_rfl) laidOut h1 bel) (trodAll_cons_mk (backD (by kernel_rfl) (by kernel_rfl) laidOut h2 bel) (trodAll_cons_mk (backD (by kernel_rfl) (by kernel_rfl) laidOut h3 bel) trodAll_mk0)))), rfl, bel.frame _, fun h => by cases h⟩
theorem over : Rows.officesHonestRow.holds Tryd.pinned (OpenSpec.ofChange Rows.officesHonestSpec) :=
  OpenClaim.holds_of_wide 10 Tryd.f10 rfl rfl rfl rfl rfl rfl rfl ⟨rfl, rfl, rfl, rfl, rfl⟩ rfl rfl rfl rfl rfl (by kernel_rfl) Tryd.func10 (by kernel_rfl)
    (of_decide_eq_true (by kernel_rfl)) (by unfold Func.isWrapper; first | (rw [if_pos (by decide +kernel)]; kernel_rfl) | (rw [if_neg (by decide +kernel)]; exact ⟨rfl, rfl⟩))
    (fun os started H enc _ => lifted os started H enc)
end Go.Proofs.YthokpfegfnpmhaaDoor.officesHonest
namespace Go.Proofs.YthokpfegfnpmhaaDoor
open Go
theorem officesHonest_card : Rows.OfficesHonestCardSaid :=
  Claim7.holds_tied_plain_at .later [] [.data, .data] true (true, "590fb5b68781ebc04ddff26f7eb5cdf1cbb403a92fcfbe617a5e6b55f85a9c97") true
    officesHonest.over (fun _ h => by cases h) (by kernel_rfl) (fun _ h => by cases h) officesHonest_row_tie rfl ⟨rfl, rfl⟩ (by kernel_rfl) rfl
    (fun f fn hf hfn => by
      obtain rfl : f = 10 := Option.some.inj ((show Tryd.prog.funcNamed "fasti/fastilaw56.OfficesHonest" = some 10 by kernel_rfl).symm.trans hf) |>.symm
      obtain rfl : fn = Tryd.f10 := (Option.some.inj (Tryd.func10.symm.trans hfn)).symm
      exact ⟨by kernel_rfl, fun j t ht => by
        rw [Tryd.params10] at ht
        have hm : t ∈ [3, 62, 23, 53] := by simpa using Array.mem_of_getElem? ht
        have hall : ([3, 62, 23, 53].all fun u => !Tryd.prog.wantsStandIn u) = true := by kernel_rfl
        exact (show Tryd.prog.wantsStandIn t = false by simpa using List.all_eq_true.1 hall t hm)⟩)
    (by kernel_rfl)
#print axioms officesHonest_card
end Go.Proofs.YthokpfegfnpmhaaDoor
