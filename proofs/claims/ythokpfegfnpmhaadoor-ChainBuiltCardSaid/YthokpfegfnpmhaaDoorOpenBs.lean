/- A list of slices of bytes as an argument, opened. -/
import Derived.Test.YthokpfegfnpmhaaDoorDoor
import Derived.Test.YthokpfegfnpmhaaDoorWalkChainBuilt
import Derived.ProofKit
namespace Go.Proofs.YthokpfegfnpmhaaDoor
open Go.RowKit Go.WideShapes Sha Cdc
set_option linter.unusedVariables false
set_option linter.unusedSimpArgs false

theorem bcells2 : Tryd.prog.cellsOf 23 = 1 := by kernel_rfl
variable {H : Type} {enc : TypeId × Value → H} {w : World} {sp : Nat → Bool} {hd : Bool}
theorem lists_of_trod {m : Nat} {v : Value} {x : DataW H × List MemPlace} (h : DataW.trod enc Tryd.prog w 0 sp hd m 33 [v] = some x) :
    ∃ (l : List (List UInt8)) (A : Option Addr) (c : Nat), v = .slice A l.length c ∧ l.length ≤ c ∧ BsAt w A l := by
  rcases DataW.trod_slice Tryd.underlying33 h with ⟨he, _⟩ | ⟨a, len, cap, elems, rest, n, hn, he, _, _, hlc, hcm, hel, hat, _, _⟩
  · simp at he
    exact ⟨[], none, 0, he, Nat.le_refl _, fun i y hy => by simp at hy⟩
  · simp at he
    rw [bcells2] at hat
    have each : ∀ i, i < len → ∃ (y : List UInt8), ∃ (Ad : Option Addr) (cd : Nat), w.cell? (a.add i) = some (.slice Ad y.length cd) ∧ AtO w Ad y := by
      intro i hi
      have h1 := hat i hi
      rw [List.getElem?_eq_getElem (by omega), Option.bind_eq_some_iff] at h1
      obtain ⟨cs', hc, ht⟩ := h1
      obtain ⟨hl, _, h3⟩ := World.cells?_some hc
      obtain ⟨z, rfl⟩ : ∃ z, cs' = [z] := by
        match cs', hl with
        | [z], _ => exact ⟨z, rfl⟩
      obtain ⟨ys, A, cp, rfl, _, _, hb⟩ := bytes_of_trod ht
      have k0 := h3 0 (by omega)
      have e : (a.add (i * 1)).add 0 = a.add i := by rw [Nat.mul_one]; simp [Addr.add]
      rw [e] at k0
      exact ⟨ys, A, cp, k0, hb⟩
    obtain ⟨L, hl, hq⟩ := list_of' len each
    subst hl
    refine ⟨L, some a, cap, he, hlc, fun i y hy => ?_⟩
    obtain ⟨Ad, cd, h1, h2⟩ := hq i y hy
    have ha : a = ⟨a.block, a.off, none⟩ := by
      obtain ⟨y0, hy0⟩ : ∃ y0, L[0]? = some y0 := ⟨_, List.getElem?_eq_getElem (by have := (List.getElem?_eq_some_iff.1 hy).1; omega)⟩
      obtain ⟨A0, c0, g1, _⟩ := hq 0 y0 hy0
      simp [Addr.add] at g1
      exact spot_of_cell g1
    refine ⟨a.block, a.off, Ad, cd, by rw [← ha], ?_, h2⟩
    rw [ha, Addr.add_mid] at h1
    exact h1
set_option maxRecDepth 100000 in
theorem open_bytessD {r : Reach} {b0 : Nat} {v : Value} {d : DataW H} {p : List MemPlace} (hv : Value.okWide Tryd.prog w r b0 33 v) (h : DataW.Trod enc Tryd.prog w 0 sp hd 33 v d p) :
    ∃ (l : List (List UInt8)) (A : Option Addr) (c : Nat), v = .slice A l.length c ∧ l.length ≤ c ∧ BsAt w A l := by
  obtain ⟨a, m, cap, rfl⟩ := okWide_slice Tryd.underlying33 hv
  obtain ⟨n, hn⟩ := h
  exact lists_of_trod hn
theorem walk_ChainBuilt (a0 : Int) (a1 : List (List UInt8)) (A1 : Option Addr) (c1 : Nat) (w : World) (b0 : -9223372036854775808 ≤ a0 ∧ a0 ≤ 9223372036854775807) (lc1 : a1.length ≤ c1) (bs1 : BsAt w A1 a1) (hL : Laid w) :
    Calls Tryd.prog 4 #[.int .i64 a0, .slice A1 a1.length c1] w fun e w' => e = .returned (.bool true) ∧ Below w.heap.size w w' :=
  built_all a0 a1 _ A1 c1 w rfl lc1 bs1 hL
end Go.Proofs.YthokpfegfnpmhaaDoor
