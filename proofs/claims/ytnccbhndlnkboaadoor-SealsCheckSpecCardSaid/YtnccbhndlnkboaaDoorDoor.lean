/- The laid variables of digest, out of the rows' condition; the arguments of the statements over them, opened. -/
import Derived.Test.YtnccbhndlnkboaaDoorSum
import Derived.Test.YtnccbhndlnkboaaDoorTie
import Derived.OpenShut
import Derived.ChangeArms
import Derived.ChangeOld
import Derived.WideKeyArgs
import Derived.WideShapes
import Derived.LaidMore
import Derived.Lib.LaidTab
import Derived.Stop.LaidErr
import Derived.Stop.Joined
namespace Go.Proofs.YtnccbhndlnkboaaDoor
open Go.RowKit Go.WideShapes Sha
set_option linter.unusedVariables false
set_option linter.unusedSimpArgs false

theorem gStart : Tryd.prog.globalNamed "fasti/digest.start" = some 0 := by kernel_rfl
theorem gNumbers : Tryd.prog.globalNamed "fasti/digest.numbers" = some 1 := by kernel_rfl
theorem tStart : (Tryd.prog.globals[0]?).map (·.type) = some 135 := by kernel_rfl
theorem tNumbers : (Tryd.prog.globals[1]?).map (·.type) = some 154 := by kernel_rfl
theorem tabStart : Rows.laid_fasti_digest_start (H := Unit) = Lib.tabData .u32 ((stL init).map fun x => (x.toNat : Int)) := rfl
set_option maxRecDepth 100000 in
theorem tabNumbers : Rows.laid_fasti_digest_numbers (H := Unit) = Lib.tabData .u32 (K.map fun x => (x.toNat : Int)) := rfl
/-- what the rows list -/
abbrev laid2 : List (String × DataW Unit) := [("fasti/digest.start", Rows.laid_fasti_digest_start), ("fasti/digest.numbers", Rows.laid_fasti_digest_numbers)]

theorem door_met (os : Os) (args : Array Value) : laidMetH Tryd.prog laid2 ((World.doorLaid Tryd.prog 19 os).forCall (fun _ _ => 0) ⟨#[], args, []⟩).memory :=
  laidMetH_of_parts3 (fuel := 8) (laidMet_of_run' 8 (by kernel_rfl) (by kernel_rfl)) (by kernel_rfl) (by kernel_rfl)

theorem laid_of {W : World} (h : laidMetH Tryd.prog laid2 W) : Laid W := by
  rw [MakeChecks.laidMetH_plain _ _ _ (by kernel_rfl)] at h
  have h2 := laidMet.tail h
  rw [laid2, tabStart] at h
  rw [tabNumbers] at h2
  have hs := Lib.tabIs_of_head gStart tStart Tryd.underlying135 Tryd.underlying134 (by kernel_rfl) (by kernel_rfl) h
  have hk := Lib.tabIs_of_head gNumbers tNumbers Tryd.underlying154 Tryd.underlying134 (by kernel_rfl) (by kernel_rfl) h2
  refine ⟨fun t ht => ?_, fun t x hx => ?_⟩
  · have := hk.cell gNumbers t (by simpa [K] using ht)
    rw [this, List.getD_eq_getElem?_getD, List.getElem?_map, List.getD_eq_getElem?_getD, List.getElem?_eq_getElem (by simpa [K] using ht)]
    rfl
  · have hlt := (List.getElem?_eq_some_iff.1 hx).1
    have := hs.cell gStart t (by simpa using hlt)
    rw [this, List.getD_eq_getElem?_getD, List.getElem?_map, hx]
    rfl

variable {H : Type} {enc : TypeId × Value → H} {w : World} {sp : Nat → Bool} {hd : Bool}
theorem spot_of_cell {w : World} {a : Addr} {v : Value} (h : w.cell? a = some v) : a = ⟨a.block, a.off, none⟩ := by
  obtain ⟨b, o, s⟩ := a
  cases s with
  | none => rfl
  | some s =>
    exfalso
    simp only [World.cell?] at h
    split at h
    · simp at h
    · cases h
theorem list_of' {α : Type} {Q : Nat → α → Prop} : ∀ (n : Nat), (∀ i, i < n → ∃ y, Q i y) → ∃ l : List α, l.length = n ∧ ∀ i y, l[i]? = some y → Q i y
  | 0, _ => ⟨[], rfl, fun i y h => by simp at h⟩
  | n + 1, h => by
    obtain ⟨l, hl, hq⟩ := list_of' n fun i hi => h i (by omega)
    obtain ⟨y, hy⟩ := h n (by omega)
    refine ⟨l ++ [y], by simp [hl], fun i z hz => ?_⟩
    by_cases hi : i < n
    · rw [List.getElem?_append_left (by omega)] at hz
      exact hq i z hz
    · have hi2 : i = n := by
        have := (List.getElem?_eq_some_iff.1 hz).1
        simp at this
        omega
      subst hi2
      rw [List.getElem?_append_right (by omega), hl] at hz
      simp at hz
      subst hz
      exact hy

/-- bytes read out of the cells of a slice -/
theorem bytes_of_trod {n : Nat} {c : Value} {x : DataW H × List MemPlace} (hn : DataW.trod enc Tryd.prog w 0 sp hd n 48 [c] = some x) :
    ∃ (xs : List UInt8) (A : Option Addr) (cp : Nat), c = .slice A xs.length cp ∧ xs.length ≤ cp ∧ cp ≤ 9223372036854775807 ∧ AtO w A xs := by
  have c1 : Tryd.prog.cellsOf 5 = 1 := by kernel_rfl
  rcases DataW.trod_slice Tryd.underlying48 hn with ⟨he, _⟩ | ⟨a', len, cap', elems, rest, n, rfl, he, _, _, hlc, hcm, hel, hat, _, _⟩
  · simp at he
    exact ⟨[], none, 0, he, Nat.le_refl _, by omega, fun j b hb => by simp at hb⟩
  · simp at he
    rw [c1] at hat
    have each : ∀ i, i < len → ∃ b : UInt8, w.cell? (a'.add i) = some (by1 b) := by
      intro i hi
      have h1 := hat i hi
      rw [List.getElem?_eq_getElem (by omega), Option.bind_eq_some_iff] at h1
      obtain ⟨cs', hc, ht⟩ := h1
      obtain ⟨z, rfl, _, hw⟩ := DataW.trod_int Tryd.underlying5 ht
      obtain ⟨_, _, h3⟩ := World.cells?_some hc
      have k0 := h3 0 (by omega)
      have e : (a'.add (i * 1)).add 0 = a'.add i := by rw [Nat.mul_one]; simp [Addr.add]
      rw [e] at k0
      have hb := bounds_u8 hw
      refine ⟨UInt8.ofNat z.toNat, k0.trans ?_⟩
      simp [by1]
      omega
    obtain ⟨l, hl, hq⟩ := list_of' len each
    subst hl
    refine ⟨l, some a', cap', he, hlc, by simpa [maxLen] using hcm, fun j b hb => ?_⟩
    have hc := hq j b hb
    have h0 : a' = ⟨a'.block, a'.off, none⟩ := by
      obtain ⟨y, hy⟩ : ∃ y, l[0]? = some y := ⟨_, List.getElem?_eq_getElem (by have := (List.getElem?_eq_some_iff.1 hb).1; omega)⟩
      have := hq 0 y hy
      simp [Addr.add] at this
      exact spot_of_cell this
    refine ⟨a'.block, a'.off, by rw [← h0], ?_⟩
    rw [h0, addr_add] at hc
    exact hc
set_option maxRecDepth 100000 in
theorem open_bytesD {r : Reach} {b0 : Nat} {v : Value} {d : DataW H} {p : List MemPlace} (hv : Value.okWide Tryd.prog w r b0 48 v) (h : DataW.Trod enc Tryd.prog w 0 sp hd 48 v d p) :
    ∃ (xs : List UInt8) (A : Option Addr) (c : Nat), v = .slice A xs.length c ∧ xs.length ≤ c ∧ c ≤ 9223372036854775807 ∧ AtO w A xs := by
  obtain ⟨a, m, cap, rfl⟩ := okWide_slice Tryd.underlying48 hv
  obtain ⟨n, hn⟩ := h
  exact bytes_of_trod hn

/-- an argument reads behind the call as before -/
theorem backD {t : TypeId} (hr : Tryd.prog.readableRec t = true) (hrow : decide (t < Tryd.prog.types.size) = true) {W W' : World} {v : Value} {d : DataW H} {ps : List MemPlace} (hl : laidOutB Tryd.prog = true)
    (h : DataW.Trod enc Tryd.prog W 0 (fun _ => true) true t v d ps) (hb : Below W.heap.size W W') : DataW.Trod enc Tryd.prog W' 0 (fun b => decide (b < W.heap.size)) true t v d ps := by
  have hlt : ∀ p ∈ ps, p.block < W.heap.size := by
    obtain ⟨n, hn⟩ := h
    exact DataW.trod_lt n _ _ _ hn
  exact Go.WideElems.Trod_stays hl hr (of_decide_eq_true hrow) h (fun p hp => hb.same (hlt p hp)) (fun p hp => by simpa using hlt p hp)
end Go.Proofs.YtnccbhndlnkboaaDoor
