/- Words for the walks of the codec's laws. -/
import Derived.Test.YtofmkmjboekodaaSaneW
import Derived.Test.YtofmkmjboekodaaOpen
import Derived.Deep.RegionHeld3
namespace Go.Proofs.Ytofmkmjboekodaa
open Go.RowKit Cdc
set_option linter.unusedVariables false
set_option linter.unusedSimpArgs false

/-- values in a new block -/
theorem RS.row (w : World) (D : Nat) (ps : List (V × Value)) (t : TypeId) (h : ∀ p ∈ ps, RS w D p.1.l p.2) (c : Nat) (hc : ps.length ≤ c) :
    RS (w.alloc (.cells (flat ps).toArray t)) (D + 1) (ps.map (·.1)) (.slice (some ⟨w.heap.size, 0, none⟩) ps.length c) := by
  have hcell : ∀ j u, (flat ps)[j]? = some u → (w.alloc (.cells (flat ps).toArray t)).cell? ⟨w.heap.size, j, none⟩ = some u := by
    intro j u hj
    have hh : (w.alloc (.cells (flat ps).toArray t)).heap[w.heap.size]? = some (.cells (flat ps).toArray t) := by
      show (w.heap.push _)[w.heap.size]? = _
      simp
    unfold World.cell?
    simp only [hh]
    simpa using hj
  refine ⟨_, _, by rw [List.length_map], by rw [List.length_map]; exact hc, fun i z hz => ?_⟩
  rw [List.getElem?_map, Option.map_eq_some_iff] at hz
  obtain ⟨p, hp, rfl⟩ := hz
  obtain ⟨f0, f1, f2, f3⟩ := flat_at hp
  exact ⟨w.heap.size, 0, p.2, rfl, by simp, by rw [Nat.zero_add]; exact hcell _ _ f0, by rw [Nat.zero_add]; exact hcell _ _ f1, by rw [Nat.zero_add]; exact hcell _ _ f2, by rw [Nat.zero_add]; exact hcell _ _ f3,
    (h p (List.mem_of_getElem? hp)).below ((Below.refl _ _).alloc (Nat.le_refl _) _)⟩

/-- few of one value -/
theorem few1 (x : V) (A : Option Addr) (c D : Nat) (w : World) (hr : RS w D x.l (.slice A x.l.length c)) (hl : Lg x) :
    Calls Try.prog 11 #[.slice (some ⟨w.heap.size, 0, none⟩) 1 1] (w.alloc (.cells #[.int .i64 x.k, .int .i64 x.n, .string x.s, .slice A x.l.length c] 24)) fun e w' => e = .returned (.bool (fewB x)) ∧ Below (w.heap.size + 1) (w.alloc (.cells #[.int .i64 x.k, .int .i64 x.n, .string x.s, .slice A x.l.length c] 24)) w' := by
  have h := RS.row w D [(x, .slice A x.l.length c)] 24 (fun p hp => by simp at hp; subst hp; exact hr) 1 (Nat.le_refl _)
  refine (fews_any [x] _ 1 _ (by simp) (Els.of_RS h fun y hy v' W hr => ⟨_, hr⟩) ⟨hl, trivial⟩).mono ?_
  rintro e w' ⟨h1, h2⟩
  simp at h1
  exact ⟨h1, by simpa [flat] using h2⟩

/-- few of two values -/
theorem few2 (x y : V) (A A' : Option Addr) (c c' D D' : Nat) (w : World) (hr : RS w D x.l (.slice A x.l.length c)) (hr' : RS w D' y.l (.slice A' y.l.length c')) (hl : Lg x) (hl' : Lg y) :
    Calls Try.prog 11 #[.slice (some ⟨w.heap.size, 0, none⟩) 2 2] (w.alloc (.cells #[.int .i64 x.k, .int .i64 x.n, .string x.s, .slice A x.l.length c, .int .i64 y.k, .int .i64 y.n, .string y.s, .slice A' y.l.length c'] 24)) fun e w' => e = .returned (.bool (fewB x && fewB y)) ∧ Below (w.heap.size + 1) (w.alloc (.cells #[.int .i64 x.k, .int .i64 x.n, .string x.s, .slice A x.l.length c, .int .i64 y.k, .int .i64 y.n, .string y.s, .slice A' y.l.length c'] 24)) w' := by
  have h := RS.row w (max D D') [(x, .slice A x.l.length c), (y, .slice A' y.l.length c')] 24 (fun p hp => by
    simp at hp
    rcases hp with rfl | rfl
    · exact hr.more (by omega)
    · exact hr'.more (by omega)) 2 (Nat.le_refl _)
  refine (fews_any [x, y] _ 2 _ (by simp) (Els.of_RS h fun y hy v' W hr => ⟨_, hr⟩) ⟨hl, hl', trivial⟩).mono ?_
  rintro e w' ⟨h1, h2⟩
  simp at h1
  exact ⟨h1, by simpa [flat] using h2⟩

/-- the four cells of a value that lies in a block -/
def VAt (w : World) (b : Nat) (x : V) (v : Value) : Prop :=
  w.cell? ⟨b, 0, none⟩ = some (.int .i64 x.k) ∧ w.cell? ⟨b, 1, none⟩ = some (.int .i64 x.n) ∧ w.cell? ⟨b, 2, none⟩ = some (.string x.s) ∧ w.cell? ⟨b, 3, none⟩ = some v

theorem VAt.new (w : World) (x : V) (v : Value) (t : TypeId) : VAt (w.alloc (.cells #[.int .i64 x.k, .int .i64 x.n, .string x.s, v] t)) w.heap.size x v :=
  ⟨by simp [go_sem], by simp [go_sem], by simp [go_sem], by simp [go_sem]⟩
theorem VAt.below {w w' : World} {b : Nat} {x : V} {v : Value} (h : VAt w b x v) (hb : b < w.heap.size) (hB : Below w.heap.size w w') : VAt w' b x v :=
  ⟨(hB.cell (p := ⟨b, 0, none⟩) hb).trans h.1, (hB.cell (p := ⟨b, 1, none⟩) hb).trans h.2.1, (hB.cell (p := ⟨b, 2, none⟩) hb).trans h.2.2.1, (hB.cell (p := ⟨b, 3, none⟩) hb).trans h.2.2.2⟩
theorem Own.convAt {w W : World} {v : Value} {xs : List UInt8} {s : ByteArray} (h : Own w v xs) (hs : Hid (s = ⟨xs.toArray⟩)) (hb : Below w.heap.size w W) : (convert 27 9 v).run Try.prog W = .ok (.string s) W := by
  have hs2 := hs.out
  subst hs2
  exact (h.below hb).conv
end Go.Proofs.Ytofmkmjboekodaa
