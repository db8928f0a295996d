/- Two digests compared. -/
import Derived.Test.YtnccbhndlnkboaaDoorTagH
import Derived.ChangeKeysEq
namespace Go.Proofs.YtnccbhndlnkboaaDoor
open Go.RowKit Sha
set_option linter.unusedVariables false
set_option linter.unusedSimpArgs false

theorem mapM_some {α β : Type} (f : α → Option β) (g : α → β) : ∀ (l : List α), (∀ x ∈ l, f x = some (g x)) → l.mapM f = some (l.map g)
  | [], _ => rfl
  | x :: l, h => by
    rw [List.mapM_cons, h x (by simp), mapM_some f g l fun y hy => h y (by simp [hy])]
    rfl

theorem wf8 (x : UInt8) : (Lit.int .u8 (x.toNat : Int)).wf = true := by
  have := x.toNat_lt
  simp only [Lit.wf]
  have e0 : IntKind.u8.min = 0 := by decide
  have e1 : IntKind.u8.max = 255 := by decide
  rw [e0, e1]
  simp
  omega
theorem key8 (x : UInt8) : Tryd.prog.keyLits 5 5 [by1 x] = some [.int .u8 (x.toNat : Int)] := by
  simp [Program.keyLits, by1, Tryd.underlying5, wf8 x]

theorem flat_one {α β : Type} (F : α → β) (l : List α) : (l.map fun i => [F i]).flatten = l.map F := by
  induction l with
  | nil => rfl
  | cons x l ih => simp [ih]
theorem flat_lits (p : List UInt8) : ((List.range p.length).map fun i => [Lit.int .u8 ((p.getD i 0).toNat : Int)]).flatten = p.map fun x => Lit.int .u8 (x.toNat : Int) := by
  rw [flat_one]
  apply List.ext_getElem
  · simp
  · intro i h1 h2
    simp at h2
    simp [List.getD_eq_getElem?_getD, List.getElem?_eq_getElem h2]
theorem lits_inj {p q : List UInt8} (h : (p.map fun x => Lit.int .u8 (x.toNat : Int)) = q.map fun x => Lit.int .u8 (x.toNat : Int)) : p = q := by
  refine List.map_inj_right ?_ |>.1 h
  intro x y e
  simp at e
  exact UInt8.toNat_inj.1 (by omega)

set_option maxRecDepth 100000 in
/-- two digests are compared by their bytes -/
theorem eq_dg (p q : List UInt8) (hp : p.length = 32) (hq : q.length = 32) (W : World) :
    (Op.equalIn 10000 23 (.agg (dg p)) (.agg (dg q))).run Tryd.prog W = .ok (decide (p = q)) W := by
  have he : Tryd.prog.plainKey 5 = true := by kernel_rfl
  have hc : Tryd.prog.cellsOf 5 = 1 := by kernel_rfl
  obtain ⟨i, hi⟩ : ∃ i, Tryd.prog.info? 5 = some i := ⟨_, rfl⟩
  have hm : ∀ (r : List UInt8), r.length = 32 → (List.range 32).mapM (fun i => Tryd.prog.keyLits 5 5 (((dg r).toList.drop (i * Tryd.prog.cellsOf 5)).take (Tryd.prog.cellsOf 5))) = some ((List.range r.length).map fun i => [Lit.int .u8 ((r.getD i 0).toNat : Int)]) := fun r hr => by
    rw [hr]
    refine mapM_some _ _ _ fun i hi => ?_
    have hlt : i < r.length := by rw [hr]; simpa using hi
    have e : ((dg r).toList.drop (i * Tryd.prog.cellsOf 5)).take (Tryd.prog.cellsOf 5) = [by1 (r.getD i 0)] := by
      rw [hc, Nat.mul_one]
      have : (r.map by1).drop i = by1 (r.getD i 0) :: (r.map by1).drop (i + 1) := by
        rw [List.drop_eq_getElem_cons (by simpa using hlt)]
        simp [List.getD_eq_getElem?_getD, List.getElem?_eq_getElem hlt]
      simp only [dg]
      rw [this]
      rfl
    rw [e]
    exact key8 _
  obtain ⟨r, hr, hiff⟩ := run_eqItems_plain W 9998 he (dg p) (dg q) (List.range 32) _ _ (hm p hp) (hm q hq)
  rw [flat_lits, flat_lits] at hiff
  refine (run_equalIn_array W 9999 (dg p) (dg q) Tryd.underlying23 hi).trans (hr.trans ?_)
  have : r = decide (p = q) := by
    by_cases h : p = q
    · rw [decide_eq_true h, hiff.2 (by rw [h])]
    · rw [decide_eq_false h]
      cases r
      · rfl
      · exact absurd (lits_inj (hiff.1 rfl)) h
  rw [this]
end Go.Proofs.YtnccbhndlnkboaaDoor
