/- Rows of byte slices of the call's own. -/
import Derived.Test.YtnccbhndlnkboaaDoorMText
import Derived.Test.YtnccbhndlnkboaaDoorDs
namespace Go.Proofs.YtnccbhndlnkboaaDoor
open Go.RowKit Go.Shelf Cdc Sha
set_option linter.unusedVariables false
set_option linter.unusedSimpArgs false

def RowT (w : World) (b : Nat) (row : Value) (ts : List Value) : Prop := w.ownsRow b 48 1 row ts.length ts
theorem RowT.nil (w : World) (b : Nat) : RowT w b (.slice none 0 0) [] := World.ownsRow_nil w _ _ _
theorem RowT.below {w w' : World} {b : Nat} {row : Value} {l : List Value} (h : RowT w b row l) (hB : Below w.heap.size w w') : RowT w' b row l := ownsRow_below h hB
theorem RowT.high {w : World} {b : Nat} {row : Value} {l : List Value} (h : RowT w b row l) {g : Nat} (hg : row.ownBlock = some g) : b ≤ g ∧ g < w.heap.size := by
  rcases h.2 with ⟨rfl, _⟩ | ⟨g', cap, cur, rfl, hb', hh, _⟩
  · cases hg
  · injection hg with hg
    dsimp only at hg
    subst hg
    exact ⟨hb', (Array.getElem?_eq_some_iff.1 hh).1⟩
theorem RowT.at {w : World} {b : Nat} {row : Value} {l : List Value} (h : RowT w b row l) {g : Nat} (hg : row.ownBlock = some g) : ∃ cs, w.heap[g]? = some (.cells cs 48 (0, 0)) := by
  rcases h.2 with ⟨rfl, _⟩ | ⟨g', cap, cur, rfl, hb', hh, _⟩
  · cases hg
  · injection hg with hg
    dsimp only at hg
    subst hg
    exact ⟨_, hh⟩
theorem RowD.at {w : World} {b : Nat} {row : Value} {l : List (List UInt8)} (h : RowD w b row l) {g : Nat} (hg : row.ownBlock = some g) : ∃ cs, w.heap[g]? = some (.cells cs 23 (0, 0)) := by
  rcases h.2 with ⟨rfl, _⟩ | ⟨g', cap, cur, rfl, hb', hh, _⟩
  · cases hg
  · injection hg with hg
    dsimp only at hg
    subst hg
    exact ⟨_, hh⟩
theorem RowT.form {w : World} {b : Nat} {row : Value} {l : List Value} (h : RowT w b row l) : ∃ A c, row = .slice A l.length c ∧ l.length ≤ c ∧ (∀ g o, A = some ⟨g, o, none⟩ → row.ownBlock = some g) ∧ ∀ i v, l[i]? = some v → ∃ g, A = some ⟨g, 0, none⟩ ∧ w.cell? ⟨g, i, none⟩ = some v := by
  rcases h.2 with ⟨rfl, h0⟩ | ⟨g, cap, cur, rfl, hb, hh, hc, hcm, hcs, htk⟩
  · obtain rfl := List.length_eq_zero_iff.1 h0
    exact ⟨none, 0, rfl, Nat.le_refl _, (fun g o e => by cases e), fun i v hi => by simp at hi⟩
  · refine ⟨some ⟨g, 0, none⟩, cap, rfl, hc, fun g' o e => (by cases e; rfl), fun i v hi => ⟨g, rfl, ?_⟩⟩
    have hlt := (List.getElem?_eq_some_iff.1 hi).1
    have hcell := World.ownsRow.cellAt h i (by omega)
    rw [hcell, hi]
theorem RowT.keptG {w w' : World} {b : Nat} {row : Value} {l : List Value} {r : Option Nat} (h : RowT w b row l) (hg : w.grownBy w' r) (hne : ∀ g, row.ownBlock = some g → r ≠ some g) : RowT w' b row l := by
  rcases h.2 with h0 | ⟨g, cap, cur, rfl, hb, hh, h3, h4, h5, h6⟩
  · exact ⟨h.1, .inl h0⟩
  · exact ⟨h.1, .inr ⟨g, cap, cur, rfl, hb, (hg.block g (Array.getElem?_eq_some_iff.1 hh).1 (fun e => hne g rfl e.symm)).trans hh, h3, h4, h5, h6⟩⟩
theorem RowT.grown {w w' : World} {W : World} {B b : Nat} {row : Value} {l : List Value} (h : RowT w b row l) (hB : Below B W w) (hb : B ≤ b) (hs : B ≤ w.heap.size) (hg : w.grownBy w' row.ownBlock) : Below B W w' :=
  hB.grown hg hs (fun k e => by have := (h.high e).1; omega)
theorem bs_zinfo : ∃ i0 z, Tryd.prog.info? 48 = some i0 ∧ i0.zero = some z ∧ i0.size = 1 ∧ i0.bytes = 24 ∧ z.cells.size = 1 := by
  have h : (Tryd.prog.info? 48).map (fun i => (i.zero.map (·.cells.size), i.size, i.bytes)) = some (some 1, 1, 24) := by kernel_rfl
  cases hi : Tryd.prog.info? 48 with
  | none => rw [hi] at h; cases h
  | some i0 =>
    rw [hi] at h
    simp only [Option.map_some, Option.some.injEq, Prod.mk.injEq] at h
    obtain ⟨h1, h2, h3⟩ := h
    obtain ⟨z, hz, hzs⟩ := Option.map_eq_some_iff.1 h1
    exact ⟨i0, z, rfl, hz, h2, h3, hzs⟩
/-- a byte slice is appended to a row of the call's own -/
theorem run_app_ts (w : World) (ty : TypeId) (b : Nat) (row : Value) (l : List Value) (g n c : Nat) (A : Option Addr) (hc : w.cell? ⟨g, 0, none⟩ = some (.slice A n c)) (hown : RowT w b row l) (hl : l.length ≤ 1000000) (hb : b ≤ w.heap.size) :
    ∃ row' w', (Builtin.append_ #[75, 75] ty #[row, .slice (some ⟨g, 0, none⟩) 1 1]).run Tryd.prog w = .ok row' w' ∧ RowT w' b row' (l ++ [.slice A n c]) ∧ w.grownBy w' row.ownBlock ∧ (row'.ownBlock = row.ownBlock ∨ row'.ownBlock = some w.heap.size) := by
  obtain ⟨i0, z, hi0, hz0, hz1, hz2, hz3⟩ := bs_zinfo
  obtain ⟨v', w', hr, h2, h3, _, h5⟩ := run_append_own_at (P := Tryd.prog) w b 75 ty 48 i0 z 1 24 Tryd.underlying75 hi0 hz0 hz1 hz2 hz3 (by decide) row l.length l hown ⟨g, 0, none⟩ 1 1 [.slice A n c] rfl
    (fun j u hj => by
      match j, hj with
      | 0, hj => obtain rfl := Option.some.inj hj; rw [addr_add]; exact hc) (by intro u hu; simp at hu; subst hu; rfl) (by simp only [maxLen]; omega) (by omega) hb
  exact ⟨v', w', hr, by unfold RowT; rw [List.length_append]; exact h2, h3, h5⟩
theorem wpList_appT {ops : Array Oper} {rest : List Oper} {o : Oper} {a : Act} {Q : Exit → Act → World → Prop} (w : World) (hgd : o.guard = none) (s x : Operand)
    (ho : o.op = .call { callee := .builtin .append, args := #[s, x], argTypes := #[75, 75] }) (b : Nat) (row : Value) (l : List Value) (g n c : Nat) (A : Option Addr)
    (hs : a.eval s = row) (hx : a.eval x = .slice (some ⟨g, 0, none⟩) 1 1) (hc : w.cell? ⟨g, 0, none⟩ = some (.slice A n c)) (hown : RowT w b row l) (hl : l.length ≤ 1000000) (hb : b ≤ w.heap.size)
    (h : ∀ row' w', RowT w' b row' (l ++ [.slice A n c]) → w.grownBy w' row.ownBlock → (row'.ownBlock = row.ownBlock ∨ row'.ownBlock = some w.heap.size) → wpList Tryd.prog ops Q rest (a.put o.dst row') w') : wpList Tryd.prog ops Q (o :: rest) a w := by
  refine wpList_plain hgd fun K hK => ?_
  obtain ⟨v', w', hr, h2, h3, h5⟩ := run_app_ts w o.type b row l g n c A hc hown hl hb
  unfold Oper.wp execOp
  simp only [ho, resolve, invoke, builtin, Sem.run_bind, Sem.run_pure, Result.andThen_ok, List.map_toArray, List.map_cons, List.map_nil, hs, hx, hr]
  exact hK _ _ (h v' w' h2 h3 h5)
theorem step_appT {ops : Array Oper} {o : Oper} {a : Act} {K : Act → World → Prop} {Q : Exit → Act → World → Prop} {E : Prop} (w : World) (hgd : o.guard = none) (s x : Operand)
    (ho : o.op = .call { callee := .builtin .append, args := #[s, x], argTypes := #[75, 75] }) (b : Nat) (row : Value) (l : List Value) (g n c : Nat) (A : Option Addr)
    (hs : a.eval s = row) (hx : a.eval x = .slice (some ⟨g, 0, none⟩) 1 1) (hc : w.cell? ⟨g, 0, none⟩ = some (.slice A n c)) (hown : RowT w b row l) (hl : l.length ≤ 1000000) (hb : b ≤ w.heap.size)
    (h : ∀ row' w', RowT w' b row' (l ++ [.slice A n c]) → w.grownBy w' row.ownBlock → (row'.ownBlock = row.ownBlock ∨ row'.ownBlock = some w.heap.size) → K (a.put o.dst row') w') : if Region.wanted o (yielded ops a.tmps) = true then Oper.wp Tryd.prog o a w K Q else E := by
  have hw : Region.wanted o (yielded ops a.tmps) = true := by simp [Region.wanted, hgd]
  rw [if_pos hw]
  obtain ⟨v', w', hr, h2, h3, h5⟩ := run_app_ts w o.type b row l g n c A hc hown hl hb
  unfold Oper.wp execOp
  simp only [ho, resolve, invoke, builtin, Sem.run_bind, Sem.run_pure, Result.andThen_ok, List.map_toArray, List.map_cons, List.map_nil, hs, hx, hr]
  exact h v' w' h2 h3 h5

/-- a byte slice in a block that is none of N -/
def TxA (w : World) (N : List (Option Nat)) (v : Value) (x : List UInt8) : Prop := ∃ (A : Option Addr) (c : Nat), v = .slice A x.length c ∧ x.length ≤ c ∧ c ≤ 9223372036854775807 ∧ AtO w A x ∧ ∀ g o, A = some ⟨g, o, none⟩ → x ≠ [] → g < w.heap.size ∧ some g ∉ N
theorem TxA.kept {w w' : World} {N N' : List (Option Nat)} {v : Value} {x : List UInt8} {r : Option Nat} (h : TxA w N v x) (hg : w.grownBy w' r) (hr : r = none ∨ r ∈ N) (hN : ∀ g, some g ∈ N' → some g ∈ N ∨ w.heap.size ≤ g) : TxA w' N' v x := by
  obtain ⟨A, c, rfl, h1, h2, h3, h4⟩ := h
  refine ⟨A, c, rfl, h1, h2, fun j y hj => ?_, fun g o e hne => ⟨Nat.lt_of_lt_of_le (h4 g o e hne).1 hg.size, fun hm => ?_⟩⟩
  · obtain ⟨g, o, e, hc⟩ := h3 j y hj
    have hne : x ≠ [] := fun e => by rw [e] at hj; simp at hj
    obtain ⟨hlt, hn⟩ := h4 g o e hne
    refine ⟨g, o, e, (World.cell?_of_block (w := w) (a := ⟨g, o + j, none⟩) (hg.block g hlt (fun e => ?_))).trans hc⟩
    rcases hr with hr | hr
    · rw [hr] at e; cases e
    · rw [← e] at hr; exact hn hr
  · obtain ⟨hlt, hn⟩ := h4 g o e hne
    rcases hN g hm with h | h
    · exact hn h
    · omega
end Go.Proofs.YtnccbhndlnkboaaDoor
