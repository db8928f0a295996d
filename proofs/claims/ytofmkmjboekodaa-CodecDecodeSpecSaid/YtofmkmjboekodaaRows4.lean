/- Rows of values that the reader makes. -/
import Derived.Test.YtofmkmjboekodaaValue
import Derived.Deep.RegionLaw
namespace Go.Proofs.Ytofmkmjboekodaa
open Go.RowKit Cdc
set_option linter.unusedVariables false
set_option linter.unusedSimpArgs false

def flat : List (V × Value) → List Value
  | [] => []
  | p :: ps => [.int .i64 p.1.k, .int .i64 p.1.n, .string p.1.s, p.2] ++ flat ps

theorem flat_append (a b : List (V × Value)) : flat (a ++ b) = flat a ++ flat b := by
  induction a with
  | nil => rfl
  | cons p a ih => simp only [List.cons_append, flat, ih, List.nil_append]

theorem flat_len (ps : List (V × Value)) : (flat ps).length = ps.length * 4 := by
  induction ps with
  | nil => rfl
  | cons p ps ih => simp only [flat, List.length_append, ih, List.length_cons, List.length_nil]; omega

theorem flat_at {ps : List (V × Value)} {i : Nat} {p : V × Value} (h : ps[i]? = some p) :
    (flat ps)[i * 4]? = some (.int .i64 p.1.k) ∧ (flat ps)[i * 4 + 1]? = some (.int .i64 p.1.n) ∧ (flat ps)[i * 4 + 2]? = some (.string p.1.s) ∧ (flat ps)[i * 4 + 3]? = some p.2 := by
  induction ps generalizing i with
  | nil => simp at h
  | cons q ps ih =>
    cases i with
    | zero => simp at h; subst h; exact ⟨rfl, rfl, rfl, rfl⟩
    | succ i =>
      simp at h
      have := ih h
      have e : (i + 1) * 4 = i * 4 + 4 := by omega
      rw [e]
      exact this

/-- the row holds the values ps, whose own lists lie in other blocks of the call -/
structure RowV (w : World) (b D : Nat) (row : Value) (ps : List (V × Value)) : Prop where
  own : w.ownsRow (b + 1) 24 4 row ps.length (flat ps)
  els : ∀ p ∈ ps, RSb (fun k => b < k ∧ k < w.heap.size ∧ row.ownBlock ≠ some k) w D p.1.l p.2

theorem RowV.lt {w : World} {b D : Nat} {row : Value} {ps : List (V × Value)} (h : RowV w b D row ps) {g : Nat} (hg : row.ownBlock = some g) : b < g ∧ g < w.heap.size := by
  rcases h.own.2 with ⟨rfl, _⟩ | ⟨g', cap, cur, rfl, hb, hh, _⟩
  · cases hg
  · injection hg with hg
    dsimp only at hg
    subst hg
    exact ⟨hb, (Array.getElem?_eq_some_iff.1 hh).1⟩

theorem RowV.rsb {w : World} {b D : Nat} {row : Value} {ps : List (V × Value)} (h : RowV w b D row ps) : RSb (fun k => b < k ∧ k < w.heap.size) w (D + 1) (ps.map (·.1)) row := by
  rcases h.own.2 with ⟨rfl, h0⟩ | ⟨g, cap, cur, rfl, hb, hh, hc, _⟩
  · have : ps = [] := List.length_eq_zero_iff.1 h0
    subst this
    exact RSb.nil _ _ _
  · refine ⟨some ⟨g, 0, none⟩, cap, by simp, by simpa using hc, fun i y hy => ?_⟩
    rw [List.getElem?_map, Option.map_eq_some_iff] at hy
    obtain ⟨p, hp, rfl⟩ := hy
    have hlt : i < ps.length := (List.getElem?_eq_some_iff.1 hp).1
    obtain ⟨f0, f1, f2, f3⟩ := flat_at hp
    have hgl := (Array.getElem?_eq_some_iff.1 hh).1
    have hcell := fun j hj => World.ownsRow.cellAt h.own j hj
    refine ⟨g, 0, p.2, rfl, ⟨by omega, hgl⟩, ?_, ?_, ?_, ?_, (h.els p (List.mem_of_getElem? hp)).keep (fun k hk => ⟨hk.1, hk.2.1⟩) fun _ _ => rfl⟩
    · rw [Nat.zero_add, hcell _ (by omega), f0]
    · rw [Nat.zero_add, hcell _ (by omega), f1]
    · rw [Nat.zero_add, hcell _ (by omega), f2]
    · rw [Nat.zero_add, hcell _ (by omega), f3]

theorem RowV.nil (w : World) (b D : Nat) : RowV w b D (.slice none 0 0) [] := ⟨World.ownsRow_nil w _ _ _, fun p hp => by cases hp⟩

/-- a world in which nothing but block r and new blocks have changed -/
theorem RowV.rd {w w' : World} {b D r : Nat} {row : Value} {ps : List (V × Value)} (h : RowV w b D row ps) (hR : Rd w w' r) (hr : r ≤ b) : RowV w' b D row ps := by
  refine ⟨World.ownsRow.kept h.own hR ?_, fun p hp => (h.els p hp).keep (fun k hk => ⟨hk.1, Nat.lt_of_lt_of_le hk.2.1 hR.size, hk.2.2⟩) fun k hk => hR.block k hk.2.1 (fun e => by injection e with e; omega)⟩
  cases hg : row.ownBlock with
  | none => exact .inl rfl
  | some g => exact .inr (fun e => by injection e with e; have := (h.lt hg).1; omega)

theorem RdAt.grown {w w' : World} {B r : Nat} {xs : List UInt8} {row : Option Nat} (h : RdAt w B r xs) (hg : w.grownBy w' row) (hr : ∀ g, row = some g → r < g ∧ B ≤ g) : RdAt w' B r xs := by
  obtain ⟨A, c, h1, h2, h3⟩ := h.cell
  refine ⟨Nat.lt_of_lt_of_le h.lt hg.size, Nat.le_trans h.le hg.size, A, c, (hg.block r h.lt (fun e => by have := (hr r e.symm).1; omega)).trans h1, h2, h3.keep fun k hk _ => hg.block k (Nat.lt_of_lt_of_le hk h.le) (fun e => by have := (hr k e.symm).2; omega)⟩
theorem Rd.grown {w W W' : World} {r : Nat} {row : Option Nat} (h : Rd w W r) (hg : W.grownBy W' row) (hr : ∀ g, row = some g → w.heap.size ≤ g) : Rd w W' r :=
  ⟨hg.os.trans h.os, hg.tape.trans h.tape, hg.output.trans h.output, Nat.le_trans h.size hg.size, fun k hk hne => (hg.block k (Nat.lt_of_lt_of_le hk h.size) (fun e => by have := hr k e.symm; omega)).trans (h.block k hk hne)⟩

theorem v_info : (Try.prog.info? 24).map (fun i => (i.zero, i.size, i.bytes)) = some (some (.agg #[.int .i64 0, .int .i64 0, .string ⟨#[]⟩, .slice none 0 0]), 4, 56) := by kernel_rfl

/-- the append of one value, as a step of a region -/
theorem step_appV {ops : Array Oper} {o : Oper} {a : Act} {K : Act → World → Prop} {Q : Exit → Act → World → Prop} {E : Prop} (w : World) (hgd : o.guard = none) (s x : Operand)
    (ho : o.op = .call { callee := .builtin .append, args := #[s, x], argTypes := #[22, 22] }) (b : Nat) (row : Value) (ps : List (V × Value)) (p : V × Value) (g : Nat)
    (hs : a.eval s = row) (hx : a.eval x = .slice (some ⟨g, 0, none⟩) 1 1) (hown : w.ownsRow (b + 1) 24 4 row ps.length (flat ps)) (hg : w.heap[g]? = some (.cells #[.int .i64 p.1.k, .int .i64 p.1.n, .string p.1.s, p.2] 24 (0, 0)))
    (hp : ∃ A c, p.2 = .slice A p.1.l.length c) (hl : ps.length ≤ 1000000000000) (hb : b + 1 ≤ w.heap.size)
    (h : ∀ row' w', w'.ownsRow (b + 1) 24 4 row' (ps ++ [p]).length (flat (ps ++ [p])) → w.grownBy w' row.ownBlock → (row'.ownBlock = row.ownBlock ∨ row'.ownBlock = some w.heap.size) → K (a.put o.dst row') w') :
    if Region.wanted o (yielded ops a.tmps) = true then Oper.wp Try.prog o a w K Q else E := by
  have hw : Region.wanted o (yielded ops a.tmps) = true := by simp [Region.wanted, hgd]
  rw [if_pos hw]
  obtain ⟨i0, hi0, hz0, hz1, hz2⟩ := info_parts v_info
  obtain ⟨A, c, hp2⟩ := hp
  obtain ⟨v', w', hr, h2, h3, _, h5⟩ := run_append_own_at (P := Try.prog) w (b + 1) 22 o.type 24 i0 _ 4 56 Try.underlying22 hi0 hz0 hz1 hz2 rfl (by omega) row ps.length (flat ps) hown ⟨g, 0, none⟩ 1 1
    [.int .i64 p.1.k, .int .i64 p.1.n, .string p.1.s, p.2] rfl (fun j u hu => by
      rw [← World.ownsRow.cells (w := w) (base := 0) (e := 24) (size := 4) (v := .slice (some ⟨g, 0, none⟩) 1 1) (n := 1) (xs := [.int .i64 p.1.k, .int .i64 p.1.n, .string p.1.s, p.2]) ⟨rfl, .inr ⟨g, 1, _, rfl, Nat.zero_le _, hg, Nat.le_refl _, by simp [maxLen], rfl, rfl⟩⟩ (g := g) rfl j u hu])
    (by intro u hu; simp at hu; rcases hu with rfl | rfl | rfl | rfl <;> first | rfl | (rw [hp2]; rfl)) (by simp only [maxLen]; omega) (by omega) hb
  unfold Oper.wp execOp
  simp only [ho, resolve, invoke, builtin, Sem.run_bind, Sem.run_pure, Result.andThen_ok, List.map_toArray, List.map_cons, List.map_nil, hs, hx, hr]
  refine h v' w' ?_ h3 h5
  rw [flat_append]
  simpa [flat] using h2

theorem RowV.step {wr w1 w2 w3 : World} {b D r : Nat} {row row' : Value} {ps : List (V × Value)} {p : V × Value} {o : Obj} (h : RowV wr b D row ps) (hr : r < b) (hb : b < wr.heap.size) (hR : Rd wr w1 r)
    (hp : RSb (fun k => wr.heap.size ≤ k ∧ k < w1.heap.size) w1 D p.1.l p.2) (hown : w2.ownsRow (b + 1) 24 4 row' (ps ++ [p]).length (flat (ps ++ [p]))) (hg : (w1.alloc o).grownBy w2 row.ownBlock)
    (hlie : row'.ownBlock = row.ownBlock ∨ row'.ownBlock = some (w1.alloc o).heap.size) (h3 : w2.grownBy w3 (some b)) : RowV w3 b D row' (ps ++ [p]) := by
  have hs1 := hR.size
  have hs2 := hg.size
  have hs3 := h3.size
  simp at hs2
  have hrow' : ∀ g, row'.ownBlock = some g → b < g := by
    intro g hg'
    rcases hown.2 with ⟨rfl, _⟩ | ⟨g', cap, cur, rfl, hb', _⟩
    · cases hg'
    · injection hg' with hg'; dsimp only at hg'; omega
  have hold : ∀ k, b < k → k < w1.heap.size → row.ownBlock ≠ some k → w3.heap[k]? = w1.heap[k]? := by
    intro k h1 h2 h4
    rw [h3.block k (by omega) (fun e => by injection e with e; omega), hg.block k (by simp; omega) (fun e => h4 e.symm), Below.heap_alloc w1 o k h2]
  have hnew : ∀ k, k < w1.heap.size → row.ownBlock ≠ some k → row'.ownBlock ≠ some k := by
    intro k h1 h2
    rcases hlie with e | e
    · rw [e]; exact h2
    · rw [e]; simp; omega
  refine ⟨World.ownsRow.kept hown h3 ?_, fun q hq => ?_⟩
  · cases hg' : row'.ownBlock with
    | none => exact .inl rfl
    | some g => exact .inr (fun e => by injection e with e; have := hrow' g hg'; omega)
  · rcases List.mem_append.1 hq with hq | hq
    · exact (h.els q hq).keep (fun k hk => ⟨hk.1, by omega, hnew k (by omega) hk.2.2⟩) fun k hk => by
        rw [hold k hk.1 (by omega) hk.2.2]
        exact hR.block k hk.2.1 (fun e => by injection e with e; omega)
    · simp at hq
      subst hq
      have hne : ∀ k, wr.heap.size ≤ k → row.ownBlock ≠ some k := fun k hk e => by have := (h.lt e).2; omega
      exact hp.keep (fun k hk => ⟨by omega, by omega, hnew k hk.2 (hne k hk.1)⟩) fun k hk => hold k (by omega) hk.2 (hne k hk.1)
end Go.Proofs.Ytofmkmjboekodaa
