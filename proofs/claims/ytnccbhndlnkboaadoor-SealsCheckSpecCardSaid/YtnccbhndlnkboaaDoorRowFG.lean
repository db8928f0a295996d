/- Rows of flat values (numbers and texts) that a call builds; bytes as a string. -/
import Derived.Test.YtnccbhndlnkboaaDoorConcat
import Derived.Test.YtnccbhndlnkboaaDoorWriteE
import Derived.Lib.BufferRead
import Derived.Deep.RegionLaw
namespace Go.Proofs.YtnccbhndlnkboaaDoor
open Go.RowKit Cdc
set_option linter.unusedVariables false
set_option linter.unusedSimpArgs false

/-- string(b) -/
theorem AtO.conv {w : World} {A : Option Addr} {xs : List UInt8} (h : AtO w A xs) (n c : Nat) (hn : xs.length = n) :
    (convert 48 9 (.slice A n c)).run Tryd.prog w = .ok (.string ⟨xs.toArray⟩) w := by
  subst hn
  cases A with
  | none =>
    cases xs with
    | nil => exact Lib.run_convert_nil_bytes w _ _ 5 c Tryd.underlying48 Tryd.underlying5 Tryd.underlying9
    | cons b xs =>
      obtain ⟨_, _, hA, _⟩ := h 0 b rfl
      cases hA
  | some a =>
    exact run_convert_bytes_back w _ _ 5 a c xs Tryd.underlying48 Tryd.underlying5 Tryd.underlying9 (fun j hj => by
      obtain ⟨ab, ao, hA, hc⟩ := h j xs[j] (List.getElem?_eq_getElem hj)
      cases hA
      rw [addr_add]
      exact hc)

/-- a value without parts -/
def fl (y : V) : List Value := [.int .i64 y.k, .int .i64 y.n, .string y.s, .slice none 0 0]
def flatF : List V → List Value
  | [] => []
  | y :: l => fl y ++ flatF l
theorem flatF_append (a b : List V) : flatF (a ++ b) = flatF a ++ flatF b := by
  induction a with
  | nil => rfl
  | cons y a ih => simp only [List.cons_append, flatF, ih, List.append_assoc]
theorem flatF_len (l : List V) : (flatF l).length = l.length * 4 := by
  induction l with
  | nil => rfl
  | cons y l ih => simp only [flatF, List.length_append, ih, List.length_cons, fl, List.length_nil]; omega
theorem flatF_at {l : List V} {i : Nat} {y : V} (h : l[i]? = some y) : (flatF l)[i * 4]? = some (.int .i64 y.k) ∧ (flatF l)[i * 4 + 1]? = some (.int .i64 y.n) ∧ (flatF l)[i * 4 + 2]? = some (.string y.s) ∧ (flatF l)[i * 4 + 3]? = some (.slice none 0 0) := by
  induction l generalizing i with
  | nil => simp at h
  | cons q l ih =>
    cases i with
    | zero => simp at h; subst h; exact ⟨rfl, rfl, rfl, rfl⟩
    | succ i =>
      simp at h
      have := ih h
      have e : (i + 1) * 4 = i * 4 + 4 := by omega
      rw [e]
      exact this

/-- the row holds the flat values l -/
def RowF (w : World) (b : Nat) (row : Value) (l : List V) : Prop := w.ownsRow b 96 4 row l.length (flatF l)
theorem RowF.nil (w : World) (b : Nat) : RowF w b (.slice none 0 0) [] := World.ownsRow_nil w _ _ _
theorem RowF.alloc {w : World} {b : Nat} {row : Value} {l : List V} (h : RowF w b row l) (o : Obj) : RowF (w.alloc o) b row l := World.ownsRow.alloc h o
theorem RowF.form {w : World} {b : Nat} {row : Value} {l : List V} (h : RowF w b row l) : ∃ A c, row = .slice A l.length c := by
  rcases h.2 with ⟨rfl, h0⟩ | ⟨g', cap, cur, rfl, _, hh, _⟩
  · rw [h0]; exact ⟨_, _, rfl⟩
  · exact ⟨_, _, rfl⟩
theorem RowF.form3 {w : World} {b : Nat} {row : Value} {l : List V} (h : RowF w b row l) : ∃ A m c, row = .slice A m c := by
  obtain ⟨A, c, h⟩ := h.form
  exact ⟨A, _, c, h⟩
theorem RowF.high {w : World} {b : Nat} {row : Value} {l : List V} (h : RowF w b row l) {g : Nat} (hg : row.ownBlock = some g) : b ≤ g ∧ g < w.heap.size := by
  rcases h.2 with ⟨rfl, _⟩ | ⟨g', cap, cur, rfl, hb, hh, _⟩
  · cases hg
  · injection hg with hg
    dsimp only at hg
    subst hg
    exact ⟨hb, (Array.getElem?_eq_some_iff.1 hh).1⟩
theorem RowF.rs {w : World} {b : Nat} {row : Value} {l : List V} (h : RowF w b row l) (hl : ∀ y ∈ l, y.l = []) : RS w 1 l row := by
  rcases h.2 with ⟨rfl, h0⟩ | ⟨g, cap, cur, rfl, hb, hh, hc, _⟩
  · obtain rfl : l = [] := List.length_eq_zero_iff.1 h0
    exact RS.nil _ _ _ _
  · refine ⟨some ⟨g, 0, none⟩, cap, rfl, hc, fun i y hy => ?_⟩
    have hlt : i < l.length := (List.getElem?_eq_some_iff.1 hy).1
    obtain ⟨f0, f1, f2, f3⟩ := flatF_at hy
    have hcell := fun j hj => World.ownsRow.cellAt h j hj
    refine ⟨g, 0, .slice none 0 0, rfl, (Array.getElem?_eq_some_iff.1 hh).1, ?_, ?_, ?_, ?_, hl y (List.mem_of_getElem? hy), none, 0, rfl⟩
    · rw [Nat.zero_add, hcell _ (by omega), f0]
    · rw [Nat.zero_add, hcell _ (by omega), f1]
    · rw [Nat.zero_add, hcell _ (by omega), f2]
    · rw [Nat.zero_add, hcell _ (by omega), f3]

theorem vF_info : (Tryd.prog.info? 96).map (fun i => (i.zero, i.size, i.bytes)) = some (some (.agg #[.int .i64 0, .int .i64 0, .string ⟨#[]⟩, .slice none 0 0]), 4, 56) := by kernel_rfl

/-- the append of one flat value that lies in a block of its own -/
theorem wpList_appF {ops : Array Oper} {rest : List Oper} {o : Oper} {a : Act} {Q : Exit → Act → World → Prop} (w : World) (hgd : o.guard = none) (s x : Operand)
    (ho : o.op = .call { callee := .builtin .append, args := #[s, x], argTypes := #[94, 94] }) (b : Nat) (row : Value) (l : List V) (y : V) (g : Nat)
    (hs : a.eval s = row) (hx : a.eval x = .slice (some ⟨g, 0, none⟩) 1 1) (hown : RowF w b row l) (hg : w.heap[g]? = some (.cells #[.int .i64 y.k, .int .i64 y.n, .string y.s, .slice none 0 0] 96 (0, 0)))
    (hl : l.length ≤ 1000000000) (hb : b ≤ w.heap.size)
    (h : ∀ row' w', RowF w' b row' (l ++ [y]) → w.grownBy w' row.ownBlock → wpList Tryd.prog ops Q rest (a.put o.dst row') w') : wpList Tryd.prog ops Q (o :: rest) a w := by
  refine wpList_plain hgd fun K hK => ?_
  obtain ⟨i0, hi0, hz0, hz1, hz2⟩ := info_parts vF_info
  obtain ⟨v', w', hr, h2, h3, _, h5⟩ := run_append_own_at (P := Tryd.prog) w b 94 o.type 96 i0 _ 4 56 Tryd.underlying94 hi0 hz0 hz1 hz2 rfl (by omega) row l.length (flatF l) hown ⟨g, 0, none⟩ 1 1
    (fl y) rfl (fun j u hu => by
      rw [← World.ownsRow.cells (w := w) (base := 0) (e := 96) (size := 4) (v := .slice (some ⟨g, 0, none⟩) 1 1) (n := 1) (xs := fl y) ⟨rfl, .inr ⟨g, 1, _, rfl, Nat.zero_le _, hg, Nat.le_refl _, by simp [maxLen], rfl, rfl⟩⟩ (g := g) rfl j u hu])
    (by intro u hu; simp [fl] at hu; rcases hu with rfl | rfl | rfl | rfl <;> rfl) (by simp only [maxLen]; omega) (by omega) hb
  unfold Oper.wp execOp
  simp only [ho, resolve, invoke, builtin, Sem.run_bind, Sem.run_pure, Result.andThen_ok, List.map_toArray, List.map_cons, List.map_nil, hs, hx, hr]
  refine hK _ _ (h v' w' ?_ h3)
  unfold RowF
  rw [flatF_append]
  simpa [flatF] using h2
end Go.Proofs.YtnccbhndlnkboaaDoor
/- Rows of values whose lists lie in other blocks of the call. -/
namespace Go.Proofs.YtnccbhndlnkboaaDoor
open Go.RowKit Cdc
set_option linter.unusedVariables false
set_option linter.unusedSimpArgs false

/-- the slice v holds the values l, nested at most d deep, in blocks that S names -/
def RSb (S : Nat → Prop) (w : World) : Nat → List V → Value → Prop
  | 0, l, v => l = [] ∧ ∃ A c, v = .slice A 0 c
  | d + 1, l, v => ∃ A c, v = .slice A l.length c ∧ l.length ≤ c ∧ ∀ i y, l[i]? = some y → ∃ b o v', A = some ⟨b, o, none⟩ ∧ S b ∧
      w.cell? ⟨b, o + i * 4, none⟩ = some (.int .i64 y.k) ∧ w.cell? ⟨b, o + i * 4 + 1, none⟩ = some (.int .i64 y.n) ∧ w.cell? ⟨b, o + i * 4 + 2, none⟩ = some (.string y.s) ∧
      w.cell? ⟨b, o + i * 4 + 3, none⟩ = some v' ∧ RSb S w d y.l v'

theorem RSb.keep {S S' : Nat → Prop} {w w' : World} (hS : ∀ k, S k → S' k) (hk : ∀ k, S k → w'.heap[k]? = w.heap[k]?) : ∀ {d : Nat} {l : List V} {v : Value}, RSb S w d l v → RSb S' w' d l v
  | 0, _, _, h => h
  | d + 1, l, v, h => by
    obtain ⟨A, c, hv, hc, hi⟩ := h
    refine ⟨A, c, hv, hc, fun i y hy => ?_⟩
    obtain ⟨b, o, v', hA, hb, h0, h1, h2, h3, hr⟩ := hi i y hy
    exact ⟨b, o, v', hA, hS b hb, (World.cell?_of_block (a := ⟨b, _, none⟩) (hk b hb)).trans h0, (World.cell?_of_block (a := ⟨b, _, none⟩) (hk b hb)).trans h1, (World.cell?_of_block (a := ⟨b, _, none⟩) (hk b hb)).trans h2, (World.cell?_of_block (a := ⟨b, _, none⟩) (hk b hb)).trans h3, hr.keep hS hk⟩

theorem RSb.rs {S : Nat → Prop} {w : World} (hS : ∀ k, S k → k < w.heap.size) : ∀ {d : Nat} {l : List V} {v : Value}, RSb S w d l v → RS w d l v
  | 0, _, _, h => h
  | d + 1, l, v, h => by
    obtain ⟨A, c, hv, hc, hi⟩ := h
    refine ⟨A, c, hv, hc, fun i y hy => ?_⟩
    obtain ⟨b, o, v', hA, hb, h0, h1, h2, h3, hr⟩ := hi i y hy
    exact ⟨b, o, v', hA, hS b hb, h0, h1, h2, h3, hr.rs hS⟩

theorem RSb.nil (S : Nat → Prop) (w : World) (d : Nat) : RSb S w d [] (.slice none 0 0) := by
  cases d with
  | zero => exact ⟨rfl, none, 0, rfl⟩
  | succ d => exact ⟨none, 0, rfl, Nat.zero_le _, fun i y h => by simp at h⟩

theorem RSb.form {S : Nat → Prop} {w : World} {d : Nat} {l : List V} {v : Value} (h : RSb S w d l v) : ∃ A c, v = .slice A l.length c := by
  cases d with
  | zero => obtain ⟨rfl, A, c, rfl⟩ := h; exact ⟨A, c, rfl⟩
  | succ d => obtain ⟨A, c, hv, _⟩ := h; exact ⟨A, c, hv⟩

theorem cells4 {w : World} {g : Nat} {a b c d : Value} (h : w.heap[g]? = some (.cells #[a, b, c, d] 96 (0, 0))) :
    (w.cell? ⟨g, 0, none⟩ = some a ∧ w.cell? ⟨g, 1, none⟩ = some b ∧ w.cell? ⟨g, 2, none⟩ = some c ∧ w.cell? ⟨g, 3, none⟩ = some d) ∧ w.frozen? ⟨g, 0, none⟩ = false ∧ w.frozen? ⟨g, 1, none⟩ = false ∧ w.frozen? ⟨g, 2, none⟩ = false ∧ w.frozen? ⟨g, 3, none⟩ = false :=
  ⟨by simp [World.cell?, h], frozen_of_row w g 0 _ _ h, frozen_of_row w g 1 _ _ h, frozen_of_row w g 2 _ _ h, frozen_of_row w g 3 _ _ h⟩

def flat : List (V × Value) → List Value
  | [] => []
  | p :: ps => [.int .i64 p.1.k, .int .i64 p.1.n, .string p.1.s, p.2] ++ flat ps

theorem flat_append (a b : List (V × Value)) : flat (a ++ b) = flat a ++ flat b := by
  induction a with
  | nil => rfl
  | cons p a ih => simp only [List.cons_append, flat, ih, List.nil_append]

theorem flat_len (ps : List (V × Value)) : (flat ps).length = ps.length * 4 := by
  induction ps with
  | nil => rfl
  | cons p ps ih => simp only [flat, List.length_append, ih, List.length_cons, List.length_nil]; omega

theorem flat_at {ps : List (V × Value)} {i : Nat} {p : V × Value} (h : ps[i]? = some p) :
    (flat ps)[i * 4]? = some (.int .i64 p.1.k) ∧ (flat ps)[i * 4 + 1]? = some (.int .i64 p.1.n) ∧ (flat ps)[i * 4 + 2]? = some (.string p.1.s) ∧ (flat ps)[i * 4 + 3]? = some p.2 := by
  induction ps generalizing i with
  | nil => simp at h
  | cons q ps ih =>
    cases i with
    | zero => simp at h; subst h; exact ⟨rfl, rfl, rfl, rfl⟩
    | succ i =>
      simp at h
      have := ih h
      have e : (i + 1) * 4 = i * 4 + 4 := by omega
      rw [e]
      exact this

/-- the row holds the values ps, whose own lists lie in other blocks of the call -/
structure RowV (w : World) (b D : Nat) (row : Value) (ps : List (V × Value)) : Prop where
  own : w.ownsRow (b + 1) 96 4 row ps.length (flat ps)
  els : ∀ p ∈ ps, RSb (fun k => b < k ∧ k < w.heap.size ∧ row.ownBlock ≠ some k) w D p.1.l p.2

theorem RowV.lt {w : World} {b D : Nat} {row : Value} {ps : List (V × Value)} (h : RowV w b D row ps) {g : Nat} (hg : row.ownBlock = some g) : b < g ∧ g < w.heap.size := by
  rcases h.own.2 with ⟨rfl, _⟩ | ⟨g', cap, cur, rfl, hb, hh, _⟩
  · cases hg
  · injection hg with hg
    dsimp only at hg
    subst hg
    exact ⟨hb, (Array.getElem?_eq_some_iff.1 hh).1⟩

theorem RowV.rsb {w : World} {b D : Nat} {row : Value} {ps : List (V × Value)} (h : RowV w b D row ps) : RSb (fun k => b < k ∧ k < w.heap.size) w (D + 1) (ps.map (·.1)) row := by
  rcases h.own.2 with ⟨rfl, h0⟩ | ⟨g, cap, cur, rfl, hb, hh, hc, _⟩
  · have : ps = [] := List.length_eq_zero_iff.1 h0
    subst this
    exact RSb.nil _ _ _
  · refine ⟨some ⟨g, 0, none⟩, cap, by simp, by simpa using hc, fun i y hy => ?_⟩
    rw [List.getElem?_map, Option.map_eq_some_iff] at hy
    obtain ⟨p, hp, rfl⟩ := hy
    have hlt : i < ps.length := (List.getElem?_eq_some_iff.1 hp).1
    obtain ⟨f0, f1, f2, f3⟩ := flat_at hp
    have hgl := (Array.getElem?_eq_some_iff.1 hh).1
    have hcell := fun j hj => World.ownsRow.cellAt h.own j hj
    refine ⟨g, 0, p.2, rfl, ⟨by omega, hgl⟩, ?_, ?_, ?_, ?_, (h.els p (List.mem_of_getElem? hp)).keep (fun k hk => ⟨hk.1, hk.2.1⟩) fun _ _ => rfl⟩
    · rw [Nat.zero_add, hcell _ (by omega), f0]
    · rw [Nat.zero_add, hcell _ (by omega), f1]
    · rw [Nat.zero_add, hcell _ (by omega), f2]
    · rw [Nat.zero_add, hcell _ (by omega), f3]

theorem RowV.nil (w : World) (b D : Nat) : RowV w b D (.slice none 0 0) [] := ⟨World.ownsRow_nil w _ _ _, fun p hp => by cases hp⟩

theorem v_info : (Tryd.prog.info? 96).map (fun i => (i.zero, i.size, i.bytes)) = some (some (.agg #[.int .i64 0, .int .i64 0, .string ⟨#[]⟩, .slice none 0 0]), 4, 56) := by kernel_rfl

/-- the append of one value, as a step of a region -/
theorem step_appV {ops : Array Oper} {o : Oper} {a : Act} {K : Act → World → Prop} {Q : Exit → Act → World → Prop} {E : Prop} (w : World) (hgd : o.guard = none) (s x : Operand)
    (ho : o.op = .call { callee := .builtin .append, args := #[s, x], argTypes := #[94, 94] }) (b : Nat) (row : Value) (ps : List (V × Value)) (p : V × Value) (g : Nat)
    (hs : a.eval s = row) (hx : a.eval x = .slice (some ⟨g, 0, none⟩) 1 1) (hown : w.ownsRow (b + 1) 96 4 row ps.length (flat ps)) (hg : w.heap[g]? = some (.cells #[.int .i64 p.1.k, .int .i64 p.1.n, .string p.1.s, p.2] 96 (0, 0)))
    (hp : ∃ A c, p.2 = .slice A p.1.l.length c) (hl : ps.length ≤ 1000000000000) (hb : b + 1 ≤ w.heap.size)
    (h : ∀ row' w', w'.ownsRow (b + 1) 96 4 row' (ps ++ [p]).length (flat (ps ++ [p])) → w.grownBy w' row.ownBlock → (row'.ownBlock = row.ownBlock ∨ row'.ownBlock = some w.heap.size) → K (a.put o.dst row') w') :
    if Region.wanted o (yielded ops a.tmps) = true then Oper.wp Tryd.prog o a w K Q else E := by
  have hw : Region.wanted o (yielded ops a.tmps) = true := by simp [Region.wanted, hgd]
  rw [if_pos hw]
  obtain ⟨i0, hi0, hz0, hz1, hz2⟩ := info_parts v_info
  obtain ⟨A, c, hp2⟩ := hp
  obtain ⟨v', w', hr, h2, h3, _, h5⟩ := run_append_own_at (P := Tryd.prog) w (b + 1) 94 o.type 96 i0 _ 4 56 Tryd.underlying94 hi0 hz0 hz1 hz2 rfl (by omega) row ps.length (flat ps) hown ⟨g, 0, none⟩ 1 1
    [.int .i64 p.1.k, .int .i64 p.1.n, .string p.1.s, p.2] rfl (fun j u hu => by
      rw [← World.ownsRow.cells (w := w) (base := 0) (e := 96) (size := 4) (v := .slice (some ⟨g, 0, none⟩) 1 1) (n := 1) (xs := [.int .i64 p.1.k, .int .i64 p.1.n, .string p.1.s, p.2]) ⟨rfl, .inr ⟨g, 1, _, rfl, Nat.zero_le _, hg, Nat.le_refl _, by simp [maxLen], rfl, rfl⟩⟩ (g := g) rfl j u hu])
    (by intro u hu; simp at hu; rcases hu with rfl | rfl | rfl | rfl <;> first | rfl | (rw [hp2]; rfl)) (by simp only [maxLen]; omega) (by omega) hb
  unfold Oper.wp execOp
  simp only [ho, resolve, invoke, builtin, Sem.run_bind, Sem.run_pure, Result.andThen_ok, List.map_toArray, List.map_cons, List.map_nil, hs, hx, hr]
  refine h v' w' ?_ h3 h5
  rw [flat_append]
  simpa [flat] using h2


/-- one value is appended: the calls of the round made new blocks alone, the row grew, the cell that names it was set -/
theorem RowV.put {wr w1 w2 w3 : World} {b D : Nat} {row row' : Value} {ps : List (V × Value)} {p : V × Value} {o : Obj} (h : RowV wr b D row ps) (hb : b < wr.heap.size) (hR : Below wr.heap.size wr w1)
    (hp : RSb (fun k => wr.heap.size ≤ k ∧ k < w1.heap.size) w1 D p.1.l p.2) (hown : w2.ownsRow (b + 1) 96 4 row' (ps ++ [p]).length (flat (ps ++ [p]))) (hg : (w1.alloc o).grownBy w2 row.ownBlock)
    (hlie : row'.ownBlock = row.ownBlock ∨ row'.ownBlock = some (w1.alloc o).heap.size) (h3 : w2.grownBy w3 (some b)) : RowV w3 b D row' (ps ++ [p]) := by
  have hs1 := hR.size
  have hs2 := hg.size
  have hs3 := h3.size
  simp at hs2
  have hrow' : ∀ g, row'.ownBlock = some g → b < g := by
    intro g hg'
    rcases hown.2 with ⟨rfl, _⟩ | ⟨g', cap, cur, rfl, hb', _⟩
    · cases hg'
    · injection hg' with hg'; dsimp only at hg'; omega
  have hold : ∀ k, b < k → k < w1.heap.size → row.ownBlock ≠ some k → w3.heap[k]? = w1.heap[k]? := by
    intro k h1 h2 h4
    rw [h3.block k (by omega) (fun e => by injection e with e; omega), hg.block k (by simp; omega) (fun e => h4 e.symm), Below.heap_alloc w1 o k h2]
  have hnew : ∀ k, k < w1.heap.size → row.ownBlock ≠ some k → row'.ownBlock ≠ some k := by
    intro k h1 h2
    rcases hlie with e | e
    · rw [e]; exact h2
    · rw [e]; simp; omega
  refine ⟨World.ownsRow.kept hown h3 ?_, fun q hq => ?_⟩
  · cases hg' : row'.ownBlock with
    | none => exact .inl rfl
    | some g => exact .inr (fun e => by injection e with e; have := hrow' g hg'; omega)
  · rcases List.mem_append.1 hq with hq | hq
    · exact (h.els q hq).keep (fun k hk => ⟨hk.1, by omega, hnew k (by omega) hk.2.2⟩) fun k hk => by
        rw [hold k hk.1 (by omega) hk.2.2]
        exact hR.block k hk.2.1
    · simp at hq
      subst hq
      have hne : ∀ k, wr.heap.size ≤ k → row.ownBlock ≠ some k := fun k hk e => by have := (h.lt e).2; omega
      exact hp.keep (fun k hk => ⟨by omega, by omega, hnew k hk.2 (hne k hk.1)⟩) fun k hk => hold k (by omega) hk.2 (hne k hk.1)

theorem ownsRow_below {w w' : World} {base : Nat} {e : TypeId} {size : Nat} {v : Value} {n : Nat} {xs : List Value} (h : w.ownsRow base e size v n xs) (hB : Below w.heap.size w w') : w'.ownsRow base e size v n xs := by
  refine ⟨h.1, ?_⟩
  rcases h.2 with h0 | ⟨g, cap, cur, hv, hb, hh, hr⟩
  · exact .inl h0
  · exact .inr ⟨g, cap, cur, hv, hb, (hB.block g (Array.getElem?_eq_some_iff.1 hh).1).trans hh, hr⟩
/-- a world in which new blocks alone have come -/
theorem RowV.below {w w' : World} {b D : Nat} {row : Value} {ps : List (V × Value)} (h : RowV w b D row ps) (hB : Below w.heap.size w w') : RowV w' b D row ps :=
  ⟨ownsRow_below h.own hB, fun p hp => (h.els p hp).keep (fun k hk => ⟨hk.1, Nat.lt_of_lt_of_le hk.2.1 hB.size, hk.2.2⟩) fun k hk => hB.block k hk.2.1⟩

/-- values that lie in blocks k of a world with a bound -/
theorem RSb.flat {w : World} {S : Nat → Prop} {l : List V} {g n c : Nat} {C : Array Value} {ty : TypeId} (hg : w.heap[g]? = some (.cells C ty (0, 0))) (hC : C = (flatF l).toArray) (hn : l.length = n) (hc : n ≤ c) (hS : S g) (hl : ∀ y ∈ l, y.l = []) : RSb S w 1 l (.slice (some ⟨g, 0, none⟩) n c) := by
  subst hC hn
  refine ⟨some ⟨g, 0, none⟩, c, rfl, hc, fun i y hy => ?_⟩
  obtain ⟨f0, f1, f2, f3⟩ := flatF_at hy
  have hcell := fun j => cell_of_row w g j _ _ _ hg
  refine ⟨g, 0, .slice none 0 0, rfl, hS, ?_, ?_, ?_, ?_, hl y (List.mem_of_getElem? hy), none, 0, rfl⟩
  · rw [show 0 + i * 4 = i * 4 by omega, hcell]; simpa using f0
  · rw [show 0 + i * 4 + 1 = i * 4 + 1 by omega, hcell]; simpa using f1
  · rw [show 0 + i * 4 + 2 = i * 4 + 2 by omega, hcell]; simpa using f2
  · rw [show 0 + i * 4 + 3 = i * 4 + 3 by omega, hcell]; simpa using f3
end Go.Proofs.YtnccbhndlnkboaaDoor
