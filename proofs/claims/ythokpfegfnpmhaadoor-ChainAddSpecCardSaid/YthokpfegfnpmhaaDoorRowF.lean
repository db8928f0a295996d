/- Rows of flat values (numbers and texts) that a call builds; bytes as a string. -/
import Derived.Test.YthokpfegfnpmhaaDoorConcat
import Derived.Test.YthokpfegfnpmhaaDoorEncode
import Derived.Lib.BufferRead
namespace Go.Proofs.YthokpfegfnpmhaaDoor
open Go.RowKit Cdc
set_option linter.unusedVariables false
set_option linter.unusedSimpArgs false

/-- string(b) -/
theorem AtO.conv {w : World} {A : Option Addr} {xs : List UInt8} (h : AtO w A xs) (n c : Nat) (hn : xs.length = n) :
    (convert 23 9 (.slice A n c)).run Tryd.prog w = .ok (.string ⟨xs.toArray⟩) w := by
  subst hn
  cases A with
  | none =>
    cases xs with
    | nil => exact Lib.run_convert_nil_bytes w _ _ 5 c Tryd.underlying23 Tryd.underlying5 Tryd.underlying9
    | cons b xs =>
      obtain ⟨_, _, hA, _⟩ := h 0 b rfl
      cases hA
  | some a =>
    exact run_convert_bytes_back w _ _ 5 a c xs Tryd.underlying23 Tryd.underlying5 Tryd.underlying9 (fun j hj => by
      obtain ⟨ab, ao, hA, hc⟩ := h j xs[j] (List.getElem?_eq_getElem hj)
      cases hA
      rw [addr_add]
      exact hc)

/-- a value without parts -/
def fl (y : V) : List Value := [.int .i64 y.k, .int .i64 y.n, .string y.s, .slice none 0 0]
def flatF : List V → List Value
  | [] => []
  | y :: l => fl y ++ flatF l
theorem flatF_append (a b : List V) : flatF (a ++ b) = flatF a ++ flatF b := by
  induction a with
  | nil => rfl
  | cons y a ih => simp only [List.cons_append, flatF, ih, List.append_assoc]
theorem flatF_len (l : List V) : (flatF l).length = l.length * 4 := by
  induction l with
  | nil => rfl
  | cons y l ih => simp only [flatF, List.length_append, ih, List.length_cons, fl, List.length_nil]; omega
theorem flatF_at {l : List V} {i : Nat} {y : V} (h : l[i]? = some y) : (flatF l)[i * 4]? = some (.int .i64 y.k) ∧ (flatF l)[i * 4 + 1]? = some (.int .i64 y.n) ∧ (flatF l)[i * 4 + 2]? = some (.string y.s) ∧ (flatF l)[i * 4 + 3]? = some (.slice none 0 0) := by
  induction l generalizing i with
  | nil => simp at h
  | cons q l ih =>
    cases i with
    | zero => simp at h; subst h; exact ⟨rfl, rfl, rfl, rfl⟩
    | succ i =>
      simp at h
      have := ih h
      have e : (i + 1) * 4 = i * 4 + 4 := by omega
      rw [e]
      exact this

/-- the row holds the flat values l -/
def RowF (w : World) (b : Nat) (row : Value) (l : List V) : Prop := w.ownsRow b 80 4 row l.length (flatF l)
theorem RowF.nil (w : World) (b : Nat) : RowF w b (.slice none 0 0) [] := World.ownsRow_nil w _ _ _
theorem RowF.alloc {w : World} {b : Nat} {row : Value} {l : List V} (h : RowF w b row l) (o : Obj) : RowF (w.alloc o) b row l := World.ownsRow.alloc h o
theorem RowF.form {w : World} {b : Nat} {row : Value} {l : List V} (h : RowF w b row l) : ∃ A c, row = .slice A l.length c := by
  rcases h.2 with ⟨rfl, h0⟩ | ⟨g', cap, cur, rfl, _, hh, _⟩
  · rw [h0]; exact ⟨_, _, rfl⟩
  · exact ⟨_, _, rfl⟩
theorem RowF.form3 {w : World} {b : Nat} {row : Value} {l : List V} (h : RowF w b row l) : ∃ A m c, row = .slice A m c := by
  obtain ⟨A, c, h⟩ := h.form
  exact ⟨A, _, c, h⟩
theorem RowF.high {w : World} {b : Nat} {row : Value} {l : List V} (h : RowF w b row l) {g : Nat} (hg : row.ownBlock = some g) : b ≤ g ∧ g < w.heap.size := by
  rcases h.2 with ⟨rfl, _⟩ | ⟨g', cap, cur, rfl, hb, hh, _⟩
  · cases hg
  · injection hg with hg
    dsimp only at hg
    subst hg
    exact ⟨hb, (Array.getElem?_eq_some_iff.1 hh).1⟩
theorem RowF.rs {w : World} {b : Nat} {row : Value} {l : List V} (h : RowF w b row l) (hl : ∀ y ∈ l, y.l = []) : RS w 1 l row := by
  rcases h.2 with ⟨rfl, h0⟩ | ⟨g, cap, cur, rfl, hb, hh, hc, _⟩
  · obtain rfl : l = [] := List.length_eq_zero_iff.1 h0
    exact RS.nil _ _ _ _
  · refine ⟨some ⟨g, 0, none⟩, cap, rfl, hc, fun i y hy => ?_⟩
    have hlt : i < l.length := (List.getElem?_eq_some_iff.1 hy).1
    obtain ⟨f0, f1, f2, f3⟩ := flatF_at hy
    have hcell := fun j hj => World.ownsRow.cellAt h j hj
    refine ⟨g, 0, .slice none 0 0, rfl, (Array.getElem?_eq_some_iff.1 hh).1, ?_, ?_, ?_, ?_, hl y (List.mem_of_getElem? hy), none, 0, rfl⟩
    · rw [Nat.zero_add, hcell _ (by omega), f0]
    · rw [Nat.zero_add, hcell _ (by omega), f1]
    · rw [Nat.zero_add, hcell _ (by omega), f2]
    · rw [Nat.zero_add, hcell _ (by omega), f3]

theorem vF_info : (Tryd.prog.info? 80).map (fun i => (i.zero, i.size, i.bytes)) = some (some (.agg #[.int .i64 0, .int .i64 0, .string ⟨#[]⟩, .slice none 0 0]), 4, 56) := by kernel_rfl

/-- the append of one flat value that lies in a block of its own -/
theorem wpList_appF {ops : Array Oper} {rest : List Oper} {o : Oper} {a : Act} {Q : Exit → Act → World → Prop} (w : World) (hgd : o.guard = none) (s x : Operand)
    (ho : o.op = .call { callee := .builtin .append, args := #[s, x], argTypes := #[78, 78] }) (b : Nat) (row : Value) (l : List V) (y : V) (g : Nat)
    (hs : a.eval s = row) (hx : a.eval x = .slice (some ⟨g, 0, none⟩) 1 1) (hown : RowF w b row l) (hg : w.heap[g]? = some (.cells #[.int .i64 y.k, .int .i64 y.n, .string y.s, .slice none 0 0] 80 (0, 0)))
    (hl : l.length ≤ 1000000000) (hb : b ≤ w.heap.size)
    (h : ∀ row' w', RowF w' b row' (l ++ [y]) → w.grownBy w' row.ownBlock → wpList Tryd.prog ops Q rest (a.put o.dst row') w') : wpList Tryd.prog ops Q (o :: rest) a w := by
  refine wpList_plain hgd fun K hK => ?_
  obtain ⟨i0, hi0, hz0, hz1, hz2⟩ := info_parts vF_info
  obtain ⟨v', w', hr, h2, h3, _, h5⟩ := run_append_own_at (P := Tryd.prog) w b 78 o.type 80 i0 _ 4 56 Tryd.underlying78 hi0 hz0 hz1 hz2 rfl (by omega) row l.length (flatF l) hown ⟨g, 0, none⟩ 1 1
    (fl y) rfl (fun j u hu => by
      rw [← World.ownsRow.cells (w := w) (base := 0) (e := 80) (size := 4) (v := .slice (some ⟨g, 0, none⟩) 1 1) (n := 1) (xs := fl y) ⟨rfl, .inr ⟨g, 1, _, rfl, Nat.zero_le _, hg, Nat.le_refl _, by simp [maxLen], rfl, rfl⟩⟩ (g := g) rfl j u hu])
    (by intro u hu; simp [fl] at hu; rcases hu with rfl | rfl | rfl | rfl <;> rfl) (by simp only [maxLen]; omega) (by omega) hb
  unfold Oper.wp execOp
  simp only [ho, resolve, invoke, builtin, Sem.run_bind, Sem.run_pure, Result.andThen_ok, List.map_toArray, List.map_cons, List.map_nil, hs, hx, hr]
  refine hK _ _ (h v' w' ?_ h3)
  unfold RowF
  rw [flatF_append]
  simpa [flatF] using h2
end Go.Proofs.YthokpfegfnpmhaaDoor
