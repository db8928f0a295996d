/- Slices of posts that are made: one, two. -/
import Derived.Test.YthokpfegfnpmhaaDoorRefOff2
import Derived.Great.Walk
import Derived.Test.YthokpfegfnpmhaaDoorEqText
import Derived.DeepKeys
namespace Go.Proofs.YthokpfegfnpmhaaDoor
open Go.RowKit Go.Shelf Jac Cdc Sha
set_option linter.unusedVariables false
set_option linter.unusedSimpArgs false

set_option maxRecDepth 100000 in
theorem builtSlice_po1 (p : Po) (h : p.root.length = 32) : Tryd.prog.builtSlice 49 1 [(0, .agg (poC p).toArray)] = some (poC p).toArray := by
  obtain ⟨pn, pr, pe, ps⟩ := p
  obtain ⟨p0, p1, p2, p3, p4, p5, p6, p7, p8, p9, p10, p11, p12, p13, p14, p15, p16, p17, p18, p19, p20, p21, p22, p23, p24, p25, p26, p27, p28, p29, p30, p31, rfl⟩ := list32 pr h
  kernel_rfl
set_option maxRecDepth 100000 in
theorem builtSlice_po2 (p q : Po) (h : p.root.length = 32) (h' : q.root.length = 32) : Tryd.prog.builtSlice 49 2 [(0, .agg (poC p).toArray), (1, .agg (poC q).toArray)] = some (poC p ++ poC q).toArray := by
  obtain ⟨pn, pr, pe, ps⟩ := p
  obtain ⟨qn, qr, qe, qs⟩ := q
  obtain ⟨p0, p1, p2, p3, p4, p5, p6, p7, p8, p9, p10, p11, p12, p13, p14, p15, p16, p17, p18, p19, p20, p21, p22, p23, p24, p25, p26, p27, p28, p29, p30, p31, rfl⟩ := list32 pr h
  obtain ⟨q0, q1, q2, q3, q4, q5, q6, q7, q8, q9, q10, q11, q12, q13, q14, q15, q16, q17, q18, q19, q20, q21, q22, q23, q24, q25, q26, q27, q28, q29, q30, q31, rfl⟩ := list32 qr h'
  kernel_rfl
/-- a slice is made of values -/
theorem wp_built {o : Oper} {a : Act} {w : World} {K : Act → World → Prop} {Q : Exit → Act → World → Prop} (t e : TypeId) (n : Nat) (parts : Array (Nat × Operand)) (ho : o.op = .buildSlice t n parts) (hu : Tryd.prog.underlying t = some (.slice e))
    (cells : Array Value) (hf : Tryd.prog.builtSlice e n (parts.map fun (i, x) => (i, a.eval x)).toList = some cells)
    (h : K (a.put o.dst (.slice (some ⟨w.heap.size, 0, none⟩) n n)) (w.alloc (.cells cells e))) : Oper.wp Tryd.prog o a w K Q := by
  unfold Program.builtSlice at hf
  cases hie : Tryd.prog.info? e with
  | none => simp [hie] at hf
  | some ie =>
    simp only [hie] at hf
    cases hz : ie.zero with
    | none => simp [hz] at hf
    | some z =>
      simp only [hz] at hf
      by_cases hc : n * ie.size > 2 ^ 24 ∨ n * ie.size = 0
      · rw [if_pos hc] at hf; cases hf
      · rw [if_neg hc] at hf
        exact wp_buildSlice t e n parts ho _ ie z hu hie hz (fun h' => hc (Or.inl h')) (fun h' => hc (Or.inr h')) hf h
theorem wpList_built {ops : Array Oper} {rest : List Oper} {o : Oper} {a : Act} {w : World} {Q : Exit → Act → World → Prop} (hgd : o.guard = none) (t e : TypeId) (n : Nat) (parts : Array (Nat × Operand)) (ho : o.op = .buildSlice t n parts) (hu : Tryd.prog.underlying t = some (.slice e))
    (cells : Array Value) (hf : Tryd.prog.builtSlice e n (parts.map fun (i, x) => (i, a.eval x)).toList = some cells)
    (h : wpList Tryd.prog ops Q rest (a.put o.dst (.slice (some ⟨w.heap.size, 0, none⟩) n n)) (w.alloc (.cells cells e))) : wpList Tryd.prog ops Q (o :: rest) a w :=
  wpList_plain hgd fun _ hK => wp_built t e n parts ho hu cells hf (hK _ _ h)

/-- posts that lie in one row -/
def psC : List Po → List Value
  | [] => []
  | p :: l => poC p ++ psC l
theorem psC_len {l : List Po} (h : ∀ p ∈ l, p.root.length = 32) : (psC l).length = l.length * 35 := by
  induction l with
  | nil => rfl
  | cons p l ih =>
    simp only [psC, List.length_append, List.length_cons]
    rw [poC_len (h p (by simp)), ih fun q hq => h q (by simp [hq]), Nat.add_mul]
    omega
theorem psC_at {l : List Po} (h : ∀ p ∈ l, p.root.length = 32) {i : Nat} {p : Po} (hi : l[i]? = some p) {j : Nat} {v : Value} (hj : (poC p)[j]? = some v) : (psC l)[i * 35 + j]? = some v := by
  induction l generalizing i with
  | nil => simp at hi
  | cons q l ih =>
    have hq := poC_len (h q (by simp))
    cases i with
    | zero =>
      obtain rfl : q = p := by simpa using hi
      simp only [psC, Nat.zero_mul, Nat.zero_add]
      rw [List.getElem?_append_left (List.getElem?_eq_some_iff.1 hj).1, hj]
    | succ i =>
      simp only [psC]
      rw [List.getElem?_append_right (by rw [hq, Nat.add_mul]; omega), hq, show (i + 1) * 35 + j - 35 = i * 35 + j by omega]
      exact ih (fun r hr => h r (by simp [hr])) (by simpa using hi)
theorem psAt_row {W : World} {g : Nat} {l : List Po} {C : Array Value} {ty : TypeId} (hp : ∀ p ∈ l, p.root.length = 32) (hg : W.heap[g]? = some (.cells C ty (0, 0))) (hC : C = (psC l).toArray) : PsAt W (some ⟨g, 0, none⟩) l := fun i x hi =>
  ⟨g, 0, rfl, (Array.getElem?_eq_some_iff.1 hg).1, fun j v hj => by
    rw [cell_of_row _ _ _ _ _ _ hg, hC, Nat.zero_add]
    simpa using psC_at hp hi hj⟩
end Go.Proofs.YthokpfegfnpmhaaDoor
/- A post compared with itself. -/
namespace Go.Proofs.YthokpfegfnpmhaaDoor
open Go.RowKit Cdc Sha
set_option linter.unusedVariables false
set_option linter.unusedSimpArgs false

structure PoI (p : Po) : Prop where
  no : I64 p.no
  root : p.root.length = 32
  e : I64 p.e
  s : I64 p.s
theorem wf64 {n : Int} (h : I64 n) : (Lit.int .i64 n).wf = true := by
  simp only [Lit.wf]
  have e0 : IntKind.i64.min = -9223372036854775808 := by decide
  have e1 : IntKind.i64.max = 9223372036854775807 := by decide
  rw [e0, e1]
  have := h.1
  have := h.2
  simp
  omega
theorem kInt (D : Nat) {n : Int} (h : I64 n) : Tryd.prog.keyLits (D + 1) 3 [.int .i64 n] = some [.int .i64 n] := by
  simp [Program.keyLits, Tryd.underlying3, wf64 h]
theorem k8 (D : Nat) (x : UInt8) : Tryd.prog.keyLits (D + 1) 5 [by1 x] = some [.int .u8 (x.toNat : Int)] := by
  simp [Program.keyLits, by1, Tryd.underlying5, wf8 x]
theorem kDg (D : Nat) (r : List UInt8) (h : r.length = 32) : Tryd.prog.keyLits (D + 2) 35 (r.map by1) = some (r.map fun x => Lit.int .u8 (x.toNat : Int)) := by
  have hc : Tryd.prog.cellsOf 5 = 1 := by kernel_rfl
  have hd : Tryd.prog.cellsOf 35 = 32 := by kernel_rfl
  unfold Program.keyLits
  rw [Tryd.underlying35]
  simp only
  rw [if_pos (by rw [hd, List.length_map, h])]
  have hm : (List.range 32).mapM (fun i => Tryd.prog.keyLits (D + 1) 5 (((r.map by1).drop (i * Tryd.prog.cellsOf 5)).take (Tryd.prog.cellsOf 5))) = some ((List.range 32).map fun i => [Lit.int .u8 ((r.getD i 0).toNat : Int)]) := by
    refine mapM_some _ _ _ fun i hi => ?_
    have hlt : i < r.length := by rw [h]; simpa using hi
    have e : ((r.map by1).drop (i * Tryd.prog.cellsOf 5)).take (Tryd.prog.cellsOf 5) = [by1 (r.getD i 0)] := by
      rw [hc, Nat.mul_one]
      have : (r.map by1).drop i = by1 (r.getD i 0) :: (r.map by1).drop (i + 1) := by
        rw [List.drop_eq_getElem_cons (by simpa using hlt)]
        simp [List.getD_eq_getElem?_getD, List.getElem?_eq_getElem hlt]
      rw [this]
      rfl
    rw [e]
    exact k8 D _
  rw [hm]
  have e2 := flat_lits r
  rw [h] at e2
  simp only [Option.map_some]
  rw [e2]
theorem kSig (D : Nat) {e s : Int} (he : I64 e) (hs : I64 s) : Tryd.prog.keyLits (D + 2) 47 [.int .i64 e, .int .i64 s] = some [.int .i64 e, .int .i64 s] := by
  have h1 : Tryd.prog.cellsOf 3 = 1 := by kernel_rfl
  have h2 : Tryd.prog.cellsOf 47 = 2 := by kernel_rfl
  unfold Program.keyLits
  rw [Tryd.underlying47]
  simp [h1, h2, kInt D he, kInt D hs]
theorem kPo (D : Nat) {p : Po} (h : PoI p) : ∃ l, Tryd.prog.keyLits (D + 3) 49 (poC p) = some l := by
  have h1 : Tryd.prog.cellsOf 3 = 1 := by kernel_rfl
  have h2 : Tryd.prog.cellsOf 47 = 2 := by kernel_rfl
  have h3 : Tryd.prog.cellsOf 35 = 32 := by kernel_rfl
  have h4 : Tryd.prog.cellsOf 49 = 35 := by kernel_rfl
  have e0 : (poC p).take 1 = [.int .i64 p.no] := rfl
  have e1 : ((poC p).drop 1).take 32 = p.root.map by1 := by
    simp only [poC, List.drop_succ_cons, List.drop_zero]
    rw [List.take_append_of_le_length (by simp [h.root])]
    exact List.take_of_length_le (by simp [h.root])
  have e2 : ((poC p).drop 33).take 2 = [.int .i64 p.e, .int .i64 p.s] := by
    show ((.int .i64 p.no :: (p.root.map by1 ++ [.int .i64 p.e, .int .i64 p.s]) : List Value).drop (32 + 1)).take 2 = _
    rw [List.drop_succ_cons, List.drop_append, List.drop_of_length_le (by simp [h.root])]
    simp [h.root]
  have e3 : (poC p).tail.take 32 = p.root.map by1 := by rw [← List.drop_one]; exact e1
  unfold Program.keyLits
  rw [Tryd.underlying49]
  simp [h1, h2, h3, h4, poC_len h.root, e0, e3, e2, kInt (D + 1) h.no, kDg D p.root h.root, kSig D h.e h.s]
theorem eq_po {p : Po} (h : PoI p) (W : World) : (Op.equalIn 10000 49 (.agg (poC p).toArray) (.agg (poC p).toArray)).run Tryd.prog W = .ok true W := by
  obtain ⟨l, hl⟩ := kPo 5 h
  have hf : (Value.agg (poC p).toArray).formed Tryd.prog 49 = true := by
    have h4 : Tryd.prog.cellsOf 49 = 35 := by kernel_rfl
    simp only [Value.formed, Tryd.underlying49, h4]
    simp [poC_len h.root]
  obtain ⟨r, hr, hiff⟩ := run_equalIn_deep 9997 3 49 (by kernel_rfl) W _ _ _ _ l l hf hf hl hl
  rw [hiff.2 rfl] at hr
  exact hr
end Go.Proofs.YthokpfegfnpmhaaDoor
