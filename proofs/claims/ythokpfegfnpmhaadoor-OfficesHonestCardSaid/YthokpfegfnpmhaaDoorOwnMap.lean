/- A map of calendars by their number, of the call's own. -/
import Derived.Test.YthokpfegfnpmhaaDoorOpenPo
import Derived.Test.YthokpfegfnpmhaaDoorOwnPo
import Derived.Maps.OwnSet
import Derived.Maps.Views
namespace Go.Proofs.YthokpfegfnpmhaaDoor
open Go.RowKit Cdc Sha Go.Maps
set_option linter.unusedVariables false
set_option linter.unusedSimpArgs false

/-- every element reads as itself -/
def RV (v : Value) : Option (DataW Value × List MemPlace) := some (.held v, [])
/-- a map in block b -/
def MapC (w : World) (b n : Nat) (D : DataW Value) : Prop := w.ownsMap Tryd.prog 3 RV b n D
theorem int_key : Keyed Tryd.prog 3 := int_keyed Tryd.underlying3
theorem key_int {k : Int} (h : I64 k) : keyOf Tryd.prog 3 (.int .i64 k) = some (.int .i64 k) := keyOf_int_mk Tryd.underlying3 (wf64 h)
theorem zero_cal (w : World) : (zeroValue 45).run Tryd.prog w = .ok (.agg #[.int .i64 0, .slice none 0 0]) w := by
  have h : (Tryd.prog.info? 45).bind (·.zero) = some (.agg #[.int .i64 0, .slice none 0 0]) := by kernel_rfl
  obtain ⟨i, hi, hz⟩ := Option.bind_eq_some_iff.1 h
  simp [zeroValue, typeInfo, hi, hz]

set_option maxRecDepth 100000 in
theorem look_none {w : World} {b n : Nat} {D : DataW Value} {k : Int} (h : MapC w b n D) (hk : I64 k) (hM : ∀ zd, D.atKey (.int .i64 k) zd = zd) :
    (Instr.lookup 64 (.map (some b)) (.int .i64 k) true).run Tryd.prog w = .ok (.tuple #[.agg #[.int .i64 0, .slice none 0 0], .bool false]) w := by
  obtain ⟨es, clock, hb, F, _, rfl⟩ := h
  rcases fit_look true int_key Tryd.underlying64 (zero_cal w) hb F (key_int hk) with ⟨hrun, _, _⟩ | ⟨e0, y, _, _, _, hR, hat, _⟩
  · exact hrun
  · have h1 := (hat .nil).symm.trans (hM .nil)
    unfold RV at hR
    cases hR
    cases h1
set_option maxRecDepth 100000 in
theorem look_some {w : World} {b n : Nat} {D : DataW Value} {k : Int} {v : Value} (h : MapC w b n D) (hk : I64 k) (hM : ∀ zd, D.atKey (.int .i64 k) zd = .held v) :
    (Instr.lookup 64 (.map (some b)) (.int .i64 k) true).run Tryd.prog w = .ok (.tuple #[v, .bool true]) w := by
  obtain ⟨es, clock, hb, F, _, rfl⟩ := h
  rcases fit_look true int_key Tryd.underlying64 (zero_cal w) hb F (key_int hk) with ⟨_, _, hat⟩ | ⟨e0, y, _, _, hrun, hR, hat, _⟩
  · have h1 := (hat .nil).symm.trans (hM .nil)
    cases h1
  · have h1 := (hat .nil).symm.trans (hM .nil)
    unfold RV at hR
    cases hR
    injection h1 with h1
    rw [h1] at hrun
    exact hrun
set_option maxRecDepth 100000 in
theorem wpList_look {ops : Array Oper} {rest : List Oper} {o : Oper} {a : Act} {Q : Exit → Act → World → Prop} {w : World} (hgd : o.guard = none) (m x : Operand) (hop : o.op = .lookup 64 m x true) (b : Nat) (k : Int) (v : Value)
    (hm : a.eval m = .map (some b)) (hx : a.eval x = .int .i64 k) (hrun : (Instr.lookup 64 (.map (some b)) (.int .i64 k) true).run Tryd.prog w = .ok v w)
    (h : wpList Tryd.prog ops Q rest (a.put o.dst v) w) : wpList Tryd.prog ops Q (o :: rest) a w := by
  refine wpList_plain hgd fun K hK => ?_
  unfold Oper.wp
  simp [execOp, hop, hm, hx, hrun, Result.andThen]
  exact hK _ _ h
theorem wpList_upd {ops : Array Oper} {rest : List Oper} {o : Oper} {a : Act} {Q : Exit → Act → World → Prop} (w : World) (hgd : o.guard = none) (m x y : Operand) (hop : o.op = .mapUpdate 64 m x y) (b n : Nat) (D : DataW Value) (k : Int) (v : Value)
    (hm : a.eval m = .map (some b)) (hx : a.eval x = .int .i64 k) (hy : a.eval y = v) (hk : I64 k) (hown : MapC w b n D) (hn : n < 1000)
    (h : ∀ w', MapC w' b (n + 1) (D.put (.int .i64 k) (.held v)) → w.grownBy w' (some b) → wpList Tryd.prog ops Q rest (a.put o.dst undef) w') : wpList Tryd.prog ops Q (o :: rest) a w :=
  wpList_mapUpdate_own w hgd m x y _ hop _ _ int_key Tryd.underlying64 RV b n D hm hown (by simp only [maxLen]; omega) _ _ (.int .i64 k) hx hy (key_int hk) (.held v) [] rfl h

theorem wpList_makeMap {ops : Array Oper} {rest : List Oper} {o : Oper} {a : Act} {Q : Exit → Act → World → Prop} {w : World} (hgd : o.guard = none) (ty : TypeId) (ho : o.op = .makeMap ty none)
    (h : wpList Tryd.prog ops Q rest (a.put o.dst (.map (some w.heap.size))) (w.alloc (.map #[] 0))) : wpList Tryd.prog ops Q (o :: rest) a w := by
  refine wpList_plain hgd fun K hK => ?_
  have hr : (Instr.makeMap ty none).run Tryd.prog w = .ok (.map (some w.heap.size)) (w.alloc (.map #[] 0)) := rfl
  unfold Oper.wp execOp
  simp only [ho, Sem.run_bind, Option.map_none, hr, Result.andThen_ok]
  exact hK _ _ h
theorem MapC.below {w w' : World} {b n : Nat} {D : DataW Value} (h : MapC w b n D) (hB : Below w.heap.size w w') : MapC w' b n D := by
  obtain ⟨es, clock, hb, F, hs, hD⟩ := h
  exact ⟨es, clock, (hB.block b (Array.getElem?_eq_some_iff.1 hb).1).trans hb, F, hs, hD⟩
theorem MapC.kept {w w' : World} {b n : Nat} {D : DataW Value} {r : Option Nat} (h : MapC w b n D) (hg : w.grownBy w' r) (hne : some b ≠ r) : MapC w' b n D := World.ownsMap.kept h hg hne
theorem MapC.made (w : World) : MapC (w.alloc (.map #[] 0)) w.heap.size 0 (.map []) := World.ownsMap_made w _ _ _

/-- what the map says: calendars by their number, read in w -/
def Rep (w : World) (D : DataW Value) (M : Int → Option Cal) : Prop := IsMap D ∧ ∀ k : Int, match M k with
  | none => ∀ zd, D.atKey (.int .i64 k) zd = zd
  | some y => ∃ B c, (∀ zd, D.atKey (.int .i64 k) zd = .held (.agg #[.int .i64 y.no, .slice B y.fx.length c])) ∧ y.no = k ∧ y.fx.length ≤ c ∧ FxAt w B y.fx ∧ (∀ f ∈ y.fx, FxI f) ∧ y.fx.length ≤ 1100
theorem Rep.none (w : World) : Rep w (.map []) fun _ => none := ⟨⟨[], rfl⟩, fun k zd => rfl⟩
theorem Rep.put {w : World} {D : DataW Value} {M : Int → Option Cal} (h : Rep w D M) (x : Cal) (B : Option Addr) (c : Nat) (hc : x.fx.length ≤ c) (hB : FxAt w B x.fx) (hI : ∀ f ∈ x.fx, FxI f) (hl : x.fx.length ≤ 1100) :
    Rep w (D.put (.int .i64 x.no) (.held (.agg #[.int .i64 x.no, .slice B x.fx.length c]))) fun k => if k = x.no then some x else M k := by
  have hk : ∀ k : Int, WideAt.IsKeyLit (.int .i64 k) := fun k => trivial
  refine ⟨IsMap.put h.1 _ _, fun k => ?_⟩
  by_cases e : k = x.no
  · subst e
    simp only [if_true]
    exact ⟨B, c, fun zd => atKey_put_same h.1 (hk _) _ _, trivial, hc, hB, hI, hl⟩
  · simp only [if_neg e]
    have hne : (Lit.int .i64 k) ≠ .int .i64 x.no := fun e' => e (by injection e')
    have h1 := h.2 k
    cases hM : M k with
    | none =>
      rw [hM] at h1
      exact fun zd => (atKey_put_other hne _ _).trans (h1 zd)
    | some y =>
      rw [hM] at h1
      obtain ⟨B', c', h2, h3⟩ := h1
      exact ⟨B', c', fun zd => (atKey_put_other hne _ _).trans (h2 zd), h3⟩

/-- an operation that builds a value, guarded -/
theorem wpList_buildG {ops : Array Oper} {rest : List Oper} {o : Oper} {a : Act} {w : World} {Q : Exit → Act → World → Prop} (hgd : Region.wanted o (yielded ops a.tmps) = true) (t : TypeId) (parts : Array (Nat × Operand)) (ho : o.op = .build t parts)
    (cells : Array Value) (hf : Tryd.prog.built t (parts.map fun (i, x) => (i, a.eval x)).toList = some cells)
    (h : wpList Tryd.prog ops Q rest (a.put o.dst (.agg cells)) w) : wpList Tryd.prog ops Q (o :: rest) a w := by
  unfold wpList
  rw [if_pos hgd]
  exact .inl (wp_build t parts ho (by rw [hf]; rfl) (by rw [hf]; exact h))
theorem built_zero : Tryd.prog.built 49 [] = some (poC poZ).toArray := by kernel_rfl
theorem cal_info : (Tryd.prog.info? 45).map (·.size) = some 2 := by kernel_rfl
theorem cell_grown {a b : World} {r : Option Nat} (h : a.grownBy b r) {p : Addr} (hp : p.block < a.heap.size) (hne : some p.block ≠ r) : b.cell? p = a.cell? p := by
  simp [World.cell?, h.block p.block hp hne]
theorem RowP.upd {w w' : World} {b : Nat} {row : Value} {l : List Po} (h : RowP w (b + 1) row l) (hg : w.grownBy w' (some b)) : RowP w' (b + 1) row l := by
  refine World.ownsRow.kept h hg ?_
  cases hg' : row.ownBlock with
  | none => exact .inl rfl
  | some g => exact .inr (fun e => by injection e with e; have := (h.high hg').1; omega)

theorem cells_upd {w w' : World} {g bm : Nat} {a b : Value} (h : w.cell? ⟨g, 0, none⟩ = some a ∧ w.cell? ⟨g, 1, none⟩ = some b) (hg : w.grownBy w' (some bm)) (hne : bm < g) :
    ∀ V, Below w'.heap.size w' V → V.cell? ⟨g, 0, none⟩ = some a ∧ V.cell? ⟨g, 1, none⟩ = some b := fun V hV => by
  have hlt := World.block_lt_of_cell? w _ h.1
  have hlt' : g < w'.heap.size := Nat.lt_of_lt_of_le hlt hg.size
  have hn : (some g : Option Nat) ≠ some bm := fun e => by injection e with e; omega
  exact ⟨(hV.cell (p := ⟨g, 0, none⟩) hlt').trans ((cell_grown hg (p := ⟨g, 0, none⟩) hlt hn).trans h.1), (hV.cell (p := ⟨g, 1, none⟩) hlt').trans ((cell_grown hg (p := ⟨g, 1, none⟩) hlt hn).trans h.2)⟩
/-- the posts of an office that has announced one calendar for each number -/
def AllI (M : Int → Option Cal) (all : List Po) : Prop := ∀ p ∈ all, PoI p ∧ ∃ y, M p.no = some y ∧ p.root = calD y
theorem AllI.nil (M : Int → Option Cal) : AllI M [] := fun p hp => by cases hp
theorem AllI.more {M M' : Int → Option Cal} {all : List Po} (h : AllI M all) (hM : ∀ k y, M k = some y → M' k = some y) : AllI M' all := fun p hp => by
  obtain ⟨h1, y, h2, h3⟩ := h p hp
  exact ⟨h1, y, hM _ _ h2, h3⟩
theorem AllI.add {M : Int → Option Cal} {all : List Po} (h : AllI M all) {p : Po} (hp : PoI p) {y : Cal} (hy : M p.no = some y) (hr : p.root = calD y) : AllI M (all ++ [p]) := fun q hq => by
  rcases List.mem_append.1 hq with h1 | h1
  · exact h q h1
  · simp at h1
    subst h1
    exact ⟨hp, y, hy, hr⟩
/-- posts of others, and of the office -/
def Mine (K : Int) (all : List Po) (L : List Po) : Prop := ∀ p ∈ L, PoI p ∧ (ckP K p = false ∨ p ∈ all)
theorem Mine.nil (K : Int) (all : List Po) : Mine K all [] := fun p hp => by cases hp
theorem Mine.add {K : Int} {all L : List Po} (h : Mine K all L) {p : Po} (hp : PoI p) (h1 : ckP K p = false ∨ p ∈ all) : Mine K all (L ++ [p]) := fun q hq => by
  rcases List.mem_append.1 hq with h2 | h2
  · exact h q h2
  · simp at h2
    subst h2
    exact ⟨hp, h1⟩
theorem Mine.set {K : Int} {all L : List Po} (h : Mine K all L) {p : Po} (hp : p ∈ L) (i : Nat) : Mine K all (L.set i p) := fun q hq => by
  rcases List.mem_or_eq_of_mem_set hq with h2 | h2
  · exact h q h2
  · rw [h2]; exact h p hp
theorem Mine.put {K : Int} {all L : List Po} (h : Mine K all L) {p : Po} (hp : PoI p ∧ (ckP K p = false ∨ p ∈ all)) (i : Nat) : Mine K all (L.set i p) := fun q hq => by
  rcases List.mem_or_eq_of_mem_set hq with h2 | h2
  · exact h q h2
  · rw [h2]; exact hp
/-- nobody of them convicts another -/
theorem Mine.no {K : Int} {M : Int → Option Cal} {all L : List Po} (hA : AllI M all) (h : Mine K all L) {a b : Po} (ha : a ∈ L) (hb : b ∈ L) : cvP K a b = false := by
  rcases (h a ha).2 with h1 | h1
  · simp [cvP, h1]
  · rcases (h b hb).2 with h2 | h2
    · simp [cvP, h2]
    · obtain ⟨_, y, hy, hr⟩ := hA a h1
      obtain ⟨_, z, hz, hs⟩ := hA b h2
      by_cases e : a.no = b.no
      · rw [e, hz] at hy
        cases hy
        simp [cvP, hr, hs]
      · simp [cvP, e]
theorem Mine.find {K : Int} {M : Int → Option Cal} {all L : List Po} (hA : AllI M all) (h : Mine K all L) {i j : Nat} {ok : Bool} (hF : FindP K L i j ok) : i = 0 ∧ j = 0 ∧ ok = false := by
  rcases hF with ⟨_, _, a, b, ha, hb, hc, _⟩ | ⟨h1, h2, h3, _⟩
  · rw [Mine.no hA h (List.mem_of_getElem? ha) (List.mem_of_getElem? hb)] at hc
    cases hc
  · exact ⟨h2, h3, h1⟩
end Go.Proofs.YthokpfegfnpmhaaDoor
