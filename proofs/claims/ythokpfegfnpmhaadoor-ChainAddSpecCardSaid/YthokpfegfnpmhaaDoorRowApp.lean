/- A link built, and appended to a list of links. -/
import Derived.Test.YthokpfegfnpmhaaDoorPartTwo
import Derived.ArgAppend
import Derived.Great.BuildSlice
import Derived.Deep.RegionHeldLaw
import Derived.Test.YthokpfegfnpmhaaDoorConcat
import Derived.Lib.SliceRun
import Derived.Great.Walk
namespace Go.Proofs.YthokpfegfnpmhaaDoor
open Go.RowKit Cdc Sha
set_option linter.unusedVariables false
set_option linter.unusedSimpArgs false

theorem list32 {α : Type} (l : List α) (h : l.length = 32) : ∃ p0 p1 p2 p3 p4 p5 p6 p7 p8 p9 p10 p11 p12 p13 p14 p15 p16 p17 p18 p19 p20 p21 p22 p23 p24 p25 p26 p27 p28 p29 p30 p31 : α, l = [p0, p1, p2, p3, p4, p5, p6, p7, p8, p9, p10, p11, p12, p13, p14, p15, p16, p17, p18, p19, p20, p21, p22, p23, p24, p25, p26, p27, p28, p29, p30, p31] := by
  match l, h with
  | [p0, p1, p2, p3, p4, p5, p6, p7, p8, p9, p10, p11, p12, p13, p14, p15, p16, p17, p18, p19, p20, p21, p22, p23, p24, p25, p26, p27, p28, p29, p30, p31], _ => exact ⟨p0, p1, p2, p3, p4, p5, p6, p7, p8, p9, p10, p11, p12, p13, p14, p15, p16, p17, p18, p19, p20, p21, p22, p23, p24, p25, p26, p27, p28, p29, p30, p31, rfl⟩
set_option maxRecDepth 100000 in
theorem built_lk (x : Lk) (h : x.prev.length = 32) (A : Option Addr) (n c : Nat) : Tryd.prog.built 37 [(0, .int .i64 x.node), (1, .int .i64 x.no), (2, .agg (dg x.prev)), (3, .slice A n c)] = some (lkA x (.slice A n c)) := by
  obtain ⟨xn, xo, xp, xd⟩ := x
  obtain ⟨p0, p1, p2, p3, p4, p5, p6, p7, p8, p9, p10, p11, p12, p13, p14, p15, p16, p17, p18, p19, p20, p21, p22, p23, p24, p25, p26, p27, p28, p29, p30, p31, rfl⟩ := list32 xp h
  kernel_rfl

/-- the cells of a list of lists of one length -/
theorem flat_get {α : Type} (k : Nat) : ∀ (L : List (List α)), (∀ x ∈ L, x.length = k) → ∀ (i : Nat) (x : List α), L[i]? = some x → ∀ (j : Nat) (v : α), x[j]? = some v → L.flatten[i * k + j]? = some v
  | [], _, i, x, hx, _, _, _ => by simp at hx
  | y :: L, h, 0, x, hx, j, v, hj => by
    simp at hx
    subst hx
    rw [Nat.zero_mul, Nat.zero_add, List.flatten_cons, List.getElem?_append_left (List.getElem?_eq_some_iff.1 hj).1, hj]
  | y :: L, h, i + 1, x, hx, j, v, hj => by
    have hy := h y (by simp)
    rw [List.flatten_cons, List.getElem?_append_right (by rw [hy, Nat.add_mul]; omega), hy, show (i + 1) * k + j - k = i * k + j by rw [Nat.add_mul]; omega]
    exact flat_get k L (fun z hz => h z (by simp [hz])) i x (by simpa using hx) j v hj
theorem flat_len {α : Type} (k : Nat) : ∀ (L : List (List α)), (∀ x ∈ L, x.length = k) → L.flatten.length = L.length * k
  | [], _ => by simp
  | y :: L, h => by rw [List.flatten_cons, List.length_append, h y (by simp), flat_len k L (fun z hz => h z (by simp [hz])), List.length_cons, Nat.add_mul]; omega
theorem flat_split {α : Type} (k : Nat) (hk : 0 < k) (L : List (List α)) (h : ∀ x ∈ L, x.length = k) (j : Nat) (v : α) (hj : L.flatten[j]? = some v) : ∃ x, L[j / k]? = some x ∧ x[j % k]? = some v := by
  have hlt := (List.getElem?_eq_some_iff.1 hj).1
  rw [flat_len k L h] at hlt
  have hi : j / k < L.length := (Nat.div_lt_iff_lt_mul hk).2 hlt
  have hx : L[j / k]? = some (L[j / k]'hi) := List.getElem?_eq_getElem hi
  have hl := h _ (List.mem_of_getElem? hx)
  have hm : j % k < (L[j / k]'hi).length := by rw [hl]; exact Nat.mod_lt _ hk
  have hv : (L[j / k]'hi)[j % k]? = some ((L[j / k]'hi)[j % k]'hm) := List.getElem?_eq_getElem hm
  have := flat_get k L h (j / k) _ hx (j % k) _ hv
  rw [Nat.mul_comm, Nat.div_add_mod, hj] at this
  exact ⟨_, hx, by rw [hv, this]⟩

/-- the lists of cells of links, with where their data lies -/
def lkRows (l : List Lk) (Ds : List Value) : List (List Value) := l.zipWith lkC Ds
theorem lkRows_len (l : List Lk) (Ds : List Value) (hp : ∀ x ∈ l, x.prev.length = 32) : ∀ r ∈ lkRows l Ds, r.length = 35 := fun r hr => by
  obtain ⟨i, hi⟩ := List.mem_iff_getElem?.1 hr
  unfold lkRows at hi
  rw [List.getElem?_zipWith] at hi
  cases h1 : l[i]? with
  | none => rw [h1] at hi; simp at hi
  | some x =>
    cases h2 : Ds[i]? with
    | none => rw [h1, h2] at hi; simp at hi
    | some D =>
      rw [h1, h2] at hi
      simp at hi
      subst hi
      exact lkC_len (hp x (List.mem_of_getElem? h1)) D
/-- the data's slices of links that lie -/
theorem LsAt.data {w : World} {A : Option Addr} {l : List Lk} (h : LsAt w A l) : ∃ Ds : List Value, Ds.length = l.length ∧ ∀ i x D, l[i]? = some x → Ds[i]? = some D → ∃ b o, A = some ⟨b, o, none⟩ ∧ w.rangeAt b (o + i * 35) (lkC x D) ∧ DatAt w D x.data := by
  have key : ∀ k, k ≤ l.length → ∃ Ds : List Value, Ds.length = k ∧ ∀ i x D, l[i]? = some x → Ds[i]? = some D → ∃ b o, A = some ⟨b, o, none⟩ ∧ w.rangeAt b (o + i * 35) (lkC x D) ∧ DatAt w D x.data := by
    intro k
    induction k with
    | zero => exact fun _ => ⟨[], rfl, fun i x D _ hD => by simp at hD⟩
    | succ k ih =>
      intro hk
      obtain ⟨Ds, hl, hD⟩ := ih (by omega)
      obtain ⟨b, o, D, hA, hr, hd⟩ := h k (l[k]'(by omega)) (List.getElem?_eq_getElem (by omega))
      refine ⟨Ds ++ [D], by simp [hl], fun i x D' hx hD' => ?_⟩
      rcases Nat.lt_or_ge i k with hi | hi
      · rw [List.getElem?_append_left (by omega)] at hD'
        exact hD i x D' hx hD'
      · rw [List.getElem?_append_right (by omega)] at hD'
        have hik : i = k := by
          have := (List.getElem?_eq_some_iff.1 hD').1
          simp at this
          omega
        subst hik
        rw [hl, Nat.sub_self] at hD'
        simp at hD'
        subst hD'
        rw [List.getElem?_eq_getElem (by omega)] at hx
        cases hx
        exact ⟨b, o, hA, hr, hd⟩
  exact key l.length (Nat.le_refl _)

/-- links in a row of the call's own -/
theorem lsAt_of_own {w : World} {base : Nat} {v : Value} {n : Nat} {l : List Lk} {Ds : List Value} (hn : l.length = n) (hD : Ds.length = n) (hp : ∀ x ∈ l, x.prev.length = 32) (h : w.ownsRow base 37 35 v n (lkRows l Ds).flatten)
    (hd : ∀ (i : Nat) (x : Lk) (D : Value), l[i]? = some x → Ds[i]? = some D → DatAt w D x.data) : ∃ A c, v = .slice A n c ∧ n ≤ c ∧ c ≤ 9223372036854775807 ∧ LsAt w A l := by
  rcases h.2 with ⟨rfl, h0⟩ | ⟨g, cap, cur, rfl, hb, hh, hc, hcm, _⟩
  · have : n = 0 := by omega
    subst this
    obtain rfl := List.length_eq_zero_iff.1 hn
    exact ⟨none, 0, rfl, Nat.le_refl _, by omega, fun i x hx => by simp at hx⟩
  · refine ⟨some ⟨g, 0, none⟩, cap, rfl, hc, by simpa [maxLen] using hcm, fun i x hx => ?_⟩
    have hi := (List.getElem?_eq_some_iff.1 hx).1
    have hDi : Ds[i]? = some (Ds[i]'(by omega)) := List.getElem?_eq_getElem (by omega)
    refine ⟨g, 0, _, rfl, fun j u hj => ?_, hd i x _ hx hDi⟩
    have hrow : (lkRows l Ds)[i]? = some (lkC x (Ds[i]'(by omega))) := by
      unfold lkRows
      rw [List.getElem?_zipWith, hx, hDi]
    have hf := flat_get 35 _ (lkRows_len l Ds hp) i _ hrow j u hj
    have hlt := (List.getElem?_eq_some_iff.1 hf).1
    have hcell := World.ownsRow.cellAt h (i * 35 + j) (by rw [h.1] at hlt; exact hlt)
    rw [Nat.zero_add, hcell, hf]
end Go.Proofs.YthokpfegfnpmhaaDoor
/- A link appended to a list of links; bytes.Clone. -/
namespace Go.Proofs.YthokpfegfnpmhaaDoor
open Go.RowKit Cdc Sha
set_option linter.unusedVariables false
set_option linter.unusedSimpArgs false

theorem lk_zinfo : ∃ i0 z, Tryd.prog.info? 37 = some i0 ∧ i0.zero = some z ∧ i0.size = 35 ∧ i0.bytes = 72 ∧ z.cells.size = 35 := by
  have h : (Tryd.prog.info? 37).map (fun i => (i.zero.map (·.cells.size), i.size, i.bytes)) = some (some 35, 35, 72) := by kernel_rfl
  cases hi : Tryd.prog.info? 37 with
  | none => rw [hi] at h; cases h
  | some i0 =>
    rw [hi] at h
    simp only [Option.map_some, Option.some.injEq, Prod.mk.injEq] at h
    obtain ⟨h1, h2, h3⟩ := h
    obtain ⟨z, hz, hzs⟩ := Option.map_eq_some_iff.1 h1
    exact ⟨i0, z, rfl, hz, h2, h3, hzs⟩

theorem lkRows_snoc (l : List Lk) (Ds : List Value) (x : Lk) (D : Value) (h : Ds.length = l.length) : lkRows (l ++ [x]) (Ds ++ [D]) = lkRows l Ds ++ [lkC x D] := by
  unfold lkRows
  rw [List.zipWith_append (h := by omega)]
  rfl
theorem lkRows_size (l : List Lk) (Ds : List Value) (h : Ds.length = l.length) : (lkRows l Ds).length = l.length := by
  unfold lkRows
  rw [List.length_zipWith]
  omega

/-- the run of the append of a link to a full list -/
theorem run_app_lk (w : World) (ty : TypeId) (l : List Lk) (n : Nat) (A : Option Addr) (x : Lk) (A2 : Option Addr) (n2 c2 g : Nat) (hn : l.length = n) (hnm : n ≤ 1000000) (hA : LsAt w A l) (h0 : A = none → n = 0) (hp : ∀ y ∈ l, y.prev.length = 32) (hx : x.prev.length = 32)
    (hd : DatAt w (.slice A2 n2 c2) x.data) (hg : w.heap[g]? = some (.cells (lkA x (.slice A2 n2 c2)) 37 (0, 0))) :
    ∃ v' w', (Builtin.append_ #[22, 22] ty #[.slice A n n, .slice (some ⟨g, 0, none⟩) 1 1]).run Tryd.prog w = .ok v' w' ∧ Below w.heap.size w w' ∧
      ∃ A' c', v' = .slice A' (n + 1) c' ∧ n + 1 ≤ c' ∧ c' ≤ 9223372036854775807 ∧ LsAt w' A' (l ++ [x]) := by
  obtain ⟨i0, z, hi0, hz0, hz1, hz2, hz3⟩ := lk_zinfo
  obtain ⟨Ds, hDl, hD⟩ := hA.data
  have hxl := lkC_len hx (.slice A2 n2 c2)
  have hnews : ∀ j u, (lkC x (.slice A2 n2 c2))[j]? = some u → w.cell? ((⟨g, 0, none⟩ : Addr).add j) = some u := fun j u hj => by
    rw [Addr.add_mid, Nat.zero_add, cell_of_row _ _ _ _ _ _ hg]
    simpa [lkA] using hj
  have hl35 := lkRows_len l Ds hp
  have hol : (lkRows l Ds).flatten.length = n * 35 := by rw [flat_len 35 _ hl35, lkRows_size l Ds hDl, hn]
  have fin : ∀ v' w', w'.ownsRow w.heap.size 37 35 v' (n + 1) ((lkRows l Ds).flatten ++ lkC x (.slice A2 n2 c2)) → w.grownBy w' none → Below w.heap.size w w' ∧ ∃ A' c', v' = .slice A' (n + 1) c' ∧ n + 1 ≤ c' ∧ c' ≤ 9223372036854775807 ∧ LsAt w' A' (l ++ [x]) := fun v' w' ho hgr => by
    have hb : Below w.heap.size w w' := (Below.refl _ _).grown hgr (Nat.le_refl _) (fun k e => by cases e)
    refine ⟨hb, ?_⟩
    have e : (lkRows (l ++ [x]) (Ds ++ [.slice A2 n2 c2])).flatten = (lkRows l Ds).flatten ++ lkC x (.slice A2 n2 c2) := by
      rw [lkRows_snoc l Ds x _ hDl, List.flatten_append]
      simp
    rw [← e] at ho
    refine lsAt_of_own (by simp [hn]) (by simp [hDl, hn]) (fun y hy => ?_) ho (fun i y D hy hDy => ?_)
    · rcases List.mem_append.1 hy with h | h
      · exact hp y h
      · simp at h; subst h; exact hx
    · rcases Nat.lt_or_ge i l.length with hi | hi
      · rw [List.getElem?_append_left hi] at hy
        rw [List.getElem?_append_left (by omega)] at hDy
        obtain ⟨_, _, _, _, hdd⟩ := hD i y D hy hDy
        exact hdd.below hb
      · have hii : i = l.length := by
          have := (List.getElem?_eq_some_iff.1 hy).1
          simp at this
          omega
        subst hii
        rw [List.getElem?_append_right (by omega)] at hy hDy
        rw [hDl] at hDy
        simp at hy hDy
        subst hy hDy
        exact hd.below hb
  have h1 : ∀ u ∈ lkC x (.slice A2 n2 c2), u.oneCell' = true := fun u hu => by
    have := lkA_one x A2 n2 c2
    rw [Array.all_eq_true_iff_forall_mem] at this
    exact this u (by simpa [lkA] using hu)
  cases A with
  | none =>
    have hn0 := h0 rfl
    subst hn0
    obtain rfl := List.length_eq_zero_iff.1 hn
    have hr := run_append_nil (P := Tryd.prog) w 22 ty 37 i0 z Tryd.underlying22 hi0 hz0 ⟨g, 0, none⟩ 1 1 _ (by rw [hz1]; simpa using hxl) hnews (by decide) (by decide) (by rw [hz2]; decide)
    refine ⟨_, _, hr, fin _ _ ⟨by simp [hxl, lkRows], .inr ⟨w.heap.size, _, _, rfl, Nat.le_refl _, heap_alloc_new w.drew _, grownCap_ge w 1 0 _, grownCap_le_maxLen w 1 0 _ (by decide), ?_, ?_⟩⟩ ⟨rfl, rfl, rfl, by simp, fun k hk _ => Below.heap_alloc w.drew _ k hk⟩⟩
    · simp only [Array.size_append, List.size_toArray, size_zeroCells, hz3, hxl]
      have := grownCap_ge w 1 0 37
      omega
    · simp [lkRows, hxl]
  | some b =>
    obtain ⟨v', w', hr, ho, hgr⟩ := run_append_arg_grows (P := Tryd.prog) w 22 ty 37 i0 z 35 72 Tryd.underlying22 hi0 hz0 hz1 hz2 hz3 (by decide) b n n (lkRows l Ds).flatten hol (fun j u hj => by
        obtain ⟨r, hr1, hr2⟩ := flat_split 35 (by decide) _ hl35 j u hj
        unfold lkRows at hr1
        rw [List.getElem?_zipWith] at hr1
        cases e1 : l[j / 35]? with
        | none => rw [e1] at hr1; simp at hr1
        | some y =>
          cases e2 : Ds[j / 35]? with
          | none => rw [e1, e2] at hr1; simp at hr1
          | some D =>
            rw [e1, e2] at hr1
            simp at hr1
            subst hr1
            obtain ⟨b', o', hAe, hrg, _⟩ := hD (j / 35) y D e1 e2
            cases hAe
            have := hrg (j % 35) u hr2
            rw [Addr.add_mid, show o' + j = o' + j / 35 * 35 + j % 35 by omega]
            exact this) ⟨g, 0, none⟩ 1 1 (lkC x (.slice A2 n2 c2)) (by omega) hnews (by omega) (by simp only [maxLen]; omega) (by omega)
    exact ⟨v', w', hr, fin v' w' ho hgr⟩

theorem wp_app_lk {o : Oper} {a : Act} {K : Act → World → Prop} {Q : Exit → Act → World → Prop} (w : World) (s y : Operand)
    (ho : o.op = .call { callee := .builtin .append, args := #[s, y], argTypes := #[22, 22] }) (l : List Lk) (n : Nat) (A : Option Addr) (x : Lk) (A2 : Option Addr) (n2 c2 g : Nat)
    (hs : a.eval s = .slice A n n) (hy : a.eval y = .slice (some ⟨g, 0, none⟩) 1 1) (hn : l.length = n) (hnm : n ≤ 1000000) (hA : LsAt w A l) (h0 : A = none → n = 0) (hp : ∀ y ∈ l, y.prev.length = 32) (hx : x.prev.length = 32)
    (hd : DatAt w (.slice A2 n2 c2) x.data) (hg : w.heap[g]? = some (.cells (lkA x (.slice A2 n2 c2)) 37 (0, 0)))
    (h : ∀ A' c' w', Below w.heap.size w w' → n + 1 ≤ c' → c' ≤ 9223372036854775807 → LsAt w' A' (l ++ [x]) → K (a.put o.dst (.slice A' (n + 1) c')) w') :
    Oper.wp Tryd.prog o a w K Q := by
  obtain ⟨v', w', hr, hb, A', c', rfl, h1, h2, h3⟩ := run_app_lk w o.type l n A x A2 n2 c2 g hn hnm hA h0 hp hx hd hg
  unfold Oper.wp execOp
  simp only [ho, resolve, invoke, builtin, Sem.run_bind, Sem.run_pure, Result.andThen_ok, List.map_toArray, List.map_cons, List.map_nil, hs, hy, hr]
  exact h A' c' w' hb h1 h2 h3

set_option maxRecDepth 100000 in
theorem builtSlice_lk (x : Lk) (h : x.prev.length = 32) (A : Option Addr) (n c : Nat) : Tryd.prog.builtSlice 37 1 [(0, .agg (lkC x (.slice A n c)).toArray)] = some (lkA x (.slice A n c)) := by
  obtain ⟨xn, xo, xp, xd⟩ := x
  obtain ⟨p0, p1, p2, p3, p4, p5, p6, p7, p8, p9, p10, p11, p12, p13, p14, p15, p16, p17, p18, p19, p20, p21, p22, p23, p24, p25, p26, p27, p28, p29, p30, p31, rfl⟩ := list32 xp h
  kernel_rfl
/-- a slice of one link is made -/
theorem wp_buildLk {o : Oper} {a : Act} {w : World} {K : Act → World → Prop} {Q : Exit → Act → World → Prop} (y : Operand) (ho : o.op = .buildSlice 22 1 #[(0, y)])
    (x : Lk) (A : Option Addr) (n c : Nat) (hx : x.prev.length = 32) (hy : a.eval y = .agg (lkC x (.slice A n c)).toArray)
    (h : K (a.put o.dst (.slice (some ⟨w.heap.size, 0, none⟩) 1 1)) (w.alloc (.cells (lkA x (.slice A n c)) 37))) :
    Oper.wp Tryd.prog o a w K Q := by
  have hf := builtSlice_lk x hx A n c
  unfold Program.builtSlice at hf
  cases hie : Tryd.prog.info? 37 with
  | none => simp [hie] at hf
  | some ie =>
    simp only [hie] at hf
    cases hz : ie.zero with
    | none => simp [hz] at hf
    | some z =>
      simp only [hz] at hf
      by_cases hc : 1 * ie.size > 2 ^ 24 ∨ 1 * ie.size = 0
      · rw [if_pos hc] at hf; cases hf
      · rw [if_neg hc] at hf
        refine wp_buildSlice 22 37 1 #[(0, y)] ho _ ie z Tryd.underlying22 hie hz (fun h' => hc (Or.inl h')) (fun h' => hc (Or.inr h')) ?_ h
        simp only [List.map_toArray, List.map_cons, List.map_nil, hy]
        exact hf

theorem own_empty (w : World) (k : Nat) (hk : k = w.heap.size) : Own (w.alloc (.cells #[] 5)) (.slice (some ⟨k, 0, none⟩) 0 0) [] := by
  subst hk
  exact ⟨rfl, .inr ⟨w.heap.size, 0, _, rfl, Nat.zero_le _, heap_alloc_new w _, Nat.le_refl _, by simp [maxLen], rfl, by simp⟩⟩

set_option maxRecDepth 100000 in
set_option maxHeartbeats 1000000 in
theorem clone_any (xs : List UInt8) (A : Option Addr) (n c : Nat) (w : World) (hn : xs.length = n) (hl : n ≤ 100000) (h : AtO w A xs) :
    Calls Tryd.prog 41 #[.slice A n c] w fun e w' => ∃ A' c', e = .returned (.slice A' n c') ∧ DatAt w' (.slice A' n c') xs ∧ Below w.heap.size w w' := by
  have qT : ∀ (w : World) (a : Option Addr) (n c n' c' : Nat), (binOp .eql 23 (.slice a n c) (.slice none n' c')).run Tryd.prog w = .ok (.bool a.isNone) w := fun w a n c n' c' => Lib.run_eql_slice_nil w _ _ a n c n' c' Tryd.underlying23
  cases A with
  | none =>
    obtain rfl : xs = [] := by
      cases xs with
      | nil => rfl
      | cons y ys => obtain ⟨_, _, hA, _⟩ := h 0 y rfl; cases hA
    subst hn
    go_enter Tryd.func41, Tryd.ntmps41
    go_wp2
    refine bodyPost_ret (v := .slice none 0 0) (by simp [results, Tryd.results41, go_sem]) rfl ?_
    exact ⟨none, 0, rfl, ⟨none, 0, rfl, Nat.le_refl _, by omega, fun j x hx => by simp at hx⟩, Below.refl _ _⟩
  | some ad =>
    have hA := Lib.hid (h.below ((Below.refl w.heap.size w).alloc (Nat.le_refl _) (.cells #[] 5)))
    have hO := Lib.hid (own_empty w w.heap.size rfl)
    have hn2 := Lib.hid hn
    clear h
    go_enter Tryd.func41, Tryd.ntmps41
    go_wp2_with (at_builtin; refine wpList_appO _ (by rfl) (.tmp 5) (.tmp 6) (by rfl) (.slice (some ⟨w.heap.size, 0, none⟩) 0 0) [] (some ad) n c xs (by rfl) (by rfl) hO.out hn2.out hA.out (by simp; omega) ?_; intro v' w' ho hgw; obtain ⟨A9, c9, hv9⟩ := ho.form; rw [List.nil_append, hn2.out] at hv9; subst hv9; replace ho := Lib.hid ho; replace hgw := Lib.hid hgw)
    refine bodyPost_ret (v := .slice A9 n c9) (by simp [results, Tryd.results41, go_sem]) rfl ?_
    have ho2 := ho.out
    rw [List.nil_append] at ho2
    have hcc := ho2.cap
    refine ⟨A9, c9, rfl, ⟨A9, c9, by rw [hn2.out], hcc.1, hcc.2, ho2.atO⟩, ?_⟩
    exact ((Below.refl w.heap.size w).alloc (Nat.le_refl _) (.cells #[] 5)).grown hgw.out.grown (by simp) (fun k e => by simp [Value.ownBlock] at e; omega)
end Go.Proofs.YthokpfegfnpmhaaDoor
