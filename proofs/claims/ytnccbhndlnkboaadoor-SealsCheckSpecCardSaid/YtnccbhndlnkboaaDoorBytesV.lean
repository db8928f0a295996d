/- How the codec's values lie in memory: a list of values read out of a slice, down to a depth. -/
import Derived.Test.YtnccbhndlnkboaaDoorCodec
import Derived.Test.YtnccbhndlnkboaaDoorRows
import Derived.WalkKit
import Derived.WalkSpells
import Derived.Lib.Hide
import Derived.Maps.AppendAt
import Derived.Deep.AppendLies
import Derived.RegionTactic
import Derived.OwnWalk
import Derived.Laws.OwnMore
import Derived.Lib.AppendStr
namespace Go.Proofs.YtnccbhndlnkboaaDoor
open Go.RowKit Cdc
set_option linter.unusedVariables false
set_option linter.unusedSimpArgs false

mutual
/-- how deep a value is nested -/
def dp : V → Nat
  | ⟨_, _, _, l⟩ => dpL l + 1
def dpL : List V → Nat
  | [] => 0
  | x :: xs => max (dp x) (dpL xs)
end

theorem dp_mem {l : List V} {x : V} (h : x ∈ l) : dp x ≤ dpL l := by
  induction l with
  | nil => cases h
  | cons y l ih =>
    simp only [dpL]
    rcases List.mem_cons.1 h with rfl | h
    · omega
    · have := ih h; omega

theorem fm_le_dp (x : V) : ∀ a, fm x = some a → a ≤ dp x := by
  refine V.ind (P := fun x => ∀ a, fm x = some a → a ≤ dp x) ?_ x
  intro k n s l ih a h
  have hL : ∀ (l : List V), (∀ x ∈ l, ∀ a, fm x = some a → a ≤ dp x) → ∀ b, fmL l = some b → b ≤ dpL l := by
    intro l
    induction l with
    | nil => intro _ b hb; simp only [fmL] at hb; injection hb with hb; omega
    | cons y l ihl =>
      intro hy b hb
      simp only [fmL] at hb
      simp only [dpL]
      cases h1 : fm y with
      | none => rw [h1] at hb; cases hb
      | some c =>
        rw [h1] at hb
        simp only [Option.map_eq_some_iff] at hb
        obtain ⟨e, he, rfl⟩ := hb
        have := hy y (by simp) c h1
        have := ihl (fun x hx => hy x (by simp [hx])) e he
        omega
  simp only [fm] at h
  simp only [dp]
  split at h
  · split at h
    · injection h with h; omega
    · cases h
  · split at h
    · split at h
      · injection h with h; omega
      · cases h
    · split at h
      · split at h
        · simp only [Option.map_eq_some_iff] at h
          obtain ⟨e, he, rfl⟩ := h
          have := hL l ih e he
          omega
        · cases h
      · cases h

/-- the slice v holds the values l, nested at most d deep -/
def RS (w : World) : Nat → List V → Value → Prop
  | 0, l, v => l = [] ∧ ∃ A c, v = .slice A 0 c
  | d + 1, l, v => ∃ A c, v = .slice A l.length c ∧ l.length ≤ c ∧ ∀ i y, l[i]? = some y → ∃ b o v', A = some ⟨b, o, none⟩ ∧ b < w.heap.size ∧
      w.cell? ⟨b, o + i * 4, none⟩ = some (.int .i64 y.k) ∧ w.cell? ⟨b, o + i * 4 + 1, none⟩ = some (.int .i64 y.n) ∧ w.cell? ⟨b, o + i * 4 + 2, none⟩ = some (.string y.s) ∧
      w.cell? ⟨b, o + i * 4 + 3, none⟩ = some v' ∧ RS w d y.l v'

theorem RS.form {w : World} {d : Nat} {l : List V} {v : Value} (h : RS w d l v) : ∃ A c, v = .slice A l.length c := by
  cases d with
  | zero => obtain ⟨rfl, A, c, rfl⟩ := h; exact ⟨A, c, rfl⟩
  | succ d => obtain ⟨A, c, hv, _⟩ := h; exact ⟨A, c, hv⟩

theorem RS.nil (w : World) (d : Nat) (A : Option Addr) (c : Nat) : RS w d [] (.slice A 0 c) := by
  cases d with
  | zero => exact ⟨rfl, A, c, rfl⟩
  | succ d => exact ⟨A, c, rfl, Nat.zero_le _, fun i y h => by simp at h⟩

theorem RS.keep {w w' : World} : ∀ {d : Nat} {l : List V} {v : Value}, RS w d l v → w.heap.size ≤ w'.heap.size → (∀ p : Addr, p.block < w.heap.size → w'.cell? p = w.cell? p) → RS w' d l v
  | 0, _, _, h, _, _ => h
  | d + 1, l, v, h, hs, hk => by
    obtain ⟨A, c, hv, hc, hi⟩ := h
    refine ⟨A, c, hv, hc, fun i y hy => ?_⟩
    obtain ⟨b, o, v', hA, hb, h0, h1, h2, h3, hr⟩ := hi i y hy
    exact ⟨b, o, v', hA, by omega, (hk ⟨b, _, none⟩ hb).trans h0, (hk ⟨b, _, none⟩ hb).trans h1, (hk ⟨b, _, none⟩ hb).trans h2, (hk ⟨b, _, none⟩ hb).trans h3, hr.keep hs hk⟩

theorem RS.below {w w' : World} {d : Nat} {l : List V} {v : Value} (h : RS w d l v) (hb : Below w.heap.size w w') : RS w' d l v :=
  h.keep hb.size fun _ hp => hb.cell hp

theorem RS.more {w : World} : ∀ {d d' : Nat} {l : List V} {v : Value}, RS w d l v → d ≤ d' → RS w d' l v
  | 0, d', l, v, h, _ => by obtain ⟨rfl, A, c, rfl⟩ := h; exact RS.nil w d' A c
  | d + 1, 0, l, v, h, hd => by omega
  | d + 1, d' + 1, l, v, h, hd => by
    obtain ⟨A, c, hv, hc, hi⟩ := h
    refine ⟨A, c, hv, hc, fun i y hy => ?_⟩
    obtain ⟨b, o, v', hA, hb, h0, h1, h2, h3, hr⟩ := hi i y hy
    exact ⟨b, o, v', hA, hb, h0, h1, h2, h3, hr.more (by omega)⟩

/-- a value as an argument -/
abbrev vv (x : V) (v : Value) : Value := .agg #[.int .i64 x.k, .int .i64 x.n, .string x.s, v]

theorem RS.zero_nil {w : World} {l : List V} {v : Value} (h : RS w 0 l v) : l = [] := h.1
end Go.Proofs.YtnccbhndlnkboaaDoor
/- Rows of bytes that a call owns: append, and where the new row lies. -/
namespace Go.Proofs.YtnccbhndlnkboaaDoor
open Go.RowKit Cdc
set_option linter.unusedVariables false
set_option linter.unusedSimpArgs false

/-- a byte as a value -/
abbrev bv (b : UInt8) : Value := .int .u8 b.toNat

/-- v holds the bytes xs, in a row that the call owns -/
def Own (w : World) (v : Value) (xs : List UInt8) : Prop := w.ownsRow 0 5 1 v xs.length (xs.map bv)

/-- from w to w' the row v has become v'; no other old block has changed -/
structure Grew (w w' : World) (v v' : Value) : Prop where
  grown : w.grownBy w' v.ownBlock
  lies : v'.ownBlock = v.ownBlock ∨ ∃ g, v'.ownBlock = some g ∧ w.heap.size ≤ g

theorem Grew.refl (w : World) (v : Value) : Grew w w v v := ⟨⟨rfl, rfl, rfl, Nat.le_refl _, fun _ _ _ => rfl⟩, .inl rfl⟩
theorem Grew.trans {a b c : World} {u v x : Value} (h : Grew a b u v) (k : Grew b c v x) : Grew a c u x := by
  refine ⟨⟨k.grown.os.trans h.grown.os, k.grown.tape.trans h.grown.tape, k.grown.output.trans h.grown.output, Nat.le_trans h.grown.size k.grown.size, fun i hi hne => ?_⟩, ?_⟩
  · refine (k.grown.block i (Nat.lt_of_lt_of_le hi h.grown.size) ?_).trans (h.grown.block i hi hne)
    rcases h.lies with e | ⟨g, e, hg⟩
    · rw [e]; exact hne
    · rw [e]; intro e'; injection e' with e'; omega
  · rcases k.lies with e | ⟨g, e, hg⟩
    · rcases h.lies with e' | ⟨g', e', hg'⟩
      · exact .inl (e.trans e')
      · exact .inr ⟨g', e.trans e', hg'⟩
    · exact .inr ⟨g, e, Nat.le_trans h.grown.size hg⟩
theorem Grew.alloc {a b : World} {u v : Value} (h : Grew a b u v) (o : Obj) : Grew a (b.alloc o) u v := h.trans ⟨World.grownBy_alloc _ _ _, .inl rfl⟩
theorem Grew.drew {a b : World} {u v : Value} (h : Grew a b u v) : Grew a b.drew u v := h.trans ⟨⟨rfl, rfl, rfl, Nat.le_refl _, fun _ _ _ => rfl⟩, .inl rfl⟩
theorem Grew.below {a b : World} {u v : Value} (h : Grew a b u v) (hu : u.ownBlock = none) : Below a.heap.size a b :=
  (Below.refl _ _).grown h.grown (Nat.le_refl _) (fun k hk => by rw [hu] at hk; cases hk)
/-- a cell of an old block that is not the row's own -/
theorem Grew.cell {a b : World} {u v : Value} (h : Grew a b u v) {p : Addr} (hp : p.block < a.heap.size) (hne : u.ownBlock ≠ some p.block) : b.cell? p = a.cell? p :=
  World.cell?_of_block (h.grown.block _ hp (fun e => hne e.symm))
theorem Grew.apart {a b : World} {u v : Value} (h : Grew a b u v) {g : Nat} (hg : g < a.heap.size) (hne : u.ownBlock ≠ some g) : v.ownBlock ≠ some g := by
  rcases h.lies with e | ⟨g', e, hg'⟩
  · rw [e]; exact hne
  · rw [e]; intro e'; injection e' with e'; omega

theorem Own.nil (w : World) : Own w (.slice none 0 0) [] := World.ownsRow_nil w 0 _ 1
theorem Own.alloc {w : World} {v : Value} {xs : List UInt8} (h : Own w v xs) (o : Obj) : Own (w.alloc o) v xs := World.ownsRow.alloc h o
theorem Own.drew {w : World} {v : Value} {xs : List UInt8} (h : Own w v xs) : Own w.drew v xs := h
theorem Own.lt {w : World} {v : Value} {xs : List UInt8} (h : Own w v xs) {g : Nat} (hg : v.ownBlock = some g) : g < w.heap.size := by
  rcases h.2 with ⟨rfl, _⟩ | ⟨g', cap, cur, rfl, _, hh, _⟩
  · cases hg
  · injection hg with hg
    dsimp only at hg
    subst hg
    exact (Array.getElem?_eq_some_iff.1 hh).1
theorem Own.form {w : World} {v : Value} {xs : List UInt8} (h : Own w v xs) : ∃ A c, v = .slice A xs.length c := by
  rcases h.2 with ⟨rfl, h0⟩ | ⟨g', cap, cur, rfl, _, hh, _⟩
  · rw [h0]; exact ⟨_, _, rfl⟩
  · exact ⟨_, _, rfl⟩

theorem bv_one (xs : List UInt8) : ∀ u ∈ xs.map bv, u.oneCell' = true := by
  intro u hu
  obtain ⟨b, _, rfl⟩ := List.mem_map.1 hu
  rfl

theorem u8_info : (Tryd.prog.info? 5).map (fun i => (i.zero, i.size, i.bytes)) = some (some (.int .u8 0), 1, 1) := by kernel_rfl

/-- append of whatever bytes, the run -/
theorem run_app (w : World) (ty : TypeId) (v : Value) (xs : List UInt8) (ad : Addr) (m c : Nat) (ys : List UInt8) (hown : Own w v xs) (hm : ys.length = m) (hc : ∀ j u, (ys.map bv)[j]? = some u → w.cell? (ad.add j) = some u)
    (hl : xs.length + m ≤ 100000000000000) :
    ∃ v' w', (Builtin.append_ #[48, 48] ty #[v, .slice (some ad) m c]).run Tryd.prog w = .ok v' w' ∧ Own w' v' (xs ++ ys) ∧ Grew w w' v v' := by
  obtain ⟨i0, hi0, hz0, hz1, hz2⟩ := info_parts u8_info
  obtain ⟨v', w', hr, h2, h3, _, h5⟩ := run_append_own_at (P := Tryd.prog) w 0 48 ty 5 i0 _ 1 1 Tryd.underlying48 hi0 hz0 hz1 hz2 rfl (by omega) v xs.length (xs.map bv) hown ad m c (ys.map bv) (by simp [hm]) hc (bv_one ys)
    (by simp only [maxLen]; omega) (by omega) (Nat.zero_le _)
  refine ⟨v', w', hr, ?_, h3, ?_⟩
  · unfold Own
    rw [List.length_append, List.map_append, hm]
    exact h2
  · rcases h5 with e | e
    · exact .inl e
    · exact .inr ⟨_, e, Nat.le_refl _⟩

theorem wpList_app {ops : Array Oper} {rest : List Oper} {o : Oper} {a : Act} {Q : Exit → Act → World → Prop} (w : World) (hgd : o.guard = none) (s x : Operand)
    (ho : o.op = .call { callee := .builtin .append, args := #[s, x], argTypes := #[48, 48] }) (v : Value) (xs : List UInt8) (ad : Addr) (m c : Nat) (ys : List UInt8)
    (hs : a.eval s = v) (hx : a.eval x = .slice (some ad) m c) (hown : Own w v xs) (hm : ys.length = m) (hc : ∀ j u, (ys.map bv)[j]? = some u → w.cell? (ad.add j) = some u) (hl : xs.length + m ≤ 100000000000000)
    (h : ∀ v' w', Own w' v' (xs ++ ys) → Grew w w' v v' → wpList Tryd.prog ops Q rest (a.put o.dst v') w') : wpList Tryd.prog ops Q (o :: rest) a w := by
  refine wpList_plain hgd fun K hK => ?_
  obtain ⟨v', w', hr, h2, h3⟩ := run_app w o.type v xs ad m c ys hown hm hc hl
  unfold Oper.wp execOp
  simp only [ho, resolve, invoke, builtin, Sem.run_bind, Sem.run_pure, Result.andThen_ok, List.map_toArray, List.map_cons, List.map_nil, hs, hx, hr]
  exact hK _ _ (h v' w' h2 h3)

theorem step_app {ops : Array Oper} {o : Oper} {a : Act} {K : Act → World → Prop} {Q : Exit → Act → World → Prop} {E : Prop} (w : World) (hgd : o.guard = none) (s x : Operand)
    (ho : o.op = .call { callee := .builtin .append, args := #[s, x], argTypes := #[48, 48] }) (v : Value) (xs : List UInt8) (ad : Addr) (m c : Nat) (ys : List UInt8)
    (hs : a.eval s = v) (hx : a.eval x = .slice (some ad) m c) (hown : Own w v xs) (hm : ys.length = m) (hc : ∀ j u, (ys.map bv)[j]? = some u → w.cell? (ad.add j) = some u) (hl : xs.length + m ≤ 100000000000000)
    (h : ∀ v' w', Own w' v' (xs ++ ys) → Grew w w' v v' → K (a.put o.dst v') w') :
    if Region.wanted o (yielded ops a.tmps) = true then Oper.wp Tryd.prog o a w K Q else E := by
  have hw : Region.wanted o (yielded ops a.tmps) = true := by simp [Region.wanted, hgd]
  rw [if_pos hw]
  obtain ⟨v', w', hr, h2, h3⟩ := run_app w o.type v xs ad m c ys hown hm hc hl
  unfold Oper.wp execOp
  simp only [ho, resolve, invoke, builtin, Sem.run_bind, Sem.run_pure, Result.andThen_ok, List.map_toArray, List.map_cons, List.map_nil, hs, hx, hr]
  exact h v' w' h2 h3

/-- one byte that lies in a block of its own -/
theorem one_new (w : World) (b : UInt8) (t : TypeId) : ∀ j u, ([b].map bv)[j]? = some u → (w.alloc (.cells #[bv b] t)).cell? ((⟨w.heap.size, 0, none⟩ : Addr).add j) = some u := cell_one_new w (bv b) t
theorem one_new2 (w : World) (b : UInt8) (x : Value) (t : TypeId) (hx : x = bv b) : ∀ j u, ([b].map bv)[j]? = some u → (w.alloc (.cells #[x] t)).cell? ((⟨w.heap.size, 0, none⟩ : Addr).add j) = some u := by
  subst hx; exact one_new w b t

/-- append of a string's bytes, the run -/
theorem run_app_str (w : World) (ty : TypeId) (v : Value) (xs : List UInt8) (s : ByteArray) (hown : Own w v xs) (hl : xs.length + s.size ≤ 100000000000000) :
    ∃ v' w', (Builtin.append_ #[48, 9] ty #[v, .string s]).run Tryd.prog w = .ok v' w' ∧ Own w' v' (xs ++ s.data.toList) ∧ Grew w w' v v' := by
  obtain ⟨i0, hi0, hz0, hz1, hz2⟩ := info_parts u8_info
  obtain ⟨v', w', hr, h2, h3, h4⟩ := Lib.run_append_own_string (P := Tryd.prog) w 0 48 9 ty 5 i0 Tryd.underlying48 Tryd.underlying9 hi0 hz0 hz1 hz2 v xs.length (xs.map bv) hown s
    (by simp only [maxLen]; omega) (by omega) (Nat.zero_le _)
  have hsl : s.data.toList.length = s.size := by rw [Array.length_toList]; rfl
  refine ⟨v', w', hr, ?_, h3, ?_⟩
  · unfold Own
    rw [List.length_append, List.map_append, hsl]
    exact h2
  · rcases hown.2 with ⟨rfl, h0⟩ | ⟨g, cap, cur, rfl, _, hg, hnc, hcm, hcs, htake⟩
    · by_cases hs : s.size = 0
      · rw [h4.2 ⟨rfl, hs⟩]; exact .inl rfl
      · have hr2 := run_append_nil_string (P := Tryd.prog) w 48 9 ty 5 i0 (.int .u8 0) Tryd.underlying48 Tryd.underlying9 hi0 hz0 s (by omega) (by omega) (by rw [hz2]; omega)
        rw [hr2] at hr
        injection hr with hr
        subst hr
        exact .inr ⟨_, rfl, Nat.le_refl _⟩
    · by_cases hroom : xs.length + s.size ≤ cap
      · have hr2 := Lib.run_append_room_string (P := Tryd.prog) w 48 9 ty 5 i0 Tryd.underlying48 Tryd.underlying9 hi0 hz1 g xs.length cap cur hg s hroom (by omega)
        rw [hr2] at hr
        injection hr with hr
        subst hr
        exact .inl rfl
      · have holds : ∀ j u, (xs.map bv)[j]? = some u → w.cell? ((⟨g, 0, none⟩ : Addr).add j) = some u := hown.cells (g := g) rfl
        have hr2 := Lib.run_append_grow_string (P := Tryd.prog) w 48 9 ty 5 i0 (.int .u8 0) Tryd.underlying48 Tryd.underlying9 hi0 hz0 ⟨g, 0, none⟩ xs.length cap (xs.map bv) (by rw [hz1]; simp) holds s (by omega) (by omega)
          (by rw [hz2]; exact growslice_fits (by omega) (by omega))
        rw [hr2] at hr
        injection hr with hr
        subst hr
        exact .inr ⟨_, rfl, Nat.le_refl _⟩

theorem step_app_str {ops : Array Oper} {o : Oper} {a : Act} {K : Act → World → Prop} {Q : Exit → Act → World → Prop} {E : Prop} (w : World) (hgd : o.guard = none) (s x : Operand)
    (ho : o.op = .call { callee := .builtin .append, args := #[s, x], argTypes := #[48, 9] }) (v : Value) (xs : List UInt8) (y : ByteArray)
    (hs : a.eval s = v) (hx : a.eval x = .string y) (hown : Own w v xs) (hl : xs.length + y.size ≤ 100000000000000)
    (h : ∀ v' w', Own w' v' (xs ++ y.data.toList) → Grew w w' v v' → K (a.put o.dst v') w') :
    if Region.wanted o (yielded ops a.tmps) = true then Oper.wp Tryd.prog o a w K Q else E := by
  have hw : Region.wanted o (yielded ops a.tmps) = true := by simp [Region.wanted, hgd]
  rw [if_pos hw]
  obtain ⟨v', w', hr, h2, h3⟩ := run_app_str w o.type v xs y hown hl
  unfold Oper.wp execOp
  simp only [ho, resolve, invoke, builtin, Sem.run_bind, Sem.run_pure, Result.andThen_ok, List.map_toArray, List.map_cons, List.map_nil, hs, hx, hr]
  exact h v' w' h2 h3

end Go.Proofs.YtnccbhndlnkboaaDoor
