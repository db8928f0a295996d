/- A copy of a list of links, and one link of it replaced. -/
import Derived.Test.YthokpfegfnpmhaaDoorChainApp
import Derived.Test.YthokpfegfnpmhaaDoorChainLaw
import Derived.Lib.EndianMore
namespace Go.Proofs.YthokpfegfnpmhaaDoor
open Go.RowKit Cdc Sha
set_option linter.unusedVariables false
set_option linter.unusedSimpArgs false

/-- what the copy of links leaves -/
structure CopyL (w w' : World) (l : List Lk) (n g c : Nat) : Prop where
  hg : w.heap.size ≤ g
  hc : n ≤ c
  hb : Below w.heap.size w w'
  there : ∀ i, i < n → w'.there g (i * 35) 35
  set : ∀ (k : Nat) (x : Lk) (D : Value), k < n → x.prev.length = 32 → DatAt w D x.data → LsAt (w'.setCells g (k * 35) (lkC x D)) (some ⟨g, 0, none⟩) (l.set k x) ∧ Below w.heap.size w (w'.setCells g (k * 35) (lkC x D))

theorem run_copy (w : World) (ty : TypeId) (l : List Lk) (n : Nat) (A : Option Addr) (c k0 : Nat) (hn : l.length = n) (h0 : 0 < n) (hnm : n ≤ 1000000) (hA : LsAt w A l) (hp : ∀ y ∈ l, y.prev.length = 32) :
    ∃ g c' w', (Builtin.append_ #[22, 22] ty #[.slice (some ⟨k0, 0, none⟩) 0 0, .slice A n c]).run Tryd.prog w = .ok (.slice (some ⟨g, 0, none⟩) n c') w' ∧ CopyL w w' l n g c' := by
  obtain ⟨i0, z, hi0, hz0, hz1, hz2, hz3⟩ := lk_zinfo
  obtain ⟨Ds, hDl, hD⟩ := hA.data
  have hl35 := lkRows_len l Ds hp
  have hol : (lkRows l Ds).flatten.length = n * 35 := by rw [flat_len 35 _ hl35, lkRows_size l Ds hDl, hn]
  obtain ⟨b, hb⟩ : ∃ b, A = some b := by
    obtain ⟨b, o, _, hAe, _⟩ := hA 0 _ (List.getElem?_eq_getElem (by omega))
    exact ⟨_, hAe⟩
  subst hb
  obtain ⟨v', w', hr, ho, hgr⟩ := run_append_arg_grows (P := Tryd.prog) w 22 ty 37 i0 z 35 72 Tryd.underlying22 hi0 hz0 hz1 hz2 hz3 (by decide) ⟨k0, 0, none⟩ 0 0 [] (by simp) (fun j u hj => by simp at hj) b n c (lkRows l Ds).flatten hol (fun j u hj => by
      obtain ⟨r, hr1, hr2⟩ := flat_split 35 (by decide) _ hl35 j u hj
      unfold lkRows at hr1
      rw [List.getElem?_zipWith] at hr1
      cases e1 : l[j / 35]? with
      | none => rw [e1] at hr1; simp at hr1
      | some y =>
        cases e2 : Ds[j / 35]? with
        | none => rw [e1, e2] at hr1; simp at hr1
        | some D =>
          rw [e1, e2] at hr1
          simp at hr1
          subst hr1
          obtain ⟨b', o', hAe, hrg, _⟩ := hD (j / 35) y D e1 e2
          cases hAe
          have := hrg (j % 35) u hr2
          rw [Addr.add_mid, show o' + j = o' + j / 35 * 35 + j % 35 by omega]
          exact this) (by omega) (by simp only [maxLen]; omega) (by omega)
  have hB : Below w.heap.size w w' := (Below.refl _ _).grown hgr (Nat.le_refl _) (fun k e => by cases e)
  rw [Nat.zero_add, List.nil_append] at ho
  rcases ho.2 with ⟨_, hz⟩ | ⟨g, cap, cur, rfl, hbg, hh, hc, hcm, hsz, htk⟩
  · omega
  · refine ⟨g, cap, w', hr, hbg, hc, hB, fun i hi j hj => ?_, fun k x D hk hx hd => ?_⟩
    · have hlt : i * 35 + j < cur.size := by
        rw [hsz]
        have : (i + 1) * 35 ≤ cap * 35 := Nat.mul_le_mul_right 35 (by omega)
        omega
      rw [cell_of_row _ _ _ _ _ _ hh, frozen_of_row _ _ _ _ _ hh, Array.getElem?_eq_getElem hlt]
      exact ⟨rfl, rfl⟩
    · have hBs : Below w.heap.size w (w'.setCells g (k * 35) (lkC x D)) := hB.trans (Go.Lib.below_setCells_w hbg (lkC x D) (k * 35) w')
      refine ⟨fun i y hy => ?_, hBs⟩
      have hlk := lkC_len hx D
      by_cases e : i = k
      · subst e
        have hyx : y = x := by
          rw [List.getElem?_set_self (by omega)] at hy
          exact (Option.some.inj hy).symm
        subst hyx
        refine ⟨g, 0, D, rfl, ?_, hd.below hBs⟩
        rw [Nat.zero_add]
        refine World.rangeAt_setCells_same w' g (i * 35) (lkC y D) ?_
        rw [hlk]
        intro j hj
        have hlt : i * 35 + j < cur.size := by
          rw [hsz]
          have : (i + 1) * 35 ≤ cap * 35 := Nat.mul_le_mul_right 35 (by omega)
          omega
        rw [cell_of_row _ _ _ _ _ _ hh, frozen_of_row _ _ _ _ _ hh, Array.getElem?_eq_getElem hlt]
        exact ⟨rfl, rfl⟩
      · rw [List.getElem?_set_ne (fun h => e h.symm)] at hy
        have hi := (List.getElem?_eq_some_iff.1 hy).1
        have hDi : Ds[i]? = some (Ds[i]'(by omega)) := List.getElem?_eq_getElem (by omega)
        obtain ⟨_, _, _, _, hdd⟩ := hD i y _ hy hDi
        have hyp := hp y (List.mem_of_getElem? hy)
        refine ⟨g, 0, _, rfl, ?_, hdd.below hBs⟩
        rw [Nat.zero_add]
        refine World.rangeAt_setCells_apart ?_ g (k * 35) (lkC x D) ?_
        · intro j u hj
          have hrow : (lkRows l Ds)[i]? = some (lkC y (Ds[i]'(by omega))) := by
            unfold lkRows
            rw [List.getElem?_zipWith, hy, hDi]
          have hf := flat_get 35 _ hl35 i _ hrow j u hj
          have hlt := (List.getElem?_eq_some_iff.1 hf).1
          rw [← hf]
          exact World.ownsRow.cellAt ho (i * 35 + j) (by rw [← hol]; exact hlt)
        · right
          rw [lkC_len hyp, hlk]
          rcases Nat.lt_or_gt_of_ne e with h | h
          · left
            have : (i + 1) * 35 ≤ k * 35 := Nat.mul_le_mul_right 35 h
            omega
          · right
            have : (k + 1) * 35 ≤ i * 35 := Nat.mul_le_mul_right 35 h
            omega

theorem wpList_copy {ops : Array Oper} {rest : List Oper} {o : Oper} {a : Act} {Q : Exit → Act → World → Prop} (w : World) (hgd : o.guard = none) (s y : Operand)
    (ho : o.op = .call { callee := .builtin .append, args := #[s, y], argTypes := #[22, 22] }) (l : List Lk) (n : Nat) (A : Option Addr) (c k0 : Nat)
    (hs : a.eval s = .slice (some ⟨k0, 0, none⟩) 0 0) (hy : a.eval y = .slice A n c) (hn : l.length = n) (h0 : 0 < n) (hnm : n ≤ 1000000) (hA : LsAt w A l) (hp : ∀ y ∈ l, y.prev.length = 32)
    (h : ∀ g c' w', CopyL w w' l n g c' → wpList Tryd.prog ops Q rest (a.put o.dst (.slice (some ⟨g, 0, none⟩) n c')) w') : wpList Tryd.prog ops Q (o :: rest) a w := by
  refine wpList_plain hgd fun K hK => ?_
  obtain ⟨g, c', w', hr, hcl⟩ := run_copy w o.type l n A c k0 hn h0 hnm hA hp
  unfold Oper.wp execOp
  simp only [ho, resolve, invoke, builtin, Sem.run_bind, Sem.run_pure, Result.andThen_ok, List.map_toArray, List.map_cons, List.map_nil, hs, hy, hr]
  exact hK _ _ (h g c' w' hcl)

/-- a replaced link that is no end: two texts with one digest -/
theorem changed_clash {l : List Lk} {k : Nat} {x y : Lk} (hok : ∀ z ∈ l, LkOk z) (hx : LkOk x) (hy : l[k]? = some y) (hne : y ≠ x) (c1 : OkL l) (c2 : OkL (l.set k x)) (hk : k + 1 < l.length) : ClashL (l.take (k + 1)) ((l.set k x).take (k + 1)) := by
  obtain ⟨z, hz⟩ : ∃ z, l[k + 1]? = some z := ⟨_, List.getElem?_eq_getElem hk⟩
  have hz2 : (l.set k x)[k + 1]? = some z := by rw [List.getElem?_set_ne (by omega)]; exact hz
  have p1 := (c1 _ z hz).prev
  have p2 := (c2 _ z hz2).prev
  refine ⟨fun h => ?_, by rw [← p1, ← p2]⟩
  have hy' := hok y (List.mem_of_getElem? hy)
  have e1 : (l.take (k + 1)).getLast? = some y := by
    rw [List.take_add_one, hy, Option.toList_some, List.getLast?_concat]
  have e2 : ((l.set k x).take (k + 1)).getLast? = some x := by
    rw [List.take_add_one, List.getElem?_set_self (by omega), Option.toList_some, List.getLast?_concat]
  unfold txC at h
  rw [e1, e2] at h
  simp only [Prod.mk.injEq, true_and] at h
  exact hne (lk_inj hy' hx h)
end Go.Proofs.YthokpfegfnpmhaaDoor
