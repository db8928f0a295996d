/- A list of links copied into a row of the call's own, and a link appended to it. -/
import Derived.Test.YthokpfegfnpmhaaDoorRowApp
import Derived.Test.YthokpfegfnpmhaaDoorRefHC
import Derived.Test.YthokpfegfnpmhaaDoorChainAdd
namespace Go.Proofs.YthokpfegfnpmhaaDoor
open Go.RowKit Cdc Sha
set_option linter.unusedVariables false
set_option linter.unusedSimpArgs false

/-- links in a row of the call's own: the data lies at Ds -/
structure OwnL (w0 w : World) (base : Nat) (v : Value) (l : List Lk) (Ds : List Value) : Prop where
  own : w.ownsRow base 37 35 v l.length (lkRows l Ds).flatten
  len : Ds.length = l.length
  dat : ∀ (i : Nat) (x : Lk) (D : Value), l[i]? = some x → Ds[i]? = some D → DatAt w0 D x.data
  p32 : ∀ x ∈ l, x.prev.length = 32
  high : ∀ k, v.ownBlock = some k → base ≤ k

theorem own_nilL (w0 w : World) (base k0 : Nat) (hb : base ≤ k0) (hk : k0 = w.heap.size) : OwnL w0 (w.alloc (.cells #[] 37)) base (.slice (some ⟨k0, 0, none⟩) 0 0) [] [] := by
  subst hk
  refine ⟨⟨rfl, .inr ⟨w.heap.size, 0, _, rfl, hb, heap_alloc_new w _, Nat.le_refl _, by simp [maxLen], rfl, rfl⟩⟩, rfl, fun i x D hx => by simp at hx, fun x hx => by simp at hx, fun k e => ?_⟩
  simp [Value.ownBlock] at e
  omega

/-- the append of a list of links to an empty row -/
theorem run_cp (w0 w : World) (ty : TypeId) (l : List Lk) (n : Nat) (A : Option Addr) (c base : Nat) (v : Value) (hn : l.length = n) (hnm : n ≤ 1000000) (hA : LsAt w0 A l) (hAw : LsAt w A l) (h0 : A = none → n = 0) (hp : ∀ y ∈ l, y.prev.length = 32) (ho : OwnL w0 w base v [] []) (hbase : base ≤ w.heap.size) (hBw : Below w0.heap.size w0 w)
    (hv : ∃ k, v = .slice (some ⟨k, 0, none⟩) 0 0) :
    ∃ v' w' Ds, (Builtin.append_ #[22, 22] ty #[v, .slice A n c]).run Tryd.prog w = .ok v' w' ∧ OwnL w0 w' base v' l Ds ∧ w.grownBy w' v.ownBlock := by
  obtain ⟨i0, z, hi0, hz0, hz1, hz2, hz3⟩ := lk_zinfo
  cases A with
  | none =>
    have hn0 := h0 rfl
    subst hn0
    obtain rfl := List.length_eq_zero_iff.1 hn
    refine ⟨v, w, [], ?_, ho, ⟨rfl, rfl, rfl, Nat.le_refl _, fun _ _ _ => rfl⟩⟩
    obtain ⟨k, rfl⟩ := hv
    simp [Builtin.append_, run_underlying Tryd.underlying22, sizeOf, typeInfo, hi0, Builtin.lenOf, Builtin.firstCells, storeCells]
  | some b =>
    obtain ⟨Ds, hDl, hD⟩ := hA.data
    have hl35 := lkRows_len l Ds hp
    have hol : (lkRows l Ds).flatten.length = n * 35 := by rw [flat_len 35 _ hl35, lkRows_size l Ds hDl, hn]
    have hDw : ∀ i x D, l[i]? = some x → Ds[i]? = some D → ∃ b' o, some b = some (⟨b', o, none⟩ : Addr) ∧ w.rangeAt b' (o + i * 35) (lkC x D) := fun i x D hx hDi => by
      obtain ⟨b', o, h1, h2, _⟩ := hD i x D hx hDi
      exact ⟨b', o, h1, range_below h2 hBw⟩
    have hone : ∀ u ∈ (lkRows l Ds).flatten, u.oneCell' = true := fun u hu => by
      obtain ⟨r, hr, hur⟩ := List.mem_flatten.1 hu
      obtain ⟨i, hi⟩ := List.mem_iff_getElem?.1 hr
      unfold lkRows at hi
      rw [List.getElem?_zipWith] at hi
      cases e1 : l[i]? with
      | none => rw [e1] at hi; simp at hi
      | some y =>
        cases e2 : Ds[i]? with
        | none => rw [e1, e2] at hi; simp at hi
        | some D =>
          rw [e1, e2] at hi
          simp at hi
          subst hi
          obtain ⟨_, _, _, _, A9, c9, hD9, _⟩ := hD i y D e1 e2
          subst hD9
          have := lkA_one y A9 y.data.length c9
          rw [Array.all_eq_true_iff_forall_mem] at this
          exact this u (by simpa [lkA] using hur)
    obtain ⟨v', w', hr, h2, h3, _, h5⟩ := run_append_own_at (P := Tryd.prog) w base 22 ty 37 i0 z 35 72 Tryd.underlying22 hi0 hz0 hz1 hz2 hz3 (by decide) v 0 [] ho.own b n c (lkRows l Ds).flatten hol (fun j u hj => by
        obtain ⟨r, hr1, hr2⟩ := flat_split 35 (by decide) _ hl35 j u hj
        unfold lkRows at hr1
        rw [List.getElem?_zipWith] at hr1
        cases e1 : l[j / 35]? with
        | none => rw [e1] at hr1; simp at hr1
        | some y =>
          cases e2 : Ds[j / 35]? with
          | none => rw [e1, e2] at hr1; simp at hr1
          | some D =>
            rw [e1, e2] at hr1
            simp at hr1
            subst hr1
            obtain ⟨b', o', hAe, hrg⟩ := hDw (j / 35) y D e1 e2
            cases hAe
            have := hrg (j % 35) u hr2
            rw [Addr.add_mid, show o' + j = o' + j / 35 * 35 + j % 35 by omega]
            exact this) hone (by simp only [maxLen]; omega) (by omega) hbase
    rw [Nat.zero_add, List.nil_append, ← hn] at h2
    refine ⟨v', w', Ds, hr, ⟨h2, hDl, (fun i x D hx hDi => by
      obtain ⟨_, _, _, _, hdd⟩ := hD i x D hx hDi
      exact hdd), hp, fun k e => ?_⟩, h3⟩
    rcases h5 with h | h
    · exact ho.high k (by rw [← h]; exact e)
    · rw [e] at h
      cases h
      exact hbase

/-- the append of one link to such a row -/
theorem run_ap (w0 w : World) (ty : TypeId) (l : List Lk) (Ds : List Value) (base : Nat) (v : Value) (x : Lk) (A2 : Option Addr) (n2 c2 g : Nat) (hnm : l.length ≤ 1000000) (ho : OwnL w0 w base v l Ds) (hbase : base ≤ w.heap.size) (hx : x.prev.length = 32) (hd : DatAt w0 (.slice A2 n2 c2) x.data)
    (hg : w.heap[g]? = some (.cells (lkA x (.slice A2 n2 c2)) 37 (0, 0))) :
    ∃ v' w' Ds', (Builtin.append_ #[22, 22] ty #[v, .slice (some ⟨g, 0, none⟩) 1 1]).run Tryd.prog w = .ok v' w' ∧ OwnL w0 w' base v' (l ++ [x]) Ds' ∧ w.grownBy w' v.ownBlock := by
  obtain ⟨i0, z, hi0, hz0, hz1, hz2, hz3⟩ := lk_zinfo
  have hxl := lkC_len hx (.slice A2 n2 c2)
  obtain ⟨v', w', hr, h2, h3, _, h5⟩ := run_append_own_at (P := Tryd.prog) w base 22 ty 37 i0 z 35 72 Tryd.underlying22 hi0 hz0 hz1 hz2 hz3 (by decide) v l.length _ ho.own ⟨g, 0, none⟩ 1 1 (lkC x (.slice A2 n2 c2)) (by simpa using hxl) (fun j u hj => by
      rw [Addr.add_mid, Nat.zero_add, cell_of_row _ _ _ _ _ _ hg]
      simpa [lkA] using hj) (fun u hu => by
      have := lkA_one x A2 n2 c2
      rw [Array.all_eq_true_iff_forall_mem] at this
      exact this u (by simpa [lkA] using hu)) (by simp only [maxLen]; omega) (by omega) hbase
  have e : (lkRows (l ++ [x]) (Ds ++ [.slice A2 n2 c2])).flatten = (lkRows l Ds).flatten ++ lkC x (.slice A2 n2 c2) := by
    rw [lkRows_snoc l Ds x _ ho.len, List.flatten_append]
    simp
  refine ⟨v', w', Ds ++ [.slice A2 n2 c2], hr, ⟨by rw [e, List.length_append]; exact h2, by simp [ho.len], fun i y D hy hDy => ?_, fun y hy => ?_, fun k ek => ?_⟩, h3⟩
  · rcases Nat.lt_or_ge i l.length with hi | hi
    · rw [List.getElem?_append_left hi] at hy
      rw [List.getElem?_append_left (by have := ho.len; omega)] at hDy
      exact ho.dat i y D hy hDy
    · have hii : i = l.length := by
        have := (List.getElem?_eq_some_iff.1 hy).1
        simp at this
        omega
      subst hii
      rw [List.getElem?_append_right (by omega)] at hy
      rw [List.getElem?_append_right (by have := ho.len; omega), ho.len] at hDy
      simp at hy hDy
      subst hy hDy
      exact hd
  · rcases List.mem_append.1 hy with h | h
    · exact ho.p32 y h
    · simp at h; subst h; exact hx
  · rcases h5 with h | h
    · exact ho.high k (by rw [← h]; exact ek)
    · rw [ek] at h
      cases h
      exact hbase
end Go.Proofs.YthokpfegfnpmhaaDoor
/- The walk of the reference's Add. -/
namespace Go.Proofs.YthokpfegfnpmhaaDoor
open Go.RowKit Cdc Sha
set_option linter.unusedVariables false
set_option linter.unusedSimpArgs false

theorem wpList_cp {ops : Array Oper} {rest : List Oper} {o : Oper} {a : Act} {Q : Exit → Act → World → Prop} (w0 w : World) (hgd : o.guard = none) (s y : Operand)
    (ho : o.op = .call { callee := .builtin .append, args := #[s, y], argTypes := #[22, 22] }) (l : List Lk) (n : Nat) (A : Option Addr) (c base k0 : Nat)
    (hs : a.eval s = .slice (some ⟨k0, 0, none⟩) 0 0) (hy : a.eval y = .slice A n c) (hn : l.length = n) (hnm : n ≤ 1000000) (hA : LsAt w0 A l) (h0 : A = none → n = 0) (hp : ∀ y ∈ l, y.prev.length = 32) (hown : OwnL w0 w base (.slice (some ⟨k0, 0, none⟩) 0 0) [] []) (hbase : base ≤ w.heap.size) (hBw : Below w0.heap.size w0 w)
    (h : ∀ v' w' Ds, OwnL w0 w' base v' l Ds → w.grownBy w' (some k0) → wpList Tryd.prog ops Q rest (a.put o.dst v') w') : wpList Tryd.prog ops Q (o :: rest) a w := by
  refine wpList_plain hgd fun K hK => ?_
  obtain ⟨v', w', Ds, hr, h2, h3⟩ := run_cp w0 w o.type l n A c base _ hn hnm hA (hA.below hBw) h0 hp hown hbase hBw ⟨k0, rfl⟩
  unfold Oper.wp execOp
  simp only [ho, resolve, invoke, builtin, Sem.run_bind, Sem.run_pure, Result.andThen_ok, List.map_toArray, List.map_cons, List.map_nil, hs, hy, hr]
  exact hK _ _ (h v' w' Ds h2 h3)
theorem wpList_ap {ops : Array Oper} {rest : List Oper} {o : Oper} {a : Act} {Q : Exit → Act → World → Prop} (w0 w : World) (hgd : o.guard = none) (s y : Operand)
    (ho : o.op = .call { callee := .builtin .append, args := #[s, y], argTypes := #[22, 22] }) (l : List Lk) (Ds : List Value) (base : Nat) (v : Value) (x : Lk) (A2 : Option Addr) (n2 c2 g : Nat)
    (hs : a.eval s = v) (hy : a.eval y = .slice (some ⟨g, 0, none⟩) 1 1) (hnm : l.length ≤ 1000000) (hown : OwnL w0 w base v l Ds) (hbase : base ≤ w.heap.size) (hx : x.prev.length = 32) (hd : DatAt w0 (.slice A2 n2 c2) x.data) (hg : w.heap[g]? = some (.cells (lkA x (.slice A2 n2 c2)) 37 (0, 0)))
    (h : ∀ v' w' Ds', OwnL w0 w' base v' (l ++ [x]) Ds' → w.grownBy w' v.ownBlock → wpList Tryd.prog ops Q rest (a.put o.dst v') w') : wpList Tryd.prog ops Q (o :: rest) a w := by
  refine wpList_plain hgd fun K hK => ?_
  obtain ⟨v', w', Ds', hr, h2, h3⟩ := run_ap w0 w o.type l Ds base v x A2 n2 c2 g hnm hown hbase hx hd hg
  unfold Oper.wp execOp
  simp only [ho, resolve, invoke, builtin, Sem.run_bind, Sem.run_pure, Result.andThen_ok, List.map_toArray, List.map_cons, List.map_nil, hs, hy, hr]
  exact hK _ _ (h v' w' Ds' h2 h3)

set_option maxRecDepth 100000 in
set_option maxHeartbeats 2000000 in
theorem radd_bad (n : Nat) (A : Option Addr) (c : Nat) (node : Int) (Ad : Option Addr) (nd cd : Nat) (w : World) (hck : Hid (Calls Tryd.prog 42 #[.slice A n c] w fun e w' => e = .returned (.int .i64 80) ∧ Below w.heap.size w w')) :
    Calls Tryd.prog 16 #[.slice A n c, .int .i64 node, .slice Ad nd cd] w fun e w' => e = .returned (.tuple #[.slice none 0 0, .int .i64 80]) ∧ Below w.heap.size w w' := by
  go_enter Tryd.func16, Tryd.ntmps16
  go_wp2_with (go_at_call 42; (with_reducible refine hck.out.mono ?_); rintro e w1 ⟨rfl, hb1⟩)
  refine bodyPost_ret (v := .tuple #[.slice none 0 0, .int .i64 80]) (by simp [results, Tryd.results16, go_sem]) rfl ⟨rfl, hb1⟩
set_option maxRecDepth 100000 in
set_option maxHeartbeats 2000000 in
theorem radd_lo (n : Nat) (A : Option Addr) (c : Nat) (node : Int) (Ad : Option Addr) (nd cd : Nat) (w : World) (hnm : n < 1000) (hck : Hid (Calls Tryd.prog 42 #[.slice A n c] w fun e w' => e = .returned (.int .i64 0) ∧ Below w.heap.size w w')) (h1 : node < 0) :
    Calls Tryd.prog 16 #[.slice A n c, .int .i64 node, .slice Ad nd cd] w fun e w' => e = .returned (.tuple #[.slice none 0 0, .int .i64 1]) ∧ Below w.heap.size w w' := by
  go_enter Tryd.func16, Tryd.ntmps16
  go_wp2_with (go_at_call 42; (with_reducible refine hck.out.mono ?_); rintro e w1 ⟨rfl, hb1⟩)
  refine bodyPost_ret (v := .tuple #[.slice none 0 0, .int .i64 1]) (by simp [results, Tryd.results16, go_sem]) rfl ⟨rfl, hb1⟩
set_option maxRecDepth 100000 in
set_option maxHeartbeats 2000000 in
theorem radd_hi (n : Nat) (A : Option Addr) (c : Nat) (node : Int) (Ad : Option Addr) (nd cd : Nat) (w : World) (hnm : n < 1000) (hck : Hid (Calls Tryd.prog 42 #[.slice A n c] w fun e w' => e = .returned (.int .i64 0) ∧ Below w.heap.size w w')) (h0 : ¬ node < 0) (h1 : 24 ≤ node) :
    Calls Tryd.prog 16 #[.slice A n c, .int .i64 node, .slice Ad nd cd] w fun e w' => e = .returned (.tuple #[.slice none 0 0, .int .i64 1]) ∧ Below w.heap.size w w' := by
  go_enter Tryd.func16, Tryd.ntmps16
  go_wp2_with (go_at_call 42; (with_reducible refine hck.out.mono ?_); rintro e w1 ⟨rfl, hb1⟩)
  refine bodyPost_ret (v := .tuple #[.slice none 0 0, .int .i64 1]) (by simp [results, Tryd.results16, go_sem]) rfl ⟨rfl, hb1⟩
set_option maxRecDepth 100000 in
set_option maxHeartbeats 2000000 in
theorem radd_node (n : Nat) (A : Option Addr) (c : Nat) (node : Int) (Ad : Option Addr) (nd cd : Nat) (w : World) (hnm : n < 1000) (hck : Hid (Calls Tryd.prog 42 #[.slice A n c] w fun e w' => e = .returned (.int .i64 0) ∧ Below w.heap.size w w')) (h0 : ¬ node < 0) (h1 : ¬ 24 ≤ node) (b1 o1 : Nat) (y : Int) (hA : A = some ⟨b1, o1, none⟩) (hn0 : 0 < n) (hc1 : Hid (∀ V, Below w.heap.size w V → V.cell? ⟨b1, o1, none⟩ = some (.int .i64 y))) (h2 : (y != node) = true) :
    Calls Tryd.prog 16 #[.slice A n c, .int .i64 node, .slice Ad nd cd] w fun e w' => e = .returned (.tuple #[.slice none 0 0, .int .i64 1]) ∧ Below w.heap.size w w' := by
  subst hA
  go_enter Tryd.func16, Tryd.ntmps16
  go_wp2_with (go_at_call 42; (with_reducible refine hck.out.mono ?_); rintro e w1 ⟨rfl, hb1⟩; have hcy := hc1.out _ hb1)
  refine bodyPost_ret (v := .tuple #[.slice none 0 0, .int .i64 1]) (by simp [results, Tryd.results16, go_sem]) rfl ⟨rfl, hb1⟩
set_option maxRecDepth 100000 in
set_option maxHeartbeats 2000000 in
theorem radd_big0 (n : Nat) (A : Option Addr) (c : Nat) (node : Int) (Ad : Option Addr) (nd cd : Nat) (w : World) (hnm : n < 1000) (hck : Hid (Calls Tryd.prog 42 #[.slice A n c] w fun e w' => e = .returned (.int .i64 0) ∧ Below w.heap.size w w')) (h0 : ¬ node < 0) (h1 : ¬ 24 ≤ node) (hn0 : n = 0) (h3 : 65536 < nd) :
    Calls Tryd.prog 16 #[.slice A n c, .int .i64 node, .slice Ad nd cd] w fun e w' => e = .returned (.tuple #[.slice none 0 0, .int .i64 1]) ∧ Below w.heap.size w w' := by
  subst hn0
  go_enter Tryd.func16, Tryd.ntmps16
  go_wp2_with (go_at_call 42; (with_reducible refine hck.out.mono ?_); rintro e w1 ⟨rfl, hb1⟩)
  refine bodyPost_ret (v := .tuple #[.slice none 0 0, .int .i64 1]) (by simp [results, Tryd.results16, go_sem]) rfl ⟨rfl, hb1⟩
set_option maxRecDepth 100000 in
set_option maxHeartbeats 2000000 in
theorem radd_big1 (n : Nat) (A : Option Addr) (c : Nat) (node : Int) (Ad : Option Addr) (nd cd : Nat) (w : World) (hnm : n < 1000) (hck : Hid (Calls Tryd.prog 42 #[.slice A n c] w fun e w' => e = .returned (.int .i64 0) ∧ Below w.heap.size w w')) (h0 : ¬ node < 0) (h1 : ¬ 24 ≤ node) (b1 o1 : Nat) (y : Int) (hA : A = some ⟨b1, o1, none⟩) (hn0 : 0 < n) (hc1 : Hid (∀ V, Below w.heap.size w V → V.cell? ⟨b1, o1, none⟩ = some (.int .i64 y))) (h2 : node = y) (h3 : 65536 < nd) :
    Calls Tryd.prog 16 #[.slice A n c, .int .i64 node, .slice Ad nd cd] w fun e w' => e = .returned (.tuple #[.slice none 0 0, .int .i64 1]) ∧ Below w.heap.size w w' := by
  subst h2
  have e1 : (node != node) = false := by simp
  subst hA
  go_enter Tryd.func16, Tryd.ntmps16
  go_wp2_with (go_at_call 42; (with_reducible refine hck.out.mono ?_); rintro e w1 ⟨rfl, hb1⟩; have hcy := hc1.out _ hb1)
  refine bodyPost_ret (v := .tuple #[.slice none 0 0, .int .i64 1]) (by simp [results, Tryd.results16, go_sem]) rfl ⟨rfl, hb1⟩
theorem own_keep {w w' : World} {base : Nat} {e : TypeId} {k : Nat} {v : Value} {n : Nat} {xs : List Value} (h : w.ownsRow base e k v n xs) (hb : Below w.heap.size w w') : w'.ownsRow base e k v n xs := by
  refine ⟨h.1, ?_⟩
  rcases h.2 with h2 | ⟨g, cap, cur, h1, h2, h3, h4⟩
  · exact .inl h2
  · exact .inr ⟨g, cap, cur, h1, h2, (hb.block g (Array.getElem?_eq_some_iff.1 h3).1).trans h3, h4⟩
set_option maxRecDepth 100000 in
set_option maxHeartbeats 4000000 in
theorem radd_ok1 (n : Nat) (A : Option Addr) (c : Nat) (node : Int) (Ad : Option Addr) (nd cd : Nat) (w : World) (hnm : n < 1000) (hck : Hid (Calls Tryd.prog 42 #[.slice A n c] w fun e w' => e = .returned (.int .i64 0) ∧ Below w.heap.size w w')) (l : List Lk) (xs : List UInt8) (hn : Hid (l.length = n)) (hls : Hid (LsAt w A l)) (h00 : A = none → n = 0) (hp : Hid (∀ y ∈ l, y.prev.length = 32)) (hq32 : (hdC l).length = 32) (h0 : ¬ node < 0) (h1 : ¬ 24 ≤ node) (h3 : nd ≤ 65536) (hdx : Hid (DatAt w (.slice Ad nd cd) xs)) (hH : Hid (∀ V, Below w.heap.size w V → Calls Tryd.prog 43 #[.slice A n c] V fun e w' => e = .returned (.agg (dg (hdC l))) ∧ Below V.heap.size V w')) (b1 o1 : Nat) (y : Int) (hA : A = some ⟨b1, o1, none⟩) (hn0 : 0 < n) (hc1 : Hid (∀ V, Below w.heap.size w V → V.cell? ⟨b1, o1, none⟩ = some (.int .i64 y))) (h2 : node = y) :
    Calls Tryd.prog 16 #[.slice A n c, .int .i64 node, .slice Ad nd cd] w fun e w' => ∃ A' c', e = .returned (.tuple #[.slice A' (n + 1) c', .int .i64 0]) ∧ n + 1 ≤ c' ∧ LsAt w' A' (l ++ [⟨node, n, hdC l, xs⟩]) ∧ Below w.heap.size w w' := by
  subst hA
  subst h2
  have e1 : (node != node) = false := by simp
  generalize hqq : hdC l = q at hH hq32 ⊢
  replace h00 := Lib.hid h00
  have hbu := Lib.hid (built_lk ⟨node, n, q, xs⟩ hq32 Ad nd cd)
  go_enter Tryd.func16, Tryd.ntmps16
  go_wp2_with (first
    | (go_at_call 42; (with_reducible refine hck.out.mono ?_); rintro e w1 ⟨rfl, hb1⟩; have hcy := hc1.out _ hb1)
    | (at_builtin; refine wpList_cp w _ (by rfl) (.tmp 42) (.tmp 43) (by rfl) l n (some ⟨b1, o1, none⟩) c w1.heap.size w1.heap.size (by rfl) (by rfl) hn.out (by omega) hls.out (by first | exact h00.out | exact fun _ => rfl) hp.out (own_nilL w w1 w1.heap.size w1.heap.size (Nat.le_refl _) rfl) (by simp) (hb1.alloc hb1.size _) ?_; intro v2 w2 Ds ho2 hg2
       have hb2 : Below w1.heap.size w1 w2 := ((Below.refl w1.heap.size w1).alloc (Nat.le_refl _) (.cells #[] 37)).grown hg2 (by simp) (fun k e => by cases e; exact Nat.le_refl _)
       have hbw2 : Below w.heap.size w w2 := hb1.trans (hb2.mono hb1.size)
       replace ho2 := Lib.hid ho2
       clear hg2)
    | (go_at_call 43; (with_reducible refine (hH.out _ hbw2).mono ?_); rintro e w3 ⟨rfl, hb3⟩
       have ho3 : OwnL w (w3.alloc (.cells (lkA ⟨node, n, q, xs⟩ (.slice Ad nd cd)) 37)) w1.heap.size v2 l Ds := ⟨World.ownsRow.alloc (own_keep ho2.out.own hb3) _, ho2.out.len, ho2.out.dat, ho2.out.p32, ho2.out.high⟩
       have hb3w := hbw2.trans (hb3.mono hbw2.size)
       have hb13 := hb2.trans (hb3.mono hb2.size)
       replace ho3 := Lib.hid ho3)
    | (refine wpList_buildTo (by rfl) 37 #[(0, .tmp 46), (1, .tmp 48), (2, .tmp 50), (3, .tmp 51)] (by rfl) (some 52) (by rfl) (lkA ⟨node, n, q, xs⟩ (.slice Ad nd cd)) (by simp only [List.map_toArray, List.map_cons, List.map_nil]; exact hbu.out) ?_)
    | (refine wpList_plain (by rfl) (fun K hK => wp_buildLk (.tmp 52) (by rfl) ⟨node, n, q, xs⟩ Ad nd cd hq32 (by rfl) (hK _ _ ?_)))
    | (at_builtin; refine wpList_ap w _ (by rfl) (.tmp 45) (.tmp 53) (by rfl) l Ds w1.heap.size v2 ⟨node, n, q, xs⟩ Ad nd cd w3.heap.size (by rfl) (by rfl) (by rw [hn.out]; omega) ho3.out (by have := hb13.size; simp; omega) hq32 hdx.out (heap_alloc_new w3 _) ?_; intro v4 w4 Ds4 ho4 hg4
       have hb4 : Below w.heap.size w w4 := (hb3w.alloc hb3w.size _).grown hg4 (by have := hb3w.size; simp; omega) (fun k e => by have := ho3.out.high k e; have := hb1.size; omega)
       obtain ⟨A4, c4, hv4, hc4, _, hls4⟩ := lsAt_of_own (l := l ++ [⟨node, n, q, xs⟩]) (n := n + 1) (Ds := Ds4) (by rw [List.length_append, hn.out]; rfl) (by rw [ho4.len, List.length_append, hn.out]; rfl) ho4.p32 (by have := ho4.own; rw [List.length_append, hn.out] at this; exact this) (fun i z D hz hD => (ho4.dat i z D hz hD).below hb4)
       subst hv4
       replace hls4 := Lib.hid hls4
       clear ho4 hg4))
  refine bodyPost_ret (v := .tuple #[.slice A4 (n + 1) c4, .int .i64 0]) (by simp [results, Tryd.results16, go_sem]) rfl ⟨A4, c4, rfl, hc4, hls4.out, hb4⟩
set_option maxRecDepth 100000 in
set_option maxHeartbeats 4000000 in
theorem radd_ok0 (n : Nat) (A : Option Addr) (c : Nat) (node : Int) (Ad : Option Addr) (nd cd : Nat) (w : World) (hnm : n < 1000) (hck : Hid (Calls Tryd.prog 42 #[.slice A n c] w fun e w' => e = .returned (.int .i64 0) ∧ Below w.heap.size w w')) (l : List Lk) (xs : List UInt8) (hn : Hid (l.length = n)) (hls : Hid (LsAt w A l)) (h00 : A = none → n = 0) (hp : Hid (∀ y ∈ l, y.prev.length = 32)) (hq32 : (hdC l).length = 32) (h0 : ¬ node < 0) (h1 : ¬ 24 ≤ node) (h3 : nd ≤ 65536) (hdx : Hid (DatAt w (.slice Ad nd cd) xs)) (hH : Hid (∀ V, Below w.heap.size w V → Calls Tryd.prog 43 #[.slice A n c] V fun e w' => e = .returned (.agg (dg (hdC l))) ∧ Below V.heap.size V w')) (hn0 : n = 0) :
    Calls Tryd.prog 16 #[.slice A n c, .int .i64 node, .slice Ad nd cd] w fun e w' => ∃ A' c', e = .returned (.tuple #[.slice A' (n + 1) c', .int .i64 0]) ∧ n + 1 ≤ c' ∧ LsAt w' A' (l ++ [⟨node, n, hdC l, xs⟩]) ∧ Below w.heap.size w w' := by
  subst hn0
  generalize hqq : hdC l = q at hH hq32 ⊢
  replace h00 := Lib.hid h00
  have hbu := Lib.hid (built_lk ⟨node, 0, q, xs⟩ hq32 Ad nd cd)
  go_enter Tryd.func16, Tryd.ntmps16
  go_wp2_with (first
    | (go_at_call 42; (with_reducible refine hck.out.mono ?_); rintro e w1 ⟨rfl, hb1⟩)
    | (at_builtin; refine wpList_cp w _ (by rfl) (.tmp 42) (.tmp 43) (by rfl) l 0 A c w1.heap.size w1.heap.size (by rfl) (by rfl) hn.out (by omega) hls.out (by first | exact h00.out | exact fun _ => rfl) hp.out (own_nilL w w1 w1.heap.size w1.heap.size (Nat.le_refl _) rfl) (by simp) (hb1.alloc hb1.size _) ?_; intro v2 w2 Ds ho2 hg2
       have hb2 : Below w1.heap.size w1 w2 := ((Below.refl w1.heap.size w1).alloc (Nat.le_refl _) (.cells #[] 37)).grown hg2 (by simp) (fun k e => by cases e; exact Nat.le_refl _)
       have hbw2 : Below w.heap.size w w2 := hb1.trans (hb2.mono hb1.size)
       replace ho2 := Lib.hid ho2
       clear hg2)
    | (go_at_call 43; (with_reducible refine (hH.out _ hbw2).mono ?_); rintro e w3 ⟨rfl, hb3⟩
       have ho3 : OwnL w (w3.alloc (.cells (lkA ⟨node, 0, q, xs⟩ (.slice Ad nd cd)) 37)) w1.heap.size v2 l Ds := ⟨World.ownsRow.alloc (own_keep ho2.out.own hb3) _, ho2.out.len, ho2.out.dat, ho2.out.p32, ho2.out.high⟩
       have hb3w := hbw2.trans (hb3.mono hbw2.size)
       have hb13 := hb2.trans (hb3.mono hb2.size)
       replace ho3 := Lib.hid ho3)
    | (refine wpList_buildTo (by rfl) 37 #[(0, .tmp 46), (1, .tmp 48), (2, .tmp 50), (3, .tmp 51)] (by rfl) (some 52) (by rfl) (lkA ⟨node, 0, q, xs⟩ (.slice Ad nd cd)) (by simp only [List.map_toArray, List.map_cons, List.map_nil]; exact hbu.out) ?_)
    | (refine wpList_plain (by rfl) (fun K hK => wp_buildLk (.tmp 52) (by rfl) ⟨node, 0, q, xs⟩ Ad nd cd hq32 (by rfl) (hK _ _ ?_)))
    | (at_builtin; refine wpList_ap w _ (by rfl) (.tmp 45) (.tmp 53) (by rfl) l Ds w1.heap.size v2 ⟨node, 0, q, xs⟩ Ad nd cd w3.heap.size (by rfl) (by rfl) (by rw [hn.out]; omega) ho3.out (by have := hb13.size; simp; omega) hq32 hdx.out (heap_alloc_new w3 _) ?_; intro v4 w4 Ds4 ho4 hg4
       have hb4 : Below w.heap.size w w4 := (hb3w.alloc hb3w.size _).grown hg4 (by have := hb3w.size; simp; omega) (fun k e => by have := ho3.out.high k e; have := hb1.size; omega)
       obtain ⟨A4, c4, hv4, hc4, _, hls4⟩ := lsAt_of_own (l := l ++ [⟨node, 0, q, xs⟩]) (n := 0 + 1) (Ds := Ds4) (by rw [List.length_append, hn.out]; rfl) (by rw [ho4.len, List.length_append, hn.out]; rfl) ho4.p32 (by have := ho4.own; rw [List.length_append, hn.out] at this; exact this) (fun i z D hz hD => (ho4.dat i z D hz hD).below hb4)
       subst hv4
       replace hls4 := Lib.hid hls4
       clear ho4 hg4))
  refine bodyPost_ret (v := .tuple #[.slice A4 (0 + 1) c4, .int .i64 0]) (by simp [results, Tryd.results16, go_sem]) rfl ⟨A4, c4, rfl, hc4, hls4.out, hb4⟩

/-- the reference's Add, where its arguments are in order -/
theorem radd_ok (l : List Lk) (n : Nat) (A : Option Addr) (c : Nat) (node : Int) (xs : List UInt8) (Ad : Option Addr) (nd cd : Nat) (w : World) (hn : l.length = n) (hnm : n < 1000) (hc : n ≤ c) (hls : LsAt w A l) (hok : ∀ x ∈ l, LkOk x) (hch : OkL l) (hdx : DatAt w (.slice Ad nd cd) xs) (harg : ArgC l node nd) :
    Calls Tryd.prog 16 #[.slice A n c, .int .i64 node, .slice Ad nd cd] w fun e w' => ∃ A' c', e = .returned (.tuple #[.slice A' (n + 1) c', .int .i64 0]) ∧ n + 1 ≤ c' ∧ LsAt w' A' (l ++ [⟨node, n, hdC l, xs⟩]) ∧ Below w.heap.size w w' := by
  obtain ⟨h1, h2, h3, h4⟩ := harg
  have hck : Hid (Calls Tryd.prog 42 #[.slice A n c] w fun e w' => e = .returned (.int .i64 0) ∧ Below w.heap.size w w') := Lib.hid (by
    have := rcheck8_any l n A c w hn (by omega) hc hls hok
    rw [ckC_ok hch] at this
    exact this)
  have hH : Hid (∀ V, Below w.heap.size w V → Calls Tryd.prog 43 #[.slice A n c] V fun e w' => e = .returned (.agg (dg (hdC l))) ∧ Below V.heap.size V w') := Lib.hid fun V h => rhead_any l n A c V hn (by omega) hc (hls.below h) hok
  have hp : Hid (∀ y ∈ l, y.prev.length = 32) := Lib.hid fun y hy => (hok y hy).p32
  by_cases n0 : n = 0
  · exact radd_ok0 n A c node Ad nd cd w hnm hck l xs (Lib.hid hn) (Lib.hid hls) (fun _ => n0) hp (hdC_len l) (by omega) (by omega) h4 (Lib.hid hdx) hH n0
  · obtain ⟨y, hy⟩ : ∃ y, l[0]? = some y := ⟨_, List.getElem?_eq_getElem (by omega)⟩
    obtain ⟨b1, o1, D, hA, hr, _⟩ := hls 0 y hy
    exact radd_ok1 n A c node Ad nd cd w hnm hck l xs (Lib.hid hn) (Lib.hid hls) (fun e => by rw [hA] at e; cases e) hp (hdC_len l) (by omega) (by omega) h4 (Lib.hid hdx) hH b1 o1 y.node hA (by omega) (Lib.hid fun V h => by
      have := range_below hr h 0 (.int .i64 y.node) (by simp [lkC])
      simpa using this) (h3 y hy)

/-- the reference's Add, where its arguments are not in order -/
theorem radd_err (l : List Lk) (n : Nat) (A : Option Addr) (c : Nat) (node : Int) (Ad : Option Addr) (nd cd : Nat) (w : World) (hn : l.length = n) (hnm : n < 1000) (hc : n ≤ c) (hls : LsAt w A l) (hok : ∀ x ∈ l, LkOk x) (hch : OkL l) (harg : ¬ ArgC l node nd) :
    Calls Tryd.prog 16 #[.slice A n c, .int .i64 node, .slice Ad nd cd] w fun e w' => e = .returned (.tuple #[.slice none 0 0, .int .i64 1]) ∧ Below w.heap.size w w' := by
  have hck : Hid (Calls Tryd.prog 42 #[.slice A n c] w fun e w' => e = .returned (.int .i64 0) ∧ Below w.heap.size w w') := Lib.hid (by
    have := rcheck8_any l n A c w hn (by omega) hc hls hok
    rw [ckC_ok hch] at this
    exact this)
  by_cases h1 : node < 0
  · exact radd_lo n A c node Ad nd cd w hnm hck h1
  · by_cases h2 : 24 ≤ node
    · exact radd_hi n A c node Ad nd cd w hnm hck h1 h2
    · by_cases n0 : n = 0
      · refine radd_big0 n A c node Ad nd cd w hnm hck h1 h2 n0 ?_
        apply Classical.byContradiction
        intro h4
        refine harg ⟨by omega, by omega, fun y hy => ?_, by omega⟩
        have := (List.getElem?_eq_some_iff.1 hy).1
        omega
      · obtain ⟨y, hy⟩ : ∃ y, l[0]? = some y := ⟨_, List.getElem?_eq_getElem (by omega)⟩
        obtain ⟨b1, o1, D, hA, hr, _⟩ := hls 0 y hy
        have hc1 : Hid (∀ V, Below w.heap.size w V → V.cell? ⟨b1, o1, none⟩ = some (.int .i64 y.node)) := Lib.hid fun V h => by
          have := range_below hr h 0 (.int .i64 y.node) (by simp [lkC])
          simpa using this
        by_cases h3 : node = y.node
        · refine radd_big1 n A c node Ad nd cd w hnm hck h1 h2 b1 o1 y.node hA (by omega) hc1 h3 ?_
          apply Classical.byContradiction
          intro h4
          exact harg ⟨by omega, by omega, fun z hz => by rw [hy] at hz; cases hz; exact h3, by omega⟩
        · exact radd_node n A c node Ad nd cd w hnm hck h1 h2 b1 o1 y.node hA (by omega) hc1 (by simpa using fun e : y.node = node => h3 e.symm)
end Go.Proofs.YthokpfegfnpmhaaDoor
