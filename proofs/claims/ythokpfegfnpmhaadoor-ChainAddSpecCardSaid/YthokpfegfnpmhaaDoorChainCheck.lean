/- The walk of chain.Check. -/
import Derived.Test.YthokpfegfnpmhaaDoorChainIter
import Derived.Test.YthokpfegfnpmhaaDoorEqDg
import Derived.Test.YthokpfegfnpmhaaDoorRoundR
namespace Go.Proofs.YthokpfegfnpmhaaDoor
open Go.RowKit Go.Shelf Cdc Sha
set_option linter.unusedVariables false
set_option linter.unusedSimpArgs false
attribute [local go_sem] Oper.semAt_some

theorem beginnings_any (A : Option Addr) (n c : Nat) (w : World) :
    Calls Tryd.prog 50 #[.slice A n c] w fun e w' => e = .returned (.func (.func 74) #[] #[.pointer (some ⟨w.heap.size, 0, none⟩)]) ∧ w' = w.alloc (.cells #[.slice A n c] 22) := by
  go_enter Tryd.func50, Tryd.ntmps50
  go_wp2
  go_ret
  exact ⟨rfl, rfl⟩

/-- what holds ahead of the k-th round: w: the world in which Check was called -/
structure CkI (w : World) (l : List Lk) (v : Value) (k : Nat) (W : World) : Prop where
  bl : Boxed W w.heap.size 22 v
  be : Boxed W (w.heap.size + 1) 26 (.int .i64 0)
  bi : Boxed W (w.heap.size + 1 + 1) 3 (.int .i64 k)
  bb : Below w.heap.size w W
  sz : w.heap.size + 4 ≤ W.heap.size
  ok : OkTo l k
/-- what holds behind a round that has found a link that is not good -/
structure CkX (w : World) (l : List Lk) (W : World) : Prop where
  be : Boxed W (w.heap.size + 1) 26 (.int .i64 80)
  bb : Below w.heap.size w W
  sz : w.heap.size + 4 ≤ W.heap.size
  bad : ¬ OkL l
/-- Check's own: its result, its counter, and what it lays later -/
def ckOwn (n : Nat) (k : Nat) : Prop := k = n + 1 ∨ k = n + 1 + 1 ∨ n + 4 ≤ k

theorem CkI.grown {w W W' : World} {l : List Lk} {v : Value} {k : Nat} {row : Option Nat} (h : CkI w l v k W) (hg : W.grownBy W' row) (hr : ∀ r, row = some r → w.heap.size + 4 ≤ r) : CkI w l v k W' :=
  ⟨h.bl.kept hg (fun e => by have := hr _ e.symm; omega), h.be.kept hg (fun e => by have := hr _ e.symm; omega), h.bi.kept hg (fun e => by have := hr _ e.symm; omega),
    h.bb.grown hg h.bb.size (fun k e => by have := hr _ e; omega), Nat.le_trans h.sz hg.size, h.ok⟩
theorem CkX.grown {w W W' : World} {l : List Lk} {row : Option Nat} (h : CkX w l W) (hg : W.grownBy W' row) (hr : ∀ r, row = some r → w.heap.size + 4 ≤ r) : CkX w l W' :=
  ⟨h.be.kept hg (fun e => by have := hr _ e.symm; omega), h.bb.grown hg h.bb.size (fun k e => by have := hr _ e; omega), Nat.le_trans h.sz hg.size, h.bad⟩
theorem CkI.below {w W W' : World} {l : List Lk} {v : Value} {k : Nat} (h : CkI w l v k W) (hb : Below W.heap.size W W') : CkI w l v k W' := by
  have := h.sz
  exact ⟨(hb.block _ h.bl.lt).trans h.bl, (hb.block _ h.be.lt).trans h.be, (hb.block _ h.bi.lt).trans h.bi, h.bb.trans (hb.mono h.bb.size), Nat.le_trans h.sz hb.size, h.ok⟩
theorem CkX.below {w W W' : World} {l : List Lk} (h : CkX w l W) (hb : Below W.heap.size W W') : CkX w l W' := by
  have := h.sz
  exact ⟨(hb.block _ h.be.lt).trans h.be, h.bb.trans (hb.mono h.bb.size), Nat.le_trans h.sz hb.size, h.bad⟩
theorem CkI.drewN {w W : World} {l : List Lk} {v : Value} {k : Nat} (h : CkI w l v k W) (n : Nat) : CkI w l v k (W.drewN n) :=
  ⟨h.bl, h.be, h.bi, ⟨h.bb.os, h.bb.tape, h.bb.output, h.bb.size, h.bb.block⟩, h.sz, h.ok⟩
theorem CkI.next {w W : World} {l : List Lk} {v : Value} {k : Nat} {x : Lk} (h : CkI w l v k W) (hx : l[k]? = some x) (hg : GoodL l k x) : CkI w l v (k + 1) (W.setCell ⟨w.heap.size + 1 + 1, 0, none⟩ (.int .i64 ((k : Int) + 1))) := by
  rw [show (k : Int) + 1 = ((k + 1 : Nat) : Int) by omega]
  exact ⟨h.bl.other (by omega) _, h.be.other (by omega) _, h.bi.set _, h.bb.setCell (p := ⟨w.heap.size + 1 + 1, 0, none⟩) (by show w.heap.size ≤ w.heap.size + 1 + 1; omega) _, by simpa using h.sz, h.ok.succ hx hg⟩
theorem CkI.stop {w W : World} {l : List Lk} {v : Value} {k : Nat} {x : Lk} (h : CkI w l v k W) (hx : l[k]? = some x) (hg : ¬ GoodL l k x) : CkX w l (W.setCell ⟨w.heap.size + 1, 0, none⟩ (.int .i64 80)) :=
  ⟨h.be.set _, h.bb.setCell (p := ⟨w.heap.size + 1, 0, none⟩) (by show w.heap.size ≤ w.heap.size + 1; omega) _, by simpa using h.sz, not_okL hx hg⟩
theorem kf_set {W : World} (B n : Nat) (p : Addr) (v : Value) (hp : p.block < B) : KeepsFrom B W ((W.drewN n).setCell p v) :=
  ⟨by simp [World.setCell, World.drewN], fun k o hk h ho => (Below.heap_setCell (W.drewN n) p v k (by omega)).trans h⟩
theorem only_set {w W : World} (n : Nat) (p : Addr) (v : Value) (hp : ckOwn w.heap.size p.block) : Only (ckOwn w.heap.size) W ((W.drewN n).setCell p v) :=
  (show Only (ckOwn w.heap.size) W (W.drewN n) from ⟨rfl, rfl, rfl, Nat.le_refl _, fun _ _ _ => rfl⟩).trans ((Only.refl _ _).setCell hp v)

/-- what the round's assignments leave: the link and the head, each in a block of its own -/
def CkA (n : Nat) (fr : Array Value) (x : Itm) (a : Act) (W : World) : Prop :=
  ∃ g4 g5, n + 4 ≤ g4 ∧ n + 4 ≤ g5 ∧ a = { tmps := (((fr.setIfInBounds 11 (.agg (lkA x.1 x.2.1))).setIfInBounds 12 (.agg (dg x.2.2))).setIfInBounds 4 (.pointer (some ⟨g4, 0, none⟩))).setIfInBounds 5 (.pointer (some ⟨g5, 0, none⟩)), defers := [] } ∧
    W.heap[g4]? = some (.cells (lkA x.1 x.2.1) 37 (0, 0)) ∧ W.heap[g5]? = some (.cells (dg x.2.2) 35 (0, 0))
theorem CkA.grown {n : Nat} {fr : Array Value} {x : Itm} {a : Act} {W W' : World} {row : Option Nat} (h : CkA n fr x a W) (hg : W.grownBy W' row) (hr : ∀ r, row = some r → ∃ o : Obj, W.heap[r]? = some o ∧ o.isCells = false) : CkA n fr x a W' := by
  obtain ⟨g4, g5, h1, h2, h3, h4, h5⟩ := h
  refine ⟨g4, g5, h1, h2, h3, (hg.block g4 (Array.getElem?_eq_some_iff.1 h4).1 ?_).trans h4, (hg.block g5 (Array.getElem?_eq_some_iff.1 h5).1 ?_).trans h5⟩
  · intro e
    obtain ⟨o, ho, hc⟩ := hr _ e.symm
    rw [h4] at ho
    cases ho
    cases hc
  · intro e
    obtain ⟨o, ho, hc⟩ := hr _ e.symm
    rw [h5] at ho
    cases ho
    cases hc

theorem lk_prev_at' {W : World} {g : Nat} {x : Lk} {D : Value} (h : W.heap[g]? = some (.cells (lkA x D) 37 (0, 0))) : W.rangeAt g 2 (x.prev.map by1) := fun j v hj => by
  obtain ⟨y, hy, rfl⟩ : ∃ y, x.prev[j]? = some y ∧ by1 y = v := by simpa using hj
  rw [cell_of_row _ _ _ _ _ _ h]
  have := lkC_prev (D := D) hy
  simpa [lkA] using this
theorem lk_cells' {W : World} {g : Nat} {x : Lk} {D : Value} (hp : x.prev.length = 32) (h : W.heap[g]? = some (.cells (lkA x D) 37 (0, 0))) :
    W.cell? ⟨g, 0, none⟩ = some (.int .i64 x.node) ∧ W.cell? ⟨g, 1, none⟩ = some (.int .i64 x.no) ∧ W.cell? ⟨g, 34, none⟩ = some D := by
  refine ⟨by rw [cell_of_row _ _ _ _ _ _ h]; simp [lkA, lkC], by rw [cell_of_row _ _ _ _ _ _ h]; simp [lkA, lkC], ?_⟩
  rw [cell_of_row _ _ _ _ _ _ h]
  have := lkC_data hp D
  simpa [lkA] using this
theorem dg_infoL (bs : List UInt8) (h : bs.length = 32) : (Tryd.prog.info? 35).map (·.size) = some (bs.map by1).length := by rw [List.length_map, h]; kernel_rfl

set_option maxRecDepth 100000 in
set_option maxHeartbeats 16000000 in
theorem check_any8 (l : List Lk) (m : Nat) (A : Option Addr) (c : Nat) (w : World) (hn : l.length = m) (hm : m ≤ 1000) (hc : m ≤ c) (hls : LsAt w A l) (hok : ∀ x ∈ l, LkOk x) (hL : Laid w) :
    Calls Tryd.prog 21 #[.slice A m c] w fun e w' => e = .returned (.int .i64 (ckC l)) ∧ Below w.heap.size w w' := by
  refine (callsIn_wide (n := 8)).1 ?_
  refine callsIn_of_wp_marks Tryd.func21 rfl trivial ?_ rfl
  simp only [Tryd.ntmps21, List.size_toArray, List.length_cons, List.length_nil, Nat.reduceAdd, Nat.reduceSub, Array.replicate_succ, Array.replicate_zero, List.push_toArray, List.append_toArray, List.nil_append, List.cons_append]
  have hmx : Tryd.prog.follows .mixedOrders = true := by kernel_rfl
  replace hls := Lib.hid hls
  replace hok := Lib.hid hok
  replace hL := Lib.hid hL
  gi_wp2_with (refine ⟨trivial, ?_⟩; gi_at_call 50; refine (callsIn_wide.2 (beginnings_any _ _ _ _)).mono ?_; rintro e w' ⟨rfl, rfl⟩)
  obtain ⟨W0, hW0⟩ : ∃ W0, ((((w.alloc (.cells #[.slice A m c] 22)).alloc (.cells #[.int .i64 0] 26)).alloc (.cells #[.int .i64 0] 3)).alloc (.cells #[.slice A m c] 22)) = W0 := ⟨_, rfl⟩
  have hsz : W0.heap.size = w.heap.size + 4 := by rw [← hW0]; simp
  have hI0 : CkI w l (.slice A m c) 0 W0 := by
    have b1 := Boxed.new w 22 (.slice A m c)
    have b2 := Boxed.new (w.alloc (.cells #[.slice A m c] 22)) 26 (.int .i64 0)
    have b3 := Boxed.new ((w.alloc (.cells #[.slice A m c] 22)).alloc (.cells #[.int .i64 0] 26)) 3 (.int .i64 0)
    simp only [World.size_alloc] at b2 b3
    rw [← hW0]
    exact ⟨((b1.alloc _).alloc _).alloc _, (b2.alloc _).alloc _, b3.alloc _, ((((Below.refl _ w).alloc (Nat.le_refl _) _).alloc (by simp) _).alloc (by simp; omega) _).alloc (by simp; omega) _, by simp, okTo_zero l⟩
  have hbx : Boxed W0 (w.heap.size + 1 + 1 + 1) 22 (.slice A m c) := by
    have b4 := Boxed.new (((w.alloc (.cells #[.slice A m c] 22)).alloc (.cells #[.int .i64 0] 26)).alloc (.cells #[.int .i64 0] 3)) 22 (.slice A m c)
    simp only [World.size_alloc] at b4
    rw [← hW0]
    exact b4
  rw [hW0]
  clear hW0
  refine wpIn_rangeFunc_sta (F := Fence.wide) (n := 8) rfl (by decide) (gf := 74) (lb := #[.pointer (some ⟨w.heap.size + 1 + 1 + 1, 0, none⟩)]) rfl trivial (enters_of Tryd.func74 (by kernel_rfl) rfl)
    (encs := itEncs) (Kp := Only (ckOwn w.heap.size)) (S := fun xs => xs.length = m) (Sp := fun _ => True)
    (fun W1 hb1 _ => begin_seq 7 (by decide) l m A c (w.heap.size + 1 + 1 + 1) w W1 (ckOwn w.heap.size) hn hm hc hls.out hok.out hL.out (hI0.bb.trans (hb1.mono hI0.bb.size)) (fun k hk => by unfold ckOwn at hk; omega) (by unfold ckOwn; omega) ((hb1.cell (by show w.heap.size + 1 + 1 + 1 < W0.heap.size; omega)).trans hbx.cell))
    (fun A B h k o hk hA _ => by rw [h.block k (Array.getElem?_eq_some_iff.1 hA).1]; exact hA)
    (fun h k => h.trans k)
    (fun W l o o' hl hW _ _ => ⟨rfl, rfl, rfl, by simp, fun k _ hk => World.putObj_heap_other (fun e => hk (.inr (.inr (by omega))))⟩)
    (fun _ => rfl)
    (fun pre W => CkI w l (.slice A m c) pre.length W) (fun c _ W => c = .ret ∧ CkX w l W) ?hI ?hIx ?hIs ?hIxs hI0
    (CkA w.heap.size #[.slice A m c, .pointer (some ⟨w.heap.size, 0, none⟩), .pointer (some ⟨w.heap.size + 1, 0, none⟩), .pointer (some ⟨w.heap.size + 1 + 1, 0, none⟩), undef, undef, .slice A m c, .int .i64 m, .bool (decide ((1024 : Int) < (m : Int))), .slice A m c, .func (.func 74) #[] #[.pointer (some ⟨w.heap.size + 1 + 1 + 1, 0, none⟩)], undef, undef, undef, undef, undef, undef, undef, undef, undef, undef, undef, undef, undef, undef, undef, undef, undef, undef, undef, undef, undef, undef, undef, undef, undef, undef, undef, undef, undef, undef, undef, undef, undef, undef, undef, undef, undef, undef, undef]) ?hAx ?assign ?body ?done ?stop
  case hI => exact fun s A B row hs hg hr => hs.grown hg (fun r e => by have := (hr r e).1; omega)
  case hIx => exact fun c s A B row hs hg hr => ⟨hs.1, hs.2.grown hg (fun r e => by have := (hr r e).1; omega)⟩
  case hIs => exact fun s A B hs h => hs.below h
  case hIxs => exact fun c s A B hs h => ⟨hs.1, hs.2.below h⟩
  case hAx => exact fun x a' s A B row hs hg hr => hs.grown hg (fun r e => (hr r e).2)
  case assign =>
    intro r pre x W K hI hnx hsz2 hK
    obtain ⟨x, D, q⟩ := x
    obtain ⟨hx, hq, A2, c2, hD⟩ := hnx
    dsimp only at hx hq hD
    subst hD hq
    have hxo := hok.out x (List.mem_of_getElem? hx)
    have hiA := Lib.hid (lk_info hxo.p32 (.slice A2 x.data.length c2))
    have hiS : Hid (35 = (lkA x (.slice A2 x.data.length c2)).size) := Lib.hid (lkA_size hxo.p32 _).symm
    have hiO := Lib.hid (lkA_one x A2 x.data.length c2)
    have hi5 := Lib.hid (dg_info _ (hdC_len (l.take pre.length)))
    have ho5 := Lib.hid (dg_one (hdC (l.take pre.length)))
    have hr5 : Hid (32 = (dg (hdC (l.take pre.length))).size) := Lib.hid (by rw [dg_size, hdC_len])
    obtain ⟨q, hq⟩ : ∃ q, hdC (l.take pre.length) = q := ⟨_, rfl⟩
    rw [hq] at hi5 ho5 hr5 hK ⊢
    have hsz9 := Lib.hid hsz2
    gi_wp2_with (first
      | (refine wpListIn_round_of_wp (by rfl) (by intro _ e; cases e) (wp_new_row' 37 (.tmp 4) (.tmp 11) (by rfl) (by rfl) (lkA x (.slice A2 x.data.length c2)) W.heap.size (by rfl) rfl (by rfl) 37 _ hiA.out hiS.out hiO.out ?_); intro w3 hd3 hz3 hB3; replace hd3 := Lib.hid hd3; replace hz3 := Lib.hid hz3)
      | (refine wpListIn_round_of_wp (by rfl) (by intro _ e; cases e) (wp_new_row' 35 (.tmp 5) (.tmp 12) (by rfl) (by rfl) (dg q) w3.heap.size (by rfl) rfl (by rfl) 35 _ hi5.out hr5.out ho5.out ?_); intro w5 hd5 hz5 hB5; replace hd5 := Lib.hid hd5; replace hz5 := Lib.hid hz5))
    have hBB := hB3.trans (hB5.mono hB3.size)
    have hz := hz3.out
    refine hK _ w5 ⟨hBB.size, fun k o hk h _ => (hBB.block k (Array.getElem?_eq_some_iff.1 h).1).trans h⟩ (Only.of_below hBB) (hI.below hBB)
      ⟨W.heap.size, w3.heap.size, by omega, by omega, rfl, (hB5.block W.heap.size (by omega)).trans hd3.out, hd5.out⟩
  case body =>
    rintro r pre ⟨x, D, q⟩ a' W hI ⟨hx, hq, A2, c2, hD⟩ ⟨g4, g5, hg4, hg5, rfl, hc4, hc5⟩ hsz2
    dsimp only at hx hq hD hc4 hc5
    subst hD
    obtain ⟨k, hk⟩ : ∃ k, pre.length = k := ⟨_, rfl⟩
    have hlen : ∀ t : Itm, (pre ++ [t]).length = k + 1 := fun t => by rw [List.length_append, hk]; rfl
    rw [hk] at hI hx hq
    have hxo := hok.out x (List.mem_of_getElem? hx)
    have hkm : k < m := by have := (List.getElem?_eq_some_iff.1 hx).1; omega
    obtain ⟨y, hy⟩ : ∃ y, l[0]? = some y := ⟨_, List.getElem?_eq_getElem (by omega)⟩
    obtain ⟨by0, bo0, D0, hA0, hr0, _⟩ := hls.out 0 y hy
    subst hA0
    have hcy : W.cell? ⟨by0, bo0, none⟩ = some (.int .i64 y.node) := by
      have := range_below hr0 hI.bb 0 (.int .i64 y.node) (by simp [lkC])
      simpa using this
    obtain ⟨c40, c41, c434⟩ := lk_cells' hxo.p32 hc4
    have cl := hI.bl.cell
    have ci := hI.bi.cell
    have fi := hI.bi.frozen
    have ce := hI.be.cell
    have fe := hI.be.frozen
    have hq32 : q.length = 32 := by rw [hq]; exact hdC_len _
    have r4 : Hid (∀ V, (∃ n, V = W.drewN n) → V.rangeAt g4 2 (x.prev.map by1)) := Lib.hid (by rintro V ⟨n, rfl⟩; exact lk_prev_at' (W := W.drewN n) hc4)
    have r5 : Hid (∀ V, (∃ n, V = W.drewN n) → V.rangeAt g5 0 (q.map by1)) := Lib.hid (by
      rintro V ⟨n, rfl⟩ j v hj
      rw [cell_of_row (W.drewN n) g5 _ _ _ _ hc5]
      simpa [dg] using hj)
    have i4 := Lib.hid (dg_infoL x.prev hxo.p32)
    have i5 := Lib.hid (dg_infoL q hq32)
    have q0 : ∀ V, (Op.equalIn 10000 35 (.agg (x.prev.map by1).toArray) (.agg (q.map by1).toArray)).run Tryd.prog V = .ok (decide (x.prev = q)) V := eq_dg x.prev q hxo.p32 hq32
    have hgood : GoodL l k x ↔ x.node = y.node ∧ 0 ≤ x.node ∧ x.node < 24 ∧ x.no = k ∧ x.data.length ≤ 65536 ∧ x.prev = q := by
      constructor
      · intro h; exact ⟨h.node y hy, h.lo, h.hi, h.no, h.data, by rw [hq]; exact h.prev⟩
      · rintro ⟨h1, h2, h3, h4, h5, h6⟩; exact ⟨fun z hz => by rw [hy] at hz; cases hz; exact h1, h2, h3, h4, h5, by rw [h6, hq]⟩
    replace hgood := Lib.hid hgood
    replace hI := Lib.hid hI
    replace hlen := Lib.hid hlen
    obtain ⟨xn, xo, xp, xd⟩ := x
    obtain ⟨nd, hnd⟩ : ∃ nd, xd.length = nd := ⟨_, rfl⟩
    dsimp only at hgood c40 c41 c434 r4 r5 i4 q0 hcy
    rw [hnd] at hgood c434
    obtain ⟨yn, hyn⟩ : ∃ yn, y.node = yn := ⟨_, rfl⟩
    rw [hyn] at hgood hcy
    clear hc4 hc5 hq hnd hyn hr0 hy hxo
    simp only [List.setIfInBounds_toArray, List.set]
    by_cases h1 : xn = yn
    · subst h1
      have e1 : (xn != xn) = false := by simp
      by_cases h2 : xn < 0
      ·
        have e2 : decide (xn < 0) = true := decide_eq_true h2
        gi_wp2
        refine wpIn_region_quiet_round (F := Fence.wide) rfl hmx (by kernel_rfl) (by kernel_rfl) ?_
        repeat (first
          | (gi_big_quiet_want; refine quietIn_load_mid 35 (.tmp 43) (by rfl) g4 2 (by rfl) (xp.map by1) _ r4.out Tryd.underlying35 (by rfl) i4.out ?_; simp only [Act.put, List.setIfInBounds_toArray, List.set]; go_big_quiet_on)
          | (gi_big_quiet_want; refine quietIn_load_mid 35 (.tmp 5) (by rfl) g5 0 (by rfl) (q.map by1) _ r5.out Tryd.underlying35 (by rfl) i5.out ?_; simp only [Act.put, List.setIfInBounds_toArray, List.set]; go_big_quiet_on)
          | gi_big_quiet_step (fail))
        refine wpQuietIn_nil ?_
        intro _ hw2
        obtain ⟨nq, rfl⟩ := hw2
        gi_wp2
        exact ⟨kf_set W0.heap.size nq ⟨w.heap.size + 1, 0, none⟩ _ (by show w.heap.size + 1 < _; omega), rfl, (hI.out.drewN nq).stop hx (fun hg => by have hh := hgood.out.1 hg; omega)⟩
      ·
        have e2 : decide (xn < 0) = false := decide_eq_false h2
        by_cases h3 : 24 ≤ xn
        ·
          have e3 : decide (24 ≤ xn) = true := decide_eq_true h3
          gi_wp2
          refine wpIn_region_quiet_round (F := Fence.wide) rfl hmx (by kernel_rfl) (by kernel_rfl) ?_
          repeat (first
            | (gi_big_quiet_want; refine quietIn_load_mid 35 (.tmp 43) (by rfl) g4 2 (by rfl) (xp.map by1) _ r4.out Tryd.underlying35 (by rfl) i4.out ?_; simp only [Act.put, List.setIfInBounds_toArray, List.set]; go_big_quiet_on)
            | (gi_big_quiet_want; refine quietIn_load_mid 35 (.tmp 5) (by rfl) g5 0 (by rfl) (q.map by1) _ r5.out Tryd.underlying35 (by rfl) i5.out ?_; simp only [Act.put, List.setIfInBounds_toArray, List.set]; go_big_quiet_on)
            | gi_big_quiet_step (fail))
          refine wpQuietIn_nil ?_
          intro _ hw2
          obtain ⟨nq, rfl⟩ := hw2
          gi_wp2
          exact ⟨kf_set W0.heap.size nq ⟨w.heap.size + 1, 0, none⟩ _ (by show w.heap.size + 1 < _; omega), rfl, (hI.out.drewN nq).stop hx (fun hg => by have hh := hgood.out.1 hg; omega)⟩
        ·
          have e3 : decide (24 ≤ xn) = false := decide_eq_false h3
          by_cases h4 : xo = (k : Int)
          · subst h4
            have e4 : ((k : Int) != (k : Int)) = false := by simp
            by_cases h5 : 65536 < (nd : Int)
            ·
              have e5 : decide (65536 < (nd : Int)) = true := decide_eq_true h5
              gi_wp2
              refine wpIn_region_quiet_round (F := Fence.wide) rfl hmx (by kernel_rfl) (by kernel_rfl) ?_
              repeat (first
                | (gi_big_quiet_want; refine quietIn_load_mid 35 (.tmp 43) (by rfl) g4 2 (by rfl) (xp.map by1) _ r4.out Tryd.underlying35 (by rfl) i4.out ?_; simp only [Act.put, List.setIfInBounds_toArray, List.set]; go_big_quiet_on)
                | (gi_big_quiet_want; refine quietIn_load_mid 35 (.tmp 5) (by rfl) g5 0 (by rfl) (q.map by1) _ r5.out Tryd.underlying35 (by rfl) i5.out ?_; simp only [Act.put, List.setIfInBounds_toArray, List.set]; go_big_quiet_on)
                | gi_big_quiet_step (fail))
              refine wpQuietIn_nil ?_
              intro _ hw2
              obtain ⟨nq, rfl⟩ := hw2
              gi_wp2
              exact ⟨kf_set W0.heap.size nq ⟨w.heap.size + 1, 0, none⟩ _ (by show w.heap.size + 1 < _; omega), rfl, (hI.out.drewN nq).stop hx (fun hg => by have hh := hgood.out.1 hg; omega)⟩
            ·
              have e5 : decide (65536 < (nd : Int)) = false := decide_eq_false h5
              by_cases h6 : xp = q
              · subst h6
                rw [decide_eq_true rfl] at q0
                gi_wp2
                refine wpIn_region_quiet_round (F := Fence.wide) rfl hmx (by kernel_rfl) (by kernel_rfl) ?_
                repeat (first
                  | (gi_big_quiet_want; refine quietIn_load_mid 35 (.tmp 43) (by rfl) g4 2 (by rfl) (xp.map by1) _ r4.out Tryd.underlying35 (by rfl) i4.out ?_; simp only [Act.put, List.setIfInBounds_toArray, List.set]; go_big_quiet_on)
                  | (gi_big_quiet_want; refine quietIn_load_mid 35 (.tmp 5) (by rfl) g5 0 (by rfl) (xp.map by1) _ r5.out Tryd.underlying35 (by rfl) i5.out ?_; simp only [Act.put, List.setIfInBounds_toArray, List.set]; go_big_quiet_on)
                  | gi_big_quiet_step (fail))
                refine wpQuietIn_nil ?_
                intro _ hw2
                obtain ⟨nq, rfl⟩ := hw2
                gi_wp2
                exact ⟨kf_set W0.heap.size nq ⟨w.heap.size + 1 + 1, 0, none⟩ _ (by show w.heap.size + 1 + 1 < _; omega), only_set nq ⟨w.heap.size + 1 + 1, 0, none⟩ _ (.inr (.inl rfl)), by dsimp only; rw [hlen.out]; exact (hI.out.drewN nq).next hx (hgood.out.2 ⟨by trivial, by omega, by omega, by trivial, by omega, by trivial⟩)⟩
              ·
                rw [decide_eq_false h6] at q0
                gi_wp2
                refine wpIn_region_quiet_round (F := Fence.wide) rfl hmx (by kernel_rfl) (by kernel_rfl) ?_
                repeat (first
                  | (gi_big_quiet_want; refine quietIn_load_mid 35 (.tmp 43) (by rfl) g4 2 (by rfl) (xp.map by1) _ r4.out Tryd.underlying35 (by rfl) i4.out ?_; simp only [Act.put, List.setIfInBounds_toArray, List.set]; go_big_quiet_on)
                  | (gi_big_quiet_want; refine quietIn_load_mid 35 (.tmp 5) (by rfl) g5 0 (by rfl) (q.map by1) _ r5.out Tryd.underlying35 (by rfl) i5.out ?_; simp only [Act.put, List.setIfInBounds_toArray, List.set]; go_big_quiet_on)
                  | gi_big_quiet_step (fail))
                refine wpQuietIn_nil ?_
                intro _ hw2
                obtain ⟨nq, rfl⟩ := hw2
                gi_wp2
                exact ⟨kf_set W0.heap.size nq ⟨w.heap.size + 1, 0, none⟩ _ (by show w.heap.size + 1 < _; omega), rfl, (hI.out.drewN nq).stop hx (fun hg => by have hh := hgood.out.1 hg; exact h6 hh.2.2.2.2.2)⟩
          ·
            have e4 : (xo != (k : Int)) = true := by simpa using h4
            gi_wp2
            refine wpIn_region_quiet_round (F := Fence.wide) rfl hmx (by kernel_rfl) (by kernel_rfl) ?_
            repeat (first
              | (gi_big_quiet_want; refine quietIn_load_mid 35 (.tmp 43) (by rfl) g4 2 (by rfl) (xp.map by1) _ r4.out Tryd.underlying35 (by rfl) i4.out ?_; simp only [Act.put, List.setIfInBounds_toArray, List.set]; go_big_quiet_on)
              | (gi_big_quiet_want; refine quietIn_load_mid 35 (.tmp 5) (by rfl) g5 0 (by rfl) (q.map by1) _ r5.out Tryd.underlying35 (by rfl) i5.out ?_; simp only [Act.put, List.setIfInBounds_toArray, List.set]; go_big_quiet_on)
              | gi_big_quiet_step (fail))
            refine wpQuietIn_nil ?_
            intro _ hw2
            obtain ⟨nq, rfl⟩ := hw2
            gi_wp2
            exact ⟨kf_set W0.heap.size nq ⟨w.heap.size + 1, 0, none⟩ _ (by show w.heap.size + 1 < _; omega), rfl, (hI.out.drewN nq).stop hx (fun hg => by have hh := hgood.out.1 hg; exact h4 hh.2.2.2.1)⟩
    ·
      have e1 : (xn != yn) = true := by simpa using h1
      gi_wp2
      refine wpIn_region_quiet_round (F := Fence.wide) rfl hmx (by kernel_rfl) (by kernel_rfl) ?_
      repeat (first
        | (gi_big_quiet_want; refine quietIn_load_mid 35 (.tmp 43) (by rfl) g4 2 (by rfl) (xp.map by1) _ r4.out Tryd.underlying35 (by rfl) i4.out ?_; simp only [Act.put, List.setIfInBounds_toArray, List.set]; go_big_quiet_on)
        | (gi_big_quiet_want; refine quietIn_load_mid 35 (.tmp 5) (by rfl) g5 0 (by rfl) (q.map by1) _ r5.out Tryd.underlying35 (by rfl) i5.out ?_; simp only [Act.put, List.setIfInBounds_toArray, List.set]; go_big_quiet_on)
        | gi_big_quiet_step (fail))
      refine wpQuietIn_nil ?_
      intro _ hw2
      obtain ⟨nq, rfl⟩ := hw2
      gi_wp2
      exact ⟨kf_set W0.heap.size nq ⟨w.heap.size + 1, 0, none⟩ _ (by show w.heap.size + 1 < _; omega), rfl, (hI.out.drewN nq).stop hx (fun hg => by have hh := hgood.out.1 hg; exact h1 hh.1)⟩
  case done =>
    rintro E xs W hE hxs hI hK
    have hok2 : OkL l := hI.ok.all (by omega)
    have ce := hI.be.cell
    have fe := hI.be.frozen
    gi_wp2
    have hK' := (KeepsOthers.setCell W ⟨w.heap.size + 1, 0, none⟩ (.int .i64 0)).same E _ hK rfl
    refine ⟨by simp, .inl ⟨_, _, rfl, run_takeDeferred hK', ?_⟩⟩
    have hb2 : Boxed ((W.setCell ⟨w.heap.size + 1, 0, none⟩ (.int .i64 0)).putObj E (.deferred none)) (w.heap.size + 1) 26 (.int .i64 0) :=
      (hI.be.set (.int .i64 0)).kept (grownBy_putObj' _ E (.deferred none)) (fun e => by cases e; omega)
    have hB2 : Below w.heap.size w ((W.setCell ⟨w.heap.size + 1, 0, none⟩ (.int .i64 0)).putObj E (.deferred none)) :=
      (hI.bb.setCell (p := ⟨w.heap.size + 1, 0, none⟩) (by show w.heap.size ≤ w.heap.size + 1; omega) _).trans (belowK_b (w := w) (Nat.le_refl _) _ E _ _ (by omega) hK' rfl rfl)
    have hcell := hb2.cell
    generalize (W.setCell ⟨w.heap.size + 1, 0, none⟩ (.int .i64 0)).putObj E (.deferred none) = W9 at hcell hB2 ⊢
    refine ⟨.int .i64 0, by simp [results, Tryd.results21, go_sem, hcell], ?_, hB2⟩
    rw [ckC_ok hok2]
  case stop =>
    rintro E cc pre W hE _ ⟨rfl, hX⟩ hK
    have ce := hX.be.cell
    gi_wp2
    refine ⟨by simp, .inl ⟨_, _, rfl, run_takeDeferred hK, ?_⟩⟩
    have hb2 : Boxed (W.putObj E (.deferred none)) (w.heap.size + 1) 26 (.int .i64 80) := hX.be.kept (grownBy_putObj' _ E (.deferred none)) (fun e => by cases e; omega)
    have hB2 : Below w.heap.size w (W.putObj E (.deferred none)) := hX.bb.trans (belowK_b (w := w) (Nat.le_refl _) _ E _ _ (by omega) hK rfl rfl)
    have hcell := hb2.cell
    generalize W.putObj E (.deferred none) = W9 at hcell hB2 ⊢
    refine ⟨.int .i64 80, by simp [results, Tryd.results21, go_sem, hcell], ?_, hB2⟩
    rw [ckC_bad hX.bad]
end Go.Proofs.YthokpfegfnpmhaaDoor
