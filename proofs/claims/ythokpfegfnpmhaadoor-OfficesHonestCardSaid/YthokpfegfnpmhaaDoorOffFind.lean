/- The walk of offices.Find, a range over the pairs of indices. -/
import Derived.Test.YthokpfegfnpmhaaDoorOffCheck
import Derived.Test.YthokpfegfnpmhaaDoorRngA
import Derived.Test.YthokpfegfnpmhaaDoorRoundR
import Derived.Lib.RabinKarpLaws
import Derived.Shelf.RegionOpen
import Derived.LoopIn
import Derived.LoopNIn
import Derived.OwnWalkIn
namespace Go.Proofs.YthokpfegfnpmhaaDoor
open Go.RowKit Go.Shelf Cdc Sha
set_option linter.unusedVariables false
set_option linter.unusedSimpArgs false
attribute [local go_sem] Oper.semAt_some
theorem wide_fn (k : Nat) : Fence.wide.fn k = True := rfl

attribute [local simp] wide_fn

/-- posts that lie somewhere -/
def PsAt (w : World) (A : Option Addr) (l : List Po) : Prop := ∀ i x, l[i]? = some x → ∃ b o, A = some ⟨b, o, none⟩ ∧ b < w.heap.size ∧ w.rangeAt b (o + i * 35) (poC x)
theorem range_belowB {w w' : World} {b o : Nat} {cs : List Value} (h : w.rangeAt b o cs) (hlt : b < w.heap.size) (hb : Below w.heap.size w w') : w'.rangeAt b o cs := fun j v hj => by
  rw [hb.cell (p := ⟨b, o + j, none⟩) hlt]
  exact h j v hj
theorem PsAt.below {w w' : World} {A : Option Addr} {l : List Po} (h : PsAt w A l) (hb : Below w.heap.size w w') : PsAt w' A l := fun i x hi => by
  obtain ⟨b, o, hA, hlt, hr⟩ := h i x hi
  exact ⟨b, o, hA, Nat.lt_of_lt_of_le hlt hb.size, range_belowB hr hlt hb⟩

abbrev prEncs (x : Nat × Nat) : Array Value := #[.int .i64 (x.1 : Nat), .int .i64 (x.2 : Nat)]
/-- the next pair -/
def PrNx (n : Nat) (pre : List (Nat × Nat)) (x : Nat × Nat) : Prop := x.1 < x.2 ∧ x.2 < n ∧ ∀ a b, a < b → b < n → (a < x.1 ∨ (a = x.1 ∧ b < x.2)) → (a, b) ∈ pre
def PrAll (n : Nat) (xs : List (Nat × Nat)) : Prop := ∀ a b, a < b → b < n → (a, b) ∈ xs

set_option maxRecDepth 100000 in
set_option maxHeartbeats 2000000 in
theorem pairs_seq (n0 : Nat) (hn0 : 1 ≤ n0) (n b : Nat) (hn : n ≤ 1000000000) (W : World) (own : Nat → Prop) (hob : ¬ own b) (hbox : W.cell? ⟨b, 0, none⟩ = some (.int .i64 n)) :
    SeqX Fence.wide n0 Tryd.prog 94 #[.pointer (some ⟨b, 0, none⟩)] prEncs
      (PrNx n) (fun A B => Below A.heap.size A B) (Only own) (PrAll n) (fun _ => True) W := by
  intro r J Jx hJ hJx hY h0
  refine callsIn_of_wp Tryd.func94 rfl trivial ?_ rfl
  simp only [Tryd.ntmps94, List.size_toArray, List.length_cons, List.length_nil, Nat.reduceAdd, Nat.reduceSub, Array.replicate_succ, Array.replicate_zero, List.push_toArray, List.append_toArray, List.nil_append, List.cons_append]
  have hblt := World.block_lt_of_cell? W _ hbox
  replace hY := Lib.hid hY
  gi_wp2
  gi_loopw [6] (fun s wr => ∃ (i : Nat) (pre : List (Nat × Nat)), s = .int .i64 (i : Nat) ∧ i ≤ n ∧ J pre wr ∧ Only own W wr ∧ Hid (∀ a b, a < b → b < n → a < i → (a, b) ∈ pre)) (fun s _ => n - (intOf s).toNat)
  case atStart => exact ⟨0, [], rfl, Nat.zero_le _, h0, Only.refl _ _, Lib.hid (fun a b _ _ h => by omega)⟩
  case round =>
    obtain ⟨i, pre, rfl, hin, hJs, hon, hpre⟩ := hrel
    by_cases hlt : i < n
    · gi_wp2
      gi_loopw [4] (fun s wr2 => ∃ (j : Nat) (pre2 : List (Nat × Nat)), s = .int .i64 (j : Nat) ∧ i + 1 ≤ j ∧ j ≤ n ∧ J pre2 wr2 ∧ Only own W wr2 ∧ Hid (∀ a b, a < b → b < n → (a < i ∨ (a = i ∧ b < j)) → (a, b) ∈ pre2)) (fun s _ => n - (intOf s).toNat)
      case atStart => exact ⟨i + 1, pre, by go_num, Nat.le_refl _, hlt, hJs, hon, Lib.hid (fun a b hab hbn h => hpre.out a b hab hbn (by omega))⟩
      case round =>
        clear hJs hon hpre
        obtain ⟨j, pre2, rfl, hij, hjn, hJ2, hon2, hpre2⟩ := hrel
        have hbox2 : wr.cell? ⟨b, 0, none⟩ = some (.int .i64 n) := (World.cell?_of_block (w := W) (a := ⟨b, 0, none⟩) (hon2.block b hblt hob)).trans hbox
        by_cases hlt2 : j < n
        · have hnx : PrNx n pre2 (i, j) := ⟨by dsimp only; omega, hlt2, hpre2.out⟩
          obtain ⟨fn, tmps, assign, body, hy, hR⟩ := hY.out pre2 (i, j) wr hJ2 hnx
          dsimp only [prEncs] at hy
          gi_wp2
          refine hR.mono ?_
          rintro e W3 (⟨rfl, hJ3, hk3⟩ | ⟨rfl, hJx3⟩)
          · gi_wp2
            go_roundw
            case rel => exact ⟨j + 1, pre2 ++ [(i, j)], by go_num, by omega, by omega, hJ3, hon2.trans hk3, Lib.hid (fun a b hab hbn h => by
              by_cases e : a = i ∧ b = j
              · obtain ⟨rfl, rfl⟩ := e
                simp
              · exact List.mem_append_left _ (hpre2.out a b hab hbn (by omega)))⟩
            case measure => simp [intOf]; omega
          · gi_wp2
            refine bodyPost_ret (results_none rfl _ _ _) rfl ?_
            exact ⟨⟨_, rfl⟩, .inr ⟨_, trivial, hJx3⟩⟩
        · have e : j = n := by omega
          subst e
          gi_wp2
          go_roundw
          case rel => exact ⟨i + 1, pre2, by go_num, by omega, hJ2, hon2, Lib.hid (fun a b hab hbn h => hpre2.out a b hab hbn (by omega))⟩
          case measure => simp [intOf]; omega
    · have e : i = n := by omega
      subst e
      gi_wp2
      go_end0
      exact ⟨⟨_, rfl⟩, .inl ⟨pre, fun a b hab hbn => hpre.out a b hab hbn (by omega), hJs⟩⟩

theorem pairs_any (n : Nat) (w : World) :
    Calls Tryd.prog 63 #[.int .i64 n] w fun e w' => e = .returned (.func (.func 94) #[] #[.pointer (some ⟨w.heap.size, 0, none⟩)]) ∧ w' = w.alloc (.cells #[.int .i64 n] 3) := by
  go_enter Tryd.func63, Tryd.ntmps63
  go_wp2
  go_ret
  exact ⟨rfl, rfl⟩

/-- what Find answers: the first pair that convicts -/
def FindP (key : Int) (l : List Po) (i j : Nat) (ok : Bool) : Prop :=
  (ok = true ∧ i < j ∧ ∃ a b, l[i]? = some a ∧ l[j]? = some b ∧ cvP key a b = true ∧ ∀ (i' j' : Nat) (a' b' : Po), i' < j' → (i' < i ∨ (i' = i ∧ j' < j)) → l[i']? = some a' → l[j']? = some b' → cvP key a' b' = false) ∨
  (ok = false ∧ i = 0 ∧ j = 0 ∧ ∀ (i' j' : Nat) (a' b' : Po), i' < j' → l[i']? = some a' → l[j']? = some b' → cvP key a' b' = false)
theorem FindP.unique {key : Int} {l : List Po} {i j i' j' : Nat} {ok ok' : Bool} (h : FindP key l i j ok) (h' : FindP key l i' j' ok') : i = i' ∧ j = j' ∧ ok = ok' := by
  rcases h with ⟨rfl, hij, a, b, ha, hb, hc, hl⟩ | ⟨rfl, rfl, rfl, hl⟩ <;> rcases h' with ⟨rfl, hij', a', b', ha', hb', hc', hl'⟩ | ⟨rfl, rfl, rfl, hl'⟩
  · by_cases h1 : i' < i ∨ (i' = i ∧ j' < j)
    · rw [hl i' j' a' b' hij' h1 ha' hb'] at hc'; cases hc'
    · by_cases h2 : i < i' ∨ (i = i' ∧ j < j')
      · rw [hl' i j a b hij h2 ha hb] at hc; cases hc
      · exact ⟨by omega, by omega, rfl⟩
  · rw [hl' i j a b hij ha hb] at hc; cases hc
  · rw [hl i' j' a' b' hij' ha' hb'] at hc'; cases hc'
  · exact ⟨rfl, rfl, rfl⟩

/-- what holds ahead of a round of Find: w: the world in which it was called -/
structure FiI (w : World) (key : Int) (v : Value) (l : List Po) (pre : List (Nat × Nat)) (W : World) : Prop where
  bk : Boxed W w.heap.size 3 (.int .i64 key)
  bl : Boxed W (w.heap.size + 1) 53 v
  bi : Boxed W (w.heap.size + 1 + 1) 3 (.int .i64 0)
  bj : Boxed W (w.heap.size + 1 + 1 + 1) 3 (.int .i64 0)
  bo : Boxed W (w.heap.size + 1 + 1 + 1 + 1) 4 (.bool false)
  bb : Below w.heap.size w W
  sz : w.heap.size + 6 ≤ W.heap.size
  no : ∀ x ∈ pre, ∀ a b, l[x.1]? = some a → l[x.2]? = some b → cvP key a b = false
/-- what holds behind a round that has found a pair -/
structure FiX (w : World) (key : Int) (l : List Po) (W : World) : Prop where
  bb : Below w.heap.size w W
  sz : w.heap.size + 6 ≤ W.heap.size
  fd : ∃ i j : Nat, Boxed W (w.heap.size + 1 + 1) 3 (.int .i64 i) ∧ Boxed W (w.heap.size + 1 + 1 + 1) 3 (.int .i64 j) ∧ Boxed W (w.heap.size + 1 + 1 + 1 + 1) 4 (.bool true) ∧ FindP key l i j true
/-- Find's own: its results, and what it lays later -/
def fiOwn (n : Nat) (k : Nat) : Prop := k = n + 1 + 1 ∨ k = n + 1 + 1 + 1 ∨ k = n + 1 + 1 + 1 + 1 ∨ n + 6 ≤ k
theorem FiI.grown {w W W' : World} {key : Int} {v : Value} {l : List Po} {pre : List (Nat × Nat)} {row : Option Nat} (h : FiI w key v l pre W) (hg : W.grownBy W' row) (hr : ∀ r, row = some r → w.heap.size + 6 ≤ r) : FiI w key v l pre W' :=
  ⟨h.bk.kept hg (fun e => by have := hr _ e.symm; omega), h.bl.kept hg (fun e => by have := hr _ e.symm; omega), h.bi.kept hg (fun e => by have := hr _ e.symm; omega), h.bj.kept hg (fun e => by have := hr _ e.symm; omega), h.bo.kept hg (fun e => by have := hr _ e.symm; omega),
    h.bb.grown hg h.bb.size (fun k e => by have := hr _ e; omega), Nat.le_trans h.sz hg.size, h.no⟩
theorem FiX.grown {w W W' : World} {key : Int} {l : List Po} {row : Option Nat} (h : FiX w key l W) (hg : W.grownBy W' row) (hr : ∀ r, row = some r → w.heap.size + 6 ≤ r) : FiX w key l W' := by
  obtain ⟨i, j, h1, h2, h3, h4⟩ := h.fd
  exact ⟨h.bb.grown hg h.bb.size (fun k e => by have := hr _ e; omega), Nat.le_trans h.sz hg.size, i, j, h1.kept hg (fun e => by have := hr _ e.symm; omega), h2.kept hg (fun e => by have := hr _ e.symm; omega), h3.kept hg (fun e => by have := hr _ e.symm; omega), h4⟩
theorem FiI.below {w W W' : World} {key : Int} {v : Value} {l : List Po} {pre : List (Nat × Nat)} (h : FiI w key v l pre W) (hb : Below W.heap.size W W') : FiI w key v l pre W' :=
  ⟨(hb.block _ h.bk.lt).trans h.bk, (hb.block _ h.bl.lt).trans h.bl, (hb.block _ h.bi.lt).trans h.bi, (hb.block _ h.bj.lt).trans h.bj, (hb.block _ h.bo.lt).trans h.bo, h.bb.trans (hb.mono h.bb.size), Nat.le_trans h.sz hb.size, h.no⟩
theorem FiX.below {w W W' : World} {key : Int} {l : List Po} (h : FiX w key l W) (hb : Below W.heap.size W W') : FiX w key l W' := by
  obtain ⟨i, j, h1, h2, h3, h4⟩ := h.fd
  exact ⟨h.bb.trans (hb.mono h.bb.size), Nat.le_trans h.sz hb.size, i, j, (hb.block _ h1.lt).trans h1, (hb.block _ h2.lt).trans h2, (hb.block _ h3.lt).trans h3, h4⟩
theorem only_below {w : World} {W W' : World} (h : Below W.heap.size W W') : Only (fiOwn w.heap.size) W W' := Only.of_below h
theorem kf_below {W W' : World} (B : Nat) (h : Below W.heap.size W W') : KeepsFrom B W W' := ⟨h.size, fun k o hk hW ho => (h.block k (Array.getElem?_eq_some_iff.1 hW).1).trans hW⟩

theorem FiI.next {w W : World} {key : Int} {v : Value} {l : List Po} {pre : List (Nat × Nat)} (h : FiI w key v l pre W) (x : Nat × Nat) (hx : ∀ a b, l[x.1]? = some a → l[x.2]? = some b → cvP key a b = false) : FiI w key v l (pre ++ [x]) W :=
  ⟨h.bk, h.bl, h.bi, h.bj, h.bo, h.bb, h.sz, fun y hy => by
    rcases List.mem_append.1 hy with hy | hy
    · exact h.no y hy
    · obtain rfl : y = x := by simpa using hy
      exact hx⟩
theorem FiI.stop {w W : World} {key : Int} {v : Value} {l : List Po} {pre : List (Nat × Nat)} (h : FiI w key v l pre W) {i j n : Nat} {a b : Po} (hij : i < j) (ha : l[i]? = some a) (hb : l[j]? = some b) (hc : cvP key a b = true)
    (hno : ∀ i' j' : Nat, i' < j' → (i' < i ∨ (i' = i ∧ j' < j)) → j' < n → ∀ a' b', l[i']? = some a' → l[j']? = some b' → cvP key a' b' = false) (hn : l.length = n) :
    FiX w key l (((W.setCell ⟨w.heap.size + 1 + 1, 0, none⟩ (.int .i64 i)).setCell ⟨w.heap.size + 1 + 1 + 1, 0, none⟩ (.int .i64 j)).setCell ⟨w.heap.size + 1 + 1 + 1 + 1, 0, none⟩ (.bool true)) := by
  refine ⟨((h.bb.setCell (p := ⟨w.heap.size + 1 + 1, 0, none⟩) (by show w.heap.size ≤ w.heap.size + 1 + 1; omega) _).setCell (p := ⟨w.heap.size + 1 + 1 + 1, 0, none⟩) (by show w.heap.size ≤ w.heap.size + 1 + 1 + 1; omega) _).setCell (p := ⟨w.heap.size + 1 + 1 + 1 + 1, 0, none⟩) (by show w.heap.size ≤ w.heap.size + 1 + 1 + 1 + 1; omega) _, by simpa using h.sz, i, j, ?_, ?_, ?_, ?_⟩
  · exact ((h.bi.set _).other (by omega) _).other (by omega) _
  · exact ((h.bj.other (by omega) _).set _).other (by omega) _
  · exact ((h.bo.other (by omega) _).other (by omega) _).set _
  · exact .inl ⟨rfl, hij, a, b, ha, hb, hc, fun i' j' a' b' h1 h2 h3 h4 => hno i' j' h1 h2 (by have := (List.getElem?_eq_some_iff.1 h4).1; omega) a' b' h3 h4⟩

set_option maxRecDepth 100000 in
set_option maxHeartbeats 8000000 in
theorem ofind_any (key : Int) (l : List Po) (n : Nat) (A : Option Addr) (c : Nat) (w : World) (hn : l.length = n) (hnm : n ≤ 1000000) (hc : n ≤ c) (hls : PsAt w A l) (hp : ∀ x ∈ l, x.root.length = 32) (hL : Laid w) :
    Calls Tryd.prog 34 #[.int .i64 key, .slice A n c] w fun e w' => (∃ (i j : Nat) (ok : Bool), e = .returned (.tuple #[.int .i64 i, .int .i64 j, .bool ok]) ∧ FindP key l i j ok) ∧ Below w.heap.size w w' := by
  refine (callsIn_wide (n := 8)).1 ?_
  refine callsIn_of_wp_marks Tryd.func34 rfl trivial ?_ rfl
  simp only [Tryd.ntmps34, List.size_toArray, List.length_cons, List.length_nil, Nat.reduceAdd, Nat.reduceSub, Array.replicate_succ, Array.replicate_zero, List.push_toArray, List.append_toArray, List.nil_append, List.cons_append]
  have hmx : Tryd.prog.follows .mixedOrders = true := by kernel_rfl
  replace hls := Lib.hid hls
  replace hp := Lib.hid hp
  replace hL := Lib.hid hL
  gi_wp2_with fail
  refine (callsIn_wide.2 (pairs_any _ _)).mono ?_
  rintro e w' ⟨rfl, rfl⟩
  gi_wp2_with fail
  obtain ⟨W0, hW0⟩ : ∃ W0, ((((((w.alloc (.cells #[.int .i64 key] 3)).alloc (.cells #[.slice A n c] 53)).alloc (.cells #[.int .i64 0] 3)).alloc (.cells #[.int .i64 0] 3)).alloc (.cells #[.bool false] 4)).alloc (.cells #[.int .i64 n] 3)) = W0 := ⟨_, rfl⟩
  have hsz : W0.heap.size = w.heap.size + 6 := by rw [← hW0]; simp
  have hI0 : FiI w key (.slice A n c) l [] W0 := by
    have b1 := Boxed.new w 3 (.int .i64 key)
    have b2 := Boxed.new (w.alloc (.cells #[.int .i64 key] 3)) 53 (.slice A n c)
    have b3 := Boxed.new ((w.alloc (.cells #[.int .i64 key] 3)).alloc (.cells #[.slice A n c] 53)) 3 (.int .i64 0)
    have b4 := Boxed.new (((w.alloc (.cells #[.int .i64 key] 3)).alloc (.cells #[.slice A n c] 53)).alloc (.cells #[.int .i64 0] 3)) 3 (.int .i64 0)
    have b5 := Boxed.new ((((w.alloc (.cells #[.int .i64 key] 3)).alloc (.cells #[.slice A n c] 53)).alloc (.cells #[.int .i64 0] 3)).alloc (.cells #[.int .i64 0] 3)) 4 (.bool false)
    simp only [World.size_alloc] at b2 b3 b4 b5
    rw [← hW0]
    exact ⟨((((b1.alloc _).alloc _).alloc _).alloc _).alloc _, (((b2.alloc _).alloc _).alloc _).alloc _, ((b3.alloc _).alloc _).alloc _, (b4.alloc _).alloc _, b5.alloc _,
      (((((((Below.refl _ w).alloc (Nat.le_refl _) _).alloc (by simp) _).alloc (by simp; omega) _).alloc (by simp; omega) _).alloc (by simp; omega) _).alloc (by simp; omega) _), by simp, fun x hx => by simp at hx⟩
  have hbx : Boxed W0 (w.heap.size + 1 + 1 + 1 + 1 + 1) 3 (.int .i64 n) := by
    have b6 := Boxed.new (((((w.alloc (.cells #[.int .i64 key] 3)).alloc (.cells #[.slice A n c] 53)).alloc (.cells #[.int .i64 0] 3)).alloc (.cells #[.int .i64 0] 3)).alloc (.cells #[.bool false] 4)) 3 (.int .i64 n)
    simp only [World.size_alloc] at b6
    rw [← hW0]
    exact b6
  rw [hW0]
  clear hW0
  refine wpIn_rangeFunc_st (F := Fence.wide) (n := 8) rfl (by decide) (gf := 94) (lb := #[.pointer (some ⟨w.heap.size + 1 + 1 + 1 + 1 + 1, 0, none⟩)]) rfl trivial (enters_of Tryd.func94 (by kernel_rfl) rfl)
    (encs := prEncs) (Nx := PrNx n) (St := fun A B => Below A.heap.size A B) (Kp := Only (fiOwn w.heap.size)) (S := PrAll n) (Sp := fun _ => True)
    (fun W1 hb1 _ => pairs_seq 7 (by decide) n (w.heap.size + 1 + 1 + 1 + 1 + 1) (by omega) W1 (fiOwn w.heap.size) (by unfold fiOwn; omega) ((hb1.cell (by show w.heap.size + 1 + 1 + 1 + 1 + 1 < W0.heap.size; omega)).trans hbx.cell))
    (fun A B h k o hk hA _ => by rw [h.block k (Array.getElem?_eq_some_iff.1 hA).1]; exact hA)
    (fun h k => h.trans k)
    (fun W l o o' hl hW _ _ => ⟨rfl, rfl, rfl, by simp, fun k _ hk => World.putObj_heap_other (fun e => hk (.inr (.inr (.inr (by omega)))))⟩)
    (fun _ => rfl)
    (fun pre W => FiI w key (.slice A n c) l pre W) (fun cc _ W => cc = .ret ∧ FiX w key l W) ?hI ?hIx ?hIs ?hIxs hI0
    (fun x => { tmps := #[.int .i64 key, .slice A n c, .pointer (some ⟨w.heap.size, 0, none⟩), .pointer (some ⟨w.heap.size + 1, 0, none⟩), .pointer (some ⟨w.heap.size + 1 + 1, 0, none⟩), .pointer (some ⟨w.heap.size + 1 + 1 + 1, 0, none⟩), .pointer (some ⟨w.heap.size + 1 + 1 + 1 + 1, 0, none⟩), .int .i64 (x.1 : Nat), .int .i64 (x.2 : Nat), .slice A n c, .int .i64 n,
          .func (.func 94) #[] #[.pointer (some ⟨w.heap.size + 1 + 1 + 1 + 1 + 1, 0, none⟩)], .int .i64 (x.1 : Nat), .int .i64 (x.2 : Nat), undef, undef, undef, undef, undef, undef, undef, undef, undef, undef, undef, undef], defers := [] }) ?assign ?body ?done ?stop
  case hI => exact fun s A B row hs hg hr => hs.grown hg (fun r e => by have := (hr r e).1; omega)
  case hIx => exact fun c s A B row hs hg hr => ⟨hs.1, hs.2.grown hg (fun r e => by have := (hr r e).1; omega)⟩
  case hIs => exact fun s A B hs h => hs.below h
  case hIxs => exact fun c s A B hs h => ⟨hs.1, hs.2.below h⟩
  case assign =>
    intro l x W K hK
    gi_wp2
    exact hK
  case body =>
    rintro r pre ⟨i, j⟩ W hI ⟨hij, hjn, hpre⟩ hsz2
    dsimp only at hij hjn hpre
    obtain ⟨a, ha⟩ : ∃ a, l[i]? = some a := ⟨_, List.getElem?_eq_getElem (by omega)⟩
    obtain ⟨b, hb⟩ : ∃ b, l[j]? = some b := ⟨_, List.getElem?_eq_getElem (by omega)⟩
    have hpa := hp.out a (List.mem_of_getElem? ha)
    have hpb := hp.out b (List.mem_of_getElem? hb)
    obtain ⟨g, o, hA, hgl, hra⟩ := hls.out.below hI.bb i a ha
    obtain ⟨g', o', hA', _, hrb⟩ := hls.out.below hI.bb j b hb
    subst hA
    obtain ⟨rfl, rfl⟩ : g = g' ∧ o = o' := by injection hA' with h; injection h with h1 h2; exact ⟨h1, h2⟩
    have hCv : Hid (∀ V, Below w.heap.size w V → Calls Tryd.prog 32 #[.int .i64 key, .agg (poC a).toArray, .agg (poC b).toArray] V fun e w' => e = .returned (.bool (cvP key a b)) ∧ Below V.heap.size V w') := Lib.hid fun V hV => oconvict_any key a b hpa hpb V (hL.out.below hV)
    have c1 := cell_regrown hI.bk.cell
    have c2 := cell_regrown hI.bl.cell
    have r1 : Hid (∀ V, (∃ p : Regrown, V = Sort.grow (redrawn W p.d) p.os) → V.rangeAt g (o + i * 35) (poC a)) := Lib.hid (by rintro V ⟨p, rfl⟩; exact range_belowB hra hgl (below_regrown W p.d p.os))
    have r2 : Hid (∀ V, (∃ p : Regrown, V = Sort.grow (redrawn W p.d) p.os) → V.rangeAt g (o + j * 35) (poC b)) := Lib.hid (by rintro V ⟨p, rfl⟩; exact range_belowB hrb hgl (below_regrown W p.d p.os))
    have i1 := Lib.hid (po_info' hpa)
    have i2 := Lib.hid (po_info' hpb)
    have hcc : ∀ d os, Calls Tryd.prog 32 #[.int .i64 key, .agg (poC a).toArray, .agg (poC b).toArray] (Sort.grow (redrawn W d) os) fun e w' => e = .returned (.bool (cvP key a b)) ∧ ∃ p : Regrown, w' = Sort.grow (redrawn W p.d) p.os := fun d os => Calls.regrown_of (hCv.out _ (hI.bb.trans ((below_regrown W d os).mono hI.bb.size)))
    have hin : i < n := by omega
    generalize hr9 : cvP key a b = res at hcc
    replace hr9 := Lib.hid hr9
    replace hI := Lib.hid hI
    replace ha := Lib.hid ha
    replace hb := Lib.hid hb
    replace hpre := Lib.hid hpre
    replace hcc := Lib.hid hcc
    clear hra hrb hCv hpa hpb hsz2
    gi_wp2
    refine wpIn_region_below_round (F := Fence.wide) rfl hmx (by kernel_rfl) (by kernel_rfl) ?_
    repeat (first
      | (gi_big_quiet_want; refine quietIn_load_mid 49 (.tmp 17) (by rfl) g (o + i * 35) (by rfl) (poC a) _ r1.out Tryd.underlying49 (by rfl) i1.out ?_; (try simp only [Act.put, List.setIfInBounds_toArray, List.set]); go_big_quiet_on)
      | (gi_big_quiet_want; refine quietIn_load_mid 49 (.tmp 21) (by rfl) g (o + j * 35) (by rfl) (poC b) _ r2.out Tryd.underlying49 (by rfl) i2.out ?_; (try simp only [Act.put, List.setIfInBounds_toArray, List.set]); go_big_quiet_on)
      | gi_big_quiet_step (first | exact callsIn_wide.2 (hcc.out _ _) | exact ⟨trivial, callsIn_wide.2 (hcc.out _ _)⟩))
    refine wpQuietIn_nil ?_
    rintro _ ⟨p, rfl⟩
    have hbR := below_regrown W p.d p.os
    have hI2 := hI.out.below hbR
    generalize Sort.grow (redrawn W p.d) p.os = W2 at hbR hI2 ⊢
    cases res with
    | false =>
      gi_wp2
      exact ⟨kf_below _ hbR, only_below hbR, hI2.next (i, j) (fun a' b' ha' hb' => by
        obtain rfl : a = a' := Option.some.inj (ha.out.symm.trans ha')
        obtain rfl : b = b' := Option.some.inj (hb.out.symm.trans hb')
        exact hr9.out)⟩
    | true =>
      have ci := hI2.bi.cell
      have fi := hI2.bi.frozen
      have cj := hI2.bj.cell
      have fj := hI2.bj.frozen
      have co := hI2.bo.cell
      have fo := hI2.bo.frozen
      have hX := Lib.hid (hI2.stop (i := i) (j := j) hij ha.out hb.out hr9.out (fun a' b' h1 h2 h3 => hI2.no (a', b') (hpre.out a' b' h1 h3 h2)) hn)
      have hkf : Hid (KeepsFrom W0.heap.size W (((W2.setCell ⟨w.heap.size + 1 + 1, 0, none⟩ (.int .i64 i)).setCell ⟨w.heap.size + 1 + 1 + 1, 0, none⟩ (.int .i64 j)).setCell ⟨w.heap.size + 1 + 1 + 1 + 1, 0, none⟩ (.bool true))) := Lib.hid ((kf_below _ hbR).trans (((KeepsOthers.setCell _ _ _).from _).trans (((KeepsOthers.setCell _ _ _).from _).trans ((KeepsOthers.setCell _ _ _).from _))))
      clear hI2 hbR
      gi_wp2
      exact ⟨hkf.out, rfl, hX.out⟩
  case done =>
    rintro D xs W hD hxs hI hK
    have hfd : FindP key l 0 0 false := .inr ⟨rfl, rfl, rfl, fun i' j' a' b' hij ha hb => hI.no (i', j') (hxs i' j' hij (by have := (List.getElem?_eq_some_iff.1 hb).1; omega)) a' b' ha hb⟩
    have ci := hI.bi.cell
    have fi := hI.bi.frozen
    have cj := hI.bj.cell
    have fj := hI.bj.frozen
    have co := hI.bo.cell
    have fo := hI.bo.frozen
    gi_wp2
    have hB1 : Below w.heap.size w (((W.setCell ⟨w.heap.size + 1 + 1, 0, none⟩ (.int .i64 0)).setCell ⟨w.heap.size + 1 + 1 + 1, 0, none⟩ (.int .i64 0)).setCell ⟨w.heap.size + 1 + 1 + 1 + 1, 0, none⟩ (.bool false)) :=
      ((hI.bb.setCell (p := ⟨w.heap.size + 1 + 1, 0, none⟩) (by show w.heap.size ≤ w.heap.size + 1 + 1; omega) _).setCell (p := ⟨w.heap.size + 1 + 1 + 1, 0, none⟩) (by show w.heap.size ≤ w.heap.size + 1 + 1 + 1; omega) _).setCell (p := ⟨w.heap.size + 1 + 1 + 1 + 1, 0, none⟩) (by show w.heap.size ≤ w.heap.size + 1 + 1 + 1 + 1; omega) _
    have e1 := ((hI.bi.set (.int .i64 0)).other (B' := w.heap.size + 1 + 1 + 1) (by omega) (.int .i64 0)).other (B' := w.heap.size + 1 + 1 + 1 + 1) (by omega) (.bool false)
    have e2 := (((hI.bj.other (B' := w.heap.size + 1 + 1) (by omega) (.int .i64 0))).set (.int .i64 0)).other (B' := w.heap.size + 1 + 1 + 1 + 1) (by omega) (.bool false)
    have e3 := ((hI.bo.other (B' := w.heap.size + 1 + 1) (by omega) (.int .i64 0)).other (B' := w.heap.size + 1 + 1 + 1) (by omega) (.int .i64 0)).set (.bool false)
    have hK' : (((W.setCell ⟨w.heap.size + 1 + 1, 0, none⟩ (.int .i64 0)).setCell ⟨w.heap.size + 1 + 1 + 1, 0, none⟩ (.int .i64 0)).setCell ⟨w.heap.size + 1 + 1 + 1 + 1, 0, none⟩ (.bool false)).heap[D]? = some (.deferred (some [])) :=
      (KeepsOthers.setCell _ _ _).same D _ ((KeepsOthers.setCell _ _ _).same D _ ((KeepsOthers.setCell W _ _).same D _ hK rfl) rfl) rfl
    generalize (((W.setCell ⟨w.heap.size + 1 + 1, 0, none⟩ (.int .i64 0)).setCell ⟨w.heap.size + 1 + 1 + 1, 0, none⟩ (.int .i64 0)).setCell ⟨w.heap.size + 1 + 1 + 1 + 1, 0, none⟩ (.bool false)) = W5 at hB1 e1 e2 e3 hK' ⊢
    refine ⟨by simp, .inl ⟨_, _, rfl, run_takeDeferred hK', ?_⟩⟩
    have hB2 : Below w.heap.size w (W5.putObj D (.deferred none)) := hB1.trans (belowK_b (w := w) (Nat.le_refl _) _ D _ _ (by omega) hK' rfl rfl)
    have h1 := (e1.kept (grownBy_putObj' W5 D (.deferred none)) (fun e => by cases e; omega)).cell
    have h2 := (e2.kept (grownBy_putObj' W5 D (.deferred none)) (fun e => by cases e; omega)).cell
    have h3 := (e3.kept (grownBy_putObj' W5 D (.deferred none)) (fun e => by cases e; omega)).cell
    generalize W5.putObj D (.deferred none) = W9 at hB2 h1 h2 h3 ⊢
    exact ⟨.tuple #[.int .i64 0, .int .i64 0, .bool false], by simp [results, Tryd.results34, go_sem, h1, h2, h3], ⟨0, 0, false, rfl, hfd⟩, hB2⟩
  case stop =>
    rintro D cc pre W hD _ ⟨rfl, hX⟩ hK
    obtain ⟨i, j, e1, e2, e3, hfd⟩ := hX.fd
    have hb := hX.bb
    have hz := hX.sz
    clear hX
    gi_wp2
    refine ⟨by simp, .inl ⟨_, _, rfl, run_takeDeferred hK, ?_⟩⟩
    have hB2 : Below w.heap.size w (W.putObj D (.deferred none)) := hb.trans (belowK_b (w := w) (Nat.le_refl _) _ D _ _ (by omega) hK rfl rfl)
    have h1 := (e1.kept (grownBy_putObj' W D (.deferred none)) (fun e => by cases e; omega)).cell
    have h2 := (e2.kept (grownBy_putObj' W D (.deferred none)) (fun e => by cases e; omega)).cell
    have h3 := (e3.kept (grownBy_putObj' W D (.deferred none)) (fun e => by cases e; omega)).cell
    generalize W.putObj D (.deferred none) = W9 at hB2 h1 h2 h3 ⊢
    exact ⟨.tuple #[.int .i64 i, .int .i64 j, .bool true], by simp [results, Tryd.results34, go_sem, h1, h2, h3], ⟨i, j, true, rfl, hfd⟩, hB2⟩
end Go.Proofs.YthokpfegfnpmhaaDoor
