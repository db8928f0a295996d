/- The walks of accuse.Check, concerns, of the choice of a verdict, and of the maker of the iterator of answers. -/
import Derived.Test.YtnccbhndlnkboaaDoorOsAt
import Derived.Test.YtnccbhndlnkboaaDoorRngA
import Derived.Test.YtnccbhndlnkboaaDoorRoundR
import Derived.Test.YtnccbhndlnkboaaDoorSealM
import Derived.Lib.RabinKarpLaws
import Derived.Shelf.RegionOpen
import Derived.LoopIn
import Derived.LoopNIn
import Derived.OwnWalkIn
namespace Go.Proofs.YtnccbhndlnkboaaDoor
open Go.RowKit Go.Shelf Cdc Sha
set_option linter.unusedVariables false
set_option linter.unusedSimpArgs false

def wiB (n m : Int) : Bool := decide (0 ≤ n ∧ n ≤ m)
theorem within_any (n m : Int) (w : World) : Calls Tryd.prog 59 #[.int .i64 n, .int .i64 m] w fun e w' => e = .returned (.bool (wiB n m)) ∧ w' = w := by
  by_cases a : 0 ≤ n
  · have d1 : decide (0 ≤ n) = true := decide_eq_true a
    obtain ⟨v, hv⟩ : ∃ v, decide (n ≤ m) = v := ⟨_, rfl⟩
    have e : wiB n m = v := by rw [← hv]; exact decide_eq_decide.2 ⟨fun h => h.2, fun h => ⟨a, h⟩⟩
    rw [e]
    clear e
    go_enter Tryd.func59, Tryd.ntmps59
    go_wp2
    go_ret
    exact ⟨rfl, rfl⟩
  · have d1 : decide (0 ≤ n) = false := decide_eq_false a
    have e : wiB n m = false := decide_eq_false (fun h => a h.1)
    rw [e]
    go_enter Tryd.func59, Tryd.ntmps59
    go_wp2
    go_ret
    exact ⟨rfl, rfl⟩

/-- a charge is valid -/
def chkC (c : Ch) : Bool := wiB c.no 1048576 && (wiB c.team 63 && (wiB c.day 73048 && wiB c.due 134217727))
def chkE (c : Ch) : Int := if chkC c = true then 0 else 410
theorem chkC_iff (c : Ch) : chkC c = true ↔ (0 ≤ c.no ∧ c.no ≤ 1048576) ∧ (0 ≤ c.team ∧ c.team ≤ 63) ∧ (0 ≤ c.day ∧ c.day ≤ 73048) ∧ (0 ≤ c.due ∧ c.due ≤ 134217727) := by
  simp [chkC, wiB]
set_option maxRecDepth 100000 in
set_option maxHeartbeats 2000000 in
theorem acheck_any (c : Ch) (w : World) : Calls Tryd.prog 28 #[.agg (chA c)] w fun e w' => e = .returned (.int .i64 (chkE c)) ∧ Below w.heap.size w w' := by
  obtain ⟨a, b, d, u, l⟩ := c
  unfold chA
  dsimp only
  have hB := Lib.hid (show Below w.heap.size w (w.alloc (.cells #[.int .i64 a, .int .i64 b, .int .i64 d, .int .i64 u, .bool l] 27)) from (Below.refl _ _).alloc (Nat.le_refl _) _)
  by_cases d0 : wiB a 1048576 = true
  · by_cases d1 : wiB b 63 = true
    · by_cases d2 : wiB d 73048 = true
      · by_cases d3 : wiB u 134217727 = true
        · have e : chkE ⟨a, b, d, u, l⟩ = 0 := by simp [chkE, chkC, d0, d1, d2, d3]
          rw [e]
          clear e
          go_enter Tryd.func28, Tryd.ntmps28
          go_wp2_with fail
          refine (within_any _ _ _).mono ?_
          rintro e w4 ⟨rfl, hw4⟩
          subst hw4
          rw [d0]
          go_wp2_with fail
          refine (within_any _ _ _).mono ?_
          rintro e w4 ⟨rfl, hw4⟩
          subst hw4
          rw [d1]
          go_wp2_with fail
          refine (within_any _ _ _).mono ?_
          rintro e w4 ⟨rfl, hw4⟩
          subst hw4
          rw [d2]
          go_wp2_with fail
          refine (within_any _ _ _).mono ?_
          rintro e w4 ⟨rfl, hw4⟩
          subst hw4
          rw [d3]
          go_wp2_with fail
          go_ret
          exact ⟨rfl, hB.out⟩
        · have d3 : wiB u 134217727 = false := by simpa using d3
          have e : chkE ⟨a, b, d, u, l⟩ = 410 := by simp [chkE, chkC, d0, d1, d2, d3]
          rw [e]
          clear e
          go_enter Tryd.func28, Tryd.ntmps28
          go_wp2_with fail
          refine (within_any _ _ _).mono ?_
          rintro e w4 ⟨rfl, hw4⟩
          subst hw4
          rw [d0]
          go_wp2_with fail
          refine (within_any _ _ _).mono ?_
          rintro e w4 ⟨rfl, hw4⟩
          subst hw4
          rw [d1]
          go_wp2_with fail
          refine (within_any _ _ _).mono ?_
          rintro e w4 ⟨rfl, hw4⟩
          subst hw4
          rw [d2]
          go_wp2_with fail
          refine (within_any _ _ _).mono ?_
          rintro e w4 ⟨rfl, hw4⟩
          subst hw4
          rw [d3]
          go_wp2_with fail
          go_ret
          exact ⟨rfl, hB.out⟩
      · have d2 : wiB d 73048 = false := by simpa using d2
        have e : chkE ⟨a, b, d, u, l⟩ = 410 := by simp [chkE, chkC, d0, d1, d2]
        rw [e]
        clear e
        go_enter Tryd.func28, Tryd.ntmps28
        go_wp2_with fail
        refine (within_any _ _ _).mono ?_
        rintro e w4 ⟨rfl, hw4⟩
        subst hw4
        rw [d0]
        go_wp2_with fail
        refine (within_any _ _ _).mono ?_
        rintro e w4 ⟨rfl, hw4⟩
        subst hw4
        rw [d1]
        go_wp2_with fail
        refine (within_any _ _ _).mono ?_
        rintro e w4 ⟨rfl, hw4⟩
        subst hw4
        rw [d2]
        go_wp2_with fail
        go_ret
        exact ⟨rfl, hB.out⟩
    · have d1 : wiB b 63 = false := by simpa using d1
      have e : chkE ⟨a, b, d, u, l⟩ = 410 := by simp [chkE, chkC, d0, d1]
      rw [e]
      clear e
      go_enter Tryd.func28, Tryd.ntmps28
      go_wp2_with fail
      refine (within_any _ _ _).mono ?_
      rintro e w4 ⟨rfl, hw4⟩
      subst hw4
      rw [d0]
      go_wp2_with fail
      refine (within_any _ _ _).mono ?_
      rintro e w4 ⟨rfl, hw4⟩
      subst hw4
      rw [d1]
      go_wp2_with fail
      go_ret
      exact ⟨rfl, hB.out⟩
  · have d0 : wiB a 1048576 = false := by simpa using d0
    have e : chkE ⟨a, b, d, u, l⟩ = 410 := by simp [chkE, chkC, d0]
    rw [e]
    clear e
    go_enter Tryd.func28, Tryd.ntmps28
    go_wp2_with fail
    refine (within_any _ _ _).mono ?_
    rintro e w4 ⟨rfl, hw4⟩
    subst hw4
    rw [d0]
    go_wp2_with fail
    go_ret
    exact ⟨rfl, hB.out⟩

/-- a seal concerns a charge -/
def conB (s : Sl) (c : Ch) : Bool := decide (1 ≤ s.m ∧ s.m ≤ 512 ∧ 0 ≤ s.f ∧ s.f ≤ 73048 - s.m + 1 ∧ s.t = c.team ∧ s.f ≤ c.day ∧ c.day < s.f + s.m)
set_option maxRecDepth 100000 in
set_option maxHeartbeats 2000000 in
theorem concerns_any (s : Sl) (c : Ch) (w : World) : Calls Tryd.prog 30 #[.agg (slA s), .agg (chA c)] w fun e w' => e = .returned (.bool (conB s c)) ∧ Below w.heap.size w w' := by
  have hB := Lib.hid (show Below w.heap.size w ((w.alloc (.cells (slA s) 25)).alloc (.cells (chA c) 27)) from ((Below.refl _ _).alloc (Nat.le_refl _) _).alloc (by simp) _)
  have x0 : (slA s)[0]? = some (.int .i64 s.t) := rfl
  have x1 : (slA s)[1]? = some (.int .i64 s.f) := rfl
  have x2 : (slA s)[2]? = some (.int .i64 s.m) := rfl
  have y1 : (chA c)[1]? = some (.int .i64 c.team) := rfl
  have y2 : (chA c)[2]? = some (.int .i64 c.day) := rfl
  obtain ⟨q, hq⟩ : ∃ q, conB s c = q := ⟨_, rfl⟩
  rw [hq]
  replace hq := Lib.hid hq
  by_cases a0 : s.m < 1
  · have d0 : decide (s.m < 1) = true := decide_eq_true a0
    obtain rfl : q = false := by rw [← hq.out]; unfold conB; exact decide_eq_false (by omega)
    clear hq
    go_enter Tryd.func30, Tryd.ntmps30
    go_wp2
    go_ret
    exact ⟨rfl, hB.out⟩
  · have d0 : decide (s.m < 1) = false := decide_eq_false a0
    by_cases a1 : 512 < s.m
    · have d1 : decide (512 < s.m) = true := decide_eq_true a1
      obtain rfl : q = false := by rw [← hq.out]; unfold conB; exact decide_eq_false (by omega)
      clear hq
      go_enter Tryd.func30, Tryd.ntmps30
      go_wp2
      go_ret
      exact ⟨rfl, hB.out⟩
    · have d1 : decide (512 < s.m) = false := decide_eq_false a1
      by_cases a2 : s.f < 0
      · have d2 : decide (s.f < 0) = true := decide_eq_true a2
        obtain ⟨w1, w2⟩ := wrap_days s.m (by omega) (by omega)
        obtain rfl : q = false := by rw [← hq.out]; unfold conB; exact decide_eq_false (by omega)
        clear hq
        go_enter Tryd.func30, Tryd.ntmps30
        go_wp2
        go_ret
        exact ⟨rfl, hB.out⟩
      · have d2 : decide (s.f < 0) = false := decide_eq_false a2
        obtain ⟨w1, w2⟩ := wrap_days s.m (by omega) (by omega)
        by_cases a3 : 73048 - s.m + 1 < s.f
        · have d3 : decide (73048 - s.m + 1 < s.f) = true := decide_eq_true a3
          obtain rfl : q = false := by rw [← hq.out]; unfold conB; exact decide_eq_false (by omega)
          clear hq
          go_enter Tryd.func30, Tryd.ntmps30
          go_wp2
          go_ret
          exact ⟨rfl, hB.out⟩
        · have d3 : decide (73048 - s.m + 1 < s.f) = false := decide_eq_false a3
          by_cases a4 : s.t = c.team
          · have d4 : (s.t != c.team) = false := by simp [a4]
            by_cases a5 : s.f ≤ c.day
            · have d5 : decide (s.f ≤ c.day) = true := decide_eq_true a5
              have w3 : IntKind.i64.wrap (s.f + s.m) = s.f + s.m := IntWalk.i64_in _ (by omega)
              by_cases a6 : c.day < s.f + s.m
              · have d6 : decide (c.day < s.f + s.m) = true := decide_eq_true a6
                obtain rfl : q = true := by rw [← hq.out]; unfold conB; exact decide_eq_true (by omega)
                clear hq
                go_enter Tryd.func30, Tryd.ntmps30
                go_wp2
                go_ret
                exact ⟨rfl, hB.out⟩
              · have d6 : decide (c.day < s.f + s.m) = false := decide_eq_false a6
                obtain rfl : q = false := by rw [← hq.out]; unfold conB; exact decide_eq_false (by omega)
                clear hq
                go_enter Tryd.func30, Tryd.ntmps30
                go_wp2
                go_ret
                exact ⟨rfl, hB.out⟩
            · have d5 : decide (s.f ≤ c.day) = false := decide_eq_false a5
              have w3 : IntKind.i64.wrap (s.f + s.m) = s.f + s.m := IntWalk.i64_in _ (by omega)
              obtain rfl : q = false := by rw [← hq.out]; unfold conB; exact decide_eq_false (by omega)
              clear hq
              go_enter Tryd.func30, Tryd.ntmps30
              go_wp2
              go_ret
              exact ⟨rfl, hB.out⟩
          · have d4 : (s.t != c.team) = true := by simp [a4]
            obtain rfl : q = false := by rw [← hq.out]; unfold conB; exact decide_eq_false (by omega)
            clear hq
            go_enter Tryd.func30, Tryd.ntmps30
            go_wp2
            go_ret
            exact ⟨rfl, hB.out⟩

theorem choose_any (a b : Int) (t : Bool) (w : World) : Calls Tryd.prog 31 #[.agg #[.int .i64 a, .int .i64 b], .bool t] w fun e w' => e = .returned (.int .i64 (if t = true then a else b)) ∧ Below w.heap.size w w' := by
  have hB := Lib.hid (show Below w.heap.size w (w.alloc (.cells #[.int .i64 a, .int .i64 b] 63)) from (Below.refl _ _).alloc (Nat.le_refl _) _)
  cases t with
  | true =>
    go_enter Tryd.func31, Tryd.ntmps31
    go_wp2
    go_ret
    exact ⟨rfl, hB.out⟩
  | false =>
    go_enter Tryd.func31, Tryd.ntmps31
    go_wp2
    go_ret
    exact ⟨rfl, hB.out⟩

theorem answers_any (s : Sl) (c : Ch) (A : Option Addr) (n k : Nat) (w : World) : Calls Tryd.prog 32 #[.agg (slA s), .agg (chA c), .slice A n k] w fun e w' =>
    e = .returned (.func (.func 60) #[] #[.pointer (some ⟨w.heap.size + 1 + 1, 0, none⟩), .pointer (some ⟨w.heap.size + 1, 0, none⟩), .pointer (some ⟨w.heap.size, 0, none⟩)]) ∧
    w' = ((w.alloc (.cells (slA s) 25)).alloc (.cells (chA c) 27)).alloc (.cells #[.slice A n k] 28) := by
  go_enter Tryd.func32, Tryd.ntmps32
  go_wp2
  go_ret
  exact ⟨rfl, rfl⟩
end Go.Proofs.YtnccbhndlnkboaaDoor
/- The walk of the iterator of the openings that answer a charge. -/
namespace Go.Proofs.YtnccbhndlnkboaaDoor
open Go.RowKit Go.Shelf Cdc Sha
set_option linter.unusedVariables false
set_option linter.unusedSimpArgs false
attribute [local go_sem] Oper.semAt_some

/-- what is yielded: an opening, where its path lies, how much room there is -/
abbrev AnI := Op × Option Addr × Nat
abbrev anEncs (x : AnI) : Array Value := #[.agg (opA x.1 x.2.1 x.2.2)]
/-- an opening answers a charge -/
def ansB (s : Sl) (c : Ch) (y : Op) : Bool := decide (y.day = c.day) && chkS s y
def AnNx (s : Sl) (c : Ch) (l : List Op) (pre : List AnI) (x : AnI) : Prop := pre = [] → l.find? (ansB s c) = some x.1

theorem wpListIn_load_midG {F : Fence} (hF : F = Fence.wide) {n : Nat} {P : Program} {ops : Array Oper} {rest : List Oper} {op : Oper} {a : Act} {w : World} {Q : Exit → Act → World → Prop} (hgd : Region.wanted op (yielded ops a.tmps) = true) (ty : TypeId) (x : Operand) (ho : op.op = .load ty x)
    (b o : Nat) (hx : a.eval x = .pointer (some ⟨b, o, none⟩)) (cs : List Value) (d : TypeDesc) (hc : w.rangeAt b o cs)
    (hu : P.underlying ty = some d) (hd : d.isRow = true) (hi : (P.info? ty).map (·.size) = some cs.length)
    (h : wpListIn F n P ops Q rest (a.put op.dst (.agg cs.toArray)) w) : wpListIn F n P ops Q (op :: rest) a w := by
  subst hF
  unfold wpListIn
  rw [if_pos hgd]
  exact Oper.wpIn_of_wp (wp_load_mid ty x ho b o hx cs d hc hu hd hi h)

set_option maxRecDepth 100000 in
set_option maxHeartbeats 4000000 in
theorem answers_seq (n0 : Nat) (hn0 : 1 ≤ n0) (s : Sl) (hs : SlI s) (c : Ch) (l : List Op) (m : Nat) (A : Option Addr) (k b : Nat) (w0 W : World) (own : Nat → Prop) (hn : l.length = m) (hm : m ≤ 1000) (hk : m ≤ k)
    (hls : OsAt w0 A l) (hok : ∀ y ∈ l, OpI y ∧ y.path.length ≤ 1000000) (hL : Laid w0) (hbW : Below w0.heap.size w0 W) (hown : ∀ k, own k → w0.heap.size ≤ k) (ho0 : ¬ own b) (ho1 : ¬ own (b + 1)) (ho2 : ¬ own (b + 1 + 1))
    (hr0 : W.heap[b]? = some (.cells (slA s) 25 (0, 0))) (hr1 : W.heap[b + 1]? = some (.cells (chA c) 27 (0, 0))) (hr2 : W.heap[b + 1 + 1]? = some (.cells #[.slice A m k] 28 (0, 0))) :
    SeqX Fence.wide n0 Tryd.prog 60 #[.pointer (some ⟨b + 1 + 1, 0, none⟩), .pointer (some ⟨b + 1, 0, none⟩), .pointer (some ⟨b, 0, none⟩)] anEncs
      (AnNx s c l) (fun A B => Below A.heap.size A B) (Only own) (fun xs => xs = [] → l.find? (ansB s c) = none) (fun _ => True) W := by
  intro r J Jx hJ hJx hY h0
  refine callsIn_of_wp Tryd.func60 rfl trivial ?_ rfl
  simp only [Tryd.ntmps60, List.size_toArray, List.length_cons, List.length_nil, Nat.reduceAdd, Nat.reduceSub, Array.replicate_succ, Array.replicate_zero, List.push_toArray, List.append_toArray, List.nil_append, List.cons_append]
  have hbox : W.cell? ⟨b + 1 + 1, 0, none⟩ = some (.slice A m k) := by rw [cell_of_row _ _ _ _ _ _ hr2]; rfl
  replace hls := Lib.hid hls
  replace hok := Lib.hid hok
  replace hL := Lib.hid hL
  replace hY := Lib.hid hY
  replace hn := Lib.hid hn
  have hrows : Hid (∀ V, Only own W V → V.heap[b]? = some (.cells (slA s) 25 (0, 0)) ∧ V.heap[b + 1]? = some (.cells (chA c) 27 (0, 0))) := Lib.hid fun V hV =>
    ⟨(hV.block b (Array.getElem?_eq_some_iff.1 hr0).1 ho0).trans hr0, (hV.block (b + 1) (Array.getElem?_eq_some_iff.1 hr1).1 ho1).trans hr1⟩
  have pl : Hid ((Tryd.prog.info? 25).map (·.size) = some (slC s).length) := Lib.hid (by have := sl_info hs.root; simpa [slA] using this)
  clear hr0 hr1 hr2 ho0 ho1 ho2
  gi_wp2
  gi_loopw [9] (fun st wr => ∃ (pre : List AnI) (i : Nat), st = .int .i64 i ∧ i ≤ m ∧ J pre wr ∧ Only own W wr ∧ Hid (pre = [] → l.find? (ansB s c) = (l.drop i).find? (ansB s c))) (fun st _ => m - (intOf st).toNat)
  case atStart => exact ⟨[], 0, rfl, Nat.zero_le _, h0, Only.refl _ _, Lib.hid fun _ => by rw [List.drop_zero]⟩
  case round =>
    clear hbox h0
    obtain ⟨pre, i, rfl, him, hJs, hon, hfd⟩ := hrel
    have hbw : Below w0.heap.size w0 wr := hbW.trans (hon.below hbW.size (fun k hk ho => by have := hown k ho; omega))
    by_cases hlt : i < m
    · obtain ⟨y, hy⟩ : ∃ y, l[i]? = some y := ⟨_, List.getElem?_eq_getElem (by rw [hn.out]; omega)⟩
      obtain ⟨hyI, hyl⟩ := hok.out y (List.mem_of_getElem? hy)
      obtain ⟨b1, o1, P, cp, rfl, hb1, ⟨z0, z1, z2, z3⟩, hcp, hds⟩ := (hls.out.below hbw) i y hy
      have hdr : l.drop i = y :: l.drop (i + 1) := by
        rw [List.getElem?_eq_some_iff] at hy
        obtain ⟨h1, h2⟩ := hy
        rw [← h2, List.drop_eq_getElem_cons h1]
      have hfn : Hid (ansB s c y = false → pre = [] → l.find? (ansB s c) = (l.drop (i + 1)).find? (ansB s c)) := Lib.hid fun h e => by rw [hfd.out e, hdr, List.find?_cons, h]
      have hft : Hid (ansB s c y = true → pre = [] → l.find? (ansB s c) = some y) := Lib.hid fun h e => by rw [hfd.out e, hdr, List.find?_cons, h]
      rw [Nat.add_zero] at z0
      obtain ⟨hrS, hrC⟩ := hrows.out wr hon
      have hbl := (Array.getElem?_eq_some_iff.1 hrS).1
      have hbl1 := (Array.getElem?_eq_some_iff.1 hrC).1
      obtain ⟨d, sa, bl, p⟩ := y
      dsimp only at z0 z1 z2 z3 hcp hds hyl
      obtain ⟨q, hq⟩ : ∃ q, p.length = q := ⟨_, rfl⟩
      rw [hq] at z3 hcp hyl
      have hC1 : ∀ V, Below wr.heap.size wr V → V.cell? ⟨b + 1, 2, none⟩ = some (.int .i64 c.day) := fun V hV => by
        rw [cell_of_row _ _ _ _ _ _ ((hV.block _ hbl1).trans hrC)]; rfl
      have hc2 : ∀ o, (wr.alloc o).cell? ⟨b + 1, 2, none⟩ = some (.int .i64 c.day) := fun o => hC1 _ ((Below.refl _ _).alloc (Nat.le_refl _) o)
      obtain ⟨W3, hW3⟩ : ∃ W3, W3 = wr.alloc (.cells #[.int .i64 d, .int .i64 sa, .bool bl, .slice P q cp] 33) := ⟨_, rfl⟩
      have hB3 : Below wr.heap.size wr W3 := hW3 ▸ (Below.refl _ _).alloc (Nat.le_refl _) _
      have hz3 : wr.heap.size < W3.heap.size := by rw [hW3]; simp
      have hro : W3.heap[wr.heap.size]? = some (.cells #[.int .i64 d, .int .i64 sa, .bool bl, .slice P q cp] 33 (0, 0)) := hW3 ▸ heap_alloc_new wr _
      have hS : Hid (W3.rangeAt b 0 (slC s)) := Lib.hid fun j v hj => by
        rw [cell_of_row _ _ _ _ _ _ ((hB3.block b hbl).trans hrS), Nat.zero_add]
        simpa [slA] using hj
      have hO : Hid (∀ V, Below W3.heap.size W3 V → V.cell? ⟨wr.heap.size, 0, none⟩ = some (.int .i64 d) ∧ V.cell? ⟨wr.heap.size, 1, none⟩ = some (.int .i64 sa) ∧ V.cell? ⟨wr.heap.size, 2, none⟩ = some (.bool bl) ∧ V.cell? ⟨wr.heap.size, 3, none⟩ = some (.slice P q cp)) := Lib.hid fun V hV => by
        have h1 := (hV.block wr.heap.size hz3).trans hro
        refine ⟨by rw [cell_of_row _ _ _ _ _ _ h1]; rfl, by rw [cell_of_row _ _ _ _ _ _ h1]; rfl, by rw [cell_of_row _ _ _ _ _ _ h1]; rfl, by rw [cell_of_row _ _ _ _ _ _ h1]; rfl⟩
      have hK : Hid (Calls Tryd.prog 23 #[.agg (slC s).toArray, .agg #[.int .i64 d, .int .i64 sa, .bool bl, .slice P q cp]] W3 fun e w' => e = .returned (.bool (chkS s ⟨d, sa, bl, p⟩)) ∧ Below W3.heap.size W3 w') := Lib.hid
        (scheck_any s hs ⟨d, sa, bl, p⟩ hyI q hq P cp hcp hyl W3 (hds.below hB3) ((hL.out.below hbw).below hB3))
      have hyy : Hid (∀ V, ansB s c ⟨d, sa, bl, p⟩ = true → Below W3.heap.size W3 V → YieldAt Fence.wide (n0 - 1) Tryd.prog r #[.agg #[.int .i64 d, .int .i64 sa, .bool bl, .slice P q cp]] V fun e W' =>
          ∃ t : Bool, e = .returned (.bool t) ∧ ((t = true ∧ J (pre ++ [(⟨d, sa, bl, p⟩, P, cp)]) W' ∧ Only own V W') ∨ (t = false ∧ Jx (pre ++ [(⟨d, sa, bl, p⟩, P, cp)]) W'))) := Lib.hid fun V ha hV => by
        have := hY.out pre (⟨d, sa, bl, p⟩, P, cp) V (hJ _ _ _ hJs (hB3.trans (hV.mono hB3.size))) (fun e => hft.out ha e)
        simp only [anEncs, opA, hq] at this
        refine this.mono ?_
        rintro e W' (⟨rfl, h1, h2⟩ | ⟨rfl, h1⟩)
        · exact ⟨true, rfl, .inl ⟨rfl, h1, h2⟩⟩
        · exact ⟨false, rfl, .inr ⟨rfl, h1⟩⟩
      have hJ3 : Hid (∀ V, Below W3.heap.size W3 V → J pre V ∧ Only own W V) := Lib.hid fun V hV => ⟨hJ _ _ _ hJs (hB3.trans (hV.mono hB3.size)), (hon.trans (Only.of_below hB3)).trans (Only.of_below hV)⟩
      have hon3 := Lib.hid (hon.trans (Only.of_below (own := own) hB3))
      replace hdr := Lib.hid hdr
      clear hq hds hyI hyl hrS hrC hbl hbl1 hC1 hro hB3 hbw hfd hb1 hJs hon hft hdr hy hz3
      by_cases hd : d = c.day
      · have e1 : (d == c.day) = true := by simp [hd]
        obtain ⟨t, ht⟩ : ∃ t, chkS s ⟨d, sa, bl, p⟩ = t := ⟨_, rfl⟩
        have hans : Hid (ansB s c ⟨d, sa, bl, p⟩ = t) := Lib.hid (by simp [ansB, hd, ← ht])
        rw [ht] at hK
        replace hd := Lib.hid hd
        clear ht
        cases t with
        | false =>
          gi_wp2_with (first
            | (refine wpListIn_load_midG rfl (by rfl) 25 (.tmp 3) (by rfl) b 0 (by rfl) (slC s) _ (by rw [← hW3]; exact hS.out) Tryd.underlying25 (by rfl) pl.out ?_)
            | (refine ⟨trivial, ?_⟩; gi_at_call 23; rw [← hW3]; refine (callsIn_wide.2 hK.out).mono ?_; rintro e w4 ⟨rfl, hb4⟩))
          refine ⟨fun _ e => (by cases e), ?_⟩
          gi_wp2
          obtain ⟨h1, h2⟩ := hJ3.out w4 hb4
          go_roundw
          case rel => exact ⟨pre, i + 1, by go_num, by omega, h1, h2, Lib.hid (hfn.out hans.out)⟩
          case measure => simp [intOf]; omega
        | true =>
          gi_wp2_with (first
            | (refine wpListIn_load_midG rfl (by rfl) 25 (.tmp 3) (by rfl) b 0 (by rfl) (slC s) _ (by rw [← hW3]; exact hS.out) Tryd.underlying25 (by rfl) pl.out ?_)
            | (refine ⟨trivial, ?_⟩; gi_at_call 23; rw [← hW3]; refine (callsIn_wide.2 hK.out).mono ?_; rintro e w4 ⟨rfl, hb4⟩; obtain ⟨v0, v1, v2, v3⟩ := hO.out w4 hb4; obtain ⟨fn, tm, asg, bd, hyr, hR⟩ := hyy.out w4 hans.out hb4))
          refine hR.mono ?_
          rintro e w5 ⟨t, rfl, (⟨rfl, h1, h2⟩ | ⟨rfl, h1⟩)⟩
          · gi_wp2
            go_roundw
            case rel => exact ⟨pre ++ [(⟨d, sa, bl, p⟩, P, cp)], i + 1, by go_num, by omega, h1, (hon3.out.trans (Only.of_below hb4)).trans h2, Lib.hid (fun e => by simp at e)⟩
            case measure => simp [intOf]; omega
          · gi_wp2
            refine bodyPost_ret (results_none rfl _ _ _) rfl ?_
            exact ⟨⟨_, rfl⟩, .inr ⟨_, trivial, h1⟩⟩
      · have e1 : (d == c.day) = false := by simp [hd]
        have hans : Hid (ansB s c ⟨d, sa, bl, p⟩ = false) := Lib.hid (by simp [ansB, hd])
        replace hd := Lib.hid hd
        gi_wp2
        refine ⟨trivial, ?_⟩
        gi_wp2
        refine ⟨fun _ e => (by cases e), ?_⟩
        gi_wp2
        rw [← hW3]
        obtain ⟨h1, h2⟩ := hJ3.out W3 (Below.refl _ _)
        go_roundw
        case rel => exact ⟨pre, i + 1, by go_num, by omega, h1, h2, Lib.hid (hfn.out hans.out)⟩
        case measure => simp [intOf]; omega
    · have e : i = m := by omega
      subst e
      gi_wp2
      go_end0
      exact ⟨⟨_, rfl⟩, .inl ⟨pre, fun e => by rw [hfd.out e, List.drop_of_length_le (by rw [hn.out]; exact Nat.le_refl _)]; rfl, hJs⟩⟩
end Go.Proofs.YtnccbhndlnkboaaDoor
/- The walk of accuse.Verdict. -/
namespace Go.Proofs.YtnccbhndlnkboaaDoor
open Go.RowKit Go.Shelf Cdc Sha
set_option linter.unusedVariables false
set_option linter.unusedSimpArgs false
attribute [local go_sem] Oper.semAt_some

/-- what Verdict answers, and its error -/
def vdE (s : Sl) (c : Ch) (n : Nat) (time : Int) : Int := if chkC c = true then (if 64 < n then 2 else if 0 ≤ time ∧ time < 134217728 ∧ conB s c = true then 0 else 410) else 410
def vdV (s : Sl) (c : Ch) (l : List Op) (time : Int) : Int := match l.find? (ansB s c) with
  | some y => if y.bl = c.bl then 1 else 2
  | none => if time ≤ c.due then 0 else 2
def vdR (s : Sl) (c : Ch) (l : List Op) (n : Nat) (time : Int) : Int := if vdE s c n time = 0 then vdV s c l time else 0

/-- Verdict's own: its results, and what it lays later -/
def vdOwn (n : Nat) (k : Nat) : Prop := k = n + 1 + 1 ∨ k = n + 1 + 1 + 1
/-- what holds ahead of a round, at the rows that Verdict has laid -/
structure VdI (w : World) (s : Sl) (c : Ch) (g : Nat) (W : World) : Prop where
  rc : W.heap[w.heap.size + 1]? = some (.cells (chA c) 27 (0, 0))
  bv : Boxed W (w.heap.size + 1 + 1) 3 (.int .i64 0)
  be : Boxed W (w.heap.size + 1 + 1 + 1) 35 (.int .i64 0)
  ch : Boxed W g 64 (.func (.func 31) #[] #[])
  bb : Below w.heap.size w W
  hg : w.heap.size + 4 ≤ g
/-- what holds behind the round -/
structure VdX (w : World) (v : Int) (W : World) : Prop where
  bv : Boxed W (w.heap.size + 1 + 1) 3 (.int .i64 v)
  be : Boxed W (w.heap.size + 1 + 1 + 1) 35 (.int .i64 0)
  bb : Below w.heap.size w W
theorem VdI.grown {w W W' : World} {s : Sl} {c : Ch} {g : Nat} {row : Option Nat} (h : VdI w s c g W) (hg : W.grownBy W' row) (hr : ∀ r, row = some r → g < r) : VdI w s c g W' := by
  have h9 := h.hg
  exact ⟨(hg.block _ (Array.getElem?_eq_some_iff.1 h.rc).1 (fun e => by have := hr _ e.symm; omega)).trans h.rc, h.bv.kept hg (fun e => by have := hr _ e.symm; omega), h.be.kept hg (fun e => by have := hr _ e.symm; omega), h.ch.kept hg (fun e => by have := hr _ e.symm; omega),
    h.bb.grown hg h.bb.size (fun k e => by have := hr _ e; omega), h9⟩
theorem VdX.grown {w W W' : World} {v : Int} {row : Option Nat} (h : VdX w v W) (hg : W.grownBy W' row) (hr : ∀ r, row = some r → w.heap.size + 4 ≤ r) : VdX w v W' :=
  ⟨h.bv.kept hg (fun e => by have := hr _ e.symm; omega), h.be.kept hg (fun e => by have := hr _ e.symm; omega), h.bb.grown hg h.bb.size (fun k e => by have := hr _ e; omega)⟩
theorem VdI.below {w W W' : World} {s : Sl} {c : Ch} {g : Nat} (h : VdI w s c g W) (hb : Below W.heap.size W W') : VdI w s c g W' :=
  ⟨(hb.block _ (Array.getElem?_eq_some_iff.1 h.rc).1).trans h.rc, (hb.block _ h.bv.lt).trans h.bv, (hb.block _ h.be.lt).trans h.be, (hb.block _ h.ch.lt).trans h.ch, h.bb.trans (hb.mono h.bb.size), h.hg⟩
theorem VdX.below {w W W' : World} {v : Int} (h : VdX w v W) (hb : Below W.heap.size W W') : VdX w v W' :=
  ⟨(hb.block _ h.bv.lt).trans h.bv, (hb.block _ h.be.lt).trans h.be, h.bb.trans (hb.mono h.bb.size)⟩
end Go.Proofs.YtnccbhndlnkboaaDoor
/- The walk of accuse.Verdict where it gives an error. -/
namespace Go.Proofs.YtnccbhndlnkboaaDoor
open Go.RowKit Go.Shelf Cdc Sha
set_option linter.unusedVariables false
set_option linter.unusedSimpArgs false

theorem bx_res {W : World} {g : Nat} {t : TypeId} {v : Value} {p : Nat} (h : Boxed W g t v) : W.cell? ⟨g, 0, none⟩ = some v := h.cell
set_option maxRecDepth 100000 in
set_option maxHeartbeats 4000000 in
theorem verdict_chk (s : Sl) (hs : SlI s) (c : Ch) (l : List Op) (m : Nat) (A : Option Addr) (k : Nat) (time : Int) (w : World) (h : chkC c = false) : Calls Tryd.prog 13 #[.agg (slA s), .agg (chA c), .slice A m k, .int .i64 time] w fun e w' => e = .returned (.tuple #[.int .i64 0, .int .i64 (vdE s c m time)]) ∧ Below w.heap.size w w' := by
  have hE : vdE s c m time = 410 := by simp [vdE, h]
  rw [hE]
  clear hE
  have hce := Lib.hid (show chkE c = 410 by simp [chkE, h])
  replace hce := hce.out
  obtain ⟨W4, hW4⟩ : ∃ W4, W4 = ((((w.alloc (.cells (slA s) 25)).alloc (.cells (chA c) 27)).alloc (.cells #[.int .i64 0] 3)).alloc (.cells #[.int .i64 0] 35)) := ⟨_, rfl⟩
  have hz4 : W4.heap.size = w.heap.size + 4 := by rw [hW4]; simp
  have hB4 : Below w.heap.size w W4 := hW4 ▸ ((((Below.refl _ w).alloc (Nat.le_refl _) _).alloc (by simp) _).alloc (by simp <;> omega) _).alloc (by simp <;> omega) _
  have r0 : W4.heap[w.heap.size]? = some (.cells (slA s) 25 (0, 0)) := by
    rw [hW4]
    exact (Below.heap_alloc _ _ _ (by simp <;> omega)).trans ((Below.heap_alloc _ _ _ (by simp <;> omega)).trans ((Below.heap_alloc _ _ _ (by simp)).trans (heap_alloc_new w _)))
  have r1 : W4.heap[w.heap.size + 1]? = some (.cells (chA c) 27 (0, 0)) := by
    rw [hW4]
    have := heap_alloc_new (w.alloc (.cells (slA s) 25)) (.cells (chA c) 27)
    rw [World.size_alloc] at this
    exact (Below.heap_alloc _ _ _ (by simp <;> omega)).trans ((Below.heap_alloc _ _ _ (by simp)).trans this)
  have r2 : W4.heap[w.heap.size + 1 + 1]? = some (.cells #[.int .i64 0] 3 (0, 0)) := by
    rw [hW4]
    have := heap_alloc_new ((w.alloc (.cells (slA s) 25)).alloc (.cells (chA c) 27)) (.cells #[.int .i64 0] 3)
    simp only [World.size_alloc] at this
    exact (Below.heap_alloc _ _ _ (by simp)).trans this
  have r3 : W4.heap[w.heap.size + 1 + 1 + 1]? = some (.cells #[.int .i64 0] 35 (0, 0)) := by
    rw [hW4]
    have := heap_alloc_new (((w.alloc (.cells (slA s) 25)).alloc (.cells (chA c) 27)).alloc (.cells #[.int .i64 0] 3)) (.cells #[.int .i64 0] 35)
    simp only [World.size_alloc] at this
    exact this
  have hcl : Hid (∀ V, Below W4.heap.size W4 V → (V.heap[w.heap.size]? = some (.cells (slA s) 25 (0, 0)) ∧ V.heap[w.heap.size + 1]? = some (.cells (chA c) 27 (0, 0))) ∧ Boxed V (w.heap.size + 1 + 1) 3 (.int .i64 0) ∧ Boxed V (w.heap.size + 1 + 1 + 1) 35 (.int .i64 0) ∧ Below w.heap.size w V) := Lib.hid fun V hV =>
    ⟨⟨(hV.block _ (by omega)).trans r0, (hV.block _ (by omega)).trans r1⟩, (hV.block _ (by omega)).trans r2, (hV.block _ (by omega)).trans r3, hB4.trans (hV.mono hB4.size)⟩
  have hch : Hid (∀ V : World, V.heap[w.heap.size + 1]? = some (.cells (chA c) 27 (0, 0)) → V.cell? ⟨w.heap.size + 1, 0, none⟩ = some (.int .i64 c.no) ∧ V.cell? ⟨w.heap.size + 1, 1, none⟩ = some (.int .i64 c.team) ∧ V.cell? ⟨w.heap.size + 1, 2, none⟩ = some (.int .i64 c.day) ∧ V.cell? ⟨w.heap.size + 1, 3, none⟩ = some (.int .i64 c.due) ∧ V.cell? ⟨w.heap.size + 1, 4, none⟩ = some (.bool c.bl)) := Lib.hid fun V h1 =>
    ⟨by rw [cell_of_row _ _ _ _ _ _ h1]; rfl, by rw [cell_of_row _ _ _ _ _ _ h1]; rfl, by rw [cell_of_row _ _ _ _ _ _ h1]; rfl, by rw [cell_of_row _ _ _ _ _ _ h1]; rfl, by rw [cell_of_row _ _ _ _ _ _ h1]; rfl⟩
  have hsl : Hid (∀ V : World, V.heap[w.heap.size]? = some (.cells (slA s) 25 (0, 0)) → V.rangeAt w.heap.size 0 (slC s)) := Lib.hid fun V h1 j v hj => by
    rw [cell_of_row _ _ _ _ _ _ h1, Nat.zero_add]
    simpa [slA] using hj
  have pl : Hid ((Tryd.prog.info? 25).map (·.size) = some (slC s).length) := Lib.hid (by have := sl_info hs.root; simpa [slA] using this)
  clear r0 r1 r2 r3 hz4 hB4
  have ch0 : (chA c)[0]? = some (.int .i64 c.no) := rfl
  have ch1 : (chA c)[1]? = some (.int .i64 c.team) := rfl
  have ch2 : (chA c)[2]? = some (.int .i64 c.day) := rfl
  have ch3 : (chA c)[3]? = some (.int .i64 c.due) := rfl
  have ch4 : (chA c)[4]? = some (.bool c.bl) := rfl
  go_enter Tryd.func13, Tryd.ntmps13
  go_wp2_with fail
  rw [← hW4]
  refine (acheck_any c W4).mono ?_
  rintro e w5 ⟨rfl, hb5⟩
  obtain ⟨⟨s5, c5⟩, bv5, be5, hb59⟩ := hcl.out w5 hb5
  rw [hce]
  clear ch0 ch1 ch2 ch3 ch4
  have cv := bv5.cell
  have fv := bv5.frozen
  have ce := be5.cell
  have fe := be5.frozen
  go_wp2
  have hB9 := ((hb59.setCell (p := ⟨w.heap.size + 1 + 1, 0, none⟩) (by show w.heap.size ≤ w.heap.size + 1 + 1; omega) (.int .i64 0)).setCell (p := ⟨w.heap.size + 1 + 1 + 1, 0, none⟩) (by show w.heap.size ≤ w.heap.size + 1 + 1 + 1; omega) (.int .i64 410))
  have hv9 := ((bv5.set (.int .i64 0)).other (B' := w.heap.size + 1 + 1 + 1) (by omega) (.int .i64 410)).cell
  have he9 := ((be5.other (B' := w.heap.size + 1 + 1) (by omega) (.int .i64 0)).set (.int .i64 410)).cell
  refine bodyPost_ret (v := .tuple #[.int .i64 0, .int .i64 410]) ?_ rfl ⟨rfl, hB9⟩
  simp [results, Tryd.results13, go_sem, hv9, he9]
set_option maxRecDepth 100000 in
set_option maxHeartbeats 4000000 in
theorem verdict_many (s : Sl) (hs : SlI s) (c : Ch) (l : List Op) (m : Nat) (A : Option Addr) (k : Nat) (time : Int) (w : World) (h : chkC c = true) (h2 : 64 < m) : Calls Tryd.prog 13 #[.agg (slA s), .agg (chA c), .slice A m k, .int .i64 time] w fun e w' => e = .returned (.tuple #[.int .i64 0, .int .i64 (vdE s c m time)]) ∧ Below w.heap.size w w' := by
  have hE : vdE s c m time = 2 := by simp [vdE, h, h2]
  rw [hE]
  clear hE
  have hce : chkE c = 0 := by simp [chkE, h]
  have d1 : decide ((64 : Int) < (m : Int)) = true := decide_eq_true (by omega)
  obtain ⟨W4, hW4⟩ : ∃ W4, W4 = ((((w.alloc (.cells (slA s) 25)).alloc (.cells (chA c) 27)).alloc (.cells #[.int .i64 0] 3)).alloc (.cells #[.int .i64 0] 35)) := ⟨_, rfl⟩
  have hz4 : W4.heap.size = w.heap.size + 4 := by rw [hW4]; simp
  have hB4 : Below w.heap.size w W4 := hW4 ▸ ((((Below.refl _ w).alloc (Nat.le_refl _) _).alloc (by simp) _).alloc (by simp <;> omega) _).alloc (by simp <;> omega) _
  have r0 : W4.heap[w.heap.size]? = some (.cells (slA s) 25 (0, 0)) := by
    rw [hW4]
    exact (Below.heap_alloc _ _ _ (by simp <;> omega)).trans ((Below.heap_alloc _ _ _ (by simp <;> omega)).trans ((Below.heap_alloc _ _ _ (by simp)).trans (heap_alloc_new w _)))
  have r1 : W4.heap[w.heap.size + 1]? = some (.cells (chA c) 27 (0, 0)) := by
    rw [hW4]
    have := heap_alloc_new (w.alloc (.cells (slA s) 25)) (.cells (chA c) 27)
    rw [World.size_alloc] at this
    exact (Below.heap_alloc _ _ _ (by simp <;> omega)).trans ((Below.heap_alloc _ _ _ (by simp)).trans this)
  have r2 : W4.heap[w.heap.size + 1 + 1]? = some (.cells #[.int .i64 0] 3 (0, 0)) := by
    rw [hW4]
    have := heap_alloc_new ((w.alloc (.cells (slA s) 25)).alloc (.cells (chA c) 27)) (.cells #[.int .i64 0] 3)
    simp only [World.size_alloc] at this
    exact (Below.heap_alloc _ _ _ (by simp)).trans this
  have r3 : W4.heap[w.heap.size + 1 + 1 + 1]? = some (.cells #[.int .i64 0] 35 (0, 0)) := by
    rw [hW4]
    have := heap_alloc_new (((w.alloc (.cells (slA s) 25)).alloc (.cells (chA c) 27)).alloc (.cells #[.int .i64 0] 3)) (.cells #[.int .i64 0] 35)
    simp only [World.size_alloc] at this
    exact this
  have hcl : Hid (∀ V, Below W4.heap.size W4 V → (V.heap[w.heap.size]? = some (.cells (slA s) 25 (0, 0)) ∧ V.heap[w.heap.size + 1]? = some (.cells (chA c) 27 (0, 0))) ∧ Boxed V (w.heap.size + 1 + 1) 3 (.int .i64 0) ∧ Boxed V (w.heap.size + 1 + 1 + 1) 35 (.int .i64 0) ∧ Below w.heap.size w V) := Lib.hid fun V hV =>
    ⟨⟨(hV.block _ (by omega)).trans r0, (hV.block _ (by omega)).trans r1⟩, (hV.block _ (by omega)).trans r2, (hV.block _ (by omega)).trans r3, hB4.trans (hV.mono hB4.size)⟩
  have hch : Hid (∀ V : World, V.heap[w.heap.size + 1]? = some (.cells (chA c) 27 (0, 0)) → V.cell? ⟨w.heap.size + 1, 0, none⟩ = some (.int .i64 c.no) ∧ V.cell? ⟨w.heap.size + 1, 1, none⟩ = some (.int .i64 c.team) ∧ V.cell? ⟨w.heap.size + 1, 2, none⟩ = some (.int .i64 c.day) ∧ V.cell? ⟨w.heap.size + 1, 3, none⟩ = some (.int .i64 c.due) ∧ V.cell? ⟨w.heap.size + 1, 4, none⟩ = some (.bool c.bl)) := Lib.hid fun V h1 =>
    ⟨by rw [cell_of_row _ _ _ _ _ _ h1]; rfl, by rw [cell_of_row _ _ _ _ _ _ h1]; rfl, by rw [cell_of_row _ _ _ _ _ _ h1]; rfl, by rw [cell_of_row _ _ _ _ _ _ h1]; rfl, by rw [cell_of_row _ _ _ _ _ _ h1]; rfl⟩
  have hsl : Hid (∀ V : World, V.heap[w.heap.size]? = some (.cells (slA s) 25 (0, 0)) → V.rangeAt w.heap.size 0 (slC s)) := Lib.hid fun V h1 j v hj => by
    rw [cell_of_row _ _ _ _ _ _ h1, Nat.zero_add]
    simpa [slA] using hj
  have pl : Hid ((Tryd.prog.info? 25).map (·.size) = some (slC s).length) := Lib.hid (by have := sl_info hs.root; simpa [slA] using this)
  clear r0 r1 r2 r3 hz4 hB4
  have ch0 : (chA c)[0]? = some (.int .i64 c.no) := rfl
  have ch1 : (chA c)[1]? = some (.int .i64 c.team) := rfl
  have ch2 : (chA c)[2]? = some (.int .i64 c.day) := rfl
  have ch3 : (chA c)[3]? = some (.int .i64 c.due) := rfl
  have ch4 : (chA c)[4]? = some (.bool c.bl) := rfl
  go_enter Tryd.func13, Tryd.ntmps13
  go_wp2_with fail
  rw [← hW4]
  refine (acheck_any c W4).mono ?_
  rintro e w5 ⟨rfl, hb5⟩
  obtain ⟨⟨s5, c5⟩, bv5, be5, hb59⟩ := hcl.out w5 hb5
  rw [hce]
  clear ch0 ch1 ch2 ch3 ch4
  have cv := bv5.cell
  have fv := bv5.frozen
  have ce := be5.cell
  have fe := be5.frozen
  go_wp2
  have hB9 := ((hb59.setCell (p := ⟨w.heap.size + 1 + 1, 0, none⟩) (by show w.heap.size ≤ w.heap.size + 1 + 1; omega) (.int .i64 0)).setCell (p := ⟨w.heap.size + 1 + 1 + 1, 0, none⟩) (by show w.heap.size ≤ w.heap.size + 1 + 1 + 1; omega) (.int .i64 2))
  have hv9 := ((bv5.set (.int .i64 0)).other (B' := w.heap.size + 1 + 1 + 1) (by omega) (.int .i64 2)).cell
  have he9 := ((be5.other (B' := w.heap.size + 1 + 1) (by omega) (.int .i64 0)).set (.int .i64 2)).cell
  refine bodyPost_ret (v := .tuple #[.int .i64 0, .int .i64 2]) ?_ rfl ⟨rfl, hB9⟩
  simp [results, Tryd.results13, go_sem, hv9, he9]
set_option maxRecDepth 100000 in
set_option maxHeartbeats 4000000 in
theorem verdict_early (s : Sl) (hs : SlI s) (c : Ch) (l : List Op) (m : Nat) (A : Option Addr) (k : Nat) (time : Int) (w : World) (h : chkC c = true) (h2 : ¬ 64 < m) (h3 : time < 0) : Calls Tryd.prog 13 #[.agg (slA s), .agg (chA c), .slice A m k, .int .i64 time] w fun e w' => e = .returned (.tuple #[.int .i64 0, .int .i64 (vdE s c m time)]) ∧ Below w.heap.size w w' := by
  have hE : vdE s c m time = 410 := by simp [vdE, h, h2]; omega
  rw [hE]
  clear hE
  have hce : chkE c = 0 := by simp [chkE, h]
  have d1 : decide ((64 : Int) < (m : Int)) = false := decide_eq_false (by omega)
  have d2 : decide (time < 0) = true := decide_eq_true h3
  obtain ⟨W4, hW4⟩ : ∃ W4, W4 = ((((w.alloc (.cells (slA s) 25)).alloc (.cells (chA c) 27)).alloc (.cells #[.int .i64 0] 3)).alloc (.cells #[.int .i64 0] 35)) := ⟨_, rfl⟩
  have hz4 : W4.heap.size = w.heap.size + 4 := by rw [hW4]; simp
  have hB4 : Below w.heap.size w W4 := hW4 ▸ ((((Below.refl _ w).alloc (Nat.le_refl _) _).alloc (by simp) _).alloc (by simp <;> omega) _).alloc (by simp <;> omega) _
  have r0 : W4.heap[w.heap.size]? = some (.cells (slA s) 25 (0, 0)) := by
    rw [hW4]
    exact (Below.heap_alloc _ _ _ (by simp <;> omega)).trans ((Below.heap_alloc _ _ _ (by simp <;> omega)).trans ((Below.heap_alloc _ _ _ (by simp)).trans (heap_alloc_new w _)))
  have r1 : W4.heap[w.heap.size + 1]? = some (.cells (chA c) 27 (0, 0)) := by
    rw [hW4]
    have := heap_alloc_new (w.alloc (.cells (slA s) 25)) (.cells (chA c) 27)
    rw [World.size_alloc] at this
    exact (Below.heap_alloc _ _ _ (by simp <;> omega)).trans ((Below.heap_alloc _ _ _ (by simp)).trans this)
  have r2 : W4.heap[w.heap.size + 1 + 1]? = some (.cells #[.int .i64 0] 3 (0, 0)) := by
    rw [hW4]
    have := heap_alloc_new ((w.alloc (.cells (slA s) 25)).alloc (.cells (chA c) 27)) (.cells #[.int .i64 0] 3)
    simp only [World.size_alloc] at this
    exact (Below.heap_alloc _ _ _ (by simp)).trans this
  have r3 : W4.heap[w.heap.size + 1 + 1 + 1]? = some (.cells #[.int .i64 0] 35 (0, 0)) := by
    rw [hW4]
    have := heap_alloc_new (((w.alloc (.cells (slA s) 25)).alloc (.cells (chA c) 27)).alloc (.cells #[.int .i64 0] 3)) (.cells #[.int .i64 0] 35)
    simp only [World.size_alloc] at this
    exact this
  have hcl : Hid (∀ V, Below W4.heap.size W4 V → (V.heap[w.heap.size]? = some (.cells (slA s) 25 (0, 0)) ∧ V.heap[w.heap.size + 1]? = some (.cells (chA c) 27 (0, 0))) ∧ Boxed V (w.heap.size + 1 + 1) 3 (.int .i64 0) ∧ Boxed V (w.heap.size + 1 + 1 + 1) 35 (.int .i64 0) ∧ Below w.heap.size w V) := Lib.hid fun V hV =>
    ⟨⟨(hV.block _ (by omega)).trans r0, (hV.block _ (by omega)).trans r1⟩, (hV.block _ (by omega)).trans r2, (hV.block _ (by omega)).trans r3, hB4.trans (hV.mono hB4.size)⟩
  have hch : Hid (∀ V : World, V.heap[w.heap.size + 1]? = some (.cells (chA c) 27 (0, 0)) → V.cell? ⟨w.heap.size + 1, 0, none⟩ = some (.int .i64 c.no) ∧ V.cell? ⟨w.heap.size + 1, 1, none⟩ = some (.int .i64 c.team) ∧ V.cell? ⟨w.heap.size + 1, 2, none⟩ = some (.int .i64 c.day) ∧ V.cell? ⟨w.heap.size + 1, 3, none⟩ = some (.int .i64 c.due) ∧ V.cell? ⟨w.heap.size + 1, 4, none⟩ = some (.bool c.bl)) := Lib.hid fun V h1 =>
    ⟨by rw [cell_of_row _ _ _ _ _ _ h1]; rfl, by rw [cell_of_row _ _ _ _ _ _ h1]; rfl, by rw [cell_of_row _ _ _ _ _ _ h1]; rfl, by rw [cell_of_row _ _ _ _ _ _ h1]; rfl, by rw [cell_of_row _ _ _ _ _ _ h1]; rfl⟩
  have hsl : Hid (∀ V : World, V.heap[w.heap.size]? = some (.cells (slA s) 25 (0, 0)) → V.rangeAt w.heap.size 0 (slC s)) := Lib.hid fun V h1 j v hj => by
    rw [cell_of_row _ _ _ _ _ _ h1, Nat.zero_add]
    simpa [slA] using hj
  have pl : Hid ((Tryd.prog.info? 25).map (·.size) = some (slC s).length) := Lib.hid (by have := sl_info hs.root; simpa [slA] using this)
  clear r0 r1 r2 r3 hz4 hB4
  have ch0 : (chA c)[0]? = some (.int .i64 c.no) := rfl
  have ch1 : (chA c)[1]? = some (.int .i64 c.team) := rfl
  have ch2 : (chA c)[2]? = some (.int .i64 c.day) := rfl
  have ch3 : (chA c)[3]? = some (.int .i64 c.due) := rfl
  have ch4 : (chA c)[4]? = some (.bool c.bl) := rfl
  go_enter Tryd.func13, Tryd.ntmps13
  go_wp2_with fail
  rw [← hW4]
  refine (acheck_any c W4).mono ?_
  rintro e w5 ⟨rfl, hb5⟩
  obtain ⟨⟨s5, c5⟩, bv5, be5, hb59⟩ := hcl.out w5 hb5
  rw [hce]
  clear ch0 ch1 ch2 ch3 ch4
  have cv := bv5.cell
  have fv := bv5.frozen
  have ce := be5.cell
  have fe := be5.frozen
  go_wp2
  have hB9 := ((hb59.setCell (p := ⟨w.heap.size + 1 + 1, 0, none⟩) (by show w.heap.size ≤ w.heap.size + 1 + 1; omega) (.int .i64 0)).setCell (p := ⟨w.heap.size + 1 + 1 + 1, 0, none⟩) (by show w.heap.size ≤ w.heap.size + 1 + 1 + 1; omega) (.int .i64 410))
  have hv9 := ((bv5.set (.int .i64 0)).other (B' := w.heap.size + 1 + 1 + 1) (by omega) (.int .i64 410)).cell
  have he9 := ((be5.other (B' := w.heap.size + 1 + 1) (by omega) (.int .i64 0)).set (.int .i64 410)).cell
  refine bodyPost_ret (v := .tuple #[.int .i64 0, .int .i64 410]) ?_ rfl ⟨rfl, hB9⟩
  simp [results, Tryd.results13, go_sem, hv9, he9]
set_option maxRecDepth 100000 in
set_option maxHeartbeats 4000000 in
theorem verdict_late (s : Sl) (hs : SlI s) (c : Ch) (l : List Op) (m : Nat) (A : Option Addr) (k : Nat) (time : Int) (w : World) (h : chkC c = true) (h2 : ¬ 64 < m) (h3 : 134217728 ≤ time) : Calls Tryd.prog 13 #[.agg (slA s), .agg (chA c), .slice A m k, .int .i64 time] w fun e w' => e = .returned (.tuple #[.int .i64 0, .int .i64 (vdE s c m time)]) ∧ Below w.heap.size w w' := by
  have hE : vdE s c m time = 410 := by simp [vdE, h, h2]; omega
  rw [hE]
  clear hE
  have hce : chkE c = 0 := by simp [chkE, h]
  have d1 : decide ((64 : Int) < (m : Int)) = false := decide_eq_false (by omega)
  have d2 : decide (time < 0) = false := decide_eq_false (by omega)
  have d3 : decide (134217728 ≤ time) = true := decide_eq_true h3
  obtain ⟨W4, hW4⟩ : ∃ W4, W4 = ((((w.alloc (.cells (slA s) 25)).alloc (.cells (chA c) 27)).alloc (.cells #[.int .i64 0] 3)).alloc (.cells #[.int .i64 0] 35)) := ⟨_, rfl⟩
  have hz4 : W4.heap.size = w.heap.size + 4 := by rw [hW4]; simp
  have hB4 : Below w.heap.size w W4 := hW4 ▸ ((((Below.refl _ w).alloc (Nat.le_refl _) _).alloc (by simp) _).alloc (by simp <;> omega) _).alloc (by simp <;> omega) _
  have r0 : W4.heap[w.heap.size]? = some (.cells (slA s) 25 (0, 0)) := by
    rw [hW4]
    exact (Below.heap_alloc _ _ _ (by simp <;> omega)).trans ((Below.heap_alloc _ _ _ (by simp <;> omega)).trans ((Below.heap_alloc _ _ _ (by simp)).trans (heap_alloc_new w _)))
  have r1 : W4.heap[w.heap.size + 1]? = some (.cells (chA c) 27 (0, 0)) := by
    rw [hW4]
    have := heap_alloc_new (w.alloc (.cells (slA s) 25)) (.cells (chA c) 27)
    rw [World.size_alloc] at this
    exact (Below.heap_alloc _ _ _ (by simp <;> omega)).trans ((Below.heap_alloc _ _ _ (by simp)).trans this)
  have r2 : W4.heap[w.heap.size + 1 + 1]? = some (.cells #[.int .i64 0] 3 (0, 0)) := by
    rw [hW4]
    have := heap_alloc_new ((w.alloc (.cells (slA s) 25)).alloc (.cells (chA c) 27)) (.cells #[.int .i64 0] 3)
    simp only [World.size_alloc] at this
    exact (Below.heap_alloc _ _ _ (by simp)).trans this
  have r3 : W4.heap[w.heap.size + 1 + 1 + 1]? = some (.cells #[.int .i64 0] 35 (0, 0)) := by
    rw [hW4]
    have := heap_alloc_new (((w.alloc (.cells (slA s) 25)).alloc (.cells (chA c) 27)).alloc (.cells #[.int .i64 0] 3)) (.cells #[.int .i64 0] 35)
    simp only [World.size_alloc] at this
    exact this
  have hcl : Hid (∀ V, Below W4.heap.size W4 V → (V.heap[w.heap.size]? = some (.cells (slA s) 25 (0, 0)) ∧ V.heap[w.heap.size + 1]? = some (.cells (chA c) 27 (0, 0))) ∧ Boxed V (w.heap.size + 1 + 1) 3 (.int .i64 0) ∧ Boxed V (w.heap.size + 1 + 1 + 1) 35 (.int .i64 0) ∧ Below w.heap.size w V) := Lib.hid fun V hV =>
    ⟨⟨(hV.block _ (by omega)).trans r0, (hV.block _ (by omega)).trans r1⟩, (hV.block _ (by omega)).trans r2, (hV.block _ (by omega)).trans r3, hB4.trans (hV.mono hB4.size)⟩
  have hch : Hid (∀ V : World, V.heap[w.heap.size + 1]? = some (.cells (chA c) 27 (0, 0)) → V.cell? ⟨w.heap.size + 1, 0, none⟩ = some (.int .i64 c.no) ∧ V.cell? ⟨w.heap.size + 1, 1, none⟩ = some (.int .i64 c.team) ∧ V.cell? ⟨w.heap.size + 1, 2, none⟩ = some (.int .i64 c.day) ∧ V.cell? ⟨w.heap.size + 1, 3, none⟩ = some (.int .i64 c.due) ∧ V.cell? ⟨w.heap.size + 1, 4, none⟩ = some (.bool c.bl)) := Lib.hid fun V h1 =>
    ⟨by rw [cell_of_row _ _ _ _ _ _ h1]; rfl, by rw [cell_of_row _ _ _ _ _ _ h1]; rfl, by rw [cell_of_row _ _ _ _ _ _ h1]; rfl, by rw [cell_of_row _ _ _ _ _ _ h1]; rfl, by rw [cell_of_row _ _ _ _ _ _ h1]; rfl⟩
  have hsl : Hid (∀ V : World, V.heap[w.heap.size]? = some (.cells (slA s) 25 (0, 0)) → V.rangeAt w.heap.size 0 (slC s)) := Lib.hid fun V h1 j v hj => by
    rw [cell_of_row _ _ _ _ _ _ h1, Nat.zero_add]
    simpa [slA] using hj
  have pl : Hid ((Tryd.prog.info? 25).map (·.size) = some (slC s).length) := Lib.hid (by have := sl_info hs.root; simpa [slA] using this)
  clear r0 r1 r2 r3 hz4 hB4
  have ch0 : (chA c)[0]? = some (.int .i64 c.no) := rfl
  have ch1 : (chA c)[1]? = some (.int .i64 c.team) := rfl
  have ch2 : (chA c)[2]? = some (.int .i64 c.day) := rfl
  have ch3 : (chA c)[3]? = some (.int .i64 c.due) := rfl
  have ch4 : (chA c)[4]? = some (.bool c.bl) := rfl
  go_enter Tryd.func13, Tryd.ntmps13
  go_wp2_with fail
  rw [← hW4]
  refine (acheck_any c W4).mono ?_
  rintro e w5 ⟨rfl, hb5⟩
  obtain ⟨⟨s5, c5⟩, bv5, be5, hb59⟩ := hcl.out w5 hb5
  rw [hce]
  clear ch0 ch1 ch2 ch3 ch4
  have cv := bv5.cell
  have fv := bv5.frozen
  have ce := be5.cell
  have fe := be5.frozen
  go_wp2
  have hB9 := ((hb59.setCell (p := ⟨w.heap.size + 1 + 1, 0, none⟩) (by show w.heap.size ≤ w.heap.size + 1 + 1; omega) (.int .i64 0)).setCell (p := ⟨w.heap.size + 1 + 1 + 1, 0, none⟩) (by show w.heap.size ≤ w.heap.size + 1 + 1 + 1; omega) (.int .i64 410))
  have hv9 := ((bv5.set (.int .i64 0)).other (B' := w.heap.size + 1 + 1 + 1) (by omega) (.int .i64 410)).cell
  have he9 := ((be5.other (B' := w.heap.size + 1 + 1) (by omega) (.int .i64 0)).set (.int .i64 410)).cell
  refine bodyPost_ret (v := .tuple #[.int .i64 0, .int .i64 410]) ?_ rfl ⟨rfl, hB9⟩
  simp [results, Tryd.results13, go_sem, hv9, he9]
set_option maxRecDepth 100000 in
set_option maxHeartbeats 4000000 in
theorem verdict_other (s : Sl) (hs : SlI s) (c : Ch) (l : List Op) (m : Nat) (A : Option Addr) (k : Nat) (time : Int) (w : World) (h : chkC c = true) (h2 : ¬ 64 < m) (h3 : 0 ≤ time) (h4 : time < 134217728) (hcn : conB s c = false) : Calls Tryd.prog 13 #[.agg (slA s), .agg (chA c), .slice A m k, .int .i64 time] w fun e w' => e = .returned (.tuple #[.int .i64 0, .int .i64 (vdE s c m time)]) ∧ Below w.heap.size w w' := by
  have hE : vdE s c m time = 410 := by simp [vdE, h, h2, hcn]
  rw [hE]
  clear hE
  have hce : chkE c = 0 := by simp [chkE, h]
  have d1 : decide ((64 : Int) < (m : Int)) = false := decide_eq_false (by omega)
  have d2 : decide (time < 0) = false := decide_eq_false (by omega)
  have d3 : decide (134217728 ≤ time) = false := decide_eq_false (by omega)
  obtain ⟨W4, hW4⟩ : ∃ W4, W4 = ((((w.alloc (.cells (slA s) 25)).alloc (.cells (chA c) 27)).alloc (.cells #[.int .i64 0] 3)).alloc (.cells #[.int .i64 0] 35)) := ⟨_, rfl⟩
  have hz4 : W4.heap.size = w.heap.size + 4 := by rw [hW4]; simp
  have hB4 : Below w.heap.size w W4 := hW4 ▸ ((((Below.refl _ w).alloc (Nat.le_refl _) _).alloc (by simp) _).alloc (by simp <;> omega) _).alloc (by simp <;> omega) _
  have r0 : W4.heap[w.heap.size]? = some (.cells (slA s) 25 (0, 0)) := by
    rw [hW4]
    exact (Below.heap_alloc _ _ _ (by simp <;> omega)).trans ((Below.heap_alloc _ _ _ (by simp <;> omega)).trans ((Below.heap_alloc _ _ _ (by simp)).trans (heap_alloc_new w _)))
  have r1 : W4.heap[w.heap.size + 1]? = some (.cells (chA c) 27 (0, 0)) := by
    rw [hW4]
    have := heap_alloc_new (w.alloc (.cells (slA s) 25)) (.cells (chA c) 27)
    rw [World.size_alloc] at this
    exact (Below.heap_alloc _ _ _ (by simp <;> omega)).trans ((Below.heap_alloc _ _ _ (by simp)).trans this)
  have r2 : W4.heap[w.heap.size + 1 + 1]? = some (.cells #[.int .i64 0] 3 (0, 0)) := by
    rw [hW4]
    have := heap_alloc_new ((w.alloc (.cells (slA s) 25)).alloc (.cells (chA c) 27)) (.cells #[.int .i64 0] 3)
    simp only [World.size_alloc] at this
    exact (Below.heap_alloc _ _ _ (by simp)).trans this
  have r3 : W4.heap[w.heap.size + 1 + 1 + 1]? = some (.cells #[.int .i64 0] 35 (0, 0)) := by
    rw [hW4]
    have := heap_alloc_new (((w.alloc (.cells (slA s) 25)).alloc (.cells (chA c) 27)).alloc (.cells #[.int .i64 0] 3)) (.cells #[.int .i64 0] 35)
    simp only [World.size_alloc] at this
    exact this
  have hcl : Hid (∀ V, Below W4.heap.size W4 V → (V.heap[w.heap.size]? = some (.cells (slA s) 25 (0, 0)) ∧ V.heap[w.heap.size + 1]? = some (.cells (chA c) 27 (0, 0))) ∧ Boxed V (w.heap.size + 1 + 1) 3 (.int .i64 0) ∧ Boxed V (w.heap.size + 1 + 1 + 1) 35 (.int .i64 0) ∧ Below w.heap.size w V) := Lib.hid fun V hV =>
    ⟨⟨(hV.block _ (by omega)).trans r0, (hV.block _ (by omega)).trans r1⟩, (hV.block _ (by omega)).trans r2, (hV.block _ (by omega)).trans r3, hB4.trans (hV.mono hB4.size)⟩
  have hch : Hid (∀ V : World, V.heap[w.heap.size + 1]? = some (.cells (chA c) 27 (0, 0)) → V.cell? ⟨w.heap.size + 1, 0, none⟩ = some (.int .i64 c.no) ∧ V.cell? ⟨w.heap.size + 1, 1, none⟩ = some (.int .i64 c.team) ∧ V.cell? ⟨w.heap.size + 1, 2, none⟩ = some (.int .i64 c.day) ∧ V.cell? ⟨w.heap.size + 1, 3, none⟩ = some (.int .i64 c.due) ∧ V.cell? ⟨w.heap.size + 1, 4, none⟩ = some (.bool c.bl)) := Lib.hid fun V h1 =>
    ⟨by rw [cell_of_row _ _ _ _ _ _ h1]; rfl, by rw [cell_of_row _ _ _ _ _ _ h1]; rfl, by rw [cell_of_row _ _ _ _ _ _ h1]; rfl, by rw [cell_of_row _ _ _ _ _ _ h1]; rfl, by rw [cell_of_row _ _ _ _ _ _ h1]; rfl⟩
  have hsl : Hid (∀ V : World, V.heap[w.heap.size]? = some (.cells (slA s) 25 (0, 0)) → V.rangeAt w.heap.size 0 (slC s)) := Lib.hid fun V h1 j v hj => by
    rw [cell_of_row _ _ _ _ _ _ h1, Nat.zero_add]
    simpa [slA] using hj
  have pl : Hid ((Tryd.prog.info? 25).map (·.size) = some (slC s).length) := Lib.hid (by have := sl_info hs.root; simpa [slA] using this)
  clear r0 r1 r2 r3 hz4 hB4
  have ch0 : (chA c)[0]? = some (.int .i64 c.no) := rfl
  have ch1 : (chA c)[1]? = some (.int .i64 c.team) := rfl
  have ch2 : (chA c)[2]? = some (.int .i64 c.day) := rfl
  have ch3 : (chA c)[3]? = some (.int .i64 c.due) := rfl
  have ch4 : (chA c)[4]? = some (.bool c.bl) := rfl
  go_enter Tryd.func13, Tryd.ntmps13
  go_wp2_with fail
  rw [← hW4]
  refine (acheck_any c W4).mono ?_
  rintro e w5 ⟨rfl, hb5⟩
  obtain ⟨⟨s5, c5⟩, bv5, be5, hb59⟩ := hcl.out w5 hb5
  rw [hce]
  clear ch0 ch1 ch2 ch3 ch4
  obtain ⟨y0, y1, y2, y3, y4⟩ := hch.out w5 c5
  go_wp2_with (refine wpList_load_midG (by rfl) 25 (.tmp 4) (by rfl) w.heap.size 0 (by rfl) (slC s) _ (hsl.out _ s5) Tryd.underlying25 (by rfl) pl.out ?_)
  refine (concerns_any s c w5).mono ?_
  rintro e w6 ⟨rfl, hb6⟩
  rw [hcn]
  have hb56 := hb5.trans (hb6.mono hb5.size)
  clear y0 y1 y2 y3 y4
  obtain ⟨⟨s6, c6⟩, bv6, be6, hb69⟩ := hcl.out w6 hb56
  have cv := bv6.cell
  have fv := bv6.frozen
  have ce := be6.cell
  have fe := be6.frozen
  go_wp2
  have hB9 := ((hb69.setCell (p := ⟨w.heap.size + 1 + 1, 0, none⟩) (by show w.heap.size ≤ w.heap.size + 1 + 1; omega) (.int .i64 0)).setCell (p := ⟨w.heap.size + 1 + 1 + 1, 0, none⟩) (by show w.heap.size ≤ w.heap.size + 1 + 1 + 1; omega) (.int .i64 410))
  have hv9 := ((bv6.set (.int .i64 0)).other (B' := w.heap.size + 1 + 1 + 1) (by omega) (.int .i64 410)).cell
  have he9 := ((be6.other (B' := w.heap.size + 1 + 1) (by omega) (.int .i64 0)).set (.int .i64 410)).cell
  refine bodyPost_ret (v := .tuple #[.int .i64 0, .int .i64 410]) ?_ rfl ⟨rfl, hB9⟩
  simp [results, Tryd.results13, go_sem, hv9, he9]
end Go.Proofs.YtnccbhndlnkboaaDoor
/- The walk of accuse.Verdict where it gives a verdict. -/
namespace Go.Proofs.YtnccbhndlnkboaaDoor
open Go.RowKit Go.Shelf Cdc Sha
set_option linter.unusedVariables false
set_option linter.unusedSimpArgs false

attribute [local go_sem] Oper.semAt_some
set_option maxRecDepth 100000 in
set_option maxHeartbeats 8000000 in
theorem verdict_ok (s : Sl) (hs : SlI s) (c : Ch) (l : List Op) (m : Nat) (A : Option Addr) (k : Nat) (time : Int) (w : World) (hn : l.length = m) (hk : m ≤ k) (hls : OsAt w A l) (hok : ∀ y ∈ l, OpI y ∧ y.path.length ≤ 1000000) (hL : Laid w) (h : chkC c = true) (h2 : ¬ 64 < m) (h3 : 0 ≤ time) (h4 : time < 134217728) (hcn : conB s c = true) : Calls Tryd.prog 13 #[.agg (slA s), .agg (chA c), .slice A m k, .int .i64 time] w fun e w' => e = .returned (.tuple #[.int .i64 (vdV s c l time), .int .i64 0]) ∧ Below w.heap.size w w' := by
  obtain ⟨vv9, hvv⟩ : ∃ vv9, vdV s c l time = vv9 := ⟨_, rfl⟩
  rw [hvv]
  replace hvv := Lib.hid hvv
  have hce : chkE c = 0 := by simp [chkE, h]
  have d1 : decide ((64 : Int) < (m : Int)) = false := decide_eq_false (by omega)
  have d2 : decide (time < 0) = false := decide_eq_false (by omega)
  have d3 : decide (134217728 ≤ time) = false := decide_eq_false (by omega)
  replace hls := Lib.hid hls
  replace hok := Lib.hid hok
  replace hL := Lib.hid hL
  replace hn := Lib.hid hn
  refine (callsIn_wide (n := 8)).1 ?_
  refine callsIn_of_wp_marks Tryd.func13 rfl trivial ?_ rfl
  simp only [Tryd.ntmps13, List.size_toArray, List.length_cons, List.length_nil, Nat.reduceAdd, Nat.reduceSub, Array.replicate_succ, Array.replicate_zero, List.push_toArray, List.append_toArray, List.nil_append, List.cons_append]
  obtain ⟨W4, hW4⟩ : ∃ W4, W4 = ((((w.alloc (.cells (slA s) 25)).alloc (.cells (chA c) 27)).alloc (.cells #[.int .i64 0] 3)).alloc (.cells #[.int .i64 0] 35)) := ⟨_, rfl⟩
  have hz4 : W4.heap.size = w.heap.size + 4 := by rw [hW4]; simp
  have hB4 : Below w.heap.size w W4 := hW4 ▸ ((((Below.refl _ w).alloc (Nat.le_refl _) _).alloc (by simp) _).alloc (by simp <;> omega) _).alloc (by simp <;> omega) _
  have r0 : W4.heap[w.heap.size]? = some (.cells (slA s) 25 (0, 0)) := by
    rw [hW4]
    exact (Below.heap_alloc _ _ _ (by simp <;> omega)).trans ((Below.heap_alloc _ _ _ (by simp <;> omega)).trans ((Below.heap_alloc _ _ _ (by simp)).trans (heap_alloc_new w _)))
  have r1 : W4.heap[w.heap.size + 1]? = some (.cells (chA c) 27 (0, 0)) := by
    rw [hW4]
    have := heap_alloc_new (w.alloc (.cells (slA s) 25)) (.cells (chA c) 27)
    rw [World.size_alloc] at this
    exact (Below.heap_alloc _ _ _ (by simp <;> omega)).trans ((Below.heap_alloc _ _ _ (by simp)).trans this)
  have r2 : W4.heap[w.heap.size + 1 + 1]? = some (.cells #[.int .i64 0] 3 (0, 0)) := by
    rw [hW4]
    have := heap_alloc_new ((w.alloc (.cells (slA s) 25)).alloc (.cells (chA c) 27)) (.cells #[.int .i64 0] 3)
    simp only [World.size_alloc] at this
    exact (Below.heap_alloc _ _ _ (by simp)).trans this
  have r3 : W4.heap[w.heap.size + 1 + 1 + 1]? = some (.cells #[.int .i64 0] 35 (0, 0)) := by
    rw [hW4]
    have := heap_alloc_new (((w.alloc (.cells (slA s) 25)).alloc (.cells (chA c) 27)).alloc (.cells #[.int .i64 0] 3)) (.cells #[.int .i64 0] 35)
    simp only [World.size_alloc] at this
    exact this
  have hcl : Hid (∀ V, Below W4.heap.size W4 V → (V.heap[w.heap.size]? = some (.cells (slA s) 25 (0, 0)) ∧ V.heap[w.heap.size + 1]? = some (.cells (chA c) 27 (0, 0))) ∧ Boxed V (w.heap.size + 1 + 1) 3 (.int .i64 0) ∧ Boxed V (w.heap.size + 1 + 1 + 1) 35 (.int .i64 0) ∧ Below w.heap.size w V) := Lib.hid fun V hV =>
    ⟨⟨(hV.block _ (by omega)).trans r0, (hV.block _ (by omega)).trans r1⟩, (hV.block _ (by omega)).trans r2, (hV.block _ (by omega)).trans r3, hB4.trans (hV.mono hB4.size)⟩
  have hch : Hid (∀ V : World, V.heap[w.heap.size + 1]? = some (.cells (chA c) 27 (0, 0)) → V.cell? ⟨w.heap.size + 1, 0, none⟩ = some (.int .i64 c.no) ∧ V.cell? ⟨w.heap.size + 1, 1, none⟩ = some (.int .i64 c.team) ∧ V.cell? ⟨w.heap.size + 1, 2, none⟩ = some (.int .i64 c.day) ∧ V.cell? ⟨w.heap.size + 1, 3, none⟩ = some (.int .i64 c.due) ∧ V.cell? ⟨w.heap.size + 1, 4, none⟩ = some (.bool c.bl)) := Lib.hid fun V h1 =>
    ⟨by rw [cell_of_row _ _ _ _ _ _ h1]; rfl, by rw [cell_of_row _ _ _ _ _ _ h1]; rfl, by rw [cell_of_row _ _ _ _ _ _ h1]; rfl, by rw [cell_of_row _ _ _ _ _ _ h1]; rfl, by rw [cell_of_row _ _ _ _ _ _ h1]; rfl⟩
  have hsl : Hid (∀ V : World, V.heap[w.heap.size]? = some (.cells (slA s) 25 (0, 0)) → V.rangeAt w.heap.size 0 (slC s)) := Lib.hid fun V h1 j v hj => by
    rw [cell_of_row _ _ _ _ _ _ h1, Nat.zero_add]
    simpa [slA] using hj
  have pl : Hid ((Tryd.prog.info? 25).map (·.size) = some (slC s).length) := Lib.hid (by have := sl_info hs.root; simpa [slA] using this)
  clear r0 r1 r2 r3 hz4 hB4
  have ch0 : (chA c)[0]? = some (.int .i64 c.no) := rfl
  have ch1 : (chA c)[1]? = some (.int .i64 c.team) := rfl
  have ch2 : (chA c)[2]? = some (.int .i64 c.day) := rfl
  have ch3 : (chA c)[3]? = some (.int .i64 c.due) := rfl
  have ch4 : (chA c)[4]? = some (.bool c.bl) := rfl
  gi_wp2_with (first
    | (refine ⟨trivial, ?_⟩; gi_at_call 28; rw [← hW4]; refine (callsIn_wide.2 (acheck_any c W4)).mono ?_; rintro e w5 ⟨rfl, hb5⟩; obtain ⟨⟨s5, c5⟩, -, -, -⟩ := hcl.out w5 hb5; rw [hce]; clear ch0 ch1 ch2 ch3 ch4; obtain ⟨y0, y1, y2, y3, y4⟩ := hch.out w5 c5)
    | (refine wpListIn_load_midG rfl (by rfl) 25 (.tmp 4) (by rfl) w.heap.size 0 (by rfl) (slC s) _ (by first | exact hsl.out _ s5 | exact hsl.out _ (s6 _)) Tryd.underlying25 (by rfl) pl.out ?_)
    | (refine ⟨trivial, ?_⟩; gi_at_call 30; refine (callsIn_wide.2 (concerns_any s c w5)).mono ?_; rintro e w6 ⟨rfl, hb6⟩; rw [hcn]; have hb56 := hb5.trans (hb6.mono hb5.size); clear y0 y1 y2 y3 y4 hb6; have s6 : ∀ o, (w6.alloc o).heap[w.heap.size]? = some (.cells (slA s) 25 (0, 0)) := fun o => (hcl.out _ (hb56.alloc hb56.size o)).1.1; have y0 : ∀ o, (w6.alloc o).cell? ⟨w.heap.size + 1, 0, none⟩ = some (.int .i64 c.no) := fun o => (hch.out _ (hcl.out _ (hb56.alloc hb56.size o)).1.2).1; have y1 : ∀ o, (w6.alloc o).cell? ⟨w.heap.size + 1, 1, none⟩ = some (.int .i64 c.team) := fun o => (hch.out _ (hcl.out _ (hb56.alloc hb56.size o)).1.2).2.1; have y2 : ∀ o, (w6.alloc o).cell? ⟨w.heap.size + 1, 2, none⟩ = some (.int .i64 c.day) := fun o => (hch.out _ (hcl.out _ (hb56.alloc hb56.size o)).1.2).2.2.1; have y3 : ∀ o, (w6.alloc o).cell? ⟨w.heap.size + 1, 3, none⟩ = some (.int .i64 c.due) := fun o => (hch.out _ (hcl.out _ (hb56.alloc hb56.size o)).1.2).2.2.2.1; have y4 : ∀ o, (w6.alloc o).cell? ⟨w.heap.size + 1, 4, none⟩ = some (.bool c.bl) := fun o => (hch.out _ (hcl.out _ (hb56.alloc hb56.size o)).1.2).2.2.2.2)
    | (refine ⟨trivial, ?_⟩; gi_at_call 32; refine (callsIn_wide.2 (answers_any s c A m k _)).mono ?_; rintro e w' ⟨rfl, rfl⟩))
  obtain ⟨⟨-, c6⟩, bv6, be6, hb69⟩ := hcl.out w6 hb56
  have hs6 : w.heap.size + 4 ≤ w6.heap.size := Nat.le_trans (by rw [hW4]; simp) hb56.size
  obtain ⟨W0, hW0⟩ : ∃ W0, W0 = ((((w6.alloc (.cells #[.func (.func 31) #[] #[]] 64)).alloc (.cells (slA s) 25)).alloc (.cells (chA c) 27)).alloc (.cells #[.slice A m k] 28)) := ⟨_, rfl⟩
  have hz0 : W0.heap.size = w6.heap.size + 4 := by rw [hW0]; simp
  have hb0 : Below w6.heap.size w6 W0 := hW0 ▸ ((((Below.refl _ _).alloc (Nat.le_refl _) _).alloc (by simp) _).alloc (by simp <;> omega) _).alloc (by simp <;> omega) _
  have r0 : W0.heap[w6.heap.size]? = some (.cells #[.func (.func 31) #[] #[]] 64 (0, 0)) := by
    rw [hW0]
    exact (Below.heap_alloc _ _ _ (by simp <;> omega)).trans ((Below.heap_alloc _ _ _ (by simp <;> omega)).trans ((Below.heap_alloc _ _ _ (by simp)).trans (heap_alloc_new w6 _)))
  have r1 : W0.heap[w6.heap.size + 1]? = some (.cells (slA s) 25 (0, 0)) := by
    rw [hW0]
    have := heap_alloc_new (w6.alloc (.cells #[.func (.func 31) #[] #[]] 64)) (.cells (slA s) 25)
    rw [World.size_alloc] at this
    exact (Below.heap_alloc _ _ _ (by simp <;> omega)).trans ((Below.heap_alloc _ _ _ (by simp)).trans this)
  have r2 : W0.heap[w6.heap.size + 1 + 1]? = some (.cells (chA c) 27 (0, 0)) := by
    rw [hW0]
    have := heap_alloc_new ((w6.alloc (.cells #[.func (.func 31) #[] #[]] 64)).alloc (.cells (slA s) 25)) (.cells (chA c) 27)
    simp only [World.size_alloc] at this
    exact (Below.heap_alloc _ _ _ (by simp)).trans this
  have r3 : W0.heap[w6.heap.size + 1 + 1 + 1]? = some (.cells #[.slice A m k] 28 (0, 0)) := by
    rw [hW0]
    have := heap_alloc_new (((w6.alloc (.cells #[.func (.func 31) #[] #[]] 64)).alloc (.cells (slA s) 25)).alloc (.cells (chA c) 27)) (.cells #[.slice A m k] 28)
    simp only [World.size_alloc] at this
    exact this
  have hI0 : VdI w s c w6.heap.size W0 := ⟨(hb0.block _ (by omega)).trans c6, (hb0.block _ (by omega)).trans bv6, (hb0.block _ (by omega)).trans be6, r0, hb69.trans (hb0.mono hb69.size), hs6⟩
  rw [← hW0]
  clear y0 y1 y2 y3 y4 s6 s5 c5 c6 bv6 be6 r0 hb56 hb5
  refine wpIn_rangeFunc_sta (F := Fence.wide) (n := 8) rfl (by decide) (gf := 60) (lb := #[.pointer (some ⟨w6.heap.size + 1 + 1 + 1, 0, none⟩), .pointer (some ⟨w6.heap.size + 1 + 1, 0, none⟩), .pointer (some ⟨w6.heap.size + 1, 0, none⟩)]) rfl trivial (enters_of Tryd.func60 (by kernel_rfl) rfl)
    (encs := anEncs) (Kp := Only (fun q => W0.heap.size ≤ q)) (S := fun xs => xs = [] → l.find? (ansB s c) = none) (Sp := fun _ => True)
    (fun W1 hb1 _ => answers_seq 7 (by decide) s hs c l m A k (w6.heap.size + 1) w W1 (fun q => W0.heap.size ≤ q) hn.out (by omega) hk hls.out hok.out hL.out (hI0.bb.trans (hb1.mono hI0.bb.size)) (fun q hq => by omega) (by omega) (by omega) (by omega) ((hb1.block _ (by omega)).trans r1) ((hb1.block _ (by omega)).trans r2) ((hb1.block _ (by omega)).trans r3))
    (fun A B h k o hk hA _ => by rw [h.block k (Array.getElem?_eq_some_iff.1 hA).1]; exact hA)
    (fun h k => h.trans k)
    (fun W l o o' hl hW _ _ => ⟨rfl, rfl, rfl, by simp, fun k _ hk => World.putObj_heap_other (fun e => hk (by rw [e]; exact hl))⟩)
    (fun _ => rfl)
    (fun pre W => pre = [] ∧ VdI w s c w6.heap.size W) (fun cc _ W => cc = .ret ∧ VdX w vv9 W) ?hI ?hIx ?hIs ?hIxs ⟨rfl, hI0⟩
    (fun x a' W => ∃ g, w6.heap.size + 4 ≤ g ∧ a' = { tmps := ((#[.agg (slA s), .agg (chA c), .slice A m k, .int .i64 time, .pointer (some ⟨w.heap.size, 0, none⟩), .pointer (some ⟨w.heap.size + 1, 0, none⟩), undef, undef, .pointer (some ⟨w.heap.size + 1 + 1, 0, none⟩), .pointer (some ⟨w.heap.size + 1 + 1 + 1, 0, none⟩), .int .i64 0, .pointer (some ⟨w6.heap.size, 0, none⟩), undef, .agg #[.int .i64 c.no, .int .i64 c.team, .int .i64 c.day, .int .i64 c.due, .bool c.bl], .int .i64 0, .int .i64 0, .bool false, undef, .slice A m k, .int .i64 m, .bool false, .int .i64 time, .bool false, .bool false, .int .i64 time, .bool false, .bool false, .bool false, .agg (slC s).toArray, .agg #[.int .i64 c.no, .int .i64 c.team, .int .i64 c.day, .int .i64 c.due, .bool c.bl], .bool true, .bool false, .bool false, .agg (slC s).toArray, .agg #[.int .i64 c.no, .int .i64 c.team, .int .i64 c.day, .int .i64 c.due, .bool c.bl], .slice A m k, .func (.func 60) #[] #[.pointer (some ⟨w6.heap.size + 1 + 1 + 1, 0, none⟩), .pointer (some ⟨w6.heap.size + 1 + 1, 0, none⟩), .pointer (some ⟨w6.heap.size + 1, 0, none⟩)], undef, undef, undef, undef, undef, undef, undef, undef, undef, undef, undef, undef, undef, undef, undef, undef] : Array Value).setIfInBounds 37 (.agg (opA x.1 x.2.1 x.2.2))).setIfInBounds 12 (.pointer (some ⟨g, 0, none⟩)), defers := [] } ∧ W.heap[g]? = some (.cells (opA x.1 x.2.1 x.2.2) 33 (0, 0))) ?hAx ?assign ?body ?done ?stop
  case hI => exact fun pre A B row hs hg hr => ⟨hs.1, hs.2.grown hg (fun r e => by have := (hr r e).1; omega)⟩
  case hIx => exact fun cc pre A B row hs hg hr => ⟨hs.1, hs.2.grown hg (fun r e => by have := (hr r e).1; omega)⟩
  case hIs => exact fun pre A B hs h => ⟨hs.1, hs.2.below h⟩
  case hIxs => exact fun cc pre A B hs h => ⟨hs.1, hs.2.below h⟩
  case hAx =>
    rintro x a' _ A B row ⟨g, h1, h2, h3⟩ hg hr
    refine ⟨g, h1, h2, (hg.block g (Array.getElem?_eq_some_iff.1 h3).1 fun e => ?_).trans h3⟩
    obtain ⟨o, ho, hc⟩ := (hr _ e.symm).2
    rw [h3] at ho
    cases ho
    cases hc
  case assign =>
    rintro r pre ⟨y, P, cp⟩ W K hI hnx hsz2 hK
    dsimp only [anEncs, opA] at hK ⊢
    gi_wp2
    refine hK _ _ (by exact ⟨by simp, fun k o hk h _ => (Below.heap_alloc _ _ _ (Array.getElem?_eq_some_iff.1 h).1).trans h⟩) (Only.of_below (blow1 _ _)) ⟨hI.1, hI.2.below (blow1 _ _)⟩ ⟨W.heap.size, by omega, rfl, heap_alloc_new W _⟩
  case body =>
    rintro r pre ⟨y, P, cp⟩ a' W ⟨rfl, hI⟩ hnx ⟨g, hg, rfl, hrow⟩ hsz2
    dsimp only [opA] at hrow
    have hf := hnx rfl
    dsimp only at hf
    have z2 : W.cell? ⟨g, 2, none⟩ = some (.bool y.bl) := by rw [cell_of_row _ _ _ _ _ _ hrow]; rfl
    have cc := hI.ch.cell
    have y4 := (hch.out W hI.rc).2.2.2.2
    obtain ⟨q, hq⟩ : ∃ q, (y.bl == c.bl) = q := ⟨_, rfl⟩
    have hv : Hid (vv9 = if q = true then 1 else 2) := Lib.hid (by rw [← hvv.out, vdV, hf, ← hq]; simp)
    have hch2 : Hid (∀ V, Calls Tryd.prog 31 #[.agg #[.int .i64 1, .int .i64 2], .bool q] V fun e w' => e = .returned (.int .i64 (if q = true then 1 else 2)) ∧ Below V.heap.size V w') := Lib.hid fun V => choose_any 1 2 q V
    rw [← hv.out] at hch2
    replace hI := Lib.hid hI
    clear hf hrow hv hnx
    simp only [List.setIfInBounds_toArray, List.set_cons_zero, List.set_cons_succ]
    gi_wp2_with (refine ⟨trivial, ?_⟩; gi_at_call 31; refine (callsIn_wide.2 (hch2.out _)).mono ?_; rintro e w7 ⟨rfl, hb7⟩; have hI7 := Lib.hid (hI.out.below hb7); have cv := hI7.out.bv.cell; have fv := hI7.out.bv.frozen; have ce := hI7.out.be.cell; have fe := hI7.out.be.frozen)
    exact ⟨⟨by simpa [World.setCell] using hb7.size, fun k o hk h ho => (Below.heap_setCell _ _ _ k (by show k ≠ w.heap.size + 1 + 1 + 1; omega)).trans ((Below.heap_setCell _ _ _ k (by show k ≠ w.heap.size + 1 + 1; omega)).trans ((hb7.block k (Array.getElem?_eq_some_iff.1 h).1).trans h))⟩, rfl,
      ⟨(hI7.out.bv.set _).other (by omega) _, (hI7.out.be.other (by omega) _).set _, (hI7.out.bb.setCell (p := ⟨w.heap.size + 1 + 1, 0, none⟩) (by show w.heap.size ≤ w.heap.size + 1 + 1; omega) _).setCell (p := ⟨w.heap.size + 1 + 1 + 1, 0, none⟩) (by show w.heap.size ≤ w.heap.size + 1 + 1 + 1; omega) _⟩⟩
  case done =>
    rintro E xs W hE hxs ⟨rfl, hI⟩ hK
    have hf := hxs rfl
    have cc := hI.ch.cell
    have y3 := (hch.out W hI.rc).2.2.2.1
    obtain ⟨q, hq⟩ : ∃ q, decide (time ≤ c.due) = q := ⟨_, rfl⟩
    have hv : Hid (vv9 = if q = true then 0 else 2) := Lib.hid (by rw [← hvv.out, vdV, hf, ← hq]; simp)
    have hch2 : Hid (∀ V, Calls Tryd.prog 31 #[.agg #[.int .i64 0, .int .i64 2], .bool q] V fun e w' => e = .returned (.int .i64 (if q = true then 0 else 2)) ∧ Below V.heap.size V w') := Lib.hid fun V => choose_any 0 2 q V
    rw [← hv.out] at hch2
    replace hI := Lib.hid hI
    replace hK := Lib.hid hK
    clear hf hv hxs
    gi_wp2_with (refine ⟨trivial, ?_⟩; gi_at_call 31; refine (callsIn_wide.2 (hch2.out _)).mono ?_; rintro e w7 ⟨rfl, hb7⟩; have hI7 := Lib.hid (hI.out.below hb7); have cv := hI7.out.bv.cell; have fv := hI7.out.bv.frozen; have ce := hI7.out.be.cell; have fe := hI7.out.be.frozen)
    have hK7 := (hb7.block _ (Array.getElem?_eq_some_iff.1 hK.out).1).trans hK.out
    have hK8 := (KeepsOthers.setCell (w7.setCell ⟨w.heap.size + 1 + 1, 0, none⟩ (.int .i64 vv9)) ⟨w.heap.size + 1 + 1 + 1, 0, none⟩ (.int .i64 0)).same E _ ((KeepsOthers.setCell w7 ⟨w.heap.size + 1 + 1, 0, none⟩ (.int .i64 vv9)).same E _ hK7 rfl) rfl
    refine ⟨by simp, .inl ⟨_, _, rfl, run_takeDeferred hK8, ?_⟩⟩
    have hX : VdX w vv9 ((w7.setCell ⟨w.heap.size + 1 + 1, 0, none⟩ (.int .i64 vv9)).setCell ⟨w.heap.size + 1 + 1 + 1, 0, none⟩ (.int .i64 0)) := ⟨(hI7.out.bv.set _).other (by omega) _, (hI7.out.be.other (by omega) _).set _, (hI7.out.bb.setCell (p := ⟨w.heap.size + 1 + 1, 0, none⟩) (by show w.heap.size ≤ w.heap.size + 1 + 1; omega) _).setCell (p := ⟨w.heap.size + 1 + 1 + 1, 0, none⟩) (by show w.heap.size ≤ w.heap.size + 1 + 1 + 1; omega) _⟩
    have hb1 := (hX.bv.kept (grownBy_putObj' _ E (.deferred none)) (fun e => by cases e; omega)).cell
    have hb2 := (hX.be.kept (grownBy_putObj' _ E (.deferred none)) (fun e => by cases e; omega)).cell
    have hB2 := hX.bb.trans (belowK_b (w := w) (Nat.le_refl _) _ E _ (.deferred none) (by omega) hK8 rfl rfl)
    generalize ((w7.setCell ⟨w.heap.size + 1 + 1, 0, none⟩ (.int .i64 vv9)).setCell ⟨w.heap.size + 1 + 1 + 1, 0, none⟩ (.int .i64 0)).putObj E (.deferred none) = W9 at hb1 hb2 hB2 ⊢
    exact ⟨.tuple #[.int .i64 vv9, .int .i64 0], by simp [results, Tryd.results13, go_sem, hb1, hb2], rfl, hB2⟩
  case stop =>
    rintro E cc pre W hE _ ⟨rfl, hX⟩ hK
    have cv := hX.bv.cell
    have ce := hX.be.cell
    gi_wp2
    refine ⟨by simp, .inl ⟨_, _, rfl, run_takeDeferred hK, ?_⟩⟩
    have hb1 := (hX.bv.kept (grownBy_putObj' _ E (.deferred none)) (fun e => by cases e; omega)).cell
    have hb2 := (hX.be.kept (grownBy_putObj' _ E (.deferred none)) (fun e => by cases e; omega)).cell
    have hB2 := hX.bb.trans (belowK_b (w := w) (Nat.le_refl _) _ E _ (.deferred none) (by omega) hK rfl rfl)
    generalize W.putObj E (.deferred none) = W9 at hb1 hb2 hB2 ⊢
    exact ⟨.tuple #[.int .i64 vv9, .int .i64 0], by simp [results, Tryd.results13, go_sem, hb1, hb2], rfl, hB2⟩

theorem vdR_zero (s : Sl) (c : Ch) (l : List Op) (n : Nat) (time : Int) (h : vdE s c n time ≠ 0) : vdR s c l n time = 0 := if_neg h
/-- what Verdict answers -/
theorem verdict_any (s : Sl) (hs : SlI s) (c : Ch) (l : List Op) (m : Nat) (A : Option Addr) (k : Nat) (time : Int) (w : World) (hn : l.length = m) (hk : m ≤ k) (hls : OsAt w A l) (hok : ∀ y ∈ l, OpI y ∧ y.path.length ≤ 1000000) (hL : Laid w) : Calls Tryd.prog 13 #[.agg (slA s), .agg (chA c), .slice A m k, .int .i64 time] w fun e w' => e = .returned (.tuple #[.int .i64 (vdR s c l m time), .int .i64 (vdE s c m time)]) ∧ Below w.heap.size w w' := by
  by_cases h1 : chkC c = true
  · by_cases h2 : 64 < m
    · have e : vdE s c m time = 2 := by simp [vdE, h1, h2]
      rw [vdR_zero s c l m time (by rw [e]; decide)]
      exact verdict_many s hs c l m A k time w h1 h2
    · by_cases h3 : time < 0
      · have e : vdE s c m time = 410 := by simp [vdE, h1, h2]; omega
        rw [vdR_zero s c l m time (by rw [e]; decide)]
        exact verdict_early s hs c l m A k time w h1 h2 h3
      · by_cases h4 : 134217728 ≤ time
        · have e : vdE s c m time = 410 := by simp [vdE, h1, h2]; omega
          rw [vdR_zero s c l m time (by rw [e]; decide)]
          exact verdict_late s hs c l m A k time w h1 h2 h4
        · by_cases h5 : conB s c = true
          · have e : vdE s c m time = 0 := by simp [vdE, h1, h2, h5]; omega
            rw [vdR, if_pos e, e]
            exact verdict_ok s hs c l m A k time w hn hk hls hok hL h1 h2 (by omega) (by omega) h5
          · have h5 : conB s c = false := by simpa using h5
            have e : vdE s c m time = 410 := by simp [vdE, h1, h2, h5]
            rw [vdR_zero s c l m time (by rw [e]; decide)]
            exact verdict_other s hs c l m A k time w h1 h2 (by omega) (by omega) h5
  · have h1 : chkC c = false := by simpa using h1
    have e : vdE s c m time = 410 := by simp [vdE, h1]
    rw [vdR_zero s c l m time (by rw [e]; decide)]
    exact verdict_chk s hs c l m A k time w h1
end Go.Proofs.YtnccbhndlnkboaaDoor
