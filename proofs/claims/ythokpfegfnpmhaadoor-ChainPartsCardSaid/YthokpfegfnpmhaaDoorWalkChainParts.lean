/- The walk of the statement ChainParts. -/
import Derived.Test.YthokpfegfnpmhaaDoorChainSane
namespace Go.Proofs.YthokpfegfnpmhaaDoor
open Go.RowKit Cdc Sha
set_option linter.unusedVariables false
set_option linter.unusedSimpArgs false

theorem diffC_symm : ∀ (a b : List Lk), diffC a b = diffC b a
  | [], [] => rfl
  | [], _ :: _ => rfl
  | _ :: _, [] => rfl
  | x :: a, y :: b => by
    simp only [diffC]
    rw [diffC_symm a b]
    by_cases h : x = y
    · rw [if_pos h, if_pos h.symm]
    · rw [if_neg h, if_neg (fun e => h e.symm)]
theorem diffC_take : ∀ (a b : List Lk), diffC a b = none → a.take (min a.length b.length) = b.take (min a.length b.length)
  | [], b, _ => by simp
  | x :: a, [], _ => by simp
  | x :: a, y :: b, h => by
    simp only [diffC] at h
    split at h
    · rename_i e
      have h2 : diffC a b = none := by simpa using h
      have := diffC_take a b h2
      rw [List.length_cons, List.length_cons, show min (a.length + 1) (b.length + 1) = min a.length b.length + 1 by omega, List.take_succ_cons, List.take_succ_cons, this, e]
    · cases h
theorem diffC_at : ∀ (a b : List Lk) (i : Nat), diffC a b = some i → a.take i = b.take i ∧ ∃ x y, a[i]? = some x ∧ b[i]? = some y ∧ x ≠ y
  | [], b, i, h => by cases b <;> cases h
  | x :: a, [], i, h => by cases h
  | x :: a, y :: b, i, h => by
    simp only [diffC] at h
    split at h
    · rename_i e
      obtain ⟨j, hj, rfl⟩ := Option.map_eq_some_iff.1 h
      obtain ⟨h1, u, v, h2, h3, h4⟩ := diffC_at a b j hj
      exact ⟨by rw [List.take_succ_cons, List.take_succ_cons, h1, e], u, v, by simpa using h2, by simpa using h3, h4⟩
    · rename_i e
      cases h
      exact ⟨rfl, x, y, rfl, rfl, e⟩
/-- two lists that Part compares -/
def PairC (a b : List Lk) : Prop := OkL a ∧ OkL b ∧ ¬ ∃ x y, a[0]? = some x ∧ b[0]? = some y ∧ x.node ≠ y.node
theorem PairC.symm {a b : List Lk} (h : PairC a b) : PairC b a := ⟨h.2.1, h.1, fun ⟨x, y, hx, hy, hne⟩ => h.2.2 ⟨y, x, hy, hx, fun e => hne e.symm⟩⟩
theorem partC_ok {a b : List Lk} (h : PairC a b) : partC a b = ((diffC a b).getD 0, (diffC a b).isSome, 0) := by
  unfold partC
  rw [if_neg (by simpa using h.1), if_neg (by simpa using h.2.1), if_neg h.2.2]
theorem partC_bad {a b : List Lk} (h : ¬ PairC a b) : partC a b = (0, false, 80) := by
  unfold partC
  split
  · rfl
  · rename_i h1
    split
    · rfl
    · rename_i h2
      split
      · rfl
      · rename_i h3
        exact absurd ⟨by simpa using h1, by simpa using h2, h3⟩ h
/-- what is known of an argument: its links' numbers and digests -/
def ArgL (l : List Lk) : Prop := ∀ x ∈ l, I64 x.node ∧ I64 x.no ∧ x.prev.length = 32
theorem ArgL.p32 {l : List Lk} (h : ArgL l) : ∀ x ∈ l, x.prev.length = 32 := fun x hx => (h x hx).2.2
theorem few_len {l : List Lk} (h : fewC l = true) : l.length ≤ 16 := by
  unfold fewC at h
  simp at h
  exact h.1
theorem ArgL.ok {l : List Lk} (h : ArgL l) (hf : fewC l = true) : ∀ x ∈ l, LkOk x := fun x hx => by
  obtain ⟨h1, h2, h3⟩ := h x hx
  unfold fewC at hf
  simp at hf
  have := hf.2 x hx
  unfold smallC at this
  simp at this
  exact ⟨h1, h2, h3, by omega⟩
set_option maxRecDepth 100000 in
set_option maxHeartbeats 4000000 in
theorem parts_fa (a b : List Lk) (n m : Nat) (A B : Option Addr) (c d : Nat) (w : World) (hn : a.length = n) (hm : b.length = m) (hc : n ≤ c) (hd : m ≤ d) (hA : LsAt w A a) (hB : LsAt w B b) (ga : ArgL a) (gb : ArgL b) (hL : Laid w) (hf : fewC a = false) :
    Calls Tryd.prog 7 #[.slice A n c, .slice B m d] w fun e w' => e = .returned (.bool true) ∧ Below w.heap.size w w' := by
  have hS : Hid (Calls Tryd.prog 13 #[] w fun e w' => e = .returned (.bool true) ∧ Below w.heap.size w w') := Lib.hid (csane_any w hL)
  have hFa : Hid (∀ V, Below w.heap.size w V → Calls Tryd.prog 14 #[.slice A n c] V fun e w' => e = .returned (.bool (fewC a)) ∧ w' = V) := Lib.hid fun V h => few_any a n A c V hn hc (hA.below h) ga.p32
  rw [hf] at hFa
  go_enter Tryd.func7, Tryd.ntmps7
  go_wp2_with (first
    | (go_at_call 13; (with_reducible refine hS.out.mono ?_); rintro e w1 ⟨rfl, hb1⟩)
    | (go_at_call 14; (with_reducible refine (hFa.out _ hb1).mono ?_); rintro e w' ⟨rfl, rfl⟩))
  go_ret
  exact ⟨rfl, hb1⟩
set_option maxRecDepth 100000 in
set_option maxHeartbeats 4000000 in
theorem parts_fb (a b : List Lk) (n m : Nat) (A B : Option Addr) (c d : Nat) (w : World) (hn : a.length = n) (hm : b.length = m) (hc : n ≤ c) (hd : m ≤ d) (hA : LsAt w A a) (hB : LsAt w B b) (ga : ArgL a) (gb : ArgL b) (hL : Laid w) (hfa : fewC a = true) (hf : fewC b = false) :
    Calls Tryd.prog 7 #[.slice A n c, .slice B m d] w fun e w' => e = .returned (.bool true) ∧ Below w.heap.size w w' := by
  have hS : Hid (Calls Tryd.prog 13 #[] w fun e w' => e = .returned (.bool true) ∧ Below w.heap.size w w') := Lib.hid (csane_any w hL)
  have hFa : Hid (∀ V, Below w.heap.size w V → Calls Tryd.prog 14 #[.slice A n c] V fun e w' => e = .returned (.bool (fewC a)) ∧ w' = V) := Lib.hid fun V h => few_any a n A c V hn hc (hA.below h) ga.p32
  have hFb : Hid (∀ V, Below w.heap.size w V → Calls Tryd.prog 14 #[.slice B m d] V fun e w' => e = .returned (.bool (fewC b)) ∧ w' = V) := Lib.hid fun V h => few_any b m B d V hm hd (hB.below h) gb.p32
  rw [hfa] at hFa
  rw [hf] at hFb
  go_enter Tryd.func7, Tryd.ntmps7
  go_wp2_with (first
    | (go_at_call 13; (with_reducible refine hS.out.mono ?_); rintro e w1 ⟨rfl, hb1⟩)
    | (go_at_call 14; (with_reducible refine (hFa.out _ hb1).mono ?_); rintro e w' ⟨rfl, rfl⟩)
    | (go_at_call 14; (with_reducible refine (hFb.out _ hb1).mono ?_); rintro e w' ⟨rfl, rfl⟩))
  go_ret
  exact ⟨rfl, hb1⟩
set_option maxRecDepth 100000 in
set_option maxHeartbeats 4000000 in
theorem parts_err (a b : List Lk) (n m : Nat) (A B : Option Addr) (c d : Nat) (w : World) (hn : a.length = n) (hm : b.length = m) (hc : n ≤ c) (hd : m ≤ d) (hA : LsAt w A a) (hB : LsAt w B b) (ga : ArgL a) (gb : ArgL b) (hL : Laid w) (hfa : fewC a = true) (hf : fewC b = true) (hp : ¬ PairC a b) :
    Calls Tryd.prog 7 #[.slice A n c, .slice B m d] w fun e w' => e = .returned (.bool true) ∧ Below w.heap.size w w' := by
  have hS : Hid (Calls Tryd.prog 13 #[] w fun e w' => e = .returned (.bool true) ∧ Below w.heap.size w w') := Lib.hid (csane_any w hL)
  have hFa : Hid (∀ V, Below w.heap.size w V → Calls Tryd.prog 14 #[.slice A n c] V fun e w' => e = .returned (.bool (fewC a)) ∧ w' = V) := Lib.hid fun V h => few_any a n A c V hn hc (hA.below h) ga.p32
  have hFb : Hid (∀ V, Below w.heap.size w V → Calls Tryd.prog 14 #[.slice B m d] V fun e w' => e = .returned (.bool (fewC b)) ∧ w' = V) := Lib.hid fun V h => few_any b m B d V hm hd (hB.below h) gb.p32
  rw [hfa] at hFa
  rw [hf] at hFb
  have oka := ga.ok hfa
  have okb := gb.ok hf
  have la := few_len hfa
  have lb := few_len hf
  have hP1 : Hid (∀ V, Below w.heap.size w V → Calls Tryd.prog 17 #[.slice A n c, .slice B m d] V fun e w' => e = .returned (.tuple #[.int .i64 ((partC a b).1 : Int), .bool (partC a b).2.1, .int .i64 (partC a b).2.2]) ∧ Below V.heap.size V w') := Lib.hid fun V h =>
    part_any a b n m A B c d V hn hm (by omega) (by omega) hc hd (hA.below h) (hB.below h) oka okb (hL.below h)
  have hP2 : Hid (∀ V, Below w.heap.size w V → Calls Tryd.prog 17 #[.slice B m d, .slice A n c] V fun e w' => e = .returned (.tuple #[.int .i64 ((partC b a).1 : Int), .bool (partC b a).2.1, .int .i64 (partC b a).2.2]) ∧ Below V.heap.size V w') := Lib.hid fun V h =>
    part_any b a m n B A d c V hm hn (by omega) (by omega) hd hc (hB.below h) (hA.below h) okb oka (hL.below h)
  rw [partC_bad hp] at hP1
  rw [partC_bad (fun h => hp h.symm)] at hP2
  clear hA hB ga gb oka okb
  go_enter Tryd.func7, Tryd.ntmps7
  go_wp2_with (first
    | (go_at_call 13; (with_reducible refine hS.out.mono ?_); rintro e w1 ⟨rfl, hb1⟩)
    | (go_at_call 14; (with_reducible refine (hFa.out _ hb1).mono ?_); rintro e w' ⟨rfl, rfl⟩)
    | (go_at_call 14; (with_reducible refine (hFb.out _ hb1).mono ?_); rintro e w' ⟨rfl, rfl⟩)
    | (go_at_call 17; (with_reducible refine (hP1.out _ hb1).mono ?_); rintro e w2 ⟨rfl, hb2⟩; replace hb2 := hb1.trans (hb2.mono hb1.size))
    | (go_at_call 17; (with_reducible refine (hP2.out _ hb2).mono ?_); rintro e w3 ⟨rfl, hb3⟩; replace hb3 := hb2.trans (hb3.mono hb2.size)))
  go_ret
  exact ⟨rfl, hb3⟩
set_option maxRecDepth 100000 in
set_option maxHeartbeats 4000000 in
theorem parts_none (a b : List Lk) (n m : Nat) (A B : Option Addr) (c d : Nat) (w : World) (hn : a.length = n) (hm : b.length = m) (hc : n ≤ c) (hd : m ≤ d) (hA : LsAt w A a) (hB : LsAt w B b) (ga : ArgL a) (gb : ArgL b) (hL : Laid w) (hfa : fewC a = true) (hf : fewC b = true) (hp : PairC a b) (hdn : diffC a b = none) :
    Calls Tryd.prog 7 #[.slice A n c, .slice B m d] w fun e w' => e = .returned (.bool true) ∧ Below w.heap.size w w' := by
  have hS : Hid (Calls Tryd.prog 13 #[] w fun e w' => e = .returned (.bool true) ∧ Below w.heap.size w w') := Lib.hid (csane_any w hL)
  have hFa : Hid (∀ V, Below w.heap.size w V → Calls Tryd.prog 14 #[.slice A n c] V fun e w' => e = .returned (.bool (fewC a)) ∧ w' = V) := Lib.hid fun V h => few_any a n A c V hn hc (hA.below h) ga.p32
  have hFb : Hid (∀ V, Below w.heap.size w V → Calls Tryd.prog 14 #[.slice B m d] V fun e w' => e = .returned (.bool (fewC b)) ∧ w' = V) := Lib.hid fun V h => few_any b m B d V hm hd (hB.below h) gb.p32
  rw [hfa] at hFa
  rw [hf] at hFb
  have oka := ga.ok hfa
  have okb := gb.ok hf
  have la := few_len hfa
  have lb := few_len hf
  have hP1 : Hid (∀ V, Below w.heap.size w V → Calls Tryd.prog 17 #[.slice A n c, .slice B m d] V fun e w' => e = .returned (.tuple #[.int .i64 ((partC a b).1 : Int), .bool (partC a b).2.1, .int .i64 (partC a b).2.2]) ∧ Below V.heap.size V w') := Lib.hid fun V h =>
    part_any a b n m A B c d V hn hm (by omega) (by omega) hc hd (hA.below h) (hB.below h) oka okb (hL.below h)
  have hP2 : Hid (∀ V, Below w.heap.size w V → Calls Tryd.prog 17 #[.slice B m d, .slice A n c] V fun e w' => e = .returned (.tuple #[.int .i64 ((partC b a).1 : Int), .bool (partC b a).2.1, .int .i64 (partC b a).2.2]) ∧ Below V.heap.size V w') := Lib.hid fun V h =>
    part_any b a m n B A d c V hm hn (by omega) (by omega) hd hc (hB.below h) (hA.below h) okb oka (hL.below h)
  rw [partC_ok hp, hdn] at hP1
  rw [partC_ok hp.symm, diffC_symm b a, hdn] at hP2
  obtain ⟨mn, hmn⟩ : ∃ mn : Nat, min n m = mn := ⟨_, rfl⟩
  have hmi : min (n : Int) (m : Int) = (mn : Int) := by omega
  have hT : a.take mn = b.take mn := by
    have := diffC_take a b hdn
    rw [hn, hm, hmn] at this
    exact this
  have hnc : mn ≤ c := by omega
  have hnd : mn ≤ d := by omega
  have hE : Hid (∀ V, Below w.heap.size w V → Calls Tryd.prog 19 #[.slice A mn c, .slice B mn d] V fun e w' => e = .returned (.bool true) ∧ Below V.heap.size V w') := Lib.hid fun V h => by
    have := same_any (a.take mn) (b.take mn) mn mn A B c d V (by rw [List.length_take]; omega) (by rw [List.length_take]; omega) (by omega) (by omega) (by omega) ((hA.below h).take mn) ((hB.below h).take mn) (fun x hx => ga.p32 x (List.mem_of_mem_take hx)) (fun x hx => gb.p32 x (List.mem_of_mem_take hx))
    rw [hT, decide_eq_true rfl] at this
    exact this
  simp only [Option.getD_none, Option.isSome_none] at hP1 hP2
  clear hA hB ga gb oka okb hT
  go_enter Tryd.func7, Tryd.ntmps7
  go_wp2_with (first
    | (go_at_call 13; (with_reducible refine hS.out.mono ?_); rintro e w1 ⟨rfl, hb1⟩)
    | (go_at_call 14; (with_reducible refine (hFa.out _ hb1).mono ?_); rintro e w' ⟨rfl, rfl⟩)
    | (go_at_call 14; (with_reducible refine (hFb.out _ hb1).mono ?_); rintro e w' ⟨rfl, rfl⟩)
    | (go_at_call 17; (with_reducible refine (hP1.out _ hb1).mono ?_); rintro e w2 ⟨rfl, hb2⟩; replace hb2 := hb1.trans (hb2.mono hb1.size))
    | (go_at_call 17; (with_reducible refine (hP2.out _ hb2).mono ?_); rintro e w3 ⟨rfl, hb3⟩; replace hb3 := hb2.trans (hb3.mono hb2.size)))

  have hPw := Lib.hid (fun dq osq => hb3.trans ((below_regrown w3 dq osq).mono hb3.size))
  have cE := fun dq osq => Calls.regrown_of (hE.out _ (hPw.out dq osq))
  clear hE hP1 hP2 hFa hFb hS
  refine wp_region_quiet_below (by kernel_rfl) (by kernel_rfl) ?_
  repeat (go_big_quiet_step (with_reducible exact cE _ _))
  refine wpQuiet_nil ?_
  intro _ hw2
  obtain ⟨⟨dq, osq⟩, rfl⟩ := hw2
  have HBe := hPw.out dq osq
  go_wp2
  go_ret
  exact ⟨rfl, HBe⟩
set_option maxRecDepth 100000 in
set_option maxHeartbeats 4000000 in
theorem parts_some (a b : List Lk) (n m : Nat) (A B : Option Addr) (c d : Nat) (w : World) (hn : a.length = n) (hm : b.length = m) (hc : n ≤ c) (hd : m ≤ d) (hA : LsAt w A a) (hB : LsAt w B b) (ga : ArgL a) (gb : ArgL b) (hL : Laid w) (hfa : fewC a = true) (hf : fewC b = true) (hp : PairC a b) (i : Nat) (hds : diffC a b = some i) :
    Calls Tryd.prog 7 #[.slice A n c, .slice B m d] w fun e w' => e = .returned (.bool true) ∧ Below w.heap.size w w' := by
  have hS : Hid (Calls Tryd.prog 13 #[] w fun e w' => e = .returned (.bool true) ∧ Below w.heap.size w w') := Lib.hid (csane_any w hL)
  have hFa : Hid (∀ V, Below w.heap.size w V → Calls Tryd.prog 14 #[.slice A n c] V fun e w' => e = .returned (.bool (fewC a)) ∧ w' = V) := Lib.hid fun V h => few_any a n A c V hn hc (hA.below h) ga.p32
  have hFb : Hid (∀ V, Below w.heap.size w V → Calls Tryd.prog 14 #[.slice B m d] V fun e w' => e = .returned (.bool (fewC b)) ∧ w' = V) := Lib.hid fun V h => few_any b m B d V hm hd (hB.below h) gb.p32
  rw [hfa] at hFa
  rw [hf] at hFb
  have oka := ga.ok hfa
  have okb := gb.ok hf
  have la := few_len hfa
  have lb := few_len hf
  have hP1 : Hid (∀ V, Below w.heap.size w V → Calls Tryd.prog 17 #[.slice A n c, .slice B m d] V fun e w' => e = .returned (.tuple #[.int .i64 ((partC a b).1 : Int), .bool (partC a b).2.1, .int .i64 (partC a b).2.2]) ∧ Below V.heap.size V w') := Lib.hid fun V h =>
    part_any a b n m A B c d V hn hm (by omega) (by omega) hc hd (hA.below h) (hB.below h) oka okb (hL.below h)
  have hP2 : Hid (∀ V, Below w.heap.size w V → Calls Tryd.prog 17 #[.slice B m d, .slice A n c] V fun e w' => e = .returned (.tuple #[.int .i64 ((partC b a).1 : Int), .bool (partC b a).2.1, .int .i64 (partC b a).2.2]) ∧ Below V.heap.size V w') := Lib.hid fun V h =>
    part_any b a m n B A d c V hm hn (by omega) (by omega) hd hc (hB.below h) (hA.below h) okb oka (hL.below h)
  rw [partC_ok hp, hds] at hP1
  rw [partC_ok hp.symm, diffC_symm b a, hds] at hP2
  obtain ⟨hT, x, y, hx, hy, hne⟩ := diffC_at a b i hds
  have hin : i < n := by have := (List.getElem?_eq_some_iff.1 hx).1; omega
  have him : i < m := by have := (List.getElem?_eq_some_iff.1 hy).1; omega
  obtain ⟨mn, hmn⟩ : ∃ mn : Nat, min n m = mn := ⟨_, rfl⟩
  have hmi : min (n : Int) (m : Int) = (mn : Int) := by omega
  have hit : i < mn := by omega
  have hnc : i ≤ c := by omega
  have hnd : i ≤ d := by omega
  have hE : Hid (∀ V, Below w.heap.size w V → Calls Tryd.prog 19 #[.slice A i c, .slice B i d] V fun e w' => e = .returned (.bool true) ∧ Below V.heap.size V w') := Lib.hid fun V h => by
    have := same_any (a.take i) (b.take i) i i A B c d V (by rw [List.length_take]; omega) (by rw [List.length_take]; omega) (by omega) (by omega) (by omega) ((hA.below h).take i) ((hB.below h).take i) (fun x hx => ga.p32 x (List.mem_of_mem_take hx)) (fun x hx => gb.p32 x (List.mem_of_mem_take hx))
    rw [hT, decide_eq_true rfl] at this
    exact this
  have px := ga.p32 x (List.mem_of_getElem? hx)
  have py := gb.p32 y (List.mem_of_getElem? hy)
  obtain ⟨b1, o1, b2, o2, A1, c1, A2, c2, hA1, hB1, hV⟩ := two_at hA hB (Below.refl w.heap.size w) hx hy
  subst hA1 hB1
  have i1 := Lib.hid (lk_info' px (.slice A1 x.data.length c1))
  have i2 := Lib.hid (lk_info' py (.slice A2 y.data.length c2))
  have hC : Hid (∀ V, Below w.heap.size w V → Calls Tryd.prog 23 #[.agg (lkC x (.slice A1 x.data.length c1)).toArray, .agg (lkC y (.slice A2 y.data.length c2)).toArray] V fun e w' => e = .returned (.bool false) ∧ Below V.heap.size V w') := Lib.hid fun V h => by
    have := samelink_any x y A1 A2 _ _ c1 c2 V px py rfl rfl (hV V h).2.2.1 (hV V h).2.2.2
    rw [decide_eq_false hne] at this
    exact this
  have hu := Lib.hid Tryd.underlying37
  replace hV := Lib.hid hV
  simp only [Option.getD_some, Option.isSome_some] at hP1 hP2
  clear hA hB ga gb oka okb hT hx hy hds px py
  go_enter Tryd.func7, Tryd.ntmps7
  go_wp2_with (first
    | (go_at_call 13; (with_reducible refine hS.out.mono ?_); rintro e w1 ⟨rfl, hb1⟩)
    | (go_at_call 14; (with_reducible refine (hFa.out _ hb1).mono ?_); rintro e w' ⟨rfl, rfl⟩)
    | (go_at_call 14; (with_reducible refine (hFb.out _ hb1).mono ?_); rintro e w' ⟨rfl, rfl⟩)
    | (go_at_call 17; (with_reducible refine (hP1.out _ hb1).mono ?_); rintro e w2 ⟨rfl, hb2⟩; replace hb2 := hb1.trans (hb2.mono hb1.size))
    | (go_at_call 17; (with_reducible refine (hP2.out _ hb2).mono ?_); rintro e w3 ⟨rfl, hb3⟩; replace hb3 := hb2.trans (hb3.mono hb2.size)))

  have hPw := Lib.hid (fun dq osq => hb3.trans ((below_regrown w3 dq osq).mono hb3.size))
  have cE := fun dq osq => Calls.regrown_of (hE.out _ (hPw.out dq osq))
  have cC := fun dq osq => Calls.regrown_of (hC.out _ (hPw.out dq osq))
  have s1 : Hid (∀ V, (∃ p : Regrown, V = Go.Sort.grow (redrawn w3 p.d) p.os) → V.rangeAt b1 (o1 + i * 35) (lkC x (.slice A1 x.data.length c1))) := Lib.hid (by rintro V ⟨r, rfl⟩; exact (hV.out _ (hPw.out _ _)).1)
  have s2 : Hid (∀ V, (∃ p : Regrown, V = Go.Sort.grow (redrawn w3 p.d) p.os) → V.rangeAt b2 (o2 + i * 35) (lkC y (.slice A2 y.data.length c2))) := Lib.hid (by rintro V ⟨r, rfl⟩; exact (hV.out _ (hPw.out _ _)).2.1)
  clear hE hP1 hP2 hFa hFb hS hC hV
  refine wp_region_quiet_below (by kernel_rfl) (by kernel_rfl) ?_
  repeat (first
    | (go_big_quiet_want; refine quiet_load_mid 37 (.tmp 97) (by rfl) b1 (o1 + i * 35) (by rfl) (lkC x (.slice A1 x.data.length c1)) _ s1.out hu.out (by rfl) i1.out ?_; simp only [Act.put, List.setIfInBounds_toArray, List.set_cons_zero, List.set_cons_succ]; go_big_quiet_on)
    | (go_big_quiet_want; refine quiet_load_mid 37 (.tmp 101) (by rfl) b2 (o2 + i * 35) (by rfl) (lkC y (.slice A2 y.data.length c2)) _ s2.out hu.out (by rfl) i2.out ?_; simp only [Act.put, List.setIfInBounds_toArray, List.set_cons_zero, List.set_cons_succ]; go_big_quiet_on)
    | go_big_quiet_step (first | with_reducible exact cE _ _ | with_reducible exact cC _ _))
  refine wpQuiet_nil ?_
  intro _ hw2
  obtain ⟨⟨dq, osq⟩, rfl⟩ := hw2
  have HBe := hPw.out dq osq
  go_wp2
  go_ret
  exact ⟨rfl, HBe⟩

theorem parts_all (a b : List Lk) (n m : Nat) (A B : Option Addr) (c d : Nat) (w : World) (hn : a.length = n) (hm : b.length = m) (hc : n ≤ c) (hd : m ≤ d) (hA : LsAt w A a) (hB : LsAt w B b) (ga : ArgL a) (gb : ArgL b) (hL : Laid w) :
    Calls Tryd.prog 7 #[.slice A n c, .slice B m d] w fun e w' => e = .returned (.bool true) ∧ Below w.heap.size w w' := by
  cases hfa : fewC a with
  | false => exact parts_fa a b n m A B c d w hn hm hc hd hA hB ga gb hL hfa
  | true =>
    cases hf : fewC b with
    | false => exact parts_fb a b n m A B c d w hn hm hc hd hA hB ga gb hL hfa hf
    | true =>
      by_cases hp : PairC a b
      · cases hd0 : diffC a b with
        | none => exact parts_none a b n m A B c d w hn hm hc hd hA hB ga gb hL hfa hf hp hd0
        | some i => exact parts_some a b n m A B c d w hn hm hc hd hA hB ga gb hL hfa hf hp i hd0
      · exact parts_err a b n m A B c d w hn hm hc hd hA hB ga gb hL hfa hf hp

theorem walk_ChainParts (a0 a1 : List Lk) (A0 : Option Addr) (c0 : Nat) (A1 : Option Addr) (c1 : Nat) (w : World) (lc0 : a0.length ≤ c0) (nc0 : A0 = none → c0 = 0) (ls0 : LsAt w A0 a0) (ar0 : ∀ y ∈ a0, I64 y.node ∧ I64 y.no ∧ y.prev.length = 32)
    (lc1 : a1.length ≤ c1) (nc1 : A1 = none → c1 = 0) (ls1 : LsAt w A1 a1) (ar1 : ∀ y ∈ a1, I64 y.node ∧ I64 y.no ∧ y.prev.length = 32) (hL : Laid w) :
    Calls Tryd.prog 7 #[.slice A0 a0.length c0, .slice A1 a1.length c1] w fun e w' => e = .returned (.bool true) ∧ Below w.heap.size w w' :=
  parts_all a0 a1 _ _ A0 A1 c0 c1 w rfl rfl lc0 lc1 ls0 ls1 ar0 ar1 hL
end Go.Proofs.YthokpfegfnpmhaaDoor
