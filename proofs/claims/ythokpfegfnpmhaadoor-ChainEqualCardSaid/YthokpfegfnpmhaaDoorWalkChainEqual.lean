/- The walk of the statement ChainEqual. -/
import Derived.Test.YthokpfegfnpmhaaDoorChainSane
import Derived.Test.YthokpfegfnpmhaaDoorClash
import Derived.Test.YthokpfegfnpmhaaDoorFewArg
namespace Go.Proofs.YthokpfegfnpmhaaDoor
open Go.RowKit Cdc Sha
set_option linter.unusedVariables false
set_option linter.unusedSimpArgs false

set_option maxRecDepth 100000 in
set_option maxHeartbeats 4000000 in
theorem ceq_fa (a b : List Lk) (n m : Nat) (A B : Option Addr) (c d : Nat) (w : World) (hn : a.length = n) (hm : b.length = m) (hc : n ≤ c) (hd : m ≤ d) (hA : LsAt w A a) (hB : LsAt w B b) (ga : ArgL a) (gb : ArgL b) (hL : Laid w) (hf : fewC a = false) :
    Calls Tryd.prog 5 #[.slice A n c, .slice B m d] w fun e w' => e = .returned (.bool true) ∧ Below w.heap.size w w' := by
  have hS : Hid (Calls Tryd.prog 13 #[] w fun e w' => e = .returned (.bool true) ∧ Below w.heap.size w w') := Lib.hid (csane_any w hL)
  have hFa : Hid (∀ V, Below w.heap.size w V → Calls Tryd.prog 14 #[.slice A n c] V fun e w' => e = .returned (.bool (fewC a)) ∧ w' = V) := Lib.hid fun V h => few_any a n A c V hn hc (hA.below h) ga.p32
  rw [hf] at hFa
  clear hA hB ga gb
  go_enter Tryd.func5, Tryd.ntmps5
  go_wp2_with (first
    | (go_at_call 13; (with_reducible refine hS.out.mono ?_); rintro e w1 ⟨rfl, HB⟩)
    | (go_at_call 14; (with_reducible refine (hFa.out _ HB).mono ?_); rintro e w' ⟨rfl, rfl⟩))
  go_ret
  exact ⟨rfl, HB⟩
set_option maxRecDepth 100000 in
set_option maxHeartbeats 4000000 in
theorem ceq_fb (a b : List Lk) (n m : Nat) (A B : Option Addr) (c d : Nat) (w : World) (hn : a.length = n) (hm : b.length = m) (hc : n ≤ c) (hd : m ≤ d) (hA : LsAt w A a) (hB : LsAt w B b) (ga : ArgL a) (gb : ArgL b) (hL : Laid w) (hfa : fewC a = true) (hf : fewC b = false) :
    Calls Tryd.prog 5 #[.slice A n c, .slice B m d] w fun e w' => e = .returned (.bool true) ∧ Below w.heap.size w w' := by
  have hS : Hid (Calls Tryd.prog 13 #[] w fun e w' => e = .returned (.bool true) ∧ Below w.heap.size w w') := Lib.hid (csane_any w hL)
  have hFa : Hid (∀ V, Below w.heap.size w V → Calls Tryd.prog 14 #[.slice A n c] V fun e w' => e = .returned (.bool (fewC a)) ∧ w' = V) := Lib.hid fun V h => few_any a n A c V hn hc (hA.below h) ga.p32
  have hFb : Hid (∀ V, Below w.heap.size w V → Calls Tryd.prog 14 #[.slice B m d] V fun e w' => e = .returned (.bool (fewC b)) ∧ w' = V) := Lib.hid fun V h => few_any b m B d V hm hd (hB.below h) gb.p32
  rw [hfa] at hFa
  rw [hf] at hFb
  clear hA hB ga gb
  go_enter Tryd.func5, Tryd.ntmps5
  go_wp2_with (first
    | (go_at_call 13; (with_reducible refine hS.out.mono ?_); rintro e w1 ⟨rfl, HB⟩)
    | (go_at_call 14; (with_reducible refine (hFa.out _ HB).mono ?_); rintro e w' ⟨rfl, rfl⟩)
    | (go_at_call 14; (with_reducible refine (hFb.out _ HB).mono ?_); rintro e w' ⟨rfl, rfl⟩))
  go_ret
  exact ⟨rfl, HB⟩
set_option maxRecDepth 100000 in
set_option maxHeartbeats 4000000 in
theorem ceq_ka (a b : List Lk) (n m : Nat) (A B : Option Addr) (c d : Nat) (w : World) (hn : a.length = n) (hm : b.length = m) (hc : n ≤ c) (hd : m ≤ d) (hA : LsAt w A a) (hB : LsAt w B b) (ga : ArgL a) (gb : ArgL b) (hL : Laid w) (hfa : fewC a = true) (hfb : fewC b = true) (k : ¬ OkL a) :
    Calls Tryd.prog 5 #[.slice A n c, .slice B m d] w fun e w' => e = .returned (.bool true) ∧ Below w.heap.size w w' := by
  have hS : Hid (Calls Tryd.prog 13 #[] w fun e w' => e = .returned (.bool true) ∧ Below w.heap.size w w') := Lib.hid (csane_any w hL)
  have hFa : Hid (∀ V, Below w.heap.size w V → Calls Tryd.prog 14 #[.slice A n c] V fun e w' => e = .returned (.bool (fewC a)) ∧ w' = V) := Lib.hid fun V h => few_any a n A c V hn hc (hA.below h) ga.p32
  have hFb : Hid (∀ V, Below w.heap.size w V → Calls Tryd.prog 14 #[.slice B m d] V fun e w' => e = .returned (.bool (fewC b)) ∧ w' = V) := Lib.hid fun V h => few_any b m B d V hm hd (hB.below h) gb.p32
  rw [hfa] at hFa
  rw [hfb] at hFb
  have oka := ga.ok hfa
  have la := few_len hfa
  have okb := gb.ok hfb
  have lb := few_len hfb
  have hKa : Hid (∀ V, Below w.heap.size w V → Calls Tryd.prog 21 #[.slice A n c] V fun e w' => e = .returned (.int .i64 (ckC a)) ∧ Below V.heap.size V w') := Lib.hid fun V h => check_any8 a n A c V hn (by omega) hc (hA.below h) oka (hL.below h)
  rw [ckC_bad k] at hKa
  clear hA hB ga gb
  go_enter Tryd.func5, Tryd.ntmps5
  go_wp2_with (first
    | (go_at_call 13; (with_reducible refine hS.out.mono ?_); rintro e w1 ⟨rfl, HB⟩)
    | (go_at_call 14; (with_reducible refine (hFa.out _ HB).mono ?_); rintro e w' ⟨rfl, rfl⟩)
    | (go_at_call 14; (with_reducible refine (hFb.out _ HB).mono ?_); rintro e w' ⟨rfl, rfl⟩)
    | (go_at_call 21; (with_reducible refine (hKa.out _ HB).mono ?_); rintro e w2 ⟨rfl, hb⟩; replace HB := HB.trans (hb.mono HB.size); clear hb))
  go_ret
  exact ⟨rfl, HB⟩
set_option maxRecDepth 100000 in
set_option maxHeartbeats 4000000 in
theorem ceq_kb (a b : List Lk) (n m : Nat) (A B : Option Addr) (c d : Nat) (w : World) (hn : a.length = n) (hm : b.length = m) (hc : n ≤ c) (hd : m ≤ d) (hA : LsAt w A a) (hB : LsAt w B b) (ga : ArgL a) (gb : ArgL b) (hL : Laid w) (hfa : fewC a = true) (hfb : fewC b = true) (ka : OkL a) (k : ¬ OkL b) :
    Calls Tryd.prog 5 #[.slice A n c, .slice B m d] w fun e w' => e = .returned (.bool true) ∧ Below w.heap.size w w' := by
  have hS : Hid (Calls Tryd.prog 13 #[] w fun e w' => e = .returned (.bool true) ∧ Below w.heap.size w w') := Lib.hid (csane_any w hL)
  have hFa : Hid (∀ V, Below w.heap.size w V → Calls Tryd.prog 14 #[.slice A n c] V fun e w' => e = .returned (.bool (fewC a)) ∧ w' = V) := Lib.hid fun V h => few_any a n A c V hn hc (hA.below h) ga.p32
  have hFb : Hid (∀ V, Below w.heap.size w V → Calls Tryd.prog 14 #[.slice B m d] V fun e w' => e = .returned (.bool (fewC b)) ∧ w' = V) := Lib.hid fun V h => few_any b m B d V hm hd (hB.below h) gb.p32
  rw [hfa] at hFa
  rw [hfb] at hFb
  have oka := ga.ok hfa
  have la := few_len hfa
  have okb := gb.ok hfb
  have lb := few_len hfb
  have hKa : Hid (∀ V, Below w.heap.size w V → Calls Tryd.prog 21 #[.slice A n c] V fun e w' => e = .returned (.int .i64 (ckC a)) ∧ Below V.heap.size V w') := Lib.hid fun V h => check_any8 a n A c V hn (by omega) hc (hA.below h) oka (hL.below h)
  have hKb : Hid (∀ V, Below w.heap.size w V → Calls Tryd.prog 21 #[.slice B m d] V fun e w' => e = .returned (.int .i64 (ckC b)) ∧ Below V.heap.size V w') := Lib.hid fun V h => check_any8 b m B d V hm (by omega) hd (hB.below h) okb (hL.below h)
  rw [ckC_ok ka] at hKa
  rw [ckC_bad k] at hKb
  clear hA hB ga gb
  go_enter Tryd.func5, Tryd.ntmps5
  go_wp2_with (first
    | (go_at_call 13; (with_reducible refine hS.out.mono ?_); rintro e w1 ⟨rfl, HB⟩)
    | (go_at_call 14; (with_reducible refine (hFa.out _ HB).mono ?_); rintro e w' ⟨rfl, rfl⟩)
    | (go_at_call 14; (with_reducible refine (hFb.out _ HB).mono ?_); rintro e w' ⟨rfl, rfl⟩)
    | (go_at_call 21; (with_reducible refine (hKa.out _ HB).mono ?_); rintro e w2 ⟨rfl, hb⟩; replace HB := HB.trans (hb.mono HB.size); clear hb)
    | (go_at_call 21; (with_reducible refine (hKb.out _ HB).mono ?_); rintro e w3 ⟨rfl, hb⟩; replace HB := HB.trans (hb.mono HB.size); clear hb))
  go_ret
  exact ⟨rfl, HB⟩
set_option maxRecDepth 100000 in
set_option maxHeartbeats 4000000 in
theorem ceq_len (a b : List Lk) (n m : Nat) (A B : Option Addr) (c d : Nat) (w : World) (hn : a.length = n) (hm : b.length = m) (hc : n ≤ c) (hd : m ≤ d) (hA : LsAt w A a) (hB : LsAt w B b) (ga : ArgL a) (gb : ArgL b) (hL : Laid w) (hfa : fewC a = true) (hfb : fewC b = true) (ka : OkL a) (kb : OkL b) (k : n ≠ m) :
    Calls Tryd.prog 5 #[.slice A n c, .slice B m d] w fun e w' => e = .returned (.bool true) ∧ Below w.heap.size w w' := by
  have hS : Hid (Calls Tryd.prog 13 #[] w fun e w' => e = .returned (.bool true) ∧ Below w.heap.size w w') := Lib.hid (csane_any w hL)
  have hFa : Hid (∀ V, Below w.heap.size w V → Calls Tryd.prog 14 #[.slice A n c] V fun e w' => e = .returned (.bool (fewC a)) ∧ w' = V) := Lib.hid fun V h => few_any a n A c V hn hc (hA.below h) ga.p32
  have hFb : Hid (∀ V, Below w.heap.size w V → Calls Tryd.prog 14 #[.slice B m d] V fun e w' => e = .returned (.bool (fewC b)) ∧ w' = V) := Lib.hid fun V h => few_any b m B d V hm hd (hB.below h) gb.p32
  rw [hfa] at hFa
  rw [hfb] at hFb
  have oka := ga.ok hfa
  have la := few_len hfa
  have okb := gb.ok hfb
  have lb := few_len hfb
  have hKa : Hid (∀ V, Below w.heap.size w V → Calls Tryd.prog 21 #[.slice A n c] V fun e w' => e = .returned (.int .i64 (ckC a)) ∧ Below V.heap.size V w') := Lib.hid fun V h => check_any8 a n A c V hn (by omega) hc (hA.below h) oka (hL.below h)
  have hKb : Hid (∀ V, Below w.heap.size w V → Calls Tryd.prog 21 #[.slice B m d] V fun e w' => e = .returned (.int .i64 (ckC b)) ∧ Below V.heap.size V w') := Lib.hid fun V h => check_any8 b m B d V hm (by omega) hd (hB.below h) okb (hL.below h)
  rw [ckC_ok ka] at hKa
  rw [ckC_ok kb] at hKb
  have e1 : ((n : Int) != (m : Int)) = true := by simp; omega
  clear k
  clear hA hB ga gb
  go_enter Tryd.func5, Tryd.ntmps5
  go_wp2_with (first
    | (go_at_call 13; (with_reducible refine hS.out.mono ?_); rintro e w1 ⟨rfl, HB⟩)
    | (go_at_call 14; (with_reducible refine (hFa.out _ HB).mono ?_); rintro e w' ⟨rfl, rfl⟩)
    | (go_at_call 14; (with_reducible refine (hFb.out _ HB).mono ?_); rintro e w' ⟨rfl, rfl⟩)
    | (go_at_call 21; (with_reducible refine (hKa.out _ HB).mono ?_); rintro e w2 ⟨rfl, hb⟩; replace HB := HB.trans (hb.mono HB.size); clear hb)
    | (go_at_call 21; (with_reducible refine (hKb.out _ HB).mono ?_); rintro e w3 ⟨rfl, hb⟩; replace HB := HB.trans (hb.mono HB.size); clear hb))
  go_ret
  exact ⟨rfl, HB⟩
set_option maxRecDepth 100000 in
set_option maxHeartbeats 4000000 in
theorem ceq_head (a b : List Lk) (n m : Nat) (A B : Option Addr) (c d : Nat) (w : World) (hn : a.length = n) (hm : b.length = m) (hc : n ≤ c) (hd : m ≤ d) (hA : LsAt w A a) (hB : LsAt w B b) (ga : ArgL a) (gb : ArgL b) (hL : Laid w) (hfa : fewC a = true) (hfb : fewC b = true) (ka : OkL a) (kb : OkL b) (k0 : n = m) (k : hdC a ≠ hdC b) :
    Calls Tryd.prog 5 #[.slice A n c, .slice B m d] w fun e w' => e = .returned (.bool true) ∧ Below w.heap.size w w' := by
  have hS : Hid (Calls Tryd.prog 13 #[] w fun e w' => e = .returned (.bool true) ∧ Below w.heap.size w w') := Lib.hid (csane_any w hL)
  have hFa : Hid (∀ V, Below w.heap.size w V → Calls Tryd.prog 14 #[.slice A n c] V fun e w' => e = .returned (.bool (fewC a)) ∧ w' = V) := Lib.hid fun V h => few_any a n A c V hn hc (hA.below h) ga.p32
  have hFb : Hid (∀ V, Below w.heap.size w V → Calls Tryd.prog 14 #[.slice B m d] V fun e w' => e = .returned (.bool (fewC b)) ∧ w' = V) := Lib.hid fun V h => few_any b m B d V hm hd (hB.below h) gb.p32
  rw [hfa] at hFa
  rw [hfb] at hFb
  have oka := ga.ok hfa
  have la := few_len hfa
  have okb := gb.ok hfb
  have lb := few_len hfb
  have hKa : Hid (∀ V, Below w.heap.size w V → Calls Tryd.prog 21 #[.slice A n c] V fun e w' => e = .returned (.int .i64 (ckC a)) ∧ Below V.heap.size V w') := Lib.hid fun V h => check_any8 a n A c V hn (by omega) hc (hA.below h) oka (hL.below h)
  have hKb : Hid (∀ V, Below w.heap.size w V → Calls Tryd.prog 21 #[.slice B m d] V fun e w' => e = .returned (.int .i64 (ckC b)) ∧ Below V.heap.size V w') := Lib.hid fun V h => check_any8 b m B d V hm (by omega) hd (hB.below h) okb (hL.below h)
  rw [ckC_ok ka] at hKa
  rw [ckC_ok kb] at hKb
  have hHa : Hid (∀ V, Below w.heap.size w V → Calls Tryd.prog 20 #[.slice A n c] V fun e w' => e = .returned (.agg ((hdC a).map by1).toArray) ∧ Below V.heap.size V w') := Lib.hid fun V h => head_any a n A c V hn (by omega) hc (hA.below h) oka (hL.below h)
  have hHb : Hid (∀ V, Below w.heap.size w V → Calls Tryd.prog 20 #[.slice B m d] V fun e w' => e = .returned (.agg ((hdC b).map by1).toArray) ∧ Below V.heap.size V w') := Lib.hid fun V h => head_any b m B d V hm (by omega) hd (hB.below h) okb (hL.below h)
  have hp := hdC_len a
  have hq := hdC_len b
  have q0 : ∀ V, (Op.equalIn 10000 35 (.agg ((hdC a).map by1).toArray) (.agg ((hdC b).map by1).toArray)).run Tryd.prog V = .ok (decide (hdC a = hdC b)) V := eq_dg (hdC a) (hdC b) hp hq
  rw [decide_eq_false k] at q0
  subst k0
  have e1 : ((n : Int) != (n : Int)) = false := by simp
  clear hp hq k
  generalize hdC a = p at *
  generalize hdC b = q at *
  clear hA hB ga gb
  go_enter Tryd.func5, Tryd.ntmps5
  go_wp2_with (first
    | (go_at_call 13; (with_reducible refine hS.out.mono ?_); rintro e w1 ⟨rfl, HB⟩)
    | (go_at_call 14; (with_reducible refine (hFa.out _ HB).mono ?_); rintro e w' ⟨rfl, rfl⟩)
    | (go_at_call 14; (with_reducible refine (hFb.out _ HB).mono ?_); rintro e w' ⟨rfl, rfl⟩)
    | (go_at_call 21; (with_reducible refine (hKa.out _ HB).mono ?_); rintro e w2 ⟨rfl, hb⟩; replace HB := HB.trans (hb.mono HB.size); clear hb)
    | (go_at_call 21; (with_reducible refine (hKb.out _ HB).mono ?_); rintro e w3 ⟨rfl, hb⟩; replace HB := HB.trans (hb.mono HB.size); clear hb)
    | (go_at_call 20; (with_reducible refine (hHa.out _ HB).mono ?_); rintro e w4 ⟨rfl, hb⟩; replace HB := HB.trans (hb.mono HB.size); clear hb)
    | (go_at_call 20; (with_reducible refine (hHb.out _ HB).mono ?_); rintro e w5 ⟨rfl, hb⟩; replace HB := HB.trans (hb.mono HB.size); clear hb))
  go_ret
  exact ⟨rfl, HB⟩
set_option maxRecDepth 100000 in
set_option maxHeartbeats 4000000 in
theorem ceq_same (a b : List Lk) (n m : Nat) (A B : Option Addr) (c d : Nat) (w : World) (hn : a.length = n) (hm : b.length = m) (hc : n ≤ c) (hd : m ≤ d) (hA : LsAt w A a) (hB : LsAt w B b) (ga : ArgL a) (gb : ArgL b) (hL : Laid w) (hfa : fewC a = true) (hfb : fewC b = true) (ka : OkL a) (kb : OkL b) (k0 : n = m) (k : hdC a = hdC b) (hab : a = b) :
    Calls Tryd.prog 5 #[.slice A n c, .slice B m d] w fun e w' => e = .returned (.bool true) ∧ Below w.heap.size w w' := by
  have hS : Hid (Calls Tryd.prog 13 #[] w fun e w' => e = .returned (.bool true) ∧ Below w.heap.size w w') := Lib.hid (csane_any w hL)
  have hFa : Hid (∀ V, Below w.heap.size w V → Calls Tryd.prog 14 #[.slice A n c] V fun e w' => e = .returned (.bool (fewC a)) ∧ w' = V) := Lib.hid fun V h => few_any a n A c V hn hc (hA.below h) ga.p32
  have hFb : Hid (∀ V, Below w.heap.size w V → Calls Tryd.prog 14 #[.slice B m d] V fun e w' => e = .returned (.bool (fewC b)) ∧ w' = V) := Lib.hid fun V h => few_any b m B d V hm hd (hB.below h) gb.p32
  rw [hfa] at hFa
  rw [hfb] at hFb
  have oka := ga.ok hfa
  have la := few_len hfa
  have okb := gb.ok hfb
  have lb := few_len hfb
  have hKa : Hid (∀ V, Below w.heap.size w V → Calls Tryd.prog 21 #[.slice A n c] V fun e w' => e = .returned (.int .i64 (ckC a)) ∧ Below V.heap.size V w') := Lib.hid fun V h => check_any8 a n A c V hn (by omega) hc (hA.below h) oka (hL.below h)
  have hKb : Hid (∀ V, Below w.heap.size w V → Calls Tryd.prog 21 #[.slice B m d] V fun e w' => e = .returned (.int .i64 (ckC b)) ∧ Below V.heap.size V w') := Lib.hid fun V h => check_any8 b m B d V hm (by omega) hd (hB.below h) okb (hL.below h)
  rw [ckC_ok ka] at hKa
  rw [ckC_ok kb] at hKb
  have hHa : Hid (∀ V, Below w.heap.size w V → Calls Tryd.prog 20 #[.slice A n c] V fun e w' => e = .returned (.agg ((hdC a).map by1).toArray) ∧ Below V.heap.size V w') := Lib.hid fun V h => head_any a n A c V hn (by omega) hc (hA.below h) oka (hL.below h)
  have hHb : Hid (∀ V, Below w.heap.size w V → Calls Tryd.prog 20 #[.slice B m d] V fun e w' => e = .returned (.agg ((hdC b).map by1).toArray) ∧ Below V.heap.size V w') := Lib.hid fun V h => head_any b m B d V hm (by omega) hd (hB.below h) okb (hL.below h)
  have hp := hdC_len a
  have hq := hdC_len b
  have q0 : ∀ V, (Op.equalIn 10000 35 (.agg ((hdC a).map by1).toArray) (.agg ((hdC b).map by1).toArray)).run Tryd.prog V = .ok (decide (hdC a = hdC b)) V := eq_dg (hdC a) (hdC b) hp hq
  rw [decide_eq_true k] at q0
  subst k0
  have e1 : ((n : Int) != (n : Int)) = false := by simp
  have hE : Hid (∀ V, Below w.heap.size w V → Calls Tryd.prog 19 #[.slice A n c, .slice B n d] V fun e w' => e = .returned (.bool (decide (a = b))) ∧ Below V.heap.size V w') := Lib.hid fun V h =>
    same_any a b n n A B c d V hn hm (by omega) hc hd (hA.below h) (hB.below h) ga.p32 gb.p32
  rw [decide_eq_true hab] at hE
  rw [← k] at q0 hHb
  clear hp hq k hab
  generalize hdC a = p at *
  clear hA hB ga gb
  go_enter Tryd.func5, Tryd.ntmps5
  go_wp2_with (first
    | (go_at_call 13; (with_reducible refine hS.out.mono ?_); rintro e w1 ⟨rfl, HB⟩)
    | (go_at_call 14; (with_reducible refine (hFa.out _ HB).mono ?_); rintro e w' ⟨rfl, rfl⟩)
    | (go_at_call 14; (with_reducible refine (hFb.out _ HB).mono ?_); rintro e w' ⟨rfl, rfl⟩)
    | (go_at_call 21; (with_reducible refine (hKa.out _ HB).mono ?_); rintro e w2 ⟨rfl, hb⟩; replace HB := HB.trans (hb.mono HB.size); clear hb)
    | (go_at_call 21; (with_reducible refine (hKb.out _ HB).mono ?_); rintro e w3 ⟨rfl, hb⟩; replace HB := HB.trans (hb.mono HB.size); clear hb)
    | (go_at_call 20; (with_reducible refine (hHa.out _ HB).mono ?_); rintro e w4 ⟨rfl, hb⟩; replace HB := HB.trans (hb.mono HB.size); clear hb)
    | (go_at_call 20; (with_reducible refine (hHb.out _ HB).mono ?_); rintro e w5 ⟨rfl, hb⟩; replace HB := HB.trans (hb.mono HB.size); clear hb)
    | (go_at_call 19; (with_reducible refine (hE.out _ HB).mono ?_); rintro e w6 ⟨rfl, hb⟩; replace HB := HB.trans (hb.mono HB.size); clear hb))
  go_ret
  exact ⟨rfl, HB⟩
set_option maxRecDepth 100000 in
set_option maxHeartbeats 4000000 in
theorem ceq_loop (a b : List Lk) (n m : Nat) (A B : Option Addr) (c d : Nat) (w : World) (hn : a.length = n) (hm : b.length = m) (hc : n ≤ c) (hd : m ≤ d) (hA : LsAt w A a) (hB : LsAt w B b) (ga : ArgL a) (gb : ArgL b) (hL : Laid w) (hfa : fewC a = true) (hfb : fewC b = true) (ka : OkL a) (kb : OkL b) (k0 : n = m) (k : hdC a = hdC b) (hab : a ≠ b) :
    Calls Tryd.prog 5 #[.slice A n c, .slice B m d] w fun e w' => e = .returned (.bool true) ∧ Below w.heap.size w w' := by
  have hS : Hid (Calls Tryd.prog 13 #[] w fun e w' => e = .returned (.bool true) ∧ Below w.heap.size w w') := Lib.hid (csane_any w hL)
  have hFa : Hid (∀ V, Below w.heap.size w V → Calls Tryd.prog 14 #[.slice A n c] V fun e w' => e = .returned (.bool (fewC a)) ∧ w' = V) := Lib.hid fun V h => few_any a n A c V hn hc (hA.below h) ga.p32
  have hFb : Hid (∀ V, Below w.heap.size w V → Calls Tryd.prog 14 #[.slice B m d] V fun e w' => e = .returned (.bool (fewC b)) ∧ w' = V) := Lib.hid fun V h => few_any b m B d V hm hd (hB.below h) gb.p32
  rw [hfa] at hFa
  rw [hfb] at hFb
  have oka := ga.ok hfa
  have la := few_len hfa
  have okb := gb.ok hfb
  have lb := few_len hfb
  have hKa : Hid (∀ V, Below w.heap.size w V → Calls Tryd.prog 21 #[.slice A n c] V fun e w' => e = .returned (.int .i64 (ckC a)) ∧ Below V.heap.size V w') := Lib.hid fun V h => check_any8 a n A c V hn (by omega) hc (hA.below h) oka (hL.below h)
  have hKb : Hid (∀ V, Below w.heap.size w V → Calls Tryd.prog 21 #[.slice B m d] V fun e w' => e = .returned (.int .i64 (ckC b)) ∧ Below V.heap.size V w') := Lib.hid fun V h => check_any8 b m B d V hm (by omega) hd (hB.below h) okb (hL.below h)
  rw [ckC_ok ka] at hKa
  rw [ckC_ok kb] at hKb
  have hHa : Hid (∀ V, Below w.heap.size w V → Calls Tryd.prog 20 #[.slice A n c] V fun e w' => e = .returned (.agg ((hdC a).map by1).toArray) ∧ Below V.heap.size V w') := Lib.hid fun V h => head_any a n A c V hn (by omega) hc (hA.below h) oka (hL.below h)
  have hHb : Hid (∀ V, Below w.heap.size w V → Calls Tryd.prog 20 #[.slice B m d] V fun e w' => e = .returned (.agg ((hdC b).map by1).toArray) ∧ Below V.heap.size V w') := Lib.hid fun V h => head_any b m B d V hm (by omega) hd (hB.below h) okb (hL.below h)
  have hp := hdC_len a
  have hq := hdC_len b
  have q0 : ∀ V, (Op.equalIn 10000 35 (.agg ((hdC a).map by1).toArray) (.agg ((hdC b).map by1).toArray)).run Tryd.prog V = .ok (decide (hdC a = hdC b)) V := eq_dg (hdC a) (hdC b) hp hq
  rw [decide_eq_true k] at q0
  subst k0
  have e1 : ((n : Int) != (n : Int)) = false := by simp
  have hE : Hid (∀ V, Below w.heap.size w V → Calls Tryd.prog 19 #[.slice A n c, .slice B n d] V fun e w' => e = .returned (.bool (decide (a = b))) ∧ Below V.heap.size V w') := Lib.hid fun V h =>
    same_any a b n n A B c d V hn hm (by omega) hc hd (hA.below h) (hB.below h) ga.p32 gb.p32
  rw [decide_eq_false hab] at hE
  have hC : Hid (∀ i, i ≤ n → ∀ V, Below w.heap.size w V → Calls Tryd.prog 22 #[.slice A i c, .slice B i d] V fun e w' => e = .returned (.bool (clB (a.take i) (b.take i))) ∧ Below V.heap.size V w') := Lib.hid fun i hi V h =>
    clash_any (a.take i) (b.take i) i i A B c d V (by rw [List.length_take]; omega) (by rw [List.length_take]; omega) (by omega) (by omega) (by omega) (by omega) ((hA.below h).take i) ((hB.below h).take i) (fun x hx => oka x (List.mem_of_mem_take hx)) (fun x hx => okb x (List.mem_of_mem_take hx)) (hL.below h)
  have hfin : Hid ((∀ j, 1 ≤ j → j ≤ n → clB (a.take j) (b.take j) = false) → a = b) := Lib.hid fun h => by
    have := chains_equal oka okb ka kb (by omega) (fun i h1 h2 hcl => by
      have h3 := h i h1 (by omega)
      exact clB_not h3 hcl) n (by omega) (by rw [List.take_of_length_le (by omega), List.take_of_length_le (by omega)]; exact k)
    rw [List.take_of_length_le (by omega), List.take_of_length_le (by omega)] at this
    exact this
  replace hab := Lib.hid hab
  have hn16 : n ≤ 16 := by omega
  rw [← k] at q0 hHb
  clear hp hq k hn hm oka okb ka kb hfa hfb
  generalize hdC a = p at *
  clear hA hB ga gb
  go_enter Tryd.func5, Tryd.ntmps5
  go_wp2_with (first
    | (go_at_call 13; (with_reducible refine hS.out.mono ?_); rintro e w1 ⟨rfl, HB⟩)
    | (go_at_call 14; (with_reducible refine (hFa.out _ HB).mono ?_); rintro e w' ⟨rfl, rfl⟩)
    | (go_at_call 14; (with_reducible refine (hFb.out _ HB).mono ?_); rintro e w' ⟨rfl, rfl⟩)
    | (go_at_call 21; (with_reducible refine (hKa.out _ HB).mono ?_); rintro e w2 ⟨rfl, hb⟩; replace HB := HB.trans (hb.mono HB.size); clear hb)
    | (go_at_call 21; (with_reducible refine (hKb.out _ HB).mono ?_); rintro e w3 ⟨rfl, hb⟩; replace HB := HB.trans (hb.mono HB.size); clear hb)
    | (go_at_call 20; (with_reducible refine (hHa.out _ HB).mono ?_); rintro e w4 ⟨rfl, hb⟩; replace HB := HB.trans (hb.mono HB.size); clear hb)
    | (go_at_call 20; (with_reducible refine (hHb.out _ HB).mono ?_); rintro e w5 ⟨rfl, hb⟩; replace HB := HB.trans (hb.mono HB.size); clear hb)
    | (go_at_call 19; (with_reducible refine (hE.out _ HB).mono ?_); rintro e w6 ⟨rfl, hb⟩; replace HB := HB.trans (hb.mono HB.size); clear hb))
  go_loopw [5] (fun s wr => ∃ i : Nat, 1 ≤ i ∧ i ≤ n + 1 ∧ s = .int .i64 i ∧ Hid (∀ j, 1 ≤ j → j < i → clB (a.take j) (b.take j) = false) ∧ Hid (Below w.heap.size w wr)) (fun s _ => n + 1 - (intOf s).toNat)
  case atStart => exact ⟨1, Nat.le_refl _, by omega, rfl, Lib.hid (fun j h1 h2 => by omega), Lib.hid HB⟩
  case round =>
    obtain ⟨i, hi1, hi, rfl, hno, hb⟩ := hrel
    by_cases hlt : i ≤ n
    · have hic : i ≤ c := by omega
      have hid : i ≤ d := by omega
      have hcl := hC.out i hlt
      obtain ⟨t, ht⟩ : ∃ t, clB (a.take i) (b.take i) = t := ⟨_, rfl⟩
      rw [ht] at hcl
      have hbb := Lib.hid (fun dq os => hb.out.trans ((below_regrown wr dq os).mono hb.out.size))
      have cC := fun dq os => Calls.regrown_of (hcl _ (hbb.out dq os))
      have hno2 : t = false → Hid (∀ j, 1 ≤ j → j < i + 1 → clB (a.take j) (b.take j) = false) := fun e => Lib.hid fun j h1 h2 => by
        by_cases ej : j = i
        · subst ej; rw [ht, e]
        · exact hno.out j h1 (by omega)
      replace hno2 := Lib.hid hno2
      have hi2 := Lib.hid (show 1 ≤ i + 1 ∧ i + 1 ≤ n + 1 by omega)
      clear hno ht hcl
      go_wp2_with fail
      refine wp_region_quiet_below (by kernel_rfl) (by kernel_rfl) ?_
      repeat (go_big_quiet_step (with_reducible exact cC _ _))
      refine wpQuiet_nil ?_
      intro _ hw2
      obtain ⟨⟨dq, osq⟩, rfl⟩ := hw2
      have HBe := hbb.out dq osq
      clear cC
      cases t
      · have hn3 := hno2.out rfl
        replace HBe := Lib.hid HBe
        go_wp2
        go_roundw
        case rel => exact ⟨i + 1, hi2.out.1, hi2.out.2, by go_num, hn3, HBe⟩
        case measure =>
          have := hi2.out
          simp [intOf]
          omega
      · go_wp2
        go_ret
        exact ⟨rfl, HBe⟩
    · exact absurd (hfin.out (fun j h1 h2 => hno.out j h1 (by omega))) hab.out

theorem equal_all (a b : List Lk) (n m : Nat) (A B : Option Addr) (c d : Nat) (w : World) (hn : a.length = n) (hm : b.length = m) (hc : n ≤ c) (hd : m ≤ d) (hA : LsAt w A a) (hB : LsAt w B b) (ga : ArgL a) (gb : ArgL b) (hL : Laid w) :
    Calls Tryd.prog 5 #[.slice A n c, .slice B m d] w fun e w' => e = .returned (.bool true) ∧ Below w.heap.size w w' := by
  cases hfa : fewC a with
  | false => exact ceq_fa a b n m A B c d w hn hm hc hd hA hB ga gb hL hfa
  | true =>
    cases hfb : fewC b with
    | false => exact ceq_fb a b n m A B c d w hn hm hc hd hA hB ga gb hL hfa hfb
    | true =>
      by_cases ka : OkL a
      · by_cases kb : OkL b
        · by_cases k0 : n = m
          · by_cases k : hdC a = hdC b
            · by_cases hab : a = b
              · exact ceq_same a b n m A B c d w hn hm hc hd hA hB ga gb hL hfa hfb ka kb k0 k hab
              · exact ceq_loop a b n m A B c d w hn hm hc hd hA hB ga gb hL hfa hfb ka kb k0 k hab
            · exact ceq_head a b n m A B c d w hn hm hc hd hA hB ga gb hL hfa hfb ka kb k0 k
          · exact ceq_len a b n m A B c d w hn hm hc hd hA hB ga gb hL hfa hfb ka kb k0
        · exact ceq_kb a b n m A B c d w hn hm hc hd hA hB ga gb hL hfa hfb ka kb
      · exact ceq_ka a b n m A B c d w hn hm hc hd hA hB ga gb hL hfa hfb ka
theorem walk_ChainEqual (a0 a1 : List Lk) (A0 : Option Addr) (c0 : Nat) (A1 : Option Addr) (c1 : Nat) (w : World) (lc0 : a0.length ≤ c0) (nc0 : A0 = none → c0 = 0) (ls0 : LsAt w A0 a0) (ar0 : ∀ y ∈ a0, I64 y.node ∧ I64 y.no ∧ y.prev.length = 32)
    (lc1 : a1.length ≤ c1) (nc1 : A1 = none → c1 = 0) (ls1 : LsAt w A1 a1) (ar1 : ∀ y ∈ a1, I64 y.node ∧ I64 y.no ∧ y.prev.length = 32) (hL : Laid w) :
    Calls Tryd.prog 5 #[.slice A0 a0.length c0, .slice A1 a1.length c1] w fun e w' => e = .returned (.bool true) ∧ Below w.heap.size w w' :=
  equal_all a0 a1 _ _ A0 A1 c0 c1 w rfl rfl lc0 lc1 ls0 ls1 ar0 ar1 hL
end Go.Proofs.YthokpfegfnpmhaaDoor
