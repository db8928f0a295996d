/- The walk of the statement ChainAddSpec. -/
import Derived.Test.YthokpfegfnpmhaaDoorChainSane
import Derived.Test.YthokpfegfnpmhaaDoorChF
import Derived.Test.YthokpfegfnpmhaaDoorRefAddB
import Derived.Test.YthokpfegfnpmhaaDoorRefPart
namespace Go.Proofs.YthokpfegfnpmhaaDoor
open Go.RowKit Cdc Sha
set_option linter.unusedVariables false
set_option linter.unusedSimpArgs false

set_option maxRecDepth 100000 in
set_option maxHeartbeats 4000000 in
theorem cas_fa (a b : List Lk) (node : Int) (xs : List UInt8) (n m : Nat) (A B : Option Addr) (c d : Nat) (Ad : Option Addr) (nd cd : Nat) (w : World) (hn : a.length = n) (hm : b.length = m) (hx : xs.length = nd) (hc : n ≤ c) (hd : m ≤ d) (h0c : A = none → c = 0) (hA : LsAt w A a) (hB : LsAt w B b) (hdx : DatAt w (.slice Ad nd cd) xs) (hxd : AtO w Ad xs) (ga : ArgL a) (gb : ArgL b) (hL : Laid w) (hf : fewC a = false) :
    Calls Tryd.prog 3 #[.slice A n c, .slice B m d, .int .i64 node, .slice Ad nd cd] w fun e w' => e = .returned (.bool true) ∧ Below w.heap.size w w' := by
  have hS : Hid (Calls Tryd.prog 13 #[] w fun e w' => e = .returned (.bool true) ∧ Below w.heap.size w w') := Lib.hid (csane_any w hL)
  have hFa : Hid (∀ V, Below w.heap.size w V → Calls Tryd.prog 14 #[.slice A n c] V fun e w' => e = .returned (.bool (fewC a)) ∧ w' = V) := Lib.hid fun V h => few_any a n A c V hn hc (hA.below h) ga.p32
  rw [hf] at hFa
  clear hA hB ga gb hdx hxd
  go_enter Tryd.func3, Tryd.ntmps3
  go_wp2_with (first
    | (go_at_call 13; (with_reducible refine hS.out.mono ?_); rintro e w1 ⟨rfl, HB⟩)
    | (go_at_call 14; (with_reducible refine (hFa.out _ HB).mono ?_); rintro e w' ⟨rfl, rfl⟩))
  go_ret
  exact ⟨rfl, HB⟩
set_option maxRecDepth 100000 in
set_option maxHeartbeats 4000000 in
theorem cas_fb (a b : List Lk) (node : Int) (xs : List UInt8) (n m : Nat) (A B : Option Addr) (c d : Nat) (Ad : Option Addr) (nd cd : Nat) (w : World) (hn : a.length = n) (hm : b.length = m) (hx : xs.length = nd) (hc : n ≤ c) (hd : m ≤ d) (h0c : A = none → c = 0) (hA : LsAt w A a) (hB : LsAt w B b) (hdx : DatAt w (.slice Ad nd cd) xs) (hxd : AtO w Ad xs) (ga : ArgL a) (gb : ArgL b) (hL : Laid w) (hfa : fewC a = true) (hf : fewC b = false) :
    Calls Tryd.prog 3 #[.slice A n c, .slice B m d, .int .i64 node, .slice Ad nd cd] w fun e w' => e = .returned (.bool true) ∧ Below w.heap.size w w' := by
  have hS : Hid (Calls Tryd.prog 13 #[] w fun e w' => e = .returned (.bool true) ∧ Below w.heap.size w w') := Lib.hid (csane_any w hL)
  have hFa : Hid (∀ V, Below w.heap.size w V → Calls Tryd.prog 14 #[.slice A n c] V fun e w' => e = .returned (.bool (fewC a)) ∧ w' = V) := Lib.hid fun V h => few_any a n A c V hn hc (hA.below h) ga.p32
  have hFb : Hid (∀ V, Below w.heap.size w V → Calls Tryd.prog 14 #[.slice B m d] V fun e w' => e = .returned (.bool (fewC b)) ∧ w' = V) := Lib.hid fun V h => few_any b m B d V hm hd (hB.below h) gb.p32
  rw [hfa] at hFa
  rw [hf] at hFb
  clear hA hB ga gb hdx hxd
  go_enter Tryd.func3, Tryd.ntmps3
  go_wp2_with (first
    | (go_at_call 13; (with_reducible refine hS.out.mono ?_); rintro e w1 ⟨rfl, HB⟩)
    | (go_at_call 14; (with_reducible refine (hFa.out _ HB).mono ?_); rintro e w' ⟨rfl, rfl⟩)
    | (go_at_call 14; (with_reducible refine (hFb.out _ HB).mono ?_); rintro e w' ⟨rfl, rfl⟩))
  go_ret
  exact ⟨rfl, HB⟩
set_option maxRecDepth 100000 in
set_option maxHeartbeats 4000000 in
theorem cas_mid (a b : List Lk) (node : Int) (xs : List UInt8) (n m : Nat) (A B : Option Addr) (c d : Nat) (Ad : Option Addr) (nd cd : Nat) (w : World) (hn : a.length = n) (hm : b.length = m) (hx : xs.length = nd) (hc : n ≤ c) (hd : m ≤ d) (h0c : A = none → c = 0) (hA : LsAt w A a) (hB : LsAt w B b) (hdx : DatAt w (.slice Ad nd cd) xs) (hxd : AtO w Ad xs) (ga : ArgL a) (gb : ArgL b) (hL : Laid w) (hfa : fewC a = true) (hfb : fewC b = true) (hn1 : 300 < nd) (hn2 : nd ≤ 65536) :
    Calls Tryd.prog 3 #[.slice A n c, .slice B m d, .int .i64 node, .slice Ad nd cd] w fun e w' => e = .returned (.bool true) ∧ Below w.heap.size w w' := by
  have hS : Hid (Calls Tryd.prog 13 #[] w fun e w' => e = .returned (.bool true) ∧ Below w.heap.size w w') := Lib.hid (csane_any w hL)
  have hFa : Hid (∀ V, Below w.heap.size w V → Calls Tryd.prog 14 #[.slice A n c] V fun e w' => e = .returned (.bool (fewC a)) ∧ w' = V) := Lib.hid fun V h => few_any a n A c V hn hc (hA.below h) ga.p32
  have hFb : Hid (∀ V, Below w.heap.size w V → Calls Tryd.prog 14 #[.slice B m d] V fun e w' => e = .returned (.bool (fewC b)) ∧ w' = V) := Lib.hid fun V h => few_any b m B d V hm hd (hB.below h) gb.p32
  rw [hfa] at hFa
  rw [hfb] at hFb
  clear hA hB ga gb hdx hxd
  go_enter Tryd.func3, Tryd.ntmps3
  go_wp2_with (first
    | (go_at_call 13; (with_reducible refine hS.out.mono ?_); rintro e w1 ⟨rfl, HB⟩)
    | (go_at_call 14; (with_reducible refine (hFa.out _ HB).mono ?_); rintro e w' ⟨rfl, rfl⟩)
    | (go_at_call 14; (with_reducible refine (hFb.out _ HB).mono ?_); rintro e w' ⟨rfl, rfl⟩))
  go_ret
  exact ⟨rfl, HB⟩
set_option maxRecDepth 100000 in
set_option maxHeartbeats 4000000 in
theorem cas_bad (a b : List Lk) (node : Int) (xs : List UInt8) (n m : Nat) (A B : Option Addr) (c d : Nat) (Ad : Option Addr) (nd cd : Nat) (w : World) (hn : a.length = n) (hm : b.length = m) (hx : xs.length = nd) (hc : n ≤ c) (hd : m ≤ d) (h0c : A = none → c = 0) (hA : LsAt w A a) (hB : LsAt w B b) (hdx : DatAt w (.slice Ad nd cd) xs) (hxd : AtO w Ad xs) (ga : ArgL a) (gb : ArgL b) (hL : Laid w) (hfa : fewC a = true) (hfb : fewC b = true) (hnd : ¬ (300 < nd ∧ nd ≤ 65536)) (k : ¬ OkL a) :
    Calls Tryd.prog 3 #[.slice A n c, .slice B m d, .int .i64 node, .slice Ad nd cd] w fun e w' => e = .returned (.bool true) ∧ Below w.heap.size w w' := by
  have hS : Hid (Calls Tryd.prog 13 #[] w fun e w' => e = .returned (.bool true) ∧ Below w.heap.size w w') := Lib.hid (csane_any w hL)
  have hFa : Hid (∀ V, Below w.heap.size w V → Calls Tryd.prog 14 #[.slice A n c] V fun e w' => e = .returned (.bool (fewC a)) ∧ w' = V) := Lib.hid fun V h => few_any a n A c V hn hc (hA.below h) ga.p32
  have hFb : Hid (∀ V, Below w.heap.size w V → Calls Tryd.prog 14 #[.slice B m d] V fun e w' => e = .returned (.bool (fewC b)) ∧ w' = V) := Lib.hid fun V h => few_any b m B d V hm hd (hB.below h) gb.p32
  rw [hfa] at hFa
  rw [hfb] at hFb
  have oka := ga.ok hfa
  have okb := gb.ok hfb
  have la := few_len hfa
  have lb := few_len hfb
  have hP1 : Hid (∀ V, Below w.heap.size w V → Calls Tryd.prog 17 #[.slice A n c, .slice B m d] V fun e w' => e = .returned (.tuple #[.int .i64 ((partC a b).1 : Int), .bool (partC a b).2.1, .int .i64 (partC a b).2.2]) ∧ Below V.heap.size V w') := Lib.hid fun V h =>
    part_any a b n m A B c d V hn hm (by omega) (by omega) hc hd (hA.below h) (hB.below h) oka okb (hL.below h)
  have hP2 : Hid (∀ V, Below w.heap.size w V → Calls Tryd.prog 18 #[.slice A n c, .slice B m d] V fun e w' => e = .returned (.tuple #[.int .i64 ((partC a b).1 : Int), .bool (partC a b).2.1, .int .i64 (partC a b).2.2]) ∧ Below V.heap.size V w') := Lib.hid fun V h =>
    rpart_any a b n m A B c d V hn hm (by omega) (by omega) hc hd (hA.below h) (hB.below h) oka okb
  generalize partC a b = pc at hP1 hP2
  obtain ⟨p1, p2, p3⟩ := pc
  dsimp only at hP1 hP2
  have hE : Hid (∀ V, Below w.heap.size w V → Calls Tryd.prog 19 #[.slice none 0 0, .slice none 0 0] V fun e w' => e = .returned (.bool true) ∧ Below V.heap.size V w') := Lib.hid fun V h => by
    have := same_any [] [] 0 0 none none 0 0 V rfl rfl (by omega) (by omega) (by omega) (fun i x hx => by simp at hx) (fun i x hx => by simp at hx) (fun x hx => by simp at hx) (fun x hx => by simp at hx)
    exact this
  have hAdd : Hid (∀ V, Below w.heap.size w V → Calls Tryd.prog 15 #[.slice A n c, .int .i64 node, .slice Ad nd cd] V fun e w' => e = .returned (.tuple #[.slice none 0 0, .int .i64 80]) ∧ Below V.heap.size V w') := Lib.hid fun V h => add_bad a n A c node Ad nd cd V (Lib.hid (by
      have := check_any8 a n A c V hn (by omega) hc (hA.below h) oka (hL.below h)
      rw [ckC_bad k] at this
      exact this))
  have hRdd : Hid (∀ V, Below w.heap.size w V → Calls Tryd.prog 16 #[.slice A n c, .int .i64 node, .slice Ad nd cd] V fun e w' => e = .returned (.tuple #[.slice none 0 0, .int .i64 80]) ∧ Below V.heap.size V w') := Lib.hid fun V h => radd_bad n A c node Ad nd cd V (Lib.hid (by
      have := rcheck8_any a n A c V hn (by omega) hc (hA.below h) oka
      rw [ckC_bad k] at this
      exact this))
  clear hA hB ga gb hdx hxd
  rcases (show nd ≤ 300 ∨ 65536 < nd by omega) with g1 | g1
  · have e3 : decide (300 < (nd : Int)) = false := decide_eq_false (by omega)
    go_enter Tryd.func3, Tryd.ntmps3
    go_wp2_with (first
      | (go_at_call 13; (with_reducible refine hS.out.mono ?_); rintro e w1 ⟨rfl, HB⟩)
      | (go_at_call 14; (with_reducible refine (hFa.out _ HB).mono ?_); rintro e w' ⟨rfl, rfl⟩)
      | (go_at_call 14; (with_reducible refine (hFb.out _ HB).mono ?_); rintro e w' ⟨rfl, rfl⟩)
      | (go_at_call 15; (with_reducible refine (hAdd.out _ HB).mono ?_); rintro e w2 ⟨rfl, hb⟩; replace HB := HB.trans (hb.mono HB.size); clear hb)
      | (go_at_call 16; (with_reducible refine (hRdd.out _ HB).mono ?_); rintro e w2 ⟨rfl, hb⟩; replace HB := HB.trans (hb.mono HB.size); clear hb)
      | (go_at_call 17; (with_reducible refine (hP1.out _ HB).mono ?_); rintro e w2 ⟨rfl, hb⟩; replace HB := HB.trans (hb.mono HB.size); clear hb)
      | (go_at_call 18; (with_reducible refine (hP2.out _ HB).mono ?_); rintro e w2 ⟨rfl, hb⟩; replace HB := HB.trans (hb.mono HB.size); clear hb)
      | (go_at_call 19; (with_reducible refine (hE.out _ HB).mono ?_); rintro e w2 ⟨rfl, hb⟩; replace HB := HB.trans (hb.mono HB.size); clear hb))
    go_ret
    exact ⟨rfl, HB⟩
  · have e3 : decide (300 < (nd : Int)) = true := decide_eq_true (by omega)
    have e4 : decide ((nd : Int) ≤ 65536) = false := decide_eq_false (by omega)
    go_enter Tryd.func3, Tryd.ntmps3
    go_wp2_with (first
      | (go_at_call 13; (with_reducible refine hS.out.mono ?_); rintro e w1 ⟨rfl, HB⟩)
      | (go_at_call 14; (with_reducible refine (hFa.out _ HB).mono ?_); rintro e w' ⟨rfl, rfl⟩)
      | (go_at_call 14; (with_reducible refine (hFb.out _ HB).mono ?_); rintro e w' ⟨rfl, rfl⟩)
      | (go_at_call 15; (with_reducible refine (hAdd.out _ HB).mono ?_); rintro e w2 ⟨rfl, hb⟩; replace HB := HB.trans (hb.mono HB.size); clear hb)
      | (go_at_call 16; (with_reducible refine (hRdd.out _ HB).mono ?_); rintro e w2 ⟨rfl, hb⟩; replace HB := HB.trans (hb.mono HB.size); clear hb)
      | (go_at_call 17; (with_reducible refine (hP1.out _ HB).mono ?_); rintro e w2 ⟨rfl, hb⟩; replace HB := HB.trans (hb.mono HB.size); clear hb)
      | (go_at_call 18; (with_reducible refine (hP2.out _ HB).mono ?_); rintro e w2 ⟨rfl, hb⟩; replace HB := HB.trans (hb.mono HB.size); clear hb)
      | (go_at_call 19; (with_reducible refine (hE.out _ HB).mono ?_); rintro e w2 ⟨rfl, hb⟩; replace HB := HB.trans (hb.mono HB.size); clear hb))
    go_ret
    exact ⟨rfl, HB⟩
set_option maxRecDepth 100000 in
set_option maxHeartbeats 4000000 in
theorem cas_err (a b : List Lk) (node : Int) (xs : List UInt8) (n m : Nat) (A B : Option Addr) (c d : Nat) (Ad : Option Addr) (nd cd : Nat) (w : World) (hn : a.length = n) (hm : b.length = m) (hx : xs.length = nd) (hc : n ≤ c) (hd : m ≤ d) (h0c : A = none → c = 0) (hA : LsAt w A a) (hB : LsAt w B b) (hdx : DatAt w (.slice Ad nd cd) xs) (hxd : AtO w Ad xs) (ga : ArgL a) (gb : ArgL b) (hL : Laid w) (hfa : fewC a = true) (hfb : fewC b = true) (hnd : ¬ (300 < nd ∧ nd ≤ 65536)) (k : OkL a) (ka : ¬ ArgC a node nd) :
    Calls Tryd.prog 3 #[.slice A n c, .slice B m d, .int .i64 node, .slice Ad nd cd] w fun e w' => e = .returned (.bool true) ∧ Below w.heap.size w w' := by
  have hS : Hid (Calls Tryd.prog 13 #[] w fun e w' => e = .returned (.bool true) ∧ Below w.heap.size w w') := Lib.hid (csane_any w hL)
  have hFa : Hid (∀ V, Below w.heap.size w V → Calls Tryd.prog 14 #[.slice A n c] V fun e w' => e = .returned (.bool (fewC a)) ∧ w' = V) := Lib.hid fun V h => few_any a n A c V hn hc (hA.below h) ga.p32
  have hFb : Hid (∀ V, Below w.heap.size w V → Calls Tryd.prog 14 #[.slice B m d] V fun e w' => e = .returned (.bool (fewC b)) ∧ w' = V) := Lib.hid fun V h => few_any b m B d V hm hd (hB.below h) gb.p32
  rw [hfa] at hFa
  rw [hfb] at hFb
  have oka := ga.ok hfa
  have okb := gb.ok hfb
  have la := few_len hfa
  have lb := few_len hfb
  have hP1 : Hid (∀ V, Below w.heap.size w V → Calls Tryd.prog 17 #[.slice A n c, .slice B m d] V fun e w' => e = .returned (.tuple #[.int .i64 ((partC a b).1 : Int), .bool (partC a b).2.1, .int .i64 (partC a b).2.2]) ∧ Below V.heap.size V w') := Lib.hid fun V h =>
    part_any a b n m A B c d V hn hm (by omega) (by omega) hc hd (hA.below h) (hB.below h) oka okb (hL.below h)
  have hP2 : Hid (∀ V, Below w.heap.size w V → Calls Tryd.prog 18 #[.slice A n c, .slice B m d] V fun e w' => e = .returned (.tuple #[.int .i64 ((partC a b).1 : Int), .bool (partC a b).2.1, .int .i64 (partC a b).2.2]) ∧ Below V.heap.size V w') := Lib.hid fun V h =>
    rpart_any a b n m A B c d V hn hm (by omega) (by omega) hc hd (hA.below h) (hB.below h) oka okb
  generalize partC a b = pc at hP1 hP2
  obtain ⟨p1, p2, p3⟩ := pc
  dsimp only at hP1 hP2
  have hE : Hid (∀ V, Below w.heap.size w V → Calls Tryd.prog 19 #[.slice none 0 0, .slice none 0 0] V fun e w' => e = .returned (.bool true) ∧ Below V.heap.size V w') := Lib.hid fun V h => by
    have := same_any [] [] 0 0 none none 0 0 V rfl rfl (by omega) (by omega) (by omega) (fun i x hx => by simp at hx) (fun i x hx => by simp at hx) (fun x hx => by simp at hx) (fun x hx => by simp at hx)
    exact this
  have hAdd : Hid (∀ V, Below w.heap.size w V → Calls Tryd.prog 15 #[.slice A n c, .int .i64 node, .slice Ad nd cd] V fun e w' => e = .returned (.tuple #[.slice none 0 0, .int .i64 1]) ∧ Below V.heap.size V w') := Lib.hid fun V h => add_err a n A c node Ad nd cd V hn (by omega) hc (hA.below h) oka k ka (hL.below h)
  have hRdd : Hid (∀ V, Below w.heap.size w V → Calls Tryd.prog 16 #[.slice A n c, .int .i64 node, .slice Ad nd cd] V fun e w' => e = .returned (.tuple #[.slice none 0 0, .int .i64 1]) ∧ Below V.heap.size V w') := Lib.hid fun V h => radd_err a n A c node Ad nd cd V hn (by omega) hc (hA.below h) oka k ka
  clear hA hB ga gb hdx hxd
  rcases (show nd ≤ 300 ∨ 65536 < nd by omega) with g1 | g1
  · have e3 : decide (300 < (nd : Int)) = false := decide_eq_false (by omega)
    go_enter Tryd.func3, Tryd.ntmps3
    go_wp2_with (first
      | (go_at_call 13; (with_reducible refine hS.out.mono ?_); rintro e w1 ⟨rfl, HB⟩)
      | (go_at_call 14; (with_reducible refine (hFa.out _ HB).mono ?_); rintro e w' ⟨rfl, rfl⟩)
      | (go_at_call 14; (with_reducible refine (hFb.out _ HB).mono ?_); rintro e w' ⟨rfl, rfl⟩)
      | (go_at_call 15; (with_reducible refine (hAdd.out _ HB).mono ?_); rintro e w2 ⟨rfl, hb⟩; replace HB := HB.trans (hb.mono HB.size); clear hb)
      | (go_at_call 16; (with_reducible refine (hRdd.out _ HB).mono ?_); rintro e w2 ⟨rfl, hb⟩; replace HB := HB.trans (hb.mono HB.size); clear hb)
      | (go_at_call 17; (with_reducible refine (hP1.out _ HB).mono ?_); rintro e w2 ⟨rfl, hb⟩; replace HB := HB.trans (hb.mono HB.size); clear hb)
      | (go_at_call 18; (with_reducible refine (hP2.out _ HB).mono ?_); rintro e w2 ⟨rfl, hb⟩; replace HB := HB.trans (hb.mono HB.size); clear hb)
      | (go_at_call 19; (with_reducible refine (hE.out _ HB).mono ?_); rintro e w2 ⟨rfl, hb⟩; replace HB := HB.trans (hb.mono HB.size); clear hb))
    go_ret
    exact ⟨rfl, HB⟩
  · have e3 : decide (300 < (nd : Int)) = true := decide_eq_true (by omega)
    have e4 : decide ((nd : Int) ≤ 65536) = false := decide_eq_false (by omega)
    go_enter Tryd.func3, Tryd.ntmps3
    go_wp2_with (first
      | (go_at_call 13; (with_reducible refine hS.out.mono ?_); rintro e w1 ⟨rfl, HB⟩)
      | (go_at_call 14; (with_reducible refine (hFa.out _ HB).mono ?_); rintro e w' ⟨rfl, rfl⟩)
      | (go_at_call 14; (with_reducible refine (hFb.out _ HB).mono ?_); rintro e w' ⟨rfl, rfl⟩)
      | (go_at_call 15; (with_reducible refine (hAdd.out _ HB).mono ?_); rintro e w2 ⟨rfl, hb⟩; replace HB := HB.trans (hb.mono HB.size); clear hb)
      | (go_at_call 16; (with_reducible refine (hRdd.out _ HB).mono ?_); rintro e w2 ⟨rfl, hb⟩; replace HB := HB.trans (hb.mono HB.size); clear hb)
      | (go_at_call 17; (with_reducible refine (hP1.out _ HB).mono ?_); rintro e w2 ⟨rfl, hb⟩; replace HB := HB.trans (hb.mono HB.size); clear hb)
      | (go_at_call 18; (with_reducible refine (hP2.out _ HB).mono ?_); rintro e w2 ⟨rfl, hb⟩; replace HB := HB.trans (hb.mono HB.size); clear hb)
      | (go_at_call 19; (with_reducible refine (hE.out _ HB).mono ?_); rintro e w2 ⟨rfl, hb⟩; replace HB := HB.trans (hb.mono HB.size); clear hb))
    go_ret
    exact ⟨rfl, HB⟩
set_option maxRecDepth 100000 in
set_option maxHeartbeats 4000000 in
theorem cas_ok (a b : List Lk) (node : Int) (xs : List UInt8) (n m : Nat) (A B : Option Addr) (c d : Nat) (Ad : Option Addr) (nd cd : Nat) (w : World) (hn : a.length = n) (hm : b.length = m) (hx : xs.length = nd) (hc : n ≤ c) (hd : m ≤ d) (h0c : A = none → c = 0) (hA : LsAt w A a) (hB : LsAt w B b) (hdx : DatAt w (.slice Ad nd cd) xs) (hxd : AtO w Ad xs) (ga : ArgL a) (gb : ArgL b) (hL : Laid w) (hfa : fewC a = true) (hfb : fewC b = true) (hnd : ¬ (300 < nd ∧ nd ≤ 65536)) (k : OkL a) (ka : ArgC a node nd) :
    Calls Tryd.prog 3 #[.slice A n c, .slice B m d, .int .i64 node, .slice Ad nd cd] w fun e w' => e = .returned (.bool true) ∧ Below w.heap.size w w' := by
  have hS : Hid (Calls Tryd.prog 13 #[] w fun e w' => e = .returned (.bool true) ∧ Below w.heap.size w w') := Lib.hid (csane_any w hL)
  have hFa : Hid (∀ V, Below w.heap.size w V → Calls Tryd.prog 14 #[.slice A n c] V fun e w' => e = .returned (.bool (fewC a)) ∧ w' = V) := Lib.hid fun V h => few_any a n A c V hn hc (hA.below h) ga.p32
  have hFb : Hid (∀ V, Below w.heap.size w V → Calls Tryd.prog 14 #[.slice B m d] V fun e w' => e = .returned (.bool (fewC b)) ∧ w' = V) := Lib.hid fun V h => few_any b m B d V hm hd (hB.below h) gb.p32
  rw [hfa] at hFa
  rw [hfb] at hFb
  have oka := ga.ok hfa
  have okb := gb.ok hfb
  have la := few_len hfa
  have lb := few_len hfb
  have hP1 : Hid (∀ V, Below w.heap.size w V → Calls Tryd.prog 17 #[.slice A n c, .slice B m d] V fun e w' => e = .returned (.tuple #[.int .i64 ((partC a b).1 : Int), .bool (partC a b).2.1, .int .i64 (partC a b).2.2]) ∧ Below V.heap.size V w') := Lib.hid fun V h =>
    part_any a b n m A B c d V hn hm (by omega) (by omega) hc hd (hA.below h) (hB.below h) oka okb (hL.below h)
  have hP2 : Hid (∀ V, Below w.heap.size w V → Calls Tryd.prog 18 #[.slice A n c, .slice B m d] V fun e w' => e = .returned (.tuple #[.int .i64 ((partC a b).1 : Int), .bool (partC a b).2.1, .int .i64 (partC a b).2.2]) ∧ Below V.heap.size V w') := Lib.hid fun V h =>
    rpart_any a b n m A B c d V hn hm (by omega) (by omega) hc hd (hA.below h) (hB.below h) oka okb
  generalize partC a b = pc at hP1 hP2
  obtain ⟨p1, p2, p3⟩ := pc
  dsimp only at hP1 hP2
  have hAdd : Hid (∀ V, Below w.heap.size w V → Calls Tryd.prog 15 #[.slice A n c, .int .i64 node, .slice Ad nd cd] V fun e w' => ∃ A' c', e = .returned (.tuple #[.slice A' (n + 1) c', .int .i64 0]) ∧ n + 1 ≤ c' ∧ c' ≤ 9223372036854775807 ∧ LsAt w' A' (a ++ [⟨node, n, hdC a, xs⟩]) ∧ Below V.heap.size V w') := Lib.hid fun V h => add_ok a n A c node xs Ad nd cd V hn (by omega) hc h0c (hA.below h) oka k hx (hxd.below h) ka (hL.below h)
  have hRdd : Hid (∀ V, Below w.heap.size w V → Calls Tryd.prog 16 #[.slice A n c, .int .i64 node, .slice Ad nd cd] V fun e w' => ∃ A' c', e = .returned (.tuple #[.slice A' (n + 1) c', .int .i64 0]) ∧ n + 1 ≤ c' ∧ LsAt w' A' (a ++ [⟨node, n, hdC a, xs⟩]) ∧ Below V.heap.size V w') := Lib.hid fun V h => radd_ok a n A c node xs Ad nd cd V hn (by omega) hc (hA.below h) oka k (hdx.below h) ka
  have hE : Hid (∀ V A2 A3 c2 c3, n + 1 ≤ c2 → n + 1 ≤ c3 → LsAt V A2 (a ++ [⟨node, n, hdC a, xs⟩]) → LsAt V A3 (a ++ [⟨node, n, hdC a, xs⟩]) → Calls Tryd.prog 19 #[.slice A2 (n + 1) c2, .slice A3 (n + 1) c3] V fun e w' => e = .returned (.bool true) ∧ Below V.heap.size V w') := Lib.hid fun V A2 A3 c2 c3 q1 q2 q3 q4 => by
    have hp : ∀ z ∈ (a ++ [⟨node, n, hdC a, xs⟩]), z.prev.length = 32 := fun z hz => by
      rcases List.mem_append.1 hz with h | h
      · exact ga.p32 z h
      · simp at h; subst h; exact hdC_len _
    have := same_any (a ++ [⟨node, n, hdC a, xs⟩]) (a ++ [⟨node, n, hdC a, xs⟩]) (n + 1) (n + 1) A2 A3 c2 c3 V (by rw [List.length_append, hn]; rfl) (by rw [List.length_append, hn]; rfl) (by omega) q1 q2 q3 q4 hp hp
    rw [decide_eq_true rfl] at this
    exact this
  generalize (a ++ [⟨node, n, hdC a, xs⟩]) = lx at hAdd hRdd hE
  clear hA hB ga gb hdx hxd
  rcases (show nd ≤ 300 ∨ 65536 < nd by omega) with g1 | g1
  · have e3 : decide (300 < (nd : Int)) = false := decide_eq_false (by omega)
    go_enter Tryd.func3, Tryd.ntmps3
    go_wp2_with (first
      | (go_at_call 13; (with_reducible refine hS.out.mono ?_); rintro e w1 ⟨rfl, HB⟩)
      | (go_at_call 14; (with_reducible refine (hFa.out _ HB).mono ?_); rintro e w' ⟨rfl, rfl⟩)
      | (go_at_call 14; (with_reducible refine (hFb.out _ HB).mono ?_); rintro e w' ⟨rfl, rfl⟩)
      | (go_at_call 15; (with_reducible refine (hAdd.out _ HB).mono ?_); rintro e w2 ⟨A2, c2, rfl, hc2, _, hl2, hb⟩; replace HB := HB.trans (hb.mono HB.size); replace hl2 := Lib.hid hl2; clear hb)
      | (go_at_call 16; (with_reducible refine (hRdd.out _ HB).mono ?_); rintro e w3 ⟨A3, c3, rfl, hc3, hl3, hb⟩; replace HB := HB.trans (hb.mono HB.size); replace hl2 := Lib.hid (hl2.out.below hb); replace hl3 := Lib.hid hl3; clear hb)
      | (go_at_call 17; (with_reducible refine (hP1.out _ HB).mono ?_); rintro e w4 ⟨rfl, hb⟩; replace HB := HB.trans (hb.mono HB.size); replace hl2 := Lib.hid (hl2.out.below hb); replace hl3 := Lib.hid (hl3.out.below hb); clear hb)
      | (go_at_call 18; (with_reducible refine (hP2.out _ HB).mono ?_); rintro e w5 ⟨rfl, hb⟩; replace HB := HB.trans (hb.mono HB.size); replace hl2 := Lib.hid (hl2.out.below hb); replace hl3 := Lib.hid (hl3.out.below hb); clear hb)
      | (go_at_call 19; (with_reducible refine (hE.out _ A2 A3 c2 c3 hc2 hc3 hl2.out hl3.out).mono ?_); rintro e w6 ⟨rfl, hb⟩; replace HB := HB.trans (hb.mono HB.size); clear hb))
    go_ret
    exact ⟨rfl, HB⟩
  · have e3 : decide (300 < (nd : Int)) = true := decide_eq_true (by omega)
    have e4 : decide ((nd : Int) ≤ 65536) = false := decide_eq_false (by omega)
    go_enter Tryd.func3, Tryd.ntmps3
    go_wp2_with (first
      | (go_at_call 13; (with_reducible refine hS.out.mono ?_); rintro e w1 ⟨rfl, HB⟩)
      | (go_at_call 14; (with_reducible refine (hFa.out _ HB).mono ?_); rintro e w' ⟨rfl, rfl⟩)
      | (go_at_call 14; (with_reducible refine (hFb.out _ HB).mono ?_); rintro e w' ⟨rfl, rfl⟩)
      | (go_at_call 15; (with_reducible refine (hAdd.out _ HB).mono ?_); rintro e w2 ⟨A2, c2, rfl, hc2, _, hl2, hb⟩; replace HB := HB.trans (hb.mono HB.size); replace hl2 := Lib.hid hl2; clear hb)
      | (go_at_call 16; (with_reducible refine (hRdd.out _ HB).mono ?_); rintro e w3 ⟨A3, c3, rfl, hc3, hl3, hb⟩; replace HB := HB.trans (hb.mono HB.size); replace hl2 := Lib.hid (hl2.out.below hb); replace hl3 := Lib.hid hl3; clear hb)
      | (go_at_call 17; (with_reducible refine (hP1.out _ HB).mono ?_); rintro e w4 ⟨rfl, hb⟩; replace HB := HB.trans (hb.mono HB.size); replace hl2 := Lib.hid (hl2.out.below hb); replace hl3 := Lib.hid (hl3.out.below hb); clear hb)
      | (go_at_call 18; (with_reducible refine (hP2.out _ HB).mono ?_); rintro e w5 ⟨rfl, hb⟩; replace HB := HB.trans (hb.mono HB.size); replace hl2 := Lib.hid (hl2.out.below hb); replace hl3 := Lib.hid (hl3.out.below hb); clear hb)
      | (go_at_call 19; (with_reducible refine (hE.out _ A2 A3 c2 c3 hc2 hc3 hl2.out hl3.out).mono ?_); rintro e w6 ⟨rfl, hb⟩; replace HB := HB.trans (hb.mono HB.size); clear hb))
    go_ret
    exact ⟨rfl, HB⟩

theorem addspec_all (a b : List Lk) (node : Int) (xs : List UInt8) (n m : Nat) (A B : Option Addr) (c d : Nat) (Ad : Option Addr) (nd cd : Nat) (w : World) (hn : a.length = n) (hm : b.length = m) (hx : xs.length = nd) (hc : n ≤ c) (hd : m ≤ d) (h0c : A = none → c = 0) (hA : LsAt w A a) (hB : LsAt w B b) (hdx : DatAt w (.slice Ad nd cd) xs) (hxd : AtO w Ad xs) (ga : ArgL a) (gb : ArgL b) (hL : Laid w) :
    Calls Tryd.prog 3 #[.slice A n c, .slice B m d, .int .i64 node, .slice Ad nd cd] w fun e w' => e = .returned (.bool true) ∧ Below w.heap.size w w' := by
  cases hfa : fewC a with
  | false => exact cas_fa a b node xs n m A B c d Ad nd cd w hn hm hx hc hd h0c hA hB hdx hxd ga gb hL hfa
  | true =>
    cases hfb : fewC b with
    | false => exact cas_fb a b node xs n m A B c d Ad nd cd w hn hm hx hc hd h0c hA hB hdx hxd ga gb hL hfa hfb
    | true =>
      by_cases hnd : 300 < nd ∧ nd ≤ 65536
      · exact cas_mid a b node xs n m A B c d Ad nd cd w hn hm hx hc hd h0c hA hB hdx hxd ga gb hL hfa hfb hnd.1 hnd.2
      · by_cases k : OkL a
        · by_cases ka : ArgC a node nd
          · exact cas_ok a b node xs n m A B c d Ad nd cd w hn hm hx hc hd h0c hA hB hdx hxd ga gb hL hfa hfb hnd k ka
          · exact cas_err a b node xs n m A B c d Ad nd cd w hn hm hx hc hd h0c hA hB hdx hxd ga gb hL hfa hfb hnd k ka
        · exact cas_bad a b node xs n m A B c d Ad nd cd w hn hm hx hc hd h0c hA hB hdx hxd ga gb hL hfa hfb hnd k

theorem walk_ChainAddSpec (a0 a1 : List Lk) (a2 : Int) (a3 : List UInt8) (A0 : Option Addr) (c0 : Nat) (A1 : Option Addr) (c1 : Nat) (A3 : Option Addr) (c3 : Nat) (w : World) (lc0 : a0.length ≤ c0) (nc0 : A0 = none → c0 = 0) (ls0 : LsAt w A0 a0) (ar0 : ∀ y ∈ a0, I64 y.node ∧ I64 y.no ∧ y.prev.length = 32)
    (lc1 : a1.length ≤ c1) (nc1 : A1 = none → c1 = 0) (ls1 : LsAt w A1 a1) (ar1 : ∀ y ∈ a1, I64 y.node ∧ I64 y.no ∧ y.prev.length = 32) (b2 : I64 a2) (lc3 : a3.length ≤ c3) (cm3 : c3 ≤ 9223372036854775807) (at3 : AtO w A3 a3) (hL : Laid w) :
    Calls Tryd.prog 3 #[.slice A0 a0.length c0, .slice A1 a1.length c1, .int .i64 a2, .slice A3 a3.length c3] w fun e w' => e = .returned (.bool true) ∧ Below w.heap.size w w' :=
  addspec_all a0 a1 a2 a3 _ _ A0 A1 c0 c1 A3 _ c3 w rfl rfl rfl lc0 lc1 nc0 ls0 ls1 ⟨A3, c3, rfl, lc3, cm3, at3⟩ at3 ar0 ar1 hL
end Go.Proofs.YthokpfegfnpmhaaDoor
