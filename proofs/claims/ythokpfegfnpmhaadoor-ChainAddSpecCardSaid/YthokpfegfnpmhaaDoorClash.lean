/- The walk of clash: two lists of links with one head and different texts. -/
import Derived.Test.YthokpfegfnpmhaaDoorRefText
import Derived.Test.YthokpfegfnpmhaaDoorChainSame
namespace Go.Proofs.YthokpfegfnpmhaaDoor
open Go.RowKit Cdc Sha
set_option linter.unusedVariables false
set_option linter.unusedSimpArgs false

theorem rtext_any (l : List Lk) (n : Nat) (A : Option Addr) (c : Nat) (w : World) (hn : l.length = n) (hnm : n ≤ 1000000) (hc : n ≤ c) (h : LsAt w A l) (hok : ∀ x ∈ l, LkOk x) :
    Calls Tryd.prog 51 #[.slice A n c] w fun e w' => ∃ A' c', e = .returned (.tuple #[.string (txC l).1, .slice A' (txC l).2.length c']) ∧ AtO w' A' (txC l).2 ∧ Below w.heap.size w w' := by
  by_cases h0 : n = 0
  · subst h0
    obtain rfl := List.length_eq_zero_iff.1 hn
    refine (rtext_none A c w).mono ?_
    rintro e w' ⟨rfl, rfl⟩
    exact ⟨none, 0, rfl, fun j x hx => by simp [txC] at hx, Below.refl _ _⟩
  · obtain ⟨x, hx⟩ : ∃ x, l[n - 1]? = some x := ⟨_, List.getElem?_eq_getElem (by omega)⟩
    have e : txC l = (linkB, encB (lV (lkL x))) := by
      have : l.getLast? = some x := by rw [List.getLast?_eq_getElem?, hn]; exact hx
      unfold txC
      rw [this]
    rw [e]
    refine (rtext_some l x n A c w hn (by omega) hnm hc h hx (hok x (List.mem_of_getElem? hx))).mono ?_
    rintro e w' ⟨A', c', rfl, ⟨A2, c2, hD, _, _, hat⟩, hb⟩
    cases hD
    exact ⟨_, _, rfl, hat, hb⟩
open Classical in
noncomputable def clB (a b : List Lk) : Bool := decide (ClashL a b)
theorem clB_true {a b : List Lk} (h : ClashL a b) : clB a b = true := by unfold clB; simpa using h
theorem clB_false {a b : List Lk} (h : ¬ ClashL a b) : clB a b = false := by unfold clB; simpa using h
theorem clB_not {a b : List Lk} (h : clB a b = false) : ¬ ClashL a b := by unfold clB at h; simpa using h
theorem bytes_eta (s : ByteArray) : (⟨s.data.toList.toArray⟩ : ByteArray) = s := by cases s; simp
set_option maxRecDepth 100000 in
set_option maxHeartbeats 4000000 in
theorem clash_same (s t xs ys p q : List UInt8) (n m : Nat) (A B : Option Addr) (c d : Nat) (w : World) (hp : p.length = 32) (hq : q.length = 32) (hT1 : Hid (Calls Tryd.prog 51 #[.slice A n c] w fun e w' => ∃ A' c', e = .returned (.tuple #[.string ⟨s.toArray⟩, .slice A' xs.length c']) ∧ AtO w' A' xs ∧ Below w.heap.size w w')) (hT2 : Hid (∀ V, Below w.heap.size w V → Calls Tryd.prog 51 #[.slice B m d] V fun e w' => ∃ A' c', e = .returned (.tuple #[.string ⟨t.toArray⟩, .slice A' ys.length c']) ∧ AtO w' A' ys ∧ Below V.heap.size V w')) (hH1 : Hid (∀ V, Below w.heap.size w V → Calls Tryd.prog 20 #[.slice A n c] V fun e w' => e = .returned (.agg (p.map by1).toArray) ∧ Below V.heap.size V w')) (hH2 : Hid (∀ V, Below w.heap.size w V → Calls Tryd.prog 20 #[.slice B m d] V fun e w' => e = .returned (.agg (q.map by1).toArray) ∧ Below V.heap.size V w')) (hs : s = t) (hx : xs = ys) :
    Calls Tryd.prog 22 #[.slice A n c, .slice B m d] w fun e w' => e = .returned (.bool false) ∧ Below w.heap.size w w' := by
  subst hs hx
  clear hp hq hH1 hH2
  go_enter Tryd.func22, Tryd.ntmps22
  go_wp2_with (first
    | (go_at_call 51; (with_reducible refine hT1.out.mono ?_); rintro e w1 ⟨A1, c1, rfl, hat1, hb1⟩; replace hat1 := Lib.hid hat1)
    | (go_at_call 51; (with_reducible refine (hT2.out _ hb1).mono ?_); rintro e w2 ⟨A2, c2, rfl, hat2, hb2⟩; have v0 := (hat1.out.below hb2).conv _ c1 rfl; have v1 := hat2.conv _ c2 rfl; replace hb2 := hb1.trans (hb2.mono hb1.size)))
  go_ret
  exact ⟨rfl, hb2⟩
set_option maxRecDepth 100000 in
set_option maxHeartbeats 4000000 in
theorem clash_tag_y (s t xs ys p q : List UInt8) (n m : Nat) (A B : Option Addr) (c d : Nat) (w : World) (hp : p.length = 32) (hq : q.length = 32) (hT1 : Hid (Calls Tryd.prog 51 #[.slice A n c] w fun e w' => ∃ A' c', e = .returned (.tuple #[.string ⟨s.toArray⟩, .slice A' xs.length c']) ∧ AtO w' A' xs ∧ Below w.heap.size w w')) (hT2 : Hid (∀ V, Below w.heap.size w V → Calls Tryd.prog 51 #[.slice B m d] V fun e w' => ∃ A' c', e = .returned (.tuple #[.string ⟨t.toArray⟩, .slice A' ys.length c']) ∧ AtO w' A' ys ∧ Below V.heap.size V w')) (hH1 : Hid (∀ V, Below w.heap.size w V → Calls Tryd.prog 20 #[.slice A n c] V fun e w' => e = .returned (.agg (p.map by1).toArray) ∧ Below V.heap.size V w')) (hH2 : Hid (∀ V, Below w.heap.size w V → Calls Tryd.prog 20 #[.slice B m d] V fun e w' => e = .returned (.agg (q.map by1).toArray) ∧ Below V.heap.size V w')) (hs : (s == t) = false) (hpq : p = q) :
    Calls Tryd.prog 22 #[.slice A n c, .slice B m d] w fun e w' => e = .returned (.bool true) ∧ Below w.heap.size w w' := by
  subst hpq
  have q0 : ∀ V, (Op.equalIn 10000 35 (.agg (p.map by1).toArray) (.agg (p.map by1).toArray)).run Tryd.prog V = .ok (decide (p = p)) V := eq_dg p p hp hp
  rw [decide_eq_true rfl] at q0
  clear hp hq
  go_enter Tryd.func22, Tryd.ntmps22
  go_wp2_with (first
    | (go_at_call 51; (with_reducible refine hT1.out.mono ?_); rintro e w1 ⟨A1, c1, rfl, hat1, hb1⟩; replace hat1 := Lib.hid hat1)
    | (go_at_call 51; (with_reducible refine (hT2.out _ hb1).mono ?_); rintro e w2 ⟨A2, c2, rfl, hat2, hb2⟩; have v0 := (hat1.out.below hb2).conv _ c1 rfl; have v1 := hat2.conv _ c2 rfl; replace hb2 := hb1.trans (hb2.mono hb1.size))
    | (go_at_call 20; (with_reducible refine (hH1.out _ hb2).mono ?_); rintro e w3 ⟨rfl, hb3⟩; replace hb3 := hb2.trans (hb3.mono hb2.size))
    | (go_at_call 20; (with_reducible refine (hH2.out _ hb3).mono ?_); rintro e w4 ⟨rfl, hb4⟩; replace hb4 := hb3.trans (hb4.mono hb3.size)))
  go_ret
  exact ⟨rfl, hb4⟩
set_option maxRecDepth 100000 in
set_option maxHeartbeats 4000000 in
theorem clash_tag_n (s t xs ys p q : List UInt8) (n m : Nat) (A B : Option Addr) (c d : Nat) (w : World) (hp : p.length = 32) (hq : q.length = 32) (hT1 : Hid (Calls Tryd.prog 51 #[.slice A n c] w fun e w' => ∃ A' c', e = .returned (.tuple #[.string ⟨s.toArray⟩, .slice A' xs.length c']) ∧ AtO w' A' xs ∧ Below w.heap.size w w')) (hT2 : Hid (∀ V, Below w.heap.size w V → Calls Tryd.prog 51 #[.slice B m d] V fun e w' => ∃ A' c', e = .returned (.tuple #[.string ⟨t.toArray⟩, .slice A' ys.length c']) ∧ AtO w' A' ys ∧ Below V.heap.size V w')) (hH1 : Hid (∀ V, Below w.heap.size w V → Calls Tryd.prog 20 #[.slice A n c] V fun e w' => e = .returned (.agg (p.map by1).toArray) ∧ Below V.heap.size V w')) (hH2 : Hid (∀ V, Below w.heap.size w V → Calls Tryd.prog 20 #[.slice B m d] V fun e w' => e = .returned (.agg (q.map by1).toArray) ∧ Below V.heap.size V w')) (hs : (s == t) = false) (hpq : p ≠ q) :
    Calls Tryd.prog 22 #[.slice A n c, .slice B m d] w fun e w' => e = .returned (.bool false) ∧ Below w.heap.size w w' := by
  have q0 : ∀ V, (Op.equalIn 10000 35 (.agg (p.map by1).toArray) (.agg (q.map by1).toArray)).run Tryd.prog V = .ok (decide (p = q)) V := eq_dg p q hp hq
  rw [decide_eq_false hpq] at q0
  clear hp hq hpq
  go_enter Tryd.func22, Tryd.ntmps22
  go_wp2_with (first
    | (go_at_call 51; (with_reducible refine hT1.out.mono ?_); rintro e w1 ⟨A1, c1, rfl, hat1, hb1⟩; replace hat1 := Lib.hid hat1)
    | (go_at_call 51; (with_reducible refine (hT2.out _ hb1).mono ?_); rintro e w2 ⟨A2, c2, rfl, hat2, hb2⟩; have v0 := (hat1.out.below hb2).conv _ c1 rfl; have v1 := hat2.conv _ c2 rfl; replace hb2 := hb1.trans (hb2.mono hb1.size))
    | (go_at_call 20; (with_reducible refine (hH1.out _ hb2).mono ?_); rintro e w3 ⟨rfl, hb3⟩; replace hb3 := hb2.trans (hb3.mono hb2.size))
    | (go_at_call 20; (with_reducible refine (hH2.out _ hb3).mono ?_); rintro e w4 ⟨rfl, hb4⟩; replace hb4 := hb3.trans (hb4.mono hb3.size)))
  go_ret
  exact ⟨rfl, hb4⟩
set_option maxRecDepth 100000 in
set_option maxHeartbeats 4000000 in
theorem clash_tx_y (s t xs ys p q : List UInt8) (n m : Nat) (A B : Option Addr) (c d : Nat) (w : World) (hp : p.length = 32) (hq : q.length = 32) (hT1 : Hid (Calls Tryd.prog 51 #[.slice A n c] w fun e w' => ∃ A' c', e = .returned (.tuple #[.string ⟨s.toArray⟩, .slice A' xs.length c']) ∧ AtO w' A' xs ∧ Below w.heap.size w w')) (hT2 : Hid (∀ V, Below w.heap.size w V → Calls Tryd.prog 51 #[.slice B m d] V fun e w' => ∃ A' c', e = .returned (.tuple #[.string ⟨t.toArray⟩, .slice A' ys.length c']) ∧ AtO w' A' ys ∧ Below V.heap.size V w')) (hH1 : Hid (∀ V, Below w.heap.size w V → Calls Tryd.prog 20 #[.slice A n c] V fun e w' => e = .returned (.agg (p.map by1).toArray) ∧ Below V.heap.size V w')) (hH2 : Hid (∀ V, Below w.heap.size w V → Calls Tryd.prog 20 #[.slice B m d] V fun e w' => e = .returned (.agg (q.map by1).toArray) ∧ Below V.heap.size V w')) (hs : s = t) (hx : (xs == ys) = false) (hpq : p = q) :
    Calls Tryd.prog 22 #[.slice A n c, .slice B m d] w fun e w' => e = .returned (.bool true) ∧ Below w.heap.size w w' := by
  subst hs
  subst hpq
  have q0 : ∀ V, (Op.equalIn 10000 35 (.agg (p.map by1).toArray) (.agg (p.map by1).toArray)).run Tryd.prog V = .ok (decide (p = p)) V := eq_dg p p hp hp
  rw [decide_eq_true rfl] at q0
  clear hp hq
  go_enter Tryd.func22, Tryd.ntmps22
  go_wp2_with (first
    | (go_at_call 51; (with_reducible refine hT1.out.mono ?_); rintro e w1 ⟨A1, c1, rfl, hat1, hb1⟩; replace hat1 := Lib.hid hat1)
    | (go_at_call 51; (with_reducible refine (hT2.out _ hb1).mono ?_); rintro e w2 ⟨A2, c2, rfl, hat2, hb2⟩; have v0 := (hat1.out.below hb2).conv _ c1 rfl; have v1 := hat2.conv _ c2 rfl; replace hb2 := hb1.trans (hb2.mono hb1.size))
    | (go_at_call 20; (with_reducible refine (hH1.out _ hb2).mono ?_); rintro e w3 ⟨rfl, hb3⟩; replace hb3 := hb2.trans (hb3.mono hb2.size))
    | (go_at_call 20; (with_reducible refine (hH2.out _ hb3).mono ?_); rintro e w4 ⟨rfl, hb4⟩; replace hb4 := hb3.trans (hb4.mono hb3.size)))
  go_ret
  exact ⟨rfl, hb4⟩
set_option maxRecDepth 100000 in
set_option maxHeartbeats 4000000 in
theorem clash_tx_n (s t xs ys p q : List UInt8) (n m : Nat) (A B : Option Addr) (c d : Nat) (w : World) (hp : p.length = 32) (hq : q.length = 32) (hT1 : Hid (Calls Tryd.prog 51 #[.slice A n c] w fun e w' => ∃ A' c', e = .returned (.tuple #[.string ⟨s.toArray⟩, .slice A' xs.length c']) ∧ AtO w' A' xs ∧ Below w.heap.size w w')) (hT2 : Hid (∀ V, Below w.heap.size w V → Calls Tryd.prog 51 #[.slice B m d] V fun e w' => ∃ A' c', e = .returned (.tuple #[.string ⟨t.toArray⟩, .slice A' ys.length c']) ∧ AtO w' A' ys ∧ Below V.heap.size V w')) (hH1 : Hid (∀ V, Below w.heap.size w V → Calls Tryd.prog 20 #[.slice A n c] V fun e w' => e = .returned (.agg (p.map by1).toArray) ∧ Below V.heap.size V w')) (hH2 : Hid (∀ V, Below w.heap.size w V → Calls Tryd.prog 20 #[.slice B m d] V fun e w' => e = .returned (.agg (q.map by1).toArray) ∧ Below V.heap.size V w')) (hs : s = t) (hx : (xs == ys) = false) (hpq : p ≠ q) :
    Calls Tryd.prog 22 #[.slice A n c, .slice B m d] w fun e w' => e = .returned (.bool false) ∧ Below w.heap.size w w' := by
  subst hs
  have q0 : ∀ V, (Op.equalIn 10000 35 (.agg (p.map by1).toArray) (.agg (q.map by1).toArray)).run Tryd.prog V = .ok (decide (p = q)) V := eq_dg p q hp hq
  rw [decide_eq_false hpq] at q0
  clear hp hq hpq
  go_enter Tryd.func22, Tryd.ntmps22
  go_wp2_with (first
    | (go_at_call 51; (with_reducible refine hT1.out.mono ?_); rintro e w1 ⟨A1, c1, rfl, hat1, hb1⟩; replace hat1 := Lib.hid hat1)
    | (go_at_call 51; (with_reducible refine (hT2.out _ hb1).mono ?_); rintro e w2 ⟨A2, c2, rfl, hat2, hb2⟩; have v0 := (hat1.out.below hb2).conv _ c1 rfl; have v1 := hat2.conv _ c2 rfl; replace hb2 := hb1.trans (hb2.mono hb1.size))
    | (go_at_call 20; (with_reducible refine (hH1.out _ hb2).mono ?_); rintro e w3 ⟨rfl, hb3⟩; replace hb3 := hb2.trans (hb3.mono hb2.size))
    | (go_at_call 20; (with_reducible refine (hH2.out _ hb3).mono ?_); rintro e w4 ⟨rfl, hb4⟩; replace hb4 := hb3.trans (hb4.mono hb3.size)))
  go_ret
  exact ⟨rfl, hb4⟩

theorem clash_any (a b : List Lk) (n m : Nat) (A B : Option Addr) (c d : Nat) (w : World) (hn : a.length = n) (hm : b.length = m) (hnm : n ≤ 1000) (hmm : m ≤ 1000) (hc : n ≤ c) (hd : m ≤ d) (hA : LsAt w A a) (hB : LsAt w B b) (oka : ∀ x ∈ a, LkOk x) (okb : ∀ x ∈ b, LkOk x) (hL : Laid w) :
    Calls Tryd.prog 22 #[.slice A n c, .slice B m d] w fun e w' => e = .returned (.bool (clB a b)) ∧ Below w.heap.size w w' := by
  have hT1 := Lib.hid (rtext_any a n A c w hn (by omega) hc hA oka)
  have hT2 : Hid (∀ V, Below w.heap.size w V → Calls Tryd.prog 51 #[.slice B m d] V fun e w' => ∃ A' c', e = .returned (.tuple #[.string (txC b).1, .slice A' (txC b).2.length c']) ∧ AtO w' A' (txC b).2 ∧ Below V.heap.size V w') := Lib.hid fun V h => rtext_any b m B d V hm (by omega) hd (hB.below h) okb
  have hH1 : Hid (∀ V, Below w.heap.size w V → Calls Tryd.prog 20 #[.slice A n c] V fun e w' => e = .returned (.agg ((hdC a).map by1).toArray) ∧ Below V.heap.size V w') := Lib.hid fun V h => head_any a n A c V hn (by omega) hc (hA.below h) oka (hL.below h)
  have hH2 : Hid (∀ V, Below w.heap.size w V → Calls Tryd.prog 20 #[.slice B m d] V fun e w' => e = .returned (.agg ((hdC b).map by1).toArray) ∧ Below V.heap.size V w') := Lib.hid fun V h => head_any b m B d V hm (by omega) hd (hB.below h) okb (hL.below h)
  rw [← bytes_eta (txC a).1] at hT1
  rw [← bytes_eta (txC b).1] at hT2
  have hp := hdC_len a
  have hq := hdC_len b
  by_cases hs : (txC a).1.data.toList = (txC b).1.data.toList
  · by_cases hx : (txC a).2 = (txC b).2
    · have e : clB a b = false := clB_false (fun h => h.1 (Prod.ext (by rw [← bytes_eta (txC a).1, ← bytes_eta (txC b).1, hs]) hx))
      rw [e]
      exact clash_same _ _ _ _ _ _ n m A B c d w hp hq hT1 hT2 hH1 hH2 hs hx
    · have hx2 : ((txC a).2 == (txC b).2) = false := by simpa using hx
      have hne : txC a ≠ txC b := fun h => hx (by rw [h])
      by_cases hh : hdC a = hdC b
      · have e : clB a b = true := clB_true ⟨hne, hh⟩
        rw [e]
        exact clash_tx_y _ _ _ _ _ _ n m A B c d w hp hq hT1 hT2 hH1 hH2 hs hx2 hh
      · have e : clB a b = false := clB_false (fun h => hh h.2)
        rw [e]
        exact clash_tx_n _ _ _ _ _ _ n m A B c d w hp hq hT1 hT2 hH1 hH2 hs hx2 hh
  · have hs2 : ((txC a).1.data.toList == (txC b).1.data.toList) = false := by simpa using hs
    have hne : txC a ≠ txC b := fun h => hs (by rw [h])
    by_cases hh : hdC a = hdC b
    · have e : clB a b = true := clB_true ⟨hne, hh⟩
      rw [e]
      exact clash_tag_y _ _ _ _ _ _ n m A B c d w hp hq hT1 hT2 hH1 hH2 hs2 hh
    · have e : clB a b = false := clB_false (fun h => hh h.2)
      rw [e]
      exact clash_tag_n _ _ _ _ _ _ n m A B c d w hp hq hT1 hT2 hH1 hH2 hs2 hh
end Go.Proofs.YthokpfegfnpmhaaDoor
