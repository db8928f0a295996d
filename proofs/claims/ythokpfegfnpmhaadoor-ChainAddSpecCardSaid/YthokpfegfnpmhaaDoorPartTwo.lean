/- The walks of the reference's Same, of chain's differ and Part. -/
import Derived.Test.YthokpfegfnpmhaaDoorChainPart1
import Derived.Test.YthokpfegfnpmhaaDoorChainCheck
import Derived.Deep.QuietTactic
import Derived.BigQuiet
import Derived.LoopTactic
import Derived.Deep.RegionHeld3
namespace Go.Proofs.YthokpfegfnpmhaaDoor
open Go.RowKit Cdc Sha
set_option linter.unusedVariables false
set_option linter.unusedSimpArgs false

/-- the first place at which two lists differ -/
def diffC : List Lk → List Lk → Option Nat
  | x :: a, y :: b => if x = y then (diffC a b).map (· + 1) else some 0
  | _, _ => none
theorem diffC_none : ∀ (a b : List Lk), (∀ (i : Nat) (x y : Lk), a[i]? = some x → b[i]? = some y → x = y) → diffC a b = none
  | [], b, _ => by cases b <;> rfl
  | _ :: _, [], _ => rfl
  | x :: a, y :: b, h => by
    have e := h 0 x y rfl rfl
    simp only [diffC, if_pos e]
    rw [diffC_none a b fun i u v hu hv => h (i + 1) u v (by simpa using hu) (by simpa using hv)]
    rfl
theorem diffC_some : ∀ (a b : List Lk) (i : Nat) (x y : Lk), (∀ j u v, j < i → a[j]? = some u → b[j]? = some v → u = v) → a[i]? = some x → b[i]? = some y → x ≠ y → diffC a b = some i
  | [], b, i, x, y, _, hx, _, _ => by simp at hx
  | _ :: _, [], i, x, y, _, _, hy, _ => by simp at hy
  | u :: a, v :: b, 0, x, y, _, hx, hy, hne => by
    simp at hx hy
    subst hx hy
    simp only [diffC, if_neg hne]
  | u :: a, v :: b, i + 1, x, y, h, hx, hy, hne => by
    have e := h 0 u v (by omega) rfl rfl
    simp only [diffC, if_pos e]
    rw [diffC_some a b i x y (fun j p q hj hp hq => h (j + 1) p q (by omega) (by simpa using hp) (by simpa using hq)) (by simpa using hx) (by simpa using hy) hne]
    rfl

/-- two links out of two lists: what a walk's region reads -/
theorem two_at {w W : World} {A B : Option Addr} {a b : List Lk} {i : Nat} {x y : Lk} (hA : LsAt w A a) (hB : LsAt w B b) (hb : Below w.heap.size w W) (hx : a[i]? = some x) (hy : b[i]? = some y) :
    ∃ b1 o1 b2 o2 A1 c1 A2 c2, A = some ⟨b1, o1, none⟩ ∧ B = some ⟨b2, o2, none⟩ ∧ (∀ V, Below W.heap.size W V → V.rangeAt b1 (o1 + i * 35) (lkC x (.slice A1 x.data.length c1)) ∧ V.rangeAt b2 (o2 + i * 35) (lkC y (.slice A2 y.data.length c2)) ∧ AtO V A1 x.data ∧ AtO V A2 y.data) := by
  obtain ⟨b1, o1, D1, rfl, h1, A1, c1, rfl, _, _, d1⟩ := hA i x hx
  obtain ⟨b2, o2, D2, rfl, h2, A2, c2, rfl, _, _, d2⟩ := hB i y hy
  exact ⟨b1, o1, b2, o2, A1, c1, A2, c2, rfl, rfl, fun V hV => ⟨range_below h1 (hb.trans (hV.mono hb.size)), range_below h2 (hb.trans (hV.mono hb.size)), d1.below (hb.trans (hV.mono hb.size)), d2.below (hb.trans (hV.mono hb.size))⟩⟩

set_option maxRecDepth 100000 in
set_option maxHeartbeats 2000000 in
theorem same_len (n m : Nat) (A B : Option Addr) (c d : Nat) (w : World) (h : n ≠ m) :
    Calls Tryd.prog 19 #[.slice A n c, .slice B m d] w fun e w' => e = .returned (.bool false) ∧ w' = w := by
  have e : ((n : Int) != (m : Int)) = true := by simp; omega
  go_enter Tryd.func19, Tryd.ntmps19
  go_wp2
  go_ret
  exact ⟨rfl, rfl⟩

set_option maxRecDepth 100000 in
set_option maxHeartbeats 4000000 in
theorem same_in (a b : List Lk) (n : Nat) (A B : Option Addr) (c d : Nat) (w : World) (hn : a.length = n) (hm : b.length = n) (hnm : n ≤ 1000) (hc : n ≤ c) (hd : n ≤ d) (hA : LsAt w A a) (hB : LsAt w B b) (hpa : ∀ x ∈ a, x.prev.length = 32) (hpb : ∀ x ∈ b, x.prev.length = 32) :
    Calls Tryd.prog 19 #[.slice A n c, .slice B n d] w fun e w' => e = .returned (.bool (decide (a = b))) ∧ Below w.heap.size w w' := by
  replace hA := Lib.hid hA
  replace hB := Lib.hid hB
  replace hn := Lib.hid hn
  replace hm := Lib.hid hm
  replace hpa := Lib.hid hpa
  replace hpb := Lib.hid hpb
  have e0 : ((n : Int) != (n : Int)) = false := by simp
  go_enter Tryd.func19, Tryd.ntmps19
  go_wp2
  go_loopw [5] (fun s wr => ∃ i : Nat, i ≤ n ∧ s = .int .i64 i ∧ Hid (∀ j u v, j < i → a[j]? = some u → b[j]? = some v → u = v) ∧ Below w.heap.size w wr) (fun s _ => n - (intOf s).toNat)
  case atStart => exact ⟨0, Nat.zero_le _, rfl, Lib.hid (fun j u v hj => by omega), Below.refl _ _⟩
  case round =>
    obtain ⟨i, hi, rfl, ha, hbw⟩ := hrel
    by_cases hlt : i < n
    · obtain ⟨x, hx⟩ : ∃ x, a[i]? = some x := ⟨_, List.getElem?_eq_getElem (by rw [hn.out]; omega)⟩
      obtain ⟨y, hy⟩ : ∃ y, b[i]? = some y := ⟨_, List.getElem?_eq_getElem (by rw [hm.out]; omega)⟩
      have px := hpa.out x (List.mem_of_getElem? hx)
      have py := hpb.out y (List.mem_of_getElem? hy)
      obtain ⟨b1, o1, b2, o2, A1, c1, A2, c2, rfl, rfl, hV⟩ := two_at hA.out hB.out hbw hx hy
      have hu := Tryd.underlying37
      have i1 := lk_info' px (.slice A1 x.data.length c1)
      have i2 := lk_info' py (.slice A2 y.data.length c2)
      have hS : Hid (∀ V, Below wr.heap.size wr V → V.rangeAt b1 (o1 + i * 35) (lkC x (.slice A1 x.data.length c1)) ∧ V.rangeAt b2 (o2 + i * 35) (lkC y (.slice A2 y.data.length c2))) := Lib.hid fun V h => ⟨(hV V h).1, (hV V h).2.1⟩
      have hC : Hid (∀ V, Below wr.heap.size wr V → Calls Tryd.prog 23 #[.agg (lkC x (.slice A1 x.data.length c1)).toArray, .agg (lkC y (.slice A2 y.data.length c2)).toArray] V fun e w' => e = .returned (.bool (decide (x = y))) ∧ Below V.heap.size V w') := Lib.hid fun V h =>
        samelink_any x y A1 A2 _ _ c1 c2 V px py rfl rfl (hV V h).2.2.1 (hV V h).2.2.2
      have hres : Hid ((x = y → ∀ j u v, j < i + 1 → a[j]? = some u → b[j]? = some v → u = v) ∧ (x ≠ y → decide (a = b) = false)) := Lib.hid ⟨fun e j u v hj hu hv => by
        by_cases e2 : j = i
        · subst e2; rw [hx] at hu; rw [hy] at hv; cases hu; cases hv; exact e
        · exact ha.out j u v (by omega) hu hv, fun e => decide_eq_false (fun e2 => by subst e2; rw [hx] at hy; cases hy; exact e rfl)⟩
      have HB : Below wr.heap.size wr wr.drew := (Below.refl _ _).drew
      obtain ⟨q, hq⟩ : ∃ q, decide (x = y) = q := ⟨_, rfl⟩
      rw [hq] at hC
      replace hbw := Lib.hid hbw
      clear hV ha px py hx hy
      go_wp2_with fail
      refine wp_region_held_drew (S := (fun w' => w'.rangeAt b1 (o1 + i * 35) (lkC x (.slice A1 x.data.length c1)) ∧ w'.rangeAt b2 (o2 + i * 35) (lkC y (.slice A2 y.data.length c2)))) (by kernel_rfl) (hS.out _ HB) (fun hHeld => ?_)
      refine wpAnyH_take (i := 0) (v := .slice (some ⟨b1, o1, none⟩) n c) rfl (by kernel_rfl) (by kernel_rfl) (by kernel_rfl) (fun _ _ _ h => h) (Or.inl ⟨by rfl, by intro w hSw; go_simp⟩) hHeld ?_
      simp only [Act.put, List.setIfInBounds_toArray, List.set_cons_zero, List.set_cons_succ]
      refine wpAnyH_take (i := 1) (v := .int .i64 i) rfl (by kernel_rfl) (by kernel_rfl) (by kernel_rfl) (fun _ _ _ h => h) (Or.inl ⟨by rfl, by intro w hSw; go_simp⟩) hHeld ?_
      simp only [Act.put, List.setIfInBounds_toArray, List.set_cons_zero, List.set_cons_succ]
      refine wpAnyH_take (i := 2) (v := .pointer (some ⟨b1, o1 + i * 35, none⟩)) rfl (by kernel_rfl) (by kernel_rfl) (by kernel_rfl) (fun _ _ _ h => h) (Or.inl ⟨by rfl, by intro w hSw; go_simp⟩) hHeld ?_
      simp only [Act.put, List.setIfInBounds_toArray, List.set_cons_zero, List.set_cons_succ]
      refine wpAnyH_take (i := 3) (v := .agg (lkC x (.slice A1 x.data.length c1)).toArray) rfl (by kernel_rfl) (by kernel_rfl) (by kernel_rfl) (fun _ _ _ h => h) (yieldsIf_load_mid (by rfl) _ _ rfl b1 (o1 + i * 35) rfl (lkC x (.slice A1 x.data.length c1)) _ (fun w h => h.1) hu rfl i1) hHeld ?_
      simp only [Act.put, List.setIfInBounds_toArray, List.set_cons_zero, List.set_cons_succ]
      refine wpAnyH_take (i := 4) (v := .slice (some ⟨b2, o2, none⟩) n d) rfl (by kernel_rfl) (by kernel_rfl) (by kernel_rfl) (fun _ _ _ h => h) (Or.inl ⟨by rfl, by intro w hSw; go_simp⟩) hHeld ?_
      simp only [Act.put, List.setIfInBounds_toArray, List.set_cons_zero, List.set_cons_succ]
      refine wpAnyH_take (i := 5) (v := .int .i64 i) rfl (by kernel_rfl) (by kernel_rfl) (by kernel_rfl) (fun _ _ _ h => h) (Or.inl ⟨by rfl, by intro w hSw; go_simp⟩) hHeld ?_
      simp only [Act.put, List.setIfInBounds_toArray, List.set_cons_zero, List.set_cons_succ]
      refine wpAnyH_take (i := 6) (v := .pointer (some ⟨b2, o2 + i * 35, none⟩)) rfl (by kernel_rfl) (by kernel_rfl) (by kernel_rfl) (fun _ _ _ h => h) (Or.inl ⟨by rfl, by intro w hSw; go_simp⟩) hHeld ?_
      simp only [Act.put, List.setIfInBounds_toArray, List.set_cons_zero, List.set_cons_succ]
      refine wpAnyH_take (i := 7) (v := .agg (lkC y (.slice A2 y.data.length c2)).toArray) rfl (by kernel_rfl) (by kernel_rfl) (by kernel_rfl) (fun _ _ _ h => h) (yieldsIf_load_mid (by rfl) _ _ rfl b2 (o2 + i * 35) rfl (lkC y (.slice A2 y.data.length c2)) _ (fun w h => h.2) hu rfl i2) hHeld ?_
      simp only [Act.put, List.setIfInBounds_toArray, List.set_cons_zero, List.set_cons_succ]
      refine wpAnyH_ready (rs := [8]) (by kernel_rfl) (by simp) (AllReadyH.cons rfl (fun K hK => ?_) AllReadyH.nil)
      rw [if_pos (by rfl)]
      go_simp
      (go_at_call 23; (with_reducible refine (hC.out _ HB).mono ?_); rintro e w4 ⟨rfl, hb⟩; replace HB := HB.trans (hb.mono HB.size); clear hb)
      refine hK.out _ _ (hS.out _ HB) (fun hHeld2 => ?_)
      clear hK K hHeld
      try simp only [Act.put, List.setIfInBounds_toArray, List.set_cons_zero, List.set_cons_succ]
      refine wpAnyH_take (i := 9) (v := .bool (!q)) rfl (by kernel_rfl) (by kernel_rfl) (by kernel_rfl) (fun _ _ _ h => h) (Or.inl ⟨by rfl, by intro w hSw; go_simp⟩) hHeld2 ?_
      simp only [Act.put, List.setIfInBounds_toArray, List.set_cons_zero, List.set_cons_succ]
      refine wpAnyH_done (by kernel_rfl) ?_ _
      cases q
      · replace hres := hres.out.2 (by simpa using hq)
        go_wp2
        go_ret
        exact ⟨by rw [hres]; rfl, hbw.out.trans (HB.mono hbw.out.size)⟩
      · replace hres := hres.out.1 (by simpa using hq)
        have hbw2 := hbw.out.trans (HB.mono hbw.out.size)
        go_wp2
        go_roundw
        case rel => exact ⟨i + 1, by omega, by go_num, Lib.hid hres, hbw2⟩
        case measure => simp [intOf]; omega
    · have e : a = b := by
        apply List.ext_getElem?
        intro j
        by_cases hj : j < n
        · have h1 : a[j]? = some (a[j]'(by rw [hn.out]; exact hj)) := List.getElem?_eq_getElem _
          have h2 : b[j]? = some (b[j]'(by rw [hm.out]; exact hj)) := List.getElem?_eq_getElem _
          rw [h1, h2, ha.out j _ _ (by omega) h1 h2]
        · rw [List.getElem?_eq_none (by rw [hn.out]; omega), List.getElem?_eq_none (by rw [hm.out]; omega)]
      have e2 := decide_eq_true e
      go_wp2
      go_ret
      exact ⟨by rw [e2]; rfl, hbw⟩

theorem same_any (a b : List Lk) (n m : Nat) (A B : Option Addr) (c d : Nat) (w : World) (hn : a.length = n) (hm : b.length = m) (hnm : n ≤ 1000) (hc : n ≤ c) (hd : m ≤ d) (hA : LsAt w A a) (hB : LsAt w B b) (hpa : ∀ x ∈ a, x.prev.length = 32) (hpb : ∀ x ∈ b, x.prev.length = 32) :
    Calls Tryd.prog 19 #[.slice A n c, .slice B m d] w fun e w' => e = .returned (.bool (decide (a = b))) ∧ Below w.heap.size w w' := by
  by_cases h : n = m
  · subst h
    exact same_in a b n A B c d w hn hm hnm hc hd hA hB hpa hpb
  · refine (same_len n m A B c d w h).mono ?_
    rintro e w' ⟨rfl, rfl⟩
    have : a ≠ b := fun e => h (by rw [← hn, ← hm, e])
    rw [decide_eq_false this]
    exact ⟨rfl, Below.refl _ _⟩
end Go.Proofs.YthokpfegfnpmhaaDoor
/- The walks of chain's differ and Part. -/
namespace Go.Proofs.YthokpfegfnpmhaaDoor
open Go.RowKit Cdc Sha
set_option linter.unusedVariables false
set_option linter.unusedSimpArgs false

set_option maxRecDepth 100000 in
set_option maxHeartbeats 4000000 in
theorem differ_any (a b : List Lk) (n m : Nat) (A B : Option Addr) (c d : Nat) (w : World) (hn : a.length = n) (hm : b.length = m) (hnm : n ≤ 1000) (hmm : m ≤ 1000) (hc : n ≤ c) (hd : m ≤ d) (hA : LsAt w A a) (hB : LsAt w B b) (hpa : ∀ x ∈ a, x.prev.length = 32) (hpb : ∀ x ∈ b, x.prev.length = 32) :
    Calls Tryd.prog 44 #[.slice A n c, .slice B m d, .func (.func 45) #[] #[]] w fun e w' => e = .returned (.tuple #[.int .i64 (((diffC a b).getD 0 : Nat) : Int), .bool (diffC a b).isSome]) ∧ Below w.heap.size w w' := by
  replace hA := Lib.hid hA
  replace hB := Lib.hid hB
  replace hn := Lib.hid hn
  replace hm := Lib.hid hm
  replace hpa := Lib.hid hpa
  replace hpb := Lib.hid hpb
  go_enter Tryd.func44, Tryd.ntmps44
  go_wp2
  obtain ⟨mn, hmn⟩ : ∃ mn : Nat, min n m = mn := ⟨_, rfl⟩
  have hmi : min (n : Int) (m : Int) = (mn : Int) := by omega
  rw [hmi]
  clear hmi
  go_loopw [14] (fun s wr => ∃ i : Nat, i ≤ mn ∧ s = .int .i64 i ∧ Hid (∀ j u v, j < i → a[j]? = some u → b[j]? = some v → u = v) ∧ Below w.heap.size w wr) (fun s _ => mn - (intOf s).toNat)
  case atStart => exact ⟨0, Nat.zero_le _, rfl, Lib.hid (fun j u v hj => by omega), Below.refl _ _⟩
  case round =>
    obtain ⟨i, hi, rfl, ha, hbw⟩ := hrel
    by_cases hlt : i < mn
    · obtain ⟨x, hx⟩ : ∃ x, a[i]? = some x := ⟨_, List.getElem?_eq_getElem (by rw [hn.out]; omega)⟩
      obtain ⟨y, hy⟩ : ∃ y, b[i]? = some y := ⟨_, List.getElem?_eq_getElem (by rw [hm.out]; omega)⟩
      have px := hpa.out x (List.mem_of_getElem? hx)
      have py := hpb.out y (List.mem_of_getElem? hy)
      obtain ⟨b1, o1, b2, o2, A1, c1, A2, c2, rfl, rfl, hV⟩ := two_at hA.out hB.out hbw hx hy
      have hu := Tryd.underlying37
      have i1 := lk_info' px (.slice A1 x.data.length c1)
      have i2 := lk_info' py (.slice A2 y.data.length c2)
      have hS : Hid (∀ V, Below wr.heap.size wr V → V.rangeAt b1 (o1 + i * 35) (lkC x (.slice A1 x.data.length c1)) ∧ V.rangeAt b2 (o2 + i * 35) (lkC y (.slice A2 y.data.length c2))) := Lib.hid fun V h => ⟨(hV V h).1, (hV V h).2.1⟩
      have hC : Hid (∀ V, Below wr.heap.size wr V → Calls Tryd.prog 45 #[.agg (lkC x (.slice A1 x.data.length c1)).toArray, .agg (lkC y (.slice A2 y.data.length c2)).toArray] V fun e w' => e = .returned (.bool (decide (x = y))) ∧ Below V.heap.size V w') := Lib.hid fun V h =>
        part1_any x y A1 A2 _ _ c1 c2 V px py rfl rfl (hV V h).2.2.1 (hV V h).2.2.2
      have hres : Hid ((x = y → ∀ j u v, j < i + 1 → a[j]? = some u → b[j]? = some v → u = v) ∧ (x ≠ y → diffC a b = some i)) := Lib.hid ⟨fun e j u v hj hu hv => by
        by_cases e2 : j = i
        · subst e2; rw [hx] at hu; rw [hy] at hv; cases hu; cases hv; exact e
        · exact ha.out j u v (by omega) hu hv, fun e => diffC_some a b i x y ha.out hx hy e⟩
      have HB : Below wr.heap.size wr wr.drew := (Below.refl _ _).drew
      obtain ⟨q, hq⟩ : ∃ q, decide (x = y) = q := ⟨_, rfl⟩
      rw [hq] at hC
      replace hbw := Lib.hid hbw
      have hin : i < n := by omega
      have him : i < m := by omega
      clear hV ha px py hx hy
      go_wp2_with fail
      refine wp_region_held_drew (S := (fun w' => w'.rangeAt b1 (o1 + i * 35) (lkC x (.slice A1 x.data.length c1)) ∧ w'.rangeAt b2 (o2 + i * 35) (lkC y (.slice A2 y.data.length c2)))) (by kernel_rfl) (hS.out _ HB) (fun hHeld => ?_)
      refine wpAnyH_take (i := 0) (v := .func (.func 45) #[] #[]) rfl (by kernel_rfl) (by kernel_rfl) (by kernel_rfl) (fun _ _ _ h => h) (Or.inl ⟨by rfl, by intro w hSw; go_simp⟩) hHeld ?_
      simp only [Act.put, List.setIfInBounds_toArray, List.set_cons_zero, List.set_cons_succ]
      refine wpAnyH_take (i := 1) (v := .slice (some ⟨b1, o1, none⟩) n c) rfl (by kernel_rfl) (by kernel_rfl) (by kernel_rfl) (fun _ _ _ h => h) (Or.inl ⟨by rfl, by intro w hSw; go_simp⟩) hHeld ?_
      simp only [Act.put, List.setIfInBounds_toArray, List.set_cons_zero, List.set_cons_succ]
      refine wpAnyH_take (i := 2) (v := .int .i64 i) rfl (by kernel_rfl) (by kernel_rfl) (by kernel_rfl) (fun _ _ _ h => h) (Or.inl ⟨by rfl, by intro w hSw; go_simp⟩) hHeld ?_
      simp only [Act.put, List.setIfInBounds_toArray, List.set_cons_zero, List.set_cons_succ]
      refine wpAnyH_take (i := 3) (v := .pointer (some ⟨b1, o1 + i * 35, none⟩)) rfl (by kernel_rfl) (by kernel_rfl) (by kernel_rfl) (fun _ _ _ h => h) (Or.inl ⟨by rfl, by intro w hSw; go_simp⟩) hHeld ?_
      simp only [Act.put, List.setIfInBounds_toArray, List.set_cons_zero, List.set_cons_succ]
      refine wpAnyH_take (i := 4) (v := .agg (lkC x (.slice A1 x.data.length c1)).toArray) rfl (by kernel_rfl) (by kernel_rfl) (by kernel_rfl) (fun _ _ _ h => h) (yieldsIf_load_mid (by rfl) _ _ rfl b1 (o1 + i * 35) rfl (lkC x (.slice A1 x.data.length c1)) _ (fun w h => h.1) hu rfl i1) hHeld ?_
      simp only [Act.put, List.setIfInBounds_toArray, List.set_cons_zero, List.set_cons_succ]
      refine wpAnyH_take (i := 5) (v := .slice (some ⟨b2, o2, none⟩) m d) rfl (by kernel_rfl) (by kernel_rfl) (by kernel_rfl) (fun _ _ _ h => h) (Or.inl ⟨by rfl, by intro w hSw; go_simp⟩) hHeld ?_
      simp only [Act.put, List.setIfInBounds_toArray, List.set_cons_zero, List.set_cons_succ]
      refine wpAnyH_take (i := 6) (v := .int .i64 i) rfl (by kernel_rfl) (by kernel_rfl) (by kernel_rfl) (fun _ _ _ h => h) (Or.inl ⟨by rfl, by intro w hSw; go_simp⟩) hHeld ?_
      simp only [Act.put, List.setIfInBounds_toArray, List.set_cons_zero, List.set_cons_succ]
      refine wpAnyH_take (i := 7) (v := .pointer (some ⟨b2, o2 + i * 35, none⟩)) rfl (by kernel_rfl) (by kernel_rfl) (by kernel_rfl) (fun _ _ _ h => h) (Or.inl ⟨by rfl, by intro w hSw; go_simp⟩) hHeld ?_
      simp only [Act.put, List.setIfInBounds_toArray, List.set_cons_zero, List.set_cons_succ]
      refine wpAnyH_take (i := 8) (v := .agg (lkC y (.slice A2 y.data.length c2)).toArray) rfl (by kernel_rfl) (by kernel_rfl) (by kernel_rfl) (fun _ _ _ h => h) (yieldsIf_load_mid (by rfl) _ _ rfl b2 (o2 + i * 35) rfl (lkC y (.slice A2 y.data.length c2)) _ (fun w h => h.2) hu rfl i2) hHeld ?_
      simp only [Act.put, List.setIfInBounds_toArray, List.set_cons_zero, List.set_cons_succ]
      refine wpAnyH_ready (rs := [9]) (by kernel_rfl) (by simp) (AllReadyH.cons rfl (fun K hK => ?_) AllReadyH.nil)
      rw [if_pos (by rfl)]
      go_simp
      (go_at_call 45; (with_reducible refine (hC.out _ HB).mono ?_); rintro e w4 ⟨rfl, hb⟩; replace HB := HB.trans (hb.mono HB.size); clear hb)
      refine hK.out _ _ (hS.out _ HB) (fun hHeld2 => ?_)
      clear hK K hHeld
      try simp only [Act.put, List.setIfInBounds_toArray, List.set_cons_zero, List.set_cons_succ]
      refine wpAnyH_take (i := 10) (v := .bool (!q)) rfl (by kernel_rfl) (by kernel_rfl) (by kernel_rfl) (fun _ _ _ h => h) (Or.inl ⟨by rfl, by intro w hSw; go_simp⟩) hHeld2 ?_
      simp only [Act.put, List.setIfInBounds_toArray, List.set_cons_zero, List.set_cons_succ]
      refine wpAnyH_done (by kernel_rfl) ?_ _
      cases q
      · replace hres := hres.out.2 (by simpa using hq)
        go_wp2
        refine bodyPost_ret (v := .tuple #[.int .i64 (i : Int), .bool true]) (by simp [results, Tryd.results44, go_sem]) rfl ⟨by rw [hres]; rfl, hbw.out.trans (HB.mono hbw.out.size)⟩
      · replace hres := hres.out.1 (by simpa using hq)
        have hbw2 := hbw.out.trans (HB.mono hbw.out.size)
        go_wp2
        go_roundw
        case rel => exact ⟨i + 1, by omega, by go_num, Lib.hid hres, hbw2⟩
        case measure => simp [intOf]; omega
    · have e : diffC a b = none := diffC_none a b fun j u v hu hv => ha.out j u v (by
        have h1 := (List.getElem?_eq_some_iff.1 hu).1
        have h2 := (List.getElem?_eq_some_iff.1 hv).1
        rw [hn.out] at h1
        rw [hm.out] at h2
        omega) hu hv
      replace e := Lib.hid e
      go_wp2
      refine bodyPost_ret (v := .tuple #[.int .i64 0, .bool false]) (by simp [results, Tryd.results44, go_sem]) rfl ⟨by rw [e.out]; rfl, hbw⟩

theorem below_drewN {n : Nat} {w W : World} (h : Below n w W) (k : Nat) : Below n w (W.drewN k) := ⟨h.os, h.tape, h.output, h.size, h.block⟩

open Classical in
/-- what Part answers -/
noncomputable def partC (a b : List Lk) : Nat × Bool × Int :=
  if ¬ OkL a then (0, false, 80) else if ¬ OkL b then (0, false, 80)
  else if ∃ x y, a[0]? = some x ∧ b[0]? = some y ∧ x.node ≠ y.node then (0, false, 80) else ((diffC a b).getD 0, (diffC a b).isSome, 0)

set_option maxRecDepth 100000 in
set_option maxHeartbeats 8000000 in
theorem part_any (a b : List Lk) (n m : Nat) (A B : Option Addr) (c d : Nat) (w : World) (hn : a.length = n) (hm : b.length = m) (hnm : n ≤ 1000) (hmm : m ≤ 1000) (hc : n ≤ c) (hd : m ≤ d) (hA : LsAt w A a) (hB : LsAt w B b) (hpa : ∀ x ∈ a, LkOk x) (hpb : ∀ x ∈ b, LkOk x) (hL : Laid w) :
    Calls Tryd.prog 17 #[.slice A n c, .slice B m d] w fun e w' => e = .returned (.tuple #[.int .i64 ((partC a b).1 : Int), .bool (partC a b).2.1, .int .i64 (partC a b).2.2]) ∧ Below w.heap.size w w' := by
  have h1 : Hid (Calls Tryd.prog 21 #[.slice A n c] w fun e w' => e = .returned (.int .i64 (ckC a)) ∧ Below w.heap.size w w') := Lib.hid (check_any8 a n A c w hn hnm hc hA hpa hL)
  have h2 : Hid (∀ V, Below w.heap.size w V → Calls Tryd.prog 21 #[.slice B m d] V fun e w' => e = .returned (.int .i64 (ckC b)) ∧ Below V.heap.size V w') := Lib.hid fun V h => check_any8 b m B d V hm hmm hd (hB.below h) hpb (hL.below h)
  by_cases oa : OkL a
  · by_cases ob : OkL b
    · rw [ckC_ok oa] at h1
      rw [ckC_ok ob] at h2
      have h3 : Hid (∀ V, Below w.heap.size w V → Calls Tryd.prog 44 #[.slice A n c, .slice B m d, .func (.func 45) #[] #[]] V fun e w' => e = .returned (.tuple #[.int .i64 (((diffC a b).getD 0 : Nat) : Int), .bool (diffC a b).isSome]) ∧ Below V.heap.size V w') := Lib.hid fun V h =>
        differ_any a b n m A B c d V hn hm hnm hmm hc hd (hA.below h) (hB.below h) (fun x hx => (hpa x hx).p32) (fun x hx => (hpb x hx).p32)
      have hE : Hid (a = [] ∨ b = [] → partC a b = (0, false, 0)) := Lib.hid fun h => by
        unfold partC
        rw [if_neg (by simpa using oa), if_neg (by simpa using ob), if_neg (by rintro ⟨x, y, hx, hy, _⟩; rcases h with rfl | rfl <;> simp at hx hy)]
        rcases h with rfl | rfl
        · cases b <;> rfl
        · cases a <;> rfl
      by_cases n0 : n = 0
      · subst n0
        have e0 := List.length_eq_zero_iff.1 hn
        have hD : diffC a b = none := by rw [e0]; cases b <;> rfl
        rw [hD] at h3
        rw [hE.out (.inl e0)]
        clear hA hB hpa hpb hn hm hE hD e0
        go_enter Tryd.func17, Tryd.ntmps17
        go_wp2_with (first
          | (go_at_call 21; (with_reducible refine h1.out.mono ?_); rintro e w1 ⟨rfl, hb1⟩)
          | (go_at_call 21; (with_reducible refine (h2.out _ hb1).mono ?_); rintro e w2 ⟨rfl, hb2⟩))
        have HB := hb1.trans (hb2.mono hb1.size)
        go_quiet (fail)
        have HB2 := below_drewN HB nq
        go_wp2_with (go_at_call 44; (with_reducible refine (h3.out _ HB2).mono ?_); rintro e w3 ⟨rfl, hb3⟩)
        refine bodyPost_ret (v := .tuple #[.int .i64 0, .bool false, .int .i64 0]) (by simp [results, Tryd.results17, go_sem]) rfl ⟨rfl, HB2.trans (hb3.mono HB2.size)⟩
      · have hN : 0 < n := by omega
        by_cases m0 : m = 0
        · subst m0
          have e0 := List.length_eq_zero_iff.1 hm
          have hD : diffC a b = none := by rw [e0]; cases a <;> rfl
          rw [hD] at h3
          rw [hE.out (.inr e0)]
          clear hA hB hpa hpb hn hm hE hD e0
          go_enter Tryd.func17, Tryd.ntmps17
          go_wp2_with (first
            | (go_at_call 21; (with_reducible refine h1.out.mono ?_); rintro e w1 ⟨rfl, hb1⟩)
            | (go_at_call 21; (with_reducible refine (h2.out _ hb1).mono ?_); rintro e w2 ⟨rfl, hb2⟩))
          have HB := hb1.trans (hb2.mono hb1.size)
          go_quiet (fail)
          have HB2 := below_drewN HB nq
          go_wp2_with (go_at_call 44; (with_reducible refine (h3.out _ HB2).mono ?_); rintro e w3 ⟨rfl, hb3⟩)
          refine bodyPost_ret (v := .tuple #[.int .i64 0, .bool false, .int .i64 0]) (by simp [results, Tryd.results17, go_sem]) rfl ⟨rfl, HB2.trans (hb3.mono HB2.size)⟩
        · obtain ⟨x, hx⟩ : ∃ x, a[0]? = some x := ⟨_, List.getElem?_eq_getElem (by omega)⟩
          obtain ⟨y, hy⟩ : ∃ y, b[0]? = some y := ⟨_, List.getElem?_eq_getElem (by omega)⟩
          obtain ⟨b1, o1, D1, hA1, q1, _⟩ := hA 0 x hx
          obtain ⟨b2, o2, D2, hB1, q2, _⟩ := hB 0 y hy
          subst hA1 hB1
          have hc1 : Hid (∀ V, Below w.heap.size w V → V.cell? ⟨b1, o1, none⟩ = some (.int .i64 x.node)) := Lib.hid fun V h => by
            have := range_below q1 h 0 (.int .i64 x.node) (by simp [lkC])
            simpa using this
          have hc2 : Hid (∀ V, Below w.heap.size w V → V.cell? ⟨b2, o2, none⟩ = some (.int .i64 y.node)) := Lib.hid fun V h => by
            have := range_below q2 h 0 (.int .i64 y.node) (by simp [lkC])
            simpa using this
          have hM : 0 < m := by omega
          have hm1 : 0 < m := by omega
          have hn1 : 0 < n := by omega
          by_cases hxy : x.node = y.node
          · have hP : partC a b = ((diffC a b).getD 0, (diffC a b).isSome, 0) := by
              unfold partC
              rw [if_neg (by simpa using oa), if_neg (by simpa using ob), if_neg (by rintro ⟨u, v, hu, hv, hne⟩; rw [hx] at hu; rw [hy] at hv; cases hu; cases hv; exact hne hxy)]
            rw [hP]
            rw [← hxy] at hc2
            obtain ⟨xn, hxn⟩ : ∃ xn, x.node = xn := ⟨_, rfl⟩
            rw [hxn] at hc1 hc2
            have e1 : (xn != xn) = false := by simp
            clear q1 q2 hx hy hxy hxn hP
            clear hA hB hpa hpb hn hm hE
            go_enter Tryd.func17, Tryd.ntmps17
            go_wp2_with (first
              | (go_at_call 21; (with_reducible refine h1.out.mono ?_); rintro e w1 ⟨rfl, hb1⟩)
              | (go_at_call 21; (with_reducible refine (h2.out _ hb1).mono ?_); rintro e w2 ⟨rfl, hb2⟩))
            have HB := hb1.trans (hb2.mono hb1.size)
            have c1 := hc1.out _ HB
            have c2 := hc2.out _ HB
            go_quiet (fail)
            have HB2 := below_drewN HB nq
            go_wp2_with (go_at_call 44; (with_reducible refine (h3.out _ HB2).mono ?_); rintro e w3 ⟨rfl, hb3⟩)
            refine bodyPost_ret (v := .tuple #[.int .i64 (((diffC a b).getD 0 : Nat) : Int), .bool (diffC a b).isSome, .int .i64 0]) (by simp [results, Tryd.results17, go_sem]) rfl ⟨rfl, HB2.trans (hb3.mono HB2.size)⟩
          · have hP : partC a b = (0, false, 80) := by
              unfold partC
              rw [if_neg (by simpa using oa), if_neg (by simpa using ob), if_pos ⟨x, y, hx, hy, hxy⟩]
            rw [hP]
            obtain ⟨xn, hxn⟩ : ∃ xn, x.node = xn := ⟨_, rfl⟩
            obtain ⟨yn, hyn⟩ : ∃ yn, y.node = yn := ⟨_, rfl⟩
            rw [hxn] at hc1 hxy
            rw [hyn] at hc2 hxy
            have e1 : (xn != yn) = true := by simpa using hxy
            clear q1 q2 hx hy hxn hyn hP
            clear hA hB hpa hpb hn hm hE
            go_enter Tryd.func17, Tryd.ntmps17
            go_wp2_with (first
              | (go_at_call 21; (with_reducible refine h1.out.mono ?_); rintro e w1 ⟨rfl, hb1⟩)
              | (go_at_call 21; (with_reducible refine (h2.out _ hb1).mono ?_); rintro e w2 ⟨rfl, hb2⟩))
            have HB := hb1.trans (hb2.mono hb1.size)
            have c1 := hc1.out _ HB
            have c2 := hc2.out _ HB
            go_quiet (fail)
            have HB2 := below_drewN HB nq
            go_wp2
            refine bodyPost_ret (v := .tuple #[.int .i64 0, .bool false, .int .i64 80]) (by simp [results, Tryd.results17, go_sem]) rfl ⟨rfl, HB2⟩
    · rw [ckC_ok oa] at h1
      rw [ckC_bad ob] at h2
      have hP : partC a b = (0, false, 80) := by
        unfold partC
        rw [if_neg (by simpa using oa), if_pos (by simpa using ob)]
      rw [hP]
      clear hA hB hpa hpb hn hm hP
      go_enter Tryd.func17, Tryd.ntmps17
      go_wp2_with (first
        | (go_at_call 21; (with_reducible refine h1.out.mono ?_); rintro e w1 ⟨rfl, hb1⟩)
        | (go_at_call 21; (with_reducible refine (h2.out _ hb1).mono ?_); rintro e w2 ⟨rfl, hb2⟩))
      go_wp2
      refine bodyPost_ret (v := .tuple #[.int .i64 0, .bool false, .int .i64 80]) (by simp [results, Tryd.results17, go_sem]) rfl ⟨rfl, hb1.trans (hb2.mono hb1.size)⟩
  · rw [ckC_bad oa] at h1
    have hP : partC a b = (0, false, 80) := by
      unfold partC
      rw [if_pos (by simpa using oa)]
    rw [hP]
    clear hA hB hpa hpb hn hm hP h2
    go_enter Tryd.func17, Tryd.ntmps17
    go_wp2_with (first
      | (go_at_call 21; (with_reducible refine h1.out.mono ?_); rintro e w1 ⟨rfl, hb1⟩))
    go_wp2
    refine bodyPost_ret (v := .tuple #[.int .i64 0, .bool false, .int .i64 80]) (by simp [results, Tryd.results17, go_sem]) rfl ⟨rfl, hb1⟩
end Go.Proofs.YthokpfegfnpmhaaDoor
