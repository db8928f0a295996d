/- The walks of bytes.Equal and of the closure of chain.Part that compares two links. -/
import Derived.Test.YthokpfegfnpmhaaDoorChainSame
namespace Go.Proofs.YthokpfegfnpmhaaDoor
open Go.RowKit Cdc Sha
set_option linter.unusedVariables false
set_option linter.unusedSimpArgs false

theorem bytes_equal_yes (xs : List UInt8) (A B : Option Addr) (n m c d : Nat) (w : World) (v0 : (convert 23 9 (.slice A n c)).run Tryd.prog w = .ok (.string ⟨xs.toArray⟩) w) (v1 : (convert 23 9 (.slice B m d)).run Tryd.prog w = .ok (.string ⟨xs.toArray⟩) w) :
    Calls Tryd.prog 38 #[.slice A n c, .slice B m d] w fun e w' => e = .returned (.bool true) ∧ w' = w := by
  go_enter Tryd.func38, Tryd.ntmps38
  go_wp2
  go_ret
  exact ⟨rfl, rfl⟩
theorem bytes_equal_no (xs ys : List UInt8) (A B : Option Addr) (n m c d : Nat) (w : World) (hh : (xs == ys) = false) (v0 : (convert 23 9 (.slice A n c)).run Tryd.prog w = .ok (.string ⟨xs.toArray⟩) w) (v1 : (convert 23 9 (.slice B m d)).run Tryd.prog w = .ok (.string ⟨ys.toArray⟩) w) :
    Calls Tryd.prog 38 #[.slice A n c, .slice B m d] w fun e w' => e = .returned (.bool false) ∧ w' = w := by
  go_enter Tryd.func38, Tryd.ntmps38
  go_wp2
  go_ret
  exact ⟨rfl, rfl⟩
set_option maxRecDepth 100000 in
set_option maxHeartbeats 4000000 in
theorem p1_eq (xn : Int) (xo : Int) (xp : List UInt8) (xd : List UInt8) (A B : Option Addr) (n m c d : Nat) (w : World) (h : SLf ⟨xn, xo, xp, xd⟩ ⟨xn, xo, xp, xd⟩ A B n m c d w.heap.size ((w.alloc (.cells (lkA ⟨xn, xo, xp, xd⟩ (.slice A n c)) 37)).alloc (.cells (lkA ⟨xn, xo, xp, xd⟩ (.slice B m d)) 37))) :
    Calls Tryd.prog 45 #[.agg (lkA ⟨xn, xo, xp, xd⟩ (.slice A n c)), .agg (lkA ⟨xn, xo, xp, xd⟩ (.slice B m d))] w fun e w' => e = .returned (.bool true) ∧ w' = ((w.alloc (.cells (lkA ⟨xn, xo, xp, xd⟩ (.slice A n c)) 37)).alloc (.cells (lkA ⟨xn, xo, xp, xd⟩ (.slice B m d)) 37)) := by
  obtain ⟨a0, a1, a2, b0, b1, b2, l0, l1, i0, i1, v0, v1, q0⟩ := h
  dsimp only at a0 a1 b0 b1 l0 l1 i0 i1 v0 v1 q0
  rw [decide_eq_true rfl] at q0
  have hE := Lib.hid (bytes_equal_yes xd A B n m c d _ v0 v1)
  clear v0 v1
  replace l0 := Lib.hid l0
  replace l1 := Lib.hid l1
  replace i0 := Lib.hid i0
  replace i1 := Lib.hid i1
  go_enter Tryd.func45, Tryd.ntmps45
  go_wp2_with (first
    | (refine wpList_load_midG (by rfl) 35 (.tmp 18) (by rfl) w.heap.size 2 (by rfl) (xp.map by1) _ l0.out Tryd.underlying35 (by rfl) i0.out ?_)
    | (refine wpList_load_midG (by rfl) 35 (.tmp 20) (by rfl) (w.heap.size + 1) 2 (by rfl) (xp.map by1) _ l1.out Tryd.underlying35 (by rfl) i1.out ?_)
    | (go_at_call 38; refine hE.out.mono ?_; rintro e w' ⟨rfl, rfl⟩))
  go_ret
  exact ⟨rfl, rfl⟩
set_option maxRecDepth 100000 in
set_option maxHeartbeats 4000000 in
theorem p1_data (xn : Int) (xo : Int) (xp : List UInt8) (xd : List UInt8) (yd : List UInt8) (A B : Option Addr) (n m c d : Nat) (w : World) (hh : (xd == yd) = false) (h : SLf ⟨xn, xo, xp, xd⟩ ⟨xn, xo, xp, yd⟩ A B n m c d w.heap.size ((w.alloc (.cells (lkA ⟨xn, xo, xp, xd⟩ (.slice A n c)) 37)).alloc (.cells (lkA ⟨xn, xo, xp, yd⟩ (.slice B m d)) 37))) :
    Calls Tryd.prog 45 #[.agg (lkA ⟨xn, xo, xp, xd⟩ (.slice A n c)), .agg (lkA ⟨xn, xo, xp, yd⟩ (.slice B m d))] w fun e w' => e = .returned (.bool false) ∧ w' = ((w.alloc (.cells (lkA ⟨xn, xo, xp, xd⟩ (.slice A n c)) 37)).alloc (.cells (lkA ⟨xn, xo, xp, yd⟩ (.slice B m d)) 37)) := by
  obtain ⟨a0, a1, a2, b0, b1, b2, l0, l1, i0, i1, v0, v1, q0⟩ := h
  dsimp only at a0 a1 b0 b1 l0 l1 i0 i1 v0 v1 q0
  rw [decide_eq_true rfl] at q0
  have hE := Lib.hid (bytes_equal_no xd yd A B n m c d _ hh v0 v1)
  clear v0 v1
  replace l0 := Lib.hid l0
  replace l1 := Lib.hid l1
  replace i0 := Lib.hid i0
  replace i1 := Lib.hid i1
  replace hh := Lib.hid hh
  go_enter Tryd.func45, Tryd.ntmps45
  go_wp2_with (first
    | (refine wpList_load_midG (by rfl) 35 (.tmp 18) (by rfl) w.heap.size 2 (by rfl) (xp.map by1) _ l0.out Tryd.underlying35 (by rfl) i0.out ?_)
    | (refine wpList_load_midG (by rfl) 35 (.tmp 20) (by rfl) (w.heap.size + 1) 2 (by rfl) (xp.map by1) _ l1.out Tryd.underlying35 (by rfl) i1.out ?_)
    | (go_at_call 38; refine hE.out.mono ?_; rintro e w' ⟨rfl, rfl⟩))
  go_ret
  exact ⟨rfl, rfl⟩
set_option maxRecDepth 100000 in
set_option maxHeartbeats 4000000 in
theorem p1_prev (xn : Int) (xo : Int) (xp : List UInt8) (yp : List UInt8) (xd : List UInt8) (yd : List UInt8) (A B : Option Addr) (n m c d : Nat) (w : World) (hh : decide (xp = yp) = false) (h : SLf ⟨xn, xo, xp, xd⟩ ⟨xn, xo, yp, yd⟩ A B n m c d w.heap.size ((w.alloc (.cells (lkA ⟨xn, xo, xp, xd⟩ (.slice A n c)) 37)).alloc (.cells (lkA ⟨xn, xo, yp, yd⟩ (.slice B m d)) 37))) :
    Calls Tryd.prog 45 #[.agg (lkA ⟨xn, xo, xp, xd⟩ (.slice A n c)), .agg (lkA ⟨xn, xo, yp, yd⟩ (.slice B m d))] w fun e w' => e = .returned (.bool false) ∧ w' = ((w.alloc (.cells (lkA ⟨xn, xo, xp, xd⟩ (.slice A n c)) 37)).alloc (.cells (lkA ⟨xn, xo, yp, yd⟩ (.slice B m d)) 37)) := by
  obtain ⟨a0, a1, a2, b0, b1, b2, l0, l1, i0, i1, v0, v1, q0⟩ := h
  dsimp only at a0 a1 b0 b1 l0 l1 i0 i1 v0 v1 q0
  rw [hh] at q0
  clear v0 v1
  replace l0 := Lib.hid l0
  replace l1 := Lib.hid l1
  replace i0 := Lib.hid i0
  replace i1 := Lib.hid i1
  replace hh := Lib.hid hh
  go_enter Tryd.func45, Tryd.ntmps45
  go_wp2_with (first
    | (refine wpList_load_midG (by rfl) 35 (.tmp 18) (by rfl) w.heap.size 2 (by rfl) (xp.map by1) _ l0.out Tryd.underlying35 (by rfl) i0.out ?_)
    | (refine wpList_load_midG (by rfl) 35 (.tmp 20) (by rfl) (w.heap.size + 1) 2 (by rfl) (yp.map by1) _ l1.out Tryd.underlying35 (by rfl) i1.out ?_))
  go_ret
  exact ⟨rfl, rfl⟩
set_option maxRecDepth 100000 in
set_option maxHeartbeats 4000000 in
theorem p1_no (xn : Int) (xo : Int) (yo : Int) (xp : List UInt8) (yp : List UInt8) (xd : List UInt8) (yd : List UInt8) (A B : Option Addr) (n m c d : Nat) (w : World) (hh : xo ≠ yo) (h : SLf ⟨xn, xo, xp, xd⟩ ⟨xn, yo, yp, yd⟩ A B n m c d w.heap.size ((w.alloc (.cells (lkA ⟨xn, xo, xp, xd⟩ (.slice A n c)) 37)).alloc (.cells (lkA ⟨xn, yo, yp, yd⟩ (.slice B m d)) 37))) :
    Calls Tryd.prog 45 #[.agg (lkA ⟨xn, xo, xp, xd⟩ (.slice A n c)), .agg (lkA ⟨xn, yo, yp, yd⟩ (.slice B m d))] w fun e w' => e = .returned (.bool false) ∧ w' = ((w.alloc (.cells (lkA ⟨xn, xo, xp, xd⟩ (.slice A n c)) 37)).alloc (.cells (lkA ⟨xn, yo, yp, yd⟩ (.slice B m d)) 37)) := by
  obtain ⟨a0, a1, a2, b0, b1, b2, l0, l1, i0, i1, v0, v1, q0⟩ := h
  dsimp only at a0 a1 b0 b1 l0 l1 i0 i1 v0 v1 q0
  clear q0
  clear v0 v1
  replace l0 := Lib.hid l0
  replace l1 := Lib.hid l1
  replace i0 := Lib.hid i0
  replace i1 := Lib.hid i1
  go_enter Tryd.func45, Tryd.ntmps45
  go_wp2_with (first
    | (refine wpList_load_midG (by rfl) 35 (.tmp 18) (by rfl) w.heap.size 2 (by rfl) (xp.map by1) _ l0.out Tryd.underlying35 (by rfl) i0.out ?_)
    | (refine wpList_load_midG (by rfl) 35 (.tmp 20) (by rfl) (w.heap.size + 1) 2 (by rfl) (yp.map by1) _ l1.out Tryd.underlying35 (by rfl) i1.out ?_))
  go_ret
  exact ⟨rfl, rfl⟩
set_option maxRecDepth 100000 in
set_option maxHeartbeats 4000000 in
theorem p1_node (xn : Int) (xo : Int) (yn : Int) (yo : Int) (xp : List UInt8) (yp : List UInt8) (xd : List UInt8) (yd : List UInt8) (A B : Option Addr) (n m c d : Nat) (w : World) (hh : xn ≠ yn) (h : SLf ⟨xn, xo, xp, xd⟩ ⟨yn, yo, yp, yd⟩ A B n m c d w.heap.size ((w.alloc (.cells (lkA ⟨xn, xo, xp, xd⟩ (.slice A n c)) 37)).alloc (.cells (lkA ⟨yn, yo, yp, yd⟩ (.slice B m d)) 37))) :
    Calls Tryd.prog 45 #[.agg (lkA ⟨xn, xo, xp, xd⟩ (.slice A n c)), .agg (lkA ⟨yn, yo, yp, yd⟩ (.slice B m d))] w fun e w' => e = .returned (.bool false) ∧ w' = ((w.alloc (.cells (lkA ⟨xn, xo, xp, xd⟩ (.slice A n c)) 37)).alloc (.cells (lkA ⟨yn, yo, yp, yd⟩ (.slice B m d)) 37)) := by
  obtain ⟨a0, a1, a2, b0, b1, b2, l0, l1, i0, i1, v0, v1, q0⟩ := h
  dsimp only at a0 a1 b0 b1 l0 l1 i0 i1 v0 v1 q0
  clear q0
  clear v0 v1
  replace l0 := Lib.hid l0
  replace l1 := Lib.hid l1
  replace i0 := Lib.hid i0
  replace i1 := Lib.hid i1
  go_enter Tryd.func45, Tryd.ntmps45
  go_wp2_with (first
    | (refine wpList_load_midG (by rfl) 35 (.tmp 18) (by rfl) w.heap.size 2 (by rfl) (xp.map by1) _ l0.out Tryd.underlying35 (by rfl) i0.out ?_)
    | (refine wpList_load_midG (by rfl) 35 (.tmp 20) (by rfl) (w.heap.size + 1) 2 (by rfl) (yp.map by1) _ l1.out Tryd.underlying35 (by rfl) i1.out ?_))
  go_ret
  exact ⟨rfl, rfl⟩

theorem part1_any (x y : Lk) (A B : Option Addr) (n m c d : Nat) (w : World) (hx : x.prev.length = 32) (hy : y.prev.length = 32) (hn : x.data.length = n) (hm : y.data.length = m) (hA : AtO w A x.data) (hB : AtO w B y.data) :
    Calls Tryd.prog 45 #[.agg (lkA x (.slice A n c)), .agg (lkA y (.slice B m d))] w fun e w' => e = .returned (.bool (decide (x = y))) ∧ Below w.heap.size w w' := by
  have h := slf_of x y A B n m c d w hx hy hn hm hA hB
  have hBB := ((Below.refl w.heap.size w).alloc (Nat.le_refl _) (.cells (lkA x (.slice A n c)) 37)).alloc (by simp) (.cells (lkA y (.slice B m d)) 37)
  obtain ⟨xn, xo, xp, xd⟩ := x
  obtain ⟨yn, yo, yp, yd⟩ := y
  by_cases h1 : xn = yn
  · subst h1
    by_cases h2 : xo = yo
    · subst h2
      by_cases h3 : xp = yp
      · subst h3
        by_cases h4 : xd = yd
        · subst h4
          refine (p1_eq _ _ _ _ A B n m c d w h).mono ?_
          rintro e w' ⟨rfl, rfl⟩
          exact ⟨by simp, hBB⟩
        · refine (p1_data _ _ _ _ _ A B n m c d w (by simpa using h4) h).mono ?_
          rintro e w' ⟨rfl, rfl⟩
          exact ⟨by simp [h4], hBB⟩
      · refine (p1_prev _ _ _ _ _ _ A B n m c d w (decide_eq_false h3) h).mono ?_
        rintro e w' ⟨rfl, rfl⟩
        exact ⟨by simp [h3], hBB⟩
    · refine (p1_no _ _ _ _ _ _ _ A B n m c d w h2 h).mono ?_
      rintro e w' ⟨rfl, rfl⟩
      exact ⟨by simp [h2], hBB⟩
  · refine (p1_node _ _ _ _ _ _ _ _ A B n m c d w h1 h).mono ?_
    rintro e w' ⟨rfl, rfl⟩
    exact ⟨by simp [h1], hBB⟩
end Go.Proofs.YthokpfegfnpmhaaDoor
