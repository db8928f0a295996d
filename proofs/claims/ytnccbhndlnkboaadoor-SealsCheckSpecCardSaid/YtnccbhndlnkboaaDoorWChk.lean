/- The walk of the statement SealsCheckSpec. -/
import Derived.Test.YtnccbhndlnkboaaDoorRCollG
import Derived.Test.YtnccbhndlnkboaaDoorSealSane
namespace Go.Proofs.YtnccbhndlnkboaaDoor
open Go.RowKit Go.Shelf Cdc Sha
set_option linter.unusedVariables false
set_option linter.unusedSimpArgs false

set_option maxRecDepth 100000 in
set_option maxHeartbeats 8000000 in
theorem chkspec_big1 (w : World) (S : List Value) (t f m ad as_ bd bs_ : Int) (ab bb : Bool) (P Q : Option Addr) (ka kb cp cq : Nat) (hSan : Hid (∀ V, Below w.heap.size w V → Calls Tryd.prog 14 #[] V fun e w' => e = .returned (.bool true) ∧ Below V.heap.size V w')) (hS0 : S[0]? = some (.int .i64 t)) (hS1 : S[1]? = some (.int .i64 f)) (hS2 : S[2]? = some (.int .i64 m)) (h1 : 100 < ka) :
    Calls Tryd.prog 5 #[.agg S.toArray, .agg #[.int .i64 ad, .int .i64 as_, .bool ab, .slice P ka cp], .agg #[.int .i64 bd, .int .i64 bs_, .bool bb, .slice Q kb cq]] w fun e w' => e = .returned (.bool true) ∧ Below w.heap.size w w' := by
  have d1 : decide ((100 : Int) < (ka : Int)) = true := decide_eq_true (by omega)
  obtain ⟨W3, hW3⟩ : ∃ W3, W3 = (((w.alloc (.cells S.toArray 25)).alloc (.cells #[.int .i64 ad, .int .i64 as_, .bool ab, .slice P ka cp] 33)).alloc (.cells #[.int .i64 bd, .int .i64 bs_, .bool bb, .slice Q kb cq] 33)) := ⟨_, rfl⟩
  have hB1 : Below w.heap.size w (((w.alloc (.cells S.toArray 25)).alloc (.cells #[.int .i64 ad, .int .i64 as_, .bool ab, .slice P ka cp] 33)).alloc (.cells #[.int .i64 bd, .int .i64 bs_, .bool bb, .slice Q kb cq] 33)) := (((Below.refl _ _).alloc (Nat.le_refl _) _).alloc (by simp) _).alloc (by simp; omega) _
  have hcells : Hid (∀ V, Below W3.heap.size W3 V → (V.rangeAt w.heap.size 0 S) ∧ (V.cell? ⟨w.heap.size + 1, 0, none⟩ = some (.int .i64 ad) ∧ V.cell? ⟨w.heap.size + 1, 1, none⟩ = some (.int .i64 as_) ∧ V.cell? ⟨w.heap.size + 1, 2, none⟩ = some (.bool ab) ∧ V.cell? ⟨w.heap.size + 1, 3, none⟩ = some (.slice P ka cp)) ∧ (V.cell? ⟨w.heap.size + 1 + 1, 0, none⟩ = some (.int .i64 bd) ∧ V.cell? ⟨w.heap.size + 1 + 1, 1, none⟩ = some (.int .i64 bs_) ∧ V.cell? ⟨w.heap.size + 1 + 1, 2, none⟩ = some (.bool bb) ∧ V.cell? ⟨w.heap.size + 1 + 1, 3, none⟩ = some (.slice Q kb cq)) ∧ (V.cell? ⟨w.heap.size, 0, none⟩ = some (.int .i64 t) ∧ V.cell? ⟨w.heap.size, 1, none⟩ = some (.int .i64 f) ∧ V.cell? ⟨w.heap.size, 2, none⟩ = some (.int .i64 m)) ∧ V.rangeAt (w.heap.size + 1) 0 [.int .i64 ad, .int .i64 as_, .bool ab, .slice P ka cp] ∧ V.rangeAt (w.heap.size + 1 + 1) 0 [.int .i64 bd, .int .i64 bs_, .bool bb, .slice Q kb cq]) := Lib.hid fun V hV => by
    subst hW3
    exact clash_cells w S t f m ad as_ bd bs_ ab bb P Q ka kb cp cq hS0 hS1 hS2 V hV
  have hl0 := (hcells.out _ (Below.refl _ _)).1
  rw [← hW3] at hB1
  replace hl0 := Lib.hid hl0
  clear hS0 hS1 hS2
  clear hl0
  go_enter Tryd.func5, Tryd.ntmps5
  go_wp2_with fail
  rw [← hW3]
  refine (hSan.out _ hB1).mono ?_
  rintro e w4 ⟨rfl, hb4⟩
  obtain ⟨hl4, ⟨y0, y1, y2, y3⟩, ⟨z0, z1, z2, z3⟩, -, -, -⟩ := hcells.out w4 hb4
  replace hl4 := Lib.hid hl4
  have hB4 := hB1.trans (hb4.mono hB1.size)
  clear hl4
  go_wp2_with fail
  go_ret
  exact ⟨rfl, hB4⟩
set_option maxRecDepth 100000 in
set_option maxHeartbeats 8000000 in
theorem chkspec_big2 (w : World) (S : List Value) (t f m ad as_ bd bs_ : Int) (ab bb : Bool) (P Q : Option Addr) (ka kb cp cq : Nat) (hSan : Hid (∀ V, Below w.heap.size w V → Calls Tryd.prog 14 #[] V fun e w' => e = .returned (.bool true) ∧ Below V.heap.size V w')) (hS0 : S[0]? = some (.int .i64 t)) (hS1 : S[1]? = some (.int .i64 f)) (hS2 : S[2]? = some (.int .i64 m)) (h1 : ka ≤ 100) (h2 : 100 < kb) :
    Calls Tryd.prog 5 #[.agg S.toArray, .agg #[.int .i64 ad, .int .i64 as_, .bool ab, .slice P ka cp], .agg #[.int .i64 bd, .int .i64 bs_, .bool bb, .slice Q kb cq]] w fun e w' => e = .returned (.bool true) ∧ Below w.heap.size w w' := by
  have d1 : decide ((100 : Int) < (ka : Int)) = false := decide_eq_false (by omega)
  have d2 : decide ((100 : Int) < (kb : Int)) = true := decide_eq_true (by omega)
  obtain ⟨W3, hW3⟩ : ∃ W3, W3 = (((w.alloc (.cells S.toArray 25)).alloc (.cells #[.int .i64 ad, .int .i64 as_, .bool ab, .slice P ka cp] 33)).alloc (.cells #[.int .i64 bd, .int .i64 bs_, .bool bb, .slice Q kb cq] 33)) := ⟨_, rfl⟩
  have hB1 : Below w.heap.size w (((w.alloc (.cells S.toArray 25)).alloc (.cells #[.int .i64 ad, .int .i64 as_, .bool ab, .slice P ka cp] 33)).alloc (.cells #[.int .i64 bd, .int .i64 bs_, .bool bb, .slice Q kb cq] 33)) := (((Below.refl _ _).alloc (Nat.le_refl _) _).alloc (by simp) _).alloc (by simp; omega) _
  have hcells : Hid (∀ V, Below W3.heap.size W3 V → (V.rangeAt w.heap.size 0 S) ∧ (V.cell? ⟨w.heap.size + 1, 0, none⟩ = some (.int .i64 ad) ∧ V.cell? ⟨w.heap.size + 1, 1, none⟩ = some (.int .i64 as_) ∧ V.cell? ⟨w.heap.size + 1, 2, none⟩ = some (.bool ab) ∧ V.cell? ⟨w.heap.size + 1, 3, none⟩ = some (.slice P ka cp)) ∧ (V.cell? ⟨w.heap.size + 1 + 1, 0, none⟩ = some (.int .i64 bd) ∧ V.cell? ⟨w.heap.size + 1 + 1, 1, none⟩ = some (.int .i64 bs_) ∧ V.cell? ⟨w.heap.size + 1 + 1, 2, none⟩ = some (.bool bb) ∧ V.cell? ⟨w.heap.size + 1 + 1, 3, none⟩ = some (.slice Q kb cq)) ∧ (V.cell? ⟨w.heap.size, 0, none⟩ = some (.int .i64 t) ∧ V.cell? ⟨w.heap.size, 1, none⟩ = some (.int .i64 f) ∧ V.cell? ⟨w.heap.size, 2, none⟩ = some (.int .i64 m)) ∧ V.rangeAt (w.heap.size + 1) 0 [.int .i64 ad, .int .i64 as_, .bool ab, .slice P ka cp] ∧ V.rangeAt (w.heap.size + 1 + 1) 0 [.int .i64 bd, .int .i64 bs_, .bool bb, .slice Q kb cq]) := Lib.hid fun V hV => by
    subst hW3
    exact clash_cells w S t f m ad as_ bd bs_ ab bb P Q ka kb cp cq hS0 hS1 hS2 V hV
  have hl0 := (hcells.out _ (Below.refl _ _)).1
  rw [← hW3] at hB1
  replace hl0 := Lib.hid hl0
  clear hS0 hS1 hS2
  clear hl0
  go_enter Tryd.func5, Tryd.ntmps5
  go_wp2_with fail
  rw [← hW3]
  refine (hSan.out _ hB1).mono ?_
  rintro e w4 ⟨rfl, hb4⟩
  obtain ⟨hl4, ⟨y0, y1, y2, y3⟩, ⟨z0, z1, z2, z3⟩, -, -, -⟩ := hcells.out w4 hb4
  replace hl4 := Lib.hid hl4
  have hB4 := hB1.trans (hb4.mono hB1.size)
  clear hl4
  go_wp2_with fail
  go_ret
  exact ⟨rfl, hB4⟩
set_option maxRecDepth 100000 in
set_option maxHeartbeats 8000000 in
theorem chkspec_go (w : World) (S : List Value) (t f m ad as_ bd bs_ : Int) (ab bb : Bool) (P Q : Option Addr) (ka kb cp cq : Nat) (hSan : Hid (∀ V, Below w.heap.size w V → Calls Tryd.prog 14 #[] V fun e w' => e = .returned (.bool true) ∧ Below V.heap.size V w')) (hS0 : S[0]? = some (.int .i64 t)) (hS1 : S[1]? = some (.int .i64 f)) (hS2 : S[2]? = some (.int .i64 m)) (pil : Hid ((Tryd.prog.info? 25).map (·.size) = some S.length)) (x y : List UInt8) (ok ch : Bool) (nx ny : Nat) (hnx : Hid (x.length = nx)) (hny : Hid (y.length = ny)) (hC1 : Hid (∀ V, Below w.heap.size w V → Calls Tryd.prog 21 #[.agg S.toArray, .agg #[.int .i64 ad, .int .i64 as_, .bool ab, .slice P ka cp], .agg #[.int .i64 bd, .int .i64 bs_, .bool bb, .slice Q kb cq]] V (CoC (x, y, ok) V))) (hC2 : Hid (∀ V, Below w.heap.size w V → Calls Tryd.prog 22 #[.agg S.toArray, .agg #[.int .i64 ad, .int .i64 as_, .bool ab, .slice P ka cp], .agg #[.int .i64 bd, .int .i64 bs_, .bool bb, .slice Q kb cq]] V (CoC (x, y, ok) V))) (hK1 : Hid (∀ V, Below w.heap.size w V → Calls Tryd.prog 23 #[.agg S.toArray, .agg #[.int .i64 ad, .int .i64 as_, .bool ab, .slice P ka cp]] V fun e w' => e = .returned (.bool ch) ∧ Below V.heap.size V w')) (hK2 : Hid (∀ V, Below w.heap.size w V → Calls Tryd.prog 24 #[.agg S.toArray, .agg #[.int .i64 ad, .int .i64 as_, .bool ab, .slice P ka cp]] V fun e w' => e = .returned (.bool ch) ∧ Below V.heap.size V w')) (h1 : ka ≤ 100) (h2 : kb ≤ 100) :
    Calls Tryd.prog 5 #[.agg S.toArray, .agg #[.int .i64 ad, .int .i64 as_, .bool ab, .slice P ka cp], .agg #[.int .i64 bd, .int .i64 bs_, .bool bb, .slice Q kb cq]] w fun e w' => e = .returned (.bool true) ∧ Below w.heap.size w w' := by
  have d1 : decide ((100 : Int) < (ka : Int)) = false := decide_eq_false (by omega)
  have d2 : decide ((100 : Int) < (kb : Int)) = false := decide_eq_false (by omega)
  obtain ⟨W3, hW3⟩ : ∃ W3, W3 = (((w.alloc (.cells S.toArray 25)).alloc (.cells #[.int .i64 ad, .int .i64 as_, .bool ab, .slice P ka cp] 33)).alloc (.cells #[.int .i64 bd, .int .i64 bs_, .bool bb, .slice Q kb cq] 33)) := ⟨_, rfl⟩
  have hB1 : Below w.heap.size w (((w.alloc (.cells S.toArray 25)).alloc (.cells #[.int .i64 ad, .int .i64 as_, .bool ab, .slice P ka cp] 33)).alloc (.cells #[.int .i64 bd, .int .i64 bs_, .bool bb, .slice Q kb cq] 33)) := (((Below.refl _ _).alloc (Nat.le_refl _) _).alloc (by simp) _).alloc (by simp; omega) _
  have hcells : Hid (∀ V, Below W3.heap.size W3 V → (V.rangeAt w.heap.size 0 S) ∧ (V.cell? ⟨w.heap.size + 1, 0, none⟩ = some (.int .i64 ad) ∧ V.cell? ⟨w.heap.size + 1, 1, none⟩ = some (.int .i64 as_) ∧ V.cell? ⟨w.heap.size + 1, 2, none⟩ = some (.bool ab) ∧ V.cell? ⟨w.heap.size + 1, 3, none⟩ = some (.slice P ka cp)) ∧ (V.cell? ⟨w.heap.size + 1 + 1, 0, none⟩ = some (.int .i64 bd) ∧ V.cell? ⟨w.heap.size + 1 + 1, 1, none⟩ = some (.int .i64 bs_) ∧ V.cell? ⟨w.heap.size + 1 + 1, 2, none⟩ = some (.bool bb) ∧ V.cell? ⟨w.heap.size + 1 + 1, 3, none⟩ = some (.slice Q kb cq)) ∧ (V.cell? ⟨w.heap.size, 0, none⟩ = some (.int .i64 t) ∧ V.cell? ⟨w.heap.size, 1, none⟩ = some (.int .i64 f) ∧ V.cell? ⟨w.heap.size, 2, none⟩ = some (.int .i64 m)) ∧ V.rangeAt (w.heap.size + 1) 0 [.int .i64 ad, .int .i64 as_, .bool ab, .slice P ka cp] ∧ V.rangeAt (w.heap.size + 1 + 1) 0 [.int .i64 bd, .int .i64 bs_, .bool bb, .slice Q kb cq]) := Lib.hid fun V hV => by
    subst hW3
    exact clash_cells w S t f m ad as_ bd bs_ ab bb P Q ka kb cp cq hS0 hS1 hS2 V hV
  have hl0 := (hcells.out _ (Below.refl _ _)).1
  rw [← hW3] at hB1
  replace hl0 := Lib.hid hl0
  clear hS0 hS1 hS2
  clear hl0
  go_enter Tryd.func5, Tryd.ntmps5
  go_wp2_with fail
  rw [← hW3]
  refine (hSan.out _ hB1).mono ?_
  rintro e w4 ⟨rfl, hb4⟩
  obtain ⟨hl4, ⟨y0, y1, y2, y3⟩, ⟨z0, z1, z2, z3⟩, -, -, -⟩ := hcells.out w4 hb4
  replace hl4 := Lib.hid hl4
  have hB4 := hB1.trans (hb4.mono hB1.size)
  go_wp2_with (refine wpList_load_midG (by rfl) 25 (.tmp 3) (by rfl) w.heap.size 0 (by rfl) S _ hl4.out Tryd.underlying25 (by rfl) pil.out ?_)
  refine (hC1.out _ hB4).mono ?_
  unfold CoC
  dsimp only
  rw [hnx.out, hny.out]
  rintro e w5 ⟨A1, c1, B1, e1, rfl, a1, b1, hb5⟩
  have hB5 := hB4.trans (hb5.mono hB4.size)
  have hb35 := hb4.trans (hb5.mono hb4.size)
  clear hl4 y0 y1 y2 y3 z0 z1 z2 z3
  obtain ⟨hl5, ⟨y0, y1, y2, y3⟩, ⟨z0, z1, z2, z3⟩, -, -, -⟩ := hcells.out w5 hb35
  replace hl5 := Lib.hid hl5
  go_wp2_with (refine wpList_load_midG (by rfl) 25 (.tmp 3) (by rfl) w.heap.size 0 (by rfl) S _ hl5.out Tryd.underlying25 (by rfl) pil.out ?_)
  refine (hC2.out _ hB5).mono ?_
  unfold CoC
  dsimp only
  rw [hnx.out, hny.out]
  rintro e w6 ⟨A2, c2, B2, e2, rfl, a2, b2, hb6⟩
  have hw6 := Lib.hid (hB5.trans (hb6.mono hB5.size))
  have hb36 := hb35.trans (hb6.mono hb35.size)
  replace a1 := a1.below hb6
  replace b1 := b1.below hb6
  have hSp : Hid (∀ V, Below w6.heap.size w6 V → V.rangeAt w.heap.size 0 S ∧ V.rangeAt (w.heap.size + 1) 0 [.int .i64 ad, .int .i64 as_, .bool ab, .slice P ka cp] ∧ (convert 48 9 (.slice A1 nx c1)).run Tryd.prog V = .ok (.string ⟨x.toArray⟩) V ∧ (convert 48 9 (.slice B1 ny e1)).run Tryd.prog V = .ok (.string ⟨y.toArray⟩) V ∧ (convert 48 9 (.slice A2 nx c2)).run Tryd.prog V = .ok (.string ⟨x.toArray⟩) V ∧ (convert 48 9 (.slice B2 ny e2)).run Tryd.prog V = .ok (.string ⟨y.toArray⟩) V) := Lib.hid fun V hV => by
    have h := hcells.out V (hb36.trans (hV.mono hb36.size))
    exact ⟨h.1, h.2.2.2.2.1, (a1.below hV).conv nx c1 hnx.out, (b1.below hV).conv ny e1 hny.out, (a2.below hV).conv nx c2 hnx.out, (b2.below hV).conv ny e2 hny.out⟩
  have HB : Below w6.heap.size w6 w6.drew := (Below.refl _ _).drew
  clear hl5 y0 y1 y2 y3 z0 z1 z2 z3 hb4 hb5 hb6 hb35 hb36 hB4 hB5 hB1 a1 b1 a2 b2 hcells d1 d2 hSan hC1 hC2
  go_wp2_with fail
  refine wp_region_held_drew (S := fun w' => w'.rangeAt w.heap.size 0 S ∧ w'.rangeAt (w.heap.size + 1) 0 [.int .i64 ad, .int .i64 as_, .bool ab, .slice P ka cp] ∧ (convert 48 9 (.slice A1 nx c1)).run Tryd.prog w' = .ok (.string ⟨x.toArray⟩) w' ∧ (convert 48 9 (.slice B1 ny e1)).run Tryd.prog w' = .ok (.string ⟨y.toArray⟩) w' ∧ (convert 48 9 (.slice A2 nx c2)).run Tryd.prog w' = .ok (.string ⟨x.toArray⟩) w' ∧ (convert 48 9 (.slice B2 ny e2)).run Tryd.prog w' = .ok (.string ⟨y.toArray⟩) w') (by kernel_rfl) (by exact hSp.out _ HB) (fun hHeld => ?_)
  refine wpAnyH_take (i := 0) (oi := { dst := some 41, op := Op.load 25 (Operand.tmp 3), type := 25, pos := "law.go:58", after := #[], guard := none }) (v := _) rfl (by kernel_rfl) (by kernel_rfl) (by kernel_rfl) (fun _ _ _ h => h) (yieldsIf_load_mid (by rfl) 25 (.tmp 3) rfl w.heap.size 0 rfl S _ (fun _ h => h.1) Tryd.underlying25 rfl pil.out) hHeld ?_
  try simp only [Act.put, List.setIfInBounds_toArray, List.set_cons_zero, List.set_cons_succ]
  refine wpAnyH_take (i := 1) (oi := { dst := some 42, op := Op.load 33 (Operand.tmp 4), type := 33, pos := "law.go:58", after := #[], guard := none }) (v := _) rfl (by kernel_rfl) (by kernel_rfl) (by kernel_rfl) (fun _ _ _ h => h) (yieldsIf_load_mid (by rfl) 33 (.tmp 4) rfl (w.heap.size + 1) 0 rfl [.int .i64 ad, .int .i64 as_, .bool ab, .slice P ka cp] _ (fun _ h => h.2.1) Tryd.underlying33 rfl op_info4) hHeld ?_
  try simp only [Act.put, List.setIfInBounds_toArray, List.set_cons_zero, List.set_cons_succ]
  refine wpAnyH_take (i := 3) (oi := { dst := some 44, op := Op.load 25 (Operand.tmp 3), type := 25, pos := "law.go:58", after := #[], guard := none }) (v := _) rfl (by kernel_rfl) (by kernel_rfl) (by kernel_rfl) (fun _ _ _ h => h) (yieldsIf_load_mid (by rfl) 25 (.tmp 3) rfl w.heap.size 0 rfl S _ (fun _ h => h.1) Tryd.underlying25 rfl pil.out) hHeld ?_
  try simp only [Act.put, List.setIfInBounds_toArray, List.set_cons_zero, List.set_cons_succ]
  refine wpAnyH_take (i := 4) (oi := { dst := some 45, op := Op.load 33 (Operand.tmp 4), type := 33, pos := "law.go:58", after := #[], guard := none }) (v := _) rfl (by kernel_rfl) (by kernel_rfl) (by kernel_rfl) (fun _ _ _ h => h) (yieldsIf_load_mid (by rfl) 33 (.tmp 4) rfl (w.heap.size + 1) 0 rfl [.int .i64 ad, .int .i64 as_, .bool ab, .slice P ka cp] _ (fun _ h => h.2.1) Tryd.underlying33 rfl op_info4) hHeld ?_
  try simp only [Act.put, List.setIfInBounds_toArray, List.set_cons_zero, List.set_cons_succ]
  refine wpAnyH_ready (rs := [2]) (by kernel_rfl) (by simp) (AllReadyH.cons (o := { dst := some 43, op := Op.call { callee := Callee.value (Operand.func 23), args := #[Operand.tmp 41, Operand.tmp 42], argTypes := #[25, 33] }, type := 4, pos := "law.go:58", after := #[{ on := 0, ground := Ground.data }, { on := 1, ground := Ground.data }], guard := none }) rfl (fun K hK => ?_) AllReadyH.nil)
  go_simp
  go_at_call 23
  refine (hK1.out _ (hw6.out.trans (HB.mono hw6.out.size))).mono ?_
  rintro e w7 ⟨rfl, hb7⟩
  have HB2 := HB.trans (hb7.mono HB.size)
  clear HB hb7
  have HB := HB2
  clear HB2
  refine hK.out _ _ (by exact hSp.out _ HB) (fun hHeld' => ?_)
  clear hK K hHeld
  have hHeld := hHeld'
  clear hHeld'
  try simp only [Act.put, List.setIfInBounds_toArray, List.set_cons_zero, List.set_cons_succ]
  refine wpAnyH_ready (rs := [5]) (by kernel_rfl) (by simp) (AllReadyH.cons (o := { dst := some 46, op := Op.call { callee := Callee.value (Operand.func 24), args := #[Operand.tmp 44, Operand.tmp 45], argTypes := #[25, 33] }, type := 4, pos := "law.go:58", after := #[{ on := 3, ground := Ground.data }, { on := 4, ground := Ground.data }, { on := 2, ground := Ground.chain }], guard := none }) rfl (fun K hK => ?_) AllReadyH.nil)
  go_simp
  go_at_call 24
  refine (hK2.out _ (hw6.out.trans (HB.mono hw6.out.size))).mono ?_
  rintro e w8 ⟨rfl, hb8⟩
  have HB2 := HB.trans (hb8.mono HB.size)
  clear HB hb8
  have HB := HB2
  clear HB2
  refine hK.out _ _ (by exact hSp.out _ HB) (fun hHeld' => ?_)
  clear hK K hHeld
  have hHeld := hHeld'
  clear hHeld'
  try simp only [Act.put, List.setIfInBounds_toArray, List.set_cons_zero, List.set_cons_succ]
  refine wpAnyH_take (i := 6) (oi := { dst := some 47, op := Op.binOp BinOp.eql 4 (Operand.tmp 43) (Operand.tmp 46) 4, type := 4, pos := "law.go:58", after := #[{ on := 2, ground := Ground.data }, { on := 5, ground := Ground.data }], guard := none }) (v := ?_) rfl (by kernel_rfl) (by kernel_rfl) (by kernel_rfl) (fun _ _ _ h => h) (Or.inl ⟨by rfl, ?hyaaaaaa6⟩) hHeld ?restaaaaaa6
  case hyaaaaaa6 =>
    intro w hSw
    try dsimp only at hSw
    go_simp
    try with_reducible rfl
  try simp only [Act.put, List.setIfInBounds_toArray, List.set_cons_zero, List.set_cons_succ]
  refine wpAnyH_take (i := 7) (oi := { dst := some 48, op := Op.move (Operand.tmp 47), type := 4, pos := "law.go:58", after := #[{ on := 6, ground := Ground.data }, { on := 5, ground := Ground.chain }], guard := none }) (v := ?_) rfl (by kernel_rfl) (by kernel_rfl) (by kernel_rfl) (fun _ _ _ h => h) (Or.inl ⟨by rfl, ?hyaaaaaa7⟩) hHeld ?restaaaaaa7
  case hyaaaaaa7 =>
    intro w hSw
    try dsimp only at hSw
    go_simp
    try with_reducible rfl
  try simp only [Act.put, List.setIfInBounds_toArray, List.set_cons_zero, List.set_cons_succ]
  refine wpAnyH_take (i := 8) (oi := { dst := some 49, op := Op.move (Operand.tmp 7), type := 48, pos := "law.go:58", after := #[{ on := 7, ground := Ground.guard }], guard := some (7, true) }) (v := ?_) rfl (by kernel_rfl) (by kernel_rfl) (by kernel_rfl) (fun _ _ _ h => h) (Or.inl ⟨by rfl, ?hyaaaaaa8⟩) hHeld ?restaaaaaa8
  case hyaaaaaa8 =>
    intro w hSw
    try dsimp only at hSw
    go_simp
    try with_reducible rfl
  try simp only [Act.put, List.setIfInBounds_toArray, List.set_cons_zero, List.set_cons_succ]
  refine wpAnyH_take (i := 9) (oi := { dst := some 50, op := Op.convert 48 9 (Operand.tmp 49), type := 9, pos := "law.go:58", after := #[{ on := 8, ground := Ground.data }, { on := 7, ground := Ground.guard }], guard := some (7, true) }) (v := ?_) rfl (by kernel_rfl) (by kernel_rfl) (by kernel_rfl) (fun _ _ _ h => h) (Or.inl ⟨by rfl, ?hyaaaaaa9⟩) hHeld ?restaaaaaa9
  case hyaaaaaa9 =>
    intro w hSw
    try dsimp only at hSw
    go_simp
    try with_reducible rfl
  try simp only [Act.put, List.setIfInBounds_toArray, List.set_cons_zero, List.set_cons_succ]
  refine wpAnyH_take (i := 10) (oi := { dst := some 51, op := Op.move (Operand.tmp 10), type := 48, pos := "law.go:58", after := #[{ on := 7, ground := Ground.guard }], guard := some (7, true) }) (v := ?_) rfl (by kernel_rfl) (by kernel_rfl) (by kernel_rfl) (fun _ _ _ h => h) (Or.inl ⟨by rfl, ?hyaaaaaa10⟩) hHeld ?restaaaaaa10
  case hyaaaaaa10 =>
    intro w hSw
    try dsimp only at hSw
    go_simp
    try with_reducible rfl
  try simp only [Act.put, List.setIfInBounds_toArray, List.set_cons_zero, List.set_cons_succ]
  refine wpAnyH_take (i := 11) (oi := { dst := some 52, op := Op.convert 48 9 (Operand.tmp 51), type := 9, pos := "law.go:58", after := #[{ on := 10, ground := Ground.data }, { on := 7, ground := Ground.guard }], guard := some (7, true) }) (v := ?_) rfl (by kernel_rfl) (by kernel_rfl) (by kernel_rfl) (fun _ _ _ h => h) (Or.inl ⟨by rfl, ?hyaaaaaa11⟩) hHeld ?restaaaaaa11
  case hyaaaaaa11 =>
    intro w hSw
    try dsimp only at hSw
    go_simp
    try with_reducible rfl
  try simp only [Act.put, List.setIfInBounds_toArray, List.set_cons_zero, List.set_cons_succ]
  refine wpAnyH_take (i := 12) (oi := { dst := some 53, op := Op.binOp BinOp.eql 9 (Operand.tmp 50) (Operand.tmp 52) 9, type := 4, pos := "law.go:58", after := #[{ on := 9, ground := Ground.data }, { on := 11, ground := Ground.data }, { on := 7, ground := Ground.guard }], guard := some (7, true) }) (v := ?_) rfl (by kernel_rfl) (by kernel_rfl) (by kernel_rfl) (fun _ _ _ h => h) (Or.inl ⟨by rfl, ?hyaaaaaa12⟩) hHeld ?restaaaaaa12
  case hyaaaaaa12 =>
    intro w hSw
    try dsimp only at hSw
    go_simp
    try with_reducible rfl
  try simp only [Act.put, List.setIfInBounds_toArray, List.set_cons_zero, List.set_cons_succ]
  refine wpAnyH_take (i := 13) (oi := { dst := some 54, op := Op.pick (Operand.tmp 48) (Operand.tmp 53) (Operand.const (Value.bool false)), type := 4, pos := "law.go:58", after := #[{ on := 7, ground := Ground.data }, { on := 12, ground := Ground.data }], guard := none }) (v := ?_) rfl (by kernel_rfl) (by kernel_rfl) (by kernel_rfl) (fun _ _ _ h => h) (Or.inl ⟨by rfl, ?hyaaaaaa13⟩) hHeld ?restaaaaaa13
  case hyaaaaaa13 =>
    intro w hSw
    try dsimp only at hSw
    go_simp
    try with_reducible rfl
  try simp only [Act.put, List.setIfInBounds_toArray, List.set_cons_zero, List.set_cons_succ]
  refine wpAnyH_take (i := 14) (oi := { dst := some 55, op := Op.move (Operand.tmp 54), type := 4, pos := "law.go:58", after := #[{ on := 13, ground := Ground.data }, { on := 7, ground := Ground.chain }], guard := none }) (v := ?_) rfl (by kernel_rfl) (by kernel_rfl) (by kernel_rfl) (fun _ _ _ h => h) (Or.inl ⟨by rfl, ?hyaaaaaa14⟩) hHeld ?restaaaaaa14
  case hyaaaaaa14 =>
    intro w hSw
    try dsimp only at hSw
    go_simp
    try with_reducible rfl
  try simp only [Act.put, List.setIfInBounds_toArray, List.set_cons_zero, List.set_cons_succ]
  refine wpAnyH_take (i := 15) (oi := { dst := some 56, op := Op.move (Operand.tmp 8), type := 48, pos := "law.go:58", after := #[{ on := 14, ground := Ground.guard }], guard := some (14, true) }) (v := ?_) rfl (by kernel_rfl) (by kernel_rfl) (by kernel_rfl) (fun _ _ _ h => h) (Or.inl ⟨by rfl, ?hyaaaaaa15⟩) hHeld ?restaaaaaa15
  case hyaaaaaa15 =>
    intro w hSw
    try dsimp only at hSw
    go_simp
    try with_reducible rfl
  try simp only [Act.put, List.setIfInBounds_toArray, List.set_cons_zero, List.set_cons_succ]
  refine wpAnyH_take (i := 16) (oi := { dst := some 57, op := Op.convert 48 9 (Operand.tmp 56), type := 9, pos := "law.go:58", after := #[{ on := 15, ground := Ground.data }, { on := 14, ground := Ground.guard }], guard := some (14, true) }) (v := ?_) rfl (by kernel_rfl) (by kernel_rfl) (by kernel_rfl) (fun _ _ _ h => h) (Or.inl ⟨by rfl, ?hyaaaaaa16⟩) hHeld ?restaaaaaa16
  case hyaaaaaa16 =>
    intro w hSw
    try dsimp only at hSw
    go_simp
    try with_reducible rfl
  try simp only [Act.put, List.setIfInBounds_toArray, List.set_cons_zero, List.set_cons_succ]
  refine wpAnyH_take (i := 17) (oi := { dst := some 58, op := Op.move (Operand.tmp 11), type := 48, pos := "law.go:58", after := #[{ on := 14, ground := Ground.guard }], guard := some (14, true) }) (v := ?_) rfl (by kernel_rfl) (by kernel_rfl) (by kernel_rfl) (fun _ _ _ h => h) (Or.inl ⟨by rfl, ?hyaaaaaa17⟩) hHeld ?restaaaaaa17
  case hyaaaaaa17 =>
    intro w hSw
    try dsimp only at hSw
    go_simp
    try with_reducible rfl
  try simp only [Act.put, List.setIfInBounds_toArray, List.set_cons_zero, List.set_cons_succ]
  refine wpAnyH_take (i := 18) (oi := { dst := some 59, op := Op.convert 48 9 (Operand.tmp 58), type := 9, pos := "law.go:58", after := #[{ on := 17, ground := Ground.data }, { on := 14, ground := Ground.guard }], guard := some (14, true) }) (v := ?_) rfl (by kernel_rfl) (by kernel_rfl) (by kernel_rfl) (fun _ _ _ h => h) (Or.inl ⟨by rfl, ?hyaaaaaa18⟩) hHeld ?restaaaaaa18
  case hyaaaaaa18 =>
    intro w hSw
    try dsimp only at hSw
    go_simp
    try with_reducible rfl
  try simp only [Act.put, List.setIfInBounds_toArray, List.set_cons_zero, List.set_cons_succ]
  refine wpAnyH_take (i := 19) (oi := { dst := some 60, op := Op.binOp BinOp.eql 9 (Operand.tmp 57) (Operand.tmp 59) 9, type := 4, pos := "law.go:58", after := #[{ on := 16, ground := Ground.data }, { on := 18, ground := Ground.data }, { on := 14, ground := Ground.guard }], guard := some (14, true) }) (v := ?_) rfl (by kernel_rfl) (by kernel_rfl) (by kernel_rfl) (fun _ _ _ h => h) (Or.inl ⟨by rfl, ?hyaaaaaa19⟩) hHeld ?restaaaaaa19
  case hyaaaaaa19 =>
    intro w hSw
    try dsimp only at hSw
    go_simp
    try with_reducible rfl
  try simp only [Act.put, List.setIfInBounds_toArray, List.set_cons_zero, List.set_cons_succ]
  refine wpAnyH_take (i := 20) (oi := { dst := some 61, op := Op.pick (Operand.tmp 55) (Operand.tmp 60) (Operand.const (Value.bool false)), type := 4, pos := "law.go:58", after := #[{ on := 14, ground := Ground.data }, { on := 19, ground := Ground.data }], guard := none }) (v := ?_) rfl (by kernel_rfl) (by kernel_rfl) (by kernel_rfl) (fun _ _ _ h => h) (Or.inl ⟨by rfl, ?hyaaaaaa20⟩) hHeld ?restaaaaaa20
  case hyaaaaaa20 =>
    intro w hSw
    try dsimp only at hSw
    go_simp
    try with_reducible rfl
  try simp only [Act.put, List.setIfInBounds_toArray, List.set_cons_zero, List.set_cons_succ]
  refine wpAnyH_take (i := 21) (oi := { dst := some 62, op := Op.move (Operand.tmp 61), type := 4, pos := "law.go:58", after := #[{ on := 20, ground := Ground.data }, { on := 14, ground := Ground.chain }], guard := none }) (v := ?_) rfl (by kernel_rfl) (by kernel_rfl) (by kernel_rfl) (fun _ _ _ h => h) (Or.inl ⟨by rfl, ?hyaaaaaa21⟩) hHeld ?restaaaaaa21
  case hyaaaaaa21 =>
    intro w hSw
    try dsimp only at hSw
    go_simp
    try with_reducible rfl
  try simp only [Act.put, List.setIfInBounds_toArray, List.set_cons_zero, List.set_cons_succ]
  refine wpAnyH_take (i := 22) (oi := { dst := some 63, op := Op.move (Operand.tmp 9), type := 4, pos := "law.go:58", after := #[{ on := 21, ground := Ground.guard }], guard := some (21, true) }) (v := ?_) rfl (by kernel_rfl) (by kernel_rfl) (by kernel_rfl) (fun _ _ _ h => h) (Or.inl ⟨by rfl, ?hyaaaaaa22⟩) hHeld ?restaaaaaa22
  case hyaaaaaa22 =>
    intro w hSw
    try dsimp only at hSw
    go_simp
    try with_reducible rfl
  try simp only [Act.put, List.setIfInBounds_toArray, List.set_cons_zero, List.set_cons_succ]
  refine wpAnyH_take (i := 23) (oi := { dst := some 64, op := Op.move (Operand.tmp 12), type := 4, pos := "law.go:58", after := #[{ on := 21, ground := Ground.guard }], guard := some (21, true) }) (v := ?_) rfl (by kernel_rfl) (by kernel_rfl) (by kernel_rfl) (fun _ _ _ h => h) (Or.inl ⟨by rfl, ?hyaaaaaa23⟩) hHeld ?restaaaaaa23
  case hyaaaaaa23 =>
    intro w hSw
    try dsimp only at hSw
    go_simp
    try with_reducible rfl
  try simp only [Act.put, List.setIfInBounds_toArray, List.set_cons_zero, List.set_cons_succ]
  refine wpAnyH_take (i := 24) (oi := { dst := some 65, op := Op.binOp BinOp.eql 4 (Operand.tmp 63) (Operand.tmp 64) 4, type := 4, pos := "law.go:58", after := #[{ on := 22, ground := Ground.data }, { on := 23, ground := Ground.data }, { on := 21, ground := Ground.guard }], guard := some (21, true) }) (v := ?_) rfl (by kernel_rfl) (by kernel_rfl) (by kernel_rfl) (fun _ _ _ h => h) (Or.inl ⟨by rfl, ?hyaaaaaa24⟩) hHeld ?restaaaaaa24
  case hyaaaaaa24 =>
    intro w hSw
    try dsimp only at hSw
    go_simp
    try with_reducible rfl
  try simp only [Act.put, List.setIfInBounds_toArray, List.set_cons_zero, List.set_cons_succ]
  refine wpAnyH_take (i := 25) (oi := { dst := some 66, op := Op.pick (Operand.tmp 62) (Operand.tmp 65) (Operand.const (Value.bool false)), type := 4, pos := "law.go:58", after := #[{ on := 21, ground := Ground.data }, { on := 24, ground := Ground.data }], guard := none }) (v := ?_) rfl (by kernel_rfl) (by kernel_rfl) (by kernel_rfl) (fun _ _ _ h => h) (Or.inl ⟨by rfl, ?hyaaaaaa25⟩) hHeld ?restaaaaaa25
  case hyaaaaaa25 =>
    intro w hSw
    try dsimp only at hSw
    go_simp
    try with_reducible rfl
  try simp only [Act.put, List.setIfInBounds_toArray, List.set_cons_zero, List.set_cons_succ]
  refine wpAnyH_take (i := 26) (oi := { dst := some 6, op := Op.assign (Operand.tmp 66), type := 4, pos := "law.go:58", after := #[{ on := 25, ground := Ground.data }, { on := 21, ground := Ground.chain }, { on := 0, ground := Ground.phase }, { on := 1, ground := Ground.phase }, { on := 2, ground := Ground.phase }, { on := 3, ground := Ground.phase }, { on := 4, ground := Ground.phase }, { on := 5, ground := Ground.phase }, { on := 6, ground := Ground.phase }, { on := 7, ground := Ground.phase }, { on := 8, ground := Ground.phase }, { on := 9, ground := Ground.phase }, { on := 10, ground := Ground.phase }, { on := 11, ground := Ground.phase }, { on := 12, ground := Ground.phase }, { on := 13, ground := Ground.phase }, { on := 14, ground := Ground.phase }, { on := 15, ground := Ground.phase }, { on := 16, ground := Ground.phase }, { on := 17, ground := Ground.phase }, { on := 18, ground := Ground.phase }, { on := 19, ground := Ground.phase }, { on := 20, ground := Ground.phase }, { on := 21, ground := Ground.phase }, { on := 22, ground := Ground.phase }, { on := 23, ground := Ground.phase }, { on := 24, ground := Ground.phase }, { on := 25, ground := Ground.phase }], guard := none }) (v := ?_) rfl (by kernel_rfl) (by kernel_rfl) (by kernel_rfl) (fun _ _ _ h => h) (Or.inl ⟨by rfl, ?hyaaaaaa26⟩) hHeld ?restaaaaaa26
  case hyaaaaaa26 =>
    intro w hSw
    try dsimp only at hSw
    go_simp
    try with_reducible rfl
  try simp only [Act.put, List.setIfInBounds_toArray, List.set_cons_zero, List.set_cons_succ]
  refine wpAnyH_done (by kernel_rfl) ?_ _
  go_wp2_with fail
  go_ret
  exact ⟨rfl, hw6.out.trans (HB.mono hw6.out.size)⟩
set_option maxRecDepth 100000 in
set_option maxHeartbeats 8000000 in
theorem chkspec_any (s : Sl) (hs : SlI s) (a b : Op) (ha : OpI a) (hb : OpI b) (ka kb : Nat) (hka : a.path.length = ka) (hkb : b.path.length = kb) (P Q : Option Addr) (cp cq : Nat) (hcp : ka ≤ cp) (hcq : kb ≤ cq) (w : World) (hp : DsAt w P a.path) (hq : DsAt w Q b.path) (hL : Laid w) :
    Calls Tryd.prog 5 #[.agg (slA s), .agg #[.int .i64 a.day, .int .i64 a.salt, .bool a.bl, .slice P ka cp], .agg #[.int .i64 b.day, .int .i64 b.salt, .bool b.bl, .slice Q kb cq]] w fun e w' => e = .returned (.bool true) ∧ Below w.heap.size w w' := by
  have pil : Hid ((Tryd.prog.info? 25).map (·.size) = some (slC s).length) := Lib.hid (by have := sl_info hs.root; simpa [slA] using this)
  have hSan : Hid (∀ V, Below w.heap.size w V → Calls Tryd.prog 14 #[] V fun e w' => e = .returned (.bool true) ∧ Below V.heap.size V w') := Lib.hid fun V hV => ssane_any V (hL.below hV)
  by_cases h1 : 100 < ka
  · exact chkspec_big1 w (slC s) s.t s.f s.m a.day a.salt b.day b.salt a.bl b.bl P Q ka kb cp cq hSan rfl rfl rfl h1
  · by_cases h2 : 100 < kb
    · exact chkspec_big2 w (slC s) s.t s.f s.m a.day a.salt b.day b.salt a.bl b.bl P Q ka kb cp cq hSan rfl rfl rfl (by omega) h2
    · exact chkspec_go w (slC s) s.t s.f s.m a.day a.salt b.day b.salt a.bl b.bl P Q ka kb cp cq hSan rfl rfl rfl pil (clS s a b).1 (clS s a b).2.1 (clS s a b).2.2 (chkS s a) _ _ (Lib.hid rfl) (Lib.hid rfl)
        (Lib.hid fun V hV => sclash_any s hs a b ha hb ka kb hka hkb P Q cp cq hcp hcq (by omega) (by omega) V (hp.below hV) (hq.below hV) (hL.below hV))
        (Lib.hid fun V hV => rclash_any s hs a b ha hb ka kb hka hkb P Q cp cq hcp hcq (by omega) (by omega) V (hp.below hV) (hq.below hV) (hL.below hV))
        (Lib.hid fun V hV => scheck_any s hs a ha ka hka P cp hcp (by omega) V (hp.below hV) (hL.below hV))
        (Lib.hid fun V hV => rchk_any s hs a.day a.salt a.bl a.path ha ka hka P cp hcp V (hp.below hV)) (by omega) (by omega)
end Go.Proofs.YtnccbhndlnkboaaDoor
/- The statement SealsCheckSpec, at arguments that lie in memory. -/
namespace Go.Proofs.YtnccbhndlnkboaaDoor
open Go.RowKit Go.Shelf Cdc Sha
set_option linter.unusedVariables false
set_option linter.unusedSimpArgs false

theorem walk_SealsCheckSpec (a0 : Sl) (a1 a2 : Op) (P1 : Option Addr) (cp1 : Nat) (P2 : Option Addr) (cp2 : Nat) (w : World) (si0 : SlI a0) (lc1 : a1.path.length ≤ cp1) (ds1 : DsAt w P1 a1.path) (oi1 : OpI a1) (lc2 : a2.path.length ≤ cp2) (ds2 : DsAt w P2 a2.path) (oi2 : OpI a2) (hL : Laid w) :
    Calls Tryd.prog 5 #[.agg (slA a0), .agg (opA a1 P1 cp1), .agg (opA a2 P2 cp2)] w fun e w' => e = .returned (.bool true) ∧ Below w.heap.size w w' :=
  chkspec_any a0 si0 a1 a2 oi1 oi2 _ _ rfl rfl P1 P2 cp1 cp2 lc1 lc2 w ds1 ds2 hL
end Go.Proofs.YtnccbhndlnkboaaDoor
