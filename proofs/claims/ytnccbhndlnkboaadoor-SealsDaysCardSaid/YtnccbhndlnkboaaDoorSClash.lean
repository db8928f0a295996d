/- The walk of seals.Clash where there is no clash. -/
import Derived.Test.YtnccbhndlnkboaaDoorSOpn
namespace Go.Proofs.YtnccbhndlnkboaaDoor
open Go.RowKit Go.Shelf Cdc Sha
set_option linter.unusedVariables false
set_option linter.unusedSimpArgs false

/-- two openings contradict each other -/
def clG (s : Sl) (a b : Op) : Bool := chkS s a && (chkS s b && (decide (a.day = b.day) && !(a.bl == b.bl && decide (a.salt = b.salt))))

theorem lenA (d y : Int) (b : Bool) (p : List (List UInt8)) (P : Option Addr) (cp : Nat) : opA ⟨d, y, b, p⟩ P cp = #[.int .i64 d, .int .i64 y, .bool b, .slice P p.length cp] := rfl

set_option maxRecDepth 100000 in
set_option maxHeartbeats 4000000 in
theorem sclash_no (s : Sl) (hs : SlI s) (a b : Op) (ha : OpI a) (hb : OpI b) (ka kb : Nat) (hka : a.path.length = ka) (hkb : b.path.length = kb) (P Q : Option Addr) (cp cq : Nat) (hcp : ka ≤ cp) (hcq : kb ≤ cq) (hksa : ka ≤ 1000000) (hksb : kb ≤ 1000000) (w : World) (hp : DsAt w P a.path) (hq : DsAt w Q b.path) (hL : Laid w) (hno : clG s a b = false) :
    Calls Tryd.prog 21 #[.agg (slA s), .agg #[.int .i64 a.day, .int .i64 a.salt, .bool a.bl, .slice P ka cp], .agg #[.int .i64 b.day, .int .i64 b.salt, .bool b.bl, .slice Q kb cq]] w fun e w' => e = .returned (.tuple #[.slice none 0 0, .slice none 0 0, .bool false]) ∧ Below w.heap.size w w' := by
  have hA : Hid (∀ V, Below w.heap.size w V → Calls Tryd.prog 23 #[.agg (slA s), .agg #[.int .i64 a.day, .int .i64 a.salt, .bool a.bl, .slice P ka cp]] V fun e w' => e = .returned (.bool (chkS s a)) ∧ Below V.heap.size V w') := Lib.hid fun V hV => scheck_any s hs a ha ka hka P cp hcp hksa V (hp.below hV) (hL.below hV)
  have hB : Hid (∀ V, Below w.heap.size w V → Calls Tryd.prog 23 #[.agg (slA s), .agg #[.int .i64 b.day, .int .i64 b.salt, .bool b.bl, .slice Q kb cq]] V fun e w' => e = .returned (.bool (chkS s b)) ∧ Below V.heap.size V w') := Lib.hid fun V hV => scheck_any s hs b hb kb hkb Q cq hcq hksb V (hq.below hV) (hL.below hV)
  have s1 := heap_alloc_new w (.cells (slA s) 25)
  have hB1 : Below w.heap.size w (((w.alloc (.cells (slA s) 25)).alloc (.cells #[.int .i64 a.day, .int .i64 a.salt, .bool a.bl, .slice P ka cp] 33)).alloc (.cells #[.int .i64 b.day, .int .i64 b.salt, .bool b.bl, .slice Q kb cq] 33)) := (((Below.refl _ _).alloc (Nat.le_refl _) _).alloc (by simp) _).alloc (by simp; omega) _
  have s2 := (Below.heap_alloc (w.alloc (.cells (slA s) 25)) (.cells #[.int .i64 a.day, .int .i64 a.salt, .bool a.bl, .slice P ka cp] 33) w.heap.size (by simp)).trans s1
  have s3 := (Below.heap_alloc ((w.alloc (.cells (slA s) 25)).alloc (.cells #[.int .i64 a.day, .int .i64 a.salt, .bool a.bl, .slice P ka cp] 33)) (.cells #[.int .i64 b.day, .int .i64 b.salt, .bool b.bl, .slice Q kb cq] 33) w.heap.size (by simp; omega)).trans s2
  have o2 := heap_alloc_new (w.alloc (.cells (slA s) 25)) (.cells #[.int .i64 a.day, .int .i64 a.salt, .bool a.bl, .slice P ka cp] 33)
  have o3 := (Below.heap_alloc ((w.alloc (.cells (slA s) 25)).alloc (.cells #[.int .i64 a.day, .int .i64 a.salt, .bool a.bl, .slice P ka cp] 33)) (.cells #[.int .i64 b.day, .int .i64 b.salt, .bool b.bl, .slice Q kb cq] 33) (w.alloc (.cells (slA s) 25)).heap.size (by simp)).trans o2
  have p3 := heap_alloc_new ((w.alloc (.cells (slA s) 25)).alloc (.cells #[.int .i64 a.day, .int .i64 a.salt, .bool a.bl, .slice P ka cp] 33)) (.cells #[.int .i64 b.day, .int .i64 b.salt, .bool b.bl, .slice Q kb cq] 33)
  simp only [World.size_alloc] at o2 o3 p3
  have hz3 : (((w.alloc (.cells (slA s) 25)).alloc (.cells #[.int .i64 a.day, .int .i64 a.salt, .bool a.bl, .slice P ka cp] 33)).alloc (.cells #[.int .i64 b.day, .int .i64 b.salt, .bool b.bl, .slice Q kb cq] 33)).heap.size = w.heap.size + 3 := by simp
  have pi := Lib.hid (sl_info hs.root)
  obtain ⟨W3, hW3⟩ : ∃ W3, W3 = (((w.alloc (.cells (slA s) 25)).alloc (.cells #[.int .i64 a.day, .int .i64 a.salt, .bool a.bl, .slice P ka cp] 33)).alloc (.cells #[.int .i64 b.day, .int .i64 b.salt, .bool b.bl, .slice Q kb cq] 33)) := ⟨_, rfl⟩
  have hcells : Hid (∀ V, Below W3.heap.size W3 V → (V.rangeAt w.heap.size 0 (slA s).toList) ∧ (V.cell? ⟨w.heap.size + 1, 0, none⟩ = some (.int .i64 a.day) ∧ V.cell? ⟨w.heap.size + 1, 1, none⟩ = some (.int .i64 a.salt) ∧ V.cell? ⟨w.heap.size + 1, 2, none⟩ = some (.bool a.bl) ∧ V.cell? ⟨w.heap.size + 1, 3, none⟩ = some (.slice P ka cp)) ∧
      (V.cell? ⟨w.heap.size + 1 + 1, 0, none⟩ = some (.int .i64 b.day) ∧ V.cell? ⟨w.heap.size + 1 + 1, 1, none⟩ = some (.int .i64 b.salt) ∧ V.cell? ⟨w.heap.size + 1 + 1, 2, none⟩ = some (.bool b.bl) ∧ V.cell? ⟨w.heap.size + 1 + 1, 3, none⟩ = some (.slice Q kb cq))) := Lib.hid fun V hV => by
    subst hW3
    have h1 := (hV.block w.heap.size (by rw [hz3]; omega)).trans s3
    have h2 := (hV.block (w.heap.size + 1) (by rw [hz3]; omega)).trans o3
    have h3 := (hV.block (w.heap.size + 1 + 1) (by rw [hz3]; omega)).trans p3
    refine ⟨fun j v hj => ?_, ⟨by rw [cell_of_row _ _ _ _ _ _ h2]; rfl, by rw [cell_of_row _ _ _ _ _ _ h2]; rfl, by rw [cell_of_row _ _ _ _ _ _ h2]; rfl, by rw [cell_of_row _ _ _ _ _ _ h2]; rfl⟩, ⟨by rw [cell_of_row _ _ _ _ _ _ h3]; rfl, by rw [cell_of_row _ _ _ _ _ _ h3]; rfl, by rw [cell_of_row _ _ _ _ _ _ h3]; rfl, by rw [cell_of_row _ _ _ _ _ _ h3]; rfl⟩⟩
    rw [cell_of_row _ _ _ _ _ _ h1, Nat.zero_add]
    simpa using hj
  rw [← hW3] at hB1
  clear s1 s2 s3 o2 o3 p3 hz3 ha hb hs hp hq hL
  unfold clG at hno
  have pil : Hid ((Tryd.prog.info? 25).map (·.size) = some (slC s).length) := Lib.hid (by have := pi.out; simpa [slA] using this)
  unfold slA at hW3 hA hB hcells ⊢
  obtain ⟨S, hS⟩ : ∃ S, slC s = S := ⟨_, rfl⟩
  rw [hS] at hW3 hA hB hcells pil ⊢
  have hl0 := (hcells.out _ (Below.refl _ _)).1
  rw [hW3] at hl0
  clear pi
  obtain ⟨ad, hx1⟩ : ∃ x, a.day = x := ⟨_, rfl⟩
  obtain ⟨bd, hx2⟩ : ∃ x, b.day = x := ⟨_, rfl⟩
  obtain ⟨as_, hx3⟩ : ∃ x, a.salt = x := ⟨_, rfl⟩
  obtain ⟨bs_, hx4⟩ : ∃ x, b.salt = x := ⟨_, rfl⟩
  obtain ⟨ab, hx5⟩ : ∃ x, a.bl = x := ⟨_, rfl⟩
  obtain ⟨bb, hx6⟩ : ∃ x, b.bl = x := ⟨_, rfl⟩
  rw [hx1, hx2, hx3, hx4, hx5, hx6] at hW3 hcells
  rw [hx1, hx2, hx3, hx4, hx5, hx6] at hno
  rw [hx1, hx2, hx3, hx4, hx5, hx6]
  rw [hx1, hx3, hx5] at hA
  rw [hx2, hx4, hx6] at hB
  rw [hx1, hx2, hx3, hx4, hx5, hx6] at hl0
  replace hl0 := Lib.hid hl0
  clear hx1 hx2 hx3 hx4 hx5 hx6 hka hkb
  cases c1 : chkS s a with
  | false =>
    rw [c1] at hA
    clear hno
    go_enter Tryd.func21, Tryd.ntmps21
    go_wp2_with (refine wpList_load_midG (by rfl) 25 (.tmp 3) (by rfl) w.heap.size 0 (by rfl) S _ hl0.out Tryd.underlying25 (by rfl) pil.out ?_)
    rw [← hW3]
    refine (hA.out _ hB1).mono ?_
    rintro e w4 ⟨rfl, hb4⟩
    obtain ⟨hl4, ⟨y0, y1, y2, y3⟩, ⟨z0, z1, z2, z3⟩⟩ := hcells.out w4 hb4
    replace hl4 := Lib.hid hl4
    have hB4 := hB1.trans (hb4.mono hB1.size)
    go_wp2_with fail
    refine bodyPost_ret (v := .tuple #[.slice none 0 0, .slice none 0 0, .bool false]) (by simp [results, Tryd.results21, go_sem]) rfl ⟨rfl, hB4⟩
  | true =>
    rw [c1] at hA hno
    cases c2 : chkS s b with
    | false =>
      rw [c2] at hB
      clear hno
      go_enter Tryd.func21, Tryd.ntmps21
      go_wp2_with (refine wpList_load_midG (by rfl) 25 (.tmp 3) (by rfl) w.heap.size 0 (by rfl) S _ hl0.out Tryd.underlying25 (by rfl) pil.out ?_)
      rw [← hW3]
      refine (hA.out _ hB1).mono ?_
      rintro e w4 ⟨rfl, hb4⟩
      obtain ⟨hl4, ⟨y0, y1, y2, y3⟩, ⟨z0, z1, z2, z3⟩⟩ := hcells.out w4 hb4
      replace hl4 := Lib.hid hl4
      have hB4 := hB1.trans (hb4.mono hB1.size)
      go_wp2_with (refine wpList_load_midG (by rfl) 25 (.tmp 3) (by rfl) w.heap.size 0 (by rfl) S _ hl4.out Tryd.underlying25 (by rfl) pil.out ?_)
      refine (hB.out _ hB4).mono ?_
      rintro e w5 ⟨rfl, hb5⟩
      clear hl4 y0 y1 y2 y3 z0 z1 z2 z3
      obtain ⟨-, ⟨y0, y1, y2, y3⟩, ⟨z0, z1, z2, z3⟩⟩ := hcells.out w5 (hb4.trans (hb5.mono hb4.size))
      have hB5 := hB4.trans (hb5.mono hB4.size)
      go_wp2_with fail
      refine bodyPost_ret (v := .tuple #[.slice none 0 0, .slice none 0 0, .bool false]) (by simp [results, Tryd.results21, go_sem]) rfl ⟨rfl, hB5⟩
    | true =>
      rw [c2] at hB hno
      by_cases c3 : ad = bd
      · subst c3
        have hno2 : (ab == bb && decide (as_ = bs_)) = true := by simpa using hno
        rw [Bool.and_eq_true] at hno2
        obtain ⟨c4, c5⟩ := hno2
        obtain rfl : ab = bb := by simpa using c4
        obtain rfl : as_ = bs_ := of_decide_eq_true c5
        clear c4 c5 hno
        go_enter Tryd.func21, Tryd.ntmps21
        go_wp2_with (refine wpList_load_midG (by rfl) 25 (.tmp 3) (by rfl) w.heap.size 0 (by rfl) S _ hl0.out Tryd.underlying25 (by rfl) pil.out ?_)
        rw [← hW3]
        refine (hA.out _ hB1).mono ?_
        rintro e w4 ⟨rfl, hb4⟩
        obtain ⟨hl4, ⟨y0, y1, y2, y3⟩, ⟨z0, z1, z2, z3⟩⟩ := hcells.out w4 hb4
        replace hl4 := Lib.hid hl4
        have hB4 := hB1.trans (hb4.mono hB1.size)
        go_wp2_with (refine wpList_load_midG (by rfl) 25 (.tmp 3) (by rfl) w.heap.size 0 (by rfl) S _ hl4.out Tryd.underlying25 (by rfl) pil.out ?_)
        refine (hB.out _ hB4).mono ?_
        rintro e w5 ⟨rfl, hb5⟩
        clear hl4 y0 y1 y2 y3 z0 z1 z2 z3
        obtain ⟨-, ⟨y0, y1, y2, y3⟩, ⟨z0, z1, z2, z3⟩⟩ := hcells.out w5 (hb4.trans (hb5.mono hb4.size))
        have hB5 := hB4.trans (hb5.mono hB4.size)
        go_wp2_with fail
        refine bodyPost_ret (v := .tuple #[.slice none 0 0, .slice none 0 0, .bool false]) (by simp [results, Tryd.results21, go_sem]) rfl ⟨rfl, hB5⟩
      · have d3 : (ad == bd) = false := by simpa using c3
        clear hno
        go_enter Tryd.func21, Tryd.ntmps21
        go_wp2_with (refine wpList_load_midG (by rfl) 25 (.tmp 3) (by rfl) w.heap.size 0 (by rfl) S _ hl0.out Tryd.underlying25 (by rfl) pil.out ?_)
        rw [← hW3]
        refine (hA.out _ hB1).mono ?_
        rintro e w4 ⟨rfl, hb4⟩
        obtain ⟨hl4, ⟨y0, y1, y2, y3⟩, ⟨z0, z1, z2, z3⟩⟩ := hcells.out w4 hb4
        replace hl4 := Lib.hid hl4
        have hB4 := hB1.trans (hb4.mono hB1.size)
        go_wp2_with (refine wpList_load_midG (by rfl) 25 (.tmp 3) (by rfl) w.heap.size 0 (by rfl) S _ hl4.out Tryd.underlying25 (by rfl) pil.out ?_)
        refine (hB.out _ hB4).mono ?_
        rintro e w5 ⟨rfl, hb5⟩
        clear hl4 y0 y1 y2 y3 z0 z1 z2 z3
        obtain ⟨-, ⟨y0, y1, y2, y3⟩, ⟨z0, z1, z2, z3⟩⟩ := hcells.out w5 (hb4.trans (hb5.mono hb4.size))
        have hB5 := hB4.trans (hb5.mono hB4.size)
        go_wp2_with fail
        refine bodyPost_ret (v := .tuple #[.slice none 0 0, .slice none 0 0, .bool false]) (by simp [results, Tryd.results21, go_sem]) rfl ⟨rfl, hB5⟩
end Go.Proofs.YtnccbhndlnkboaaDoor
