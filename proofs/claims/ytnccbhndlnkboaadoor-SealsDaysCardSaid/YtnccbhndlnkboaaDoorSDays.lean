/- The walk of the statement SealsDays. -/
import Derived.Test.YtnccbhndlnkboaaDoorLLeaf
import Derived.Test.YtnccbhndlnkboaaDoorGroupH
namespace Go.Proofs.YtnccbhndlnkboaaDoor
open Go.RowKit Go.Shelf Cdc Sha
set_option linter.unusedVariables false
set_option linter.unusedSimpArgs false

theorem run_take (W : World) (g o n c k : Nat) (hk : k ≤ c) (h0 : 0 < c) : (Instr.slice 31 (.slice (some ⟨g, o, none⟩) n c) none (some (.int .i64 (k : Int))) none).run Tryd.prog W = .ok (.slice (some ⟨g, o, none⟩) k c) W := by
  have ht : Tryd.prog.underlying 31 = some (.slice 23) := Tryd.underlying31
  have ht' : Tryd.prog.underlying 31 = some (.slice (Tryd.prog.elem 31)) := by simp [Program.elem, ht]
  have he : Tryd.prog.elem 31 = 23 := by simp [Program.elem, ht]
  rw [run_slice_h W 31 _ _ _ ht' .i64 _ (by omega) (by omega), he, Tryd.sizeOf23]
  simp [Result.andThen, sliced]
  exact fun _ => rfl
theorem built_z32 : Tryd.prog.built 23 [] = some (dc zero32).toArray := by kernel_rfl
theorem wpList_store_ds {ops : Array Oper} {rest : List Oper} {op : Oper} {a : Act} {w : World} {Q : Exit → Act → World → Prop} (hgd : op.guard = none) (x y : Operand) (ho : op.op = .store 31 x y) (hd : op.dst = none)
    (g j : Nat) (hx : a.eval x = .pointer (some ⟨g, j, none⟩)) (A : Option Addr) (n c : Nat) (hy : a.eval y = .slice A n c) (C : Array Value) (t : TypeId) (hg : w.heap[g]? = some (.cells C t (0, 0))) (old : Value) (hj : C[j]? = some old)
    (h : ∀ W : World, W.heap[g]? = some (.cells (C.setIfInBounds j (.slice A n c)) t (0, 0)) → w.grownBy W (some g) → wpList Tryd.prog ops Q rest a W) : wpList Tryd.prog ops Q (op :: rest) a w := by
  refine wpList_plain hgd fun K hK => ?_
  have hc : w.cell? ⟨g, j, none⟩ = some old := by rw [cell_of_row _ _ _ _ _ _ hg]; exact hj
  have hf := frozen_of_row w g j _ _ hg
  have key := hK a (w.setCell ⟨g, j, none⟩ (.slice A n c)) (h _ (heap_setCell_same w g j _ _ _ hg) (setCell_grown w g j _))
  obtain ⟨dst, o, ty, pos, after, guard⟩ := op
  dsimp only at ho hd hgd
  subst ho hd hgd
  unfold Oper.wp execOp
  simp only [hx, hy]
  go_simp
  exact key
theorem take_ds {w : World} {A : Option Addr} {l : List (List UInt8)} (h : DsAt w A l) (k : Nat) : DsAt w A (l.take k) := fun i x hi => by
  rw [List.getElem?_take] at hi
  split at hi
  · exact h i x hi
  · cases hi
theorem ds_set {w : World} {A : Option Addr} {l : List (List UInt8)} {g j : Nat} {v : Value} (h : DsAt w A l) (hne : ∀ b o, A = some ⟨b, o, none⟩ → b ≠ g) : DsAt (w.setCell ⟨g, j, none⟩ v) A l := fun i x hi => by
  obtain ⟨b, o, hA, hlt, hr⟩ := h i x hi
  have hg := setCell_grown w g j v
  refine ⟨b, o, hA, Nat.lt_of_lt_of_le hlt hg.size, fun q u hq => ?_⟩
  exact (World.cell?_of_block (w := w) (a := ⟨b, o + i * 32 + q, none⟩) (hg.block b hlt (fun e => hne b o hA (Option.some.inj e)))).trans (hr q u hq)

set_option maxRecDepth 100000 in
set_option maxHeartbeats 4000000 in
theorem sdays_big (s : Sl) (hs : SlI s) (d n : Int) (b : Bool) (p : List (List UInt8)) (k cp : Nat) (P : Option Addr) (ho : OpI ⟨d, n, b, p⟩) (hk : p.length = k) (hcp : k ≤ cp) (w : World) (hp : DsAt w P p) (hL : Laid w) (h : 100 < k) : Calls Tryd.prog 6 #[.agg (slA s), .agg #[.int .i64 d, .int .i64 n, .bool b, .slice P k cp]] w fun e w' => e = .returned (.bool true) ∧ Below w.heap.size w w' := by
  have hSn : Hid (∀ V, Below w.heap.size w V → Calls Tryd.prog 14 #[] V fun e w' => e = .returned (.bool true) ∧ Below V.heap.size V w') := Lib.hid fun V hV => ssane_any V (hL.below hV)
  have r1 := (Below.heap_alloc (w.alloc (.cells (slA s) 25)) (.cells #[.int .i64 d, .int .i64 n, .bool b, .slice P k cp] 33) w.heap.size (by simp)).trans (heap_alloc_new w (.cells (slA s) 25))
  have r2 := heap_alloc_new (w.alloc (.cells (slA s) 25)) (.cells #[.int .i64 d, .int .i64 n, .bool b, .slice P k cp] 33)
  rw [World.size_alloc] at r2
  have hB2 : Below w.heap.size w ((w.alloc (.cells (slA s) 25)).alloc (.cells #[.int .i64 d, .int .i64 n, .bool b, .slice P k cp] 33)) := ((Below.refl _ _).alloc (Nat.le_refl _) _).alloc (by simp) _
  have hz2 : ((w.alloc (.cells (slA s) 25)).alloc (.cells #[.int .i64 d, .int .i64 n, .bool b, .slice P k cp] 33)).heap.size = w.heap.size + 2 := by simp
  obtain ⟨W2, hW2⟩ : ∃ W2, W2 = ((w.alloc (.cells (slA s) 25)).alloc (.cells #[.int .i64 d, .int .i64 n, .bool b, .slice P k cp] 33)) := ⟨_, rfl⟩
  rw [← hW2] at r1 r2 hB2 hz2
  have hcl : Hid (∀ V, Below W2.heap.size W2 V → V.heap[w.heap.size]? = some (.cells (slA s) 25 (0, 0)) ∧ V.heap[w.heap.size + 1]? = some (.cells #[.int .i64 d, .int .i64 n, .bool b, .slice P k cp] 33 (0, 0))) := Lib.hid fun V hV => ⟨(hV.block w.heap.size (by rw [hz2]; omega)).trans r1, (hV.block (w.heap.size + 1) (by rw [hz2]; omega)).trans r2⟩
  have hsp : Hid (∀ W : World, W.heap[w.heap.size]? = some (.cells (slA s) 25 (0, 0)) ∧ W.heap[w.heap.size + 1]? = some (.cells #[.int .i64 d, .int .i64 n, .bool b, .slice P k cp] 33 (0, 0)) → (W.cell? ⟨w.heap.size, 0, none⟩ = some (.int .i64 s.t) ∧ W.cell? ⟨w.heap.size, 1, none⟩ = some (.int .i64 s.f) ∧ W.cell? ⟨w.heap.size, 2, none⟩ = some (.int .i64 s.m)) ∧ (W.cell? ⟨w.heap.size + 1, 0, none⟩ = some (.int .i64 d) ∧ W.cell? ⟨w.heap.size + 1, 1, none⟩ = some (.int .i64 n) ∧ W.cell? ⟨w.heap.size + 1, 2, none⟩ = some (.bool b) ∧ W.cell? ⟨w.heap.size + 1, 3, none⟩ = some (.slice P k cp))) := Lib.hid fun W h => by
    obtain ⟨h1, h2⟩ := h
    refine ⟨⟨by rw [cell_of_row _ _ _ _ _ _ h1]; rfl, by rw [cell_of_row _ _ _ _ _ _ h1]; rfl, by rw [cell_of_row _ _ _ _ _ _ h1]; rfl⟩, ⟨by rw [cell_of_row _ _ _ _ _ _ h2]; rfl, by rw [cell_of_row _ _ _ _ _ _ h2]; rfl, by rw [cell_of_row _ _ _ _ _ _ h2]; rfl, by rw [cell_of_row _ _ _ _ _ _ h2]; rfl⟩⟩
  have pl : Hid ((Tryd.prog.info? 25).map (·.size) = some (slC s).length) := Lib.hid (by have := sl_info hs.root; simpa [slA] using this)
  replace hB2 := Lib.hid hB2
  clear r1 r2 hz2
  have d1 : decide ((100 : Int) < (k : Int)) = true := decide_eq_true (by omega)
  clear hs ho hp hL hk
  go_enter Tryd.func6, Tryd.ntmps6
  go_wp2_with fail
  rw [← hW2]
  refine (hSn.out _ hB2.out).mono ?_
  rintro e w3 ⟨rfl, hb3⟩
  have hc3 := Lib.hid (hcl.out _ hb3)
  have HB3 := hB2.out.trans (hb3.mono hB2.out.size)
  obtain ⟨⟨x0, x1, x2⟩, ⟨y0, y1, y2, y3⟩⟩ := hsp.out _ hc3.out
  go_wp2_with fail
  go_ret
  exact ⟨rfl, HB3⟩
set_option maxRecDepth 100000 in
set_option maxHeartbeats 4000000 in
theorem sdays_no (s : Sl) (hs : SlI s) (d n : Int) (b : Bool) (p : List (List UInt8)) (k cp : Nat) (P : Option Addr) (ho : OpI ⟨d, n, b, p⟩) (hk : p.length = k) (hcp : k ≤ cp) (w : World) (hp : DsAt w P p) (hL : Laid w) (h : k ≤ 100) (hc : chkS s ⟨d, n, b, p⟩ = false) : Calls Tryd.prog 6 #[.agg (slA s), .agg #[.int .i64 d, .int .i64 n, .bool b, .slice P k cp]] w fun e w' => e = .returned (.bool true) ∧ Below w.heap.size w w' := by
  have hSn : Hid (∀ V, Below w.heap.size w V → Calls Tryd.prog 14 #[] V fun e w' => e = .returned (.bool true) ∧ Below V.heap.size V w') := Lib.hid fun V hV => ssane_any V (hL.below hV)
  have r1 := (Below.heap_alloc (w.alloc (.cells (slA s) 25)) (.cells #[.int .i64 d, .int .i64 n, .bool b, .slice P k cp] 33) w.heap.size (by simp)).trans (heap_alloc_new w (.cells (slA s) 25))
  have r2 := heap_alloc_new (w.alloc (.cells (slA s) 25)) (.cells #[.int .i64 d, .int .i64 n, .bool b, .slice P k cp] 33)
  rw [World.size_alloc] at r2
  have hB2 : Below w.heap.size w ((w.alloc (.cells (slA s) 25)).alloc (.cells #[.int .i64 d, .int .i64 n, .bool b, .slice P k cp] 33)) := ((Below.refl _ _).alloc (Nat.le_refl _) _).alloc (by simp) _
  have hz2 : ((w.alloc (.cells (slA s) 25)).alloc (.cells #[.int .i64 d, .int .i64 n, .bool b, .slice P k cp] 33)).heap.size = w.heap.size + 2 := by simp
  obtain ⟨W2, hW2⟩ : ∃ W2, W2 = ((w.alloc (.cells (slA s) 25)).alloc (.cells #[.int .i64 d, .int .i64 n, .bool b, .slice P k cp] 33)) := ⟨_, rfl⟩
  rw [← hW2] at r1 r2 hB2 hz2
  have hcl : Hid (∀ V, Below W2.heap.size W2 V → V.heap[w.heap.size]? = some (.cells (slA s) 25 (0, 0)) ∧ V.heap[w.heap.size + 1]? = some (.cells #[.int .i64 d, .int .i64 n, .bool b, .slice P k cp] 33 (0, 0))) := Lib.hid fun V hV => ⟨(hV.block w.heap.size (by rw [hz2]; omega)).trans r1, (hV.block (w.heap.size + 1) (by rw [hz2]; omega)).trans r2⟩
  have hsp : Hid (∀ W : World, W.heap[w.heap.size]? = some (.cells (slA s) 25 (0, 0)) ∧ W.heap[w.heap.size + 1]? = some (.cells #[.int .i64 d, .int .i64 n, .bool b, .slice P k cp] 33 (0, 0)) → (W.cell? ⟨w.heap.size, 0, none⟩ = some (.int .i64 s.t) ∧ W.cell? ⟨w.heap.size, 1, none⟩ = some (.int .i64 s.f) ∧ W.cell? ⟨w.heap.size, 2, none⟩ = some (.int .i64 s.m)) ∧ (W.cell? ⟨w.heap.size + 1, 0, none⟩ = some (.int .i64 d) ∧ W.cell? ⟨w.heap.size + 1, 1, none⟩ = some (.int .i64 n) ∧ W.cell? ⟨w.heap.size + 1, 2, none⟩ = some (.bool b) ∧ W.cell? ⟨w.heap.size + 1, 3, none⟩ = some (.slice P k cp))) := Lib.hid fun W h => by
    obtain ⟨h1, h2⟩ := h
    refine ⟨⟨by rw [cell_of_row _ _ _ _ _ _ h1]; rfl, by rw [cell_of_row _ _ _ _ _ _ h1]; rfl, by rw [cell_of_row _ _ _ _ _ _ h1]; rfl⟩, ⟨by rw [cell_of_row _ _ _ _ _ _ h2]; rfl, by rw [cell_of_row _ _ _ _ _ _ h2]; rfl, by rw [cell_of_row _ _ _ _ _ _ h2]; rfl, by rw [cell_of_row _ _ _ _ _ _ h2]; rfl⟩⟩
  have pl : Hid ((Tryd.prog.info? 25).map (·.size) = some (slC s).length) := Lib.hid (by have := sl_info hs.root; simpa [slA] using this)
  replace hB2 := Lib.hid hB2
  clear r1 r2 hz2
  have hK : Hid (∀ V, Below w.heap.size w V → Calls Tryd.prog 23 #[.agg (slC s).toArray, .agg #[.int .i64 d, .int .i64 n, .bool b, .slice P k cp]] V fun e w' => e = .returned (.bool (chkS s ⟨d, n, b, p⟩)) ∧ Below V.heap.size V w') := Lib.hid fun V hV => scheck_any s hs ⟨d, n, b, p⟩ ho k hk P cp hcp (by omega) V (hp.below hV) (hL.below hV)
  rw [hc] at hK
  have d1 : decide ((100 : Int) < (k : Int)) = false := decide_eq_false (by omega)
  clear hs ho hp hL hk hc
  go_enter Tryd.func6, Tryd.ntmps6
  go_wp2_with fail
  rw [← hW2]
  refine (hSn.out _ hB2.out).mono ?_
  rintro e w3 ⟨rfl, hb3⟩
  have hc3 := Lib.hid (hcl.out _ hb3)
  have HB3 := hB2.out.trans (hb3.mono hB2.out.size)
  obtain ⟨⟨x0, x1, x2⟩, ⟨y0, y1, y2, y3⟩⟩ := hsp.out _ hc3.out
  go_wp2_with (refine wpList_load_midG (by rfl) 25 (.tmp 2) (by rfl) w.heap.size 0 (by rfl) (slC s) _ (row_range hc3.out.1) Tryd.underlying25 (by rfl) pl.out ?_)
  refine (hK.out _ HB3).mono ?_
  rintro e w4 ⟨rfl, hb4⟩
  have hB4 := HB3.trans (hb4.mono HB3.size)
  go_wp2_with fail
  go_ret
  exact ⟨rfl, hB4⟩
set_option maxRecDepth 100000 in
set_option maxHeartbeats 16000000 in
theorem sdays_pos (s : Sl) (hs : SlI s) (d n : Int) (b : Bool) (p : List (List UInt8)) (k cp : Nat) (P : Option Addr) (ho : OpI ⟨d, n, b, p⟩) (hk : p.length = k) (hcp : k ≤ cp) (w : World) (hp : DsAt w P p) (hL : Laid w) (h : 1 ≤ k ∧ k ≤ 100) (hc : chkS s ⟨d, n, b, p⟩ = true) : Calls Tryd.prog 6 #[.agg (slA s), .agg #[.int .i64 d, .int .i64 n, .bool b, .slice P k cp]] w fun e w' => e = .returned (.bool true) ∧ Below w.heap.size w w' := by
  have hSn : Hid (∀ V, Below w.heap.size w V → Calls Tryd.prog 14 #[] V fun e w' => e = .returned (.bool true) ∧ Below V.heap.size V w') := Lib.hid fun V hV => ssane_any V (hL.below hV)
  have r1 := (Below.heap_alloc (w.alloc (.cells (slA s) 25)) (.cells #[.int .i64 d, .int .i64 n, .bool b, .slice P k cp] 33) w.heap.size (by simp)).trans (heap_alloc_new w (.cells (slA s) 25))
  have r2 := heap_alloc_new (w.alloc (.cells (slA s) 25)) (.cells #[.int .i64 d, .int .i64 n, .bool b, .slice P k cp] 33)
  rw [World.size_alloc] at r2
  have hB2 : Below w.heap.size w ((w.alloc (.cells (slA s) 25)).alloc (.cells #[.int .i64 d, .int .i64 n, .bool b, .slice P k cp] 33)) := ((Below.refl _ _).alloc (Nat.le_refl _) _).alloc (by simp) _
  have hz2 : ((w.alloc (.cells (slA s) 25)).alloc (.cells #[.int .i64 d, .int .i64 n, .bool b, .slice P k cp] 33)).heap.size = w.heap.size + 2 := by simp
  obtain ⟨W2, hW2⟩ : ∃ W2, W2 = ((w.alloc (.cells (slA s) 25)).alloc (.cells #[.int .i64 d, .int .i64 n, .bool b, .slice P k cp] 33)) := ⟨_, rfl⟩
  rw [← hW2] at r1 r2 hB2 hz2
  have hcl : Hid (∀ V, Below W2.heap.size W2 V → V.heap[w.heap.size]? = some (.cells (slA s) 25 (0, 0)) ∧ V.heap[w.heap.size + 1]? = some (.cells #[.int .i64 d, .int .i64 n, .bool b, .slice P k cp] 33 (0, 0))) := Lib.hid fun V hV => ⟨(hV.block w.heap.size (by rw [hz2]; omega)).trans r1, (hV.block (w.heap.size + 1) (by rw [hz2]; omega)).trans r2⟩
  have hsp : Hid (∀ W : World, W.heap[w.heap.size]? = some (.cells (slA s) 25 (0, 0)) ∧ W.heap[w.heap.size + 1]? = some (.cells #[.int .i64 d, .int .i64 n, .bool b, .slice P k cp] 33 (0, 0)) → (W.cell? ⟨w.heap.size, 0, none⟩ = some (.int .i64 s.t) ∧ W.cell? ⟨w.heap.size, 1, none⟩ = some (.int .i64 s.f) ∧ W.cell? ⟨w.heap.size, 2, none⟩ = some (.int .i64 s.m)) ∧ (W.cell? ⟨w.heap.size + 1, 0, none⟩ = some (.int .i64 d) ∧ W.cell? ⟨w.heap.size + 1, 1, none⟩ = some (.int .i64 n) ∧ W.cell? ⟨w.heap.size + 1, 2, none⟩ = some (.bool b) ∧ W.cell? ⟨w.heap.size + 1, 3, none⟩ = some (.slice P k cp))) := Lib.hid fun W h => by
    obtain ⟨h1, h2⟩ := h
    refine ⟨⟨by rw [cell_of_row _ _ _ _ _ _ h1]; rfl, by rw [cell_of_row _ _ _ _ _ _ h1]; rfl, by rw [cell_of_row _ _ _ _ _ _ h1]; rfl⟩, ⟨by rw [cell_of_row _ _ _ _ _ _ h2]; rfl, by rw [cell_of_row _ _ _ _ _ _ h2]; rfl, by rw [cell_of_row _ _ _ _ _ _ h2]; rfl, by rw [cell_of_row _ _ _ _ _ _ h2]; rfl⟩⟩
  have pl : Hid ((Tryd.prog.info? 25).map (·.size) = some (slC s).length) := Lib.hid (by have := sl_info hs.root; simpa [slA] using this)
  replace hB2 := Lib.hid hB2
  clear r1 r2 hz2
  have hK : Hid (∀ V, Below w.heap.size w V → Calls Tryd.prog 23 #[.agg (slC s).toArray, .agg #[.int .i64 d, .int .i64 n, .bool b, .slice P k cp]] V fun e w' => e = .returned (.bool (chkS s ⟨d, n, b, p⟩)) ∧ Below V.heap.size V w') := Lib.hid fun V hV => scheck_any s hs ⟨d, n, b, p⟩ ho k hk P cp hcp (by omega) V (hp.below hV) (hL.below hV)
  rw [hc] at hK
  have hPs := hc
  obtain ⟨⟨a1, a2, a3, a4, a5, a6⟩, ⟨a7, a8⟩, ⟨a9, a10⟩, hcv⟩ := chk_some hc
  dsimp only at a7 a8 a9 a10 hcv
  have d1 : decide ((100 : Int) < (k : Int)) = false := decide_eq_false (by omega)
  have d2 : decide (s.t < 0) = false := decide_eq_false (by omega)
  have d3 : decide (63 < s.t) = false := decide_eq_false (by omega)
  have d4 : decide (s.m < 1) = false := decide_eq_false (by omega)
  have d5 : decide (512 < s.m) = false := decide_eq_false (by omega)
  have d6 : decide (d < s.f) = false := decide_eq_false (by omega)
  have d7 : decide (s.m ≤ d - s.f) = false := decide_eq_false (by omega)
  have d8 : decide (73048 < d) = false := decide_eq_false (by omega)
  have d9 : decide (n < 0) = false := decide_eq_false (by omega)
  have d10 : decide (1099511627776 < n) = false := decide_eq_false (by omega)
  have hwr : IntKind.i64.wrap (d - s.f) = d - s.f := IntWalk.i64_in _ (by omega)
  have hk2 := Lib.hid hk
  obtain ⟨q, hq⟩ : ∃ q, (leafM s.t d b n).length = q := ⟨_, rfl⟩
  have hq9 : q ≤ 1000 := hq ▸ (leaf_sm (b := b) hs.t ho.day ho.salt).2
  have hLf : Hid (∀ V, Calls Tryd.prog 26 #[.int .i64 s.t, .agg #[.int .i64 d, .int .i64 n, .bool b, .slice P k cp]] V (JoinC (leafM s.t d b n) V)) := Lib.hid fun V => lleaf_any s.t d n b P k cp hs.t ho.day ho.salt V
  have hC : Hid (∀ V A c, Below w.heap.size w V → AtO V A (leafM s.t d b n) → Calls Tryd.prog 25 #[.int .i64 s.m, .int .i64 (d - s.f), .slice A q c, .slice P k cp] V fun e w' => e = .returned (.tuple #[.agg (dg s.root), .int .i64 0]) ∧ Below V.heap.size V w') := Lib.hid fun V A c hV hat => by
    have := mClimb_any s.m (d - s.f) (leafM s.t d b n) q hq (by omega) A c p k hk P cp hcp (by omega) V hat (hp.below hV) ho.path (hL.below hV)
    rw [hcv] at this
    exact this
  have hlen2 : (p ++ [zero32]).length = k + 1 := by rw [List.length_append, hk]; rfl
  have hp2 : ∀ y ∈ p ++ [zero32], y.length = 32 := fun y hy => by
    rcases List.mem_append.1 hy with h | h
    · exact ho.path y h
    · simp at h; subst h; exact zero32_len
  have hK2 : Hid (∀ V A c, Below w.heap.size w V → k + 1 ≤ c → DsAt V A (p ++ [zero32]) → Calls Tryd.prog 23 #[.agg (slC s).toArray, .agg #[.int .i64 d, .int .i64 n, .bool b, .slice A (k + 1) c]] V fun e w' => e = .returned (.bool false) ∧ Below V.heap.size V w') := Lib.hid fun V A c hV hc1 hd => by
    have := scheck_any s hs ⟨d, n, b, p ++ [zero32]⟩ ⟨ho.day, ho.salt, hp2⟩ (k + 1) hlen2 A c hc1 (by omega) V hd (hL.below hV)
    rw [chk_other hc (p ++ [zero32]) (by dsimp only; rw [hlen2, hk]; omega)] at this
    exact this
  have hK3 : Hid (∀ V, Below w.heap.size w V → Calls Tryd.prog 23 #[.agg (slC s).toArray, .agg #[.int .i64 d, .int .i64 n, .bool b, .slice P (k - 1) cp]] V fun e w' => e = .returned (.bool false) ∧ Below V.heap.size V w') := Lib.hid fun V hV => by
    have hlen3 : (p.take (k - 1)).length = k - 1 := by rw [List.length_take, hk]; omega
    have := scheck_any s hs ⟨d, n, b, p.take (k - 1)⟩ ⟨ho.day, ho.salt, fun y hy => ho.path y (List.mem_of_mem_take hy)⟩ (k - 1) hlen3 P cp (by omega) (by omega) V (take_ds (hp.below hV) (k - 1)) (hL.below hV)
    rw [chk_other hc (p.take (k - 1)) (by dsimp only; rw [hlen3, hk]; omega)] at this
    exact this
  obtain ⟨x, hx⟩ : ∃ x, p[0]? = some x := ⟨_, List.getElem?_eq_getElem (by omega)⟩
  obtain ⟨gp, op, hP, hgp, -⟩ := hp 0 x hx
  have hcut : ∀ W, (Instr.slice 31 (.slice P k cp) none (some (.int .i64 ((k - 1 : Nat) : Int))) none).run Tryd.prog W = .ok (.slice P (k - 1) cp) W := fun W => by
    rw [hP]
    exact run_take W gp op k cp (k - 1) (by omega) (by omega)
  have hwk : IntKind.i64.wrap ((k : Int) - 1) = ((k - 1 : Nat) : Int) := by rw [IntWalk.i64_in _ (by omega)]; omega
  have e0 : decide (0 < k) = true := decide_eq_true (by omega)
  have e1 : decide (k = 0) = false := decide_eq_false (by omega)
  have e2 : ((k : Int) == 0) = false := by simp; omega
  have e3 : (k == 0) = false := by simp; omega
  clear hx hgp hP x gp op
  obtain ⟨r, hr⟩ : ∃ r, s.root = r := ⟨_, rfl⟩
  have hr32 : r.length = 32 := hr ▸ hs.root
  have hro : Hid (∀ W : World, W.heap[w.heap.size]? = some (.cells (slA s) 25 (0, 0)) → W.rangeAt w.heap.size 3 (dc r)) := Lib.hid fun W h j v hj => by
    rw [cell_of_row _ _ _ _ _ _ h, show 3 + j = j + 1 + 1 + 1 by omega]
    simpa [slA, slC, hr] using hj
  rw [hr] at hC
  have pr1 := Lib.hid (dc_info hr32)
  have pr2 := Lib.hid (dg_info r hr32)
  have por := Lib.hid (dg_one r)
  have psr := Lib.hid (show (dg zero32).size = (dg r).size by rw [dg_size, dg_size, hr32, zero32_len])
  have hEq : ∀ V, (Op.equalIn 10000 23 (.agg (dc r).toArray) (.agg (dc r).toArray)).run Tryd.prog V = .ok (decide (r = r)) V := eq_dg r r hr32 hr32
  obtain ⟨L, hLL⟩ : ∃ L, leafM s.t d b n = L := ⟨_, rfl⟩
  rw [hLL] at hLf hC
  have hq2 : Hid (L.length = q) := Lib.hid (hLL ▸ hq)
  have hpp := Lib.hid hp
  have h32p := Lib.hid ho.path
  have h32z := Lib.hid hp2
  have hl2 := Lib.hid hlen2
  have hkk := Lib.hid h
  clear hLL hq hq9 hcv hPs a1 a2 a3 a4 a5 a6 a7 a8 a9 a10 hlen2 hp2 hp ho hs hL hk hr hr32 hc h
  go_enter Tryd.func6, Tryd.ntmps6
  go_wp2_with fail
  rw [← hW2]
  refine (hSn.out _ hB2.out).mono ?_
  rintro e w3 ⟨rfl, hb3⟩
  have hc3 := Lib.hid (hcl.out _ hb3)
  have HB3 := hB2.out.trans (hb3.mono hB2.out.size)
  obtain ⟨⟨x0, x1, x2⟩, ⟨y0, y1, y2, y3⟩⟩ := hsp.out _ hc3.out
  go_wp2_with (refine wpList_load_midG (by rfl) 25 (.tmp 2) (by rfl) w.heap.size 0 (by rfl) (slC s) _ (row_range hc3.out.1) Tryd.underlying25 (by rfl) pl.out ?_)
  refine (hK.out _ HB3).mono ?_
  rintro e w4 ⟨rfl, hb4⟩
  have hB4 := HB3.trans (hb4.mono HB3.size)
  have hc4 := Lib.hid (show w4.heap[w.heap.size]? = some (.cells (slA s) 25 (0, 0)) ∧ w4.heap[w.heap.size + 1]? = some (.cells #[.int .i64 d, .int .i64 n, .bool b, .slice P k cp] 33 (0, 0)) from ⟨(hb4.block _ (Array.getElem?_eq_some_iff.1 hc3.out.1).1).trans hc3.out.1, (hb4.block _ (Array.getElem?_eq_some_iff.1 hc3.out.2).1).trans hc3.out.2⟩)
  clear x0 x1 x2 y0 y1 y2 y3 hb4 hc3 HB3 hK hSn hcl hb3
  obtain ⟨⟨x0, x1, x2⟩, ⟨y0, y1, y2, y3⟩⟩ := hsp.out _ hc4.out
  have hcl4h : Hid (∀ V, Below w4.heap.size w4 V → V.heap[w.heap.size]? = some (.cells (slA s) 25 (0, 0)) ∧ V.heap[w.heap.size + 1]? = some (.cells #[.int .i64 d, .int .i64 n, .bool b, .slice P k cp] 33 (0, 0))) := Lib.hid fun V hV => ⟨(hV.block _ (Array.getElem?_eq_some_iff.1 hc4.out.1).1).trans hc4.out.1, (hV.block _ (Array.getElem?_eq_some_iff.1 hc4.out.2).1).trans hc4.out.2⟩
  have hcl4 : Hid (∀ V, Below w4.heap.size w4 V → (V.cell? ⟨w.heap.size, 0, none⟩ = some (.int .i64 s.t) ∧ V.cell? ⟨w.heap.size, 1, none⟩ = some (.int .i64 s.f) ∧ V.cell? ⟨w.heap.size, 2, none⟩ = some (.int .i64 s.m)) ∧ (V.cell? ⟨w.heap.size + 1, 0, none⟩ = some (.int .i64 d) ∧ V.cell? ⟨w.heap.size + 1, 1, none⟩ = some (.int .i64 n) ∧ V.cell? ⟨w.heap.size + 1, 2, none⟩ = some (.bool b) ∧ V.cell? ⟨w.heap.size + 1, 3, none⟩ = some (.slice P k cp))) := Lib.hid fun V hV => hsp.out V (hcl4h.out V hV)
  replace hB4 := Lib.hid hB4
  have hsz4 : Hid (w.heap.size + 2 ≤ w4.heap.size) := Lib.hid (by have := (Array.getElem?_eq_some_iff.1 hc4.out.2).1; omega)
  go_wp2_with fail
  clear x0 x1 x2 y0 y1 y2 y3
  refine Code.wp_mono (Q := fun e a W => e = .normal ∧ ∃ (gd : Nat) (A7 : Option Addr) (c7 : Nat), a = { tmps := #[.agg (slA s), .agg #[.int .i64 d, .int .i64 n, .bool b, .slice P k cp], .pointer (some ⟨w.heap.size, 0, none⟩), .pointer (some ⟨w.heap.size + 1, 0, none⟩), .bool false, .pointer (some ⟨gd, 0, none⟩), .int .i64 0, undef, undef, .bool true, .bool false, .pointer (some ⟨w.heap.size + 1, 3, none⟩), .slice P k cp, .int .i64 (k : Int), .bool false, .bool false, .agg (slC s).toArray, .agg #[.int .i64 d, .int .i64 n, .bool b, .slice P k cp], .bool true, .bool false, .bool false, .pointer (some ⟨w.heap.size, 0, none⟩), .int .i64 s.t, .bool false, .bool false, .pointer (some ⟨w.heap.size, 0, none⟩), .int .i64 s.t, .bool false, .bool false, .bool false, .pointer (some ⟨w.heap.size, 2, none⟩), .int .i64 s.m, .bool false, .bool false, .bool false, .pointer (some ⟨w.heap.size, 2, none⟩), .int .i64 s.m, .bool false, .bool false, .bool false, .pointer (some ⟨w.heap.size + 1, 0, none⟩), .int .i64 d, .pointer (some ⟨w.heap.size, 1, none⟩), .int .i64 s.f, .bool false, .bool false, .bool false, .pointer (some ⟨w.heap.size + 1, 0, none⟩), .int .i64 d, .pointer (some ⟨w.heap.size, 1, none⟩), .int .i64 s.f, .int .i64 (d - s.f), .pointer (some ⟨w.heap.size, 2, none⟩), .int .i64 s.m, .bool false, .bool false, .bool false, .pointer (some ⟨w.heap.size + 1, 0, none⟩), .int .i64 d, .bool false, .bool false, .bool false, .pointer (some ⟨w.heap.size + 1, 1, none⟩), .int .i64 n, .bool false, .bool false, .bool false, .pointer (some ⟨w.heap.size + 1, 1, none⟩), .int .i64 n, .bool false, .bool false, .tuple #[.agg (dg r), .int .i64 0], .pointer (some ⟨w.heap.size, 2, none⟩), .int .i64 s.m, .pointer (some ⟨w.heap.size + 1, 0, none⟩), .int .i64 d, .pointer (some ⟨w.heap.size, 1, none⟩), .int .i64 s.f, .int .i64 (d - s.f), .pointer (some ⟨w.heap.size, 0, none⟩), .int .i64 s.t, .agg #[.int .i64 d, .int .i64 n, .bool b, .slice P k cp], .slice A7 q c7, .pointer (some ⟨w.heap.size + 1, 3, none⟩), .slice P k cp, .tuple #[.agg (dg r), .int .i64 0], .agg (dg r), .int .i64 0, undef, undef, undef, undef, undef, undef, undef, undef, undef, undef, undef, undef, undef, undef, undef, undef, undef, undef, undef, undef, undef, undef, undef, undef, undef, undef, undef, undef, undef, undef, undef, undef, undef, undef, undef, undef, undef, undef, undef, undef, undef, undef, undef, undef, undef, undef, undef, undef], defers := [] } ∧ W.heap[gd]? = some (.cells (dg r) 23 (0, 0)) ∧ w.heap.size + 2 ≤ gd ∧ Below w4.heap.size w4 W) ?_ ?key7
  case key7 =>
    have HB : Below w4.heap.size w4 w4.drew := (Below.refl _ _).drew
    refine wp_region_T 18 (fun w' => (w'.cell? ⟨w.heap.size, 0, none⟩ = some (.int .i64 s.t) ∧ w'.cell? ⟨w.heap.size, 1, none⟩ = some (.int .i64 s.f) ∧ w'.cell? ⟨w.heap.size, 2, none⟩ = some (.int .i64 s.m)) ∧ (w'.cell? ⟨w.heap.size + 1, 0, none⟩ = some (.int .i64 d) ∧ w'.cell? ⟨w.heap.size + 1, 1, none⟩ = some (.int .i64 n) ∧ w'.cell? ⟨w.heap.size + 1, 2, none⟩ = some (.bool b) ∧ w'.cell? ⟨w.heap.size + 1, 3, none⟩ = some (.slice P k cp))) (by kernel_rfl) (by exact hcl4.out _ HB) (fun hHeld => ?_)
    refine wpAnyT_pure (i := 0) (oi := { dst := some 72, op := Op.fieldAddr 25 (Operand.tmp 2) 2, type := 0, pos := "law.go:139", after := #[], guard := none }) (v := ?_) rfl (by kernel_rfl) (by kernel_rfl) (by kernel_rfl) (by intro _ _ _ h; cases h.1) (Or.inl ⟨by rfl, ?hyb1⟩) ?restb1
    case hyb1 =>
      intro w hSw
      go_simp
      try with_reducible rfl
    try simp only [Act.put, List.setIfInBounds_toArray, List.set_cons_zero, List.set_cons_succ]
    refine wpAnyT_take (i := 1) (oi := { dst := some 73, op := Op.load 3 (Operand.tmp 72), type := 3, pos := "law.go:139", after := #[{ on := 0, ground := Ground.data }], guard := none }) (v := ?_) rfl (by kernel_rfl) (by kernel_rfl) (by kernel_rfl) (by kernel_rfl) (by intro _ _ _ h; cases h.1) (Or.inl ⟨by rfl, ?hyb2⟩) hHeld ?restb2
    case hyb2 =>
      intro w hSw
      try dsimp only at hSw
      go_simp
      try with_reducible rfl
    try simp only [Act.put, List.setIfInBounds_toArray, List.set_cons_zero, List.set_cons_succ]
    refine wpAnyT_pure (i := 2) (oi := { dst := some 74, op := Op.fieldAddr 33 (Operand.tmp 3) 0, type := 0, pos := "law.go:139", after := #[], guard := none }) (v := ?_) rfl (by kernel_rfl) (by kernel_rfl) (by kernel_rfl) (by intro _ _ _ h; cases h.1) (Or.inl ⟨by rfl, ?hyb3⟩) ?restb3
    case hyb3 =>
      intro w hSw
      go_simp
      try with_reducible rfl
    try simp only [Act.put, List.setIfInBounds_toArray, List.set_cons_zero, List.set_cons_succ]
    refine wpAnyT_take (i := 3) (oi := { dst := some 75, op := Op.load 3 (Operand.tmp 74), type := 3, pos := "law.go:139", after := #[{ on := 2, ground := Ground.data }], guard := none }) (v := ?_) rfl (by kernel_rfl) (by kernel_rfl) (by kernel_rfl) (by kernel_rfl) (by intro _ _ _ h; cases h.1) (Or.inl ⟨by rfl, ?hyb4⟩) hHeld ?restb4
    case hyb4 =>
      intro w hSw
      try dsimp only at hSw
      go_simp
      try with_reducible rfl
    try simp only [Act.put, List.setIfInBounds_toArray, List.set_cons_zero, List.set_cons_succ]
    refine wpAnyT_pure (i := 4) (oi := { dst := some 76, op := Op.fieldAddr 25 (Operand.tmp 2) 1, type := 0, pos := "law.go:139", after := #[], guard := none }) (v := ?_) rfl (by kernel_rfl) (by kernel_rfl) (by kernel_rfl) (by intro _ _ _ h; cases h.1) (Or.inl ⟨by rfl, ?hyb5⟩) ?restb5
    case hyb5 =>
      intro w hSw
      go_simp
      try with_reducible rfl
    try simp only [Act.put, List.setIfInBounds_toArray, List.set_cons_zero, List.set_cons_succ]
    refine wpAnyT_take (i := 5) (oi := { dst := some 77, op := Op.load 3 (Operand.tmp 76), type := 3, pos := "law.go:139", after := #[{ on := 4, ground := Ground.data }], guard := none }) (v := ?_) rfl (by kernel_rfl) (by kernel_rfl) (by kernel_rfl) (by kernel_rfl) (by intro _ _ _ h; cases h.1) (Or.inl ⟨by rfl, ?hyb6⟩) hHeld ?restb6
    case hyb6 =>
      intro w hSw
      try dsimp only at hSw
      go_simp
      try with_reducible rfl
    try simp only [Act.put, List.setIfInBounds_toArray, List.set_cons_zero, List.set_cons_succ]
    refine wpAnyT_pure (i := 6) (oi := { dst := some 78, op := Op.binOp BinOp.sub 3 (Operand.tmp 75) (Operand.tmp 77) 3, type := 3, pos := "law.go:139", after := #[{ on := 3, ground := Ground.data }, { on := 5, ground := Ground.data }], guard := none }) (v := ?_) rfl (by kernel_rfl) (by kernel_rfl) (by kernel_rfl) (by intro _ _ _ h; cases h.1) (Or.inl ⟨by rfl, ?hyb7⟩) ?restb7
    case hyb7 =>
      intro w hSw
      go_simp
      try with_reducible rfl
    try simp only [Act.put, List.setIfInBounds_toArray, List.set_cons_zero, List.set_cons_succ]
    refine wpAnyT_pure (i := 7) (oi := { dst := some 79, op := Op.fieldAddr 25 (Operand.tmp 2) 0, type := 0, pos := "law.go:139", after := #[], guard := none }) (v := ?_) rfl (by kernel_rfl) (by kernel_rfl) (by kernel_rfl) (by intro _ _ _ h; cases h.1) (Or.inl ⟨by rfl, ?hyb8⟩) ?restb8
    case hyb8 =>
      intro w hSw
      go_simp
      try with_reducible rfl
    try simp only [Act.put, List.setIfInBounds_toArray, List.set_cons_zero, List.set_cons_succ]
    refine wpAnyT_take (i := 8) (oi := { dst := some 80, op := Op.load 3 (Operand.tmp 79), type := 3, pos := "law.go:139", after := #[{ on := 7, ground := Ground.data }], guard := none }) (v := ?_) rfl (by kernel_rfl) (by kernel_rfl) (by kernel_rfl) (by kernel_rfl) (by intro _ _ _ h; cases h.1) (Or.inl ⟨by rfl, ?hyb9⟩) hHeld ?restb9
    case hyb9 =>
      intro w hSw
      try dsimp only at hSw
      go_simp
      try with_reducible rfl
    try simp only [Act.put, List.setIfInBounds_toArray, List.set_cons_zero, List.set_cons_succ]
    refine wpAnyT_take (i := 9) (oi := { dst := some 81, op := Op.load 33 (Operand.tmp 3), type := 33, pos := "law.go:139", after := #[], guard := none }) (v := ?_) rfl (by kernel_rfl) (by kernel_rfl) (by kernel_rfl) (by kernel_rfl) (by intro _ _ _ h; cases h.1) (Or.inl ⟨by rfl, ?hyb10⟩) hHeld ?restb10
    case hyb10 =>
      intro w hSw
      try dsimp only at hSw
      go_simp
      try with_reducible rfl
    try simp only [Act.put, List.setIfInBounds_toArray, List.set_cons_zero, List.set_cons_succ]
    refine wpAnyT_pure (i := 11) (oi := { dst := some 83, op := Op.fieldAddr 33 (Operand.tmp 3) 3, type := 0, pos := "law.go:139", after := #[], guard := none }) (v := ?_) rfl (by kernel_rfl) (by kernel_rfl) (by kernel_rfl) (by intro _ _ _ h; cases h.1) (Or.inl ⟨by rfl, ?hyb11⟩) ?restb11
    case hyb11 =>
      intro w hSw
      go_simp
      try with_reducible rfl
    try simp only [Act.put, List.setIfInBounds_toArray, List.set_cons_zero, List.set_cons_succ]
    refine wpAnyT_take (i := 12) (oi := { dst := some 84, op := Op.load 31 (Operand.tmp 83), type := 31, pos := "law.go:139", after := #[{ on := 11, ground := Ground.data }], guard := none }) (v := ?_) rfl (by kernel_rfl) (by kernel_rfl) (by kernel_rfl) (by kernel_rfl) (by intro _ _ _ h; cases h.1) (Or.inl ⟨by rfl, ?hyb12⟩) hHeld ?restb12
    case hyb12 =>
      intro w hSw
      try dsimp only at hSw
      go_simp
      try with_reducible rfl
    try simp only [Act.put, List.setIfInBounds_toArray, List.set_cons_zero, List.set_cons_succ]
    refine wpAnyT_two (i := 10) (j := 17) (o := { dst := some 82, op := Op.call { callee := Callee.value (Operand.func 26), args := #[Operand.tmp 80, Operand.tmp 81], argTypes := #[3, 33] }, type := 48, pos := "law.go:139", after := #[{ on := 8, ground := Ground.data }, { on := 9, ground := Ground.data }], guard := none }) (o2 := { dst := some 5, op := Op.alloc 23, type := 0, pos := "law.go:139", after := #[], guard := none }) (by kernel_rfl) rfl rfl (fun K hK => ?_) (fun K hK => ?_)
    · go_simp
      go_at_call 26
      refine (hLf.out _).mono ?_
      unfold JoinC
      rw [hq2.out]
      rintro e w7 ⟨A7, c7, rfl, h71, h72, h73, hbx, -⟩
      replace HB := HB.trans (hbx.mono HB.size)
      clear hbx
      refine hK.out _ _ (by exact hcl4.out _ HB) (fun hHeld' => ?_)
      clear hK K hHeld
      have hHeld := hHeld'
      clear hHeld'
      try simp only [Act.put, List.setIfInBounds_toArray, List.set_cons_zero, List.set_cons_succ]
      refine wpAnyT_two (i := 13) (j := 17) (o := { dst := some 85, op := Op.call { callee := Callee.value (Operand.func 25), args := #[Operand.tmp 73, Operand.tmp 78, Operand.tmp 82, Operand.tmp 84], argTypes := #[3, 3, 48, 31] }, type := 53, pos := "law.go:139", after := #[{ on := 1, ground := Ground.data }, { on := 6, ground := Ground.data }, { on := 10, ground := Ground.data }, { on := 12, ground := Ground.data }, { on := 10, ground := Ground.chain }], guard := none }) (o2 := { dst := some 5, op := Op.alloc 23, type := 0, pos := "law.go:139", after := #[], guard := none }) (by kernel_rfl) rfl rfl (fun K hK => ?_) (fun K hK => ?_)
      · go_simp
        go_at_call 25
        refine (hC.out _ A7 c7 (hB4.out.trans (HB.mono hB4.out.size)) h73).mono ?_
        rintro e w8 ⟨rfl, hbx⟩
        replace HB := HB.trans (hbx.mono HB.size)
        clear hbx
        refine hK.out _ _ (by exact hcl4.out _ HB) (fun hHeld' => ?_)
        clear hK K hHeld
        have hHeld := hHeld'
        clear hHeld'
        try simp only [Act.put, List.setIfInBounds_toArray, List.set_cons_zero, List.set_cons_succ]
        refine wpAnyT_pure (i := 14) (oi := { dst := some 71, op := Op.move (Operand.tmp 85), type := 53, pos := "law.go:139", after := #[{ on := 13, ground := Ground.data }], guard := none }) (v := ?_) rfl (by kernel_rfl) (by kernel_rfl) (by kernel_rfl) (by intro _ _ _ h; cases h.1) (Or.inl ⟨by rfl, ?hyb13⟩) ?restb13
        case hyb13 =>
          intro w hSw
          go_simp
          try with_reducible rfl
        try simp only [Act.put, List.setIfInBounds_toArray, List.set_cons_zero, List.set_cons_succ]
        refine wpAnyT_pure (i := 15) (oi := { dst := some 86, op := Op.extract (Operand.tmp 71) 0, type := 23, pos := "law.go:139", after := #[{ on := 14, ground := Ground.data }], guard := none }) (v := ?_) rfl (by kernel_rfl) (by kernel_rfl) (by kernel_rfl) (by intro _ _ _ h; cases h.1) (Or.inl ⟨by rfl, ?hyb14⟩) ?restb14
        case hyb14 =>
          intro w hSw
          go_simp
          try with_reducible rfl
        try simp only [Act.put, List.setIfInBounds_toArray, List.set_cons_zero, List.set_cons_succ]
        refine wpAnyT_pure (i := 16) (oi := { dst := some 87, op := Op.extract (Operand.tmp 71) 1, type := 35, pos := "law.go:139", after := #[{ on := 14, ground := Ground.data }, { on := 18, ground := Ground.gcOnly Departure.lateStores }], guard := none }) (v := ?_) rfl (by kernel_rfl) (by kernel_rfl) (by kernel_rfl) (by intro _ _ _ h; cases h.1) (Or.inl ⟨by rfl, ?hyb15⟩) ?restb15
        case hyb15 =>
          intro w hSw
          go_simp
          try with_reducible rfl
        try simp only [Act.put, List.setIfInBounds_toArray, List.set_cons_zero, List.set_cons_succ]
        refine wpAnyT_one (i := 17) (o := { dst := some 5, op := Op.alloc 23, type := 0, pos := "law.go:139", after := #[], guard := none }) (by kernel_rfl) rfl (fun K hK => ?_)
        go_simp
        have hz := heap_alloc_new w8 (.cells ((List.replicate 32 (0 : UInt8)).map by1).toArray 23)
        have hs21 : w4.heap.size ≤ w8.heap.size := HB.size
        have HB2 := HB.alloc HB.size (.cells ((List.replicate 32 (0 : UInt8)).map by1).toArray 23)
        clear HB
        have HB := HB2
        clear HB2
        refine hK.out _ _ (by exact hcl4.out _ HB) (fun hHeld' => ?_)
        clear hK K hHeld
        have hHeld := hHeld'
        clear hHeld'
        try simp only [Act.put, List.setIfInBounds_toArray, List.set_cons_zero, List.set_cons_succ]
        refine wpAnyT_tail (i := 18) (o := { dst := none, op := Op.store 23 (Operand.tmp 5) (Operand.tmp 86), type := 0, pos := "law.go:139", after := #[{ on := 17, ground := Ground.data }, { on := 15, ground := Ground.data }, { on := 13, ground := Ground.chain }, { on := 0, ground := Ground.phase }, { on := 1, ground := Ground.phase }, { on := 2, ground := Ground.phase }, { on := 3, ground := Ground.phase }, { on := 4, ground := Ground.phase }, { on := 5, ground := Ground.phase }, { on := 6, ground := Ground.phase }, { on := 7, ground := Ground.phase }, { on := 8, ground := Ground.phase }, { on := 9, ground := Ground.phase }, { on := 10, ground := Ground.phase }, { on := 11, ground := Ground.phase }, { on := 12, ground := Ground.phase }, { on := 13, ground := Ground.phase }, { on := 14, ground := Ground.phase }, { on := 15, ground := Ground.phase }, { on := 16, ground := Ground.textOnly Departure.lateStores }, { on := 17, ground := Ground.phase }], guard := none }) (by kernel_rfl) rfl (by rfl) (fun K hK => ?_)
        rw [if_pos (by rfl)]
        refine wp_set_row 23 (.tmp 5) (.tmp 86) (by rfl) (by rfl) w8.heap.size (dg r) (by rfl) (by rfl) 23 _ hz pr2.out psr.out por.out ?_
        intro w9 hd9 hz9 hg9
        refine hK.out _ _ ?_
        clear hK K
        try simp only [Act.put, List.setIfInBounds_toArray, List.set_cons_zero, List.set_cons_succ]
        refine wpAnyT_pure (i := 19) (oi := { dst := some 6, op := Op.assign (Operand.tmp 87), type := 35, pos := "law.go:139", after := #[{ on := 16, ground := Ground.data }, { on := 18, ground := Ground.chain }, { on := 0, ground := Ground.phase }, { on := 1, ground := Ground.phase }, { on := 2, ground := Ground.phase }, { on := 3, ground := Ground.phase }, { on := 4, ground := Ground.phase }, { on := 5, ground := Ground.phase }, { on := 6, ground := Ground.phase }, { on := 7, ground := Ground.phase }, { on := 8, ground := Ground.phase }, { on := 9, ground := Ground.phase }, { on := 10, ground := Ground.phase }, { on := 11, ground := Ground.phase }, { on := 12, ground := Ground.phase }, { on := 13, ground := Ground.phase }, { on := 14, ground := Ground.phase }, { on := 15, ground := Ground.phase }, { on := 16, ground := Ground.phase }, { on := 17, ground := Ground.phase }, { on := 18, ground := Ground.phase }], guard := none }) (v := ?_) rfl (by kernel_rfl) (by kernel_rfl) (by kernel_rfl) (by intro _ _ _ h; cases h.1) (Or.inl ⟨by rfl, ?hyb16⟩) ?restb16
        case hyb16 =>
          intro w hSw
          go_simp
          try with_reducible rfl
        try simp only [Act.put, List.setIfInBounds_toArray, List.set_cons_zero, List.set_cons_succ]
        refine wpAnyT_done (by kernel_rfl) ?_ _
        have hgd4 : w4.heap.size ≤ w8.heap.size := by first | exact hs21 | (have := hs21; omega)
        have hB9 := HB.grown hg9 HB.size (fun j e => by have := Option.some.inj e; omega)
        exact ⟨rfl, w8.heap.size, A7, c7, rfl, hd9, Nat.le_trans hsz4.out hgd4, hB9⟩
      · go_simp
        have hz := heap_alloc_new w7 (.cells ((List.replicate 32 (0 : UInt8)).map by1).toArray 23)
        have hs21 : w4.heap.size ≤ w7.heap.size := HB.size
        have h73b := h73.below ((Below.refl w7.heap.size w7).alloc (Nat.le_refl _) (.cells ((List.replicate 32 (0 : UInt8)).map by1).toArray 23))
        clear h73
        have h73 := h73b
        clear h73b
        have HB2 := HB.alloc HB.size (.cells ((List.replicate 32 (0 : UInt8)).map by1).toArray 23)
        clear HB
        have HB := HB2
        clear HB2
        refine hK.out _ _ (by exact hcl4.out _ HB) (fun hHeld' => ?_)
        clear hK K hHeld
        have hHeld := hHeld'
        clear hHeld'
        try simp only [Act.put, List.setIfInBounds_toArray, List.set_cons_zero, List.set_cons_succ]
        refine wpAnyT_one (i := 13) (o := { dst := some 85, op := Op.call { callee := Callee.value (Operand.func 25), args := #[Operand.tmp 73, Operand.tmp 78, Operand.tmp 82, Operand.tmp 84], argTypes := #[3, 3, 48, 31] }, type := 53, pos := "law.go:139", after := #[{ on := 1, ground := Ground.data }, { on := 6, ground := Ground.data }, { on := 10, ground := Ground.data }, { on := 12, ground := Ground.data }, { on := 10, ground := Ground.chain }], guard := none }) (by kernel_rfl) rfl (fun K hK => ?_)
        go_simp
        go_at_call 25
        refine (hC.out _ A7 c7 (hB4.out.trans (HB.mono hB4.out.size)) h73).mono ?_
        rintro e w8 ⟨rfl, hbx⟩
        have hz2 := (hbx.block _ (Array.getElem?_eq_some_iff.1 hz).1).trans hz
        clear hz
        have hz := hz2
        clear hz2
        replace HB := HB.trans (hbx.mono HB.size)
        clear hbx
        refine hK.out _ _ (by exact hcl4.out _ HB) (fun hHeld' => ?_)
        clear hK K hHeld
        have hHeld := hHeld'
        clear hHeld'
        try simp only [Act.put, List.setIfInBounds_toArray, List.set_cons_zero, List.set_cons_succ]
        refine wpAnyT_pure (i := 14) (oi := { dst := some 71, op := Op.move (Operand.tmp 85), type := 53, pos := "law.go:139", after := #[{ on := 13, ground := Ground.data }], guard := none }) (v := ?_) rfl (by kernel_rfl) (by kernel_rfl) (by kernel_rfl) (by intro _ _ _ h; cases h.1) (Or.inl ⟨by rfl, ?hyb17⟩) ?restb17
        case hyb17 =>
          intro w hSw
          go_simp
          try with_reducible rfl
        try simp only [Act.put, List.setIfInBounds_toArray, List.set_cons_zero, List.set_cons_succ]
        refine wpAnyT_pure (i := 15) (oi := { dst := some 86, op := Op.extract (Operand.tmp 71) 0, type := 23, pos := "law.go:139", after := #[{ on := 14, ground := Ground.data }], guard := none }) (v := ?_) rfl (by kernel_rfl) (by kernel_rfl) (by kernel_rfl) (by intro _ _ _ h; cases h.1) (Or.inl ⟨by rfl, ?hyb18⟩) ?restb18
        case hyb18 =>
          intro w hSw
          go_simp
          try with_reducible rfl
        try simp only [Act.put, List.setIfInBounds_toArray, List.set_cons_zero, List.set_cons_succ]
        refine wpAnyT_pure (i := 16) (oi := { dst := some 87, op := Op.extract (Operand.tmp 71) 1, type := 35, pos := "law.go:139", after := #[{ on := 14, ground := Ground.data }, { on := 18, ground := Ground.gcOnly Departure.lateStores }], guard := none }) (v := ?_) rfl (by kernel_rfl) (by kernel_rfl) (by kernel_rfl) (by intro _ _ _ h; cases h.1) (Or.inl ⟨by rfl, ?hyb19⟩) ?restb19
        case hyb19 =>
          intro w hSw
          go_simp
          try with_reducible rfl
        try simp only [Act.put, List.setIfInBounds_toArray, List.set_cons_zero, List.set_cons_succ]
        refine wpAnyT_tail (i := 18) (o := { dst := none, op := Op.store 23 (Operand.tmp 5) (Operand.tmp 86), type := 0, pos := "law.go:139", after := #[{ on := 17, ground := Ground.data }, { on := 15, ground := Ground.data }, { on := 13, ground := Ground.chain }, { on := 0, ground := Ground.phase }, { on := 1, ground := Ground.phase }, { on := 2, ground := Ground.phase }, { on := 3, ground := Ground.phase }, { on := 4, ground := Ground.phase }, { on := 5, ground := Ground.phase }, { on := 6, ground := Ground.phase }, { on := 7, ground := Ground.phase }, { on := 8, ground := Ground.phase }, { on := 9, ground := Ground.phase }, { on := 10, ground := Ground.phase }, { on := 11, ground := Ground.phase }, { on := 12, ground := Ground.phase }, { on := 13, ground := Ground.phase }, { on := 14, ground := Ground.phase }, { on := 15, ground := Ground.phase }, { on := 16, ground := Ground.textOnly Departure.lateStores }, { on := 17, ground := Ground.phase }], guard := none }) (by kernel_rfl) rfl (by rfl) (fun K hK => ?_)
        rw [if_pos (by rfl)]
        refine wp_set_row 23 (.tmp 5) (.tmp 86) (by rfl) (by rfl) w7.heap.size (dg r) (by rfl) (by rfl) 23 _ hz pr2.out psr.out por.out ?_
        intro w9 hd9 hz9 hg9
        refine hK.out _ _ ?_
        clear hK K
        try simp only [Act.put, List.setIfInBounds_toArray, List.set_cons_zero, List.set_cons_succ]
        refine wpAnyT_pure (i := 19) (oi := { dst := some 6, op := Op.assign (Operand.tmp 87), type := 35, pos := "law.go:139", after := #[{ on := 16, ground := Ground.data }, { on := 18, ground := Ground.chain }, { on := 0, ground := Ground.phase }, { on := 1, ground := Ground.phase }, { on := 2, ground := Ground.phase }, { on := 3, ground := Ground.phase }, { on := 4, ground := Ground.phase }, { on := 5, ground := Ground.phase }, { on := 6, ground := Ground.phase }, { on := 7, ground := Ground.phase }, { on := 8, ground := Ground.phase }, { on := 9, ground := Ground.phase }, { on := 10, ground := Ground.phase }, { on := 11, ground := Ground.phase }, { on := 12, ground := Ground.phase }, { on := 13, ground := Ground.phase }, { on := 14, ground := Ground.phase }, { on := 15, ground := Ground.phase }, { on := 16, ground := Ground.phase }, { on := 17, ground := Ground.phase }, { on := 18, ground := Ground.phase }], guard := none }) (v := ?_) rfl (by kernel_rfl) (by kernel_rfl) (by kernel_rfl) (by intro _ _ _ h; cases h.1) (Or.inl ⟨by rfl, ?hyb20⟩) ?restb20
        case hyb20 =>
          intro w hSw
          go_simp
          try with_reducible rfl
        try simp only [Act.put, List.setIfInBounds_toArray, List.set_cons_zero, List.set_cons_succ]
        refine wpAnyT_done (by kernel_rfl) ?_ _
        have hgd4 : w4.heap.size ≤ w7.heap.size := by first | exact hs21 | (have := hs21; omega)
        have hB9 := HB.grown hg9 HB.size (fun j e => by have := Option.some.inj e; omega)
        exact ⟨rfl, w7.heap.size, A7, c7, rfl, hd9, Nat.le_trans hsz4.out hgd4, hB9⟩
    · go_simp
      have hz := heap_alloc_new w4.drew (.cells ((List.replicate 32 (0 : UInt8)).map by1).toArray 23)
      have hs21 : w4.heap.size ≤ w4.heap.size := HB.size
      have HB2 := HB.alloc HB.size (.cells ((List.replicate 32 (0 : UInt8)).map by1).toArray 23)
      clear HB
      have HB := HB2
      clear HB2
      refine hK.out _ _ (by exact hcl4.out _ HB) (fun hHeld' => ?_)
      clear hK K hHeld
      have hHeld := hHeld'
      clear hHeld'
      try simp only [Act.put, List.setIfInBounds_toArray, List.set_cons_zero, List.set_cons_succ]
      refine wpAnyT_one (i := 10) (o := { dst := some 82, op := Op.call { callee := Callee.value (Operand.func 26), args := #[Operand.tmp 80, Operand.tmp 81], argTypes := #[3, 33] }, type := 48, pos := "law.go:139", after := #[{ on := 8, ground := Ground.data }, { on := 9, ground := Ground.data }], guard := none }) (by kernel_rfl) rfl (fun K hK => ?_)
      go_simp
      go_at_call 26
      refine (hLf.out _).mono ?_
      unfold JoinC
      rw [hq2.out]
      rintro e w7 ⟨A7, c7, rfl, h71, h72, h73, hbx, -⟩
      have hz2 := (hbx.block _ (Array.getElem?_eq_some_iff.1 hz).1).trans hz
      clear hz
      have hz := hz2
      clear hz2
      replace HB := HB.trans (hbx.mono HB.size)
      clear hbx
      refine hK.out _ _ (by exact hcl4.out _ HB) (fun hHeld' => ?_)
      clear hK K hHeld
      have hHeld := hHeld'
      clear hHeld'
      try simp only [Act.put, List.setIfInBounds_toArray, List.set_cons_zero, List.set_cons_succ]
      refine wpAnyT_one (i := 13) (o := { dst := some 85, op := Op.call { callee := Callee.value (Operand.func 25), args := #[Operand.tmp 73, Operand.tmp 78, Operand.tmp 82, Operand.tmp 84], argTypes := #[3, 3, 48, 31] }, type := 53, pos := "law.go:139", after := #[{ on := 1, ground := Ground.data }, { on := 6, ground := Ground.data }, { on := 10, ground := Ground.data }, { on := 12, ground := Ground.data }, { on := 10, ground := Ground.chain }], guard := none }) (by kernel_rfl) rfl (fun K hK => ?_)
      go_simp
      go_at_call 25
      refine (hC.out _ A7 c7 (hB4.out.trans (HB.mono hB4.out.size)) h73).mono ?_
      rintro e w8 ⟨rfl, hbx⟩
      have hz2 := (hbx.block _ (Array.getElem?_eq_some_iff.1 hz).1).trans hz
      clear hz
      have hz := hz2
      clear hz2
      replace HB := HB.trans (hbx.mono HB.size)
      clear hbx
      refine hK.out _ _ (by exact hcl4.out _ HB) (fun hHeld' => ?_)
      clear hK K hHeld
      have hHeld := hHeld'
      clear hHeld'
      try simp only [Act.put, List.setIfInBounds_toArray, List.set_cons_zero, List.set_cons_succ]
      refine wpAnyT_pure (i := 14) (oi := { dst := some 71, op := Op.move (Operand.tmp 85), type := 53, pos := "law.go:139", after := #[{ on := 13, ground := Ground.data }], guard := none }) (v := ?_) rfl (by kernel_rfl) (by kernel_rfl) (by kernel_rfl) (by intro _ _ _ h; cases h.1) (Or.inl ⟨by rfl, ?hyb21⟩) ?restb21
      case hyb21 =>
        intro w hSw
        go_simp
        try with_reducible rfl
      try simp only [Act.put, List.setIfInBounds_toArray, List.set_cons_zero, List.set_cons_succ]
      refine wpAnyT_pure (i := 15) (oi := { dst := some 86, op := Op.extract (Operand.tmp 71) 0, type := 23, pos := "law.go:139", after := #[{ on := 14, ground := Ground.data }], guard := none }) (v := ?_) rfl (by kernel_rfl) (by kernel_rfl) (by kernel_rfl) (by intro _ _ _ h; cases h.1) (Or.inl ⟨by rfl, ?hyb22⟩) ?restb22
      case hyb22 =>
        intro w hSw
        go_simp
        try with_reducible rfl
      try simp only [Act.put, List.setIfInBounds_toArray, List.set_cons_zero, List.set_cons_succ]
      refine wpAnyT_pure (i := 16) (oi := { dst := some 87, op := Op.extract (Operand.tmp 71) 1, type := 35, pos := "law.go:139", after := #[{ on := 14, ground := Ground.data }, { on := 18, ground := Ground.gcOnly Departure.lateStores }], guard := none }) (v := ?_) rfl (by kernel_rfl) (by kernel_rfl) (by kernel_rfl) (by intro _ _ _ h; cases h.1) (Or.inl ⟨by rfl, ?hyb23⟩) ?restb23
      case hyb23 =>
        intro w hSw
        go_simp
        try with_reducible rfl
      try simp only [Act.put, List.setIfInBounds_toArray, List.set_cons_zero, List.set_cons_succ]
      refine wpAnyT_tail (i := 18) (o := { dst := none, op := Op.store 23 (Operand.tmp 5) (Operand.tmp 86), type := 0, pos := "law.go:139", after := #[{ on := 17, ground := Ground.data }, { on := 15, ground := Ground.data }, { on := 13, ground := Ground.chain }, { on := 0, ground := Ground.phase }, { on := 1, ground := Ground.phase }, { on := 2, ground := Ground.phase }, { on := 3, ground := Ground.phase }, { on := 4, ground := Ground.phase }, { on := 5, ground := Ground.phase }, { on := 6, ground := Ground.phase }, { on := 7, ground := Ground.phase }, { on := 8, ground := Ground.phase }, { on := 9, ground := Ground.phase }, { on := 10, ground := Ground.phase }, { on := 11, ground := Ground.phase }, { on := 12, ground := Ground.phase }, { on := 13, ground := Ground.phase }, { on := 14, ground := Ground.phase }, { on := 15, ground := Ground.phase }, { on := 16, ground := Ground.textOnly Departure.lateStores }, { on := 17, ground := Ground.phase }], guard := none }) (by kernel_rfl) rfl (by rfl) (fun K hK => ?_)
      rw [if_pos (by rfl)]
      refine wp_set_row 23 (.tmp 5) (.tmp 86) (by rfl) (by rfl) w4.heap.size (dg r) (by rfl) (by rfl) 23 _ hz pr2.out psr.out por.out ?_
      intro w9 hd9 hz9 hg9
      refine hK.out _ _ ?_
      clear hK K
      try simp only [Act.put, List.setIfInBounds_toArray, List.set_cons_zero, List.set_cons_succ]
      refine wpAnyT_pure (i := 19) (oi := { dst := some 6, op := Op.assign (Operand.tmp 87), type := 35, pos := "law.go:139", after := #[{ on := 16, ground := Ground.data }, { on := 18, ground := Ground.chain }, { on := 0, ground := Ground.phase }, { on := 1, ground := Ground.phase }, { on := 2, ground := Ground.phase }, { on := 3, ground := Ground.phase }, { on := 4, ground := Ground.phase }, { on := 5, ground := Ground.phase }, { on := 6, ground := Ground.phase }, { on := 7, ground := Ground.phase }, { on := 8, ground := Ground.phase }, { on := 9, ground := Ground.phase }, { on := 10, ground := Ground.phase }, { on := 11, ground := Ground.phase }, { on := 12, ground := Ground.phase }, { on := 13, ground := Ground.phase }, { on := 14, ground := Ground.phase }, { on := 15, ground := Ground.phase }, { on := 16, ground := Ground.phase }, { on := 17, ground := Ground.phase }, { on := 18, ground := Ground.phase }], guard := none }) (v := ?_) rfl (by kernel_rfl) (by kernel_rfl) (by kernel_rfl) (by intro _ _ _ h; cases h.1) (Or.inl ⟨by rfl, ?hyb24⟩) ?restb24
      case hyb24 =>
        intro w hSw
        go_simp
        try with_reducible rfl
      try simp only [Act.put, List.setIfInBounds_toArray, List.set_cons_zero, List.set_cons_succ]
      refine wpAnyT_done (by kernel_rfl) ?_ _
      have hgd4 : w4.heap.size ≤ w4.heap.size := by omega
      have hB9 := HB.grown hg9 HB.size (fun j e => by have := Option.some.inj e; omega)
      exact ⟨rfl, w4.heap.size, A7, c7, rfl, hd9, Nat.le_trans hsz4.out hgd4, hB9⟩
  rintro _ _ w9 ⟨rfl, gd, A7, c7, rfl, hd9, hgd9, hB9⟩
  have hc9 := Lib.hid (hcl4h.out _ hB9)
  have hW9 := Lib.hid (hB4.out.trans (hB9.mono hB4.out.size))
  replace hd9 := Lib.hid hd9
  clear hB9
  have hgdl := Lib.hid (show gd < w9.heap.size from (Array.getElem?_eq_some_iff.1 hd9.out).1)
  obtain ⟨⟨x0, x1, x2⟩, ⟨y0, y1, y2, y3⟩⟩ := hsp.out _ hc9.out
  go_wp2_with fail
  have hsp9 : Hid (∀ V, Below w9.heap.size w9 V → (V.cell? ⟨w.heap.size, 0, none⟩ = some (.int .i64 s.t) ∧ V.cell? ⟨w.heap.size, 1, none⟩ = some (.int .i64 s.f) ∧ V.cell? ⟨w.heap.size, 2, none⟩ = some (.int .i64 s.m)) ∧ (V.cell? ⟨w.heap.size + 1, 0, none⟩ = some (.int .i64 d) ∧ V.cell? ⟨w.heap.size + 1, 1, none⟩ = some (.int .i64 n) ∧ V.cell? ⟨w.heap.size + 1, 2, none⟩ = some (.bool b) ∧ V.cell? ⟨w.heap.size + 1, 3, none⟩ = some (.slice P k cp))) := Lib.hid fun V hV => hsp.out V ⟨(hV.block _ (Array.getElem?_eq_some_iff.1 hc9.out.1).1).trans hc9.out.1, (hV.block _ (Array.getElem?_eq_some_iff.1 hc9.out.2).1).trans hc9.out.2⟩
  clear x0 x1 x2 y0 y1 y2 y3
  refine Code.wp_mono (Q := fun e a W => e = .normal ∧ ∃ (gl gs : Nat), a = { tmps := #[.agg (slA s), .agg #[.int .i64 d, .int .i64 n, .bool b, .slice P k cp], .pointer (some ⟨w.heap.size, 0, none⟩), .pointer (some ⟨w.heap.size + 1, 0, none⟩), .bool false, .pointer (some ⟨gd, 0, none⟩), .int .i64 0, .pointer (some ⟨gl, 0, none⟩), .pointer (some ⟨gs, 0, none⟩), .bool true, .bool false, .pointer (some ⟨w.heap.size + 1, 3, none⟩), .slice P k cp, .int .i64 (k : Int), .bool false, .bool false, .agg (slC s).toArray, .agg #[.int .i64 d, .int .i64 n, .bool b, .slice P k cp], .bool true, .bool false, .bool false, .pointer (some ⟨w.heap.size, 0, none⟩), .int .i64 s.t, .bool false, .bool false, .pointer (some ⟨w.heap.size, 0, none⟩), .int .i64 s.t, .bool false, .bool false, .bool false, .pointer (some ⟨w.heap.size, 2, none⟩), .int .i64 s.m, .bool false, .bool false, .bool false, .pointer (some ⟨w.heap.size, 2, none⟩), .int .i64 s.m, .bool false, .bool false, .bool false, .pointer (some ⟨w.heap.size + 1, 0, none⟩), .int .i64 d, .pointer (some ⟨w.heap.size, 1, none⟩), .int .i64 s.f, .bool false, .bool false, .bool false, .pointer (some ⟨w.heap.size + 1, 0, none⟩), .int .i64 d, .pointer (some ⟨w.heap.size, 1, none⟩), .int .i64 s.f, .int .i64 (d - s.f), .pointer (some ⟨w.heap.size, 2, none⟩), .int .i64 s.m, .bool false, .bool false, .bool false, .pointer (some ⟨w.heap.size + 1, 0, none⟩), .int .i64 d, .bool false, .bool false, .bool false, .pointer (some ⟨w.heap.size + 1, 1, none⟩), .int .i64 n, .bool false, .bool false, .bool false, .pointer (some ⟨w.heap.size + 1, 1, none⟩), .int .i64 n, .bool false, .bool false, .tuple #[.agg (dg r), .int .i64 0], .pointer (some ⟨w.heap.size, 2, none⟩), .int .i64 s.m, .pointer (some ⟨w.heap.size + 1, 0, none⟩), .int .i64 d, .pointer (some ⟨w.heap.size, 1, none⟩), .int .i64 s.f, .int .i64 (d - s.f), .pointer (some ⟨w.heap.size, 0, none⟩), .int .i64 s.t, .agg #[.int .i64 d, .int .i64 n, .bool b, .slice P k cp], .slice A7 q c7, .pointer (some ⟨w.heap.size + 1, 3, none⟩), .slice P k cp, .tuple #[.agg (dg r), .int .i64 0], .agg (dg r), .int .i64 0, .agg #[.int .i64 d, .int .i64 n, .bool b, .slice P k cp], .agg #[.int .i64 d, .int .i64 n, .bool b, .slice P k cp], undef, undef, undef, undef, undef, undef, undef, undef, undef, undef, undef, undef, undef, undef, undef, undef, undef, undef, undef, undef, undef, undef, undef, undef, undef, undef, undef, undef, undef, undef, undef, undef, undef, undef, undef, undef, undef, undef, undef, undef, undef, undef, undef, undef, undef, undef], defers := [] } ∧ W.heap[gl]? = some (.cells #[.int .i64 d, .int .i64 n, .bool b, .slice P k cp] 33 (0, 0)) ∧ W.heap[gs]? = some (.cells #[.int .i64 d, .int .i64 n, .bool b, .slice P k cp] 33 (0, 0)) ∧ gl ≠ gs ∧ w9.heap.size ≤ gl ∧ w9.heap.size ≤ gs ∧ Below w9.heap.size w9 W) ?_ ?key8
  case key8 =>
    have HB : Below w9.heap.size w9 w9.drew := (Below.refl _ _).drew
    refine wp_region_T 6 (fun w' => (w'.cell? ⟨w.heap.size, 0, none⟩ = some (.int .i64 s.t) ∧ w'.cell? ⟨w.heap.size, 1, none⟩ = some (.int .i64 s.f) ∧ w'.cell? ⟨w.heap.size, 2, none⟩ = some (.int .i64 s.m)) ∧ (w'.cell? ⟨w.heap.size + 1, 0, none⟩ = some (.int .i64 d) ∧ w'.cell? ⟨w.heap.size + 1, 1, none⟩ = some (.int .i64 n) ∧ w'.cell? ⟨w.heap.size + 1, 2, none⟩ = some (.bool b) ∧ w'.cell? ⟨w.heap.size + 1, 3, none⟩ = some (.slice P k cp))) (by kernel_rfl) (by exact hsp9.out _ HB) (fun hHeld => ?_)
    refine wpAnyT_take (i := 0) (oi := { dst := some 88, op := Op.load 33 (Operand.tmp 3), type := 33, pos := "law.go:140", after := #[], guard := none }) (v := ?_) rfl (by kernel_rfl) (by kernel_rfl) (by kernel_rfl) (by kernel_rfl) (by intro _ _ _ h; cases h.1) (Or.inl ⟨by rfl, ?hyb25⟩) hHeld ?restb25
    case hyb25 =>
      intro w hSw
      try dsimp only at hSw
      go_simp
      try with_reducible rfl
    try simp only [Act.put, List.setIfInBounds_toArray, List.set_cons_zero, List.set_cons_succ]
    refine wpAnyT_take (i := 1) (oi := { dst := some 89, op := Op.load 33 (Operand.tmp 3), type := 33, pos := "law.go:140", after := #[{ on := 4, ground := Ground.gcOnly Departure.lateStores }], guard := none }) (v := ?_) rfl (by kernel_rfl) (by kernel_rfl) (by kernel_rfl) (by kernel_rfl) (by intro _ _ _ h; cases h.1) (Or.inl ⟨by rfl, ?hyb26⟩) hHeld ?restb26
    case hyb26 =>
      intro w hSw
      try dsimp only at hSw
      go_simp
      try with_reducible rfl
    try simp only [Act.put, List.setIfInBounds_toArray, List.set_cons_zero, List.set_cons_succ]
    refine wpAnyT_two (i := 2) (j := 3) (o := { dst := some 7, op := Op.alloc 33, type := 0, pos := "law.go:140", after := #[], guard := none }) (o2 := { dst := some 8, op := Op.alloc 33, type := 0, pos := "law.go:140", after := #[], guard := none }) (by kernel_rfl) rfl rfl (fun K hK => ?_) (fun K hK => ?_)
    · go_simp
      have nl := heap_alloc_new w9.drew (.cells opZA 33)
      have HB2 := HB.alloc HB.size (.cells opZA 33)
      clear HB
      have HB := HB2
      clear HB2
      refine hK.out _ _ (by exact hsp9.out _ HB) (fun hHeld' => ?_)
      clear hK K hHeld
      have hHeld := hHeld'
      clear hHeld'
      try simp only [Act.put, List.setIfInBounds_toArray, List.set_cons_zero, List.set_cons_succ]
      refine wpAnyT_one (i := 3) (o := { dst := some 8, op := Op.alloc 33, type := 0, pos := "law.go:140", after := #[], guard := none }) (by kernel_rfl) rfl (fun K hK => ?_)
      go_simp
      have ns := heap_alloc_new (w9.drew.alloc (.cells opZA 33)) (.cells opZA 33)
      have o9 := (Below.heap_alloc (w9.drew.alloc (.cells opZA 33)) (.cells opZA 33) _ (Array.getElem?_eq_some_iff.1 nl).1).trans nl
      clear nl
      have nl := o9
      clear o9
      simp only [World.size_alloc] at nl ns
      have HB2 := HB.alloc HB.size (.cells opZA 33)
      clear HB
      have HB := HB2
      clear HB2
      refine hK.out _ _ (by exact hsp9.out _ HB) (fun hHeld' => ?_)
      clear hK K hHeld
      have hHeld := hHeld'
      clear hHeld'
      try simp only [Act.put, List.setIfInBounds_toArray, List.set_cons_zero, List.set_cons_succ]
      refine wpAnyT_one (i := 4) (o := { dst := none, op := Op.store 33 (Operand.tmp 7) (Operand.tmp 88), type := 0, pos := "law.go:140", after := #[{ on := 2, ground := Ground.data }, { on := 0, ground := Ground.data }, { on := 0, ground := Ground.phase }, { on := 1, ground := Ground.textOnly Departure.lateStores }, { on := 2, ground := Ground.phase }, { on := 3, ground := Ground.phase }], guard := none }) (by kernel_rfl) rfl (fun K hK => ?_)
      rw [if_pos (by rfl)]
      refine wp_set_row 33 (.tmp 7) (.tmp 88) (by rfl) (by rfl) (w9.heap.size) #[.int .i64 d, .int .i64 n, .bool b, .slice P k cp] (by rfl) (by rfl) 33 _ nl op_info (by rfl) (by simp [Value.oneCell']) ?_
      intro w10 hl10 hz10 hg10
      have ns10 := (hg10.block _ (Array.getElem?_eq_some_iff.1 ns).1 (fun e => by have := Option.some.inj e; simp at this)).trans ns
      have HB2 := HB.grown hg10 HB.size (fun j e => by have := Option.some.inj e; omega)
      clear HB hg10 nl ns
      have HB := HB2
      clear HB2
      refine hK.out _ _ (by exact hsp9.out _ HB) (fun hHeld' => ?_)
      clear hK K hHeld
      have hHeld := hHeld'
      clear hHeld'
      try simp only [Act.put, List.setIfInBounds_toArray, List.set_cons_zero, List.set_cons_succ]
      refine wpAnyT_one (i := 5) (o := { dst := none, op := Op.store 33 (Operand.tmp 8) (Operand.tmp 89), type := 0, pos := "law.go:140", after := #[{ on := 3, ground := Ground.data }, { on := 1, ground := Ground.data }, { on := 4, ground := Ground.chain }, { on := 0, ground := Ground.phase }, { on := 1, ground := Ground.phase }, { on := 2, ground := Ground.phase }, { on := 3, ground := Ground.phase }, { on := 4, ground := Ground.phase }], guard := none }) (by kernel_rfl) rfl (fun K hK => ?_)
      rw [if_pos (by rfl)]
      refine wp_set_row 33 (.tmp 8) (.tmp 89) (by rfl) (by rfl) (w9.heap.size + 1) #[.int .i64 d, .int .i64 n, .bool b, .slice P k cp] (by rfl) (by rfl) 33 _ ns10 op_info (by rfl) (by simp [Value.oneCell']) ?_
      intro w11 hs11 hz11 hg11
      have hl11 := (hg11.block _ (Array.getElem?_eq_some_iff.1 hl10).1 (fun e => by have := Option.some.inj e; simp at this)).trans hl10
      have HB2 := HB.grown hg11 HB.size (fun j e => by have := Option.some.inj e; omega)
      clear HB hg11 hl10 ns10
      have HB := HB2
      clear HB2
      refine hK.out _ _ (by exact hsp9.out _ HB) (fun hHeld' => ?_)
      clear hK K hHeld
      have hHeld := hHeld'
      clear hHeld'
      try simp only [Act.put, List.setIfInBounds_toArray, List.set_cons_zero, List.set_cons_succ]
      refine wpAnyT_done (by kernel_rfl) ?_ _
      exact ⟨rfl, w9.heap.size, w9.heap.size + 1, rfl, hl11, hs11, by omega, by omega, by omega, HB⟩
    · go_simp
      have ns := heap_alloc_new w9.drew (.cells opZA 33)
      have HB2 := HB.alloc HB.size (.cells opZA 33)
      clear HB
      have HB := HB2
      clear HB2
      refine hK.out _ _ (by exact hsp9.out _ HB) (fun hHeld' => ?_)
      clear hK K hHeld
      have hHeld := hHeld'
      clear hHeld'
      try simp only [Act.put, List.setIfInBounds_toArray, List.set_cons_zero, List.set_cons_succ]
      refine wpAnyT_one (i := 2) (o := { dst := some 7, op := Op.alloc 33, type := 0, pos := "law.go:140", after := #[], guard := none }) (by kernel_rfl) rfl (fun K hK => ?_)
      go_simp
      have nl := heap_alloc_new (w9.drew.alloc (.cells opZA 33)) (.cells opZA 33)
      have o9 := (Below.heap_alloc (w9.drew.alloc (.cells opZA 33)) (.cells opZA 33) _ (Array.getElem?_eq_some_iff.1 ns).1).trans ns
      clear ns
      have ns := o9
      clear o9
      simp only [World.size_alloc] at nl ns
      have HB2 := HB.alloc HB.size (.cells opZA 33)
      clear HB
      have HB := HB2
      clear HB2
      refine hK.out _ _ (by exact hsp9.out _ HB) (fun hHeld' => ?_)
      clear hK K hHeld
      have hHeld := hHeld'
      clear hHeld'
      try simp only [Act.put, List.setIfInBounds_toArray, List.set_cons_zero, List.set_cons_succ]
      refine wpAnyT_one (i := 4) (o := { dst := none, op := Op.store 33 (Operand.tmp 7) (Operand.tmp 88), type := 0, pos := "law.go:140", after := #[{ on := 2, ground := Ground.data }, { on := 0, ground := Ground.data }, { on := 0, ground := Ground.phase }, { on := 1, ground := Ground.textOnly Departure.lateStores }, { on := 2, ground := Ground.phase }, { on := 3, ground := Ground.phase }], guard := none }) (by kernel_rfl) rfl (fun K hK => ?_)
      rw [if_pos (by rfl)]
      refine wp_set_row 33 (.tmp 7) (.tmp 88) (by rfl) (by rfl) (w9.heap.size + 1) #[.int .i64 d, .int .i64 n, .bool b, .slice P k cp] (by rfl) (by rfl) 33 _ nl op_info (by rfl) (by simp [Value.oneCell']) ?_
      intro w10 hl10 hz10 hg10
      have ns10 := (hg10.block _ (Array.getElem?_eq_some_iff.1 ns).1 (fun e => by have := Option.some.inj e; simp at this)).trans ns
      have HB2 := HB.grown hg10 HB.size (fun j e => by have := Option.some.inj e; omega)
      clear HB hg10 nl ns
      have HB := HB2
      clear HB2
      refine hK.out _ _ (by exact hsp9.out _ HB) (fun hHeld' => ?_)
      clear hK K hHeld
      have hHeld := hHeld'
      clear hHeld'
      try simp only [Act.put, List.setIfInBounds_toArray, List.set_cons_zero, List.set_cons_succ]
      refine wpAnyT_one (i := 5) (o := { dst := none, op := Op.store 33 (Operand.tmp 8) (Operand.tmp 89), type := 0, pos := "law.go:140", after := #[{ on := 3, ground := Ground.data }, { on := 1, ground := Ground.data }, { on := 4, ground := Ground.chain }, { on := 0, ground := Ground.phase }, { on := 1, ground := Ground.phase }, { on := 2, ground := Ground.phase }, { on := 3, ground := Ground.phase }, { on := 4, ground := Ground.phase }], guard := none }) (by kernel_rfl) rfl (fun K hK => ?_)
      rw [if_pos (by rfl)]
      refine wp_set_row 33 (.tmp 8) (.tmp 89) (by rfl) (by rfl) (w9.heap.size) #[.int .i64 d, .int .i64 n, .bool b, .slice P k cp] (by rfl) (by rfl) 33 _ ns10 op_info (by rfl) (by simp [Value.oneCell']) ?_
      intro w11 hs11 hz11 hg11
      have hl11 := (hg11.block _ (Array.getElem?_eq_some_iff.1 hl10).1 (fun e => by have := Option.some.inj e; simp at this)).trans hl10
      have HB2 := HB.grown hg11 HB.size (fun j e => by have := Option.some.inj e; omega)
      clear HB hg11 hl10 ns10
      have HB := HB2
      clear HB2
      refine hK.out _ _ (by exact hsp9.out _ HB) (fun hHeld' => ?_)
      clear hK K hHeld
      have hHeld := hHeld'
      clear hHeld'
      try simp only [Act.put, List.setIfInBounds_toArray, List.set_cons_zero, List.set_cons_succ]
      refine wpAnyT_done (by kernel_rfl) ?_ _
      exact ⟨rfl, w9.heap.size + 1, w9.heap.size, rfl, hl11, hs11, by omega, by omega, by omega, HB⟩
  rintro _ _ w11 ⟨rfl, gl, gs, rfl, hl11, hs11, hne1, hne2, hne3, HB⟩
  have hf11 : Hid (w11.heap[w.heap.size]? = some (.cells (slA s) 25 (0, 0)) ∧ w11.heap[w.heap.size + 1]? = some (.cells #[.int .i64 d, .int .i64 n, .bool b, .slice P k cp] 33 (0, 0)) ∧ w11.heap[gd]? = some (.cells (dg r) 23 (0, 0))) := Lib.hid ⟨(HB.block _ (Array.getElem?_eq_some_iff.1 hc9.out.1).1).trans hc9.out.1, (HB.block _ (Array.getElem?_eq_some_iff.1 hc9.out.2).1).trans hc9.out.2, (HB.block _ hgdl.out).trans hd9.out⟩
  have hW11 := Lib.hid (hW9.out.trans (HB.mono hW9.out.size))
  have hne := Lib.hid (show gl ≠ gs ∧ w.heap.size + 2 ≤ gl ∧ w.heap.size + 2 ≤ gs ∧ gl ≠ gd ∧ gs ≠ gd from by have := hgdl.out; omega)
  replace hl11 := Lib.hid hl11
  replace hs11 := Lib.hid hs11
  clear HB hgdl hne1 hne2 hne3 hgd9
  obtain ⟨f0, f1, f2⟩ := hf11.out
  obtain ⟨n1, n2, n3, n4, n5⟩ := hne.out
  have hlt0 := (Array.getElem?_eq_some_iff.1 f0).1
  have hlt1 := (Array.getElem?_eq_some_iff.1 f1).1
  have hlt2 := (Array.getElem?_eq_some_iff.1 f2).1
  have hltl := (Array.getElem?_eq_some_iff.1 hl11.out).1
  have hlts := (Array.getElem?_eq_some_iff.1 hs11.out).1
  have hrow0 := Lib.hid (RowD.empty w11 w11.heap.size w11.heap.size rfl (Nat.le_refl _))
  have hd12 := Lib.hid (hpp.out.below (hW11.out.alloc hW11.out.size (.cells #[] 23)))
  have y3 : ∀ o, (w11.alloc o).cell? ⟨w.heap.size + 1, 3, none⟩ = some (.slice P k cp) := fun o =>
    (hsp.out _ ⟨(Below.heap_alloc w11 o _ hlt0).trans f0, (Below.heap_alloc w11 o _ hlt1).trans f1⟩).2.2.2.2
  have pz := built_z32
  have hk7 : k ≤ 1000000 := by have := hkk.out; omega
  have hp7 : p.length ≤ 1000000 := by rw [hk2.out]; exact hk7
  go_wp2_with (first
    | (refine wpList_noneD (by rfl) (by rfl) ?_)
    | (refine wpList_appD _ (by rfl) (.tmp 90) (.tmp 92) (by rfl) w11.heap.size _ [] p P k cp (by rfl) (by rfl) hk2.out hd12.out hrow0.out h32p.out (by simp) hk7 (by simp) ?_; intro row6 w12 hrow12 hg12; have hB12 : Below w11.heap.size w11 w12 := RowD.grown hrow0.out (blow1 w11 _) (Nat.le_refl _) (by simp) hg12; rw [List.nil_append] at hrow12; have n13 := dsAt_row (l := [zero32]) (by simp [zero32_len]) (heap_alloc_new w12 (.cells (dc zero32).toArray 23)) (by simp [dsC]); have hrow13 := hrow12.below (blow1 w12 (.cells (dc zero32).toArray 23)); have hB13 : Below w11.heap.size w11 (w12.alloc (.cells (dc zero32).toArray 23)) := hB12.alloc hB12.size _; clear y3 hrow12 hg12)
    | (refine wpList_built (by rfl) 31 23 1 #[(0, .tmp 94)] (by rfl) Tryd.underlying31 (dc zero32).toArray (by simp only [List.map_toArray, List.map_cons, List.map_nil]; exact builtSlice_d1 zero32 zero32_len) ?_)
    | (refine wpList_appD _ (by rfl) (.tmp 93) (.tmp 95) (by rfl) w11.heap.size row6 p [zero32] (some ⟨w12.heap.size, 0, none⟩) 1 1 (by rfl) (by rfl) rfl n13 hrow13 (by simp [zero32_len]) hp7 (by decide) hB13.size ?_; intro row7 w14 hrow14 hg14; have hB14 : Below w11.heap.size w11 w14 := RowD.grown hrow13 hB13 (Nat.le_refl _) hB13.size hg14; obtain ⟨A9, c9, hrow7, hc9, hd14⟩ := hrow14.ds h32z.out; rw [hl2.out] at hrow7 hc9; subst hrow7; clear hrow14 hg14 hrow13 hB13 n13 hB12; have l14 := (hB14.block gl hltl).trans hl11.out)
    | (refine wpList_store_ds (by rfl) (.tmp 97) (.tmp 96) (by rfl) (by rfl) gl 3 (by rfl) A9 (k + 1) c9 (by rfl) #[.int .i64 d, .int .i64 n, .bool b, .slice P k cp] 33 l14 _ (by rfl) ?_; intro w15 l15r g15; have l15 : w15.heap[gl]? = some (.cells #[.int .i64 d, .int .i64 n, .bool b, .slice A9 (k + 1) c9] 33 (0, 0)) := l15r; have hd15 := ds_grown hd14 l14 g15; have s15 := (g15.block _ (Nat.lt_of_lt_of_le hlt0 hB14.size) (fun e => by have := Option.some.inj e; omega)).trans ((hB14.block _ hlt0).trans f0); have o15 := (g15.block _ (Nat.lt_of_lt_of_le hlt1 hB14.size) (fun e => by have := Option.some.inj e; omega)).trans ((hB14.block _ hlt1).trans f1); have d15 := (g15.block _ (Nat.lt_of_lt_of_le hlt2 hB14.size) (fun e => n4 (Option.some.inj e).symm)).trans ((hB14.block _ hlt2).trans f2); have t15 := (g15.block _ (Nat.lt_of_lt_of_le hlts hB14.size) (fun e => n1 (Option.some.inj e).symm)).trans ((hB14.block _ hlts).trans hs11.out); have hW15 : Below w.heap.size w w15 := (hW11.out.trans (hB14.mono hW11.out.size)).grown g15 (hW11.out.trans (hB14.mono hW11.out.size)).size (fun j e => by have := Option.some.inj e; omega); clear l15r g15 l14 hB14 hd14 f0 f1 f2 hlt0 hlt1 hlt2 hltl hlts hf11 hl11 hs11; obtain ⟨⟨x0, x1, x2⟩, ⟨y0, y1, y2, y3⟩⟩ := hsp.out _ ⟨s15, o15⟩)
    | (refine wpList_store_ds (by rfl) (.tmp 109) (.tmp 108) (by rfl) (by rfl) gs 3 (by rfl) P (k - 1) cp (by rfl) #[.int .i64 d, .int .i64 n, .bool b, .slice P k cp] 33 t15 _ (by rfl) ?_; intro w16 t16r g16; have t16 : w16.heap[gs]? = some (.cells #[.int .i64 d, .int .i64 n, .bool b, .slice P (k - 1) cp] 33 (0, 0)) := t16r; have hd16 := ds_grown hd15 t15 g16; have s16 := (g16.block _ (Array.getElem?_eq_some_iff.1 s15).1 (fun e => by have := Option.some.inj e; omega)).trans s15; have o16 := (g16.block _ (Array.getElem?_eq_some_iff.1 o15).1 (fun e => by have := Option.some.inj e; omega)).trans o15; have d16 := (g16.block _ (Array.getElem?_eq_some_iff.1 d15).1 (fun e => n5 (Option.some.inj e).symm)).trans d15; have l16 := (g16.block _ (Array.getElem?_eq_some_iff.1 l15).1 (fun e => n1 (Option.some.inj e))).trans l15; have hW16 : Below w.heap.size w w16 := hW15.grown g16 hW15.size (fun j e => by have := Option.some.inj e; omega); clear t16r g16 t15 x0 x1 x2 y0 y1 y2 y3 s15 o15 d15 l15 hd15 hW15; obtain ⟨⟨x0, x1, x2⟩, ⟨y0, y1, y2, y3⟩⟩ := hsp.out _ ⟨s16, o16⟩; have v0 : w16.cell? ⟨gl, 0, none⟩ = some (.int .i64 d) := (by rw [cell_of_row _ _ _ _ _ _ l16]; rfl); have v1 : w16.cell? ⟨gl, 1, none⟩ = some (.int .i64 n) := (by rw [cell_of_row _ _ _ _ _ _ l16]; rfl); have v2 : w16.cell? ⟨gl, 2, none⟩ = some (.bool b) := (by rw [cell_of_row _ _ _ _ _ _ l16]; rfl); have v3 : w16.cell? ⟨gl, 3, none⟩ = some (.slice A9 (k + 1) c9) := (by rw [cell_of_row _ _ _ _ _ _ l16]; rfl))
    | (refine wpList_load_midG (by rfl) 23 (.tmp 5) (by rfl) gd 0 (by rfl) (dc r) _ (row_range (cs := dc r) d16) Tryd.underlying23 (by rfl) pr1.out ?_)
    | (refine wpList_load_midG (by rfl) 23 (.tmp 114) (by rfl) w.heap.size 3 (by rfl) (dc r) _ (hro.out _ s16) Tryd.underlying23 (by rfl) pr1.out ?_)
    | (refine wpList_load_midG (by rfl) 25 (.tmp 2) (by rfl) w.heap.size 0 (by rfl) (slC s) _ (row_range s16) Tryd.underlying25 (by rfl) pl.out ?_))
  refine (hK2.out w16 A9 c9 hW16 hc9 hd16).mono ?_
  rintro e w17 ⟨rfl, hb17⟩
  have s17 := (hb17.block _ (Array.getElem?_eq_some_iff.1 s16).1).trans s16
  have o17 := (hb17.block _ (Array.getElem?_eq_some_iff.1 o16).1).trans o16
  have hW17 := hW16.trans (hb17.mono hW16.size)
  have t17 := (hb17.block _ (Array.getElem?_eq_some_iff.1 t16).1).trans t16
  clear x0 x1 x2 y0 y1 y2 y3 v0 v1 v2 v3 hb17 s16 o16 d16 l16 hd16 hW16
  obtain ⟨⟨x0, x1, x2⟩, ⟨y0, y1, y2, y3⟩⟩ := hsp.out _ ⟨s17, o17⟩
  have v0 : w17.cell? ⟨gs, 0, none⟩ = some (.int .i64 d) := by rw [cell_of_row _ _ _ _ _ _ t17]; rfl
  have v1 : w17.cell? ⟨gs, 1, none⟩ = some (.int .i64 n) := by rw [cell_of_row _ _ _ _ _ _ t17]; rfl
  have v2 : w17.cell? ⟨gs, 2, none⟩ = some (.bool b) := by rw [cell_of_row _ _ _ _ _ _ t17]; rfl
  have v3 : w17.cell? ⟨gs, 3, none⟩ = some (.slice P (k - 1) cp) := by rw [cell_of_row _ _ _ _ _ _ t17]; rfl
  go_wp2_with (refine wpList_load_midG (by rfl) 25 (.tmp 2) (by rfl) w.heap.size 0 (by rfl) (slC s) _ (row_range s17) Tryd.underlying25 (by rfl) pl.out ?_)
  refine (hK3.out w17 hW17).mono ?_
  rintro e w18 ⟨rfl, hb18⟩
  have hW18 := hW17.trans (hb18.mono hW17.size)
  go_wp2_with fail
  go_ret
  exact ⟨rfl, hW18⟩
end Go.Proofs.YtnccbhndlnkboaaDoor
