/- The walk of fastilaw41.sane. -/
import Derived.Test.YtnccbhndlnkboaaDoorAccG
import Derived.Test.YtnccbhndlnkboaaDoorSealSane
namespace Go.Proofs.YtnccbhndlnkboaaDoor
open Go.RowKit Go.Shelf Cdc Sha
set_option linter.unusedVariables false
set_option linter.unusedSimpArgs false

def osC (l : List AnI) : List Value := l.flatMap fun x => [.int .i64 x.1.day, .int .i64 x.1.salt, .bool x.1.bl, .slice x.2.1 x.1.path.length x.2.2]
theorem osC_at : ∀ {l : List AnI} {i : Nat} {x : AnI}, l[i]? = some x → ∀ j, j < 4 → (osC l)[i * 4 + j]? = ([.int .i64 x.1.day, .int .i64 x.1.salt, .bool x.1.bl, .slice x.2.1 x.1.path.length x.2.2] : List Value)[j]?
  | [], i, x, h => by simp at h
  | y :: l, 0, x, h => fun j hj => by
    simp at h
    subst h
    simp only [osC, List.flatMap_cons]
    rw [Nat.zero_mul, Nat.zero_add, List.getElem?_append_left (by simpa using hj)]
  | y :: l, i + 1, x, h => fun j hj => by
    have ih := osC_at (l := l) (i := i) (x := x) (by simpa using h) j hj
    rw [← ih]
    simp only [osC, List.flatMap_cons]
    rw [List.getElem?_append_right (by simp; omega)]
    congr 1
    simp
    omega
theorem os_row {W : World} {g : Nat} {l : List AnI} {C : Array Value} {t : TypeId} (hg : W.heap[g]? = some (.cells C t (0, 0))) (hC : C = (osC l).toArray) (h : ∀ x ∈ l, x.1.path.length ≤ x.2.2 ∧ DsAt W x.2.1 x.1.path) : OsAt W (some ⟨g, 0, none⟩) (l.map (·.1)) := fun i y hy => by
  rw [List.getElem?_map] at hy
  obtain ⟨x, hx, rfl⟩ := Option.map_eq_some_iff.1 hy
  obtain ⟨h1, h2⟩ := h x (List.mem_of_getElem? hx)
  have hc : ∀ j, j < 4 → W.cell? ⟨g, 0 + i * 4 + j, none⟩ = ([.int .i64 x.1.day, .int .i64 x.1.salt, .bool x.1.bl, .slice x.2.1 x.1.path.length x.2.2] : List Value)[j]? := fun j hj => by
    rw [cell_of_row _ _ _ _ _ _ hg, hC, Nat.zero_add, ← osC_at hx j hj]
    simp
  exact ⟨g, 0, x.2.1, x.2.2, rfl, (Array.getElem?_eq_some_iff.1 hg).1, ⟨hc 0 (by decide), hc 1 (by decide), hc 2 (by decide), hc 3 (by decide)⟩, h1, h2⟩

theorem verdict_two (s : Sl) (hs : SlI s) (c : Ch) (a b : Op) (ha : OpI a) (hb : OpI b) (ka : a.path.length = 1) (kb : b.path.length = 1) (PA PB : Option Addr) (cA cB : Nat) (hcA : 1 ≤ cA) (hcB : 1 ≤ cB) (time : Int) (V : World) (hA : DsAt V PA a.path) (hB : DsAt V PB b.path) (hL : Laid V) :
    Calls Tryd.prog 13 #[.agg (slA s), .agg (chA c), .slice (some ⟨V.heap.size, 0, none⟩) 2 2, .int .i64 time] (V.alloc (.cells #[.int .i64 a.day, .int .i64 a.salt, .bool a.bl, .slice PA 1 cA, .int .i64 b.day, .int .i64 b.salt, .bool b.bl, .slice PB 1 cB] 33)) fun e w' => e = .returned (.tuple #[.int .i64 (vdR s c [a, b] 2 time), .int .i64 (vdE s c 2 time)]) ∧ Below V.heap.size V w' := by
  have hbl := blow1 V (.cells #[.int .i64 a.day, .int .i64 a.salt, .bool a.bl, .slice PA 1 cA, .int .i64 b.day, .int .i64 b.salt, .bool b.bl, .slice PB 1 cB] 33)
  have h := os_row (l := [(a, PA, cA), (b, PB, cB)]) (heap_alloc_new V (.cells #[.int .i64 a.day, .int .i64 a.salt, .bool a.bl, .slice PA 1 cA, .int .i64 b.day, .int .i64 b.salt, .bool b.bl, .slice PB 1 cB] 33)) (by simp [osC, ka, kb]) (fun x hx => by
    simp at hx
    rcases hx with rfl | rfl
    · exact ⟨by dsimp only; omega, hA.below hbl⟩
    · exact ⟨by dsimp only; omega, hB.below hbl⟩)
  refine (verdict_any s hs c [a, b] 2 _ 2 time _ rfl (Nat.le_refl _) h (fun y hy => ?_) (hL.below hbl)).mono fun e w' ⟨h1, h2⟩ => ⟨h1, hbl.trans (h2.mono hbl.size)⟩
  simp at hy
  rcases hy with rfl | rfl
  · exact ⟨ha, by omega⟩
  · exact ⟨hb, by omega⟩
theorem verdict_one (s : Sl) (hs : SlI s) (c : Ch) (a : Op) (ha : OpI a) (k : Nat) (ka : a.path.length = k) (hk : k ≤ 1000000) (PA : Option Addr) (cA : Nat) (hcA : k ≤ cA) (time : Int) (V : World) (hA : DsAt V PA a.path) (hL : Laid V) :
    Calls Tryd.prog 13 #[.agg (slA s), .agg (chA c), .slice (some ⟨V.heap.size, 0, none⟩) 1 1, .int .i64 time] (V.alloc (.cells #[.int .i64 a.day, .int .i64 a.salt, .bool a.bl, .slice PA k cA] 33)) fun e w' => e = .returned (.tuple #[.int .i64 (vdR s c [a] 1 time), .int .i64 (vdE s c 1 time)]) ∧ Below V.heap.size V w' := by
  have hbl := blow1 V (.cells #[.int .i64 a.day, .int .i64 a.salt, .bool a.bl, .slice PA k cA] 33)
  have h := os_row (l := [(a, PA, cA)]) (heap_alloc_new V (.cells #[.int .i64 a.day, .int .i64 a.salt, .bool a.bl, .slice PA k cA] 33)) (by simp [osC, ka]) (fun x hx => by
    simp at hx
    subst hx
    exact ⟨by dsimp only; omega, hA.below hbl⟩)
  refine (verdict_any s hs c [a] 1 _ 1 time _ rfl (Nat.le_refl _) h (fun y hy => ?_) (hL.below hbl)).mono fun e w' ⟨h1, h2⟩ => ⟨h1, hbl.trans (h2.mono hbl.size)⟩
  simp at hy
  subst hy
  exact ⟨ha, by omega⟩
theorem verdict_nil (s : Sl) (hs : SlI s) (c : Ch) (time : Int) (V : World) (hL : Laid V) :
    Calls Tryd.prog 13 #[.agg (slA s), .agg (chA c), .slice none 0 0, .int .i64 time] V fun e w' => e = .returned (.tuple #[.int .i64 (vdR s c [] 0 time), .int .i64 (vdE s c 0 time)]) ∧ Below V.heap.size V w' :=
  verdict_any s hs c [] 0 none 0 time V rfl (Nat.le_refl _) (os_nil V none) (fun y hy => by simp at hy) hL

theorem asane_i : ∀ x ∈ [(5 : Int), 6], I64 x := fun x hx => by simp at hx; rcases hx with rfl | rfl <;> exact ⟨by omega, by omega⟩
/-- the seal and the openings of the chapter's example -/
theorem asane_facts : ∃ (r : List UInt8) (p q : List (List UInt8)), (r.length = 32 ∧ p.length = 1 ∧ q.length = 1 ∧ (∀ d ∈ p, d.length = 32) ∧ (∀ d ∈ q, d.length = 32)) ∧ mkS 3 100 2 2 [false, true] [5, 6] = ⟨3, 100, 2, r⟩ ∧ opnO 3 100 2 2 [false, true] [5, 6] 100 = ⟨100, 5, false, p⟩ ∧ opnO 3 100 2 2 [false, true] [5, 6] 101 = ⟨101, 6, true, q⟩ ∧ chkS ⟨3, 100, 2, r⟩ ⟨101, 6, true, q⟩ = true := by
  have he : opnE 3 100 2 2 [5, 6] 100 = 0 := by decide
  have he2 : opnE 3 100 2 2 [5, 6] 101 = 0 := by decide
  have h1 := chk_opened (t := 3) (f := 100) (d := 101) (nb := 2) (ns := 2) (bl := [false, true]) (sl := [5, 6]) rfl rfl he2
  have h2 : opE 3 100 2 2 [5, 6] = 0 := by decide
  have hS : mkS 3 100 2 2 [false, true] [5, 6] = ⟨3, 100, 2, rootM ((lvs 3 100 [false, true] [5, 6]).map lfD)⟩ := if_pos h2
  have hO : opnO 3 100 2 2 [false, true] [5, 6] 100 = ⟨100, 5, false, pathM ((lvs 3 100 [false, true] [5, 6]).map lfD) 0⟩ := if_pos he
  have hO2 : opnO 3 100 2 2 [false, true] [5, 6] 101 = ⟨101, 6, true, pathM ((lvs 3 100 [false, true] [5, 6]).map lfD) 1⟩ := if_pos he2
  rw [hS, hO2] at h1
  exact ⟨_, _, _, ⟨rootM_len 2 _ rfl (lvsD_ne rfl (by decide)) lvsD_32, by rw [pathM_lenM (n := 2) rfl (by decide), lenM_big (by decide), lenM_one (by decide)]; rfl, by rw [pathM_lenM (n := 2) rfl (by decide), lenM_big (by decide), lenM_one (by decide)]; rfl, pathM_all 2 _ _ rfl lvsD_32, pathM_all 2 _ _ rfl lvsD_32⟩, hS, hO, hO2, h1⟩
theorem built_o2 (PA PB : Option Addr) (cA cB : Nat) : Tryd.prog.builtSlice 33 2 [(0, .agg #[.int .i64 100, .int .i64 5, .bool false, .slice PA 1 cA]), (1, .agg #[.int .i64 101, .int .i64 6, .bool true, .slice PB 1 cB])] = some #[.int .i64 100, .int .i64 5, .bool false, .slice PA 1 cA, .int .i64 101, .int .i64 6, .bool true, .slice PB 1 cB] := by kernel_rfl
theorem built_o1 (PA : Option Addr) (cA : Nat) : Tryd.prog.builtSlice 33 1 [(0, .agg #[.int .i64 100, .int .i64 5, .bool false, .slice PA 1 cA])] = some #[.int .i64 100, .int .i64 5, .bool false, .slice PA 1 cA] := by kernel_rfl
theorem run_make65 (W : World) : ∃ C, (Instr.makeSlice 28 (.int .i64 65) (.int .i64 65)).run Tryd.prog W = .ok (.slice (some ⟨W.heap.size, 0, none⟩) 65 65) (W.alloc (.cells C 33)) := by
  have hinfo : (Tryd.prog.info? 33).map (fun i => i.zero.isSome && decide (i.bytes ≤ 1000)) = some true := by kernel_rfl
  obtain ⟨i, hi, h2⟩ := Option.map_eq_some_iff.1 hinfo
  simp only [Bool.and_eq_true, decide_eq_true_eq] at h2
  obtain ⟨z, hz⟩ := Option.isSome_iff_exists.1 h2.1
  have hr := run_make (P := Tryd.prog) W 28 33 i z (by kernel_rfl) hi hz .i64 .i64 65 65 (by omega) (by omega) (by have := h2.2; omega) (by omega)
  exact ⟨_, hr⟩
set_option maxRecDepth 100000 in
set_option maxHeartbeats 16000000 in
theorem asane_any (w : World) (hL : Laid w) : Calls Tryd.prog 10 #[] w fun e w' => e = .returned (.bool true) ∧ Below w.heap.size w w' := by
  obtain ⟨r, p, q, ⟨hr, hp1, hq1, hp32, hq32⟩, hS, hO, hO2, hck⟩ := asane_facts
  have hB2 : Below w.heap.size w ((w.alloc (.cells #[.bool false, .bool true] 4)).alloc (.cells #[.int .i64 5, .int .i64 6] 3)) := ((Below.refl _ _).alloc (Nat.le_refl _) _).alloc (by simp) _
  have r2 := heap_alloc_new (w.alloc (.cells #[.bool false, .bool true] 4)) (.cells #[.int .i64 5, .int .i64 6] 3)
  have r1 := (Below.heap_alloc (w.alloc (.cells #[.bool false, .bool true] 4)) (.cells #[.int .i64 5, .int .i64 6] 3) w.heap.size (by simp)).trans (heap_alloc_new w (.cells #[.bool false, .bool true] 4))
  rw [World.size_alloc] at r2
  obtain ⟨W2, hW2⟩ : ∃ W2, W2 = ((w.alloc (.cells #[.bool false, .bool true] 4)).alloc (.cells #[.int .i64 5, .int .i64 6] 3)) := ⟨_, rfl⟩
  rw [← hW2] at r1 r2 hB2
  have hbo := bo_row (bl := [false, true]) r1
  have hin := in_row (sl := [5, 6]) r2
  have hx2 : (2 : Nat) ≤ maxLen := by decide
  have M1 : Hid (∀ V, Below W2.heap.size W2 V → Calls Tryd.prog 16 #[.int .i64 3, .int .i64 100, .slice (some ⟨w.heap.size, 0, none⟩) 2 2, .slice (some ⟨w.heap.size + 1, 0, none⟩) 2 2] V fun e w' => e = .returned (.tuple #[.agg (slA ⟨3, 100, 2, r⟩), .int .i64 0]) ∧ Below V.heap.size V w') := Lib.hid fun V hV => by
    have := make_any 3 100 [false, true] [5, 6] 2 2 2 2 (some ⟨w.heap.size, 0, none⟩) (some ⟨w.heap.size + 1, 0, none⟩) rfl rfl (by decide) (by decide) hx2 hx2 ⟨by omega, by omega⟩ asane_i V (hbo.below hV) (hin.below hV) (hL.below (hB2.trans (hV.mono hB2.size)))
    rw [hS] at this
    exact this
  have M2 : Hid (∀ V, Below W2.heap.size W2 V → Calls Tryd.prog 18 #[.int .i64 3, .int .i64 100, .slice (some ⟨w.heap.size, 0, none⟩) 2 2, .slice (some ⟨w.heap.size + 1, 0, none⟩) 2 2, .int .i64 100] V fun e w' => ∃ (P : Option Addr) (cp : Nat), e = .returned (.tuple #[.agg #[.int .i64 100, .int .i64 5, .bool false, .slice P 1 cp], .int .i64 0]) ∧ 1 ≤ cp ∧ DsAt w' P p ∧ Below V.heap.size V w') := Lib.hid fun V hV => by
    have := sopen_any 3 100 [false, true] [5, 6] 2 2 2 2 (some ⟨w.heap.size, 0, none⟩) (some ⟨w.heap.size + 1, 0, none⟩) rfl rfl (by decide) (by decide) hx2 hx2 ⟨by omega, by omega⟩ asane_i 100 ⟨by omega, by omega⟩ V (hbo.below hV) (hin.below hV) (hL.below (hB2.trans (hV.mono hB2.size)))
    unfold OpnC at this
    rw [hO, show opnE 3 100 2 2 [5, 6] 100 = 0 by decide] at this
    refine this.mono fun e w' h => ?_
    obtain ⟨P, cp, h1, h2, h3, h4⟩ := h
    rw [lenA, hp1] at h1
    rw [hp1] at h2
    exact ⟨P, cp, h1, h2, h3, h4⟩
  have M3 : Hid (∀ V, Below W2.heap.size W2 V → Calls Tryd.prog 18 #[.int .i64 3, .int .i64 100, .slice (some ⟨w.heap.size, 0, none⟩) 2 2, .slice (some ⟨w.heap.size + 1, 0, none⟩) 2 2, .int .i64 101] V fun e w' => ∃ (P : Option Addr) (cp : Nat), e = .returned (.tuple #[.agg #[.int .i64 101, .int .i64 6, .bool true, .slice P 1 cp], .int .i64 0]) ∧ 1 ≤ cp ∧ DsAt w' P q ∧ Below V.heap.size V w') := Lib.hid fun V hV => by
    have := sopen_any 3 100 [false, true] [5, 6] 2 2 2 2 (some ⟨w.heap.size, 0, none⟩) (some ⟨w.heap.size + 1, 0, none⟩) rfl rfl (by decide) (by decide) hx2 hx2 ⟨by omega, by omega⟩ asane_i 101 ⟨by omega, by omega⟩ V (hbo.below hV) (hin.below hV) (hL.below (hB2.trans (hV.mono hB2.size)))
    unfold OpnC at this
    rw [hO2, show opnE 3 100 2 2 [5, 6] 101 = 0 by decide] at this
    refine this.mono fun e w' h => ?_
    obtain ⟨P, cp, h1, h2, h3, h4⟩ := h
    rw [lenA, hq1] at h1
    rw [hq1] at h2
    exact ⟨P, cp, h1, h2, h3, h4⟩
  have sI : SlI ⟨3, 100, 2, r⟩ := ⟨⟨by dsimp only; omega, by dsimp only; omega⟩, ⟨by dsimp only; omega, by dsimp only; omega⟩, ⟨by dsimp only; omega, by dsimp only; omega⟩, hr⟩
  have aI : OpI ⟨100, 5, false, p⟩ := ⟨⟨by dsimp only; omega, by dsimp only; omega⟩, ⟨by dsimp only; omega, by dsimp only; omega⟩, hp32⟩
  have bI : OpI ⟨101, 6, true, q⟩ := ⟨⟨by dsimp only; omega, by dsimp only; omega⟩, ⟨by dsimp only; omega, by dsimp only; omega⟩, hq32⟩
  have V1 : Hid (∀ V k PA PB cA cB, k = V.heap.size → Below W2.heap.size W2 V → 1 ≤ cA → 1 ≤ cB → DsAt V PA p → DsAt V PB q → Calls Tryd.prog 13 #[.agg (slC ⟨3, 100, 2, r⟩).toArray, .agg #[.int .i64 0, .int .i64 3, .int .i64 101, .int .i64 9, .bool true], .slice (some ⟨k, 0, none⟩) 2 2, .int .i64 8] (V.alloc (.cells #[.int .i64 100, .int .i64 5, .bool false, .slice PA 1 cA, .int .i64 101, .int .i64 6, .bool true, .slice PB 1 cB] 33)) fun e w' => e = .returned (.tuple #[.int .i64 1, .int .i64 0]) ∧ Below V.heap.size V w') := Lib.hid fun V k PA PB cA cB hk hV h1 h2 h3 h4 => by
    subst hk
    have e0 : vdE ⟨3, 100, 2, r⟩ ⟨0, 3, 101, 9, true⟩ 2 8 = 0 := rfl
    have ef : [(⟨100, 5, false, p⟩ : Op), ⟨101, 6, true, q⟩].find? (ansB ⟨3, 100, 2, r⟩ ⟨0, 3, 101, 9, true⟩) = some ⟨101, 6, true, q⟩ := by rw [List.find?_cons_of_neg (by simp [ansB]), List.find?_cons_of_pos (by simp [ansB, hck])]
    have e1 : vdR ⟨3, 100, 2, r⟩ ⟨0, 3, 101, 9, true⟩ [⟨100, 5, false, p⟩, ⟨101, 6, true, q⟩] 2 8 = 1 := by rw [vdR, if_pos e0, vdV, ef]; rfl
    have := verdict_two ⟨3, 100, 2, r⟩ sI ⟨0, 3, 101, 9, true⟩ ⟨100, 5, false, p⟩ ⟨101, 6, true, q⟩ aI bI hp1 hq1 PA PB cA cB h1 h2 8 V h3 h4 (hL.below (hB2.trans (hV.mono hB2.size)))
    rw [e0, e1] at this
    exact this
  have V2 : Hid (∀ V k PA PB cA cB, k = V.heap.size → Below W2.heap.size W2 V → 1 ≤ cA → 1 ≤ cB → DsAt V PA p → DsAt V PB q → Calls Tryd.prog 13 #[.agg (slC ⟨3, 100, 2, r⟩).toArray, .agg #[.int .i64 0, .int .i64 3, .int .i64 101, .int .i64 9, .bool false], .slice (some ⟨k, 0, none⟩) 2 2, .int .i64 8] (V.alloc (.cells #[.int .i64 100, .int .i64 5, .bool false, .slice PA 1 cA, .int .i64 101, .int .i64 6, .bool true, .slice PB 1 cB] 33)) fun e w' => e = .returned (.tuple #[.int .i64 2, .int .i64 0]) ∧ Below V.heap.size V w') := Lib.hid fun V k PA PB cA cB hk hV h1 h2 h3 h4 => by
    subst hk
    have e0 : vdE ⟨3, 100, 2, r⟩ ⟨0, 3, 101, 9, false⟩ 2 8 = 0 := rfl
    have ef : [(⟨100, 5, false, p⟩ : Op), ⟨101, 6, true, q⟩].find? (ansB ⟨3, 100, 2, r⟩ ⟨0, 3, 101, 9, false⟩) = some ⟨101, 6, true, q⟩ := by rw [List.find?_cons_of_neg (by simp [ansB]), List.find?_cons_of_pos (by simp [ansB, hck])]
    have e1 : vdR ⟨3, 100, 2, r⟩ ⟨0, 3, 101, 9, false⟩ [⟨100, 5, false, p⟩, ⟨101, 6, true, q⟩] 2 8 = 2 := by rw [vdR, if_pos e0, vdV, ef]; rfl
    have := verdict_two ⟨3, 100, 2, r⟩ sI ⟨0, 3, 101, 9, false⟩ ⟨100, 5, false, p⟩ ⟨101, 6, true, q⟩ aI bI hp1 hq1 PA PB cA cB h1 h2 8 V h3 h4 (hL.below (hB2.trans (hV.mono hB2.size)))
    rw [e0, e1] at this
    exact this
  have V3 : Hid (∀ V k PA cA, k = V.heap.size → Below W2.heap.size W2 V → 1 ≤ cA → DsAt V PA p → Calls Tryd.prog 13 #[.agg (slC ⟨3, 100, 2, r⟩).toArray, .agg #[.int .i64 0, .int .i64 3, .int .i64 101, .int .i64 9, .bool true], .slice (some ⟨k, 0, none⟩) 1 1, .int .i64 9] (V.alloc (.cells #[.int .i64 100, .int .i64 5, .bool false, .slice PA 1 cA] 33)) fun e w' => e = .returned (.tuple #[.int .i64 0, .int .i64 0]) ∧ Below V.heap.size V w') := Lib.hid fun V k PA cA hk hV h1 h3 => by
    subst hk
    have e0 : vdE ⟨3, 100, 2, r⟩ ⟨0, 3, 101, 9, true⟩ 1 9 = 0 := rfl
    have ef : [(⟨100, 5, false, p⟩ : Op)].find? (ansB ⟨3, 100, 2, r⟩ ⟨0, 3, 101, 9, true⟩) = none := by rw [List.find?_cons_of_neg (by simp [ansB])]; rfl
    have e1 : vdR ⟨3, 100, 2, r⟩ ⟨0, 3, 101, 9, true⟩ [⟨100, 5, false, p⟩] 1 9 = 0 := by rw [vdR, if_pos e0, vdV, ef]; rfl
    have := verdict_one ⟨3, 100, 2, r⟩ sI ⟨0, 3, 101, 9, true⟩ ⟨100, 5, false, p⟩ aI 1 hp1 (by decide) PA cA h1 9 V h3 (hL.below (hB2.trans (hV.mono hB2.size)))
    rw [e0, e1] at this
    exact this
  have V4 : Hid (∀ V k PA cA, k = V.heap.size → Below W2.heap.size W2 V → 1 ≤ cA → DsAt V PA p → Calls Tryd.prog 13 #[.agg (slC ⟨3, 100, 2, r⟩).toArray, .agg #[.int .i64 0, .int .i64 3, .int .i64 101, .int .i64 9, .bool true], .slice (some ⟨k, 0, none⟩) 1 1, .int .i64 10] (V.alloc (.cells #[.int .i64 100, .int .i64 5, .bool false, .slice PA 1 cA] 33)) fun e w' => e = .returned (.tuple #[.int .i64 2, .int .i64 0]) ∧ Below V.heap.size V w') := Lib.hid fun V k PA cA hk hV h1 h3 => by
    subst hk
    have e0 : vdE ⟨3, 100, 2, r⟩ ⟨0, 3, 101, 9, true⟩ 1 10 = 0 := rfl
    have ef : [(⟨100, 5, false, p⟩ : Op)].find? (ansB ⟨3, 100, 2, r⟩ ⟨0, 3, 101, 9, true⟩) = none := by rw [List.find?_cons_of_neg (by simp [ansB])]; rfl
    have e1 : vdR ⟨3, 100, 2, r⟩ ⟨0, 3, 101, 9, true⟩ [⟨100, 5, false, p⟩] 1 10 = 2 := by rw [vdR, if_pos e0, vdV, ef]; rfl
    have := verdict_one ⟨3, 100, 2, r⟩ sI ⟨0, 3, 101, 9, true⟩ ⟨100, 5, false, p⟩ aI 1 hp1 (by decide) PA cA h1 10 V h3 (hL.below (hB2.trans (hV.mono hB2.size)))
    rw [e0, e1] at this
    exact this
  have V5 : Hid (∀ V, Below W2.heap.size W2 V → Calls Tryd.prog 13 #[.agg (slC ⟨3, 100, 2, r⟩).toArray, .agg #[.int .i64 0, .int .i64 2, .int .i64 101, .int .i64 0, .bool false], .slice none 0 0, .int .i64 0] V fun e w' => e = .returned (.tuple #[.int .i64 0, .int .i64 410]) ∧ Below V.heap.size V w') := Lib.hid fun V hV => by
    have e0 : vdE ⟨3, 100, 2, r⟩ ⟨0, 2, 101, 0, false⟩ 0 0 = 410 := rfl
    have e1 : vdR ⟨3, 100, 2, r⟩ ⟨0, 2, 101, 0, false⟩ [] 0 0 = 0 := vdR_zero _ _ _ _ _ (by rw [e0]; decide)
    have := verdict_nil ⟨3, 100, 2, r⟩ sI ⟨0, 2, 101, 0, false⟩ 0 V (hL.below (hB2.trans (hV.mono hB2.size)))
    rw [e0, e1] at this
    exact this
  have V6 : Hid (∀ V, Below W2.heap.size W2 V → Calls Tryd.prog 13 #[.agg (slC ⟨3, 100, 2, r⟩).toArray, .agg #[.int .i64 0, .int .i64 3, .int .i64 102, .int .i64 0, .bool false], .slice none 0 0, .int .i64 0] V fun e w' => e = .returned (.tuple #[.int .i64 0, .int .i64 410]) ∧ Below V.heap.size V w') := Lib.hid fun V hV => by
    have e0 : vdE ⟨3, 100, 2, r⟩ ⟨0, 3, 102, 0, false⟩ 0 0 = 410 := rfl
    have e1 : vdR ⟨3, 100, 2, r⟩ ⟨0, 3, 102, 0, false⟩ [] 0 0 = 0 := vdR_zero _ _ _ _ _ (by rw [e0]; decide)
    have := verdict_nil ⟨3, 100, 2, r⟩ sI ⟨0, 3, 102, 0, false⟩ 0 V (hL.below (hB2.trans (hV.mono hB2.size)))
    rw [e0, e1] at this
    exact this
  have V7 : Hid (∀ V A, Calls Tryd.prog 13 #[.agg (slC ⟨3, 100, 2, r⟩).toArray, .agg #[.int .i64 0, .int .i64 3, .int .i64 101, .int .i64 9, .bool true], .slice A 65 65, .int .i64 0] V fun e w' => e = .returned (.tuple #[.int .i64 0, .int .i64 2]) ∧ Below V.heap.size V w') := Lib.hid fun V A => verdict_many ⟨3, 100, 2, r⟩ sI ⟨0, 3, 101, 9, true⟩ [] 65 A 65 0 V rfl (by decide)
  have V8 : Hid (∀ V, Below W2.heap.size W2 V → Calls Tryd.prog 13 #[.agg (slC ⟨3, 100, 2, r⟩).toArray, .agg #[.int .i64 0, .int .i64 3, .int .i64 101, .int .i64 9, .bool true], .slice none 0 0, .int .i64 134217728] V fun e w' => e = .returned (.tuple #[.int .i64 0, .int .i64 410]) ∧ Below V.heap.size V w') := Lib.hid fun V hV => by
    have e0 : vdE ⟨3, 100, 2, r⟩ ⟨0, 3, 101, 9, true⟩ 0 134217728 = 410 := rfl
    have e1 : vdR ⟨3, 100, 2, r⟩ ⟨0, 3, 101, 9, true⟩ [] 0 134217728 = 0 := vdR_zero _ _ _ _ _ (by rw [e0]; decide)
    have := verdict_nil ⟨3, 100, 2, r⟩ sI ⟨0, 3, 101, 9, true⟩ 134217728 V (hL.below (hB2.trans (hV.mono hB2.size)))
    rw [e0, e1] at this
    exact this
  have K1 : Hid (∀ V, Calls Tryd.prog 28 #[.agg #[.int .i64 0, .int .i64 0, .int .i64 0, .int .i64 0, .bool false]] V fun e w' => e = .returned (.int .i64 0) ∧ Below V.heap.size V w') := Lib.hid fun V => acheck_any ⟨0, 0, 0, 0, false⟩ V
  have K2 : Hid (∀ V, Calls Tryd.prog 28 #[.agg #[.int .i64 0, .int .i64 64, .int .i64 0, .int .i64 0, .bool false]] V fun e w' => e = .returned (.int .i64 410) ∧ Below V.heap.size V w') := Lib.hid fun V => acheck_any ⟨0, 64, 0, 0, false⟩ V
  have pi := Lib.hid (sl_info (s := ⟨3, 100, 2, r⟩) hr)
  have pl : Hid ((Tryd.prog.info? 25).map (·.size) = some (slC ⟨3, 100, 2, r⟩).length) := Lib.hid (by have := pi.out; simpa [slA] using this)
  have pz := Lib.hid (show (slA slZ).size = (slA ⟨3, 100, 2, r⟩).size by rw [slA_size (s := slZ) zero32_len, slA_size (s := ⟨3, 100, 2, r⟩) hr])
  have po := Lib.hid (slA_one ⟨3, 100, 2, r⟩)
  clear hS hO hO2 hck hp32 hq32 sI aI bI hx2 hbo hin r1 r2 hL hp1 hq1 hr
  replace hB2 := Lib.hid hB2
  go_enter Tryd.func10, Tryd.ntmps10
  go_wp2_with fail
  rw [← hW2]
  have HB := Below.refl W2.heap.size W2
  refine (M1.out _ HB).mono ?_
  rintro e w3 ⟨rfl, hb⟩
  replace HB := HB.trans (hb.mono HB.size)
  clear hb
  go_wp2_with (refine wpList_set_row (by rfl) 25 (.tmp 3) (.tmp 30) (by rfl) (by rfl) w3.heap.size (slA ⟨3, 100, 2, r⟩) (by rfl) (by rfl) 25 _ (heap_alloc_new w3 _) pi.out pz.out po.out ?_; intro w4 hd hz hg; have hbn := newrow_below hg; clear hg hz)
  replace hd := Lib.hid hd
  replace HB := HB.trans (hbn.mono HB.size)
  clear hbn
  have hs := hd
  clear hd
  refine (M2.out _ HB).mono ?_
  rintro e w5 ⟨PA, cA, rfl, hcA, hda, hb⟩
  have hs_ := Lib.hid ((hb.block _ (Array.getElem?_eq_some_iff.1 hs.out).1).trans hs.out)
  clear hs
  have hs := hs_
  clear hs_
  replace HB := HB.trans (hb.mono HB.size)
  clear hb
  replace hda := Lib.hid hda
  go_wp2_with fail
  have n0 := heap_alloc_new w5 (.cells #[.int .i64 100, .int .i64 5, .bool false, .slice PA 1 cA] 33)
  have hb : Below w5.heap.size w5 (w5.alloc (.cells #[.int .i64 100, .int .i64 5, .bool false, .slice PA 1 cA] 33)) := ((Below.refl _ _).alloc (Nat.le_refl _) _)
  have hz : w5.heap.size + 1 = (w5.alloc (.cells #[.int .i64 100, .int .i64 5, .bool false, .slice PA 1 cA] 33)).heap.size := by simp
  generalize (w5.alloc (.cells #[.int .i64 100, .int .i64 5, .bool false, .slice PA 1 cA] 33)) = w6 at *
  have hs_ := Lib.hid ((hb.block _ (Array.getElem?_eq_some_iff.1 hs.out).1).trans hs.out)
  clear hs
  have hs := hs_
  clear hs_
  have hda_ := Lib.hid (hda.out.below hb)
  clear hda
  have hda := hda_
  clear hda_
  replace HB := HB.trans (hb.mono HB.size)
  clear hb
  replace hz := Lib.hid hz
  have ha := Lib.hid n0
  clear n0
  refine (M3.out _ HB).mono ?_
  rintro e w7 ⟨PB, cB, rfl, hcB, hdb, hb⟩
  have hs_ := Lib.hid ((hb.block _ (Array.getElem?_eq_some_iff.1 hs.out).1).trans hs.out)
  clear hs
  have hs := hs_
  clear hs_
  have ha_ := Lib.hid ((hb.block _ (Array.getElem?_eq_some_iff.1 ha.out).1).trans ha.out)
  clear ha
  have ha := ha_
  clear ha_
  have hda_ := Lib.hid (hda.out.below hb)
  clear hda
  have hda := hda_
  clear hda_
  replace HB := HB.trans (hb.mono HB.size)
  clear hb
  replace hdb := Lib.hid hdb
  have hbc : Below w7.heap.size w7 (((w7.alloc (.cells #[.int .i64 101, .int .i64 6, .bool true, .slice PB 1 cB] 33)).alloc (.cells #[.int .i64 0, .int .i64 3, .int .i64 101, .int .i64 9, .bool true] 27)).alloc (.cells #[.int .i64 0, .int .i64 3, .int .i64 101, .int .i64 9, .bool false] 27)) := (((Below.refl _ _).alloc (Nat.le_refl _) _).alloc (by simp) _).alloc (by simp <;> omega) _
  have hsc := Lib.hid ((hbc.block _ (Array.getElem?_eq_some_iff.1 hs.out).1).trans hs.out)
  have hac := ((hbc.block _ (Array.getElem?_eq_some_iff.1 ha.out).1).trans ha.out)
  have y0 : (((w7.alloc (.cells #[.int .i64 101, .int .i64 6, .bool true, .slice PB 1 cB] 33)).alloc (.cells #[.int .i64 0, .int .i64 3, .int .i64 101, .int .i64 9, .bool true] 27)).alloc (.cells #[.int .i64 0, .int .i64 3, .int .i64 101, .int .i64 9, .bool false] 27)).cell? ⟨w5.heap.size, 0, none⟩ = some (.int .i64 100) := by rw [cell_of_row _ _ _ _ _ _ hac]; rfl
  have y1 : (((w7.alloc (.cells #[.int .i64 101, .int .i64 6, .bool true, .slice PB 1 cB] 33)).alloc (.cells #[.int .i64 0, .int .i64 3, .int .i64 101, .int .i64 9, .bool true] 27)).alloc (.cells #[.int .i64 0, .int .i64 3, .int .i64 101, .int .i64 9, .bool false] 27)).cell? ⟨w5.heap.size, 1, none⟩ = some (.int .i64 5) := by rw [cell_of_row _ _ _ _ _ _ hac]; rfl
  have y2 : (((w7.alloc (.cells #[.int .i64 101, .int .i64 6, .bool true, .slice PB 1 cB] 33)).alloc (.cells #[.int .i64 0, .int .i64 3, .int .i64 101, .int .i64 9, .bool true] 27)).alloc (.cells #[.int .i64 0, .int .i64 3, .int .i64 101, .int .i64 9, .bool false] 27)).cell? ⟨w5.heap.size, 2, none⟩ = some (.bool false) := by rw [cell_of_row _ _ _ _ _ _ hac]; rfl
  have y3 : (((w7.alloc (.cells #[.int .i64 101, .int .i64 6, .bool true, .slice PB 1 cB] 33)).alloc (.cells #[.int .i64 0, .int .i64 3, .int .i64 101, .int .i64 9, .bool true] 27)).alloc (.cells #[.int .i64 0, .int .i64 3, .int .i64 101, .int .i64 9, .bool false] 27)).cell? ⟨w5.heap.size, 3, none⟩ = some (.slice PA 1 cA) := by rw [cell_of_row _ _ _ _ _ _ hac]; rfl
  clear hac hbc
  have hb2 : Tryd.prog.builtSlice 33 2 [(0, .agg #[.int .i64 100, .int .i64 5, .bool false, .slice PA 1 cA]), (1, .agg #[.int .i64 101, .int .i64 6, .bool true, .slice PB 1 cB])] = some #[.int .i64 100, .int .i64 5, .bool false, .slice PA 1 cA, .int .i64 101, .int .i64 6, .bool true, .slice PB 1 cB] := built_o2 PA PB cA cB
  have hb1 : Tryd.prog.builtSlice 33 1 [(0, .agg #[.int .i64 100, .int .i64 5, .bool false, .slice PA 1 cA])] = some #[.int .i64 100, .int .i64 5, .bool false, .slice PA 1 cA] := built_o1 PA cA
  have hc7 : Tryd.prog.built 27 [(1, .int .i64 3), (2, .int .i64 101), (3, .int .i64 9), (4, .bool true)] = some #[.int .i64 0, .int .i64 3, .int .i64 101, .int .i64 9, .bool true] := by kernel_rfl
  have hc8 : Tryd.prog.built 27 [(1, .int .i64 2), (2, .int .i64 101)] = some #[.int .i64 0, .int .i64 2, .int .i64 101, .int .i64 0, .bool false] := by kernel_rfl
  have hc9 : Tryd.prog.built 27 [(1, .int .i64 3), (2, .int .i64 102)] = some #[.int .i64 0, .int .i64 3, .int .i64 102, .int .i64 0, .bool false] := by kernel_rfl
  have hc10 : Tryd.prog.built 27 [(1, .int .i64 64)] = some #[.int .i64 0, .int .i64 64, .int .i64 0, .int .i64 0, .bool false] := by kernel_rfl
  have hc11 : Tryd.prog.built 27 [] = some #[.int .i64 0, .int .i64 0, .int .i64 0, .int .i64 0, .bool false] := by kernel_rfl
  go_wp2_with (refine wpList_load_midG (by rfl) 25 (.tmp 3) (by rfl) w3.heap.size 0 (by rfl) (slC ⟨3, 100, 2, r⟩) _ (row_range hsc.out) Tryd.underlying25 (by rfl) pl.out ?_)
  clear hsc y0 y1 y2 y3
  have n0 := heap_alloc_new w7 (.cells #[.int .i64 101, .int .i64 6, .bool true, .slice PB 1 cB] 33)
  have n1 := heap_alloc_new (w7.alloc (.cells #[.int .i64 101, .int .i64 6, .bool true, .slice PB 1 cB] 33)) (.cells #[.int .i64 0, .int .i64 3, .int .i64 101, .int .i64 9, .bool true] 27)
  have n2 := heap_alloc_new ((w7.alloc (.cells #[.int .i64 101, .int .i64 6, .bool true, .slice PB 1 cB] 33)).alloc (.cells #[.int .i64 0, .int .i64 3, .int .i64 101, .int .i64 9, .bool true] 27)) (.cells #[.int .i64 0, .int .i64 3, .int .i64 101, .int .i64 9, .bool false] 27)
  have hb : Below w7.heap.size w7 (((w7.alloc (.cells #[.int .i64 101, .int .i64 6, .bool true, .slice PB 1 cB] 33)).alloc (.cells #[.int .i64 0, .int .i64 3, .int .i64 101, .int .i64 9, .bool true] 27)).alloc (.cells #[.int .i64 0, .int .i64 3, .int .i64 101, .int .i64 9, .bool false] 27)) := ((((Below.refl _ _).alloc (Nat.le_refl _) _).alloc (by simp) _).alloc (by simp <;> omega) _)
  replace n0 := (Below.heap_alloc (w7.alloc (.cells #[.int .i64 101, .int .i64 6, .bool true, .slice PB 1 cB] 33)) (.cells #[.int .i64 0, .int .i64 3, .int .i64 101, .int .i64 9, .bool true] 27) _ (by simp)).trans n0
  replace n0 := (Below.heap_alloc ((w7.alloc (.cells #[.int .i64 101, .int .i64 6, .bool true, .slice PB 1 cB] 33)).alloc (.cells #[.int .i64 0, .int .i64 3, .int .i64 101, .int .i64 9, .bool true] 27)) (.cells #[.int .i64 0, .int .i64 3, .int .i64 101, .int .i64 9, .bool false] 27) _ (by simp <;> omega)).trans n0
  replace n1 := (Below.heap_alloc ((w7.alloc (.cells #[.int .i64 101, .int .i64 6, .bool true, .slice PB 1 cB] 33)).alloc (.cells #[.int .i64 0, .int .i64 3, .int .i64 101, .int .i64 9, .bool true] 27)) (.cells #[.int .i64 0, .int .i64 3, .int .i64 101, .int .i64 9, .bool false] 27) _ (by simp)).trans n1
  simp only [World.size_alloc] at n0 n1 n2
  have hz : w7.heap.size + 1 + 1 + 1 = (((w7.alloc (.cells #[.int .i64 101, .int .i64 6, .bool true, .slice PB 1 cB] 33)).alloc (.cells #[.int .i64 0, .int .i64 3, .int .i64 101, .int .i64 9, .bool true] 27)).alloc (.cells #[.int .i64 0, .int .i64 3, .int .i64 101, .int .i64 9, .bool false] 27)).heap.size := by simp
  generalize (((w7.alloc (.cells #[.int .i64 101, .int .i64 6, .bool true, .slice PB 1 cB] 33)).alloc (.cells #[.int .i64 0, .int .i64 3, .int .i64 101, .int .i64 9, .bool true] 27)).alloc (.cells #[.int .i64 0, .int .i64 3, .int .i64 101, .int .i64 9, .bool false] 27)) = w8 at *
  have hs_ := Lib.hid ((hb.block _ (Array.getElem?_eq_some_iff.1 hs.out).1).trans hs.out)
  clear hs
  have hs := hs_
  clear hs_
  have ha_ := Lib.hid ((hb.block _ (Array.getElem?_eq_some_iff.1 ha.out).1).trans ha.out)
  clear ha
  have ha := ha_
  clear ha_
  have hda_ := Lib.hid (hda.out.below hb)
  clear hda
  have hda := hda_
  clear hda_
  have hdb_ := Lib.hid (hdb.out.below hb)
  clear hdb
  have hdb := hdb_
  clear hdb_
  replace HB := HB.trans (hb.mono HB.size)
  clear hb
  replace hz := Lib.hid hz
  have hbb := Lib.hid n0
  clear n0
  have hcc := Lib.hid n1
  clear n1
  have hff := Lib.hid n2
  clear n2
  refine (V1.out _ _ PA PB cA cB hz.out HB hcA hcB hda.out hdb.out).mono ?_
  rintro e w9 ⟨rfl, hb⟩
  have hs_ := Lib.hid ((hb.block _ (Array.getElem?_eq_some_iff.1 hs.out).1).trans hs.out)
  clear hs
  have hs := hs_
  clear hs_
  have ha_ := Lib.hid ((hb.block _ (Array.getElem?_eq_some_iff.1 ha.out).1).trans ha.out)
  clear ha
  have ha := ha_
  clear ha_
  have hbb_ := Lib.hid ((hb.block _ (Array.getElem?_eq_some_iff.1 hbb.out).1).trans hbb.out)
  clear hbb
  have hbb := hbb_
  clear hbb_
  have hcc_ := Lib.hid ((hb.block _ (Array.getElem?_eq_some_iff.1 hcc.out).1).trans hcc.out)
  clear hcc
  have hcc := hcc_
  clear hcc_
  have hff_ := Lib.hid ((hb.block _ (Array.getElem?_eq_some_iff.1 hff.out).1).trans hff.out)
  clear hff
  have hff := hff_
  clear hff_
  have hda_ := Lib.hid (hda.out.below hb)
  clear hda
  have hda := hda_
  clear hda_
  have hdb_ := Lib.hid (hdb.out.below hb)
  clear hdb
  have hdb := hdb_
  clear hdb_
  replace HB := HB.trans (hb.mono HB.size)
  clear hb
  clear hz
  have x0 : w9.cell? ⟨w7.heap.size + 1 + 1, 0, none⟩ = some (.int .i64 0) := by rw [cell_of_row _ _ _ _ _ _ hff.out]; rfl
  have x1 : w9.cell? ⟨w7.heap.size + 1 + 1, 1, none⟩ = some (.int .i64 3) := by rw [cell_of_row _ _ _ _ _ _ hff.out]; rfl
  have x2 : w9.cell? ⟨w7.heap.size + 1 + 1, 2, none⟩ = some (.int .i64 101) := by rw [cell_of_row _ _ _ _ _ _ hff.out]; rfl
  have x3 : w9.cell? ⟨w7.heap.size + 1 + 1, 3, none⟩ = some (.int .i64 9) := by rw [cell_of_row _ _ _ _ _ _ hff.out]; rfl
  have x4 : w9.cell? ⟨w7.heap.size + 1 + 1, 4, none⟩ = some (.bool false) := by rw [cell_of_row _ _ _ _ _ _ hff.out]; rfl
  have y0 : w9.cell? ⟨w5.heap.size, 0, none⟩ = some (.int .i64 100) := by rw [cell_of_row _ _ _ _ _ _ ha.out]; rfl
  have y1 : w9.cell? ⟨w5.heap.size, 1, none⟩ = some (.int .i64 5) := by rw [cell_of_row _ _ _ _ _ _ ha.out]; rfl
  have y2 : w9.cell? ⟨w5.heap.size, 2, none⟩ = some (.bool false) := by rw [cell_of_row _ _ _ _ _ _ ha.out]; rfl
  have y3 : w9.cell? ⟨w5.heap.size, 3, none⟩ = some (.slice PA 1 cA) := by rw [cell_of_row _ _ _ _ _ _ ha.out]; rfl
  have z0 : w9.cell? ⟨w7.heap.size, 0, none⟩ = some (.int .i64 101) := by rw [cell_of_row _ _ _ _ _ _ hbb.out]; rfl
  have z1 : w9.cell? ⟨w7.heap.size, 1, none⟩ = some (.int .i64 6) := by rw [cell_of_row _ _ _ _ _ _ hbb.out]; rfl
  have z2 : w9.cell? ⟨w7.heap.size, 2, none⟩ = some (.bool true) := by rw [cell_of_row _ _ _ _ _ _ hbb.out]; rfl
  have z3 : w9.cell? ⟨w7.heap.size, 3, none⟩ = some (.slice PB 1 cB) := by rw [cell_of_row _ _ _ _ _ _ hbb.out]; rfl
  go_wp2_with (refine wpList_load_midG (by rfl) 25 (.tmp 3) (by rfl) w3.heap.size 0 (by rfl) (slC ⟨3, 100, 2, r⟩) _ (row_range hs.out) Tryd.underlying25 (by rfl) pl.out ?_)
  clear x0 x1 x2 x3 x4 y0 y1 y2 y3 z0 z1 z2 z3
  refine (V2.out _ _ PA PB cA cB rfl HB hcA hcB hda.out hdb.out).mono ?_
  rintro e w10 ⟨rfl, hb⟩
  have hs_ := Lib.hid ((hb.block _ (Array.getElem?_eq_some_iff.1 hs.out).1).trans hs.out)
  clear hs
  have hs := hs_
  clear hs_
  have ha_ := Lib.hid ((hb.block _ (Array.getElem?_eq_some_iff.1 ha.out).1).trans ha.out)
  clear ha
  have ha := ha_
  clear ha_
  have hbb_ := Lib.hid ((hb.block _ (Array.getElem?_eq_some_iff.1 hbb.out).1).trans hbb.out)
  clear hbb
  have hbb := hbb_
  clear hbb_
  have hcc_ := Lib.hid ((hb.block _ (Array.getElem?_eq_some_iff.1 hcc.out).1).trans hcc.out)
  clear hcc
  have hcc := hcc_
  clear hcc_
  have hff_ := Lib.hid ((hb.block _ (Array.getElem?_eq_some_iff.1 hff.out).1).trans hff.out)
  clear hff
  have hff := hff_
  clear hff_
  have hda_ := Lib.hid (hda.out.below hb)
  clear hda
  have hda := hda_
  clear hda_
  have hdb_ := Lib.hid (hdb.out.below hb)
  clear hdb
  have hdb := hdb_
  clear hdb_
  replace HB := HB.trans (hb.mono HB.size)
  clear hb
  have x0 : w10.cell? ⟨w7.heap.size + 1, 0, none⟩ = some (.int .i64 0) := by rw [cell_of_row _ _ _ _ _ _ hcc.out]; rfl
  have x1 : w10.cell? ⟨w7.heap.size + 1, 1, none⟩ = some (.int .i64 3) := by rw [cell_of_row _ _ _ _ _ _ hcc.out]; rfl
  have x2 : w10.cell? ⟨w7.heap.size + 1, 2, none⟩ = some (.int .i64 101) := by rw [cell_of_row _ _ _ _ _ _ hcc.out]; rfl
  have x3 : w10.cell? ⟨w7.heap.size + 1, 3, none⟩ = some (.int .i64 9) := by rw [cell_of_row _ _ _ _ _ _ hcc.out]; rfl
  have x4 : w10.cell? ⟨w7.heap.size + 1, 4, none⟩ = some (.bool true) := by rw [cell_of_row _ _ _ _ _ _ hcc.out]; rfl
  have y0 : w10.cell? ⟨w5.heap.size, 0, none⟩ = some (.int .i64 100) := by rw [cell_of_row _ _ _ _ _ _ ha.out]; rfl
  have y1 : w10.cell? ⟨w5.heap.size, 1, none⟩ = some (.int .i64 5) := by rw [cell_of_row _ _ _ _ _ _ ha.out]; rfl
  have y2 : w10.cell? ⟨w5.heap.size, 2, none⟩ = some (.bool false) := by rw [cell_of_row _ _ _ _ _ _ ha.out]; rfl
  have y3 : w10.cell? ⟨w5.heap.size, 3, none⟩ = some (.slice PA 1 cA) := by rw [cell_of_row _ _ _ _ _ _ ha.out]; rfl
  go_wp2_with (refine wpList_load_midG (by rfl) 25 (.tmp 3) (by rfl) w3.heap.size 0 (by rfl) (slC ⟨3, 100, 2, r⟩) _ (row_range hs.out) Tryd.underlying25 (by rfl) pl.out ?_)
  clear x0 x1 x2 x3 x4 y0 y1 y2 y3
  refine (V3.out _ _ PA cA rfl HB hcA hda.out).mono ?_
  rintro e w11 ⟨rfl, hb⟩
  have hs_ := Lib.hid ((hb.block _ (Array.getElem?_eq_some_iff.1 hs.out).1).trans hs.out)
  clear hs
  have hs := hs_
  clear hs_
  have ha_ := Lib.hid ((hb.block _ (Array.getElem?_eq_some_iff.1 ha.out).1).trans ha.out)
  clear ha
  have ha := ha_
  clear ha_
  have hbb_ := Lib.hid ((hb.block _ (Array.getElem?_eq_some_iff.1 hbb.out).1).trans hbb.out)
  clear hbb
  have hbb := hbb_
  clear hbb_
  have hcc_ := Lib.hid ((hb.block _ (Array.getElem?_eq_some_iff.1 hcc.out).1).trans hcc.out)
  clear hcc
  have hcc := hcc_
  clear hcc_
  have hff_ := Lib.hid ((hb.block _ (Array.getElem?_eq_some_iff.1 hff.out).1).trans hff.out)
  clear hff
  have hff := hff_
  clear hff_
  have hda_ := Lib.hid (hda.out.below hb)
  clear hda
  have hda := hda_
  clear hda_
  have hdb_ := Lib.hid (hdb.out.below hb)
  clear hdb
  have hdb := hdb_
  clear hdb_
  replace HB := HB.trans (hb.mono HB.size)
  clear hb
  have x0 : w11.cell? ⟨w7.heap.size + 1, 0, none⟩ = some (.int .i64 0) := by rw [cell_of_row _ _ _ _ _ _ hcc.out]; rfl
  have x1 : w11.cell? ⟨w7.heap.size + 1, 1, none⟩ = some (.int .i64 3) := by rw [cell_of_row _ _ _ _ _ _ hcc.out]; rfl
  have x2 : w11.cell? ⟨w7.heap.size + 1, 2, none⟩ = some (.int .i64 101) := by rw [cell_of_row _ _ _ _ _ _ hcc.out]; rfl
  have x3 : w11.cell? ⟨w7.heap.size + 1, 3, none⟩ = some (.int .i64 9) := by rw [cell_of_row _ _ _ _ _ _ hcc.out]; rfl
  have x4 : w11.cell? ⟨w7.heap.size + 1, 4, none⟩ = some (.bool true) := by rw [cell_of_row _ _ _ _ _ _ hcc.out]; rfl
  have y0 : w11.cell? ⟨w5.heap.size, 0, none⟩ = some (.int .i64 100) := by rw [cell_of_row _ _ _ _ _ _ ha.out]; rfl
  have y1 : w11.cell? ⟨w5.heap.size, 1, none⟩ = some (.int .i64 5) := by rw [cell_of_row _ _ _ _ _ _ ha.out]; rfl
  have y2 : w11.cell? ⟨w5.heap.size, 2, none⟩ = some (.bool false) := by rw [cell_of_row _ _ _ _ _ _ ha.out]; rfl
  have y3 : w11.cell? ⟨w5.heap.size, 3, none⟩ = some (.slice PA 1 cA) := by rw [cell_of_row _ _ _ _ _ _ ha.out]; rfl
  go_wp2_with (refine wpList_load_midG (by rfl) 25 (.tmp 3) (by rfl) w3.heap.size 0 (by rfl) (slC ⟨3, 100, 2, r⟩) _ (row_range hs.out) Tryd.underlying25 (by rfl) pl.out ?_)
  clear x0 x1 x2 x3 x4 y0 y1 y2 y3
  refine (V4.out _ _ PA cA rfl HB hcA hda.out).mono ?_
  rintro e w12 ⟨rfl, hb⟩
  have hs_ := Lib.hid ((hb.block _ (Array.getElem?_eq_some_iff.1 hs.out).1).trans hs.out)
  clear hs
  have hs := hs_
  clear hs_
  have ha_ := Lib.hid ((hb.block _ (Array.getElem?_eq_some_iff.1 ha.out).1).trans ha.out)
  clear ha
  have ha := ha_
  clear ha_
  have hbb_ := Lib.hid ((hb.block _ (Array.getElem?_eq_some_iff.1 hbb.out).1).trans hbb.out)
  clear hbb
  have hbb := hbb_
  clear hbb_
  have hcc_ := Lib.hid ((hb.block _ (Array.getElem?_eq_some_iff.1 hcc.out).1).trans hcc.out)
  clear hcc
  have hcc := hcc_
  clear hcc_
  have hff_ := Lib.hid ((hb.block _ (Array.getElem?_eq_some_iff.1 hff.out).1).trans hff.out)
  clear hff
  have hff := hff_
  clear hff_
  have hda_ := Lib.hid (hda.out.below hb)
  clear hda
  have hda := hda_
  clear hda_
  have hdb_ := Lib.hid (hdb.out.below hb)
  clear hdb
  have hdb := hdb_
  clear hdb_
  replace HB := HB.trans (hb.mono HB.size)
  clear hb
  go_wp2_with (refine wpList_load_midG (by rfl) 25 (.tmp 3) (by rfl) w3.heap.size 0 (by rfl) (slC ⟨3, 100, 2, r⟩) _ (row_range hs.out) Tryd.underlying25 (by rfl) pl.out ?_)
  refine (V5.out _ HB).mono ?_
  rintro e w13 ⟨rfl, hb⟩
  have hs_ := Lib.hid ((hb.block _ (Array.getElem?_eq_some_iff.1 hs.out).1).trans hs.out)
  clear hs
  have hs := hs_
  clear hs_
  have ha_ := Lib.hid ((hb.block _ (Array.getElem?_eq_some_iff.1 ha.out).1).trans ha.out)
  clear ha
  have ha := ha_
  clear ha_
  have hbb_ := Lib.hid ((hb.block _ (Array.getElem?_eq_some_iff.1 hbb.out).1).trans hbb.out)
  clear hbb
  have hbb := hbb_
  clear hbb_
  have hcc_ := Lib.hid ((hb.block _ (Array.getElem?_eq_some_iff.1 hcc.out).1).trans hcc.out)
  clear hcc
  have hcc := hcc_
  clear hcc_
  have hff_ := Lib.hid ((hb.block _ (Array.getElem?_eq_some_iff.1 hff.out).1).trans hff.out)
  clear hff
  have hff := hff_
  clear hff_
  have hda_ := Lib.hid (hda.out.below hb)
  clear hda
  have hda := hda_
  clear hda_
  have hdb_ := Lib.hid (hdb.out.below hb)
  clear hdb
  have hdb := hdb_
  clear hdb_
  replace HB := HB.trans (hb.mono HB.size)
  clear hb
  go_wp2_with (refine wpList_load_midG (by rfl) 25 (.tmp 3) (by rfl) w3.heap.size 0 (by rfl) (slC ⟨3, 100, 2, r⟩) _ (row_range hs.out) Tryd.underlying25 (by rfl) pl.out ?_)
  refine (V6.out _ HB).mono ?_
  rintro e w14 ⟨rfl, hb⟩
  have hs_ := Lib.hid ((hb.block _ (Array.getElem?_eq_some_iff.1 hs.out).1).trans hs.out)
  clear hs
  have hs := hs_
  clear hs_
  have ha_ := Lib.hid ((hb.block _ (Array.getElem?_eq_some_iff.1 ha.out).1).trans ha.out)
  clear ha
  have ha := ha_
  clear ha_
  have hbb_ := Lib.hid ((hb.block _ (Array.getElem?_eq_some_iff.1 hbb.out).1).trans hbb.out)
  clear hbb
  have hbb := hbb_
  clear hbb_
  have hcc_ := Lib.hid ((hb.block _ (Array.getElem?_eq_some_iff.1 hcc.out).1).trans hcc.out)
  clear hcc
  have hcc := hcc_
  clear hcc_
  have hff_ := Lib.hid ((hb.block _ (Array.getElem?_eq_some_iff.1 hff.out).1).trans hff.out)
  clear hff
  have hff := hff_
  clear hff_
  have hda_ := Lib.hid (hda.out.below hb)
  clear hda
  have hda := hda_
  clear hda_
  have hdb_ := Lib.hid (hdb.out.below hb)
  clear hdb
  have hdb := hdb_
  clear hdb_
  replace HB := HB.trans (hb.mono HB.size)
  clear hb
  go_wp2_with fail
  have hS16 : Hid (∀ V, Below w14.heap.size w14 V → V.rangeAt w3.heap.size 0 (slC ⟨3, 100, 2, r⟩) ∧ V.cell? ⟨w7.heap.size + 1, 0, none⟩ = some (.int .i64 0) ∧ V.cell? ⟨w7.heap.size + 1, 1, none⟩ = some (.int .i64 3) ∧ V.cell? ⟨w7.heap.size + 1, 2, none⟩ = some (.int .i64 101) ∧ V.cell? ⟨w7.heap.size + 1, 3, none⟩ = some (.int .i64 9) ∧ V.cell? ⟨w7.heap.size + 1, 4, none⟩ = some (.bool true)) := Lib.hid fun V hV => by
    have h1 := (hV.block _ (Array.getElem?_eq_some_iff.1 hs.out).1).trans hs.out
    have h2 := (hV.block _ (Array.getElem?_eq_some_iff.1 hcc.out).1).trans hcc.out
    exact ⟨row_range h1, by rw [cell_of_row _ _ _ _ _ _ h2]; rfl, by rw [cell_of_row _ _ _ _ _ _ h2]; rfl, by rw [cell_of_row _ _ _ _ _ _ h2]; rfl, by rw [cell_of_row _ _ _ _ _ _ h2]; rfl, by rw [cell_of_row _ _ _ _ _ _ h2]; rfl⟩
  have HB16 : Below w14.heap.size w14 w14.drew := (Below.refl _ _).drew
  obtain ⟨z65, hmk⟩ := run_make65 w14.drew
  refine wp_region_held_drew (S := fun w' => w'.rangeAt w3.heap.size 0 (slC ⟨3, 100, 2, r⟩) ∧ w'.cell? ⟨w7.heap.size + 1, 0, none⟩ = some (.int .i64 0) ∧ w'.cell? ⟨w7.heap.size + 1, 1, none⟩ = some (.int .i64 3) ∧ w'.cell? ⟨w7.heap.size + 1, 2, none⟩ = some (.int .i64 101) ∧ w'.cell? ⟨w7.heap.size + 1, 3, none⟩ = some (.int .i64 9) ∧ w'.cell? ⟨w7.heap.size + 1, 4, none⟩ = some (.bool true)) (by kernel_rfl) (by exact hS16.out _ HB16) (fun hHeld => ?_)
  refine wpAnyH_take (i := 0) (oi := { dst := some 104, op := Op.load 25 (Operand.tmp 3), type := 25, pos := "law.go:36", after := #[], guard := none }) (v := _) rfl (by kernel_rfl) (by kernel_rfl) (by kernel_rfl) (fun _ _ _ h => h) (yieldsIf_load_mid (by rfl) 25 (.tmp 3) rfl w3.heap.size 0 rfl (slC ⟨3, 100, 2, r⟩) _ (fun _ h => h.1) Tryd.underlying25 rfl pl.out) hHeld ?_
  try simp only [Act.put, List.setIfInBounds_toArray, List.set_cons_zero, List.set_cons_succ]
  refine wpAnyH_take (i := 1) (oi := { dst := some 105, op := Op.load 27 (Operand.tmp 9), type := 27, pos := "law.go:36", after := #[], guard := none }) (v := ?_) rfl (by kernel_rfl) (by kernel_rfl) (by kernel_rfl) (fun _ _ _ h => h) (Or.inl ⟨by rfl, ?hy1⟩) hHeld ?rest1
  case hy1 =>
    intro w hSw
    try dsimp only at hSw
    go_simp
    try with_reducible rfl
  try simp only [Act.put, List.setIfInBounds_toArray, List.set_cons_zero, List.set_cons_succ]
  refine wpAnyH_ready (rs := [2]) (by kernel_rfl) (by simp) (AllReadyH.cons (o := { dst := some 106, op := Op.makeSlice 28 (Operand.const (Value.int IntKind.i64 65)) (Operand.const (Value.int IntKind.i64 65)), type := 28, pos := "law.go:36", after := #[], guard := none }) rfl (fun K hK => ?_) AllReadyH.nil)
  go_simp
  have HB9 := HB16.alloc HB16.size (.cells z65 33)
  clear HB16
  have HB16 := HB9
  clear HB9
  refine hK.out _ _ (by exact hS16.out _ HB16) (fun hHeld' => ?_)
  clear hK K hHeld
  have hHeld := hHeld'
  clear hHeld'
  try simp only [Act.put, List.setIfInBounds_toArray, List.set_cons_zero, List.set_cons_succ]
  refine wpAnyH_ready (rs := [3]) (by kernel_rfl) (by simp) (AllReadyH.cons (o := { dst := some 107, op := Op.call { callee := Callee.value (Operand.func 13), args := #[Operand.tmp 104, Operand.tmp 105, Operand.tmp 106, Operand.const (Value.int IntKind.i64 0)], argTypes := #[25, 27, 28, 3] }, type := 36, pos := "law.go:36", after := #[{ on := 0, ground := Ground.data }, { on := 1, ground := Ground.data }, { on := 2, ground := Ground.data }], guard := none }) rfl (fun K hK => ?_) AllReadyH.nil)
  go_simp
  go_at_call 13
  refine (V7.out _ _).mono ?_
  rintro e w16 ⟨rfl, hb⟩
  have HB9 := HB16.trans (hb.mono HB16.size)
  clear hb HB16
  have HB16 := HB9
  clear HB9
  refine hK.out _ _ (by exact hS16.out _ HB16) (fun hHeld' => ?_)
  clear hK K hHeld
  have hHeld := hHeld'
  clear hHeld'
  try simp only [Act.put, List.setIfInBounds_toArray, List.set_cons_zero, List.set_cons_succ]
  refine wpAnyH_take (i := 4) (oi := { dst := some 103, op := Op.move (Operand.tmp 107), type := 36, pos := "law.go:36", after := #[{ on := 3, ground := Ground.data }], guard := none }) (v := ?_) rfl (by kernel_rfl) (by kernel_rfl) (by kernel_rfl) (fun _ _ _ h => h) (Or.inl ⟨by rfl, ?hy4⟩) hHeld ?rest4
  case hy4 =>
    intro w hSw
    try dsimp only at hSw
    go_simp
    try with_reducible rfl
  try simp only [Act.put, List.setIfInBounds_toArray, List.set_cons_zero, List.set_cons_succ]
  refine wpAnyH_take (i := 5) (oi := { dst := some 108, op := Op.extract (Operand.tmp 103) 0, type := 3, pos := "law.go:36", after := #[{ on := 4, ground := Ground.data }], guard := none }) (v := ?_) rfl (by kernel_rfl) (by kernel_rfl) (by kernel_rfl) (fun _ _ _ h => h) (Or.inl ⟨by rfl, ?hy5⟩) hHeld ?rest5
  case hy5 =>
    intro w hSw
    try dsimp only at hSw
    go_simp
    try with_reducible rfl
  try simp only [Act.put, List.setIfInBounds_toArray, List.set_cons_zero, List.set_cons_succ]
  refine wpAnyH_take (i := 6) (oi := { dst := some 109, op := Op.extract (Operand.tmp 103) 1, type := 35, pos := "law.go:36", after := #[{ on := 4, ground := Ground.data }, { on := 7, ground := Ground.gcOnly Departure.lateStores }], guard := none }) (v := ?_) rfl (by kernel_rfl) (by kernel_rfl) (by kernel_rfl) (fun _ _ _ h => h) (Or.inl ⟨by rfl, ?hy6⟩) hHeld ?rest6
  case hy6 =>
    intro w hSw
    try dsimp only at hSw
    go_simp
    try with_reducible rfl
  try simp only [Act.put, List.setIfInBounds_toArray, List.set_cons_zero, List.set_cons_succ]
  refine wpAnyH_take (i := 7) (oi := { dst := some 20, op := Op.assign (Operand.tmp 108), type := 3, pos := "law.go:36", after := #[{ on := 5, ground := Ground.data }, { on := 3, ground := Ground.chain }, { on := 0, ground := Ground.phase }, { on := 1, ground := Ground.phase }, { on := 2, ground := Ground.phase }, { on := 3, ground := Ground.phase }, { on := 4, ground := Ground.phase }, { on := 5, ground := Ground.phase }, { on := 6, ground := Ground.textOnly Departure.lateStores }], guard := none }) (v := ?_) rfl (by kernel_rfl) (by kernel_rfl) (by kernel_rfl) (fun _ _ _ h => h) (Or.inl ⟨by rfl, ?hy7⟩) hHeld ?rest7
  case hy7 =>
    intro w hSw
    try dsimp only at hSw
    go_simp
    try with_reducible rfl
  try simp only [Act.put, List.setIfInBounds_toArray, List.set_cons_zero, List.set_cons_succ]
  refine wpAnyH_take (i := 8) (oi := { dst := some 21, op := Op.assign (Operand.tmp 109), type := 35, pos := "law.go:36", after := #[{ on := 6, ground := Ground.data }, { on := 7, ground := Ground.chain }, { on := 0, ground := Ground.phase }, { on := 1, ground := Ground.phase }, { on := 2, ground := Ground.phase }, { on := 3, ground := Ground.phase }, { on := 4, ground := Ground.phase }, { on := 5, ground := Ground.phase }, { on := 6, ground := Ground.phase }, { on := 7, ground := Ground.phase }], guard := none }) (v := ?_) rfl (by kernel_rfl) (by kernel_rfl) (by kernel_rfl) (fun _ _ _ h => h) (Or.inl ⟨by rfl, ?hy8⟩) hHeld ?rest8
  case hy8 =>
    intro w hSw
    try dsimp only at hSw
    go_simp
    try with_reducible rfl
  try simp only [Act.put, List.setIfInBounds_toArray, List.set_cons_zero, List.set_cons_succ]
  refine wpAnyH_done (by kernel_rfl) ?_ _
  have hb := HB16
  have hs_ := Lib.hid ((hb.block _ (Array.getElem?_eq_some_iff.1 hs.out).1).trans hs.out)
  clear hs
  have hs := hs_
  clear hs_
  have ha_ := Lib.hid ((hb.block _ (Array.getElem?_eq_some_iff.1 ha.out).1).trans ha.out)
  clear ha
  have ha := ha_
  clear ha_
  have hbb_ := Lib.hid ((hb.block _ (Array.getElem?_eq_some_iff.1 hbb.out).1).trans hbb.out)
  clear hbb
  have hbb := hbb_
  clear hbb_
  have hcc_ := Lib.hid ((hb.block _ (Array.getElem?_eq_some_iff.1 hcc.out).1).trans hcc.out)
  clear hcc
  have hcc := hcc_
  clear hcc_
  have hff_ := Lib.hid ((hb.block _ (Array.getElem?_eq_some_iff.1 hff.out).1).trans hff.out)
  clear hff
  have hff := hff_
  clear hff_
  have hda_ := Lib.hid (hda.out.below hb)
  clear hda
  have hda := hda_
  clear hda_
  have hdb_ := Lib.hid (hdb.out.below hb)
  clear hdb
  have hdb := hdb_
  clear hdb_
  replace HB := HB.trans (hb.mono HB.size)
  clear hb HB16 hmk hHeld hS16
  have x0 : w16.cell? ⟨w7.heap.size + 1, 0, none⟩ = some (.int .i64 0) := by rw [cell_of_row _ _ _ _ _ _ hcc.out]; rfl
  have x1 : w16.cell? ⟨w7.heap.size + 1, 1, none⟩ = some (.int .i64 3) := by rw [cell_of_row _ _ _ _ _ _ hcc.out]; rfl
  have x2 : w16.cell? ⟨w7.heap.size + 1, 2, none⟩ = some (.int .i64 101) := by rw [cell_of_row _ _ _ _ _ _ hcc.out]; rfl
  have x3 : w16.cell? ⟨w7.heap.size + 1, 3, none⟩ = some (.int .i64 9) := by rw [cell_of_row _ _ _ _ _ _ hcc.out]; rfl
  have x4 : w16.cell? ⟨w7.heap.size + 1, 4, none⟩ = some (.bool true) := by rw [cell_of_row _ _ _ _ _ _ hcc.out]; rfl
  go_wp2_with (refine wpList_load_midG (by rfl) 25 (.tmp 3) (by rfl) w3.heap.size 0 (by rfl) (slC ⟨3, 100, 2, r⟩) _ (row_range hs.out) Tryd.underlying25 (by rfl) pl.out ?_)
  clear x0 x1 x2 x3 x4
  refine (V8.out _ HB).mono ?_
  rintro e w15 ⟨rfl, hb⟩
  have hs_ := Lib.hid ((hb.block _ (Array.getElem?_eq_some_iff.1 hs.out).1).trans hs.out)
  clear hs
  have hs := hs_
  clear hs_
  have ha_ := Lib.hid ((hb.block _ (Array.getElem?_eq_some_iff.1 ha.out).1).trans ha.out)
  clear ha
  have ha := ha_
  clear ha_
  have hbb_ := Lib.hid ((hb.block _ (Array.getElem?_eq_some_iff.1 hbb.out).1).trans hbb.out)
  clear hbb
  have hbb := hbb_
  clear hbb_
  have hcc_ := Lib.hid ((hb.block _ (Array.getElem?_eq_some_iff.1 hcc.out).1).trans hcc.out)
  clear hcc
  have hcc := hcc_
  clear hcc_
  have hff_ := Lib.hid ((hb.block _ (Array.getElem?_eq_some_iff.1 hff.out).1).trans hff.out)
  clear hff
  have hff := hff_
  clear hff_
  have hda_ := Lib.hid (hda.out.below hb)
  clear hda
  have hda := hda_
  clear hda_
  have hdb_ := Lib.hid (hdb.out.below hb)
  clear hdb
  have hdb := hdb_
  clear hdb_
  replace HB := HB.trans (hb.mono HB.size)
  clear hb
  go_wp2_with fail
  refine (K1.out _).mono ?_
  rintro e w16 ⟨rfl, hb⟩
  have hs_ := Lib.hid ((hb.block _ (Array.getElem?_eq_some_iff.1 hs.out).1).trans hs.out)
  clear hs
  have hs := hs_
  clear hs_
  have ha_ := Lib.hid ((hb.block _ (Array.getElem?_eq_some_iff.1 ha.out).1).trans ha.out)
  clear ha
  have ha := ha_
  clear ha_
  have hbb_ := Lib.hid ((hb.block _ (Array.getElem?_eq_some_iff.1 hbb.out).1).trans hbb.out)
  clear hbb
  have hbb := hbb_
  clear hbb_
  have hcc_ := Lib.hid ((hb.block _ (Array.getElem?_eq_some_iff.1 hcc.out).1).trans hcc.out)
  clear hcc
  have hcc := hcc_
  clear hcc_
  have hff_ := Lib.hid ((hb.block _ (Array.getElem?_eq_some_iff.1 hff.out).1).trans hff.out)
  clear hff
  have hff := hff_
  clear hff_
  have hda_ := Lib.hid (hda.out.below hb)
  clear hda
  have hda := hda_
  clear hda_
  have hdb_ := Lib.hid (hdb.out.below hb)
  clear hdb
  have hdb := hdb_
  clear hdb_
  replace HB := HB.trans (hb.mono HB.size)
  clear hb
  go_wp2_with fail
  refine (K2.out _).mono ?_
  rintro e w17 ⟨rfl, hb⟩
  have hs_ := Lib.hid ((hb.block _ (Array.getElem?_eq_some_iff.1 hs.out).1).trans hs.out)
  clear hs
  have hs := hs_
  clear hs_
  have ha_ := Lib.hid ((hb.block _ (Array.getElem?_eq_some_iff.1 ha.out).1).trans ha.out)
  clear ha
  have ha := ha_
  clear ha_
  have hbb_ := Lib.hid ((hb.block _ (Array.getElem?_eq_some_iff.1 hbb.out).1).trans hbb.out)
  clear hbb
  have hbb := hbb_
  clear hbb_
  have hcc_ := Lib.hid ((hb.block _ (Array.getElem?_eq_some_iff.1 hcc.out).1).trans hcc.out)
  clear hcc
  have hcc := hcc_
  clear hcc_
  have hff_ := Lib.hid ((hb.block _ (Array.getElem?_eq_some_iff.1 hff.out).1).trans hff.out)
  clear hff
  have hff := hff_
  clear hff_
  have hda_ := Lib.hid (hda.out.below hb)
  clear hda
  have hda := hda_
  clear hda_
  have hdb_ := Lib.hid (hdb.out.below hb)
  clear hdb
  have hdb := hdb_
  clear hdb_
  replace HB := HB.trans (hb.mono HB.size)
  clear hb
  go_wp2_with fail
  go_ret
  exact ⟨rfl, hB2.out.trans (HB.mono hB2.out.size)⟩
end Go.Proofs.YtnccbhndlnkboaaDoor
