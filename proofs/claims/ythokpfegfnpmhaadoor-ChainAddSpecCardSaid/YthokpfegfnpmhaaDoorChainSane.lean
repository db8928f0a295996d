/- The walk of the examples of the statements about chain. -/
import Derived.Test.YthokpfegfnpmhaaDoorChainAdd
import Derived.Lib.SlBytesConst
import Derived.Lib.QuietBelow
import Derived.BigQuiet
namespace Go.Proofs.YthokpfegfnpmhaaDoor
open Go.RowKit Cdc Sha
set_option linter.unusedVariables false
set_option linter.unusedSimpArgs false

def x0 : Lk := ⟨3, 0, hdC [], [120]⟩
def x1 : Lk := ⟨3, 1, hdC [x0], [121]⟩
def x2 : Lk := ⟨3, 1, hdC [x0], [122]⟩
def z1 : Lk := ⟨0, 1, List.replicate 32 0, []⟩
theorem ok_x0 : LkOk x0 := ⟨by simp [x0, I64], by simp [x0, I64], by simp [x0, hdC_len], by simp [x0]⟩
theorem ok_x1 : LkOk x1 := ⟨by simp [x1, I64], by simp [x1, I64], by simp [x1, hdC_len], by simp [x1]⟩
theorem ok_x2 : LkOk x2 := ⟨by simp [x2, I64], by simp [x2, I64], by simp [x2, hdC_len], by simp [x2]⟩
theorem ok_z1 : LkOk z1 := ⟨by simp [z1, I64], by simp [z1, I64], by simp [z1, hdC_len], by simp [z1]⟩
theorem okL_a : OkL [x0] := by
  have := okL_nil.snoc (x := x0) ⟨fun y hy => by simp at hy; subst hy; rfl, by simp [x0], by simp [x0], by simp [x0], by simp [x0], by simp [x0]⟩
  simpa using this
theorem okL_b : OkL [x0, x1] := by
  have := okL_a.snoc (x := x1) ⟨fun y hy => by simp at hy; subst hy; rfl, by simp [x1], by simp [x1], by simp [x1], by simp [x1], by simp [x1]⟩
  simpa using this
theorem okL_c : OkL [x0, x2] := by
  have := okL_a.snoc (x := x2) ⟨fun y hy => by simp at hy; subst hy; rfl, by simp [x2], by simp [x2], by simp [x2], by simp [x2], by simp [x2]⟩
  simpa using this
theorem bad_no {l : List Lk} {x : Lk} (h : l[0]? = some x) (hn : x.no ≠ 0) : ¬ OkL l := fun hk => hn (by simpa using (hk 0 x h).no)
theorem part_bc : partC [x0, x1] [x0, x2] = (1, true, 0) := by
  unfold partC
  rw [if_neg (by simpa using okL_b), if_neg (by simpa using okL_c), if_neg (by rintro ⟨u, v, hu, hv, hne⟩; simp at hu hv; subst hu hv; exact hne rfl)]
  have h : x1 ≠ x2 := by simp [x1, x2]
  simp [diffC, h]
theorem part_ab : partC [x0] [x0, x1] = (0, false, 0) := by
  unfold partC
  rw [if_neg (by simpa using okL_a), if_neg (by simpa using okL_b), if_neg (by rintro ⟨u, v, hu, hv, hne⟩; simp at hu hv; subst hu hv; exact hne rfl)]
  simp [diffC]
theorem part_na : partC [] [x0] = (0, false, 0) := by
  unfold partC
  rw [if_neg (by simpa using okL_nil), if_neg (by simpa using okL_a), if_neg (by rintro ⟨u, v, hu, hv, hne⟩; simp at hu)]
  simp [diffC]
theorem at_one (w : World) (x : UInt8) (v : Value) (hv : v = by1 x) (k : Nat) (hk : k = w.heap.size) (t : TypeId) (fr : Nat × Nat) : AtO (w.alloc (.cells #[v] t fr)) (some ⟨k, 0, none⟩) [x] := by
  subst hv hk
  intro j y hj
  match j, hj with
  | 0, hj =>
    cases hj
    refine ⟨w.heap.size, 0, rfl, ?_⟩
    rw [cell_of_row _ _ _ _ _ _ (heap_alloc_new w _)]
    rfl
theorem all_two {p : Lk → Prop} {x y : Lk} (hx : p x) (hy : p y) : ∀ z ∈ [x, y], p z := fun z hz => by
  simp at hz
  rcases hz with rfl | rfl
  · exact hx
  · exact hy
theorem all_one {p : Lk → Prop} {x : Lk} (hx : p x) : ∀ z ∈ [x], p z := fun z hz => by
  simp at hz
  subst hz
  exact hx
theorem all_none {p : Lk → Prop} : ∀ z ∈ ([] : List Lk), p z := fun z hz => by simp at hz
theorem LsAt.tail {w : World} {b o : Nat} {x : Lk} {l : List Lk} (h : LsAt w (some ⟨b, o, none⟩) (x :: l)) : LsAt w (some ⟨b, o + 35, none⟩) l := fun i y hy => by
  obtain ⟨b', o', D, hA, hr, hd⟩ := h (i + 1) y (by simpa using hy)
  cases hA
  exact ⟨b, o + 35, D, rfl, by rw [show o + 35 + i * 35 = o + (i + 1) * 35 by omega]; exact hr, hd⟩
theorem lsAt_one (w : World) (x : Lk) (A : Option Addr) (n c k : Nat) (hk : k = w.heap.size) (hp : x.prev.length = 32) (hd : DatAt (w.alloc (.cells (lkA x (.slice A n c)) 37)) (.slice A n c) x.data) : LsAt (w.alloc (.cells (lkA x (.slice A n c)) 37)) (some ⟨k, 0, none⟩) [x] := fun i y hy => by
  subst hk
  match i, hy with
  | 0, hy =>
    cases hy
    refine ⟨w.heap.size, 0, _, rfl, fun j v hj => ?_, hd⟩
    rw [cell_of_row _ _ _ _ _ _ (heap_alloc_new w _)]
    simpa [lkA] using hj
theorem own_lit (w : World) (xs : List UInt8) (n k : Nat) (hn : xs.length = n) (hk : k = w.heap.size) (hm : n ≤ 1000) (C : Array Value) (hC : C = (xs.map by1).toArray) : Own (w.alloc (.cells C 5)) (.slice (some ⟨k, 0, none⟩) n n) xs := by
  subst hk hC hn
  refine ⟨by simp, .inr ⟨w.heap.size, xs.length, _, rfl, Nat.zero_le _, heap_alloc_new w _, Nat.le_refl _, by simp [maxLen]; omega, by simp, by simp [List.take_of_length_le]⟩⟩
/-- the text of the first link -/
def txH : List UInt8 := [3, 4, 1, 6, 1, 0, 2, 32]
def txT : List UInt8 := [2, 1, 120]
theorem enc_x0 : encB (lV (lkL x0)) = (txH ++ hdC []) ++ txT := by
  have h32 : (hdC []).length = 32 := hdC_len _
  rw [encB_lk]
  simp [lV, lkL, iV, tV, enc, encL, x0, uz, num_lt, ByteArray.size, h32, txH, txT]
theorem hdC_x0 : hdC [x0] = tgd linkB.data.toList ((txH ++ hdC []) ++ txT) := by
  rw [← enc_x0]
  rfl
theorem lsAt_nil (w : World) (A : Option Addr) : LsAt w A [] := fun i x h => by simp at h

set_option maxRecDepth 100000 in
set_option maxHeartbeats 8000000 in
theorem csane_any (w : World) (hL : Laid w) :
    Calls Tryd.prog 13 #[] w fun e w' => e = .returned (.bool true) ∧ Below w.heap.size w w' := by
  have kc := fun (w : World) (C : Array Value) (n c : Nat) => Lib.run_convert_bytes_const (P := Tryd.prog) w 23 5 C n c Tryd.underlying23 Tryd.underlying5
  replace hL := Lib.hid hL
  go_enter Tryd.func13, Tryd.ntmps13
  go_wp2_with fail
  have HB := Below.refl w.heap.size w
  have hlit := Lib.hid (at_one w 120 (.int .u8 120) rfl w.heap.size rfl 5 (1, 2))
  have hb9 : Below w.heap.size w (w.alloc (.cells #[.int .u8 120] 5 (1, 2))) := (Below.refl _ _).alloc (Nat.le_refl _) _
  have HB := HB.trans (hb9.mono HB.size)
  clear hb9
  refine (add_ok [] 0 none 0 3 [120] (some ⟨w.heap.size, 0, none⟩) 1 1 _ rfl (by decide) (by omega) (fun _ => rfl) (lsAt_nil _ _) all_none okL_nil rfl hlit.out ⟨by omega, by omega, fun y hy => by simp at hy <;> first | (subst hy; rfl) | skip, by omega⟩ (hL.out.below HB)).mono ?_
  rintro e w1 ⟨A1, c1, rfl, hha1, hha2, ha, hb⟩
  replace HB := HB.trans (hb.mono HB.size)
  replace ha := Lib.hid ha
  clear hb
  clear hlit
  go_wp2_with fail
  have hlit := Lib.hid (at_one w1 121 (.int .u8 121) rfl w1.heap.size rfl 5 (1, 2))
  have hb9 : Below w1.heap.size w1 (w1.alloc (.cells #[.int .u8 121] 5 (1, 2))) := (Below.refl _ _).alloc (Nat.le_refl _) _
  have HB := HB.trans (hb9.mono HB.size)
  replace ha := Lib.hid (ha.out.below hb9)
  clear hb9
  refine (add_ok [x0] 1 A1 c1 3 [121] (some ⟨w1.heap.size, 0, none⟩) 1 1 _ rfl (by decide) (by omega) (fun e => by subst e; exact absurd (ha.out 0 x0 rfl) (by rintro ⟨_, _, _, h, _⟩; cases h)) ha.out (all_one ok_x0) okL_a rfl hlit.out ⟨by omega, by omega, fun y hy => by simp at hy <;> first | (subst hy; rfl) | skip, by omega⟩ (hL.out.below HB)).mono ?_
  rintro e w2 ⟨A2, c2, rfl, hhbb1, hhbb2, hbb, hb⟩
  replace HB := HB.trans (hb.mono HB.size)
  replace ha := Lib.hid (ha.out.below hb)
  replace hbb := Lib.hid hbb
  clear hb
  clear hlit
  go_wp2_with fail
  have hlit := Lib.hid (at_one w2 122 (.int .u8 122) rfl w2.heap.size rfl 5 (1, 2))
  have hb9 : Below w2.heap.size w2 (w2.alloc (.cells #[.int .u8 122] 5 (1, 2))) := (Below.refl _ _).alloc (Nat.le_refl _) _
  have HB := HB.trans (hb9.mono HB.size)
  replace ha := Lib.hid (ha.out.below hb9)
  replace hbb := Lib.hid (hbb.out.below hb9)
  clear hb9
  refine (add_ok [x0] 1 A1 c1 3 [122] (some ⟨w2.heap.size, 0, none⟩) 1 1 _ rfl (by decide) (by omega) (fun e => by subst e; exact absurd (ha.out 0 x0 rfl) (by rintro ⟨_, _, _, h, _⟩; cases h)) ha.out (all_one ok_x0) okL_a rfl hlit.out ⟨by omega, by omega, fun y hy => by simp at hy <;> first | (subst hy; rfl) | skip, by omega⟩ (hL.out.below HB)).mono ?_
  rintro e w3 ⟨A3, c3, rfl, hhc1, hhc2, hc, hb⟩
  replace HB := HB.trans (hb.mono HB.size)
  replace ha := Lib.hid (ha.out.below hb)
  replace hbb := Lib.hid (hbb.out.below hb)
  replace hc := Lib.hid hc
  clear hb
  clear hlit
  go_wp2_with fail
  refine (add_err [] 0 none 0 24 none 0 0 _ rfl (by decide) (by omega) (lsAt_nil _ _) all_none okL_nil (fun h => by have := h.2.1; omega) (hL.out.below HB)).mono ?_
  rintro e w4 ⟨rfl, hb⟩
  replace HB := HB.trans (hb.mono HB.size)
  replace ha := Lib.hid (ha.out.below hb)
  replace hbb := Lib.hid (hbb.out.below hb)
  replace hc := Lib.hid (hc.out.below hb)
  clear hb
  go_wp2_with fail
  refine (add_err [x0] 1 A1 c1 4 none 0 0 _ rfl (by decide) (by omega) ha.out (all_one ok_x0) okL_a (fun h => by have := h.2.2.1 x0 rfl; simp [x0] at this) (hL.out.below HB)).mono ?_
  rintro e w5 ⟨rfl, hb⟩
  replace HB := HB.trans (hb.mono HB.size)
  replace ha := Lib.hid (ha.out.below hb)
  replace hbb := Lib.hid (hbb.out.below hb)
  replace hc := Lib.hid (hc.out.below hb)
  clear hb
  go_wp2_with fail
  have hpt := part_any [x0, x1] [x0, x2] 2 2 A2 A3 c2 c3 _ rfl rfl (by decide) (by decide) (by omega) (by omega) hbb.out hc.out (all_two ok_x0 ok_x1) (all_two ok_x0 ok_x2) (hL.out.below HB)
  rw [part_bc] at hpt
  refine (hpt).mono ?_
  rintro e w6 ⟨rfl, hb⟩
  replace HB := HB.trans (hb.mono HB.size)
  replace ha := Lib.hid (ha.out.below hb)
  replace hbb := Lib.hid (hbb.out.below hb)
  replace hc := Lib.hid (hc.out.below hb)
  clear hb
  clear hpt
  go_wp2_with fail
  have hpt := part_any [x0] [x0, x1] 1 2 A1 A2 c1 c2 _ rfl rfl (by decide) (by decide) (by omega) (by omega) ha.out hbb.out (all_one ok_x0) (all_two ok_x0 ok_x1) (hL.out.below HB)
  rw [part_ab] at hpt
  refine (hpt).mono ?_
  rintro e w7 ⟨rfl, hb⟩
  replace HB := HB.trans (hb.mono HB.size)
  replace ha := Lib.hid (ha.out.below hb)
  replace hbb := Lib.hid (hbb.out.below hb)
  replace hc := Lib.hid (hc.out.below hb)
  clear hb
  clear hpt
  go_wp2_with fail
  have hpt := part_any [] [x0] 0 1 none A1 0 c1 _ rfl rfl (by decide) (by decide) (by omega) (by omega) (lsAt_nil _ _) ha.out all_none (all_one ok_x0) (hL.out.below HB)
  rw [part_na] at hpt
  refine (hpt).mono ?_
  rintro e w8 ⟨rfl, hb⟩
  replace HB := HB.trans (hb.mono HB.size)
  replace ha := Lib.hid (ha.out.below hb)
  replace hbb := Lib.hid (hbb.out.below hb)
  replace hc := Lib.hid (hc.out.below hb)
  clear hb
  clear hpt
  go_wp2_with fail
  obtain ⟨b2, o2, _, hA2, _, _⟩ := hbb.out 0 x0 rfl
  subst hA2
  have hck := check_any8 [] 0 none 0 _ rfl (by decide) (by omega) (lsAt_nil _ _) all_none (hL.out.below HB)
  rw [ckC_ok okL_nil] at hck
  refine (hck).mono ?_
  rintro e w9 ⟨rfl, hb⟩
  replace HB := HB.trans (hb.mono HB.size)
  replace ha := Lib.hid (ha.out.below hb)
  replace hbb := Lib.hid (hbb.out.below hb)
  replace hc := Lib.hid (hc.out.below hb)
  clear hb
  clear hck
  go_wp2_with fail
  have hck := check_any8 [x0, x1] 2 (some ⟨b2, o2, none⟩) c2 _ rfl (by decide) (by omega) hbb.out (all_two ok_x0 ok_x1) (hL.out.below HB)
  rw [ckC_ok okL_b] at hck
  refine (hck).mono ?_
  rintro e w10 ⟨rfl, hb⟩
  replace HB := HB.trans (hb.mono HB.size)
  replace ha := Lib.hid (ha.out.below hb)
  replace hbb := Lib.hid (hbb.out.below hb)
  replace hc := Lib.hid (hc.out.below hb)
  clear hb
  clear hck
  go_wp2_with fail
  change Calls _ _ _ (w10.alloc (.cells (lkA z1 (.slice none 0 0)) 37)) _
  have hz := Lib.hid (lsAt_one w10 z1 none 0 0 w10.heap.size rfl ok_z1.p32 ⟨none, 0, rfl, by decide, by omega, fun j x hx => by simp [z1] at hx⟩)
  have hb9 : Below w10.heap.size w10 (w10.alloc (.cells (lkA z1 (.slice none 0 0)) 37)) := (Below.refl _ _).alloc (Nat.le_refl _) _
  have HB := HB.trans (hb9.mono HB.size)
  replace ha := Lib.hid (ha.out.below hb9)
  replace hbb := Lib.hid (hbb.out.below hb9)
  replace hc := Lib.hid (hc.out.below hb9)
  clear hb9
  have hck := check_any8 [z1] 1 (some ⟨w10.heap.size, 0, none⟩) 1 _ rfl (by decide) (by omega) hz.out (all_one ok_z1) (hL.out.below HB)
  rw [ckC_bad (bad_no rfl (by simp [z1]))] at hck
  refine (hck).mono ?_
  rintro e w11 ⟨rfl, hb⟩
  replace HB := HB.trans (hb.mono HB.size)
  replace ha := Lib.hid (ha.out.below hb)
  replace hbb := Lib.hid (hbb.out.below hb)
  replace hc := Lib.hid (hc.out.below hb)
  clear hb
  clear hck
  clear hz
  go_wp2_with fail
  have hck := check_any8 [x1] 1 (some ⟨b2, o2 + 35, none⟩) (c2 - 1) _ rfl (by decide) (by omega) hbb.out.tail (all_one ok_x1) (hL.out.below HB)
  rw [ckC_bad (bad_no rfl (by simp [x1]))] at hck
  refine (hck).mono ?_
  rintro e w12 ⟨rfl, hb⟩
  replace HB := HB.trans (hb.mono HB.size)
  replace ha := Lib.hid (ha.out.below hb)
  replace hbb := Lib.hid (hbb.out.below hb)
  replace hc := Lib.hid (hc.out.below hb)
  clear hb
  clear hck
  have hll : Hid (∀ V, Below w12.heap.size w12 V → LsAt V A1 [x0] ∧ LsAt V (some ⟨b2, o2, none⟩) [x0, x1] ∧ Laid V ∧ Below w.heap.size w V) := Lib.hid fun V h => ⟨ha.out.below h, hbb.out.below h, hL.out.below (HB.trans (h.mono HB.size)), HB.trans (h.mono HB.size)⟩
  clear ha hbb hc HB hL
  obtain ⟨p, hpp⟩ : ∃ p, hdC [] = p := ⟨_, rfl⟩
  have hp32 : p.length = 32 := by rw [← hpp]; exact hdC_len _
  have hTg : Hid (Calls Tryd.prog 40 #[.string noneB, .slice none 0 0] w12 fun e w' => e = .returned (.agg (dg p)) ∧ Below w12.heap.size w12 w') := Lib.hid (by
    rw [← hpp, hdC_nil]
    exact tagged_any noneB (by decide) [] 0 rfl (by omega) none 0 (by omega) (by omega) _ (fun j x h => by simp at h) (hll.out w12 (Below.refl _ _)).2.2.1)
  have hi5 := Lib.hid (dg_info p hp32)
  have ho5 := Lib.hid (dg_one p)
  have hr5 : Hid (32 = (dg p).size) := Lib.hid (by rw [dg_size, hp32])
  go_wp2_with fail
  refine hTg.out.mono ?_
  rintro e w13 ⟨rfl, HB⟩
  clear hTg
  go_wp2_with (first
    | (refine wpList_new_row' (by rfl) 35 (.tmp 20) (.tmp 149) (by rfl) (by rfl) (dg p) w13.heap.size (by rfl) rfl (by rfl) 35 _ hi5.out hr5.out ho5.out ?_; intro w14 hd14 hz14 hB14; replace HB := HB.trans (hB14.mono HB.size); replace hd14 := Lib.hid hd14; replace hz14 := Lib.hid hz14
       have hO1 := Lib.hid (own_lit w14 txH 8 w14.heap.size rfl rfl (by omega) #[.int .u8 3, .int .u8 4, .int .u8 1, .int .u8 6, .int .u8 1, .int .u8 0, .int .u8 2, .int .u8 32] rfl)
       have hBa : Below w14.heap.size w14 (w14.alloc (.cells #[.int .u8 3, .int .u8 4, .int .u8 1, .int .u8 6, .int .u8 1, .int .u8 0, .int .u8 2, .int .u8 32] 5)) := (Below.refl _ _).alloc (Nat.le_refl _) _
       have hR14 : Hid (∀ V, Below w14.heap.size w14 V → V.rangeAt w13.heap.size 0 (p.map by1)) := Lib.hid (fun V hV j v hj => by
         rw [cell_of_row _ _ _ _ _ _ ((hV.block w13.heap.size (by have := hz14.out; omega)).trans hd14.out)]
         simpa [dg] using hj)
       have hAt : Hid (∀ V, Below w14.heap.size w14 V → AtO V (some ⟨w13.heap.size, 0, none⟩) p) := Lib.hid (fun V hV j y hy => ⟨w13.heap.size, 0, rfl, by
         have := hR14.out V hV j (by1 y) (by rw [List.getElem?_map, hy]; rfl)
         exact this⟩))
    | (at_builtin; refine wpList_appO _ (by rfl) (.tmp 150) (.tmp 151) (by rfl) (.slice (some ⟨w14.heap.size, 0, none⟩) 8 8) txH (some ⟨w13.heap.size, 0, none⟩) 32 32 p (by rfl) (by rfl) hO1.out hp32 (hAt.out _ hBa) (by simp [txH]) ?_; intro v15 w15 ho15 hg15
       obtain ⟨A15, c15, hv15⟩ := ho15.form
       rw [show (txH ++ p).length = 40 by simp [txH, hp32]] at hv15
       subst hv15
       have hb15 : Below w14.heap.size w14 w15 := hBa.grown hg15.grown (by simp) (fun k e => by simp [Value.ownBlock] at e; omega)
       have HB14 := HB
       replace HB := HB.trans (hb15.mono HB.size)
       have hBc : Below w15.heap.size w15 (w15.alloc (.cells #[.int .u8 2, .int .u8 1, .int .u8 120] 5)) := (Below.refl _ _).alloc (Nat.le_refl _) _
       have HB15c := HB.trans (hBc.mono HB.size)
       have hO2 := Lib.hid (ho15.alloc (.cells #[.int .u8 2, .int .u8 1, .int .u8 120] 5))
       have hO3 := Lib.hid (own_lit w15 txT 3 w15.heap.size rfl rfl (by omega) #[.int .u8 2, .int .u8 1, .int .u8 120] rfl).atO
       have hl15 := Lib.hid hg15.lies)
    | (at_builtin; refine wpList_appO _ (by rfl) (.tmp 152) (.tmp 153) (by rfl) (.slice A15 40 c15) (txH ++ p) (some ⟨w15.heap.size, 0, none⟩) 3 3 txT (by rfl) (by rfl) hO2.out rfl hO3.out (by simp [txH, hp32]) ?_; intro v16 w16 ho16 hg16; obtain ⟨A16, c16, hv16⟩ := ho16.form; rw [show ((txH ++ p) ++ txT).length = 43 by simp [txH, txT, hp32]] at hv16; subst hv16))
  have hb16 : Below w14.heap.size w14 w16 := (hb15.trans (hBc.mono hb15.size)).grown hg16.grown (by have := hb15.size; simp; omega) (fun k e => by
    rcases hl15.out with h | ⟨g', h, h'⟩
    · rw [e] at h; simp [Value.ownBlock] at h; omega
    · rw [e] at h; simp at h h'; omega)
  have HBw := HB15c.trans (hg16.grown |> fun hg => (Below.refl w12.heap.size (w15.alloc (.cells #[.int .u8 2, .int .u8 1, .int .u8 120] 5))).grown hg (by have := HB15c.size; simpa using this) (fun k e => by
    rcases hl15.out with h | ⟨g', h, h'⟩
    · rw [e] at h; simp [Value.ownBlock] at h; have := HB14.size; omega
    · rw [e] at h; simp at h h'; have := HB14.size; omega))
  obtain ⟨q, hqq⟩ : ∃ q, hdC [x0] = q := ⟨_, rfl⟩
  have hq32 : q.length = 32 := by rw [← hqq]; exact hdC_len _
  obtain ⟨b1, o1, D1, hA1, hr1, _⟩ := (hll.out w16 HBw).1 0 x0 rfl
  subst hA1
  obtain ⟨b2', o2', D2, hA2, hr2, hd2⟩ := (hll.out w16 HBw).2.1 1 x1 rfl
  cases hA2
  obtain ⟨A9, c9, hD9, _, _, hat9⟩ := hd2
  rw [show x1.data.length = 1 from rfl] at hD9
  subst hD9
  have hP : Hid (∀ V, Below w16.heap.size w16 V → Below w12.heap.size w12 V) := Lib.hid fun V h => HBw.trans (h.mono HBw.size)
  have hS : Hid (∀ V, Below w16.heap.size w16 V → V.rangeAt b1 (o1 + 2) (p.map by1) ∧ V.rangeAt w13.heap.size 0 (p.map by1) ∧ V.rangeAt b2 (o2 + 35 + 2) (q.map by1) ∧ V.rangeAt b2 (o2 + 37) (q.map by1) ∧
      V.cell? ⟨b2, o2 + 35 + 1, none⟩ = some (.int .i64 1) ∧ V.cell? ⟨b2, o2 + 36, none⟩ = some (.int .i64 1) ∧ V.cell? ⟨b2, o2 + 35 + 34, none⟩ = some (.slice A9 1 c9) ∧ V.cell? ⟨b2, o2 + 69, none⟩ = some (.slice A9 1 c9) ∧
      (convert 23 9 (.slice A9 1 c9)).run Tryd.prog V = .ok (.string ⟨#[121]⟩) V) := Lib.hid fun V h => by
    have k1 := range_below hr1 h
    have k2 := range_below hr2 h
    have r1 : V.rangeAt b1 (o1 + 2) (p.map by1) := fun j v hj => by
      obtain ⟨y, hy, rfl⟩ : ∃ y, p[j]? = some y ∧ by1 y = v := by simpa using hj
      have := k1 (2 + j) _ (lkC_prev (x := x0) (D := D1) (by show (hdC [])[j]? = some y; rw [hpp]; exact hy))
      rw [show o1 + 2 + j = o1 + 0 * 35 + (2 + j) by omega]
      exact this
    have r2 : V.rangeAt b2 (o2 + 37) (q.map by1) := fun j v hj => by
      obtain ⟨y, hy, rfl⟩ : ∃ y, q[j]? = some y ∧ by1 y = v := by simpa using hj
      have := k2 (2 + j) _ (lkC_prev (x := x1) (D := .slice A9 1 c9) (by show (hdC [x0])[j]? = some y; rw [hqq]; exact hy))
      rw [show o2 + 37 + j = o2 + 1 * 35 + (2 + j) by omega]
      exact this
    have c1 : V.cell? ⟨b2, o2 + 36, none⟩ = some (.int .i64 1) := by
      have := k2 1 (.int .i64 1) (by simp [lkC, x1])
      rw [show o2 + 36 = o2 + 1 * 35 + 1 by omega]
      exact this
    have c2 : V.cell? ⟨b2, o2 + 69, none⟩ = some (.slice A9 1 c9) := by
      have := k2 34 _ (lkC_data (x := x1) ok_x1.p32 (.slice A9 1 c9))
      rw [show o2 + 69 = o2 + 1 * 35 + 34 by omega]
      exact this
    exact ⟨r1, hR14.out V (hb16.trans (h.mono hb16.size)), r2, r2, c1, c1, c2, c2, (hat9.below h).conv 1 c9 rfl⟩
  have hH0 : Hid (∀ V, Below w16.heap.size w16 V → Calls Tryd.prog 20 #[.slice none 0 0] V fun e w' => e = .returned (.agg (p.map by1).toArray) ∧ Below V.heap.size V w') := Lib.hid fun V h => by
    rw [← hpp]
    exact head_any [] 0 none 0 V rfl (by omega) (by omega) (lsAt_nil _ _) all_none (hll.out V (hP.out V h)).2.2.1
  have hH1 : Hid (∀ V, Below w16.heap.size w16 V → Calls Tryd.prog 20 #[.slice (some ⟨b1, o1, none⟩) 1 c1] V fun e w' => e = .returned (.agg (q.map by1).toArray) ∧ Below V.heap.size V w') := Lib.hid fun V h => by
    rw [← hqq]
    exact head_any [x0] 1 _ c1 V rfl (by omega) (by omega) (hll.out V (hP.out V h)).1 (all_one ok_x0) (hll.out V (hP.out V h)).2.2.1
  have hT1 : Hid (∀ V, Below w16.heap.size w16 V → Calls Tryd.prog 40 #[.string ⟨#[108, 105, 110, 107]⟩, .slice A16 43 c16] V fun e w' => e = .returned (.agg (q.map by1).toArray) ∧ Below V.heap.size V w') := Lib.hid fun V h => by
    rw [← hqq, hdC_x0, hpp]
    exact tagged_any linkB (by decide) ((txH ++ p) ++ txT) 43 (by simp [txH, txT, hp32]) (by omega) A16 c16 (by have := ho16.cap.1; simp [txH, txT, hp32] at this; omega) ho16.cap.2 V (ho16.atO.below h) (hll.out V (hP.out V h)).2.2.1
  have ep : ∀ V, (Op.equalIn 10000 35 (.agg (p.map by1).toArray) (.agg (p.map by1).toArray)).run Tryd.prog V = .ok true V := fun V => by
    have := eq_dg p p hp32 hp32 V
    rw [decide_eq_true rfl] at this
    exact this
  have eq : ∀ V, (Op.equalIn 10000 35 (.agg (q.map by1).toArray) (.agg (q.map by1).toArray)).run Tryd.prog V = .ok true V := fun V => by
    have := eq_dg q q hq32 hq32 V
    rw [decide_eq_true rfl] at this
    exact this
  have hu := Tryd.underlying35
  have ip := dg_infoL p hp32
  have iq := dg_infoL q hq32
  have hPw : Hid (∀ V, Below w16.heap.size w16 V → Below w.heap.size w V) := Lib.hid fun V h => (hll.out V (hP.out V h)).2.2.2
  clear hll hP hr1 hr2 hat9 hR14 hAt hO1 hO2 hO3 ho15 hg15 hl15 hb15 hBa hBc HB14 HB15c hb16 HBw ho16 hg16 hd14 hz14 hB14 hi5 ho5 hr5 kc
  have cH0 := fun d os => Calls.regrown_of (hH0.out _ (below_regrown w16 d os))
  have cH1 := fun d os => Calls.regrown_of (hH1.out _ (below_regrown w16 d os))
  have cT1 := fun d os => Calls.regrown_of (hT1.out _ (below_regrown w16 d os))
  have s1 : Hid (∀ V, (∃ p : Regrown, V = Go.Sort.grow (redrawn w16 p.d) p.os) → V.rangeAt b1 (o1 + 2) (p.map by1)) := Lib.hid (by rintro V ⟨r, rfl⟩; exact (hS.out _ (below_regrown w16 _ _)).1)
  have s2 : Hid (∀ V, (∃ p : Regrown, V = Go.Sort.grow (redrawn w16 p.d) p.os) → V.rangeAt w13.heap.size 0 (p.map by1)) := Lib.hid (by rintro V ⟨r, rfl⟩; exact (hS.out _ (below_regrown w16 _ _)).2.1)
  have s3 : Hid (∀ V, (∃ p : Regrown, V = Go.Sort.grow (redrawn w16 p.d) p.os) → V.rangeAt b2 (o2 + 35 + 2) (q.map by1)) := Lib.hid (by rintro V ⟨r, rfl⟩; exact (hS.out _ (below_regrown w16 _ _)).2.2.1)
  have s5 := fun d os => (hS.out _ (below_regrown w16 d os)).2.2.2.2.1
  have s6 := fun d os => (hS.out _ (below_regrown w16 d os)).2.2.2.2.2.1
  have s7 := fun d os => (hS.out _ (below_regrown w16 d os)).2.2.2.2.2.2.1
  have s8 := fun d os => (hS.out _ (below_regrown w16 d os)).2.2.2.2.2.2.2.1
  have s9 := fun d os => (hS.out _ (below_regrown w16 d os)).2.2.2.2.2.2.2.2
  clear hS hH0 hH1 hT1
  replace hu := Lib.hid hu
  replace ip := Lib.hid ip
  replace iq := Lib.hid iq
  refine wp_region_quiet_below (by kernel_rfl) (by kernel_rfl) ?_
  repeat (first
    | (go_big_quiet_want; refine quiet_load_mid 35 (.tmp 157) (by rfl) b1 (o1 + 2) (by rfl) (p.map by1) _ s1.out hu.out (by rfl) ip.out ?_; simp only [Act.put, List.setIfInBounds_toArray, List.set_cons_zero, List.set_cons_succ]; go_big_quiet_on)
    | (go_big_quiet_want; refine quiet_load_mid 35 (.tmp 20) (by rfl) w13.heap.size 0 (by rfl) (p.map by1) _ s2.out hu.out (by rfl) ip.out ?_; simp only [Act.put, List.setIfInBounds_toArray, List.set_cons_zero, List.set_cons_succ]; go_big_quiet_on)
    | (go_big_quiet_want; refine quiet_load_mid 35 (.tmp 176) (by rfl) b2 (o2 + 35 + 2) (by rfl) (q.map by1) _ s3.out hu.out (by rfl) iq.out ?_; simp only [Act.put, List.setIfInBounds_toArray, List.set_cons_zero, List.set_cons_succ]; go_big_quiet_on)
    | go_big_quiet_step (first | with_reducible exact cH0 _ _ | with_reducible exact cH1 _ _ | with_reducible exact cT1 _ _))
  refine wpQuiet_nil ?_
  intro _ hw2
  obtain ⟨⟨dq, osq⟩, rfl⟩ := hw2
  have HBe := hPw.out _ (below_regrown w16 dq osq)
  go_wp2
  go_ret
  exact ⟨rfl, HBe⟩
end Go.Proofs.YthokpfegfnpmhaaDoor
