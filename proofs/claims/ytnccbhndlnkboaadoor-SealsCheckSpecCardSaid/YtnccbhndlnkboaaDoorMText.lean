/- The walks of merkle's text, node and leafHash. -/
import Derived.Test.YtnccbhndlnkboaaDoorJoin
import Derived.Test.YtnccbhndlnkboaaDoorMk
import Derived.Test.YtnccbhndlnkboaaDoorMoreA
import Derived.Deep.RegionHeldLaw
import Derived.OrdersHeld
import Derived.Deep.RegionHeld3
namespace Go.Proofs.YtnccbhndlnkboaaDoor
open Go.RowKit Go.Shelf Cdc Sha
set_option linter.unusedVariables false
set_option linter.unusedSimpArgs false

/-- bytes are appended to a slice that is full -/
theorem run_app_full (w : World) (ty : TypeId) (g n : Nat) (xs : List UInt8) (hx : xs.length = n) (h : AtO w (some ⟨g, 0, none⟩) xs) (ys : List UInt8) (A : Option Addr) (m c : Nat) (hm : ys.length = m) (hA : AtO w A ys) (hn0 : 0 < n) (hs : n + m ≤ 100000000000000) :
    ∃ (A' : Option Addr) (c' : Nat) (w' : World), (Builtin.append_ #[48, 48] ty #[.slice (some ⟨g, 0, none⟩) n n, .slice A m c]).run Tryd.prog w = .ok (.slice A' (n + m) c') w' ∧ n + m ≤ c' ∧ c' ≤ 9223372036854775807 ∧ AtO w' A' (xs ++ ys) ∧ Below w.heap.size w w' ∧ ∀ g' o, A' = some ⟨g', o, none⟩ → g' = g ∨ (w.heap.size ≤ g' ∧ g' < w'.heap.size) := by
  obtain ⟨i0, hi0, hz0, hz1, hz2⟩ := info_parts u8_info
  by_cases h0 : m = 0
  · subst h0
    obtain rfl := List.length_eq_zero_iff.1 hm
    refine ⟨some ⟨g, 0, none⟩, n, w, ?_, Nat.le_refl _, by omega, by rw [List.append_nil]; exact h, Below.refl _ _, fun g' o e => by cases e; exact .inl rfl⟩
    cases A <;> simp [Builtin.append_, run_underlying Tryd.underlying48, sizeOf, typeInfo, hi0, Builtin.lenOf, Builtin.firstCells, loadCells, loadCellsFrom, storeCells]
  · obtain ⟨x0, hx0⟩ : ∃ x0, ys[0]? = some x0 := ⟨_, List.getElem?_eq_getElem (by omega)⟩
    obtain ⟨ab, ao, rfl, _⟩ := hA 0 x0 hx0
    have hr := run_append_grow (P := Tryd.prog) w 48 ty 5 i0 (.int .u8 0) Tryd.underlying48 hi0 hz0 ⟨g, 0, none⟩ n n (xs.map by1) (by rw [List.length_map, hx, hz1, Nat.mul_one])
      (fun j v hj => by
        rw [List.getElem?_map] at hj
        obtain ⟨x, hx, rfl⟩ := Option.map_eq_some_iff.1 hj
        obtain ⟨g', o', e, hc⟩ := h j x hx
        cases e
        rw [addr_add]; exact hc)
      ⟨ab, ao, none⟩ m c (ys.map by1) (by rw [List.length_map, hm, hz1, Nat.mul_one])
      (fun j v hj => by
        rw [List.getElem?_map] at hj
        obtain ⟨x, hx, rfl⟩ := Option.map_eq_some_iff.1 hj
        obtain ⟨g', o', e, hc⟩ := hA j x hx
        cases e
        rw [addr_add]; exact hc)
      (by omega) (by omega) (growslice_fits (by omega) (by rw [hz2]; omega))
    have hge := grownCap_ge w (n + m) n 5
    have hcm := grownCap_le_maxLen w (n + m) n 5 (by simp only [maxLen]; omega)
    refine ⟨_, _, _, hr, hge, by simpa only [maxLen] using hcm, fun j x hj => ⟨w.heap.size, 0, rfl, ?_⟩, ((Below.refl _ w).drew).alloc (Nat.le_refl _) _, fun g' o e => by cases e; exact .inr ⟨Nat.le_refl _, by simp⟩⟩
    rw [Nat.zero_add]
    refine (cell_of_row _ w.heap.size j _ _ _ (heap_alloc_new w.drew _)).trans ?_
    have hlt := (List.getElem?_eq_some_iff.1 hj).1
    rw [Array.getElem?_append_left (by simp; simpa using hlt)]
    have e : (List.map by1 xs).toArray ++ (List.map by1 ys).toArray = ((xs ++ ys).map by1).toArray := by simp
    rw [e]
    simp only [List.getElem?_toArray, List.getElem?_map, hj, Option.map_some]
theorem step_appX {ops : Array Oper} {o : Oper} {a : Act} {K : Act → World → Prop} {Q : Exit → Act → World → Prop} {E : Prop} (w : World) (hgd : o.guard = none) (s x : Operand)
    (ho : o.op = .call { callee := .builtin .append, args := #[s, x], argTypes := #[48, 48] }) (g n : Nat) (xs : List UInt8) (ys : List UInt8) (A : Option Addr) (m c : Nat)
    (hs : a.eval s = .slice (some ⟨g, 0, none⟩) n n) (hx : a.eval x = .slice A m c) (hxn : xs.length = n) (hat : AtO w (some ⟨g, 0, none⟩) xs) (hm : ys.length = m) (hA : AtO w A ys) (hn0 : 0 < n) (hl : n + m ≤ 100000000000000)
    (h : ∀ A' c' w', n + m ≤ c' → c' ≤ 9223372036854775807 → AtO w' A' (xs ++ ys) → Below w.heap.size w w' → (∀ g' o, A' = some ⟨g', o, none⟩ → g' = g ∨ (w.heap.size ≤ g' ∧ g' < w'.heap.size)) → K (a.put o.dst (.slice A' (n + m) c')) w') :
    if Region.wanted o (yielded ops a.tmps) = true then Oper.wp Tryd.prog o a w K Q else E := by
  have hw : Region.wanted o (yielded ops a.tmps) = true := by simp [Region.wanted, hgd]
  rw [if_pos hw]
  obtain ⟨A', c', w', hr, h1, h2, h3, h4, h5⟩ := run_app_full w o.type g n xs hxn hat ys A m c hm hA hn0 hl
  unfold Oper.wp execOp
  simp only [ho, resolve, invoke, builtin, Sem.run_bind, Sem.run_pure, Result.andThen_ok, List.map_toArray, List.map_cons, List.map_nil, hs, hx, hr]
  exact h A' c' w' h1 h2 h3 h4 h5

set_option maxRecDepth 100000 in
set_option maxHeartbeats 1000000 in
/-- text: a tag's digest, and the parts behind it -/
theorem mtext_of (tag : ByteArray) (ht : tag.size ≤ 1000000000) (P : Option Addr) (k c : Nat) (X : List UInt8) (hX : X.length ≤ 10000000000) (w : World) (hL : Laid w)
    (hJ : ∀ V, Below w.heap.size w V → Calls Tryd.prog 92 #[.slice P k c, .slice none 0 0] V (JoinC X V)) :
    Calls Tryd.prog 75 #[.string tag, .slice P k c] w (JoinC (mT tag X) w) := by
  have hconv := fun W => Lib.run_convert_string_bytes (P := Tryd.prog) W 9 48 5 tag Tryd.underlying9 Tryd.underlying48 Tryd.underlying5
  have hlen : Hid (tag.data.toList.length = tag.size) := Lib.hid (Array.length_toList ..)
  replace hL := Lib.hid hL
  replace hJ := Lib.hid hJ
  have key : Hid (∀ (W0 : World) (k : Nat), k = W0.heap.size → Below w.heap.size w W0 → Calls Tryd.prog 74 #[.slice (some ⟨k, 0, none⟩) tag.size (grownCap W0 tag.size 0 5)] (Lib.bytesWorld W0 5 tag)
      fun e w' => e = .returned (.agg (dg (sha tag.data.toList))) ∧ Below w.heap.size w w') := Lib.hid (by
    intro W0 k hk hB0
    have hB1 := bytesW_below tag hB0 hB0.size
    have hsz := Lib.bytesWorld_size W0 5 tag
    refine (sum_dg tag.data.toList tag.size hlen.out (by omega) (some ⟨k, 0, none⟩) _ (grownCap_ge _ _ _ _) ?_ _ (bytesW_at W0 tag k hk) (hL.out.below hB1)).mono ?_
    · have := grownCap_le_maxLen W0 tag.size 0 5 (by simp only [maxLen]; omega)
      simpa only [maxLen] using this
    · rintro e w' ⟨rfl, hb⟩
      exact ⟨rfl, hB1.trans (hb.mono hB1.size)⟩)
  go_enter Tryd.func75, Tryd.ntmps75
  go_wp2_with fail
  refine (key.out _ _ (by simp) (Below.refl _ _)).mono ?_
  rintro e w2 ⟨rfl, hB2⟩
  clear hconv key
  have hi2 := Lib.hid (dg_info _ (sha_len tag.data.toList))
  have ho2 := Lib.hid (dg_one (sha tag.data.toList))
  have hs2 := Lib.hid (dg_size (sha tag.data.toList))
  have hl2 := Lib.hid (sha_len tag.data.toList)
  obtain ⟨t, hD⟩ : ∃ t, sha tag.data.toList = t := ⟨_, rfl⟩
  have hmt : Hid (mT tag X = t ++ X) := Lib.hid (by rw [mT, hD])
  rw [hD] at hi2 ho2 hs2 hl2 ⊢
  clear hD
  have hr3 : Hid (32 = (dg t).size) := Lib.hid (by rw [hs2.out, hl2.out])
  go_wp2_with (refine wpList_new_row (by rfl) 23 (.tmp 5) (.tmp 8) (by rfl) (by rfl) (dg t) (by rfl) (by rfl) 23 _ hi2 hr3 ho2 ?_; intro w3 hd3 hz3 hB3; replace hd3 := Lib.hid hd3; replace hz3 := Lib.hid hz3)
  have hBB : Below w.heap.size w w3 := hB2.trans (hB3.mono hB2.size)
  have hat : Hid (∀ V, Below w3.heap.size w3 V → AtO V (some ⟨w2.heap.size, 0, none⟩) t) := Lib.hid fun V hV => (dg_at hd3.out).below hV
  have HB : Below w3.heap.size w3 w3.drew := (Below.refl _ _).drew
  have hJ3 : Hid (∀ V, Below w3.heap.size w3 V → Calls Tryd.prog 92 #[.slice P k c, .slice none 0 0] V (JoinC X V)) := Lib.hid fun V hV => hJ.out V (hBB.trans (hV.mono hBB.size))
  obtain ⟨m, hm⟩ : ∃ m, X.length = m := ⟨_, rfl⟩
  rw [hm] at hX
  have hm9 := Lib.hid hm
  have hs3 : w2.heap.size < w3.heap.size := (Array.getElem?_eq_some_iff.1 hd3.out).1
  have hs2' := hB2.size
  clear hm hB2 hB3 hd3 hz3 hJ hL hi2 ho2 hs2 hr3 hlen
  go_region_held3 (fun _ => True) (trivial)
    (first
      | (refine step_appX _ (by rfl) (.tmp 9) (.tmp 11) (by rfl) w2.heap.size 32 t X A5 m c5 (by rfl) (by rfl) hl2.out (hat.out _ HB) hm9.out h53.out (by omega) (by omega) ?_; intro A6 c6 w6 h61 h62 h63 h64 h65; have hs5 := HB.size; replace HB := HB.trans (h64.mono HB.size); replace h63 := Lib.hid h63)
      | (go_at_call 92; refine (hJ3.out _ HB).mono ?_; unfold JoinC; rw [hm9.out]; rintro e w5 ⟨A5, c5, rfl, h51, h52, h53, hb, -⟩; replace HB := HB.trans (hb.mono HB.size); replace h53 := Lib.hid h53; clear hb))
  have hlt : Hid ((t ++ X).length = 32 + m) := Lib.hid (by rw [List.length_append, hl2.out, hm9.out])
  go_wp2
  refine bodyPost_ret (v := .slice A6 (32 + m) c6) (by simp [results, Tryd.results75, go_sem]) rfl (by rw [hmt.out]; exact ⟨A6, c6, by rw [hlt.out], by rw [hlt.out]; exact h61, h62, h63.out, hBB.trans (HB.mono hBB.size), fun g o e _ => by have := HB.size; rcases h65 g o e with h | h <;> omega⟩)

set_option maxRecDepth 100000 in
set_option maxHeartbeats 1000000 in
/-- node: the text of two digests -/
theorem mnode_any (a b : List UInt8) (ha : a.length = 32) (hb : b.length = 32) (w : World) (hL : Laid w) :
    Calls Tryd.prog 77 #[.agg (dg a), .agg (dg b)] w (JoinC (ndT a b) w) := by
  obtain ⟨D, hD⟩ : ∃ D, dg a = D := ⟨_, rfl⟩
  obtain ⟨E, hE⟩ : ∃ E, dg b = E := ⟨_, rfl⟩
  have hsl : Hid (∀ V, Below ((w.alloc (.cells D 23)).alloc (.cells E 23)).heap.size ((w.alloc (.cells D 23)).alloc (.cells E 23)) V → ∀ k, k = V.heap.size → Calls Tryd.prog 75 #[.string nodeB, .slice (some ⟨k, 0, none⟩) 2 2] (V.alloc (.cells #[.slice (some ⟨w.heap.size, 0, none⟩) 32 32, .slice (some ⟨w.heap.size + 1, 0, none⟩) 32 32] 48)) (JoinC (ndT a b) (V.alloc (.cells #[.slice (some ⟨w.heap.size, 0, none⟩) 32 32, .slice (some ⟨w.heap.size + 1, 0, none⟩) 32 32] 48)))) := Lib.hid fun V hV k hk => by
    subst hk hD hE
    have h1 : Below w.heap.size w ((w.alloc (.cells (dg a) 23)).alloc (.cells (dg b) 23)) := ((Below.refl _ _).alloc (Nat.le_refl _) _).alloc (by simp) _
    have h2 := (h1.trans (hV.mono h1.size)).alloc (h1.trans (hV.mono h1.size)).size (.cells #[.slice (some ⟨w.heap.size, 0, none⟩) 32 32, .slice (some ⟨w.heap.size + 1, 0, none⟩) 32 32] 48)
    have hb1 : Below V.heap.size V (V.alloc (.cells #[.slice (some ⟨w.heap.size, 0, none⟩) 32 32, .slice (some ⟨w.heap.size + 1, 0, none⟩) 32 32] 48)) := (Below.refl _ _).alloc (Nat.le_refl _) _
    have a1 : AtO V (some ⟨w.heap.size, 0, none⟩) a := (dg_at ((Below.heap_alloc _ _ _ (by simp)).trans (heap_alloc_new w _))).below hV
    have a2 : AtO V (some ⟨w.heap.size + 1, 0, none⟩) b := (dg_at (by have := heap_alloc_new (w.alloc (.cells (dg a) 23)) (.cells (dg b) 23); rwa [World.size_alloc] at this)).below hV
    have hce := fun j => cell_of_row _ V.heap.size j _ _ _ (heap_alloc_new V (.cells #[.slice (some ⟨w.heap.size, 0, none⟩) 32 32, .slice (some ⟨w.heap.size + 1, 0, none⟩) 32 32] 48))
    have hS : SL (V.alloc (.cells #[.slice (some ⟨w.heap.size, 0, none⟩) 32 32, .slice (some ⟨w.heap.size + 1, 0, none⟩) 32 32] 48)) V.heap.size 0 [a, b] := by
      intro i xs hi
      have hlt := (List.getElem?_eq_some_iff.1 hi).1
      match i, hi with
      | 0, hi =>
        obtain rfl : a = xs := by simpa using hi
        exact ⟨some ⟨w.heap.size, 0, none⟩, 32, by rw [ha]; exact hce 0, a1.below hb1⟩
      | 1, hi =>
        obtain rfl : b = xs := by simpa using hi
        exact ⟨some ⟨w.heap.size + 1, 0, none⟩, 32, by rw [hb]; exact hce 1, a2.below hb1⟩
      | i + 2, hi => exact absurd hlt (by simp)
    exact mtext_of nodeB (by decide) _ 2 2 (a ++ b) (by simp [ha, hb]) _ (hL.below h2) fun U hU => join_two a b _ 2 U (hS.below hU) (by omega) (by omega)
  have hlt : Hid ((ndT a b).length = 96) := Lib.hid (by rw [ndT, mT_len, List.length_append, ha, hb])
  have hzD : Hid (D.size = 32) := Lib.hid (by rw [← hD, dg_size, ha])
  have hzE : Hid (E.size = 32) := Lib.hid (by rw [← hE, dg_size, hb])
  rw [hD, hE]
  obtain ⟨T, hT⟩ : ∃ T, ndT a b = T := ⟨_, rfl⟩
  rw [hT] at hsl hlt ⊢
  clear hD hE hT hL ha hb
  have h1 : Below w.heap.size w ((w.alloc (.cells D 23)).alloc (.cells E 23)) := ((Below.refl _ _).alloc (Nat.le_refl _) _).alloc (by simp) _
  have HB := (Below.refl ((w.alloc (.cells D 23)).alloc (.cells E 23)).heap.size ((w.alloc (.cells D 23)).alloc (.cells E 23))).drew
  go_enter Tryd.func77, Tryd.ntmps77
  go_wp2_with fail
  generalize (w.alloc (.cells D 23)).alloc (.cells E 23) = W2 at *
  go_region_held3 (fun _ => True) (trivial)
    (first | (go_at_call 75; refine (hsl.out _ HB _ rfl).mono ?_; unfold JoinC; rw [hlt.out]; rintro e w5 ⟨A5, c5, rfl, h51, h52, h53, hb, hfr⟩; have HB5 := HB.trans (((Below.refl _ _).alloc (Nat.le_refl _) _).trans (hb.mono (by simp)) |>.mono HB.size); have hsz5 := HB.size; replace h53 := Lib.hid h53; clear hb))
  go_wp2
  refine bodyPost_ret (v := .slice A5 96 c5) (by simp [results, Tryd.results77, go_sem]) rfl ⟨A5, c5, by rw [hlt.out], by rw [hlt.out]; exact h51, h52, h53.out, h1.trans (HB5.mono h1.size), fun g o e hne => by have h8 := hfr g o e hne; have h9 := h1.size; rw [World.size_alloc] at h8; omega⟩
end Go.Proofs.YtnccbhndlnkboaaDoor
