/- The walk of the reference's Text. -/
import Derived.Test.YthokpfegfnpmhaaDoorRowApp
import Derived.Test.YthokpfegfnpmhaaDoorChainLaw
import Derived.Test.YthokpfegfnpmhaaDoorRefEncode
import Derived.LoopTactic
import Derived.Deep.RegionHeld3
namespace Go.Proofs.YthokpfegfnpmhaaDoor
open Go.RowKit Cdc Sha
set_option linter.unusedVariables false
set_option linter.unusedSimpArgs false

set_option maxRecDepth 100000 in
set_option maxHeartbeats 1000000 in
theorem rnumber8_any (n : Int) (w : World) :
    Calls Tryd.prog 75 #[.int .i64 n] w fun e w' => e = .returned (.agg #[.int .i64 1, .int .i64 n, .string ⟨#[]⟩, .slice none 0 0]) ∧ Below w.heap.size w w' := by
  go_enter Tryd.func75, Tryd.ntmps75
  go_wp2
  refine bodyPost_ret (v := .agg #[.int .i64 1, .int .i64 n, .string ⟨#[]⟩, .slice none 0 0]) ?_ rfl ⟨rfl, ?_⟩
  · simp [results, Tryd.results75, go_sem]
  · exact (Below.refl _ _).alloc (Nat.le_refl _) _
set_option maxRecDepth 100000 in
set_option maxHeartbeats 1000000 in
theorem rtext8_any (xs : List UInt8) (A : Option Addr) (n c : Nat) (w : World) (hn : xs.length = n) (h : AtO w A xs) :
    Calls Tryd.prog 76 #[.slice A n c] w fun e w' => e = .returned (.agg #[.int .i64 2, .int .i64 0, .string ⟨xs.toArray⟩, .slice none 0 0]) ∧ Below w.heap.size w w' := by
  have hcv := (h.below ((Below.refl _ _).alloc (Nat.le_refl _) (.cells #[.int .i64 0, .int .i64 0, .string ⟨#[]⟩, .slice none 0 0] 80))).conv n c hn
  go_enter Tryd.func76, Tryd.ntmps76
  go_wp2
  refine bodyPost_ret (v := .agg #[.int .i64 2, .int .i64 0, .string ⟨xs.toArray⟩, .slice none 0 0]) ?_ rfl ⟨rfl, ?_⟩
  · simp [results, Tryd.results76, go_sem]
  · exact (Below.refl _ _).alloc (Nat.le_refl _) _

theorem own_lit1 (w : World) (y : UInt8) : AtO (w.alloc (.cells #[by1 y] 5)) (some ⟨w.heap.size, 0, none⟩) [y] := by
  intro j z hj
  match j, hj with
  | 0, hj =>
    cases hj
    refine ⟨w.heap.size, 0, rfl, ?_⟩
    rw [cell_of_row _ _ _ _ _ _ (heap_alloc_new w _)]
    rfl
set_option maxRecDepth 100000 in
set_option maxHeartbeats 1000000 in
theorem rtext_none (A : Option Addr) (c : Nat) (w : World) :
    Calls Tryd.prog 51 #[.slice A 0 c] w fun e w' => e = .returned (.tuple #[.string noneB, .slice none 0 0]) ∧ w' = w := by
  go_enter Tryd.func51, Tryd.ntmps51
  go_wp2
  refine bodyPost_ret (v := .tuple #[.string noneB, .slice none 0 0]) (by simp [results, Tryd.results51, go_sem, noneB]) rfl ⟨rfl, rfl⟩

set_option maxRecDepth 100000 in
set_option maxHeartbeats 8000000 in
theorem rtext_some (l : List Lk) (x : Lk) (n : Nat) (A : Option Addr) (c : Nat) (w : World) (hn : l.length = n) (hn0 : 0 < n) (hnm : n ≤ 1000000) (hc : n ≤ c) (h : LsAt w A l) (hx : l[n - 1]? = some x) (hxo : LkOk x) :
    Calls Tryd.prog 51 #[.slice A n c] w fun e w' => ∃ A' c', e = .returned (.tuple #[.string linkB, .slice A' (encB (lV (lkL x))).length c']) ∧ DatAt w' (.slice A' (encB (lV (lkL x))).length c') (encB (lV (lkL x))) ∧ Below w.heap.size w w' := by
  obtain ⟨b, o, D, rfl, hr, A2, c2, rfl, hdl, hdc, hdat⟩ := h (n - 1) x hx
  replace hr := Lib.hid hr
  have hs4h := Lib.hid (sm4 hxo)
  have hi := Lib.hid (lk_info' hxo.p32 (.slice A2 x.data.length c2))
  have hiA := Lib.hid (lk_info hxo.p32 (.slice A2 x.data.length c2))
  have hiS : Hid (35 = (lkA x (.slice A2 x.data.length c2)).size) := Lib.hid (lkA_size hxo.p32 _).symm
  have hiO := Lib.hid (lkA_one x A2 x.data.length c2)
  go_enter Tryd.func51, Tryd.ntmps51
  go_wp2_with (first
    | (refine wpList_load_mid (by rfl) 37 (.tmp 16) (by rfl) b (o + (n - 1) * 35) (by rfl) (lkC x (.slice A2 x.data.length c2)) _ hr.out Tryd.underlying37 (by rfl) hi.out ?_)
    | (refine wpList_new_row' (by rfl) 37 (.tmp 4) (.tmp 17) (by rfl) (by rfl) (lkA x (.slice A2 x.data.length c2)) w.heap.size (by rfl) rfl (by rfl) 37 _ hiA.out hiS.out hiO.out ?_; intro w3 hd3 hz3 hB3; replace hd3 := Lib.hid hd3; replace hz3 := Lib.hid hz3))
  obtain ⟨g, hg⟩ : ∃ g, w.heap.size = g := ⟨_, rfl⟩
  have hgl : g < w3.heap.size := by have := hz3.out; omega
  have hcell := fun (W : World) (hW : Below w3.heap.size w3 W) (j : Nat) => cell_of_row W g j _ _ _ ((hW.block g hgl).trans (by rw [← hg]; exact hd3.out))
  have hSS : Hid (∀ W, Below w3.heap.size w3 W → W.cell? ⟨g, 0, none⟩ = some (.int .i64 x.node) ∧ W.cell? ⟨g, 1, none⟩ = some (.int .i64 x.no) ∧ W.cell? ⟨g, 34, none⟩ = some (.slice A2 x.data.length c2)) := Lib.hid fun W hW =>
    ⟨by rw [hcell W hW]; simp [lkA, lkC], by rw [hcell W hW]; simp [lkA, lkC], by rw [hcell W hW]; have := lkC_data hxo.p32 (.slice A2 x.data.length c2); simpa [lkA] using this⟩
  have hPP : Hid (∀ W, Below w3.heap.size w3 W → ∀ j y, x.prev[j]? = some y → W.cell? ⟨g, 2 + j, none⟩ = some (by1 y)) := Lib.hid fun W hW j y hy => by rw [hcell W hW]; have := lkC_prev (D := .slice A2 x.data.length c2) hy; simpa [lkA] using this
  have hDD : Hid (∀ W, Below w3.heap.size w3 W → AtO W A2 x.data) := Lib.hid fun W hW => hdat.below (hB3.trans (hW.mono hB3.size))
  have hBW : Hid (∀ W, Below w3.heap.size w3 W → Below w.heap.size w W) := Lib.hid fun W hW => hB3.trans (hW.mono hB3.size)
  rw [hg]
  replace hg := Lib.hid hg
  have hp32 := Lib.hid hxo.p32
  clear hcell hr hi hiA hiS hiO hd3 hB3 hdat hgl
  go_loopw [5, 6] (fun s5 s6 wr => ∃ i : Nat, i ≤ 32 ∧ s6 = .int .i64 i ∧ Hid (Own wr s5 (x.prev.take i)) ∧ Hid (∀ k, s5.ownBlock = some k → w3.heap.size ≤ k) ∧ Hid (Below w3.heap.size w3 wr)) (fun _ s6 _ => 32 - (intOf s6).toNat)
  case atStart => exact ⟨0, Nat.zero_le _, rfl, Lib.hid ⟨rfl, .inl ⟨rfl, rfl⟩⟩, Lib.hid (fun k e => by cases e), Lib.hid (Below.refl _ _)⟩
  case round =>
    obtain ⟨i, hi, rfl, ho, hk, hb⟩ := hrel
    by_cases hlt : i < 32
    · obtain ⟨y, hy⟩ : ∃ y, x.prev[i]? = some y := ⟨_, List.getElem?_eq_getElem (by rw [hp32.out]; exact hlt)⟩
      have hc1 := hPP.out wr hb.out i y hy
      obtain ⟨A5, c5, hv5⟩ := ho.out.form
      rw [show (x.prev.take i).length = i by rw [List.length_take, hp32.out]; omega] at hv5
      subst hv5
      have hB9 : Below wr.heap.size wr (wr.alloc (.cells #[by1 y] 5)) := (Below.refl _ _).alloc (Nat.le_refl _) _
      have hO1 := Lib.hid (ho.out.alloc (.cells #[by1 y] 5))
      have hO2 := Lib.hid (own_lit1 wr y)
      have htk : x.prev.take (i + 1) = x.prev.take i ++ [y] := by rw [List.take_add_one, hy]; rfl
      replace htk := Lib.hid htk
      go_wp2_with (at_builtin; refine wpList_appO _ (by rfl) (.tmp 22) (.tmp 27) (by rfl) (.slice A5 i c5) (x.prev.take i) (some ⟨wr.heap.size, 0, none⟩) 1 1 [y] (by rfl) (by rfl) hO1.out rfl hO2.out (by have := hp32.out; rw [List.length_take]; omega) ?_; intro v' w' ho' hg'; replace ho' := Lib.hid ho'; replace hg' := Lib.hid hg')
      go_roundw
      case rel =>
        refine ⟨i + 1, by omega, by go_num, Lib.hid (by rw [htk.out]; exact ho'.out), Lib.hid (fun k e => ?_), Lib.hid ?_⟩
        · rcases hg'.out.lies with h | ⟨g', h, h'⟩
          · exact hk.out k (by rw [← h]; exact e)
          · rw [e] at h
            cases h
            have := hb.out.size
            simp at h'
            omega
        · exact (hb.out.trans (hB9.mono hb.out.size)).grown hg'.out.grown (by have := hb.out.size; simp; omega) (fun k e => hk.out k e)
      case measure => simp [intOf]; omega
    · have e : i = 32 := by omega
      subst e
      rw [List.take_of_length_le (by rw [hp32.out]; omega)] at ho
      obtain ⟨A5, c5, hv5⟩ := ho.out.form
      rw [hp32.out] at hv5
      subst hv5
      have hat5 := ho.out.atO
      have hS : Hid (∀ W, Below wr.heap.size wr W → W.cell? ⟨g, 0, none⟩ = some (.int .i64 x.node) ∧ W.cell? ⟨g, 1, none⟩ = some (.int .i64 x.no) ∧ W.cell? ⟨g, 34, none⟩ = some (.slice A2 x.data.length c2)) := Lib.hid fun W hW => hSS.out W (hb.out.trans (hW.mono hb.out.size))
      have hc1 : Hid (∀ W : World, Calls Tryd.prog 75 #[.int .i64 x.node] W fun e w' => e = .returned (.agg #[.int .i64 1, .int .i64 x.node, .string ⟨#[]⟩, .slice none 0 0]) ∧ Below W.heap.size W w') := Lib.hid fun W => rnumber8_any _ W
      have hc2 : Hid (∀ W : World, Calls Tryd.prog 75 #[.int .i64 x.no] W fun e w' => e = .returned (.agg #[.int .i64 1, .int .i64 x.no, .string ⟨#[]⟩, .slice none 0 0]) ∧ Below W.heap.size W w') := Lib.hid fun W => rnumber8_any _ W
      have hc3 : Hid (∀ W : World, Below wr.heap.size wr W → Calls Tryd.prog 76 #[.slice A5 32 c5] W fun e w' => e = .returned (.agg #[.int .i64 2, .int .i64 0, .string ⟨x.prev.toArray⟩, .slice none 0 0]) ∧ Below W.heap.size W w') := Lib.hid fun W hW => rtext8_any x.prev _ 32 c5 W hp32.out (hat5.below hW)
      have hc4 : Hid (∀ W : World, Below wr.heap.size wr W → Calls Tryd.prog 76 #[.slice A2 x.data.length c2] W fun e w' => e = .returned (.agg #[.int .i64 2, .int .i64 0, .string ⟨x.data.toArray⟩, .slice none 0 0]) ∧ Below W.heap.size W w') := Lib.hid fun W hW => rtext8_any x.data _ _ c2 W rfl (hDD.out W (hb.out.trans (hW.mono hb.out.size)))
      have henc : Hid (∀ (W : World) (k : Nat), k = W.heap.size → Calls Tryd.prog 67 #[.agg #[.int .i64 3, .int .i64 0, .string ⟨#[]⟩, .slice (some ⟨k, 0, none⟩) 4 4]] (W.alloc (.cells #[.int .i64 1, .int .i64 x.node, .string ⟨#[]⟩, .slice none 0 0, .int .i64 1, .int .i64 x.no, .string ⟨#[]⟩, .slice none 0 0, .int .i64 2, .int .i64 0, .string ⟨x.prev.toArray⟩, .slice none 0 0, .int .i64 2, .int .i64 0, .string ⟨x.data.toArray⟩, .slice none 0 0] 80)) fun e w' => ∃ A1 c1, e = .returned (.tuple #[.slice A1 (encB (lV (lkL x))).length c1, .int .i64 (ckE (lV (lkL x)))]) ∧ DatAt w' (.slice A1 (encB (lV (lkL x))).length c1) (encB (lV (lkL x))) ∧ Below W.heap.size W w') := Lib.hid fun W k hk => by
        have hs4 := hs4h.out
        refine (rEncode_any 1 (lV (lkL x)) (.slice (some ⟨k, 0, none⟩) 4 4) (W.alloc (.cells #[.int .i64 1, .int .i64 x.node, .string ⟨#[]⟩, .slice none 0 0, .int .i64 1, .int .i64 x.no, .string ⟨#[]⟩, .slice none 0 0, .int .i64 2, .int .i64 0, .string ⟨x.prev.toArray⟩, .slice none 0 0, .int .i64 2, .int .i64 0, .string ⟨x.data.toArray⟩, .slice none 0 0] 80)) (flat_rs W (lkL x) _ rfl k 4 4 hk rfl (by omega) (by simp [lkL, iV, tV])) hs4.1 (by simp [lV, lkL, iV, tV, dp, dpL]) (by omega)).mono ?_
        unfold EncPost
        rintro e w' ⟨v', rfl, ho, hh, hB⟩
        obtain ⟨A1, c1, rfl⟩ := ho.form
        have hcc := ho.cap
        exact ⟨A1, c1, rfl, ⟨A1, c1, rfl, hcc.1, hcc.2, ho.atO⟩, ((Below.refl W.heap.size W).alloc (Nat.le_refl _) (.cells #[.int .i64 1, .int .i64 x.node, .string ⟨#[]⟩, .slice none 0 0, .int .i64 1, .int .i64 x.no, .string ⟨#[]⟩, .slice none 0 0, .int .i64 2, .int .i64 0, .string ⟨x.prev.toArray⟩, .slice none 0 0, .int .i64 2, .int .i64 0, .string ⟨x.data.toArray⟩, .slice none 0 0] 80)).trans (hB.mono (by simp))⟩
      have HB : Below wr.heap.size wr wr.drew := (Below.refl _ _).drew
      obtain ⟨s0, s1, s2⟩ := hS.out wr (Below.refl _ _)
      have hbh := Lib.hid (hBW.out wr hb.out)
      clear hSS hPP hDD hBW hb ho hk hat5 hs4h
      go_wp2_with fail
      go_region_held3 (fun w' => w'.cell? ⟨g, 0, none⟩ = some (.int .i64 x.node) ∧ w'.cell? ⟨g, 1, none⟩ = some (.int .i64 x.no) ∧ w'.cell? ⟨g, 34, none⟩ = some (.slice A2 x.data.length c2))
        (first
          | exact hS.out _ HB
          | exact hS.out _ (HB.alloc HB.size _)
          | exact hS.out _ (Below.refl _ _)
          | go_keep)
        (first
          | (go_at_call 75; (with_reducible refine (hc1.out _).mono ?_); rintro e w4 ⟨rfl, hb⟩; replace HB := HB.trans (hb.mono HB.size); clear hb)
          | (go_at_call 75; (with_reducible refine (hc2.out _).mono ?_); rintro e w5 ⟨rfl, hb⟩; replace HB := HB.trans (hb.mono HB.size); clear hb)
          | (go_at_call 76; (with_reducible refine (hc3.out _ HB).mono ?_); rintro e w6 ⟨rfl, hb⟩; replace HB := HB.trans (hb.mono HB.size); clear hb)
          | (go_at_call 76; (with_reducible refine (hc4.out _ HB).mono ?_); rintro e w7 ⟨rfl, hb⟩; replace HB := HB.trans (hb.mono HB.size); clear hb)
          | (go_at_call 67; refine (henc.out _ _ rfl).mono ?_; rintro e w9 ⟨A9, c9, rfl, hd9, hb9⟩; replace HB := HB.trans (hb9.mono HB.size); replace hd9 := Lib.hid hd9))
      have HBe := hbh.out.trans (HB.mono hbh.out.size)
      go_wp2
      refine bodyPost_ret (v := .tuple #[.string linkB, .slice A9 (encB (lV (lkL x))).length c9]) (by simp [results, Tryd.results51, go_sem, linkB]) rfl ⟨A9, c9, rfl, hd9.out, HBe⟩
end Go.Proofs.YthokpfegfnpmhaaDoor
