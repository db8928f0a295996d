/- The walks of the reference's Tagged and Hash. -/
import Derived.Test.YthokpfegfnpmhaaDoorRSum
import Derived.Test.YthokpfegfnpmhaaDoorTagH
namespace Go.Proofs.YthokpfegfnpmhaaDoor
open Go.RowKit Sha Cdc
set_option linter.unusedVariables false
set_option linter.unusedSimpArgs false

set_option maxRecDepth 100000 in
set_option maxHeartbeats 2000000 in
theorem rtagged_any (tag : ByteArray) (ht : tag.size ≤ 1000000000) (bs : List UInt8) (n : Nat) (hn : bs.length = n) (hb : n ≤ 10000000000) (A : Option Addr) (c : Nat) (w : World) (h : AtO w A bs) :
    Calls Tryd.prog 71 #[.string tag, .slice A n c] w fun e w' => e = .returned (.agg (dg (tgd tag.data.toList bs))) ∧ Below w.heap.size w w' := by
  have hconv := fun W => Lib.run_convert_string_bytes (P := Tryd.prog) W 9 23 5 tag Tryd.underlying9 Tryd.underlying23 Tryd.underlying5
  have hlen : Hid (tag.data.toList.length = tag.size) := Lib.hid (Array.length_toList ..)
  replace hn := Lib.hid hn
  replace h := Lib.hid h
  have key : Hid (∀ (W0 : World) (k : Nat), k = W0.heap.size → Below w.heap.size w W0 → Calls Tryd.prog 102 #[.slice (some ⟨k, 0, none⟩) tag.size (grownCap W0 tag.size 0 5)] (Lib.bytesWorld W0 5 tag)
      fun e w' => e = .returned (.agg (dg (sha tag.data.toList))) ∧ Below w.heap.size w w' ∧ ∀ j, j < W0.heap.size → w'.heap[j]? = W0.heap[j]?) := Lib.hid (by
    intro W0 k hk hB0
    have hB1 := bytesW_below tag hB0 hB0.size
    have hsz := Lib.bytesWorld_size W0 5 tag
    refine (rsum_dg tag.data.toList tag.size hlen.out (by omega) (some ⟨k, 0, none⟩) _ _ (bytesW_at W0 tag k hk)).mono ?_
    rintro e w' ⟨rfl, hb⟩
    exact ⟨rfl, hB1.trans (hb.mono hB1.size), fun j hj => (hb.block j (by omega)).trans (Lib.bytesWorld_at_old W0 _ tag j hj)⟩)
  have hz0 : Hid (∀ w : World, (w.alloc (.cells ((List.replicate 32 (0 : UInt8)).map by1).toArray 35)).heap[w.heap.size]? = some (.cells ((List.replicate 32 (0 : UInt8)).map by1).toArray 35 (0, 0))) := Lib.hid fun w => heap_alloc_new w _
  go_enter Tryd.func71, Tryd.ntmps71
  go_wp2_with fail
  refine (key.out _ _ (by simp) ((Below.refl _ _).alloc (Nat.le_refl _) _)).mono ?_
  rintro e w2 ⟨rfl, hB2, hk2⟩
  have hd2 := (hk2 w.heap.size (by simp)).trans (hz0.out w)
  clear hk2 hconv key hz0
  replace hd2 := Lib.hid hd2
  have hi2 := Lib.hid (dg_info _ (sha_len tag.data.toList))
  have ho2 := Lib.hid (dg_one (sha tag.data.toList))
  have hs2 := Lib.hid (dg_size (sha tag.data.toList))
  generalize hD : sha tag.data.toList = t at *
  replace hD := Lib.hid hD
  have hr3 : Hid (32 = (dg t).size) := Lib.hid (by rw [hs2.out, ← hD.out, sha_len])
  have htl : Hid (t.length = 32) := Lib.hid (by rw [← hs2.out, ← hr3.out])
  go_wp2_with (first
    | (refine wpList_new_row (by rfl) 35 (.tmp 5) (.tmp 8) (by rfl) (by rfl) (dg t) (by rfl) (by rfl) 35 _ hi2 hr3 ho2 ?_; intro w3 hd3 hz3 hB3; have hBB : Below w.heap.size w w3 := hB2.trans (hB3.mono hB2.size); have hat3 : Hid (∀ o, AtO (w3.alloc o) (some ⟨w2.heap.size, 0, none⟩) t) := Lib.hid (fun o => (dg_at hd3).below ((Below.refl _ _).alloc (Nat.le_refl _) o)); replace hd3 := Lib.hid hd3; replace hz3 := Lib.hid hz3)
    | (at_builtin; refine wpList_appO _ (by rfl) (.tmp 9) (.tmp 10) (by rfl) _ [] (some ⟨w2.heap.size, 0, none⟩) 32 32 t (by rfl) (by rfl) (Own.empty w3 _ rfl) htl.out (hat3.out _) (by simp) ?_; intro v4 w4 ho4 hg4; have hO4 : Out w3 w4 v4 ([] ++ t) := (Out.zero w3 _ rfl).step0 ho4 hg4; replace ho4 := Lib.hid ho4; have hbs4 : AtO w4 A bs := (h.out.below hBB).below hO4.2.2; replace hbs4 := Lib.hid hbs4)
    | (at_builtin; refine wpList_appO _ (by rfl) (.tmp 11) (.tmp 12) (by rfl) _ ([] ++ t) A n c bs (by rfl) (by rfl) ho4.out hn.out hbs4.out (by simp [htl.out]; omega) ?_; intro v5 w5 ho5 hg5; have hO5 := hO4.step0 ho5 hg5; obtain ⟨A5, c5, rfl⟩ := ho5.form; have ha5 := Lib.hid ho5.atO; have hl5 : Hid (([] ++ t ++ bs).length = 32 + n) := Lib.hid (by simp [htl.out, hn.out]); rw [hl5.out]; clear ho5 hg5))
  have hB40 : Below w.heap.size w w5 := hBB.trans (hO5.2.2.mono hBB.size)
  have hlt2 := (Array.getElem?_eq_some_iff.1 hd2.out).1
  have hd4 := (hO5.2.2.block w.heap.size (by have := hB3.size; omega)).trans ((hB3.block w.heap.size hlt2).trans hd2.out)
  replace hd4 := Lib.hid hd4
  rw [List.nil_append] at ha5 hl5
  refine (rsum_dg (t ++ bs) (32 + n) hl5.out (by omega) A5 c5 w5 ha5.out).mono ?_
  rintro e w6 ⟨rfl, hB6⟩
  have hi5 := Lib.hid (dg_info _ (sha_len (t ++ bs)))
  have ho5 := Lib.hid (dg_one (sha (t ++ bs)))
  have hd5 := (hB6.block w.heap.size ((Array.getElem?_eq_some_iff.1 hd4.out).1)).trans hd4.out
  have hB50 := hB40.trans (hB6.mono hB40.size)
  obtain rfl := hD.out
  have hD9 : Hid (sha (sha tag.data.toList ++ bs) = tgd tag.data.toList bs) := Lib.hid rfl
  rw [hD9.out] at hi5 ho5 ⊢
  have hr5 : Hid (32 = (dg (tgd tag.data.toList bs)).size) := Lib.hid (by rw [dg_size, tgd_len])
  generalize ht9 : tgd tag.data.toList bs = t9 at hi5 ho5 hr5 ⊢
  replace ht9 := Lib.hid ht9
  replace hd5 := Lib.hid hd5
  go_wp2_with (refine wpList_set_row (by rfl) 35 (.tmp 4) (.tmp 14) (by rfl) (by rfl) w.heap.size (dg t9) (by rfl) (by rfl) 35 _ hd5.out hi5.out hr5.out ho5.out ?_; intro w7 hd6 hz6 hg6; replace hd6 := Lib.hid hd6)
  refine bodyPost_ret (v := .agg (dg t9)) (results_cell_row rfl _ _ w.heap.size 35 (dg t9) (0, 0) _ rfl hd6.out Tryd.underlying35 (by rfl) hi5.out) rfl ⟨by rw [ht9.out], hB50.grown hg6 hB50.size (fun k e => by have := Option.some.inj e; omega)⟩

set_option maxRecDepth 100000 in
set_option maxHeartbeats 1000000 in
theorem rhash_any (tag : ByteArray) (ht : tag.size ≤ 1000000000) (bs : List UInt8) (n : Nat) (hn : bs.length = n) (hb : n ≤ 10000000000) (A : Option Addr) (c : Nat) (w : World) (h : AtO w A bs) :
    Calls Tryd.prog 87 #[.string tag, .slice A n c] w fun e w' => e = .returned (.int .i64 (hq (tgd tag.data.toList bs))) ∧ Below w.heap.size w w' := by
  have htg := Lib.hid (rtagged_any tag ht bs n hn hb A c w h)
  clear h hn hb
  go_enter Tryd.func87, Tryd.ntmps87
  go_wp2_with fail
  refine htg.out.mono ?_
  rintro e w2 ⟨rfl, hB2⟩
  have hlen := Lib.hid (tgd_len tag.data.toList bs)
  clear htg
  generalize ht9 : tgd tag.data.toList bs = t at hlen ⊢
  replace ht9 := Lib.hid ht9
  have hi2 := Lib.hid (dg_info _ hlen.out)
  have ho2 := Lib.hid (dg_one t)
  have hr2 : Hid (32 = (dg t).size) := Lib.hid (by rw [dg_size, hlen.out])
  obtain ⟨x, hx⟩ : ∃ x, t[0]? = some x := ⟨_, List.getElem?_eq_getElem (by rw [hlen.out]; omega)⟩
  have hz1 : Hid (hz t 1 = x.toNat % 128) := Lib.hid (by rw [hz_succ t 0 _ (top_zero t x hx), tb_nat]; simp [hz, hvf])
  have hxl := x.toNat_lt
  replace hx := Lib.hid hx
  go_wp2_with (refine wpList_new_row (by rfl) 35 (.tmp 5) (.tmp 10) (by rfl) (by rfl) (dg t) (by rfl) (by rfl) 35 _ hi2 hr2 ho2 ?_; intro w3 hd3 hz3 hB3; have hc0 : w3.cell? ⟨w2.heap.size, 0, none⟩ = some (by1 x) := rowAt hd3 hx.out; replace hd3 := Lib.hid hd3; replace hz3 := Lib.hid hz3)
  have hB5 := hB2.trans (hB3.mono hB2.size)
  clear hB2 hB3 hc0
  go_loop [6, 7] (fun s6 s7 => ∃ i : Nat, 1 ≤ i ∧ i ≤ 8 ∧ s7 = .int .i64 i ∧ s6 = .int .i64 (hz t i : Int)) (fun _ s7 => 8 - (intOf s7).toNat)
  case atStart => exact ⟨1, by omega, by omega, rfl, by rw [hz1.out]; go_num⟩
  case round =>
    obtain ⟨i, hi1, hi, rfl, rfl⟩ := hrel
    by_cases hi8 : i < 8
    · obtain ⟨y, hy⟩ : ∃ y, t[i]? = some y := ⟨_, List.getElem?_eq_getElem (by rw [hlen.out]; omega)⟩
      have hcy : w3.cell? ⟨w2.heap.size, i, none⟩ = some (by1 y) := rowAt hd3.out hy
      have hs := Lib.hid (hz_succ t i y ((top_succ t i (by omega)).trans hy))
      have hb := hz_lt t i (by omega)
      have hyl := y.toNat_lt
      generalize hz t i = m at *
      clear hy
      go_wp2_with fail
      go_round
      case rel => exact ⟨i + 1, by omega, by omega, by go_num, by rw [hs.out]; go_num⟩
      case measure => simp [intOf]; omega
    · obtain rfl : i = 8 := by omega
      obtain ⟨y, hy⟩ : ∃ y, (top t)[7]? = some y := ⟨_, List.getElem?_eq_getElem (by rw [top_len, hlen.out]; omega)⟩
      have hs := hz_succ t 7 y hy
      have hb := hz_lt t 7 (by omega)
      have hyl := y.toNat_lt
      have hbd : hz t (7 + 1) < 9223372036854775808 := by omega
      have hq9 : Hid ((hq t : Int) = (hz t (7 + 1) : Int) % 1073741789) := Lib.hid (by show ((hz t (7 + 1) % 1073741789 : Nat) : Int) = _; omega)
      clear hs hb hyl hy
      generalize hz t (7 + 1) = m at *
      go_wp2_with fail
      go_ret
      refine ⟨?_, hB5⟩
      show Ending.returned (Value.int IntKind.i64 ((m : Int) % 1073741789)) = _
      rw [ht9.out, hq9.out]
end Go.Proofs.YthokpfegfnpmhaaDoor
