/- The walk of the reference's Head. -/
import Derived.Test.YthokpfegfnpmhaaDoorClash
import Derived.Test.YthokpfegfnpmhaaDoorRTagged
import Derived.Test.YthokpfegfnpmhaaDoorChainLaw
import Derived.Test.YthokpfegfnpmhaaDoorEqDg
import Derived.Test.YthokpfegfnpmhaaDoorRoundR
import Derived.Lib.QuietBelow
import Derived.BigQuiet
import Derived.LoopTactic
namespace Go.Proofs.YthokpfegfnpmhaaDoor
open Go.RowKit Cdc Sha
set_option linter.unusedVariables false
set_option linter.unusedSimpArgs false

theorem hdC_tx (l : List Lk) : hdC l = tgd (txC l).1.data.toList (txC l).2 := by
  unfold hdC txC
  cases l.getLast? with
  | none => rfl
  | some x => rfl
theorem txC_len {l : List Lk} (hok : ∀ x ∈ l, LkOk x) : (txC l).2.length ≤ 200000 ∧ (txC l).1.size ≤ 100 := by
  unfold txC
  split
  · exact ⟨by simp, (by decide : noneB.size ≤ 100)⟩
  · rename_i x hx
    have h1 := (sm4 (hok x (List.mem_of_getLast? hx))).2
    have h2 := encB_le (lV (lkL x))
    exact ⟨by show (encB (lV (lkL x))).length ≤ 200000; omega, (by decide : linkB.size ≤ 100)⟩

set_option maxRecDepth 100000 in
set_option maxHeartbeats 4000000 in
theorem rhead_any (l : List Lk) (n : Nat) (A : Option Addr) (c : Nat) (w : World) (hn : l.length = n) (hnm : n ≤ 1000000) (hc : n ≤ c) (h : LsAt w A l) (hok : ∀ x ∈ l, LkOk x) :
    Calls Tryd.prog 43 #[.slice A n c] w fun e w' => e = .returned (.agg (dg (hdC l))) ∧ Below w.heap.size w w' := by
  have hz0 : Hid (∀ w : World, (w.alloc (.cells ((List.replicate 32 (0 : UInt8)).map by1).toArray 35)).heap[w.heap.size]? = some (.cells ((List.replicate 32 (0 : UInt8)).map by1).toArray 35 (0, 0))) := Lib.hid fun w => heap_alloc_new w _
  obtain ⟨hl1, hl2⟩ := txC_len hok
  have hT : Hid (∀ V, Below w.heap.size w V → Calls Tryd.prog 51 #[.slice A n c] V fun e w' => ∃ A' c', e = .returned (.tuple #[.string (txC l).1, .slice A' (txC l).2.length c']) ∧ AtO w' A' (txC l).2 ∧ Below V.heap.size V w') := Lib.hid fun V hV => rtext_any l n A c V hn hnm hc (h.below hV) hok
  have hG : Hid (∀ V A' c', AtO V A' (txC l).2 → Calls Tryd.prog 71 #[.string (txC l).1, .slice A' (txC l).2.length c'] V fun e w' => e = .returned (.agg (dg (hdC l))) ∧ Below V.heap.size V w') := Lib.hid fun V A' c' hat => by
    rw [hdC_tx]
    exact rtagged_any (txC l).1 (by omega) (txC l).2 _ rfl (by omega) A' c' V hat
  have hi5 := Lib.hid (dg_info _ (hdC_len l))
  have ho5 := Lib.hid (dg_one (hdC l))
  have hr5 : Hid (32 = (dg (hdC l)).size) := Lib.hid (by rw [dg_size, hdC_len])
  generalize hdC l = q at hG hi5 ho5 hr5 ⊢
  generalize (txC l).1 = tg at hT hG
  generalize (txC l).2 = tx at hT hG
  clear hl1 hl2
  have hB0 : Below w.heap.size w (w.alloc (.cells ((List.replicate 32 (0 : UInt8)).map by1).toArray 35)) := (Below.refl _ _).alloc (Nat.le_refl _) _
  go_enter Tryd.func43, Tryd.ntmps43
  go_wp2_with fail
  have hd := hz0.out w
  refine (hT.out _ hB0).mono ?_
  rintro e w1 ⟨A1, c1, rfl, hat, hb1⟩
  have hd1 := (hb1.block w.heap.size ((Array.getElem?_eq_some_iff.1 hd).1)).trans hd
  have hB1 := hB0.trans (hb1.mono hB0.size)
  go_wp2_with fail
  refine (hG.out _ _ _ hat).mono ?_
  rintro e w2 ⟨rfl, hb2⟩
  have hd2 := Lib.hid ((hb2.block w.heap.size ((Array.getElem?_eq_some_iff.1 hd1).1)).trans hd1)
  have hB2 := hB1.trans (hb2.mono hB1.size)
  clear hT hG hd hd1 hat
  go_wp2_with (refine wpList_set_row (by rfl) 35 (.tmp 2) (.tmp 12) (by rfl) (by rfl) w.heap.size (dg q) (by rfl) (by rfl) 35 _ hd2.out hi5.out hr5.out ho5.out ?_; intro w6 hd6 hz6 hg6; replace hd6 := Lib.hid hd6)
  refine bodyPost_ret (v := .agg (dg q)) (results_cell_row rfl _ _ w.heap.size 35 (dg q) (0, 0) _ rfl hd6.out Tryd.underlying35 (by rfl) hi5.out) rfl ⟨rfl, hB2.grown hg6 hB2.size (fun k e => by have := Option.some.inj e; omega)⟩
end Go.Proofs.YthokpfegfnpmhaaDoor
/- The walk of the reference's Check. -/
namespace Go.Proofs.YthokpfegfnpmhaaDoor
open Go.RowKit Cdc Sha
set_option linter.unusedVariables false
set_option linter.unusedSimpArgs false

theorem rlk_prev {W : World} {g : Nat} {x : Lk} {D : Value} (h : W.heap[g]? = some (.cells (lkA x D) 37 (0, 0))) : W.rangeAt g 2 (x.prev.map by1) := fun j v hj => by
  obtain ⟨y, hy, rfl⟩ : ∃ y, x.prev[j]? = some y ∧ by1 y = v := by simpa using hj
  rw [cell_of_row _ _ _ _ _ _ h]
  have := lkC_prev (D := D) hy
  simpa [lkA] using this
theorem rdg_info (bs : List UInt8) (h : bs.length = 32) : (Tryd.prog.info? 35).map (·.size) = some (bs.map by1).length := by rw [List.length_map, h]; kernel_rfl

set_option maxRecDepth 100000 in
set_option maxHeartbeats 16000000 in
theorem rcheck8_any (l : List Lk) (n : Nat) (A : Option Addr) (c : Nat) (w : World) (hn : l.length = n) (hnm : n ≤ 1000) (hc : n ≤ c) (hA : LsAt w A l) (hok : ∀ x ∈ l, LkOk x) :
    Calls Tryd.prog 42 #[.slice A n c] w fun e w' => e = .returned (.int .i64 (ckC l)) ∧ Below w.heap.size w w' := by
  replace hA := Lib.hid hA
  replace hn := Lib.hid hn
  replace hok := Lib.hid hok
  go_enter Tryd.func42, Tryd.ntmps42
  go_wp2
  go_loopw [3] (fun s wr => ∃ i : Nat, i ≤ n ∧ s = .int .i64 i ∧ Hid (OkTo l i) ∧ Hid (Below w.heap.size w wr)) (fun s _ => n - (intOf s).toNat)
  case atStart => exact ⟨0, Nat.zero_le _, rfl, Lib.hid (okTo_zero l), Lib.hid (Below.refl _ _)⟩
  case round =>
    obtain ⟨k, hk, rfl, hto, hb⟩ := hrel
    by_cases hlt : k < n
    · obtain ⟨x, hx⟩ : ∃ x, l[k]? = some x := ⟨_, List.getElem?_eq_getElem (by rw [hn.out]; omega)⟩
      obtain ⟨y, hy⟩ : ∃ y, l[0]? = some y := ⟨_, List.getElem?_eq_getElem (by rw [hn.out]; omega)⟩
      have hxo := hok.out x (List.mem_of_getElem? hx)
      obtain ⟨b1, o1, D, hAe, hr, A2, c2, hD, _, _, _⟩ := hA.out k x hx
      subst hAe hD
      obtain ⟨b0, o0, D0, hA0, hr0, _⟩ := hA.out 0 y hy
      cases hA0
      have hrw := Lib.hid (range_below hr hb.out)
      have hiL := Lib.hid (lk_info' hxo.p32 (.slice A2 x.data.length c2))
      have hiA := Lib.hid (lk_info hxo.p32 (.slice A2 x.data.length c2))
      have hiS : Hid (35 = (lkA x (.slice A2 x.data.length c2)).size) := Lib.hid (lkA_size hxo.p32 _).symm
      have hiO := Lib.hid (lkA_one x A2 x.data.length c2)
      obtain ⟨q, hq⟩ : ∃ q, hdC (l.take k) = q := ⟨_, rfl⟩
      have hq32 : q.length = 32 := by rw [← hq]; exact hdC_len _
      have hgood : GoodL l k x ↔ x.node = y.node ∧ 0 ≤ x.node ∧ x.node < 24 ∧ x.no = k ∧ x.data.length ≤ 65536 ∧ x.prev = q := by
        constructor
        · intro h; exact ⟨h.node y hy, h.lo, h.hi, h.no, h.data, by rw [← hq]; exact h.prev⟩
        · rintro ⟨h1, h2, h3, h4, h5, h6⟩; exact ⟨fun z hz => by rw [hy] at hz; cases hz; exact h1, h2, h3, h4, h5, by rw [h6, hq]⟩
      have hH : Hid (∀ V, Below wr.heap.size wr V → Calls Tryd.prog 43 #[.slice (some ⟨b1, o1, none⟩) k c] V fun e w' => e = .returned (.agg (q.map by1).toArray) ∧ Below V.heap.size V w') := Lib.hid fun V h => by
        rw [← hq]
        exact rhead_any (l.take k) k _ c V (by rw [List.length_take, hn.out]; omega) (by omega) (by omega) ((hA.out.below (hb.out.trans (h.mono hb.out.size))).take k) (fun z hz => hok.out z (List.mem_of_mem_take hz))
      have hcy : Hid (∀ V, Below wr.heap.size wr V → V.cell? ⟨b1, o1, none⟩ = some (.int .i64 y.node)) := Lib.hid fun V h => by
        have := range_below hr0 (hb.out.trans (h.mono hb.out.size)) 0 (.int .i64 y.node) (by simp [lkC])
        simpa using this
      have q0 : ∀ V, (Op.equalIn 10000 35 (.agg (x.prev.map by1).toArray) (.agg (q.map by1).toArray)).run Tryd.prog V = .ok (decide (x.prev = q)) V := eq_dg x.prev q hxo.p32 hq32
      have i4 := Lib.hid (rdg_info x.prev hxo.p32)
      have hu := Lib.hid Tryd.underlying35
      replace hgood := Lib.hid hgood
      have hnext : Hid (GoodL l k x → OkTo l (k + 1)) := Lib.hid fun h => hto.out.succ hx h
      have hbad : Hid (¬ GoodL l k x → ckC l = 80) := Lib.hid fun h => ckC_bad (not_okL hx h)
      have hkc : k ≤ c := by omega
      clear hr hr0 hq hx hy
      go_wp2_with (first
        | (refine wpList_load_mid (by rfl) 37 (.tmp 16) (by rfl) b1 (o1 + k * 35) (by rfl) (lkC x (.slice A2 x.data.length c2)) _ hrw.out Tryd.underlying37 (by rfl) hiL.out ?_)
        | (refine wpList_new_row' (by rfl) 37 (.tmp 4) (.tmp 17) (by rfl) (by rfl) (lkA x (.slice A2 x.data.length c2)) wr.heap.size (by rfl) rfl (by rfl) 37 _ hiA.out hiS.out hiO.out ?_; intro w3 hd3 hz3 hB3; replace hd3 := Lib.hid hd3; replace hz3 := Lib.hid hz3))
      obtain ⟨g, hg⟩ : ∃ g, wr.heap.size = g := ⟨_, rfl⟩
      have hgl : g < w3.heap.size := by have := hz3.out; omega
      have hbw := Lib.hid (fun dq os => hB3.trans ((below_regrown w3 dq os).mono hB3.size))
      have hrow : Hid (∀ dq os, (Go.Sort.grow (redrawn w3 dq) os).heap[g]? = some (.cells (lkA x (.slice A2 x.data.length c2)) 37 (0, 0))) := Lib.hid fun dq os => ((below_regrown w3 dq os).block g hgl).trans (by rw [← hg]; exact hd3.out)
      rw [hg]
      have s0 := fun dq os => (show (Go.Sort.grow (redrawn w3 dq) os).cell? ⟨g, 0, none⟩ = some (.int .i64 x.node) from by rw [cell_of_row _ _ _ _ _ _ (hrow.out dq os)]; simp [lkA, lkC])
      have s1 := fun dq os => (show (Go.Sort.grow (redrawn w3 dq) os).cell? ⟨g, 1, none⟩ = some (.int .i64 x.no) from by rw [cell_of_row _ _ _ _ _ _ (hrow.out dq os)]; simp [lkA, lkC])
      have s2 := fun dq os => (show (Go.Sort.grow (redrawn w3 dq) os).cell? ⟨g, 34, none⟩ = some (.slice A2 x.data.length c2) from by rw [cell_of_row _ _ _ _ _ _ (hrow.out dq os)]; have := lkC_data hxo.p32 (.slice A2 x.data.length c2); simpa [lkA] using this)
      have s3 := fun dq os => hcy.out _ (hbw.out dq os)
      have r4 : Hid (∀ V, (∃ p : Regrown, V = Go.Sort.grow (redrawn w3 p.d) p.os) → V.rangeAt g 2 (x.prev.map by1)) := Lib.hid (by rintro V ⟨r, rfl⟩; exact rlk_prev (hrow.out _ _))
      have cH := fun dq os => Calls.regrown_of (hH.out _ (hbw.out dq os))
      have hbe : Hid (∀ dq os, Below w.heap.size w (Go.Sort.grow (redrawn w3 dq) os)) := Lib.hid fun dq os => hb.out.trans ((hbw.out dq os).mono hb.out.size)
      obtain ⟨xn, xo, xp, xd⟩ := x
      obtain ⟨nd, hnd⟩ : ∃ nd, xd.length = nd := ⟨_, rfl⟩
      obtain ⟨yn, hyn⟩ : ∃ yn, y.node = yn := ⟨_, rfl⟩
      dsimp only at hgood s0 s1 s2 s3 r4 i4 q0
      rw [hnd] at hgood s2
      rw [hyn] at hgood s3
      replace hg := Lib.hid hg
      clear hrow hH hcy hbw hd3 hz3 hrw hiL hiA hiS hiO hxo hnd hyn hB3 hgl
      by_cases h2 : xn < 0
      ·
        have e2 : decide (xn < 0) = true := decide_eq_true h2
        refine wp_region_quiet_below (by kernel_rfl) (by kernel_rfl) ?_
        repeat (first
          | (go_big_quiet_want; refine quiet_load_mid 35 (.tmp 48) (by rfl) g 2 (by rfl) (xp.map by1) _ r4.out hu.out (by rfl) i4.out ?_; simp only [Act.put, List.setIfInBounds_toArray, List.set_cons_zero, List.set_cons_succ]; go_big_quiet_on)
          | go_big_quiet_step (with_reducible exact cH _ _))
        refine wpQuiet_nil ?_
        intro _ hw2
        obtain ⟨⟨dq, osq⟩, rfl⟩ := hw2
        have HBe := hbe.out dq osq
        clear cH s0 s1 s2 s3
        have hres := hbad.out (fun hg => by have hh := hgood.out.1 hg; omega)
        go_wp2
        refine bodyPost_ret (v := .int .i64 80) (by simp [results, Tryd.results42, go_sem]) rfl ⟨by first | rfl | rw [hres], HBe⟩
      ·
        have e2 : decide (xn < 0) = false := decide_eq_false h2
        by_cases h3 : 24 ≤ xn
        ·
          have e3 : decide (24 ≤ xn) = true := decide_eq_true h3
          refine wp_region_quiet_below (by kernel_rfl) (by kernel_rfl) ?_
          repeat (first
            | (go_big_quiet_want; refine quiet_load_mid 35 (.tmp 48) (by rfl) g 2 (by rfl) (xp.map by1) _ r4.out hu.out (by rfl) i4.out ?_; simp only [Act.put, List.setIfInBounds_toArray, List.set_cons_zero, List.set_cons_succ]; go_big_quiet_on)
            | go_big_quiet_step (with_reducible exact cH _ _))
          refine wpQuiet_nil ?_
          intro _ hw2
          obtain ⟨⟨dq, osq⟩, rfl⟩ := hw2
          have HBe := hbe.out dq osq
          clear cH s0 s1 s2 s3
          have hres := hbad.out (fun hg => by have hh := hgood.out.1 hg; omega)
          go_wp2
          refine bodyPost_ret (v := .int .i64 80) (by simp [results, Tryd.results42, go_sem]) rfl ⟨by first | rfl | rw [hres], HBe⟩
        ·
          have e3 : decide (24 ≤ xn) = false := decide_eq_false h3
          by_cases h1 : xn = yn
          · subst h1
            have e1 : (xn != xn) = false := by simp
            by_cases h4 : xo = (k : Int)
            · subst h4
              have e4 : ((k : Int) != (k : Int)) = false := by simp
              by_cases h5 : 65536 < (nd : Int)
              ·
                have e5 : decide (65536 < (nd : Int)) = true := decide_eq_true h5
                refine wp_region_quiet_below (by kernel_rfl) (by kernel_rfl) ?_
                repeat (first
                  | (go_big_quiet_want; refine quiet_load_mid 35 (.tmp 48) (by rfl) g 2 (by rfl) (xp.map by1) _ r4.out hu.out (by rfl) i4.out ?_; simp only [Act.put, List.setIfInBounds_toArray, List.set_cons_zero, List.set_cons_succ]; go_big_quiet_on)
                  | go_big_quiet_step (with_reducible exact cH _ _))
                refine wpQuiet_nil ?_
                intro _ hw2
                obtain ⟨⟨dq, osq⟩, rfl⟩ := hw2
                have HBe := hbe.out dq osq
                clear cH s0 s1 s2 s3
                have hres := hbad.out (fun hg => by have hh := hgood.out.1 hg; omega)
                go_wp2
                refine bodyPost_ret (v := .int .i64 80) (by simp [results, Tryd.results42, go_sem]) rfl ⟨by first | rfl | rw [hres], HBe⟩
              ·
                have e5 : decide (65536 < (nd : Int)) = false := decide_eq_false h5
                by_cases h6 : xp = q
                · subst h6
                  rw [decide_eq_true rfl] at q0
                  refine wp_region_quiet_below (by kernel_rfl) (by kernel_rfl) ?_
                  repeat (first
                    | (go_big_quiet_want; refine quiet_load_mid 35 (.tmp 48) (by rfl) g 2 (by rfl) (xp.map by1) _ r4.out hu.out (by rfl) i4.out ?_; simp only [Act.put, List.setIfInBounds_toArray, List.set_cons_zero, List.set_cons_succ]; go_big_quiet_on)
                    | go_big_quiet_step (with_reducible exact cH _ _))
                  refine wpQuiet_nil ?_
                  intro _ hw2
                  obtain ⟨⟨dq, osq⟩, rfl⟩ := hw2
                  have HBe := hbe.out dq osq
                  clear cH s0 s1 s2 s3
                  have hnx := Lib.hid (hnext.out (hgood.out.2 ⟨by trivial, by omega, by omega, by trivial, by omega, by trivial⟩))
                  replace HBe := Lib.hid HBe
                  go_wp2
                  go_roundw
                  case rel => exact ⟨k + 1, by omega, by go_num, hnx, HBe⟩
                  case measure => simp [intOf]; omega
                ·
                  rw [decide_eq_false h6] at q0
                  refine wp_region_quiet_below (by kernel_rfl) (by kernel_rfl) ?_
                  repeat (first
                    | (go_big_quiet_want; refine quiet_load_mid 35 (.tmp 48) (by rfl) g 2 (by rfl) (xp.map by1) _ r4.out hu.out (by rfl) i4.out ?_; simp only [Act.put, List.setIfInBounds_toArray, List.set_cons_zero, List.set_cons_succ]; go_big_quiet_on)
                    | go_big_quiet_step (with_reducible exact cH _ _))
                  refine wpQuiet_nil ?_
                  intro _ hw2
                  obtain ⟨⟨dq, osq⟩, rfl⟩ := hw2
                  have HBe := hbe.out dq osq
                  clear cH s0 s1 s2 s3
                  have hres := hbad.out (fun hg => by have hh := hgood.out.1 hg; exact h6 hh.2.2.2.2.2)
                  go_wp2
                  refine bodyPost_ret (v := .int .i64 80) (by simp [results, Tryd.results42, go_sem]) rfl ⟨by first | rfl | rw [hres], HBe⟩
            ·
              have e4 : (xo != (k : Int)) = true := by simpa using h4
              refine wp_region_quiet_below (by kernel_rfl) (by kernel_rfl) ?_
              repeat (first
                | (go_big_quiet_want; refine quiet_load_mid 35 (.tmp 48) (by rfl) g 2 (by rfl) (xp.map by1) _ r4.out hu.out (by rfl) i4.out ?_; simp only [Act.put, List.setIfInBounds_toArray, List.set_cons_zero, List.set_cons_succ]; go_big_quiet_on)
                | go_big_quiet_step (with_reducible exact cH _ _))
              refine wpQuiet_nil ?_
              intro _ hw2
              obtain ⟨⟨dq, osq⟩, rfl⟩ := hw2
              have HBe := hbe.out dq osq
              clear cH s0 s1 s2 s3
              have hres := hbad.out (fun hg => by have hh := hgood.out.1 hg; exact h4 hh.2.2.2.1)
              go_wp2
              refine bodyPost_ret (v := .int .i64 80) (by simp [results, Tryd.results42, go_sem]) rfl ⟨by first | rfl | rw [hres], HBe⟩
          ·
            have e1 : (xn != yn) = true := by simpa using h1
            refine wp_region_quiet_below (by kernel_rfl) (by kernel_rfl) ?_
            repeat (first
              | (go_big_quiet_want; refine quiet_load_mid 35 (.tmp 48) (by rfl) g 2 (by rfl) (xp.map by1) _ r4.out hu.out (by rfl) i4.out ?_; simp only [Act.put, List.setIfInBounds_toArray, List.set_cons_zero, List.set_cons_succ]; go_big_quiet_on)
              | go_big_quiet_step (with_reducible exact cH _ _))
            refine wpQuiet_nil ?_
            intro _ hw2
            obtain ⟨⟨dq, osq⟩, rfl⟩ := hw2
            have HBe := hbe.out dq osq
            clear cH s0 s1 s2 s3
            have hres := hbad.out (fun hg => by have hh := hgood.out.1 hg; exact h1 hh.1)
            go_wp2
            refine bodyPost_ret (v := .int .i64 80) (by simp [results, Tryd.results42, go_sem]) rfl ⟨by first | rfl | rw [hres], HBe⟩
    · have hall : ckC l = 0 := ckC_ok (hto.out.all (by rw [hn.out]; omega))
      have HBe := hb.out
      replace hall := Lib.hid hall
      go_wp2
      refine bodyPost_ret (v := .int .i64 0) (by simp [results, Tryd.results42, go_sem]) rfl ⟨by rw [hall.out], HBe⟩
end Go.Proofs.YthokpfegfnpmhaaDoor
