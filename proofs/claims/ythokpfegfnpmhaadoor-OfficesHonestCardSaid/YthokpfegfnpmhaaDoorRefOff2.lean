/- The walks of the reference's Find and Announce of offices. -/
import Derived.Test.YthokpfegfnpmhaaDoorRefOff
namespace Go.Proofs.YthokpfegfnpmhaaDoor
open Go.RowKit Go.Shelf Jac Cdc Sha
set_option linter.unusedVariables false
set_option linter.unusedSimpArgs false

theorem list32 {α : Type} (l : List α) (h : l.length = 32) : ∃ p0 p1 p2 p3 p4 p5 p6 p7 p8 p9 p10 p11 p12 p13 p14 p15 p16 p17 p18 p19 p20 p21 p22 p23 p24 p25 p26 p27 p28 p29 p30 p31 : α, l = [p0, p1, p2, p3, p4, p5, p6, p7, p8, p9, p10, p11, p12, p13, p14, p15, p16, p17, p18, p19, p20, p21, p22, p23, p24, p25, p26, p27, p28, p29, p30, p31] := by
  match l, h with
  | [p0, p1, p2, p3, p4, p5, p6, p7, p8, p9, p10, p11, p12, p13, p14, p15, p16, p17, p18, p19, p20, p21, p22, p23, p24, p25, p26, p27, p28, p29, p30, p31], _ => exact ⟨p0, p1, p2, p3, p4, p5, p6, p7, p8, p9, p10, p11, p12, p13, p14, p15, p16, p17, p18, p19, p20, p21, p22, p23, p24, p25, p26, p27, p28, p29, p30, p31, rfl⟩
set_option maxRecDepth 100000 in
theorem built_po (no : Int) (r : List UInt8) (h : r.length = 32) : Tryd.prog.built 49 [(0, .int .i64 no), (1, .agg (dg r))] = some (poA ⟨no, r, 0, 0⟩) := by
  obtain ⟨p0, p1, p2, p3, p4, p5, p6, p7, p8, p9, p10, p11, p12, p13, p14, p15, p16, p17, p18, p19, p20, p21, p22, p23, p24, p25, p26, p27, p28, p29, p30, p31, rfl⟩ := list32 r h
  kernel_rfl

set_option maxRecDepth 100000 in
set_option maxHeartbeats 4000000 in
theorem rofind_any (key : Int) (l : List Po) (n : Nat) (A : Option Addr) (c : Nat) (w : World) (hn : l.length = n) (hnm : n ≤ 1000000) (hc : n ≤ c) (hls : PsAt w A l) (hp : ∀ x ∈ l, x.root.length = 32) :
    Calls Tryd.prog 35 #[.int .i64 key, .slice A n c] w fun e w' => (∃ (i j : Nat) (ok : Bool), e = .returned (.tuple #[.int .i64 i, .int .i64 j, .bool ok]) ∧ FindP key l i j ok) ∧ Below w.heap.size w w' := by
  replace hls := Lib.hid hls
  replace hp := Lib.hid hp
  replace hn := Lib.hid hn
  go_enter Tryd.func35, Tryd.ntmps35
  go_wp2_with fail
  go_loopw [7] (fun s7 wr => ∃ (i : Nat), i ≤ n ∧ s7 = .int .i64 (i : Int) ∧ Below w.heap.size w wr ∧ Hid (∀ (i' j' : Nat) (a' b' : Po), i' < j' → i' < i → l[i']? = some a' → l[j']? = some b' → cvP key a' b' = false)) (fun s7 _ => n - (intOf s7).toNat)
  case atStart => exact ⟨0, Nat.zero_le _, rfl, Below.refl _ _, Lib.hid (fun i' j' a' b' _ h => by omega)⟩
  case round =>
    obtain ⟨i, hin, rfl, hB, hno⟩ := hrel
    by_cases hlt : i < n
    · obtain ⟨a, ha⟩ : ∃ a, l[i]? = some a := ⟨_, List.getElem?_eq_getElem (by rw [hn.out]; exact hlt)⟩
      go_wp2_with fail
      go_loopw [8] (fun s8 wr2 => ∃ (j : Nat), i + 1 ≤ j ∧ j ≤ n ∧ s8 = .int .i64 (j : Int) ∧ Below w.heap.size w wr2 ∧ Hid (∀ (i' j' : Nat) (a' b' : Po), i' < j' → (i' < i ∨ (i' = i ∧ j' < j)) → l[i']? = some a' → l[j']? = some b' → cvP key a' b' = false)) (fun s8 _ => n - (intOf s8).toNat)
      case atStart => exact ⟨i + 1, Nat.le_refl _, hlt, by go_num, hB, Lib.hid (fun i' j' a' b' h1 h2 h3 h4 => hno.out i' j' a' b' h1 (by omega) h3 h4)⟩
      case round =>
        clear hB hno
        obtain ⟨j, hij, hjn, rfl, hB, hno⟩ := hrel
        by_cases hlt2 : j < n
        · obtain ⟨b, hb⟩ : ∃ b, l[j]? = some b := ⟨_, List.getElem?_eq_getElem (by rw [hn.out]; exact hlt2)⟩
          have hpa := hp.out a (List.mem_of_getElem? ha)
          have hpb := hp.out b (List.mem_of_getElem? hb)
          obtain ⟨g, o, hA, hgl, hra⟩ := hls.out.below hB i a ha
          obtain ⟨g', o', hA', _, hrb⟩ := hls.out.below hB j b hb
          subst hA
          obtain ⟨rfl, rfl⟩ : g = g' ∧ o = o' := by injection hA' with h; injection h with h1 h2; exact ⟨h1, h2⟩
          have i1 := Lib.hid (po_info' hpa)
          have i2 := Lib.hid (po_info' hpb)
          have i3 : (0 : Int) ≤ (i : Int) := by omega
          have i4 : (i : Int) < (n : Int) := by omega
          have i5 : (0 : Int) ≤ (j : Int) := by omega
          have i6 : (j : Int) < (n : Int) := by omega
          have hS : Hid (∀ V, Below wr.heap.size wr V → V.rangeAt g (o + i * 35) (poC a) ∧ V.rangeAt g (o + j * 35) (poC b)) := Lib.hid fun V hV => ⟨range_belowB hra hgl hV, range_belowB hrb hgl hV⟩
          have HB : Below wr.heap.size wr wr.drew := (Below.refl _ _).drew
          obtain ⟨res, hr9⟩ : ∃ res, cvP key a b = res := ⟨_, rfl⟩
          have kC : Hid (∀ V, Calls Tryd.prog 33 #[.int .i64 key, .agg (poC a).toArray, .agg (poC b).toArray] V fun e w' => e = .returned (.bool res) ∧ Below V.heap.size V w') := Lib.hid fun V => hr9 ▸ roconvict_any key a b hpa hpb V
          replace hr9 := Lib.hid hr9
          replace ha := Lib.hid ha
          replace hb := Lib.hid hb
          clear hra hrb hpa hpb hA'
          go_wp2_with fail
          refine wp_region_held_drew (S := fun w' => w'.rangeAt g (o + i * 35) (poC a) ∧ w'.rangeAt g (o + j * 35) (poC b)) (by kernel_rfl) (by exact hS.out _ HB) (fun hHeld => ?_)
          refine wpAnyH_take (i := 0) (oi := { dst := some 23, op := Op.move (Operand.tmp 0), type := 3, pos := "ref.go:57", after := #[], guard := none }) (v := ?_) rfl (by kernel_rfl) (by kernel_rfl) (by kernel_rfl) (fun _ _ _ h => h) (Or.inl ⟨by rfl, ?hy0⟩) hHeld ?rest0
          case hy0 =>
            intro w hSw
            try dsimp only at hSw
            go_simp
            try with_reducible rfl
          try simp only [Act.put, List.setIfInBounds_toArray, List.set_cons_zero, List.set_cons_succ]
          refine wpAnyH_take (i := 1) (oi := { dst := some 24, op := Op.move (Operand.tmp 1), type := 53, pos := "ref.go:57", after := #[], guard := none }) (v := ?_) rfl (by kernel_rfl) (by kernel_rfl) (by kernel_rfl) (fun _ _ _ h => h) (Or.inl ⟨by rfl, ?hy1⟩) hHeld ?rest1
          case hy1 =>
            intro w hSw
            try dsimp only at hSw
            go_simp
            try with_reducible rfl
          try simp only [Act.put, List.setIfInBounds_toArray, List.set_cons_zero, List.set_cons_succ]
          refine wpAnyH_take (i := 2) (oi := { dst := some 25, op := Op.move (Operand.tmp 7), type := 3, pos := "ref.go:57", after := #[], guard := none }) (v := ?_) rfl (by kernel_rfl) (by kernel_rfl) (by kernel_rfl) (fun _ _ _ h => h) (Or.inl ⟨by rfl, ?hy2⟩) hHeld ?rest2
          case hy2 =>
            intro w hSw
            try dsimp only at hSw
            go_simp
            try with_reducible rfl
          try simp only [Act.put, List.setIfInBounds_toArray, List.set_cons_zero, List.set_cons_succ]
          refine wpAnyH_take (i := 3) (oi := { dst := some 26, op := Op.indexAddr 53 (Operand.tmp 24) (Operand.tmp 25), type := 0, pos := "ref.go:57", after := #[{ on := 1, ground := Ground.data }, { on := 2, ground := Ground.data }], guard := none }) (v := ?_) rfl (by kernel_rfl) (by kernel_rfl) (by kernel_rfl) (fun _ _ _ h => h) (Or.inl ⟨by rfl, ?hy3⟩) hHeld ?rest3
          case hy3 =>
            intro w hSw
            try dsimp only at hSw
            go_simp
            try with_reducible rfl
          try simp only [Act.put, List.setIfInBounds_toArray, List.set_cons_zero, List.set_cons_succ]
          refine wpAnyH_take (i := 4) (oi := { dst := some 27, op := Op.load 49 (Operand.tmp 26), type := 49, pos := "ref.go:57", after := #[{ on := 3, ground := Ground.data }], guard := none }) (v := _) rfl (by kernel_rfl) (by kernel_rfl) (by kernel_rfl) (fun _ _ _ h => h) (yieldsIf_load_mid (by rfl) 49 (.tmp 26) rfl g (o + i * 35) rfl (poC a) _ (fun _ h => h.1) Tryd.underlying49 rfl i1.out) hHeld ?_
          try simp only [Act.put, List.setIfInBounds_toArray, List.set_cons_zero, List.set_cons_succ]
          refine wpAnyH_take (i := 5) (oi := { dst := some 28, op := Op.move (Operand.tmp 1), type := 53, pos := "ref.go:57", after := #[], guard := none }) (v := ?_) rfl (by kernel_rfl) (by kernel_rfl) (by kernel_rfl) (fun _ _ _ h => h) (Or.inl ⟨by rfl, ?hy5⟩) hHeld ?rest5
          case hy5 =>
            intro w hSw
            try dsimp only at hSw
            go_simp
            try with_reducible rfl
          try simp only [Act.put, List.setIfInBounds_toArray, List.set_cons_zero, List.set_cons_succ]
          refine wpAnyH_take (i := 6) (oi := { dst := some 29, op := Op.move (Operand.tmp 8), type := 3, pos := "ref.go:57", after := #[], guard := none }) (v := ?_) rfl (by kernel_rfl) (by kernel_rfl) (by kernel_rfl) (fun _ _ _ h => h) (Or.inl ⟨by rfl, ?hy6⟩) hHeld ?rest6
          case hy6 =>
            intro w hSw
            try dsimp only at hSw
            go_simp
            try with_reducible rfl
          try simp only [Act.put, List.setIfInBounds_toArray, List.set_cons_zero, List.set_cons_succ]
          refine wpAnyH_take (i := 7) (oi := { dst := some 30, op := Op.indexAddr 53 (Operand.tmp 28) (Operand.tmp 29), type := 0, pos := "ref.go:57", after := #[{ on := 5, ground := Ground.data }, { on := 6, ground := Ground.data }], guard := none }) (v := ?_) rfl (by kernel_rfl) (by kernel_rfl) (by kernel_rfl) (fun _ _ _ h => h) (Or.inl ⟨by rfl, ?hy7⟩) hHeld ?rest7
          case hy7 =>
            intro w hSw
            try dsimp only at hSw
            go_simp
            try with_reducible rfl
          try simp only [Act.put, List.setIfInBounds_toArray, List.set_cons_zero, List.set_cons_succ]
          refine wpAnyH_take (i := 8) (oi := { dst := some 31, op := Op.load 49 (Operand.tmp 30), type := 49, pos := "ref.go:57", after := #[{ on := 7, ground := Ground.data }], guard := none }) (v := _) rfl (by kernel_rfl) (by kernel_rfl) (by kernel_rfl) (fun _ _ _ h => h) (yieldsIf_load_mid (by rfl) 49 (.tmp 30) rfl g (o + j * 35) rfl (poC b) _ (fun _ h => h.2) Tryd.underlying49 rfl i2.out) hHeld ?_
          try simp only [Act.put, List.setIfInBounds_toArray, List.set_cons_zero, List.set_cons_succ]
          refine wpAnyH_ready (rs := [9]) (by kernel_rfl) (by simp) (AllReadyH.cons (o := { dst := some 32, op := Op.call { callee := Callee.value (Operand.func 33), args := #[Operand.tmp 23, Operand.tmp 27, Operand.tmp 31], argTypes := #[3, 49, 49] }, type := 4, pos := "ref.go:57", after := #[{ on := 0, ground := Ground.data }, { on := 4, ground := Ground.data }, { on := 8, ground := Ground.data }], guard := none }) rfl (fun K hK => ?_) AllReadyH.nil)
          go_simp
          go_at_call 33
          refine (kC.out _).mono ?_
          rintro e w4 ⟨rfl, hbb⟩
          replace HB := HB.trans (hbb.mono HB.size)
          clear hbb
          refine hK.out _ _ (by exact hS.out _ HB) (fun hHeld' => ?_)
          clear hK K hHeld
          have hHeld := hHeld'
          clear hHeld'
          try simp only [Act.put, List.setIfInBounds_toArray, List.set_cons_zero, List.set_cons_succ]
          refine wpAnyH_done (by kernel_rfl) ?_ _
          have hB2 := hB.trans (HB.mono hB.size)
          clear hS HB kC
          cases res with
          | false =>
            go_wp2_with fail
            go_roundw
            case rel => exact ⟨j + 1, by omega, by omega, by go_num, hB2, Lib.hid (fun i' j' a' b' h1 h2 h3 h4 => by
              by_cases e : i' = i ∧ j' = j
              · obtain ⟨rfl, rfl⟩ := e
                obtain rfl : a = a' := Option.some.inj (ha.out.symm.trans h3)
                obtain rfl : b = b' := Option.some.inj (hb.out.symm.trans h4)
                exact hr9.out
              · exact hno.out i' j' a' b' h1 (by omega) h3 h4)⟩
            case measure => simp [intOf]; omega
          | true =>
            go_wp2_with fail
            refine bodyPost_ret (v := .tuple #[.int .i64 i, .int .i64 j, .bool true]) (by simp [results, Tryd.results35, go_sem]) rfl ⟨⟨i, j, true, rfl, .inl ⟨rfl, by omega, a, b, ha.out, hb.out, hr9.out, fun i' j' a' b' h1 h2 h3 h4 => hno.out i' j' a' b' h1 h2 h3 h4⟩⟩, hB2⟩
        · obtain rfl : j = n := by omega
          go_wp2_with fail
          go_roundw
          case rel => exact ⟨i + 1, by omega, by go_num, hB, Lib.hid (fun i' j' a' b' h1 h2 h3 h4 => hno.out i' j' a' b' h1 (by
            have := (List.getElem?_eq_some_iff.1 h4).1
            rw [hn.out] at this
            omega) h3 h4)⟩
          case measure => simp [intOf]; omega
    · obtain rfl : i = n := by omega
      go_wp2_with fail
      refine bodyPost_ret (v := .tuple #[.int .i64 0, .int .i64 0, .bool false]) (by simp [results, Tryd.results35, go_sem]) rfl ⟨⟨0, 0, false, rfl, .inr ⟨rfl, rfl, rfl, fun i' j' a' b' h1 h3 h4 => hno.out i' j' a' b' h1 (by
        have := (List.getElem?_eq_some_iff.1 h3).1
        rw [hn.out] at this
        omega) h3 h4⟩⟩, hB⟩
set_option maxRecDepth 100000 in
set_option maxHeartbeats 4000000 in
theorem roann_key (x : Int) (c : Cal) (n cp : Nat) (A : Option Addr) (w : World) (h : ¬ AnIn x) :
    Calls Tryd.prog 27 #[.int .i64 x, .agg #[.int .i64 c.no, .slice A n cp]] w fun e w' => e = .returned (.tuple #[.agg (poA poZ), .int .i64 110]) ∧ Below w.heap.size w w' := by
  have hiZ := Lib.hid (po_info' (p := poZ) zero32_len)
  have hiZ2 := Lib.hid (po_info (p := poZ) zero32_len)
  have hoZ := Lib.hid (poA_one poZ)
  have hB0 : Below w.heap.size w ((w.alloc (.cells #[.int .i64 c.no, .slice A n cp] 45)).alloc (.cells (poA poZ) 49)) := ((Below.refl _ _).alloc (Nat.le_refl _) _).alloc (by simp) _
  have hz0 := heap_alloc2_new w (.cells #[.int .i64 c.no, .slice A n cp] 45) (.cells (poA poZ) 49)
  replace hz0 := Lib.hid hz0
  by_cases h1 : x < 1
  · clear h
    go_enter Tryd.func27, Tryd.ntmps27
    go_wp2_with (refine wpList_set_row (by rfl) 49 (.tmp 4) (.tmp 15) (by rfl) (by rfl) (w.heap.size + 1) (poA poZ) (by rfl) (by rfl) 49 _ hz0.out hiZ2.out rfl hoZ.out ?_; intro w8 hd8 hz8 hg8)
    refine bodyPost_ret (v := .tuple #[.agg (poC poZ).toArray, .int .i64 110]) (results_mid_tmp rfl _ _ (w.heap.size + 1) (poC poZ) _ _ rfl rfl (po_row hd8) Tryd.underlying49 (by rfl) hiZ.out) rfl ⟨rfl, hB0.grown hg8 hB0.size (fun k e => by have := Option.some.inj e; omega)⟩
  · have h2 : 1073741788 < x := by
      unfold AnIn at h
      omega
    clear h
    go_enter Tryd.func27, Tryd.ntmps27
    go_wp2_with (refine wpList_set_row (by rfl) 49 (.tmp 4) (.tmp 15) (by rfl) (by rfl) (w.heap.size + 1) (poA poZ) (by rfl) (by rfl) 49 _ hz0.out hiZ2.out rfl hoZ.out ?_; intro w8 hd8 hz8 hg8)
    refine bodyPost_ret (v := .tuple #[.agg (poC poZ).toArray, .int .i64 110]) (results_mid_tmp rfl _ _ (w.heap.size + 1) (poC poZ) _ _ rfl rfl (po_row hd8) Tryd.underlying49 (by rfl) hiZ.out) rfl ⟨rfl, hB0.grown hg8 hB0.size (fun k e => by have := Option.some.inj e; omega)⟩

set_option maxRecDepth 100000 in
set_option maxHeartbeats 4000000 in
theorem roann_cal (x : Int) (c : Cal) (n cp : Nat) (A : Option Addr) (w : World) (hn : c.fx.length = n) (hc : n ≤ cp) (hA : FxAt w A c.fx) (hI : ∀ f ∈ c.fx, FxI f) (h : AnIn x) (hno : ¬ CalOk c) :
    Calls Tryd.prog 27 #[.int .i64 x, .agg #[.int .i64 c.no, .slice A n cp]] w fun e w' => e = .returned (.tuple #[.agg (poA poZ), .int .i64 350]) ∧ Below w.heap.size w w' := by
  have hiZ := Lib.hid (po_info' (p := poZ) zero32_len)
  have hiZ2 := Lib.hid (po_info (p := poZ) zero32_len)
  have hoZ := Lib.hid (poA_one poZ)
  have hB0 : Below w.heap.size w ((w.alloc (.cells #[.int .i64 c.no, .slice A n cp] 45)).alloc (.cells (poA poZ) 49)) := ((Below.refl _ _).alloc (Nat.le_refl _) _).alloc (by simp) _
  have hz0 := heap_alloc2_new w (.cells #[.int .i64 c.no, .slice A n cp] 45) (.cells (poA poZ) 49)
  have h1 : ¬ x < 1 := by have := h.1; omega
  have h2 : ¬ 1073741788 < x := by have := h.2; omega
  have hD := rcdig_any c n cp A ((w.alloc (.cells #[.int .i64 c.no, .slice A n cp] 45)).alloc (.cells (poA poZ) 49)) hn hc (hA.below hB0) hI
  have hb0 := heap_alloc2_old w (.cells #[.int .i64 c.no, .slice A n cp] 45) (.cells (poA poZ) 49)
  have hlb := (Array.getElem?_eq_some_iff.1 hb0).1
  have hlz := (Array.getElem?_eq_some_iff.1 hz0).1
  have hlen := calD_len c
  have hE : calE c = 350 := if_neg hno
  rw [hE] at hD
  generalize calD c = D at hD hlen
  have hiD := Lib.hid (dg_info D hlen)
  have hoD := Lib.hid (dg_one D)
  have hsD : Hid (32 = (dg D).size) := Lib.hid (by rw [dg_size, hlen])
  obtain ⟨no, hno9⟩ : ∃ m, c.no = m := ⟨_, rfl⟩
  rw [hno9] at hD hB0 hb0 hz0 hlb hlz ⊢
  replace hD := Lib.hid hD
  replace hz0 := Lib.hid hz0
  clear h hn hc hA hI hno hE hno9 hb0 hlb
  go_enter Tryd.func27, Tryd.ntmps27
  go_wp2_with fail
  refine hD.out.mono ?_
  rintro e w1 ⟨rfl, hb⟩
  have hB1 := hB0.trans (hb.mono hB0.size)
  have hz1 := (hb.block (w.heap.size + 1) hlz).trans hz0.out
  have hl1 := (Array.getElem?_eq_some_iff.1 hz1).1
  replace hz1 := Lib.hid hz1
  clear hb hD hB0 hz0 hlz
  go_wp2_with (first
    | (refine wpList_new_row' (by rfl) 35 (.tmp 6) (.tmp 19) (by rfl) (by rfl) (dg D) w1.heap.size (by rfl) rfl (by rfl) 35 _ hiD.out hsD.out hoD.out ?_; intro w2 hd2 hz2 hB2; have hB3 := hB1.trans (hB2.mono hB1.size); have hz3 := Lib.hid ((hB2.block (w.heap.size + 1) hl1).trans hz1.out); clear hd2 hz2 hB2 hB1 hl1)
    | (refine wpList_set_row (by rfl) 49 (.tmp 4) (.tmp 23) (by rfl) (by rfl) (w.heap.size + 1) (poA poZ) (by rfl) (by rfl) 49 _ hz3.out hiZ2.out rfl hoZ.out ?_; intro w8 hd8 hz8 hg8))
  refine bodyPost_ret (v := .tuple #[.agg (poC poZ).toArray, .int .i64 350]) (results_mid_tmp rfl _ _ (w.heap.size + 1) (poC poZ) _ _ rfl rfl (po_row hd8) Tryd.underlying49 (by rfl) hiZ.out) rfl ⟨rfl, hB3.grown hg8 hB3.size (fun k e => by have := Option.some.inj e; omega)⟩

set_option maxRecDepth 100000 in
set_option maxHeartbeats 4000000 in
theorem roann_ok (x : Int) (c : Cal) (n cp : Nat) (A : Option Addr) (w : World) (hn : c.fx.length = n) (hc : n ≤ cp) (hA : FxAt w A c.fx) (hI : ∀ f ∈ c.fx, FxI f) (h : AnIn x) (hok : CalOk c) :
    Calls Tryd.prog 27 #[.int .i64 x, .agg #[.int .i64 c.no, .slice A n cp]] w fun e w' => e = .returned (.tuple #[.agg (poA (poS x c.no (calD c))), .int .i64 0]) ∧ Below w.heap.size w w' := by
  have hiZ := Lib.hid (po_info' (p := poZ) zero32_len)
  have hiZ2 := Lib.hid (po_info (p := poZ) zero32_len)
  have hoZ := Lib.hid (poA_one poZ)
  have hB0 : Below w.heap.size w ((w.alloc (.cells #[.int .i64 c.no, .slice A n cp] 45)).alloc (.cells (poA poZ) 49)) := ((Below.refl _ _).alloc (Nat.le_refl _) _).alloc (by simp) _
  have hz0 := heap_alloc2_new w (.cells #[.int .i64 c.no, .slice A n cp] 45) (.cells (poA poZ) 49)
  have h1 : ¬ x < 1 := by have := h.1; omega
  have h2 : ¬ 1073741788 < x := by have := h.2; omega
  have hD := rcdig_any c n cp A ((w.alloc (.cells #[.int .i64 c.no, .slice A n cp] 45)).alloc (.cells (poA poZ) 49)) hn hc (hA.below hB0) hI
  have hb0 := heap_alloc2_old w (.cells #[.int .i64 c.no, .slice A n cp] 45) (.cells (poA poZ) 49)
  have hlb := (Array.getElem?_eq_some_iff.1 hb0).1
  have hlz := (Array.getElem?_eq_some_iff.1 hz0).1
  have hlen := calD_len c
  have hE : calE c = 0 := if_pos hok
  rw [hE] at hD
  have hnoI : I64 c.no := by have h3 := hok.1; have h4 := hok.2.1; exact ⟨by omega, by omega⟩
  generalize calD c = D at hD hlen ⊢
  have hiD := Lib.hid (dg_info D hlen)
  have hiD' := Lib.hid (dg_info' D hlen)
  have hoD := Lib.hid (dg_one D)
  have hsD : Hid (32 = (dg D).size) := Lib.hid (by rw [dg_size, hlen])
  obtain ⟨no, hno9⟩ : ∃ m, c.no = m := ⟨_, rfl⟩
  rw [hno9] at hD hB0 hb0 hz0 hlb hlz hnoI ⊢
  obtain ⟨q, hq⟩ : ∃ q : Po, q = ⟨no, D, 0, 0⟩ := ⟨_, rfl⟩
  have hql : q.root.length = 32 := by rw [hq]; exact hlen
  have hbu := Lib.hid (built_po no D hlen)
  rw [← hq] at hbu
  have jq := Lib.hid (po_info hql)
  have iq := Lib.hid (po_info' hql)
  have sq : Hid (35 = (poA q).size) := Lib.hid (poA_size hql).symm
  have oq := Lib.hid (poA_one q)
  have hT : Hid (∀ V, Calls Tryd.prog 60 #[.agg (poC q).toArray] V (TxC (poT q) V)) := Lib.hid fun V => rtextP_any q hql (by rw [hq]; exact hnoI) V
  have hSg : Hid (∀ V A9 m9 c9, (poT q).length = m9 → AtO V A9 (poT q) → Calls Tryd.prog 59 #[.int .i64 x, .slice A9 m9 c9] V fun e w' => e = .returned (.tuple #[.agg #[.int .i64 (sgE x (poT q)), .int .i64 (sgS x (poT q))], .int .i64 0]) ∧ Below V.heap.size V w') := Lib.hid fun V A9 m9 c9 hm ha =>
    rsign_in x (poT q) A9 m9 c9 V h.1 h.2 hm (by have := (po_sm q hql (by rw [hq]; exact hnoI)).2.1; omega) ha
  obtain ⟨R, hR⟩ : ∃ R : Po, R = poS x no D := ⟨_, rfl⟩
  have hRq : Hid (R = { q with e := sgE x (poT q), s := sgS x (poT q) }) := Lib.hid (by rw [hR, hq]; rfl)
  have hRl : R.root.length = 32 := by rw [hR]; exact hlen
  rw [← hR]
  have jR := Lib.hid (po_info hRl)
  have iR := Lib.hid (po_info' hRl)
  have sR : Hid ((poA poZ).size = (poA R).size) := Lib.hid (by rw [poA_size zero32_len, poA_size hRl])
  have oR := Lib.hid (poA_one R)
  have hiS : Hid ((Tryd.prog.info? 47).map (·.size) = some 2) := Lib.hid (by kernel_rfl)
  generalize sgE x (poT q) = sE at hSg hRq
  generalize sgS x (poT q) = sS at hSg hRq
  have hqn : Hid (q.root.length = 32) := Lib.hid hql
  replace hD := Lib.hid hD
  replace hz0 := Lib.hid hz0
  replace hb0 := Lib.hid hb0
  clear h hn hc hA hI hok hE hno9 hq hql hR hRl hnoI hlen
  go_enter Tryd.func27, Tryd.ntmps27
  go_wp2_with fail
  refine hD.out.mono ?_
  rintro e w1 ⟨rfl, hb⟩
  have hB1 := hB0.trans (hb.mono hB0.size)
  have hz1 := (hb.block (w.heap.size + 1) hlz).trans hz0.out
  have hb1 := (hb.block w.heap.size hlb).trans hb0.out
  have hl1 := (Array.getElem?_eq_some_iff.1 hz1).1
  replace hz1 := Lib.hid hz1
  replace hb1 := Lib.hid hb1
  clear hb hD hB0 hz0 hlz hb0 hlb
  go_wp2_with (first
    | (refine wpList_new_row' (by rfl) 35 (.tmp 6) (.tmp 19) (by rfl) (by rfl) (dg D) w1.heap.size (by rfl) rfl (by rfl) 35 _ hiD.out hsD.out hoD.out ?_; intro w2 hd2 hz2 hB2; have hB3 := hB1.trans (hB2.mono hB1.size); have hz3 := Lib.hid ((hB2.block (w.heap.size + 1) hl1).trans hz1.out); have hl3 : w.heap.size + 1 < w2.heap.size := by omega
       have c3 : w2.cell? ⟨w.heap.size, 0, none⟩ = some (.int .i64 no) := by (rw [cell_of_row _ _ _ _ _ _ ((hB2.block w.heap.size (by omega)).trans hb1.out)]; rfl)
       have rd : Hid (w2.rangeAt w1.heap.size 0 (D.map by1)) := Lib.hid (fun j v hj => by (rw [cell_of_row _ _ _ _ _ _ hd2, Nat.zero_add]; simpa [dg] using hj))
       clear hd2 hz2 hB2 hB1 hl1)
    | (refine wpList_load_mid (by rfl) 35 (.tmp 6) (by rfl) w1.heap.size 0 (by rfl) (D.map by1) _ rd.out Tryd.underlying35 (by rfl) hiD'.out ?_)
    | (refine wpList_buildTo (by rfl) 49 #[(0, .tmp 26), (1, .tmp 27)] (by rfl) (some 28) (by rfl) (poA q) (by simp only [List.map_toArray, List.map_cons, List.map_nil]; exact hbu.out) ?_)
    | (refine wpList_new_row' (by rfl) 49 (.tmp 8) (.tmp 28) (by rfl) (by rfl) (poA q) w2.heap.size (by rfl) rfl (by rfl) 49 _ jq.out sq.out oq.out ?_; intro w3 hd3 hz3' hB4; have hB5 := hB3.trans (hB4.mono hB3.size); have hz5 := Lib.hid ((hB4.block (w.heap.size + 1) hl3).trans hz3.out); have hP5 := Lib.hid (PAt.of_heap hqn.out hd3); have rq := Lib.hid hP5.out.row; have hl5 : w.heap.size + 1 < w2.heap.size := hl3; clear hd3 hz3' hB4 hB3 hl3)
    | (refine wpList_load_mid (by rfl) 49 (.tmp 8) (by rfl) w2.heap.size 0 (by rfl) (poC q) _ rq.out Tryd.underlying49 (by rfl) iq.out ?_))
  refine (hT.out _).mono ?_
  unfold TxC
  rintro e w4 ⟨A9, m9, c9, rfl, hm9, hc9, hcm9, hat9, hb⟩
  have hB6 := hB5.trans (hb.mono hB5.size)
  have hP6 := hP5.out.below hb
  have hz6 := (hb.block (w.heap.size + 1) (by have := hP5.out.lt; omega)).trans hz5.out
  have hSg1 := Lib.hid (hSg.out w4 A9 m9 c9 hm9 hat9)
  replace hP6 := Lib.hid hP6
  replace hz6 := Lib.hid hz6
  clear hb hm9 hat9 hP5 hz5 hB5 rq hSg hT
  go_wp2_with fail
  refine hSg1.out.mono ?_
  rintro e w5 ⟨rfl, hb⟩
  have hB7 := hB6.trans (hb.mono hB6.size)
  have hP7 := hP6.out.below hb
  have hz7 := (hb.block (w.heap.size + 1) (Array.getElem?_eq_some_iff.1 hz6.out).1).trans hz6.out
  have hP8 := hP7.set_sig hqn.out sE sS
  rw [← hRq.out] at hP8
  have hth : Hid (w5.there w2.heap.size 33 2) := Lib.hid (there_part hP7.th 33 2 (by omega))
  have hB8 := hB7.grown (setCells_grown w5 w2.heap.size 33 [.int .i64 sE, .int .i64 sS]) hB7.size (fun k e => by have := Option.some.inj e; omega)
  have hz8 := ((setCells_grown w5 w2.heap.size 33 [.int .i64 sE, .int .i64 sS]).block (w.heap.size + 1) (Array.getElem?_eq_some_iff.1 hz7).1 (fun e => by have := Option.some.inj e; omega)).trans hz7
  have rR := Lib.hid hP8.row
  replace hz8 := Lib.hid hz8
  clear hb hB7 hP7 hz7 hP8 hP6 hz6 hB6 hSg1
  go_wp2_with (first
    | (refine wpList_store_mid (by rfl) 47 (.tmp 36) (.tmp 34) (by rfl) w2.heap.size 33 #[.int .i64 sE, .int .i64 sS] (by rfl) (by rfl) hth.out hiS.out (by simp [Value.oneCell']) ?_)
    | (refine wpList_load_mid (by rfl) 49 (.tmp 8) (by rfl) w2.heap.size 0 (by rfl) (poC R) _ rR.out Tryd.underlying49 (by rfl) iR.out ?_)
    | (refine wpList_set_row (by rfl) 49 (.tmp 4) (.tmp 37) (by rfl) (by rfl) (w.heap.size + 1) (poA R) (by rfl) (by rfl) 49 _ hz8.out jR.out sR.out oR.out ?_; intro w9 hd9 hz9 hg9))
  refine bodyPost_ret (v := .tuple #[.agg (poC R).toArray, .int .i64 0]) (results_mid_tmp rfl _ _ (w.heap.size + 1) (poC R) _ _ rfl rfl (po_row hd9) Tryd.underlying49 (by rfl) iR.out) rfl ⟨rfl, hB8.grown hg9 hB8.size (fun k e => by have := Option.some.inj e; omega)⟩

theorem roannounce_any (x : Int) (c : Cal) (n cp : Nat) (A : Option Addr) (w : World) (hn : c.fx.length = n) (hc : n ≤ cp) (hA : FxAt w A c.fx) (hI : ∀ f ∈ c.fx, FxI f) :
    Calls Tryd.prog 27 #[.int .i64 x, .agg #[.int .i64 c.no, .slice A n cp]] w fun e w' => e = .returned (.tuple #[.agg (poA (anP x c)), .int .i64 (anE x c)]) ∧ Below w.heap.size w w' := by
  by_cases h : AnIn x
  · by_cases hok : CalOk c
    · have e1 : anP x c = poS x c.no (calD c) := if_pos ⟨h, hok⟩
      have e2 : anE x c = 0 := (if_pos h).trans (if_pos hok)
      rw [e1, e2]
      exact roann_ok x c n cp A w hn hc hA hI h hok
    · have e1 : anP x c = poZ := if_neg (fun k => hok k.2)
      have e2 : anE x c = 350 := (if_pos h).trans (if_neg hok)
      rw [e1, e2]
      exact roann_cal x c n cp A w hn hc hA hI h hok
  · have e1 : anP x c = poZ := if_neg (fun k => h k.1)
    have e2 : anE x c = 110 := if_neg h
    rw [e1, e2]
    exact roann_key x c n cp A w h
end Go.Proofs.YthokpfegfnpmhaaDoor
