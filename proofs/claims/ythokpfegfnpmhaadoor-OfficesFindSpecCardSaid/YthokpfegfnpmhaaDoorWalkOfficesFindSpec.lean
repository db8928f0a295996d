/- The walk of the statement OfficesFindSpec. -/
import Derived.Test.YthokpfegfnpmhaaDoorRefOff2
import Derived.Test.YthokpfegfnpmhaaDoorPoEq
import Derived.Test.YthokpfegfnpmhaaDoorOffSane
namespace Go.Proofs.YthokpfegfnpmhaaDoor
open Go.RowKit Go.Shelf Jac Cdc Sha
set_option linter.unusedVariables false
set_option linter.unusedSimpArgs false

set_option maxRecDepth 100000 in
set_option maxHeartbeats 4000000 in
theorem ofs_big (key : Int) (n : Nat) (A : Option Addr) (c : Nat) (w : World) (h : 12 < n) (hL : Laid w) :
    Calls Tryd.prog 9 #[.int .i64 key, .slice A n c] w fun e w' => e = .returned (.bool true) ∧ Below w.heap.size w w' := by
  have kS : Hid (Calls Tryd.prog 24 #[] w fun e w' => e = .returned (.bool true) ∧ Below w.heap.size w w') := Lib.hid (osane_any w hL)
  have d1 : decide (12 < (n : Int)) = true := decide_eq_true (by omega)
  clear hL
  go_enter Tryd.func9, Tryd.ntmps9
  go_wp2_with fail
  refine kS.out.mono ?_
  rintro e w1 ⟨rfl, hb⟩
  go_wp2_with fail
  go_ret
  exact ⟨rfl, hb⟩

set_option maxRecDepth 100000 in
set_option maxHeartbeats 4000000 in
theorem ofs_in (key : Int) (l : List Po) (n : Nat) (A : Option Addr) (c : Nat) (w : World) (hn : l.length = n) (h : n ≤ 12) (hc : n ≤ c) (hls : PsAt w A l) (hp : ∀ x ∈ l, x.root.length = 32) (hL : Laid w) :
    Calls Tryd.prog 9 #[.int .i64 key, .slice A n c] w fun e w' => e = .returned (.bool true) ∧ Below w.heap.size w w' := by
  have kS : Hid (Calls Tryd.prog 24 #[] w fun e w' => e = .returned (.bool true) ∧ Below w.heap.size w w') := Lib.hid (osane_any w hL)
  have d1 : decide (12 < (n : Int)) = false := decide_eq_false (by omega)
  have kC : Hid (∀ (V : World) (a b : Po) (ha : a.root.length = 32) (hb : b.root.length = 32), Below w.heap.size w V → Calls Tryd.prog 32 #[.int .i64 key, .agg (poC a).toArray, .agg (poC b).toArray] V fun e w' => e = .returned (.bool (cvP key a b)) ∧ Below V.heap.size V w') := Lib.hid fun V a b ha hb hV => oconvict_any key a b ha hb V (hL.below hV)
  have kF : Hid (∀ V, Below w.heap.size w V → Calls Tryd.prog 34 #[.int .i64 key, .slice A n c] V fun e w' => (∃ (i j : Nat) (ok : Bool), e = .returned (.tuple #[.int .i64 i, .int .i64 j, .bool ok]) ∧ FindP key l i j ok) ∧ Below V.heap.size V w') := Lib.hid fun V hV => ofind_any key l n A c V hn (by omega) hc (hls.below hV) hp (hL.below hV)
  have kG : Hid (∀ V, Below w.heap.size w V → Calls Tryd.prog 35 #[.int .i64 key, .slice A n c] V fun e w' => (∃ (i j : Nat) (ok : Bool), e = .returned (.tuple #[.int .i64 i, .int .i64 j, .bool ok]) ∧ FindP key l i j ok) ∧ Below V.heap.size V w') := Lib.hid fun V hV => rofind_any key l n A c V hn (by omega) hc (hls.below hV) hp
  replace hls := Lib.hid hls
  replace hp := Lib.hid hp
  replace hn := Lib.hid hn
  clear hL
  go_enter Tryd.func9, Tryd.ntmps9
  go_wp2_with fail
  refine kS.out.mono ?_
  rintro e w1 ⟨rfl, hB1⟩
  go_wp2_with fail
  go_loopw [20] (fun s20 wr => ∃ (i : Nat), i ≤ n ∧ s20 = .int .i64 (i : Int) ∧ Below w.heap.size w wr) (fun s20 _ => n - (intOf s20).toNat)
  case atStart => exact ⟨0, Nat.zero_le _, rfl, hB1⟩
  case round =>
    clear hB1 kS
    obtain ⟨i, hin, rfl, hB⟩ := hrel
    by_cases hlt : i < n
    · obtain ⟨a, ha⟩ : ∃ a, l[i]? = some a := ⟨_, List.getElem?_eq_getElem (by rw [hn.out]; exact hlt)⟩
      go_wp2_with fail
      go_loopw [25] (fun s25 wr2 => ∃ (j : Nat), j ≤ n ∧ s25 = .int .i64 (j : Int) ∧ Below w.heap.size w wr2) (fun s25 _ => n - (intOf s25).toNat)
      case atStart => exact ⟨0, Nat.zero_le _, rfl, hB⟩
      case round =>
        clear hB
        obtain ⟨j, hjn, rfl, hB⟩ := hrel
        by_cases hlt2 : j < n
        · obtain ⟨b, hb⟩ : ∃ b, l[j]? = some b := ⟨_, List.getElem?_eq_getElem (by rw [hn.out]; exact hlt2)⟩
          have hpa := hp.out a (List.mem_of_getElem? ha)
          have hpb := hp.out b (List.mem_of_getElem? hb)
          obtain ⟨g, o, hA, hgl, hra⟩ := hls.out.below hB i a ha
          obtain ⟨g', o', hA', _, hrb⟩ := hls.out.below hB j b hb
          subst hA
          obtain ⟨rfl, rfl⟩ : g = g' ∧ o = o' := by injection hA' with h; injection h with h1 h2; exact ⟨h1, h2⟩
          have i1 := Lib.hid (po_info' hpa)
          have i2 := Lib.hid (po_info' hpb)
          have i3 : (0 : Int) ≤ (i : Int) := by omega
          have i4 : (i : Int) < (n : Int) := by omega
          have i5 : (0 : Int) ≤ (j : Int) := by omega
          have i6 : (j : Int) < (n : Int) := by omega
          have hS : Hid (∀ V, Below wr.heap.size wr V → V.rangeAt g (o + i * 35) (poC a) ∧ V.rangeAt g (o + j * 35) (poC b)) := Lib.hid fun V hV => ⟨range_belowB hra hgl hV, range_belowB hrb hgl hV⟩
          have HB : Below wr.heap.size wr wr.drew := (Below.refl _ _).drew
          obtain ⟨res, hr9⟩ : ∃ res, cvP key a b = res := ⟨_, rfl⟩
          have kCa : Hid (∀ V, Below wr.heap.size wr V → Calls Tryd.prog 32 #[.int .i64 key, .agg (poC a).toArray, .agg (poC b).toArray] V fun e w' => e = .returned (.bool res) ∧ Below V.heap.size V w') := Lib.hid fun V hV => hr9 ▸ kC.out V a b hpa hpb (hB.trans (hV.mono hB.size))
          have kDa : Hid (∀ V, Calls Tryd.prog 33 #[.int .i64 key, .agg (poC a).toArray, .agg (poC b).toArray] V fun e w' => e = .returned (.bool res) ∧ Below V.heap.size V w') := Lib.hid fun V => hr9 ▸ roconvict_any key a b hpa hpb V
          have bR : (res != res) = false := by simp
          clear hra hrb hpa hpb hA' ha hb hr9
          go_wp2_with fail
          refine wp_region_held_drew (S := fun w' => w'.rangeAt g (o + i * 35) (poC a) ∧ w'.rangeAt g (o + j * 35) (poC b)) (by kernel_rfl) (by exact hS.out _ HB) (fun hHeld => ?_)
          refine wpAnyH_take (i := 0) (oi := { dst := some 28, op := Op.move (Operand.tmp 0), type := 3, pos := "law.go:71", after := #[], guard := none }) (v := ?_) rfl (by kernel_rfl) (by kernel_rfl) (by kernel_rfl) (fun _ _ _ h => h) (Or.inl ⟨by rfl, ?hy0⟩) hHeld ?rest0
          case hy0 =>
            intro w hSw
            try dsimp only at hSw
            go_simp
            try with_reducible rfl
          try simp only [Act.put, List.setIfInBounds_toArray, List.set_cons_zero, List.set_cons_succ]
          refine wpAnyH_take (i := 1) (oi := { dst := some 29, op := Op.move (Operand.tmp 1), type := 53, pos := "law.go:71", after := #[], guard := none }) (v := ?_) rfl (by kernel_rfl) (by kernel_rfl) (by kernel_rfl) (fun _ _ _ h => h) (Or.inl ⟨by rfl, ?hy1⟩) hHeld ?rest1
          case hy1 =>
            intro w hSw
            try dsimp only at hSw
            go_simp
            try with_reducible rfl
          try simp only [Act.put, List.setIfInBounds_toArray, List.set_cons_zero, List.set_cons_succ]
          refine wpAnyH_take (i := 2) (oi := { dst := some 30, op := Op.move (Operand.tmp 5), type := 3, pos := "law.go:71", after := #[], guard := none }) (v := ?_) rfl (by kernel_rfl) (by kernel_rfl) (by kernel_rfl) (fun _ _ _ h => h) (Or.inl ⟨by rfl, ?hy2⟩) hHeld ?rest2
          case hy2 =>
            intro w hSw
            try dsimp only at hSw
            go_simp
            try with_reducible rfl
          try simp only [Act.put, List.setIfInBounds_toArray, List.set_cons_zero, List.set_cons_succ]
          refine wpAnyH_take (i := 3) (oi := { dst := some 31, op := Op.indexAddr 53 (Operand.tmp 29) (Operand.tmp 30), type := 0, pos := "law.go:71", after := #[{ on := 1, ground := Ground.data }, { on := 2, ground := Ground.data }], guard := none }) (v := ?_) rfl (by kernel_rfl) (by kernel_rfl) (by kernel_rfl) (fun _ _ _ h => h) (Or.inl ⟨by rfl, ?hy3⟩) hHeld ?rest3
          case hy3 =>
            intro w hSw
            try dsimp only at hSw
            go_simp
            try with_reducible rfl
          try simp only [Act.put, List.setIfInBounds_toArray, List.set_cons_zero, List.set_cons_succ]
          refine wpAnyH_take (i := 4) (oi := { dst := some 32, op := Op.load 49 (Operand.tmp 31), type := 49, pos := "law.go:71", after := #[{ on := 3, ground := Ground.data }], guard := none }) (v := _) rfl (by kernel_rfl) (by kernel_rfl) (by kernel_rfl) (fun _ _ _ h => h) (yieldsIf_load_mid (by rfl) 49 (.tmp 31) rfl g (o + i * 35) rfl (poC a) _ (fun _ h => h.1) Tryd.underlying49 rfl i1.out) hHeld ?_
          try simp only [Act.put, List.setIfInBounds_toArray, List.set_cons_zero, List.set_cons_succ]
          refine wpAnyH_take (i := 5) (oi := { dst := some 33, op := Op.move (Operand.tmp 1), type := 53, pos := "law.go:71", after := #[], guard := none }) (v := ?_) rfl (by kernel_rfl) (by kernel_rfl) (by kernel_rfl) (fun _ _ _ h => h) (Or.inl ⟨by rfl, ?hy5⟩) hHeld ?rest5
          case hy5 =>
            intro w hSw
            try dsimp only at hSw
            go_simp
            try with_reducible rfl
          try simp only [Act.put, List.setIfInBounds_toArray, List.set_cons_zero, List.set_cons_succ]
          refine wpAnyH_take (i := 6) (oi := { dst := some 34, op := Op.move (Operand.tmp 6), type := 3, pos := "law.go:71", after := #[], guard := none }) (v := ?_) rfl (by kernel_rfl) (by kernel_rfl) (by kernel_rfl) (fun _ _ _ h => h) (Or.inl ⟨by rfl, ?hy6⟩) hHeld ?rest6
          case hy6 =>
            intro w hSw
            try dsimp only at hSw
            go_simp
            try with_reducible rfl
          try simp only [Act.put, List.setIfInBounds_toArray, List.set_cons_zero, List.set_cons_succ]
          refine wpAnyH_take (i := 7) (oi := { dst := some 35, op := Op.indexAddr 53 (Operand.tmp 33) (Operand.tmp 34), type := 0, pos := "law.go:71", after := #[{ on := 5, ground := Ground.data }, { on := 6, ground := Ground.data }], guard := none }) (v := ?_) rfl (by kernel_rfl) (by kernel_rfl) (by kernel_rfl) (fun _ _ _ h => h) (Or.inl ⟨by rfl, ?hy7⟩) hHeld ?rest7
          case hy7 =>
            intro w hSw
            try dsimp only at hSw
            go_simp
            try with_reducible rfl
          try simp only [Act.put, List.setIfInBounds_toArray, List.set_cons_zero, List.set_cons_succ]
          refine wpAnyH_take (i := 8) (oi := { dst := some 36, op := Op.load 49 (Operand.tmp 35), type := 49, pos := "law.go:71", after := #[{ on := 7, ground := Ground.data }], guard := none }) (v := _) rfl (by kernel_rfl) (by kernel_rfl) (by kernel_rfl) (fun _ _ _ h => h) (yieldsIf_load_mid (by rfl) 49 (.tmp 35) rfl g (o + j * 35) rfl (poC b) _ (fun _ h => h.2) Tryd.underlying49 rfl i2.out) hHeld ?_
          try simp only [Act.put, List.setIfInBounds_toArray, List.set_cons_zero, List.set_cons_succ]
          refine wpAnyH_take (i := 10) (oi := { dst := some 38, op := Op.move (Operand.tmp 0), type := 3, pos := "law.go:71", after := #[], guard := none }) (v := ?_) rfl (by kernel_rfl) (by kernel_rfl) (by kernel_rfl) (fun _ _ _ h => h) (Or.inl ⟨by rfl, ?hy10⟩) hHeld ?rest10
          case hy10 =>
            intro w hSw
            try dsimp only at hSw
            go_simp
            try with_reducible rfl
          try simp only [Act.put, List.setIfInBounds_toArray, List.set_cons_zero, List.set_cons_succ]
          refine wpAnyH_take (i := 11) (oi := { dst := some 39, op := Op.move (Operand.tmp 1), type := 53, pos := "law.go:71", after := #[], guard := none }) (v := ?_) rfl (by kernel_rfl) (by kernel_rfl) (by kernel_rfl) (fun _ _ _ h => h) (Or.inl ⟨by rfl, ?hy11⟩) hHeld ?rest11
          case hy11 =>
            intro w hSw
            try dsimp only at hSw
            go_simp
            try with_reducible rfl
          try simp only [Act.put, List.setIfInBounds_toArray, List.set_cons_zero, List.set_cons_succ]
          refine wpAnyH_take (i := 12) (oi := { dst := some 40, op := Op.move (Operand.tmp 5), type := 3, pos := "law.go:71", after := #[], guard := none }) (v := ?_) rfl (by kernel_rfl) (by kernel_rfl) (by kernel_rfl) (fun _ _ _ h => h) (Or.inl ⟨by rfl, ?hy12⟩) hHeld ?rest12
          case hy12 =>
            intro w hSw
            try dsimp only at hSw
            go_simp
            try with_reducible rfl
          try simp only [Act.put, List.setIfInBounds_toArray, List.set_cons_zero, List.set_cons_succ]
          refine wpAnyH_take (i := 13) (oi := { dst := some 41, op := Op.indexAddr 53 (Operand.tmp 39) (Operand.tmp 40), type := 0, pos := "law.go:71", after := #[{ on := 11, ground := Ground.data }, { on := 12, ground := Ground.data }], guard := none }) (v := ?_) rfl (by kernel_rfl) (by kernel_rfl) (by kernel_rfl) (fun _ _ _ h => h) (Or.inl ⟨by rfl, ?hy13⟩) hHeld ?rest13
          case hy13 =>
            intro w hSw
            try dsimp only at hSw
            go_simp
            try with_reducible rfl
          try simp only [Act.put, List.setIfInBounds_toArray, List.set_cons_zero, List.set_cons_succ]
          refine wpAnyH_take (i := 14) (oi := { dst := some 42, op := Op.load 49 (Operand.tmp 41), type := 49, pos := "law.go:71", after := #[{ on := 13, ground := Ground.data }], guard := none }) (v := _) rfl (by kernel_rfl) (by kernel_rfl) (by kernel_rfl) (fun _ _ _ h => h) (yieldsIf_load_mid (by rfl) 49 (.tmp 41) rfl g (o + i * 35) rfl (poC a) _ (fun _ h => h.1) Tryd.underlying49 rfl i1.out) hHeld ?_
          try simp only [Act.put, List.setIfInBounds_toArray, List.set_cons_zero, List.set_cons_succ]
          refine wpAnyH_take (i := 15) (oi := { dst := some 43, op := Op.move (Operand.tmp 1), type := 53, pos := "law.go:71", after := #[], guard := none }) (v := ?_) rfl (by kernel_rfl) (by kernel_rfl) (by kernel_rfl) (fun _ _ _ h => h) (Or.inl ⟨by rfl, ?hy15⟩) hHeld ?rest15
          case hy15 =>
            intro w hSw
            try dsimp only at hSw
            go_simp
            try with_reducible rfl
          try simp only [Act.put, List.setIfInBounds_toArray, List.set_cons_zero, List.set_cons_succ]
          refine wpAnyH_take (i := 16) (oi := { dst := some 44, op := Op.move (Operand.tmp 6), type := 3, pos := "law.go:71", after := #[], guard := none }) (v := ?_) rfl (by kernel_rfl) (by kernel_rfl) (by kernel_rfl) (fun _ _ _ h => h) (Or.inl ⟨by rfl, ?hy16⟩) hHeld ?rest16
          case hy16 =>
            intro w hSw
            try dsimp only at hSw
            go_simp
            try with_reducible rfl
          try simp only [Act.put, List.setIfInBounds_toArray, List.set_cons_zero, List.set_cons_succ]
          refine wpAnyH_take (i := 17) (oi := { dst := some 45, op := Op.indexAddr 53 (Operand.tmp 43) (Operand.tmp 44), type := 0, pos := "law.go:71", after := #[{ on := 15, ground := Ground.data }, { on := 16, ground := Ground.data }], guard := none }) (v := ?_) rfl (by kernel_rfl) (by kernel_rfl) (by kernel_rfl) (fun _ _ _ h => h) (Or.inl ⟨by rfl, ?hy17⟩) hHeld ?rest17
          case hy17 =>
            intro w hSw
            try dsimp only at hSw
            go_simp
            try with_reducible rfl
          try simp only [Act.put, List.setIfInBounds_toArray, List.set_cons_zero, List.set_cons_succ]
          refine wpAnyH_take (i := 18) (oi := { dst := some 46, op := Op.load 49 (Operand.tmp 45), type := 49, pos := "law.go:71", after := #[{ on := 17, ground := Ground.data }], guard := none }) (v := _) rfl (by kernel_rfl) (by kernel_rfl) (by kernel_rfl) (fun _ _ _ h => h) (yieldsIf_load_mid (by rfl) 49 (.tmp 45) rfl g (o + j * 35) rfl (poC b) _ (fun _ h => h.2) Tryd.underlying49 rfl i2.out) hHeld ?_
          try simp only [Act.put, List.setIfInBounds_toArray, List.set_cons_zero, List.set_cons_succ]
          refine wpAnyH_ready (rs := [9]) (by kernel_rfl) (by simp) (AllReadyH.cons (o := { dst := some 37, op := Op.call { callee := Callee.value (Operand.func 32), args := #[Operand.tmp 28, Operand.tmp 32, Operand.tmp 36], argTypes := #[3, 49, 49] }, type := 4, pos := "law.go:71", after := #[{ on := 0, ground := Ground.data }, { on := 4, ground := Ground.data }, { on := 8, ground := Ground.data }], guard := none }) rfl (fun K hK => ?_) AllReadyH.nil)
          go_simp
          go_at_call 32
          refine (kCa.out _ HB).mono ?_
          rintro e w13 ⟨rfl, hbb⟩
          replace HB := HB.trans (hbb.mono HB.size)
          clear hbb
          refine hK.out _ _ (by exact hS.out _ HB) (fun hHeld' => ?_)
          clear hK K hHeld
          have hHeld := hHeld'
          clear hHeld'
          try simp only [Act.put, List.setIfInBounds_toArray, List.set_cons_zero, List.set_cons_succ]
          refine wpAnyH_ready (rs := [19]) (by kernel_rfl) (by simp) (AllReadyH.cons (o := { dst := some 47, op := Op.call { callee := Callee.value (Operand.func 33), args := #[Operand.tmp 38, Operand.tmp 42, Operand.tmp 46], argTypes := #[3, 49, 49] }, type := 4, pos := "law.go:71", after := #[{ on := 10, ground := Ground.data }, { on := 14, ground := Ground.data }, { on := 18, ground := Ground.data }, { on := 9, ground := Ground.chain }], guard := none }) rfl (fun K hK => ?_) AllReadyH.nil)
          go_simp
          go_at_call 33
          refine (kDa.out _).mono ?_
          rintro e w23 ⟨rfl, hbb⟩
          replace HB := HB.trans (hbb.mono HB.size)
          clear hbb
          refine hK.out _ _ (by exact hS.out _ HB) (fun hHeld' => ?_)
          clear hK K hHeld
          have hHeld := hHeld'
          clear hHeld'
          try simp only [Act.put, List.setIfInBounds_toArray, List.set_cons_zero, List.set_cons_succ]
          refine wpAnyH_take (i := 20) (oi := { dst := some 48, op := Op.binOp BinOp.neq 4 (Operand.tmp 37) (Operand.tmp 47) 4, type := 4, pos := "law.go:71", after := #[{ on := 9, ground := Ground.data }, { on := 19, ground := Ground.data }], guard := none }) (v := ?_) rfl (by kernel_rfl) (by kernel_rfl) (by kernel_rfl) (fun _ _ _ h => h) (Or.inl ⟨by rfl, ?hy20⟩) hHeld ?rest20
          case hy20 =>
            intro w hSw
            try dsimp only at hSw
            go_simp
            try with_reducible rfl
          try simp only [Act.put, List.setIfInBounds_toArray, List.set_cons_zero, List.set_cons_succ]
          refine wpAnyH_done (by kernel_rfl) ?_ _
          have hB2 := hB.trans (HB.mono hB.size)
          clear hS HB kCa kDa
          go_wp2_with fail
          go_roundw
          case rel => exact ⟨j + 1, by omega, by go_num, hB2⟩
          case measure => simp [intOf]; omega
        · obtain rfl : j = n := by omega
          go_wp2_with fail
          go_roundw
          case rel => exact ⟨i + 1, by omega, by go_num, hB⟩
          case measure => simp [intOf]; omega
    · obtain rfl : i = n := by omega
      go_wp2_with fail
      refine (kF.out _ hB).mono ?_
      rintro e w2 ⟨⟨i1, j1, ok1, rfl, hF1⟩, hb2⟩
      replace hB := hB.trans (hb2.mono hB.size)
      clear hb2
      go_wp2_with fail
      refine (kG.out _ hB).mono ?_
      rintro e w3 ⟨⟨i2, j2, ok2, rfl, hF2⟩, hb3⟩
      replace hB := hB.trans (hb3.mono hB.size)
      clear hb3
      obtain ⟨rfl, rfl, rfl⟩ := hF1.unique hF2
      go_wp2_with fail
      go_ret
      exact ⟨rfl, hB⟩

theorem walk_OfficesFindSpec (a0 : Int) (a1 : List Po) (A1 : Option Addr) (c1 : Nat) (w : World) (b0 : I64 a0) (lc1 : a1.length ≤ c1) (nc1 : A1 = none → c1 = 0) (ps1 : PsAt w A1 a1) (po1 : ∀ y ∈ a1, PoI y) (hL : Laid w) :
    Calls Tryd.prog 9 #[.int .i64 a0, .slice A1 a1.length c1] w fun e w' => e = .returned (.bool true) ∧ Below w.heap.size w w' := by
  by_cases h : a1.length ≤ 12
  · exact ofs_in a0 a1 _ A1 c1 w rfl h lc1 ps1 (fun y hy => (po1 y hy).root) hL
  · exact ofs_big a0 _ A1 c1 w (by omega) hL
end Go.Proofs.YthokpfegfnpmhaaDoor
