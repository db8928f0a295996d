/- The walks of bytes.Equal and of the reference's Same of fixtures; different calendars have different texts. -/
import Derived.Test.YthokpfegfnpmhaaDoorPoEq
import Derived.Test.YthokpfegfnpmhaaDoorOffFind
namespace Go.Proofs.YthokpfegfnpmhaaDoor
open Go.RowKit Cdc Sha
set_option linter.unusedVariables false
set_option linter.unusedSimpArgs false

theorem bytes_equal_yes (xs : List UInt8) (A B : Option Addr) (n m c d : Nat) (w : World) (v0 : (convert 23 9 (.slice A n c)).run Tryd.prog w = .ok (.string ⟨xs.toArray⟩) w) (v1 : (convert 23 9 (.slice B m d)).run Tryd.prog w = .ok (.string ⟨xs.toArray⟩) w) :
    Calls Tryd.prog 38 #[.slice A n c, .slice B m d] w fun e w' => e = .returned (.bool true) ∧ w' = w := by
  go_enter Tryd.func38, Tryd.ntmps38
  go_wp2
  go_ret
  exact ⟨rfl, rfl⟩
theorem bytes_equal_no (xs ys : List UInt8) (A B : Option Addr) (n m c d : Nat) (w : World) (hh : (xs == ys) = false) (v0 : (convert 23 9 (.slice A n c)).run Tryd.prog w = .ok (.string ⟨xs.toArray⟩) w) (v1 : (convert 23 9 (.slice B m d)).run Tryd.prog w = .ok (.string ⟨ys.toArray⟩) w) :
    Calls Tryd.prog 38 #[.slice A n c, .slice B m d] w fun e w' => e = .returned (.bool false) ∧ w' = w := by
  go_enter Tryd.func38, Tryd.ntmps38
  go_wp2
  go_ret
  exact ⟨rfl, rfl⟩

theorem kFx (D : Nat) {f : Fx} (h : FxI f) : Tryd.prog.keyLits (D + 2) 90 (fxC f) = some [.int .i64 f.d, .int .i64 f.g, .int .i64 f.s] := by
  have h1 : Tryd.prog.cellsOf 3 = 1 := by kernel_rfl
  have h2 : Tryd.prog.cellsOf 90 = 3 := by kernel_rfl
  unfold Program.keyLits
  rw [Tryd.underlying90]
  simp [fxC, h1, h2, kInt D h.1, kInt D h.2.1, kInt D h.2.2]
set_option maxRecDepth 100000 in
theorem eq_fx {f g : Fx} (hf : FxI f) (hg : FxI g) (W : World) : (Op.equalIn 10000 90 (.agg (fxC f).toArray) (.agg (fxC g).toArray)).run Tryd.prog W = .ok (decide (f = g)) W := by
  have h2 : Tryd.prog.cellsOf 90 = 3 := by kernel_rfl
  have hfo : ∀ f : Fx, (Value.agg (fxC f).toArray).formed Tryd.prog 90 = true := fun f => by
    simp only [Value.formed, Tryd.underlying90, h2]
    rfl
  obtain ⟨r, hr, hiff⟩ := run_equalIn_deep 9998 2 90 (by kernel_rfl) W _ _ _ _ _ _ (hfo f) (hfo g) (kFx 4 hf) (kFx 4 hg)
  rw [hr]
  congr 1
  by_cases e : f = g
  · subst e
    rw [hiff.2 rfl]
    simp
  · rw [decide_eq_false e]
    cases r with
    | false => rfl
    | true =>
      have := hiff.1 rfl
      obtain ⟨a, b, c⟩ := f
      obtain ⟨a', b', c'⟩ := g
      simp at this
      exact absurd (by rw [this.1, this.2.1, this.2.2]) e
theorem FxAt.row {w : World} {A : Option Addr} {l : List Fx} (h : FxAt w A l) {i : Nat} {x : Fx} (hi : l[i]? = some x) : ∃ b o, A = some ⟨b, o, none⟩ ∧ b < w.heap.size ∧ w.rangeAt b (o + i * 3) (fxC x) := by
  obtain ⟨b, o, hA, hlt, h0, h1, h2⟩ := h i x hi
  refine ⟨b, o, hA, hlt, fun j v hj => ?_⟩
  match j with
  | 0 => simp [fxC] at hj; rw [← hj]; exact h0
  | 1 => simp [fxC] at hj; rw [← hj]; exact h1
  | 2 => simp [fxC] at hj; rw [← hj]; exact h2
  | j + 3 => simp [fxC] at hj
set_option maxRecDepth 100000 in
theorem fx_info (f : Fx) : (Tryd.prog.info? 90).map (·.size) = some (fxC f).length := by
  show _ = some 3
  kernel_rfl

set_option maxRecDepth 100000 in
set_option maxHeartbeats 4000000 in
theorem rsame_len (n m c d : Nat) (A B : Option Addr) (w : World) (h : n ≠ m) :
    Calls Tryd.prog 37 #[.slice A n c, .slice B m d] w fun e w' => e = .returned (.bool false) ∧ Below w.heap.size w w' := by
  have d1 : ((n : Int) != (m : Int)) = true := by simp; omega
  go_enter Tryd.func37, Tryd.ntmps37
  go_wp2_with fail
  go_ret
  exact ⟨rfl, Below.refl _ _⟩

set_option maxRecDepth 100000 in
set_option maxHeartbeats 4000000 in
theorem rsame_go (l k : List Fx) (n c d : Nat) (A B : Option Addr) (w : World) (hn : l.length = n) (hm : k.length = n) (hA : FxAt w A l) (hB : FxAt w B k) (hI : ∀ f ∈ l, FxI f) (hJ : ∀ f ∈ k, FxI f) (hnm : n ≤ 2000) :
    Calls Tryd.prog 37 #[.slice A n c, .slice B n d] w fun e w' => e = .returned (.bool (decide (l = k))) ∧ Below w.heap.size w w' := by
  have d1 : ((n : Int) != (n : Int)) = false := by simp
  obtain ⟨res, hres⟩ : ∃ r, decide (l = k) = r := ⟨_, rfl⟩
  rw [hres]
  replace hn := Lib.hid hn
  replace hm := Lib.hid hm
  replace hA := Lib.hid hA
  replace hB := Lib.hid hB
  replace hI := Lib.hid hI
  replace hJ := Lib.hid hJ
  replace hres := Lib.hid hres
  go_enter Tryd.func37, Tryd.ntmps37
  go_wp2_with fail
  go_loopw [5] (fun s5 wr => ∃ (i : Nat), i ≤ n ∧ s5 = .int .i64 (i : Int) ∧ Below w.heap.size w wr ∧ Hid (∀ j, j < i → l[j]? = k[j]?)) (fun s5 _ => n - (intOf s5).toNat)
  case atStart => exact ⟨0, Nat.zero_le _, rfl, Below.refl _ _, Lib.hid (fun j h => by omega)⟩
  case round =>
    obtain ⟨i, hin, rfl, hb, hsm⟩ := hrel
    by_cases hlt : i < n
    · obtain ⟨f, hf⟩ : ∃ a, l[i]? = some a := ⟨_, List.getElem?_eq_getElem (by rw [hn.out]; exact hlt)⟩
      obtain ⟨g, hg⟩ : ∃ a, k[i]? = some a := ⟨_, List.getElem?_eq_getElem (by rw [hm.out]; exact hlt)⟩
      have eqs := eq_fx (hI.out f (List.mem_of_getElem? hf)) (hJ.out g (List.mem_of_getElem? hg))
      obtain ⟨b1, o1, hA1, hl1, hr1⟩ := FxAt.row hA.out hf
      obtain ⟨b2, o2, hA2, hl2, hr2⟩ := FxAt.row hB.out hg
      subst hA1 hA2
      have i3 : (0 : Int) ≤ (i : Int) := by omega
      have i4 : (i : Int) < (n : Int) := by omega
      have i1 := Lib.hid (fx_info f)
      have i2 := Lib.hid (fx_info g)
      have hS : Hid (∀ V, Below w.heap.size w V → V.rangeAt b1 (o1 + i * 3) (fxC f) ∧ V.rangeAt b2 (o2 + i * 3) (fxC g)) := Lib.hid fun V hV => ⟨range_belowB hr1 hl1 hV, range_belowB hr2 hl2 hV⟩
      have HB := hb.drew
      clear hr1 hl1 hr2 hl2 hb
      replace hf := Lib.hid hf
      replace hg := Lib.hid hg
      by_cases efg : f = g
      · subst efg
        rw [decide_eq_true rfl] at eqs
        go_wp2_with fail
        refine wp_region_held_drew (S := fun w' => w'.rangeAt b1 (o1 + i * 3) (fxC f) ∧ w'.rangeAt b2 (o2 + i * 3) (fxC f)) (by kernel_rfl) (by exact hS.out _ HB) (fun hHeld => ?_)
        refine wpAnyH_take (i := 0) (oi := { dst := some 17, op := Op.move (Operand.tmp 0), type := 43, pos := "ref.go:187", after := #[], guard := none }) (v := ?_) rfl (by kernel_rfl) (by kernel_rfl) (by kernel_rfl) (fun _ _ _ h => h) (Or.inl ⟨by rfl, ?hy0⟩) hHeld ?rest0
        case hy0 =>
          intro w hSw
          try dsimp only at hSw
          go_simp
          try with_reducible rfl
        try simp only [Act.put, List.setIfInBounds_toArray, List.set_cons_zero, List.set_cons_succ]
        refine wpAnyH_take (i := 1) (oi := { dst := some 18, op := Op.move (Operand.tmp 5), type := 3, pos := "ref.go:187", after := #[], guard := none }) (v := ?_) rfl (by kernel_rfl) (by kernel_rfl) (by kernel_rfl) (fun _ _ _ h => h) (Or.inl ⟨by rfl, ?hy1⟩) hHeld ?rest1
        case hy1 =>
          intro w hSw
          try dsimp only at hSw
          go_simp
          try with_reducible rfl
        try simp only [Act.put, List.setIfInBounds_toArray, List.set_cons_zero, List.set_cons_succ]
        refine wpAnyH_take (i := 2) (oi := { dst := some 19, op := Op.indexAddr 43 (Operand.tmp 17) (Operand.tmp 18), type := 0, pos := "ref.go:187", after := #[{ on := 0, ground := Ground.data }, { on := 1, ground := Ground.data }], guard := none }) (v := ?_) rfl (by kernel_rfl) (by kernel_rfl) (by kernel_rfl) (fun _ _ _ h => h) (Or.inl ⟨by rfl, ?hy2⟩) hHeld ?rest2
        case hy2 =>
          intro w hSw
          try dsimp only at hSw
          go_simp
          try with_reducible rfl
        try simp only [Act.put, List.setIfInBounds_toArray, List.set_cons_zero, List.set_cons_succ]
        refine wpAnyH_take (i := 3) (oi := { dst := some 20, op := Op.load 90 (Operand.tmp 19), type := 90, pos := "ref.go:187", after := #[{ on := 2, ground := Ground.data }], guard := none }) (v := _) rfl (by kernel_rfl) (by kernel_rfl) (by kernel_rfl) (fun _ _ _ h => h) (yieldsIf_load_mid (by rfl) 90 (.tmp 19) rfl b1 (o1 + i * 3) rfl (fxC f) _ (fun _ h => h.1) Tryd.underlying90 rfl i1.out) hHeld ?_
        try simp only [Act.put, List.setIfInBounds_toArray, List.set_cons_zero, List.set_cons_succ]
        refine wpAnyH_take (i := 4) (oi := { dst := some 21, op := Op.move (Operand.tmp 1), type := 43, pos := "ref.go:187", after := #[], guard := none }) (v := ?_) rfl (by kernel_rfl) (by kernel_rfl) (by kernel_rfl) (fun _ _ _ h => h) (Or.inl ⟨by rfl, ?hy4⟩) hHeld ?rest4
        case hy4 =>
          intro w hSw
          try dsimp only at hSw
          go_simp
          try with_reducible rfl
        try simp only [Act.put, List.setIfInBounds_toArray, List.set_cons_zero, List.set_cons_succ]
        refine wpAnyH_take (i := 5) (oi := { dst := some 22, op := Op.move (Operand.tmp 5), type := 3, pos := "ref.go:187", after := #[], guard := none }) (v := ?_) rfl (by kernel_rfl) (by kernel_rfl) (by kernel_rfl) (fun _ _ _ h => h) (Or.inl ⟨by rfl, ?hy5⟩) hHeld ?rest5
        case hy5 =>
          intro w hSw
          try dsimp only at hSw
          go_simp
          try with_reducible rfl
        try simp only [Act.put, List.setIfInBounds_toArray, List.set_cons_zero, List.set_cons_succ]
        refine wpAnyH_take (i := 6) (oi := { dst := some 23, op := Op.indexAddr 43 (Operand.tmp 21) (Operand.tmp 22), type := 0, pos := "ref.go:187", after := #[{ on := 4, ground := Ground.data }, { on := 5, ground := Ground.data }], guard := none }) (v := ?_) rfl (by kernel_rfl) (by kernel_rfl) (by kernel_rfl) (fun _ _ _ h => h) (Or.inl ⟨by rfl, ?hy6⟩) hHeld ?rest6
        case hy6 =>
          intro w hSw
          try dsimp only at hSw
          go_simp
          try with_reducible rfl
        try simp only [Act.put, List.setIfInBounds_toArray, List.set_cons_zero, List.set_cons_succ]
        refine wpAnyH_take (i := 7) (oi := { dst := some 24, op := Op.load 90 (Operand.tmp 23), type := 90, pos := "ref.go:187", after := #[{ on := 6, ground := Ground.data }], guard := none }) (v := _) rfl (by kernel_rfl) (by kernel_rfl) (by kernel_rfl) (fun _ _ _ h => h) (yieldsIf_load_mid (by rfl) 90 (.tmp 23) rfl b2 (o2 + i * 3) rfl (fxC f) _ (fun _ h => h.2) Tryd.underlying90 rfl i2.out) hHeld ?_
        try simp only [Act.put, List.setIfInBounds_toArray, List.set_cons_zero, List.set_cons_succ]
        refine wpAnyH_take (i := 8) (oi := { dst := some 25, op := Op.binOp BinOp.neq 90 (Operand.tmp 20) (Operand.tmp 24) 90, type := 4, pos := "ref.go:187", after := #[{ on := 3, ground := Ground.data }, { on := 7, ground := Ground.data }], guard := none }) (v := ?_) rfl (by kernel_rfl) (by kernel_rfl) (by kernel_rfl) (fun _ _ _ h => h) (Or.inl ⟨by rfl, ?hy8⟩) hHeld ?rest8
        case hy8 =>
          intro w hSw
          try dsimp only at hSw
          go_simp
          try with_reducible rfl
        try simp only [Act.put, List.setIfInBounds_toArray, List.set_cons_zero, List.set_cons_succ]
        refine wpAnyH_done (by kernel_rfl) ?_ _
        clear eqs hS
        go_wp2_with fail
        go_roundw
        case rel => exact ⟨i + 1, by omega, by go_num, HB, Lib.hid (fun j h => by
          by_cases e : j = i
          · subst e
            rw [hf.out, hg.out]
          · exact hsm.out j (by omega))⟩
        case measure => simp [intOf]; omega
      · rw [decide_eq_false efg] at eqs
        go_wp2_with fail
        refine wp_region_held_drew (S := fun w' => w'.rangeAt b1 (o1 + i * 3) (fxC f) ∧ w'.rangeAt b2 (o2 + i * 3) (fxC g)) (by kernel_rfl) (by exact hS.out _ HB) (fun hHeld => ?_)
        refine wpAnyH_take (i := 0) (oi := { dst := some 17, op := Op.move (Operand.tmp 0), type := 43, pos := "ref.go:187", after := #[], guard := none }) (v := ?_) rfl (by kernel_rfl) (by kernel_rfl) (by kernel_rfl) (fun _ _ _ h => h) (Or.inl ⟨by rfl, ?hya0⟩) hHeld ?resta0
        case hya0 =>
          intro w hSw
          try dsimp only at hSw
          go_simp
          try with_reducible rfl
        try simp only [Act.put, List.setIfInBounds_toArray, List.set_cons_zero, List.set_cons_succ]
        refine wpAnyH_take (i := 1) (oi := { dst := some 18, op := Op.move (Operand.tmp 5), type := 3, pos := "ref.go:187", after := #[], guard := none }) (v := ?_) rfl (by kernel_rfl) (by kernel_rfl) (by kernel_rfl) (fun _ _ _ h => h) (Or.inl ⟨by rfl, ?hya1⟩) hHeld ?resta1
        case hya1 =>
          intro w hSw
          try dsimp only at hSw
          go_simp
          try with_reducible rfl
        try simp only [Act.put, List.setIfInBounds_toArray, List.set_cons_zero, List.set_cons_succ]
        refine wpAnyH_take (i := 2) (oi := { dst := some 19, op := Op.indexAddr 43 (Operand.tmp 17) (Operand.tmp 18), type := 0, pos := "ref.go:187", after := #[{ on := 0, ground := Ground.data }, { on := 1, ground := Ground.data }], guard := none }) (v := ?_) rfl (by kernel_rfl) (by kernel_rfl) (by kernel_rfl) (fun _ _ _ h => h) (Or.inl ⟨by rfl, ?hya2⟩) hHeld ?resta2
        case hya2 =>
          intro w hSw
          try dsimp only at hSw
          go_simp
          try with_reducible rfl
        try simp only [Act.put, List.setIfInBounds_toArray, List.set_cons_zero, List.set_cons_succ]
        refine wpAnyH_take (i := 3) (oi := { dst := some 20, op := Op.load 90 (Operand.tmp 19), type := 90, pos := "ref.go:187", after := #[{ on := 2, ground := Ground.data }], guard := none }) (v := _) rfl (by kernel_rfl) (by kernel_rfl) (by kernel_rfl) (fun _ _ _ h => h) (yieldsIf_load_mid (by rfl) 90 (.tmp 19) rfl b1 (o1 + i * 3) rfl (fxC f) _ (fun _ h => h.1) Tryd.underlying90 rfl i1.out) hHeld ?_
        try simp only [Act.put, List.setIfInBounds_toArray, List.set_cons_zero, List.set_cons_succ]
        refine wpAnyH_take (i := 4) (oi := { dst := some 21, op := Op.move (Operand.tmp 1), type := 43, pos := "ref.go:187", after := #[], guard := none }) (v := ?_) rfl (by kernel_rfl) (by kernel_rfl) (by kernel_rfl) (fun _ _ _ h => h) (Or.inl ⟨by rfl, ?hya4⟩) hHeld ?resta4
        case hya4 =>
          intro w hSw
          try dsimp only at hSw
          go_simp
          try with_reducible rfl
        try simp only [Act.put, List.setIfInBounds_toArray, List.set_cons_zero, List.set_cons_succ]
        refine wpAnyH_take (i := 5) (oi := { dst := some 22, op := Op.move (Operand.tmp 5), type := 3, pos := "ref.go:187", after := #[], guard := none }) (v := ?_) rfl (by kernel_rfl) (by kernel_rfl) (by kernel_rfl) (fun _ _ _ h => h) (Or.inl ⟨by rfl, ?hya5⟩) hHeld ?resta5
        case hya5 =>
          intro w hSw
          try dsimp only at hSw
          go_simp
          try with_reducible rfl
        try simp only [Act.put, List.setIfInBounds_toArray, List.set_cons_zero, List.set_cons_succ]
        refine wpAnyH_take (i := 6) (oi := { dst := some 23, op := Op.indexAddr 43 (Operand.tmp 21) (Operand.tmp 22), type := 0, pos := "ref.go:187", after := #[{ on := 4, ground := Ground.data }, { on := 5, ground := Ground.data }], guard := none }) (v := ?_) rfl (by kernel_rfl) (by kernel_rfl) (by kernel_rfl) (fun _ _ _ h => h) (Or.inl ⟨by rfl, ?hya6⟩) hHeld ?resta6
        case hya6 =>
          intro w hSw
          try dsimp only at hSw
          go_simp
          try with_reducible rfl
        try simp only [Act.put, List.setIfInBounds_toArray, List.set_cons_zero, List.set_cons_succ]
        refine wpAnyH_take (i := 7) (oi := { dst := some 24, op := Op.load 90 (Operand.tmp 23), type := 90, pos := "ref.go:187", after := #[{ on := 6, ground := Ground.data }], guard := none }) (v := _) rfl (by kernel_rfl) (by kernel_rfl) (by kernel_rfl) (fun _ _ _ h => h) (yieldsIf_load_mid (by rfl) 90 (.tmp 23) rfl b2 (o2 + i * 3) rfl (fxC g) _ (fun _ h => h.2) Tryd.underlying90 rfl i2.out) hHeld ?_
        try simp only [Act.put, List.setIfInBounds_toArray, List.set_cons_zero, List.set_cons_succ]
        refine wpAnyH_take (i := 8) (oi := { dst := some 25, op := Op.binOp BinOp.neq 90 (Operand.tmp 20) (Operand.tmp 24) 90, type := 4, pos := "ref.go:187", after := #[{ on := 3, ground := Ground.data }, { on := 7, ground := Ground.data }], guard := none }) (v := ?_) rfl (by kernel_rfl) (by kernel_rfl) (by kernel_rfl) (fun _ _ _ h => h) (Or.inl ⟨by rfl, ?hya8⟩) hHeld ?resta8
        case hya8 =>
          intro w hSw
          try dsimp only at hSw
          go_simp
          try with_reducible rfl
        try simp only [Act.put, List.setIfInBounds_toArray, List.set_cons_zero, List.set_cons_succ]
        refine wpAnyH_done (by kernel_rfl) ?_ _
        clear eqs hS
        obtain rfl : res = false := by
          rw [← hres.out]
          refine decide_eq_false fun e => efg ?_
          have := hf.out
          rw [e, hg.out] at this
          exact (Option.some.inj this).symm
        go_wp2_with fail
        refine bodyPost_ret (v := .bool false) (by simp [results, Tryd.results37, go_sem]) rfl ⟨rfl, HB⟩
    · obtain rfl : i = n := by omega
      obtain rfl : res = true := by
        rw [← hres.out]
        refine decide_eq_true (List.ext_getElem? fun j => ?_)
        by_cases h : j < i
        · exact hsm.out j h
        · rw [List.getElem?_eq_none (by rw [hn.out]; omega), List.getElem?_eq_none (by rw [hm.out]; omega)]
      go_wp2_with fail
      refine bodyPost_ret (v := .bool true) (by simp [results, Tryd.results37, go_sem]) rfl ⟨rfl, hb⟩
theorem rsame_any (l k : List Fx) (n m c d : Nat) (A B : Option Addr) (w : World) (hn : l.length = n) (hm : k.length = m) (hA : FxAt w A l) (hB : FxAt w B k) (hI : ∀ f ∈ l, FxI f) (hJ : ∀ f ∈ k, FxI f) (hnm : n ≤ 2000) :
    Calls Tryd.prog 37 #[.slice A n c, .slice B m d] w fun e w' => e = .returned (.bool (decide (l = k))) ∧ Below w.heap.size w w' := by
  by_cases h : n = m
  · subst h
    exact rsame_go l k n c d A B w hn hm hA hB hI hJ hnm
  · rw [decide_eq_false (fun e => h (by rw [← hn, ← hm, e]))]
    exact rsame_len n m c d A B w h

theorem fits_fx {f : Fx} (h : FxOk f) : fits (fxV f) := by
  obtain ⟨h1, h2, h3, h4, h5, h6⟩ := h
  have e : (2 : Nat) ^ 63 = 9223372036854775808 := by decide
  simp only [fxV, lV, fxL, iV, fits, fitsL, e, List.length_cons, List.length_nil]
  simp [ByteArray.size]
  omega
theorem fitsL_fx {l : List Fx} (h : ∀ f ∈ l, FxOk f) : fitsL (l.map fxV) := by
  induction l with
  | nil => trivial
  | cons x l ih => exact ⟨fits_fx (h x (by simp)), ih fun y hy => h y (by simp [hy])⟩
theorem fits_cal {c : Cal} (h : CalOk c) : fits (calV c) := by
  obtain ⟨h1, h2, h3, h4⟩ := h
  have e : (2 : Nat) ^ 63 = 9223372036854775808 := by decide
  have hL := fitsL_fx h4
  simp only [calV, lV, calL, iV, fits, fitsL, e, List.length_cons, List.length_nil, List.length_map]
  refine ⟨⟨by decide, by decide⟩, by simp [ByteArray.size], by decide, ⟨⟨by omega, by omega⟩, by simp [ByteArray.size], by decide, trivial⟩, ⟨⟨by decide, by decide⟩, by simp [ByteArray.size], by omega, hL⟩, trivial⟩
theorem fxV_inj {f g : Fx} (h : fxV f = fxV g) : f = g := by
  obtain ⟨a, b, c⟩ := f
  obtain ⟨a', b', c'⟩ := g
  simp [fxV, lV, fxL, iV] at h
  rw [h.1, h.2.1, h.2.2]
theorem map_fxV_inj : ∀ {l k : List Fx}, l.map fxV = k.map fxV → l = k
  | [], [], _ => rfl
  | [], _ :: _, h => by simp at h
  | _ :: _, [], h => by simp at h
  | x :: l, y :: k, h => by
    simp only [List.map_cons, List.cons.injEq] at h
    rw [fxV_inj h.1, map_fxV_inj h.2]
theorem fm_cal (c : Cal) : ∃ a, fm (calV c) = some a ∧ a ≤ 3 := by
  have h1 : ∃ a, fm (lV (c.fx.map fxV)) = some a ∧ a ≤ 2 := fm_lV fun x hx => by
    obtain ⟨f, _, rfl⟩ := List.mem_map.1 hx
    exact fm_lV (k := 0) fun y hy => by
      simp [fxL] at hy
      rcases hy with rfl | rfl | rfl <;> exact ⟨0, fm_iV _, Nat.le_refl _⟩
  obtain ⟨a, ha, hk⟩ := h1
  exact fm_lV (k := 2) fun x hx => by
    simp [calL] at hx
    rcases hx with rfl | rfl
    · exact ⟨0, fm_iV _, by omega⟩
    · exact ⟨a, ha, hk⟩
/-- different calendars have different texts -/
theorem cal_inj {a b : Cal} (ha : CalOk a) (hb : CalOk b) (h : enc (calV a) = enc (calV b)) : a.fx = b.fx := by
  have hf : ∀ c : Cal, ∃ x, fm (calV c) = some x ∧ x ≤ 3 := fun c => fm_cal c
  obtain ⟨x, hx, hx3⟩ := hf a
  obtain ⟨y, hy, hy3⟩ := hf b
  have h1 := pV_enc (calV a) 3 x [] (fits_cal ha) hx hx3
  have h2 := pV_enc (calV b) 3 y [] (fits_cal hb) hy hy3
  rw [h, h2] at h1
  obtain ⟨no, fx⟩ := a
  obtain ⟨no', fx'⟩ := b
  simp [calV, lV, calL, iV] at h1
  exact (map_fxV_inj h1.2).symm
end Go.Proofs.YthokpfegfnpmhaaDoor
