/- The walk of the reference's next. -/
import Derived.Test.YtnccbhndlnkboaaDoorRefG
import Derived.Test.YtnccbhndlnkboaaDoorMUp
import Derived.Test.YtnccbhndlnkboaaDoorMRows
import Derived.Test.YtnccbhndlnkboaaDoorEqDg
import Derived.Test.YtnccbhndlnkboaaDoorRClimb
import Derived.Test.YtnccbhndlnkboaaDoorSLeaves
import Derived.Test.YtnccbhndlnkboaaDoorSealM
import Derived.Test.YtnccbhndlnkboaaDoorMoreA
import Derived.DeepKeys
namespace Go.Proofs.YtnccbhndlnkboaaDoor
open Go.RowKit Go.Shelf Cdc Sha
set_option linter.unusedVariables false
set_option linter.unusedSimpArgs false

/-- a row of digests that a call returns -/
def NxC (l : List (List UInt8)) (w : World) (e : Ending) (w' : World) : Prop := ∃ (A : Option Addr) (c : Nat), e = .returned (.slice A l.length c) ∧ l.length ≤ c ∧ DsAt w' A l ∧ Below w.heap.size w w' ∧ (l ≠ [] → ∃ g, A = some ⟨g, 0, none⟩ ∧ w.heap.size ≤ g)
set_option maxRecDepth 100000 in
set_option maxHeartbeats 8000000 in
theorem rnext_any (l : List (List UInt8)) (n : Nat) (hn : l.length = n) (hx : n ≤ 100000) (A : Option Addr) (c : Nat) (hc : n ≤ c) (w : World) (h : DsAt w A l) (h32 : ∀ d ∈ l, d.length = 32) :
    Calls Tryd.prog 67 #[.slice A n c] w (NxC (up l) w) := by
  replace h := Lib.hid h
  replace h32 := Lib.hid h32
  replace hn := Lib.hid hn
  have hmt := RowD.empty w w.heap.size w.heap.size rfl (Nat.le_refl _)
  go_enter Tryd.func67, Tryd.ntmps67
  go_wp2_with (refine wpList_noneD (by rfl) (by rfl) ?_)
  go_loopw [3, 4] (fun s3 s4 wr => ∃ (i : Nat) (acc : List (List UInt8)), s4 = .int .i64 i ∧ i ≤ n + 1 ∧ RowD wr w.heap.size s3 acc ∧ Below w.heap.size w wr ∧ Hid (up l = acc ++ up (l.drop i)) ∧ Hid (∀ d ∈ acc, d.length = 32) ∧ acc.length ≤ i) (fun _ s4 _ => n + 1 - (intOf s4).toNat)
  case atStart => exact ⟨0, [], rfl, Nat.zero_le _, hmt, blow1 w _, Lib.hid (by simp), Lib.hid (fun d hd => by simp at hd), by simp⟩
  case round =>
    clear hmt
    obtain ⟨i, acc, rfl, hi, hrow, hBr, hup, ha32, hsz⟩ := hrel
    by_cases h1 : i + 1 < n
    · obtain ⟨a, ha⟩ : ∃ a, l[i]? = some a := ⟨_, List.getElem?_eq_getElem (by rw [hn.out]; omega)⟩
      obtain ⟨b, hb⟩ : ∃ b, l[i + 1]? = some b := ⟨_, List.getElem?_eq_getElem (by rw [hn.out]; omega)⟩
      have hdr : l.drop i = a :: b :: l.drop (i + 2) := by
        obtain ⟨h2, h3⟩ := List.getElem?_eq_some_iff.1 ha
        obtain ⟨h4, h5⟩ := List.getElem?_eq_some_iff.1 hb
        rw [List.drop_eq_getElem_cons h2, List.drop_eq_getElem_cons h4, h3, h5]
      obtain ⟨g, o, eA, hgl0, hr0⟩ := h.out i a ha
      subst eA
      obtain ⟨g', o', e', _, hr1⟩ := h.out (i + 1) b hb
      obtain ⟨rfl, rfl⟩ : g = g' ∧ o = o' := by injection e' with h; injection h with h1 h2; exact ⟨h1, h2⟩
      clear e'
      have hgl : g < wr.heap.size := Nat.lt_of_lt_of_le hgl0 hBr.size
      replace hr0 := range_belowB hr0 hgl0 hBr
      replace hr1 := range_belowB hr1 hgl0 hBr
      have hla := h32.out a (List.mem_of_getElem? ha)
      have hlb := h32.out b (List.mem_of_getElem? hb)
      have pa := Lib.hid (dc_info hla)
      have pb := Lib.hid (dc_info hlb)
      have hS : Hid (∀ V, Below wr.heap.size wr V → V.rangeAt g (o + i * 32) (dc a) ∧ V.rangeAt g (o + (i + 1) * 32) (dc b)) := Lib.hid fun V hV => ⟨range_belowB hr0 hgl hV, range_belowB hr1 hgl hV⟩
      have hN : Hid (∀ V, Calls Tryd.prog 87 #[.agg (dc a).toArray, .agg (dc b).toArray] V (JoinC (ndT a b) V)) := Lib.hid fun V => rtwo_any a b hla hlb V
      have hT9 : Hid ((ndT a b).length = 96) := Lib.hid (by rw [ndT, mT_len, List.length_append, hla, hlb])
      have hZ : Hid (∀ V A' c', AtO V A' (ndT a b) → Calls Tryd.prog 85 #[.slice A' 96 c'] V fun e w' => e = .returned (.agg (dc (ndD a b)).toArray) ∧ Below V.heap.size V w') := Lib.hid fun V A' c' h => rsum_dg (ndT a b) 96 hT9.out (by decide) A' c' V h
      have hup2 : Hid (up l = (acc ++ [ndD a b]) ++ up (l.drop (i + 2))) := Lib.hid (by rw [hup.out, hdr, up]; simp)
      have hD1 : Hid (∀ d ∈ [ndD a b], d.length = 32) := Lib.hid (fun d hd => by simp at hd; subst hd; exact ndD_len a b)
      have hbu := Lib.hid (builtSlice_d1 (ndD a b) (ndD_len a b))
      obtain ⟨T, hT⟩ : ∃ T, ndT a b = T := ⟨_, rfl⟩
      obtain ⟨D, hD⟩ : ∃ D, ndD a b = D := ⟨_, rfl⟩
      rw [hT] at hN hZ hT9
      rw [hD] at hZ hup2 hD1 hbu
      clear hT hD hla hlb hup ha hb hdr
      have HB : Below wr.heap.size wr wr.drew := (Below.refl _ _).drew
      have hg9 : u3.ownBlock ≠ some g := fun e => by have := (hrow.high e).1; omega
      have hacc : acc.length ≤ 1000000 := by omega
      have k0 : i < n := by omega
      have d2 : decide ((i : Int) + 1 < (n : Int)) = true := decide_eq_true (by omega)
      have kw : IntKind.i64.wrap ((i : Int) + 1) = ((i + 1 : Nat) : Int) := by rw [IntWalk.i64_in _ (by omega)]; omega
      have ka : (0 : Int) ≤ ((i + 1 : Nat) : Int) := by omega
      have kb : ((i + 1 : Nat) : Int) < (n : Int) := by omega
      have kc : ((i + 1 : Nat) : Int).toNat = i + 1 := by omega
      obtain ⟨i1, hi1⟩ : ∃ i1, i + 1 = i1 := ⟨_, rfl⟩
      rw [hi1] at kw ka kb kc hr1 hS
      have hi1n : i1 < n := by omega
      replace hi1 := Lib.hid hi1
      go_wp2_with fail
      refine wp_region_held_drew (S := fun w' => w'.rangeAt g (o + i * 32) (dc a) ∧ w'.rangeAt g (o + i1 * 32) (dc b)) (by kernel_rfl) (by exact hS.out _ HB) (fun hHeld => ?_)
      refine wpAnyH_take (i := 0) (oi := { dst := some 17, op := Op.move (Operand.tmp 3), type := 31, pos := "ref.go:25", after := #[], guard := none }) (v := ?_) rfl (by kernel_rfl) (by kernel_rfl) (by kernel_rfl) (fun _ _ _ h => h) (Or.inl ⟨by rfl, ?hy0⟩) hHeld ?rest0
      case hy0 =>
        intro w hSw
        try dsimp only at hSw
        go_simp
        try with_reducible rfl
      try simp only [Act.put, List.setIfInBounds_toArray, List.set_cons_zero, List.set_cons_succ]
      refine wpAnyH_take (i := 1) (oi := { dst := some 18, op := Op.move (Operand.tmp 0), type := 31, pos := "ref.go:25", after := #[], guard := none }) (v := ?_) rfl (by kernel_rfl) (by kernel_rfl) (by kernel_rfl) (fun _ _ _ h => h) (Or.inl ⟨by rfl, ?hy1⟩) hHeld ?rest1
      case hy1 =>
        intro w hSw
        try dsimp only at hSw
        go_simp
        try with_reducible rfl
      try simp only [Act.put, List.setIfInBounds_toArray, List.set_cons_zero, List.set_cons_succ]
      refine wpAnyH_take (i := 2) (oi := { dst := some 19, op := Op.move (Operand.tmp 4), type := 3, pos := "ref.go:25", after := #[], guard := none }) (v := ?_) rfl (by kernel_rfl) (by kernel_rfl) (by kernel_rfl) (fun _ _ _ h => h) (Or.inl ⟨by rfl, ?hy2⟩) hHeld ?rest2
      case hy2 =>
        intro w hSw
        try dsimp only at hSw
        go_simp
        try with_reducible rfl
      try simp only [Act.put, List.setIfInBounds_toArray, List.set_cons_zero, List.set_cons_succ]
      refine wpAnyH_take (i := 3) (oi := { dst := some 20, op := Op.indexAddr 31 (Operand.tmp 18) (Operand.tmp 19), type := 0, pos := "ref.go:25", after := #[{ on := 1, ground := Ground.data }, { on := 2, ground := Ground.data }], guard := none }) (v := ?_) rfl (by kernel_rfl) (by kernel_rfl) (by kernel_rfl) (fun _ _ _ h => h) (Or.inl ⟨by rfl, ?hy3⟩) hHeld ?rest3
      case hy3 =>
        intro w hSw
        try dsimp only at hSw
        go_simp
        try with_reducible rfl
      try simp only [Act.put, List.setIfInBounds_toArray, List.set_cons_zero, List.set_cons_succ]
      refine wpAnyH_take (i := 4) (oi := { dst := some 21, op := Op.load 23 (Operand.tmp 20), type := 23, pos := "ref.go:25", after := #[{ on := 3, ground := Ground.data }], guard := none }) (v := _) rfl (by kernel_rfl) (by kernel_rfl) (by kernel_rfl) (fun _ _ _ h => h) (yieldsIf_load_mid (by rfl) 23 (.tmp 20) rfl g (o + i * 32) rfl (dc a) _ (fun _ h => h.1) Tryd.underlying23 rfl pa.out) hHeld ?_
      try simp only [Act.put, List.setIfInBounds_toArray, List.set_cons_zero, List.set_cons_succ]
      refine wpAnyH_take (i := 5) (oi := { dst := some 22, op := Op.move (Operand.tmp 0), type := 31, pos := "ref.go:25", after := #[], guard := none }) (v := ?_) rfl (by kernel_rfl) (by kernel_rfl) (by kernel_rfl) (fun _ _ _ h => h) (Or.inl ⟨by rfl, ?hy5⟩) hHeld ?rest5
      case hy5 =>
        intro w hSw
        try dsimp only at hSw
        go_simp
        try with_reducible rfl
      try simp only [Act.put, List.setIfInBounds_toArray, List.set_cons_zero, List.set_cons_succ]
      refine wpAnyH_take (i := 6) (oi := { dst := some 23, op := Op.move (Operand.tmp 4), type := 3, pos := "ref.go:25", after := #[], guard := none }) (v := ?_) rfl (by kernel_rfl) (by kernel_rfl) (by kernel_rfl) (fun _ _ _ h => h) (Or.inl ⟨by rfl, ?hy6⟩) hHeld ?rest6
      case hy6 =>
        intro w hSw
        try dsimp only at hSw
        go_simp
        try with_reducible rfl
      try simp only [Act.put, List.setIfInBounds_toArray, List.set_cons_zero, List.set_cons_succ]
      refine wpAnyH_take (i := 7) (oi := { dst := some 24, op := Op.binOp BinOp.add 3 (Operand.tmp 23) (Operand.const (Value.int IntKind.i64 1)) 3, type := 3, pos := "ref.go:25", after := #[{ on := 6, ground := Ground.data }], guard := none }) (v := ?_) rfl (by kernel_rfl) (by kernel_rfl) (by kernel_rfl) (fun _ _ _ h => h) (Or.inl ⟨by rfl, ?hy7⟩) hHeld ?rest7
      case hy7 =>
        intro w hSw
        try dsimp only at hSw
        go_simp
        try with_reducible rfl
      try simp only [Act.put, List.setIfInBounds_toArray, List.set_cons_zero, List.set_cons_succ]
      refine wpAnyH_take (i := 8) (oi := { dst := some 25, op := Op.indexAddr 31 (Operand.tmp 22) (Operand.tmp 24), type := 0, pos := "ref.go:25", after := #[{ on := 5, ground := Ground.data }, { on := 7, ground := Ground.data }], guard := none }) (v := ?_) rfl (by kernel_rfl) (by kernel_rfl) (by kernel_rfl) (fun _ _ _ h => h) (Or.inl ⟨by rfl, ?hy8⟩) hHeld ?rest8
      case hy8 =>
        intro w hSw
        try dsimp only at hSw
        go_simp
        try with_reducible rfl
      try simp only [Act.put, List.setIfInBounds_toArray, List.set_cons_zero, List.set_cons_succ]
      refine wpAnyH_take (i := 9) (oi := { dst := some 26, op := Op.load 23 (Operand.tmp 25), type := 23, pos := "ref.go:25", after := #[{ on := 8, ground := Ground.data }], guard := none }) (v := _) rfl (by kernel_rfl) (by kernel_rfl) (by kernel_rfl) (fun _ _ _ h => h) (yieldsIf_load_mid (by rfl) 23 (.tmp 25) rfl g (o + i1 * 32) rfl (dc b) _ (fun _ h => h.2) Tryd.underlying23 rfl pb.out) hHeld ?_
      try simp only [Act.put, List.setIfInBounds_toArray, List.set_cons_zero, List.set_cons_succ]
      refine wpAnyH_ready (rs := [10]) (by kernel_rfl) (by simp) (AllReadyH.cons (o := { dst := some 27, op := Op.call { callee := Callee.value (Operand.func 87), args := #[Operand.tmp 21, Operand.tmp 26], argTypes := #[23, 23] }, type := 48, pos := "ref.go:25", after := #[{ on := 4, ground := Ground.data }, { on := 9, ground := Ground.data }], guard := none }) rfl (fun K hK => ?_) AllReadyH.nil)
      go_simp
      go_at_call 87
      refine (hN.out _).mono ?_
      unfold JoinC
      rw [hT9.out]
      rintro e w4 ⟨A4, c4, rfl, h41, h42, h43, hb, -⟩
      replace HB := HB.trans (hb.mono HB.size)
      replace h43 := Lib.hid h43
      clear hb
      refine hK.out _ _ (by exact hS.out _ HB) (fun hHeld' => ?_)
      clear hK K hHeld
      have hHeld := hHeld'
      clear hHeld'
      try simp only [Act.put, List.setIfInBounds_toArray, List.set_cons_zero, List.set_cons_succ]
      refine wpAnyH_ready (rs := [11]) (by kernel_rfl) (by simp) (AllReadyH.cons (o := { dst := some 28, op := Op.call { callee := Callee.value (Operand.func 85), args := #[Operand.tmp 27], argTypes := #[48] }, type := 23, pos := "ref.go:25", after := #[{ on := 10, ground := Ground.data }, { on := 10, ground := Ground.chain }], guard := none }) rfl (fun K hK => ?_) AllReadyH.nil)
      go_simp
      go_at_call 85
      refine (hZ.out _ _ _ h43.out).mono ?_
      rintro e w5 ⟨rfl, hb⟩
      replace HB := HB.trans (hb.mono HB.size)
      clear hb
      refine hK.out _ _ (by exact hS.out _ HB) (fun hHeld' => ?_)
      clear hK K hHeld
      have hHeld := hHeld'
      clear hHeld'
      try simp only [Act.put, List.setIfInBounds_toArray, List.set_cons_zero, List.set_cons_succ]
      refine wpAnyH_ready (rs := [12]) (by kernel_rfl) (by simp) (AllReadyH.cons (o := { dst := some 29, op := Op.buildSlice 31 1 #[(0, Operand.tmp 28)], type := 31, pos := "ref.go:25", after := #[{ on := 11, ground := Ground.data }], guard := none }) rfl (fun K hK => ?_) AllReadyH.nil)
      refine step_built (by rfl) 31 23 1 #[(0, .tmp 28)] (by rfl) Tryd.underlying31 (dc D).toArray (by simp only [List.map_toArray, List.map_cons, List.map_nil]; exact hbu.out) ?_
      have HB9 := HB.alloc HB.size (.cells (dc D).toArray 23)
      have hrow9 := hrow.below HB9
      have hat9 := dsAt_row (l := [D]) hD1.out (heap_alloc_new w5 (.cells (dc D).toArray 23)) (by simp [dsC])
      refine hK.out _ _ (by exact hS.out _ HB9) (fun hHeld' => ?_)
      clear hK K hHeld
      have hHeld := hHeld'
      clear hHeld'
      try simp only [Act.put, List.setIfInBounds_toArray, List.set_cons_zero, List.set_cons_succ]
      refine wpAnyH_ready (rs := [13]) (by kernel_rfl) (by simp) (AllReadyH.cons (o := { dst := some 30, op := Op.call { callee := Callee.builtin Builtin.append, args := #[Operand.tmp 17, Operand.tmp 29], argTypes := #[31, 31] }, type := 31, pos := "ref.go:25", after := #[{ on := 0, ground := Ground.data }, { on := 12, ground := Ground.data }, { on := 11, ground := Ground.chain }], guard := none }) rfl (fun K hK => ?_) AllReadyH.nil)
      refine step_appD _ (by rfl) (.tmp 17) (.tmp 29) (by rfl) w.heap.size u3 acc [D] (some ⟨w5.heap.size, 0, none⟩) 1 1 (by rfl) (by rfl) (by rfl) hat9 hrow9 hD1.out hacc (by decide) (by simp; have := hBr.size; have := HB.size; omega) ?_
      intro row' w6 hrow6 hg6
      refine hK.out _ _ (by exact ⟨range_grown hg6 hr0 hgl HB9 hg9, range_grown hg6 hr1 hgl HB9 hg9⟩) (fun hHeld' => ?_)
      clear hK K hHeld
      have hHeld := hHeld'
      clear hHeld'
      try simp only [Act.put, List.setIfInBounds_toArray, List.set_cons_zero, List.set_cons_succ]
      refine wpAnyH_take (i := 14) (oi := { dst := some 3, op := Op.assign (Operand.tmp 30), type := 31, pos := "ref.go:25", after := #[{ on := 13, ground := Ground.data }, { on := 13, ground := Ground.chain }, { on := 0, ground := Ground.phase }, { on := 1, ground := Ground.phase }, { on := 2, ground := Ground.phase }, { on := 3, ground := Ground.phase }, { on := 4, ground := Ground.phase }, { on := 5, ground := Ground.phase }, { on := 6, ground := Ground.phase }, { on := 7, ground := Ground.phase }, { on := 8, ground := Ground.phase }, { on := 9, ground := Ground.phase }, { on := 10, ground := Ground.phase }, { on := 11, ground := Ground.phase }, { on := 12, ground := Ground.phase }, { on := 13, ground := Ground.phase }], guard := none }) (v := ?_) rfl (by kernel_rfl) (by kernel_rfl) (by kernel_rfl) (fun _ _ _ h => h) (Or.inl ⟨by rfl, ?hy14⟩) hHeld ?rest14
      case hy14 =>
        intro w hSw
        try dsimp only at hSw
        go_simp
        try with_reducible rfl
      try simp only [Act.put, List.setIfInBounds_toArray, List.set_cons_zero, List.set_cons_succ]
      refine wpAnyH_done (by kernel_rfl) ?_ _
      have HB6 : Below w.heap.size w w6 := RowD.grown hrow9 (hBr.trans (HB9.mono hBr.size)) (Nat.le_refl _) (by have := hBr.size; have := HB9.size; omega) hg6
      go_wp2_with fail
      go_roundw
      case rel => exact ⟨i + 2, acc ++ [D], by go_num, by omega, hrow6, HB6, hup2, Lib.hid (fun d hd => by rcases List.mem_append.1 hd with h | h; exact ha32.out d h; exact hD1.out d h), by simp; omega⟩
      case measure => simp [intOf]; omega
    · by_cases h2 : i < n
      · obtain ⟨a, ha⟩ : ∃ a, l[i]? = some a := ⟨_, List.getElem?_eq_getElem (by rw [hn.out]; omega)⟩
        have hdr : l.drop i = [a] := by
          obtain ⟨h4, h3⟩ := List.getElem?_eq_some_iff.1 ha
          rw [List.drop_eq_getElem_cons h4, h3, List.drop_of_length_le (by rw [hn.out]; omega)]
        obtain ⟨g, o, eA, hgl0, hr0⟩ := h.out i a ha
        subst eA
        have hgl : g < wr.heap.size := Nat.lt_of_lt_of_le hgl0 hBr.size
        have hr9 := Lib.hid (range_belowB hr0 hgl0 hBr)
        have hla := h32.out a (List.mem_of_getElem? ha)
        have pa := Lib.hid (dc_info hla)
        have hup2 : Hid (up l = (acc ++ [a]) ++ up (l.drop (i + 2))) := Lib.hid (by rw [hup.out, hdr, List.drop_of_length_le (by rw [hn.out]; omega)]; simp [up])
        have hD1 : Hid (∀ d ∈ [a], d.length = 32) := Lib.hid (fun d hd => by simp at hd; subst hd; exact hla)
        have hbu := Lib.hid (builtSlice_d1 a hla)
        have hacc : acc.length ≤ 1000000 := by omega
        have HB9 := (Below.refl wr.heap.size wr).alloc (Nat.le_refl _) (.cells (dc a).toArray 23)
        have hrow9 := hrow.below HB9
        have hat9 := Lib.hid (dsAt_row (l := [a]) hD1.out (heap_alloc_new wr (.cells (dc a).toArray 23)) (by simp [dsC]))
        have hBw := hBr.trans (HB9.mono hBr.size)
        clear hr0 hla hup ha hdr
        have d2 : decide ((i : Int) + 1 < (n : Int)) = false := decide_eq_false (by omega)
        go_wp2_with (first
          | (refine wpList_load_mid (by rfl) 23 (.tmp 34) (by rfl) g (o + i * 32) (by rfl) (dc a) _ hr9.out Tryd.underlying23 (by rfl) pa.out ?_)
          | (refine wpList_built (by rfl) 31 23 1 #[(0, .tmp 35)] (by rfl) Tryd.underlying31 (dc a).toArray (by simp only [List.map_toArray, List.map_cons, List.map_nil]; exact hbu.out) ?_)
          | (refine wpList_appD _ (by rfl) (.tmp 31) (.tmp 36) (by rfl) w.heap.size u3 acc [a] (some ⟨wr.heap.size, 0, none⟩) 1 1 (by rfl) (by rfl) rfl hat9.out hrow9 hD1.out hacc (by decide) hBw.size ?_; intro row' w6 hrow6 hg6))
        have HB6 : Below w.heap.size w w6 := RowD.grown hrow9 hBw (Nat.le_refl _) hBw.size hg6
        go_roundw
        case rel => exact ⟨i + 2, acc ++ [a], by go_num, by omega, hrow6, HB6, hup2, Lib.hid (fun d hd => by rcases List.mem_append.1 hd with h | h; exact ha32.out d h; exact hD1.out d h), by simp; omega⟩
        case measure => simp [intOf]; omega
      · have hu : Hid (up l = acc) := Lib.hid (by rw [hup.out, List.drop_of_length_le (by rw [hn.out]; omega)]; simp [up])
        obtain ⟨A6, c6, e6, hc6, hd6⟩ := hrow.ds ha32.out
        subst e6
        have d2 : decide ((i : Int) < (n : Int)) = false := decide_eq_false (by omega)
        go_wp2
        refine bodyPost_ret (v := .slice A6 acc.length c6) (by simp [results, Tryd.results67, go_sem]) rfl ?_
        rw [hu.out]
        exact ⟨A6, c6, rfl, hc6, hd6, hBr, fun h => by obtain ⟨g, _, _, _, e, hb, _⟩ := hrow.spot h; exact ⟨g, e, hb⟩⟩
end Go.Proofs.YtnccbhndlnkboaaDoor
/- The walks of the reference's first and Same. -/
namespace Go.Proofs.YtnccbhndlnkboaaDoor
open Go.RowKit Go.Shelf Cdc Sha
set_option linter.unusedVariables false
set_option linter.unusedSimpArgs false

set_option maxRecDepth 100000 in
set_option maxHeartbeats 8000000 in
theorem rfirst_any (ls : List (List UInt8)) (m : Nat) (hn : ls.length = m) (hm : m ≤ 1000) (A : Option Addr) (c : Nat) (w : World) (hls : LvAt w A ls) (hsm : ∀ x ∈ ls, x.length ≤ 1000000) :
    Calls Tryd.prog 66 #[.slice A m c] w (NxC (ls.map lfD) w) := by
  replace hls := Lib.hid hls
  replace hn := Lib.hid hn
  replace hsm := Lib.hid hsm
  have hmt := RowD.empty w w.heap.size w.heap.size rfl (Nat.le_refl _)
  go_enter Tryd.func66, Tryd.ntmps66
  go_wp2_with (refine wpList_noneD (by rfl) (by rfl) ?_)
  go_loopw [3, 4] (fun s3 s4 wr => ∃ (i : Nat) (acc : List (List UInt8)), s4 = .int .i64 i ∧ i ≤ m ∧ RowD wr w.heap.size s3 acc ∧ Below w.heap.size w wr ∧ Hid (ls.map lfD = acc ++ (ls.drop i).map lfD) ∧ Hid (∀ d ∈ acc, d.length = 32) ∧ acc.length ≤ i) (fun _ s4 _ => m - (intOf s4).toNat)
  case atStart => exact ⟨0, [], rfl, Nat.zero_le _, hmt, blow1 w _, Lib.hid (by simp), Lib.hid (fun d hd => by simp at hd), by simp⟩
  case round =>
    clear hmt
    obtain ⟨i, acc, rfl, hi, hrow, hBr, hup, ha32, hsz⟩ := hrel
    by_cases h2 : i < m
    · obtain ⟨x, hx⟩ : ∃ x, ls[i]? = some x := ⟨_, List.getElem?_eq_getElem (by rw [hn.out]; omega)⟩
      have hdr : ls.drop i = x :: ls.drop (i + 1) := by
        obtain ⟨h4, h3⟩ := List.getElem?_eq_some_iff.1 hx
        rw [List.drop_eq_getElem_cons h4, h3]
      obtain ⟨g, o, A1, c1, eA, hcell, hxc, hc9, hat⟩ := (hls.out.below hBr) i x hx
      subst eA
      have hxs := hsm.out x (List.mem_of_getElem? hx)
      obtain ⟨N, hN⟩ : ∃ N, x.length = N := ⟨_, rfl⟩
      rw [hN] at hcell hxc hxs
      have hT : Hid (Calls Tryd.prog 86 #[.string leafB, .slice A1 N c1] wr (JoinC (lfT x) wr)) := Lib.hid (rtext7_any leafB (by decide) x N hN (by omega) A1 c1 wr hat)
      have hlen : (lfT x).length = 32 + N := by rw [lfT, mT_len, hN]
      have hup2 : Hid (ls.map lfD = (acc ++ [lfD x]) ++ (ls.drop (i + 1)).map lfD) := Lib.hid (by rw [hup.out, hdr]; simp)
      have hZ : Hid (∀ V A' c', AtO V A' (lfT x) → Calls Tryd.prog 85 #[.slice A' (32 + N) c'] V fun e w' => e = .returned (.agg (dg (lfD x))) ∧ Below V.heap.size V w') := Lib.hid fun V A' c' h => rsum_dg (lfT x) (32 + N) hlen (by omega) A' c' V h
      have hD1 : Hid (∀ d ∈ [lfD x], d.length = 32) := Lib.hid (fun d hd => by simp at hd; subst hd; exact lfD_len x)
      have hbu := Lib.hid (builtSlice_d1 (lfD x) (lfD_len x))
      obtain ⟨T, hTT⟩ : ∃ T, lfT x = T := ⟨_, rfl⟩
      obtain ⟨D, hD⟩ : ∃ D, lfD x = D := ⟨_, rfl⟩
      rw [hTT] at hT hZ hlen
      rw [hD] at hZ hup2 hD1 hbu
      have hacc : acc.length ≤ 1000000 := by omega
      obtain ⟨n9, hn9⟩ : ∃ n9, 32 + N = n9 := ⟨_, rfl⟩
      rw [hn9] at hZ hlen
      replace hlen := Lib.hid hlen
      clear hTT hD hup hdr hx hN hat hxs hn9
      go_wp2_with fail
      refine hT.out.mono ?_
      unfold JoinC
      rw [hlen.out]
      rintro e w4 ⟨A4, c4, rfl, h41, h42, h43, hb4, -⟩
      replace h43 := Lib.hid h43
      go_wp2_with fail
      refine (hZ.out _ _ _ h43.out).mono ?_
      rintro e w5 ⟨rfl, hb5⟩
      have HB5 := hb4.trans (hb5.mono hb4.size)
      have HB9 := HB5.alloc HB5.size (.cells (dc D).toArray 23)
      have hrow9 := hrow.below HB9
      have hat9 := Lib.hid (dsAt_row (l := [D]) hD1.out (heap_alloc_new w5 (.cells (dc D).toArray 23)) (by simp [dsC]))
      have hBw := hBr.trans (HB9.mono hBr.size)
      clear hb4 hb5 h43 h41 h42 hcell
      go_wp2_with (first
        | (refine wpList_built (by rfl) 31 23 1 #[(0, .tmp 18)] (by rfl) Tryd.underlying31 (dc D).toArray (by simp only [List.map_toArray, List.map_cons, List.map_nil]; exact hbu.out) ?_)
        | (refine wpList_appD _ (by rfl) (.tmp 12) (.tmp 19) (by rfl) w.heap.size u3 acc [D] (some ⟨w5.heap.size, 0, none⟩) 1 1 (by rfl) (by rfl) rfl hat9.out hrow9 hD1.out hacc (by decide) hBw.size ?_; intro row' w6 hrow6 hg6))
      have HB6 : Below w.heap.size w w6 := RowD.grown hrow9 hBw (Nat.le_refl _) hBw.size hg6
      go_roundw
      case rel => exact ⟨i + 1, acc ++ [D], by go_num, by omega, hrow6, HB6, hup2, Lib.hid (fun d hd => by rcases List.mem_append.1 hd with h | h; exact ha32.out d h; exact hD1.out d h), by simp; omega⟩
      case measure => simp [intOf]; omega
    · have hu : Hid (ls.map lfD = acc) := Lib.hid (by rw [hup.out, List.drop_of_length_le (by rw [hn.out]; omega)]; simp)
      obtain ⟨A6, c6, e6, hc6, hd6⟩ := hrow.ds ha32.out
      subst e6
      go_wp2
      refine bodyPost_ret (v := .slice A6 acc.length c6) (by simp [results, Tryd.results66, go_sem]) rfl ?_
      rw [hu.out]
      exact ⟨A6, c6, rfl, hc6, hd6, hBr, fun h => by obtain ⟨g, _, _, _, e, hb, _⟩ := hrow.spot h; exact ⟨g, e, hb⟩⟩

set_option maxRecDepth 100000 in
set_option maxHeartbeats 8000000 in
theorem rsame7_any (la lb : List (List UInt8)) (m n : Nat) (hms : m ≤ 100000) (hm : la.length = m) (hn : lb.length = n) (A B : Option Addr) (ca cb : Nat) (w : World) (hA : DsAt w A la) (hB : DsAt w B lb) (a32 : ∀ d ∈ la, d.length = 32) (b32 : ∀ d ∈ lb, d.length = 32) :
    Calls Tryd.prog 42 #[.slice A m ca, .slice B n cb] w fun e w' => e = .returned (.bool (decide (la = lb))) ∧ Below w.heap.size w w' := by
  by_cases hmn : m = n
  · subst hmn
    obtain ⟨q, hq⟩ : ∃ q, decide (la = lb) = q := ⟨_, rfl⟩
    rw [hq]
    replace hq := Lib.hid hq
    replace hA := Lib.hid hA
    replace hB := Lib.hid hB
    replace hm := Lib.hid hm
    replace hn := Lib.hid hn
    replace a32 := Lib.hid a32
    replace b32 := Lib.hid b32
    go_enter Tryd.func42, Tryd.ntmps42
    go_wp2_with fail
    go_loopw [5] (fun s5 wr => ∃ i : Nat, s5 = .int .i64 i ∧ i ≤ m ∧ Below w.heap.size w wr ∧ Hid (la.take i = lb.take i)) (fun s5 _ => m - (intOf s5).toNat)
    case atStart => exact ⟨0, rfl, Nat.zero_le _, Below.refl _ _, Lib.hid (by simp)⟩
    case round =>
      obtain ⟨i, rfl, hi, hBr, htk⟩ := hrel
      by_cases h2 : i < m
      · obtain ⟨a, ha⟩ : ∃ a, la[i]? = some a := ⟨_, List.getElem?_eq_getElem (by rw [hm.out]; omega)⟩
        obtain ⟨b, hb⟩ : ∃ b, lb[i]? = some b := ⟨_, List.getElem?_eq_getElem (by rw [hn.out]; omega)⟩
        obtain ⟨ga, oa, eA, hga, hra⟩ := hA.out i a ha
        subst eA
        obtain ⟨gb, ob, eB, hgb, hrb⟩ := hB.out i b hb
        subst eB
        have hla := a32.out a (List.mem_of_getElem? ha)
        have hlb := b32.out b (List.mem_of_getElem? hb)
        have pa := Lib.hid (dc_info hla)
        have pb := Lib.hid (dc_info hlb)
        have hS : Hid (∀ V, Below wr.heap.size wr V → V.rangeAt ga (oa + i * 32) (dc a) ∧ V.rangeAt gb (ob + i * 32) (dc b)) := Lib.hid fun V hV => ⟨range_belowB hra hga (hBr.trans (hV.mono hBr.size)), range_belowB hrb hgb (hBr.trans (hV.mono hBr.size))⟩
        have hEq : ∀ V, (Op.equalIn 10000 23 (.agg (dc a).toArray) (.agg (dc b).toArray)).run Tryd.prog V = .ok (decide (a = b)) V := eq_dg a b hla hlb
        obtain ⟨t, ht⟩ : ∃ t, decide (a = b) = t := ⟨_, rfl⟩
        have hne : Hid (t = false → q = false) := Lib.hid fun h => by
          rw [← hq.out]
          refine decide_eq_false fun e => of_decide_eq_false (ht.trans h) ?_
          rw [e, hb] at ha
          exact (Option.some.inj ha).symm
        have hnx : Hid (t = true → la.take (i + 1) = lb.take (i + 1)) := Lib.hid fun h => by
          have e := of_decide_eq_true (ht.trans h)
          rw [List.take_add_one, List.take_add_one, htk.out, ha, hb, e]
        rw [ht] at hEq
        have HB : Below wr.heap.size wr wr.drew := (Below.refl _ _).drew
        clear ht ha hb hla hlb hra hrb htk
        go_wp2_with fail
        refine wp_region_held_drew (S := fun w' => w'.rangeAt ga (oa + i * 32) (dc a) ∧ w'.rangeAt gb (ob + i * 32) (dc b)) (by kernel_rfl) (by exact hS.out _ HB) (fun hHeld => ?_)
        refine wpAnyH_take (i := 0) (oi := { dst := some 17, op := Op.move (Operand.tmp 0), type := 31, pos := "ref.go:148", after := #[], guard := none }) (v := ?_) rfl (by kernel_rfl) (by kernel_rfl) (by kernel_rfl) (fun _ _ _ h => h) (Or.inl ⟨by rfl, ?hy0⟩) hHeld ?rest0
        case hy0 =>
          intro w hSw
          try dsimp only at hSw
          go_simp
          try with_reducible rfl
        try simp only [Act.put, List.setIfInBounds_toArray, List.set_cons_zero, List.set_cons_succ]
        refine wpAnyH_take (i := 1) (oi := { dst := some 18, op := Op.move (Operand.tmp 5), type := 3, pos := "ref.go:148", after := #[], guard := none }) (v := ?_) rfl (by kernel_rfl) (by kernel_rfl) (by kernel_rfl) (fun _ _ _ h => h) (Or.inl ⟨by rfl, ?hy1⟩) hHeld ?rest1
        case hy1 =>
          intro w hSw
          try dsimp only at hSw
          go_simp
          try with_reducible rfl
        try simp only [Act.put, List.setIfInBounds_toArray, List.set_cons_zero, List.set_cons_succ]
        refine wpAnyH_take (i := 2) (oi := { dst := some 19, op := Op.indexAddr 31 (Operand.tmp 17) (Operand.tmp 18), type := 0, pos := "ref.go:148", after := #[{ on := 0, ground := Ground.data }, { on := 1, ground := Ground.data }], guard := none }) (v := ?_) rfl (by kernel_rfl) (by kernel_rfl) (by kernel_rfl) (fun _ _ _ h => h) (Or.inl ⟨by rfl, ?hy2⟩) hHeld ?rest2
        case hy2 =>
          intro w hSw
          try dsimp only at hSw
          go_simp
          try with_reducible rfl
        try simp only [Act.put, List.setIfInBounds_toArray, List.set_cons_zero, List.set_cons_succ]
        refine wpAnyH_take (i := 3) (oi := { dst := some 20, op := Op.load 23 (Operand.tmp 19), type := 23, pos := "ref.go:148", after := #[{ on := 2, ground := Ground.data }], guard := none }) (v := _) rfl (by kernel_rfl) (by kernel_rfl) (by kernel_rfl) (fun _ _ _ h => h) (yieldsIf_load_mid (by rfl) 23 (.tmp 19) rfl ga (oa + i * 32) rfl (dc a) _ (fun _ h => h.1) Tryd.underlying23 rfl pa.out) hHeld ?_
        try simp only [Act.put, List.setIfInBounds_toArray, List.set_cons_zero, List.set_cons_succ]
        refine wpAnyH_take (i := 4) (oi := { dst := some 21, op := Op.move (Operand.tmp 1), type := 31, pos := "ref.go:148", after := #[], guard := none }) (v := ?_) rfl (by kernel_rfl) (by kernel_rfl) (by kernel_rfl) (fun _ _ _ h => h) (Or.inl ⟨by rfl, ?hy4⟩) hHeld ?rest4
        case hy4 =>
          intro w hSw
          try dsimp only at hSw
          go_simp
          try with_reducible rfl
        try simp only [Act.put, List.setIfInBounds_toArray, List.set_cons_zero, List.set_cons_succ]
        refine wpAnyH_take (i := 5) (oi := { dst := some 22, op := Op.move (Operand.tmp 5), type := 3, pos := "ref.go:148", after := #[], guard := none }) (v := ?_) rfl (by kernel_rfl) (by kernel_rfl) (by kernel_rfl) (fun _ _ _ h => h) (Or.inl ⟨by rfl, ?hy5⟩) hHeld ?rest5
        case hy5 =>
          intro w hSw
          try dsimp only at hSw
          go_simp
          try with_reducible rfl
        try simp only [Act.put, List.setIfInBounds_toArray, List.set_cons_zero, List.set_cons_succ]
        refine wpAnyH_take (i := 6) (oi := { dst := some 23, op := Op.indexAddr 31 (Operand.tmp 21) (Operand.tmp 22), type := 0, pos := "ref.go:148", after := #[{ on := 4, ground := Ground.data }, { on := 5, ground := Ground.data }], guard := none }) (v := ?_) rfl (by kernel_rfl) (by kernel_rfl) (by kernel_rfl) (fun _ _ _ h => h) (Or.inl ⟨by rfl, ?hy6⟩) hHeld ?rest6
        case hy6 =>
          intro w hSw
          try dsimp only at hSw
          go_simp
          try with_reducible rfl
        try simp only [Act.put, List.setIfInBounds_toArray, List.set_cons_zero, List.set_cons_succ]
        refine wpAnyH_take (i := 7) (oi := { dst := some 24, op := Op.load 23 (Operand.tmp 23), type := 23, pos := "ref.go:148", after := #[{ on := 6, ground := Ground.data }], guard := none }) (v := _) rfl (by kernel_rfl) (by kernel_rfl) (by kernel_rfl) (fun _ _ _ h => h) (yieldsIf_load_mid (by rfl) 23 (.tmp 23) rfl gb (ob + i * 32) rfl (dc b) _ (fun _ h => h.2) Tryd.underlying23 rfl pb.out) hHeld ?_
        try simp only [Act.put, List.setIfInBounds_toArray, List.set_cons_zero, List.set_cons_succ]
        refine wpAnyH_take (i := 8) (oi := { dst := some 25, op := Op.binOp BinOp.neq 23 (Operand.tmp 20) (Operand.tmp 24) 23, type := 4, pos := "ref.go:148", after := #[{ on := 3, ground := Ground.data }, { on := 7, ground := Ground.data }], guard := none }) (v := ?_) rfl (by kernel_rfl) (by kernel_rfl) (by kernel_rfl) (fun _ _ _ h => h) (Or.inl ⟨by rfl, ?hy8⟩) hHeld ?rest8
        case hy8 =>
          intro w hSw
          try dsimp only at hSw
          go_simp
          try with_reducible rfl
        try simp only [Act.put, List.setIfInBounds_toArray, List.set_cons_zero, List.set_cons_succ]
        refine wpAnyH_done (by kernel_rfl) ?_ _
        have HF := hBr.trans (HB.mono hBr.size)
        clear hHeld HB
        cases t with
        | true =>
          have hx9 := Lib.hid (hnx.out rfl)
          go_wp2_with fail
          go_roundw
          case rel => exact ⟨i + 1, by go_num, by omega, HF, hx9⟩
          case measure => simp [intOf]; omega
        | false =>
          obtain rfl := hne.out rfl
          go_wp2_with fail
          go_ret
          exact ⟨rfl, HF⟩
      · obtain rfl : q = true := by
          rw [← hq.out]
          refine decide_eq_true ?_
          have := htk.out
          rw [List.take_of_length_le (by rw [hm.out]; omega), List.take_of_length_le (by rw [hn.out]; omega)] at this
          exact this
        go_wp2
        go_ret
        exact ⟨rfl, hBr⟩
  · have e : decide (la = lb) = false := decide_eq_false fun e => hmn (by rw [← hm, ← hn, e])
    rw [e]
    have d1 : ((m : Int) != (n : Int)) = true := by simp; omega
    have d2 : (m != n) = true := by simp; omega
    have d3 : decide (m = n) = false := decide_eq_false hmn
    replace hmn := Lib.hid hmn
    go_enter Tryd.func42, Tryd.ntmps42
    go_wp2
    go_ret
    exact ⟨rfl, Below.refl _ _⟩
end Go.Proofs.YtnccbhndlnkboaaDoor
/- The walk of the reference's Root. -/
namespace Go.Proofs.YtnccbhndlnkboaaDoor
open Go.RowKit Go.Shelf Cdc Sha
set_option linter.unusedVariables false
set_option linter.unusedSimpArgs false

theorem up_pos {r : List (List UInt8)} (h : 0 < r.length) : 0 < (up r).length := by rw [up_len]; omega
set_option maxRecDepth 100000 in
set_option maxHeartbeats 8000000 in
theorem rroot_any (ls : List (List UInt8)) (m : Nat) (hn : ls.length = m) (h0 : 0 < m) (hm : m ≤ 1000) (A : Option Addr) (c : Nat) (w : World) (hls : LvAt w A ls) (hsm : ∀ x ∈ ls, x.length ≤ 1000000) : Calls Tryd.prog 37 #[.slice A m c] w fun e w' => e = .returned (.agg (dg (rootM (ls.map lfD)))) ∧ Below w.heap.size w w' := by
  have hlen : (ls.map lfD).length = m := by rw [List.length_map, hn]
  have h32 : ∀ d ∈ ls.map lfD, d.length = 32 := fun d hd => by
    obtain ⟨x, -, rfl⟩ := List.mem_map.1 hd
    exact lfD_len x
  obtain ⟨R, hR⟩ : ∃ R, rootM (ls.map lfD) = R := ⟨_, rfl⟩
  have hR32 : R.length = 32 := hR ▸ rootM_len m _ hlen (fun e => by rw [e] at hlen; simp at hlen; omega) h32
  rw [hR]
  have hz := heap_alloc_new w (.cells (dg zero32) 23)
  have hb1 : Below w.heap.size w (w.alloc (.cells (dg zero32) 23)) := blow1 w _
  have hsz1 : (w.alloc (.cells (dg zero32) 23)).heap.size = w.heap.size + 1 := by simp
  obtain ⟨W1, hW1⟩ : ∃ W1, W1 = w.alloc (.cells (dg zero32) 23) := ⟨_, rfl⟩
  rw [← hW1] at hz hb1 hsz1
  have hFi := Lib.hid (rfirst_any ls m hn hm A c W1 (hls.below hb1) hsm)
  have hzr : Hid (∀ V, Below W1.heap.size W1 V → V.heap[w.heap.size]? = some (.cells (dg zero32) 23 (0, 0)) ∧ Below w.heap.size w V) := Lib.hid fun V hV => ⟨(hV.block _ (by omega)).trans hz, hb1.trans (hV.mono hb1.size)⟩
  have z1 : ((m : Int) == 0) = false := by simp; omega
  have z2 : (m == 0) = false := by simp; omega
  have z3 : decide (m = 0) = false := decide_eq_false (by omega)
  have pi := Lib.hid (dg_info R hR32)
  have po := Lib.hid (dg_one R)
  have pz := Lib.hid (show (dg zero32).size = (dg R).size by rw [dg_size, dg_size, hR32, zero32_len])
  have pd := Lib.hid (dc_info hR32)
  replace hR := Lib.hid hR
  replace h32 := Lib.hid h32
  replace hlen := Lib.hid hlen
  replace h0 := Lib.hid h0
  clear hn hls hsm hz hb1 hsz1
  unfold NxC at hFi
  rw [hlen.out] at hFi
  have hFi2 : Calls Tryd.prog 66 #[.slice A m c] (w.alloc (.cells (dg zero32) 23)) (fun e w' => ∃ (A' : Option Addr) (c' : Nat), e = .returned (.slice A' m c') ∧ m ≤ c' ∧ DsAt w' A' (ls.map lfD) ∧ Below W1.heap.size W1 w') := by
    rw [← hW1]
    exact hFi.out.mono fun e w' h => by
      obtain ⟨A', c', h1, h2, h3, h4, _⟩ := h
      exact ⟨A', c', h1, h2, h3, h4⟩
  clear hW1 hFi
  replace hFi2 := Lib.hid hFi2
  go_enter Tryd.func37, Tryd.ntmps37
  go_wp2_with fail
  refine hFi2.out.mono ?_
  rintro e w2 ⟨A2, c2, rfl, hc2, hd2, hb2⟩
  clear hFi2 z1 z2 z3
  replace hd2 := Lib.hid hd2
  go_wp2_with fail
  go_loopw [3] (fun s3 wr => ∃ (r : List (List UInt8)) (n : Nat) (A' : Option Addr) (c' : Nat), s3 = .slice A' n c' ∧ Hid (r.length = n) ∧ 0 < n ∧ n ≤ m ∧ n ≤ c' ∧ Hid (DsAt wr A' r) ∧ Hid (∀ d ∈ r, d.length = 32) ∧ Hid (rootM r = R) ∧ Below W1.heap.size W1 wr) (fun s3 _ => lenSl s3)
  case atStart => exact ⟨_, m, A2, c2, rfl, hlen, h0.out, Nat.le_refl _, hc2, hd2, h32, hR, hb2⟩
  case round =>
    clear hd2 hc2 hb2
    obtain ⟨r, n, A3, c3, rfl, hrn, hn0, hnm, hc3, hd3, hr32, hrR, hb3⟩ := hrel
    by_cases h1 : 1 < n
    · have hup : Hid (rootM (up r) = R) := Lib.hid (by rw [← rootM_big (by rw [hrn.out]; exact h1)]; exact hrR.out)
      have hu32 := Lib.hid (up_all r hr32.out)
      obtain ⟨n2, hn2⟩ : ∃ n2, (up r).length = n2 := ⟨_, rfl⟩
      have hn3 : n2 = (n + 1) / 2 := by rw [← hn2, up_len, hrn.out]
      have hNx := Lib.hid (rnext_any r n hrn.out (by omega) A3 c3 hc3 wr hd3.out hr32.out)
      unfold NxC at hNx
      rw [hn2] at hNx
      replace hn2 := Lib.hid hn2
      have hn4 : n2 < n ∧ 0 < n2 := by omega
      replace hn4 := Lib.hid hn4
      clear hn3
      have d1 : decide ((1 : Int) < (n : Int)) = true := decide_eq_true (by omega)
      go_wp2_with fail
      refine hNx.out.mono ?_
      rintro e w4 ⟨A4, c4, rfl, hc4, hd4, hb4, -⟩
      have HB4 := hb3.trans (hb4.mono hb3.size)
      go_wp2_with fail
      go_roundw
      case rel => exact ⟨up r, n2, A4, c4, rfl, hn2, hn4.out.2, by have := hn4.out; omega, hc4, Lib.hid hd4, hu32, hup, HB4⟩
      case measure => simp [lenSl]; have := hn4.out; omega
    · obtain rfl : n = 1 := by omega
      obtain ⟨d, rfl⟩ := List.length_eq_one_iff.1 hrn.out
      have hdR : d = R := by rw [← hrR.out, rootM_one (by simp)]; rfl
      subst hdR
      obtain ⟨g, oo, eA, hg, hrg⟩ := hd3.out 0 d rfl
      subst eA
      rw [Nat.zero_mul, Nat.add_zero] at hrg
      obtain ⟨hz3, hB3⟩ := hzr.out wr hb3
      replace hrg := Lib.hid hrg
      replace hz3 := Lib.hid hz3
      replace hB3 := Lib.hid hB3
      go_wp2_with (first
        | (refine wpList_load_mid (by rfl) 23 (.tmp 16) (by rfl) g oo (by rfl) (dc d) _ hrg.out Tryd.underlying23 (by rfl) pd.out ?_)
        | (refine wpList_set_row (by rfl) 23 (.tmp 2) (.tmp 17) (by rfl) (by rfl) w.heap.size (dg d) (by rfl) (by rfl) 23 _ hz3.out pi.out pz.out po.out ?_; intro w6 hd6 hz6 hg6; replace hd6 := Lib.hid hd6))
      refine bodyPost_ret (v := .agg (dg d)) (results_cell_row rfl _ _ w.heap.size 23 (dg d) (0, 0) _ rfl hd6.out Tryd.underlying23 (by rfl) pi.out) rfl ⟨rfl, hB3.out.grown hg6 hB3.out.size (fun k e => by have := Option.some.inj e; omega)⟩
end Go.Proofs.YtnccbhndlnkboaaDoor
/- The walk of the reference's Prove. -/
namespace Go.Proofs.YtnccbhndlnkboaaDoor
open Go.RowKit Go.Shelf Cdc Sha
set_option linter.unusedVariables false
set_option linter.unusedSimpArgs false

theorem DsAt.grownG {w w' : World} {A : Option Addr} {l : List (List UInt8)} {row : Option Nat} (h : DsAt w A l) (hg : w.grownBy w' row) (hne : ∀ g o, A = some ⟨g, o, none⟩ → row ≠ some g) : DsAt w' A l := fun i x hi => by
  obtain ⟨b, o, rfl, hb, hr⟩ := h i x hi
  exact ⟨b, o, rfl, Nat.lt_of_lt_of_le hb hg.size, range_grown hg hr hb (Below.refl _ _) (hne b o rfl)⟩
set_option maxRecDepth 100000 in
set_option maxHeartbeats 8000000 in
theorem rprove_any (ls : List (List UInt8)) (m : Nat) (hn : ls.length = m) (h0 : 0 < m) (hm : m ≤ 1000) (A : Option Addr) (c : Nat) (w : World) (hls : LvAt w A ls) (hsm : ∀ x ∈ ls, x.length ≤ 1000000) (i : Nat) (hi : i < m) : Calls Tryd.prog 41 #[.slice A m c, .int .i64 (i : Int)] w fun e w' => ∃ (A' : Option Addr) (c' : Nat), e = .returned (.tuple #[.slice A' (pathM (ls.map lfD) i).length c', .int .i64 0]) ∧ (pathM (ls.map lfD) i).length ≤ c' ∧ DsAt w' A' (pathM (ls.map lfD) i) ∧ Below w.heap.size w w' := by
  have hlen : (ls.map lfD).length = m := by rw [List.length_map, hn]
  have h32 : ∀ d ∈ ls.map lfD, d.length = 32 := fun d hd => by
    obtain ⟨x, -, rfl⟩ := List.mem_map.1 hd
    exact lfD_len x
  have hmt := RowD.empty w w.heap.size w.heap.size rfl (Nat.le_refl _)
  have hb1 : Below w.heap.size w (w.alloc (.cells #[] 23)) := blow1 w _
  obtain ⟨W1, hW1⟩ : ∃ W1, W1 = w.alloc (.cells #[] 23) := ⟨_, rfl⟩
  have hsz1 : W1.heap.size = w.heap.size + 1 := by rw [hW1]; simp
  rw [← hW1] at hmt hb1
  have hFi := Lib.hid (rfirst_any ls m hn hm A c W1 (hls.below hb1) hsm)
  unfold NxC at hFi
  rw [hlen] at hFi
  have d1 : decide ((65536 : Int) < (m : Int)) = false := decide_eq_false (by omega)
  have d2 : decide ((i : Int) < 0) = false := decide_eq_false (by omega)
  have d3 : decide ((m : Int) ≤ (i : Int)) = false := decide_eq_false (by omega)
  have d4 : decide (m ≤ i) = false := decide_eq_false (by omega)
  replace h32 := Lib.hid h32
  replace hlen := Lib.hid hlen
  have hi9 := Lib.hid hi
  have hmne : ls.map lfD ≠ [] := fun e => by have := hlen.out; rw [e] at this; simp at this; omega
  clear hn hls hsm
  go_enter Tryd.func41, Tryd.ntmps41
  go_wp2_with (refine wpList_noneD (by rfl) (by rfl) ?_)
  rw [← hW1]
  refine hFi.out.mono ?_
  rintro e w2 ⟨A2, c2, rfl, hc2, hd2, hb2, hf2⟩
  clear hW1 hFi d1 d2 d3 d4
  have hrow2 := hmt.below hb2
  have HB2 := hb1.trans (hb2.mono hb1.size)
  have hfr2 : Hid (∀ g o, A2 = some ⟨g, o, none⟩ → some w.heap.size ≠ some g) := Lib.hid fun g o e9 e => by
    obtain ⟨g8, e8, h8⟩ := hf2 hmne
    rw [e9] at e8
    cases e8
    cases e
    omega
  replace hd2 := Lib.hid hd2
  clear hf2 hmne hb1 hb2 hmt
  go_wp2_with fail
  go_loopw [1, 6, 7] (fun s1 s6 s7 wr => ∃ (r acc : List (List UInt8)) (n j : Nat) (A' : Option Addr) (c' : Nat), s1 = .int .i64 (j : Int) ∧ s7 = .slice A' n c' ∧ Hid (r.length = n) ∧ j < n ∧ n ≤ m ∧ n ≤ c' ∧ Hid (DsAt wr A' r) ∧ Hid (∀ d ∈ r, d.length = 32) ∧ RowD wr w.heap.size s6 acc ∧ Below w.heap.size w wr ∧ Hid (pathM (ls.map lfD) i = acc ++ pathM r j) ∧ Hid (∀ d ∈ acc, d.length = 32) ∧ Hid (∀ g o, A' = some ⟨g, o, none⟩ → s6.ownBlock ≠ some g) ∧ acc.length + n ≤ m) (fun _ _ s7 _ => lenSl s7)
  case atStart => exact ⟨_, [], m, i, A2, c2, rfl, rfl, hlen, hi9.out, Nat.le_refl _, hc2, hd2, h32, hrow2, HB2, Lib.hid (by simp), Lib.hid (fun d hd => by simp at hd), hfr2, by simp⟩
  case round =>
    clear hd2 hc2 hrow2 HB2 hfr2
    obtain ⟨r, acc, n, j, A3, c3, rfl, rfl, hrn, hjn, hnm, hc3, hd3, hr32, hrow, hBr, hpa, ha32, hfr, hsz⟩ := hrel
    by_cases h1 : 1 < n
    · obtain ⟨n2, hn2⟩ : ∃ n2, (up r).length = n2 := ⟨_, rfl⟩
      have hn3 : n2 = (n + 1) / 2 := by rw [← hn2, up_len, hrn.out]
      have hu32 := Lib.hid (up_all r hr32.out)
      replace hn2 := Lib.hid hn2
      replace hn3 := Lib.hid hn3
      have d1 : decide ((1 : Int) < (n : Int)) = true := decide_eq_true (by omega)
      by_cases o : j % 2 = 1
      · have m1 : (Int.tmod (j : Int) 2 == 1) = true := by rw [Int.tmod_eq_emod_of_nonneg (by omega)]; simp; omega
        have m2 : ((j : Int) % 2 == 1) = true := by simp; omega
        have hxr : xr j = j - 1 := if_neg (by omega)
        obtain ⟨q0, hq0⟩ : ∃ q0, r[j - 1]? = some q0 := ⟨_, List.getElem?_eq_getElem (by rw [hrn.out]; omega)⟩
        have hq32 := hr32.out q0 (List.mem_of_getElem? hq0)
        obtain ⟨g, oo, eA, hg, hrg⟩ := hd3.out (j - 1) q0 hq0
        subst eA
        have hpa2 : Hid (pathM (ls.map lfD) i = (acc ++ [q0]) ++ pathM (up r) (j / 2)) := Lib.hid (by rw [hpa.out, pathM_big (by rw [hrn.out]; exact h1), hxr, hq0]; simp)
        have pq := Lib.hid (dc_info hq32)
        have hD1 : Hid (∀ d ∈ [q0], d.length = 32) := Lib.hid (fun d hd => by simp at hd; subst hd; exact hq32)
        have hbu := Lib.hid (builtSlice_d1 q0 hq32)
        have hne : u6.ownBlock ≠ some g := hfr.out g oo rfl
        have HB9 := (Below.refl wr.heap.size wr).alloc (Nat.le_refl _) (.cells (dc q0).toArray 23)
        have hrow9 := hrow.below HB9
        have hat9 := Lib.hid (dsAt_row (l := [q0]) hD1.out (heap_alloc_new wr (.cells (dc q0).toArray 23)) (by simp [dsC]))
        have hBw := hBr.trans (HB9.mono hBr.size)
        replace hrg := Lib.hid hrg
        obtain ⟨p9, hp9⟩ : ∃ p9, j - 1 = p9 := ⟨_, rfl⟩
        rw [hp9] at hrg
        have kw : IntKind.i64.wrap ((j : Int) - 1) = (p9 : Int) := by rw [IntWalk.i64_in _ (by omega)]; omega
        have kw2 : ((j : Int) - 1) = (p9 : Int) := by omega
        have kb : p9 < n := by omega
        replace hp9 := Lib.hid hp9
        clear hq32 hq0 hpa hxr
        go_wp2_with (first
          | (refine wpList_load_mid (by rfl) 23 (.tmp 34) (by rfl) g (oo + p9 * 32) (by rfl) (dc q0) _ hrg.out Tryd.underlying23 (by rfl) pq.out ?_)
          | (refine wpList_built (by rfl) 31 23 1 #[(0, .tmp 35)] (by rfl) Tryd.underlying31 (dc q0).toArray (by simp only [List.map_toArray, List.map_cons, List.map_nil]; exact hbu.out) ?_)
          | (refine wpList_appD _ (by rfl) (.tmp 30) (.tmp 36) (by rfl) w.heap.size u6 acc [q0] (some ⟨wr.heap.size, 0, none⟩) 1 1 (by rfl) (by rfl) rfl hat9.out hrow9 hD1.out (by omega) (by decide) hBw.size ?_; intro row' w6 hrow6 hg6))
        have HB6 : Below w.heap.size w w6 := RowD.grown hrow9 hBw (Nat.le_refl _) hBw.size hg6
        have hd6 : DsAt w6 (some ⟨g, oo, none⟩) r := (hd3.out.below HB9).grownG hg6 (fun g9 o9 e9 => by cases e9; exact hne)
        refine (rnext_any r n hrn.out (by omega) (some ⟨g, oo, none⟩) c3 hc3 w6 hd6 hr32.out).mono ?_
        unfold NxC
        rw [hn2.out]
        rintro e w7 ⟨A7, c7, rfl, hc7, hd7, hb7, hf7⟩
        have HB7 := HB6.trans (hb7.mono HB6.size)
        have hrow7 := hrow6.below hb7
        have hfr7 : Hid (∀ g o, A7 = some ⟨g, o, none⟩ → row'.ownBlock ≠ some g) := Lib.hid fun g9 o9 e9 e => by
          obtain ⟨g8, e8, h8⟩ := hf7 (fun e => by have := hn2.out; have := hn3.out; rw [e] at *; simp at *; omega)
          rw [e9] at e8
          cases e8
          have := (hrow6.high e).2
          omega
        go_wp2_with fail
        go_roundw
        case rel => exact ⟨up r, acc ++ [q0], n2, j / 2, A7, c7, by congr 1, rfl, hn2, by have := hn3.out; omega, by have := hn3.out; omega, hc7, Lib.hid hd7, hu32, hrow7, HB7, hpa2, Lib.hid (fun d hd => by rcases List.mem_append.1 hd with h | h; exact ha32.out d h; exact hD1.out d h), hfr7, by have := hn3.out; simp; omega⟩
        case measure => simp [lenSl]; have := hn3.out; omega
      · have m1 : (Int.tmod (j : Int) 2 == 1) = false := by rw [Int.tmod_eq_emod_of_nonneg (by omega)]; simp; omega
        have m2 : ((j : Int) % 2 == 1) = false := by simp; omega
        have hxr : xr j = j + 1 := if_pos (by omega)
        by_cases l : j + 1 < n
        · have d2 : decide ((j : Int) + 1 < (n : Int)) = true := decide_eq_true (by omega)
          obtain ⟨q0, hq0⟩ : ∃ q0, r[j + 1]? = some q0 := ⟨_, List.getElem?_eq_getElem (by rw [hrn.out]; omega)⟩
          have hq32 := hr32.out q0 (List.mem_of_getElem? hq0)
          obtain ⟨g, oo, eA, hg, hrg⟩ := hd3.out (j + 1) q0 hq0
          subst eA
          have hpa2 : Hid (pathM (ls.map lfD) i = (acc ++ [q0]) ++ pathM (up r) (j / 2)) := Lib.hid (by rw [hpa.out, pathM_big (by rw [hrn.out]; exact h1), hxr, hq0]; simp)
          have pq := Lib.hid (dc_info hq32)
          have hD1 : Hid (∀ d ∈ [q0], d.length = 32) := Lib.hid (fun d hd => by simp at hd; subst hd; exact hq32)
          have hbu := Lib.hid (builtSlice_d1 q0 hq32)
          have hne : u6.ownBlock ≠ some g := hfr.out g oo rfl
          have HB9 := (Below.refl wr.heap.size wr).alloc (Nat.le_refl _) (.cells (dc q0).toArray 23)
          have hrow9 := hrow.below HB9
          have hat9 := Lib.hid (dsAt_row (l := [q0]) hD1.out (heap_alloc_new wr (.cells (dc q0).toArray 23)) (by simp [dsC]))
          have hBw := hBr.trans (HB9.mono hBr.size)
          replace hrg := Lib.hid hrg
          obtain ⟨p9, hp9⟩ : ∃ p9, j + 1 = p9 := ⟨_, rfl⟩
          rw [hp9] at hrg
          have kw : IntKind.i64.wrap ((j : Int) + 1) = (p9 : Int) := by rw [IntWalk.i64_in _ (by omega)]; omega
          have kb : p9 < n := by omega
          replace hp9 := Lib.hid hp9
          clear hq32 hq0 hpa hxr
          go_wp2_with (first
            | (refine wpList_load_mid (by rfl) 23 (.tmp 47) (by rfl) g (oo + p9 * 32) (by rfl) (dc q0) _ hrg.out Tryd.underlying23 (by rfl) pq.out ?_)
            | (refine wpList_built (by rfl) 31 23 1 #[(0, .tmp 48)] (by rfl) Tryd.underlying31 (dc q0).toArray (by simp only [List.map_toArray, List.map_cons, List.map_nil]; exact hbu.out) ?_)
            | (refine wpList_appD _ (by rfl) (.tmp 43) (.tmp 49) (by rfl) w.heap.size u6 acc [q0] (some ⟨wr.heap.size, 0, none⟩) 1 1 (by rfl) (by rfl) rfl hat9.out hrow9 hD1.out (by omega) (by decide) hBw.size ?_; intro row' w6 hrow6 hg6))
          have HB6 : Below w.heap.size w w6 := RowD.grown hrow9 hBw (Nat.le_refl _) hBw.size hg6
          have hd6 : DsAt w6 (some ⟨g, oo, none⟩) r := (hd3.out.below HB9).grownG hg6 (fun g9 o9 e9 => by cases e9; exact hne)
          refine (rnext_any r n hrn.out (by omega) (some ⟨g, oo, none⟩) c3 hc3 w6 hd6 hr32.out).mono ?_
          unfold NxC
          rw [hn2.out]
          rintro e w7 ⟨A7, c7, rfl, hc7, hd7, hb7, hf7⟩
          have HB7 := HB6.trans (hb7.mono HB6.size)
          have hrow7 := hrow6.below hb7
          have hfr7 : Hid (∀ g o, A7 = some ⟨g, o, none⟩ → row'.ownBlock ≠ some g) := Lib.hid fun g9 o9 e9 e => by
            obtain ⟨g8, e8, h8⟩ := hf7 (fun e => by have := hn2.out; have := hn3.out; rw [e] at *; simp at *; omega)
            rw [e9] at e8
            cases e8
            have := (hrow6.high e).2
            omega
          go_wp2_with fail
          go_roundw
          case rel => exact ⟨up r, acc ++ [q0], n2, j / 2, A7, c7, by congr 1, rfl, hn2, by have := hn3.out; omega, by have := hn3.out; omega, hc7, Lib.hid hd7, hu32, hrow7, HB7, hpa2, Lib.hid (fun d hd => by rcases List.mem_append.1 hd with h | h; exact ha32.out d h; exact hD1.out d h), hfr7, by have := hn3.out; simp; omega⟩
          case measure => simp [lenSl]; have := hn3.out; omega
        · have d2 : decide ((j : Int) + 1 < (n : Int)) = false := decide_eq_false (by omega)
          have hpa2 : Hid (pathM (ls.map lfD) i = acc ++ pathM (up r) (j / 2)) := Lib.hid (by rw [hpa.out, pathM_big (by rw [hrn.out]; exact h1), hxr, List.getElem?_eq_none_iff.2 (by rw [hrn.out]; omega)]; simp)
          have hNx := Lib.hid (rnext_any r n hrn.out (by omega) A3 c3 hc3 wr hd3.out hr32.out)
          unfold NxC at hNx
          rw [hn2.out] at hNx
          clear hpa hxr
          go_wp2_with fail
          refine hNx.out.mono ?_
          rintro e w7 ⟨A7, c7, rfl, hc7, hd7, hb7, hf7⟩
          have HB7 := hBr.trans (hb7.mono hBr.size)
          have hrow7 := hrow.below hb7
          have hfr7 : Hid (∀ g o, A7 = some ⟨g, o, none⟩ → u6.ownBlock ≠ some g) := Lib.hid fun g9 o9 e9 e => by
            obtain ⟨g8, e8, h8⟩ := hf7 (fun e => by have := hn2.out; have := hn3.out; rw [e] at *; simp at *; omega)
            rw [e9] at e8
            cases e8
            have := (hrow.high e).2
            omega
          go_wp2_with fail
          go_roundw
          case rel => exact ⟨up r, acc, n2, j / 2, A7, c7, by congr 1, rfl, hn2, by have := hn3.out; omega, by have := hn3.out; omega, hc7, Lib.hid hd7, hu32, hrow7, HB7, hpa2, ha32, hfr7, by have := hn3.out; omega⟩
          case measure => simp [lenSl]; have := hn3.out; omega
    · have hpe : pathM (ls.map lfD) i = acc := by rw [hpa.out, pathM_one (by rw [hrn.out]; exact h1), List.append_nil]
      have d1 : decide ((1 : Int) < (n : Int)) = false := decide_eq_false (by omega)
      obtain ⟨A6, c6, e6, hc6, hd6⟩ := hrow.ds ha32.out
      subst e6
      go_wp2
      refine bodyPost_ret (v := .tuple #[.slice A6 acc.length c6, .int .i64 0]) (by simp [results, Tryd.results41, go_sem]) rfl ?_
      rw [hpe]
      exact ⟨A6, c6, rfl, hc6, hd6, hBr⟩
end Go.Proofs.YtnccbhndlnkboaaDoor
/- The walks of the reference's check of a secret and of its leaves. -/
namespace Go.Proofs.YtnccbhndlnkboaaDoor
open Go.RowKit Go.Shelf Cdc Sha
set_option linter.unusedVariables false
set_option linter.unusedSimpArgs false

theorem built_sl3 (t f m : Int) : Tryd.prog.built 25 [(0, .int .i64 t), (1, .int .i64 f), (2, .int .i64 m)] = some (slA ⟨t, f, m, zero32⟩) := by kernel_rfl
set_option maxRecDepth 100000 in
set_option maxHeartbeats 8000000 in
theorem rcheck39_any (t f : Int) (nb ns cb c : Nat) (B S : Option Addr) (sl : List Int) (hn : sl.length = ns) (w : World) (h : InAt w S sl) :
    Calls Tryd.prog 36 #[.int .i64 t, .int .i64 f, .slice B nb cb, .slice S ns c] w fun e w' => e = .returned (.int .i64 (opE t f nb ns sl)) ∧ Below w.heap.size w w' := by
  by_cases c1 : 512 < nb
  · have e : opE t f nb ns sl = 2 := if_pos (.inl c1)
    rw [e]
    have d1 : decide ((512 : Int) < (nb : Int)) = true := decide_eq_true (by omega)
    clear hn h
    go_enter Tryd.func36, Tryd.ntmps36
    go_wp2
    go_ret
    exact ⟨rfl, Below.refl _ _⟩
  · have d1 : decide ((512 : Int) < (nb : Int)) = false := decide_eq_false (by omega)
    by_cases c2 : 512 < ns
    · have e : opE t f nb ns sl = 2 := if_pos (.inr c2)
      rw [e]
      have d2 : decide ((512 : Int) < (ns : Int)) = true := decide_eq_true (by omega)
      clear hn h
      go_enter Tryd.func36, Tryd.ntmps36
      go_wp2
      go_ret
      exact ⟨rfl, Below.refl _ _⟩
    · have d2 : decide ((512 : Int) < (ns : Int)) = false := decide_eq_false (by omega)
      have h9 : ¬ (512 < nb ∨ 512 < ns) := by omega
      by_cases c3 : nb = ns
      · subst c3
        have hFm : Hid (∀ V, Calls Tryd.prog 50 #[.agg (slA ⟨t, f, nb, zero32⟩)] V fun e w' => e = .returned (.bool (dayB t f nb)) ∧ Below V.heap.size V w') := Lib.hid fun V => rform_any ⟨t, f, nb, zero32⟩ V
        have hbs := built_sl3 t f nb
        by_cases c4 : dayB t f nb = true
        · rw [c4] at hFm
          obtain ⟨q, hq⟩ : ∃ q, opE t f nb nb sl = q := ⟨_, rfl⟩
          have hq0 : Hid (sl.all salB = true → q = 0) := Lib.hid fun h5 => by rw [← hq, opE, if_neg h9, if_pos ⟨rfl, c4, h5⟩]
          have hq1 : Hid (∀ x ∈ sl, salB x = false → q = 390) := Lib.hid fun x hx h5 => by
            rw [← hq, opE, if_neg h9, if_neg (fun h6 => by have := List.all_eq_true.1 h6.2.2 x hx; rw [h5] at this; cases this)]
          rw [hq]
          clear hq c4 h9
          replace hn := Lib.hid hn
          replace h := Lib.hid h
          go_enter Tryd.func36, Tryd.ntmps36
          go_wp2_with (refine wpList_buildG (by rfl) 25 #[(0, .tmp 24), (1, .tmp 25), (2, .tmp 27)] (by rfl) (slA ⟨t, f, nb, zero32⟩) hbs ?_)
          refine (hFm.out _).mono ?_
          rintro e w3 ⟨rfl, hb3⟩
          go_wp2_with fail
          go_loopw [9] (fun s9 wr => ∃ i : Nat, s9 = .int .i64 i ∧ i ≤ nb ∧ Below w.heap.size w wr ∧ Hid (∀ x ∈ sl.take i, salB x = true)) (fun s9 _ => nb - (intOf s9).toNat)
          case atStart => exact ⟨0, rfl, Nat.zero_le _, hb3, Lib.hid (fun x hx => by simp at hx)⟩
          case round =>
            obtain ⟨i, rfl, hi, hBr, hall⟩ := hrel
            by_cases hlt : i < nb
            · obtain ⟨y, hy⟩ : ∃ y, sl[i]? = some y := ⟨_, List.getElem?_eq_getElem (by rw [hn.out]; omega)⟩
              obtain ⟨g, oo, rfl, hc0⟩ := h.out i y hy
              have hcs := (hBr.cell (p := ⟨g, oo + i, none⟩) (World.block_lt_of_cell? w _ hc0)).trans hc0
              obtain ⟨v, hv⟩ : ∃ v, salB y = v := ⟨_, rfl⟩
              have hSa : Hid (∀ V, Calls Tryd.prog 51 #[.int .i64 y] V fun e w' => e = .returned (.bool v) ∧ w' = V) := Lib.hid fun V => hv ▸ rsalt_any y V
              have hv1 : Hid (v = false → q = 390) := Lib.hid fun e => hq1.out y (List.mem_of_getElem? hy) (hv.trans e)
              have hv0 : Hid (v = true → ∀ x ∈ sl.take (i + 1), salB x = true) := Lib.hid fun e x hx => by
                rw [List.take_add_one, hy] at hx
                rcases List.mem_append.1 hx with hx | hx
                · exact hall.out x hx
                · simp at hx
                  subst hx
                  exact hv.trans e
              clear hv hy hc0
              go_wp2_with fail
              refine (hSa.out _).mono ?_
              rintro e w4 ⟨rfl, hw4⟩
              have hw4b := hw4.symm
              clear hw4
              subst hw4b
              cases v with
              | false =>
                obtain rfl := hv1.out rfl
                go_wp2_with fail
                go_ret
                exact ⟨rfl, hBr⟩
              | true =>
                have hx9 := Lib.hid (hv0.out rfl)
                go_wp2_with fail
                go_roundw
                case rel => exact ⟨i + 1, by go_num, by omega, hBr, hx9⟩
                case measure => simp [intOf]; omega
            · obtain rfl := hq0.out (List.all_eq_true.2 fun x hx => hall.out x (by rw [List.take_of_length_le (by rw [hn.out]; omega)]; exact hx))
              go_wp2
              go_ret
              exact ⟨rfl, hBr⟩
        · have c4 : dayB t f nb = false := by simpa using c4
          have e : opE t f nb nb sl = 390 := by rw [opE, if_neg h9, if_neg (fun h6 => by rw [c4] at h6; exact absurd h6.2.1 (by decide))]
          rw [e]
          rw [c4] at hFm
          clear hn h c4 e h9
          go_enter Tryd.func36, Tryd.ntmps36
          go_wp2_with (refine wpList_buildG (by rfl) 25 #[(0, .tmp 24), (1, .tmp 25), (2, .tmp 27)] (by rfl) (slA ⟨t, f, nb, zero32⟩) hbs ?_)
          refine (hFm.out _).mono ?_
          rintro e w3 ⟨rfl, hb3⟩
          go_wp2_with fail
          go_ret
          exact ⟨rfl, hb3⟩
      · have e : opE t f nb ns sl = 390 := by rw [opE, if_neg h9, if_neg (fun h6 => c3 h6.1)]
        rw [e]
        have d3 : ((nb : Int) != (ns : Int)) = true := by simp; omega
        have d4 : (nb != ns) = true := by simp; omega
        have d5 : decide (nb = ns) = false := decide_eq_false c3
        replace c3 := Lib.hid c3
        clear hn h e
        go_enter Tryd.func36, Tryd.ntmps36
        go_wp2
        go_ret
        exact ⟨rfl, Below.refl _ _⟩

set_option maxRecDepth 100000 in
set_option maxHeartbeats 8000000 in
theorem rleaves_any (t f : Int) (bl : List Bool) (sl : List Int) (cb n c : Nat) (B S : Option Addr) (hbl : bl.length = sl.length) (hn : sl.length = n) (hcb : n ≤ cb) (hc : n ≤ c) (hx : n ≤ 512) (ht : I64 t) (hf : 0 ≤ f) (hf2 : f ≤ 100000) (hsl : ∀ x ∈ sl, I64 x) (w : World) (hB : BoAt w B bl) (hS : InAt w S sl) :
    Calls Tryd.prog 38 #[.int .i64 t, .int .i64 f, .slice B n cb, .slice S n c] w fun e w' => ∃ (A : Option Addr) (c' : Nat), e = .returned (.slice A n c') ∧ LvAt w' A (lvs t f bl sl) ∧ Below w.heap.size w w' := by
  have hbl2 := Lib.hid hbl
  have hn2 := Lib.hid hn
  have hll := Lib.hid ((lvs_len (t := t) (f := f) hbl).trans hn)
  have hlv : Hid (∀ (i : Nat) (b : Bool) (n : Int), bl[i]? = some b → sl[i]? = some n → (lvs t f bl sl)[i]? = some (leafM t (f + i) b n)) := Lib.hid fun i b n h1 h2 => lvs_at h1 h2
  obtain ⟨X, hX⟩ : ∃ X, lvs t f bl sl = X := ⟨_, rfl⟩
  rw [hX] at hll hlv ⊢
  clear hX
  replace hB := Lib.hid hB
  replace hS := Lib.hid hS
  replace hsl := Lib.hid hsl
  clear hbl hn
  have hN : Hid (∀ (V : World) (d : Int) (b : Bool) (y : Int), I64 d → I64 y → Calls Tryd.prog 47 #[.int .i64 t, .int .i64 d, .bool b, .int .i64 y] V (JoinC (leafM t d b y) V)) := Lib.hid fun V d b y hd hy => rleaf_any t d y b ht hd hy V
  go_enter Tryd.func38, Tryd.ntmps38
  go_wp2_with fail
  go_loopw [9, 10] (fun s9 s10 wr => ∃ (k : Nat) (ts : List Value), k ≤ n ∧ s10 = .int .i64 (k : Int) ∧ Hid (LvR w.heap.size wr s9 (X.take k) ts) ∧ Hid (Below w.heap.size w wr)) (fun _ s10 _ => n - (intOf s10).toNat)
  case atStart => exact ⟨0, [], by omega, rfl, Lib.hid ⟨World.ownsRow_nil w _ _ _, rfl, fun i v x h1 _ => by simp at h1⟩, Lib.hid (Below.refl _ _)⟩
  case round =>
    obtain ⟨k, ts, hk, rfl, hrow, hBr⟩ := hrel
    by_cases hkn : k < n
    · obtain ⟨b, hb⟩ : ∃ b, bl[k]? = some b := ⟨_, List.getElem?_eq_getElem (by rw [hbl2.out, hn2.out]; omega)⟩
      obtain ⟨y, hy⟩ : ∃ y, sl[k]? = some y := ⟨_, List.getElem?_eq_getElem (by rw [hn2.out]; omega)⟩
      obtain ⟨g, o, rfl, hcb0⟩ := hB.out k b hb
      obtain ⟨g', o', rfl, hcs0⟩ := hS.out k y hy
      have hgl := World.block_lt_of_cell? w _ hcb0
      have hgl' := World.block_lt_of_cell? w _ hcs0
      dsimp only at hgl hgl'
      have hcs := (hBr.out.cell (p := ⟨g', o' + k, none⟩) hgl').trans hcs0
      have hcb1 := (hBr.out.cell (p := ⟨g, o + k, none⟩) hgl).trans hcb0
      have hwrs := hBr.out.size
      have hS : Hid (∀ V, Below wr.heap.size wr V → V.cell? ⟨g, o + k, none⟩ = some (.bool b) ∧ V.cell? ⟨g', o' + k, none⟩ = some (.int .i64 y)) := Lib.hid fun V hV => ⟨(hV.cell (p := ⟨g, o + k, none⟩) (Nat.lt_of_lt_of_le hgl hwrs)).trans hcb1, (hV.cell (p := ⟨g', o' + k, none⟩) (Nat.lt_of_lt_of_le hgl' hwrs)).trans hcs⟩
      have hS9 : Hid (∀ (V0 V : World), Below wr.heap.size wr V0 → V0.grownBy V u9.ownBlock → V.cell? ⟨g, o + k, none⟩ = some (.bool b) ∧ V.cell? ⟨g', o' + k, none⟩ = some (.int .i64 y)) := Lib.hid fun V0 V hV0 hg => by
        have hh : ∀ {k}, u9.ownBlock = some k → w.heap.size ≤ k := fun e => (hrow.out.rw.high e).1
        have h0 := hS.out V0 hV0
        exact ⟨(World.cell?_of_block (w := V0) (a := ⟨g, o + k, none⟩) (hg.block _ (World.block_lt_of_cell? V0 _ h0.1) (fun e => absurd (hh (k := g) e.symm) (by omega)))).trans h0.1, (World.cell?_of_block (w := V0) (a := ⟨g', o' + k, none⟩) (hg.block _ (World.block_lt_of_cell? V0 _ h0.2) (fun e => absurd (hh (k := g') e.symm) (by omega)))).trans h0.2⟩
      have hyI : I64 y := hsl.out y (List.mem_of_getElem? hy)
      have hdI : I64 (f + (k : Int)) := ⟨by omega, by omega⟩
      have hN := Lib.hid fun V => hN.out V (f + (k : Int)) b y hdI hyI
      have hXk := hlv.out k b y hb hy
      obtain ⟨L, hL⟩ : ∃ L, leafM t (f + (k : Int)) b y = L := ⟨_, rfl⟩
      obtain ⟨q, hq⟩ : ∃ q, L.length = q := ⟨_, rfl⟩
      rw [hL] at hN hXk
      have hln := Lib.hid hq
      have hXt : Hid (X.take (k + 1) = X.take k ++ [L]) := Lib.hid (by rw [List.take_add_one, hXk]; rfl)
      have hts : Hid (ts.length ≤ 1000000) := Lib.hid (by rw [← hrow.out.len, List.length_take]; omega)
      clear hL hq hXk hcb0 hcs0 hdI hyI hB hlv hsl hcs hcb1
      have hwp : IntKind.i64.wrap (f + (k : Int)) = f + (k : Int) := IntWalk.i64_in _ (by omega)
      have k1 : (k : Int) < (n : Int) := by omega
      have HB : Below wr.heap.size wr wr.drew := (Below.refl _ _).drew
      replace hrow := hrow.out
      go_wp2_with fail
      refine wp_region_held_drew (S := fun w' => w'.cell? ⟨g, o + k, none⟩ = some (.bool b) ∧ w'.cell? ⟨g', o' + k, none⟩ = some (.int .i64 y)) (by kernel_rfl) (by exact hS.out _ HB) (fun hHeld => ?_)
      refine wpAnyH_take (i := 0) (oi := { dst := some 17, op := Op.move (Operand.tmp 9), type := 75, pos := "ref.go:48", after := #[], guard := none }) (v := ?_) rfl (by kernel_rfl) (by kernel_rfl) (by kernel_rfl) (fun _ _ _ h => h) (Or.inl ⟨by rfl, ?hy0⟩) hHeld ?rest0
      case hy0 =>
        intro w hSw
        try dsimp only at hSw
        go_simp
        try with_reducible rfl
      try simp only [Act.put, List.setIfInBounds_toArray, List.set_cons_zero, List.set_cons_succ]
      refine wpAnyH_take (i := 1) (oi := { dst := some 18, op := Op.move (Operand.tmp 0), type := 3, pos := "ref.go:48", after := #[], guard := none }) (v := ?_) rfl (by kernel_rfl) (by kernel_rfl) (by kernel_rfl) (fun _ _ _ h => h) (Or.inl ⟨by rfl, ?hy1⟩) hHeld ?rest1
      case hy1 =>
        intro w hSw
        try dsimp only at hSw
        go_simp
        try with_reducible rfl
      try simp only [Act.put, List.setIfInBounds_toArray, List.set_cons_zero, List.set_cons_succ]
      refine wpAnyH_take (i := 2) (oi := { dst := some 19, op := Op.move (Operand.tmp 1), type := 3, pos := "ref.go:48", after := #[], guard := none }) (v := ?_) rfl (by kernel_rfl) (by kernel_rfl) (by kernel_rfl) (fun _ _ _ h => h) (Or.inl ⟨by rfl, ?hy2⟩) hHeld ?rest2
      case hy2 =>
        intro w hSw
        try dsimp only at hSw
        go_simp
        try with_reducible rfl
      try simp only [Act.put, List.setIfInBounds_toArray, List.set_cons_zero, List.set_cons_succ]
      refine wpAnyH_take (i := 3) (oi := { dst := some 20, op := Op.move (Operand.tmp 10), type := 3, pos := "ref.go:48", after := #[], guard := none }) (v := ?_) rfl (by kernel_rfl) (by kernel_rfl) (by kernel_rfl) (fun _ _ _ h => h) (Or.inl ⟨by rfl, ?hy3⟩) hHeld ?rest3
      case hy3 =>
        intro w hSw
        try dsimp only at hSw
        go_simp
        try with_reducible rfl
      try simp only [Act.put, List.setIfInBounds_toArray, List.set_cons_zero, List.set_cons_succ]
      refine wpAnyH_take (i := 4) (oi := { dst := some 21, op := Op.binOp BinOp.add 3 (Operand.tmp 19) (Operand.tmp 20) 3, type := 3, pos := "ref.go:48", after := #[{ on := 2, ground := Ground.data }, { on := 3, ground := Ground.data }], guard := none }) (v := ?_) rfl (by kernel_rfl) (by kernel_rfl) (by kernel_rfl) (fun _ _ _ h => h) (Or.inl ⟨by rfl, ?hy4⟩) hHeld ?rest4
      case hy4 =>
        intro w hSw
        try dsimp only at hSw
        go_simp
        try with_reducible rfl
      try simp only [Act.put, List.setIfInBounds_toArray, List.set_cons_zero, List.set_cons_succ]
      refine wpAnyH_take (i := 5) (oi := { dst := some 22, op := Op.move (Operand.tmp 2), type := 39, pos := "ref.go:48", after := #[], guard := none }) (v := ?_) rfl (by kernel_rfl) (by kernel_rfl) (by kernel_rfl) (fun _ _ _ h => h) (Or.inl ⟨by rfl, ?hy5⟩) hHeld ?rest5
      case hy5 =>
        intro w hSw
        try dsimp only at hSw
        go_simp
        try with_reducible rfl
      try simp only [Act.put, List.setIfInBounds_toArray, List.set_cons_zero, List.set_cons_succ]
      refine wpAnyH_take (i := 6) (oi := { dst := some 23, op := Op.move (Operand.tmp 10), type := 3, pos := "ref.go:48", after := #[], guard := none }) (v := ?_) rfl (by kernel_rfl) (by kernel_rfl) (by kernel_rfl) (fun _ _ _ h => h) (Or.inl ⟨by rfl, ?hy6⟩) hHeld ?rest6
      case hy6 =>
        intro w hSw
        try dsimp only at hSw
        go_simp
        try with_reducible rfl
      try simp only [Act.put, List.setIfInBounds_toArray, List.set_cons_zero, List.set_cons_succ]
      refine wpAnyH_take (i := 7) (oi := { dst := some 24, op := Op.indexAddr 39 (Operand.tmp 22) (Operand.tmp 23), type := 0, pos := "ref.go:48", after := #[{ on := 5, ground := Ground.data }, { on := 6, ground := Ground.data }], guard := none }) (v := ?_) rfl (by kernel_rfl) (by kernel_rfl) (by kernel_rfl) (fun _ _ _ h => h) (Or.inl ⟨by rfl, ?hy7⟩) hHeld ?rest7
      case hy7 =>
        intro w hSw
        try dsimp only at hSw
        go_simp
        try with_reducible rfl
      try simp only [Act.put, List.setIfInBounds_toArray, List.set_cons_zero, List.set_cons_succ]
      refine wpAnyH_take (i := 8) (oi := { dst := some 25, op := Op.load 4 (Operand.tmp 24), type := 4, pos := "ref.go:48", after := #[{ on := 7, ground := Ground.data }], guard := none }) (v := ?_) rfl (by kernel_rfl) (by kernel_rfl) (by kernel_rfl) (fun _ _ _ h => h) (Or.inl ⟨by rfl, ?hy8⟩) hHeld ?rest8
      case hy8 =>
        intro w hSw
        try dsimp only at hSw
        go_simp
        try with_reducible rfl
      try simp only [Act.put, List.setIfInBounds_toArray, List.set_cons_zero, List.set_cons_succ]
      refine wpAnyH_take (i := 9) (oi := { dst := some 26, op := Op.move (Operand.tmp 3), type := 40, pos := "ref.go:48", after := #[], guard := none }) (v := ?_) rfl (by kernel_rfl) (by kernel_rfl) (by kernel_rfl) (fun _ _ _ h => h) (Or.inl ⟨by rfl, ?hy9⟩) hHeld ?rest9
      case hy9 =>
        intro w hSw
        try dsimp only at hSw
        go_simp
        try with_reducible rfl
      try simp only [Act.put, List.setIfInBounds_toArray, List.set_cons_zero, List.set_cons_succ]
      refine wpAnyH_take (i := 10) (oi := { dst := some 27, op := Op.move (Operand.tmp 10), type := 3, pos := "ref.go:48", after := #[], guard := none }) (v := ?_) rfl (by kernel_rfl) (by kernel_rfl) (by kernel_rfl) (fun _ _ _ h => h) (Or.inl ⟨by rfl, ?hy10⟩) hHeld ?rest10
      case hy10 =>
        intro w hSw
        try dsimp only at hSw
        go_simp
        try with_reducible rfl
      try simp only [Act.put, List.setIfInBounds_toArray, List.set_cons_zero, List.set_cons_succ]
      refine wpAnyH_take (i := 11) (oi := { dst := some 28, op := Op.indexAddr 40 (Operand.tmp 26) (Operand.tmp 27), type := 0, pos := "ref.go:48", after := #[{ on := 9, ground := Ground.data }, { on := 10, ground := Ground.data }], guard := none }) (v := ?_) rfl (by kernel_rfl) (by kernel_rfl) (by kernel_rfl) (fun _ _ _ h => h) (Or.inl ⟨by rfl, ?hy11⟩) hHeld ?rest11
      case hy11 =>
        intro w hSw
        try dsimp only at hSw
        go_simp
        try with_reducible rfl
      try simp only [Act.put, List.setIfInBounds_toArray, List.set_cons_zero, List.set_cons_succ]
      refine wpAnyH_take (i := 12) (oi := { dst := some 29, op := Op.load 3 (Operand.tmp 28), type := 3, pos := "ref.go:48", after := #[{ on := 11, ground := Ground.data }], guard := none }) (v := ?_) rfl (by kernel_rfl) (by kernel_rfl) (by kernel_rfl) (fun _ _ _ h => h) (Or.inl ⟨by rfl, ?hy12⟩) hHeld ?rest12
      case hy12 =>
        intro w hSw
        try dsimp only at hSw
        go_simp
        try with_reducible rfl
      try simp only [Act.put, List.setIfInBounds_toArray, List.set_cons_zero, List.set_cons_succ]
      refine wpAnyH_ready (rs := [13]) (by kernel_rfl) (by simp) (AllReadyH.cons (o := { dst := some 30, op := Op.call { callee := Callee.value (Operand.func 47), args := #[Operand.tmp 18, Operand.tmp 21, Operand.tmp 25, Operand.tmp 29], argTypes := #[3, 3, 4, 3] }, type := 48, pos := "ref.go:48", after := #[{ on := 1, ground := Ground.data }, { on := 4, ground := Ground.data }, { on := 8, ground := Ground.data }, { on := 12, ground := Ground.data }], guard := none }) rfl (fun K hK => ?_) AllReadyH.nil)
      go_simp
      go_at_call 47
      refine (hN.out _).mono ?_
      unfold JoinC
      rw [hln.out]
      rintro e w4 ⟨A4, c4, rfl, h41, h42, h43, hb, h44⟩
      have hrow4 := (hrow.below HB)
      have hR0 := hrow4.rw
      replace h44 := Lib.hid h44
      replace hrow4 := hrow4.below hb
      replace HB := HB.trans (hb.mono HB.size)
      replace h43 := Lib.hid h43
      clear hb
      refine hK.out _ _ (by exact hS.out _ HB) (fun hHeld' => ?_)
      clear hK K hHeld
      have hHeld := hHeld'
      clear hHeld'
      try simp only [Act.put, List.setIfInBounds_toArray, List.set_cons_zero, List.set_cons_succ]
      refine wpAnyH_ready (rs := [14]) (by kernel_rfl) (by simp) (AllReadyH.cons (o := { dst := some 31, op := Op.buildSlice 75 1 #[(0, Operand.tmp 30)], type := 75, pos := "ref.go:48", after := #[{ on := 13, ground := Ground.data }], guard := none }) rfl (fun K hK => ?_) AllReadyH.nil)
      refine step_built (by rfl) 75 48 1 #[(0, .tmp 30)] (by rfl) Tryd.underlying75 #[.slice A4 q c4] (by simp only [List.map_toArray, List.map_cons, List.map_nil]; exact built_bs _ _ _) ?_
      have hnb := heap_alloc_new w4 (.cells #[.slice A4 q c4] 48)
      have HB9 := HB.alloc HB.size (.cells #[.slice A4 q c4] 48)
      have hb9 : Below w4.heap.size w4 (w4.alloc (.cells #[.slice A4 q c4] 48)) := (Below.refl _ _).alloc (Nat.le_refl _) _
      have hrow9 := hrow4.below hb9
      have hce9 : (w4.alloc (.cells #[.slice A4 q c4] 48)).cell? ⟨w4.heap.size, 0, none⟩ = some (.slice A4 q c4) := by rw [cell_of_row _ _ _ _ _ _ hnb]; rfl
      refine hK.out _ _ (by exact hS.out _ HB9) (fun hHeld' => ?_)
      clear hK K hHeld
      have hHeld := hHeld'
      clear hHeld'
      try simp only [Act.put, List.setIfInBounds_toArray, List.set_cons_zero, List.set_cons_succ]
      refine wpAnyH_ready (rs := [15]) (by kernel_rfl) (by simp) (AllReadyH.cons (o := { dst := some 32, op := Op.call { callee := Callee.builtin Builtin.append, args := #[Operand.tmp 17, Operand.tmp 31], argTypes := #[75, 75] }, type := 75, pos := "ref.go:48", after := #[{ on := 0, ground := Ground.data }, { on := 14, ground := Ground.data }, { on := 13, ground := Ground.chain }], guard := none }) rfl (fun K hK => ?_) AllReadyH.nil)
      refine step_appT _ (by rfl) (.tmp 17) (.tmp 31) (by rfl) w.heap.size u9 ts w4.heap.size q c4 A4 (by rfl) (by rfl) hce9 hrow9.rw hts.out (by simp; have := hBr.out.size; have := HB.size; omega) ?_
      intro row' w6 hrow6 hg6 hw6
      have HB6 := (hBr.out.trans (HB9.mono hBr.out.size)).grown hg6 (hBr.out.trans (HB9.mono hBr.out.size)).size (fun k e => by have := (hrow9.rw.high e).1; omega)
      refine hK.out _ _ (by exact hS9.out _ _ HB9 hg6) (fun hHeld' => ?_)
      clear hK K hHeld
      have hHeld := hHeld'
      clear hHeld'
      try simp only [Act.put, List.setIfInBounds_toArray, List.set_cons_zero, List.set_cons_succ]
      refine wpAnyH_take (i := 16) (oi := { dst := some 9, op := Op.assign (Operand.tmp 32), type := 75, pos := "ref.go:48", after := #[{ on := 15, ground := Ground.data }, { on := 15, ground := Ground.chain }, { on := 0, ground := Ground.phase }, { on := 1, ground := Ground.phase }, { on := 2, ground := Ground.phase }, { on := 3, ground := Ground.phase }, { on := 4, ground := Ground.phase }, { on := 5, ground := Ground.phase }, { on := 6, ground := Ground.phase }, { on := 7, ground := Ground.phase }, { on := 8, ground := Ground.phase }, { on := 9, ground := Ground.phase }, { on := 10, ground := Ground.phase }, { on := 11, ground := Ground.phase }, { on := 12, ground := Ground.phase }, { on := 13, ground := Ground.phase }, { on := 14, ground := Ground.phase }, { on := 15, ground := Ground.phase }], guard := none }) (v := ?_) rfl (by kernel_rfl) (by kernel_rfl) (by kernel_rfl) (fun _ _ _ h => h) (Or.inl ⟨by rfl, ?hy16⟩) hHeld ?rest16
      case hy16 =>
        intro w hSw
        try dsimp only at hSw
        go_simp
        try with_reducible rfl
      try simp only [Act.put, List.setIfInBounds_toArray, List.set_cons_zero, List.set_cons_succ]
      refine wpAnyH_done (by kernel_rfl) ?_ _
      have hnew := LvR.push (x := L) (W := w4.alloc (.cells #[.slice A4 q c4] 48)) hR0 hrow9 hln.out h41 h42 (h43.out.below hb9) (fun g o e hne => ⟨(h44.out g o e hne).1, by simp; have := (h44.out g o e hne).2; omega⟩) hrow6 hg6 hw6
      rw [← hXt.out] at hnew
      replace hnew := Lib.hid hnew
      replace HB6 := Lib.hid HB6
      clear hHeld
      go_wp2_with fail
      go_roundw
      case rel => exact ⟨k + 1, _, by omega, by go_num, hnew, HB6⟩
      case measure => simp [intOf]; omega
    · have hkl : X.take k = X := List.take_of_length_le (by rw [hll.out]; omega)
      rw [hkl] at hrow
      have hlen := hrow.out.len
      rw [hll.out] at hlen
      obtain ⟨A1, c1, rfl, _⟩ := hrow.out.rw.form
      rw [← hlen] at hrow ⊢
      have hlv9 := Lib.hid hrow.out.lv
      clear hlen hrow
      go_wp2_with fail
      go_ret
      exact ⟨A1, c1, rfl, hlv9.out, hBr.out⟩
end Go.Proofs.YtnccbhndlnkboaaDoor
/- The walk of the reference's Make. -/
namespace Go.Proofs.YtnccbhndlnkboaaDoor
open Go.RowKit Go.Shelf Cdc Sha
set_option linter.unusedVariables false
set_option linter.unusedSimpArgs false

theorem lvs_sm {t f : Int} {bl : List Bool} {sl : List Int} (h : bl.length = sl.length) (h5 : sl.length ≤ 512) (ht : I64 t) (hf : 0 ≤ f) (hf2 : f ≤ 100000) (hsl : ∀ x ∈ sl, I64 x) : ∀ x ∈ lvs t f bl sl, x.length ≤ 1000000 := fun x hx => by
  obtain ⟨i, hi⟩ := List.getElem?_of_mem hx
  have hlt : i < sl.length := by have := (List.getElem?_eq_some_iff.1 hi).1; rw [lvs_len h] at this; exact this
  obtain ⟨b, hb⟩ : ∃ b, bl[i]? = some b := ⟨_, List.getElem?_eq_getElem (by omega)⟩
  obtain ⟨y, hy⟩ : ∃ y, sl[i]? = some y := ⟨_, List.getElem?_eq_getElem hlt⟩
  rw [lvs_at hb hy] at hi
  obtain rfl := Option.some.inj hi
  have := (leaf_sm (b := b) ht (d := f + (i : Int)) ⟨by omega, by omega⟩ (hsl y (List.mem_of_getElem? hy))).2
  omega
set_option maxRecDepth 100000 in
set_option maxHeartbeats 8000000 in
theorem rmake_err (t f : Int) (bl : List Bool) (sl : List Int) (nb ns cb c : Nat) (B S : Option Addr) (hnb : bl.length = nb) (hn : sl.length = ns) (hcb : nb ≤ cb) (hc : ns ≤ c) (ht : I64 t) (hsl : ∀ x ∈ sl, I64 x) (w : World) (hB : BoAt w B bl) (hS : InAt w S sl) (he : opE t f nb ns sl ≠ 0) : Calls Tryd.prog 17 #[.int .i64 t, .int .i64 f, .slice B nb cb, .slice S ns c] w fun e w' => e = .returned (.tuple #[.agg (slA (mkS t f nb ns bl sl)), .int .i64 (opE t f nb ns sl)]) ∧ Below w.heap.size w w' := by
  have hCk : Hid (∀ V, Below w.heap.size w V → Calls Tryd.prog 36 #[.int .i64 t, .int .i64 f, .slice B nb cb, .slice S ns c] V fun e w' => e = .returned (.int .i64 (opE t f nb ns sl)) ∧ Below V.heap.size V w') := Lib.hid fun V hV => rcheck39_any t f nb ns cb c B S sl hn V (hS.below hV)
  have e9 : mkS t f nb ns bl sl = slZ := if_neg he
  rw [e9]
  obtain ⟨E9, hE9⟩ : ∃ E9, opE t f nb ns sl = E9 := ⟨_, rfl⟩
  rw [hE9] at hCk he ⊢
  have z9 : (E9 != 0) = true := by simpa using he
  have pi := Lib.hid (sl_info (s := slZ) zero32_len)
  have po := Lib.hid (slA_one slZ)
  have hz := heap_alloc_new w (.cells (slA slZ) 25)
  have hb : Below w.heap.size w (w.alloc (.cells (slA slZ) 25)) := blow1 w _
  clear hE9 he e9 hnb hn hB hS hsl
  go_enter Tryd.func17, Tryd.ntmps17
  go_wp2_with fail
  refine (hCk.out _ hb).mono ?_
  rintro e w3 ⟨rfl, hb3⟩
  have hz3 := Lib.hid ((hb3.block _ (by simp)).trans hz)
  have hB3 := Lib.hid (hb.trans (hb3.mono hb.size))
  clear hb hb3 hz
  go_wp2_with (first
    | (refine wpList_buildG (by rfl) 25 #[] (by rfl) (slA slZ) built_slZ ?_)
    | (refine wpList_set_row (by rfl) 25 (.tmp 8) (.tmp 18) (by rfl) (by rfl) w.heap.size (slA slZ) (by rfl) (by rfl) 25 _ hz3.out pi.out rfl po.out ?_; intro w6 hd6 hz6 hg6; replace hd6 := Lib.hid hd6))
  refine bodyPost_ret (v := .tuple #[.agg (slA slZ), .int .i64 E9]) (results_row_tmp rfl _ _ w.heap.size 25 (slA slZ) (0, 0) _ _ rfl rfl hd6.out Tryd.underlying25 (by rfl) pi.out) rfl ⟨rfl, hB3.out.grown hg6 hB3.out.size (fun k e => by have := Option.some.inj e; omega)⟩
set_option maxRecDepth 100000 in
set_option maxHeartbeats 8000000 in
theorem rmake_in (t f : Int) (bl : List Bool) (sl : List Int) (nb ns cb c : Nat) (B S : Option Addr) (hnb : bl.length = nb) (hn : sl.length = ns) (hcb : nb ≤ cb) (hc : ns ≤ c) (ht : I64 t) (hsl : ∀ x ∈ sl, I64 x) (w : World) (hB : BoAt w B bl) (hS : InAt w S sl) (he : opE t f nb ns sl = 0) : Calls Tryd.prog 17 #[.int .i64 t, .int .i64 f, .slice B nb cb, .slice S ns c] w fun e w' => e = .returned (.tuple #[.agg (slA (mkS t f nb ns bl sl)), .int .i64 (opE t f nb ns sl)]) ∧ Below w.heap.size w w' := by
  have hCk : Hid (∀ V, Below w.heap.size w V → Calls Tryd.prog 36 #[.int .i64 t, .int .i64 f, .slice B nb cb, .slice S ns c] V fun e w' => e = .returned (.int .i64 (opE t f nb ns sl)) ∧ Below V.heap.size V w') := Lib.hid fun V hV => rcheck39_any t f nb ns cb c B S sl hn V (hS.below hV)
  obtain ⟨e1, e2, e3, e4⟩ := opE_zero he
  have e9 : mkS t f nb ns bl sl = ⟨t, f, ns, rootM ((lvs t f bl sl).map lfD)⟩ := if_pos he
  rw [e9, he]
  rw [he] at hCk
  subst e2
  have hd := of_decide_eq_true e3
  have hbl : bl.length = sl.length := hnb.trans hn.symm
  have hsm := lvs_sm (t := t) (f := f) hbl (by omega) ht (by omega) (by omega) hsl
  have hll : (lvs t f bl sl).length = nb := (lvs_len hbl).trans hn
  have hLv : Hid (∀ V, Below w.heap.size w V → Calls Tryd.prog 38 #[.int .i64 t, .int .i64 f, .slice B nb cb, .slice S nb c] V fun e w' => ∃ (A : Option Addr) (c' : Nat), e = .returned (.slice A nb c') ∧ LvAt w' A (lvs t f bl sl) ∧ Below V.heap.size V w') := Lib.hid fun V hV => rleaves_any t f bl sl cb nb c B S hbl hn hcb hc (by omega) ht (by omega) (by omega) hsl V (hB.below hV) (hS.below hV)
  have hRt : Hid (∀ V A c', LvAt V A (lvs t f bl sl) → Calls Tryd.prog 37 #[.slice A nb c'] V fun e w' => e = .returned (.agg (dg (rootM ((lvs t f bl sl).map lfD)))) ∧ Below V.heap.size V w') := Lib.hid fun V A c' h => rroot_any (lvs t f bl sl) nb hll (by omega) (by omega) A c' V h hsm
  have hr32 : (rootM ((lvs t f bl sl).map lfD)).length = 32 := rootM_len nb _ (by rw [List.length_map, hll]) (fun e => by have := congrArg List.length e; rw [List.length_map, hll] at this; simp at this; omega) (fun d hd => by
    obtain ⟨x, _, rfl⟩ := List.mem_map.1 hd
    exact lfD_len x)
  obtain ⟨r, hr⟩ : ∃ r, rootM ((lvs t f bl sl).map lfD) = r := ⟨_, rfl⟩
  rw [hr] at hRt hr32 ⊢
  obtain ⟨X, hX⟩ : ∃ X, lvs t f bl sl = X := ⟨_, rfl⟩
  rw [hX] at hLv hRt
  have pb := built_sl t f nb r hr32
  have pi := Lib.hid (sl_info (s := ⟨t, f, nb, r⟩) hr32)
  have pz := Lib.hid (show (slA slZ).size = (slA ⟨t, f, nb, r⟩).size by rw [slA_size (s := slZ) zero32_len, slA_size hr32])
  have po := Lib.hid (slA_one ⟨t, f, nb, r⟩)
  have hz := heap_alloc_new w (.cells (slA slZ) 25)
  have hb : Below w.heap.size w (w.alloc (.cells (slA slZ) 25)) := blow1 w _
  clear hr hX hsm hll hr32 he e1 e3 e4 e9 hd hbl hnb hn hB hS hsl
  go_enter Tryd.func17, Tryd.ntmps17
  go_wp2_with fail
  refine (hCk.out _ hb).mono ?_
  rintro e w3 ⟨rfl, hb3⟩
  have hz3 := Lib.hid ((hb3.block _ (by simp)).trans hz)
  have hB3 := Lib.hid (hb.trans (hb3.mono hb.size))
  clear hb hb3 hz
  go_wp2_with fail
  refine (hLv.out _ hB3.out).mono ?_
  rintro e w4 ⟨A4, c4, rfl, hl4, hb4⟩
  have hz4 := Lib.hid ((hb4.block _ (Array.getElem?_eq_some_iff.1 hz3.out).1).trans hz3.out)
  have hB4 := Lib.hid (hB3.out.trans (hb4.mono hB3.out.size))
  replace hl4 := Lib.hid hl4
  clear hb4 hz3 hB3
  go_wp2_with fail
  refine (hRt.out _ _ _ hl4.out).mono ?_
  rintro e w5 ⟨rfl, hb5⟩
  have hz5 := Lib.hid ((hb5.block _ (Array.getElem?_eq_some_iff.1 hz4.out).1).trans hz4.out)
  have hB5 := Lib.hid (hB4.out.trans (hb5.mono hB4.out.size))
  clear hb5 hz4 hB4 hl4
  go_wp2_with (first
    | (refine wpList_buildG (by rfl) 25 #[(0, .tmp 20), (1, .tmp 21), (2, .tmp 23), (3, .tmp 29)] (by rfl) (slA ⟨t, f, nb, r⟩) (by simp only [List.map_toArray, List.map_cons, List.map_nil]; exact pb) ?_)
    | (refine wpList_set_row (by rfl) 25 (.tmp 8) (.tmp 30) (by rfl) (by rfl) w.heap.size (slA ⟨t, f, nb, r⟩) (by rfl) (by rfl) 25 _ hz5.out pi.out pz.out po.out ?_; intro w6 hd6 hz6 hg6; replace hd6 := Lib.hid hd6))
  refine bodyPost_ret (v := .tuple #[.agg (slA ⟨t, f, nb, r⟩), .int .i64 0]) (results_row_tmp rfl _ _ w.heap.size 25 (slA ⟨t, f, nb, r⟩) (0, 0) _ _ rfl rfl hd6.out Tryd.underlying25 (by rfl) pi.out) rfl ⟨rfl, hB5.out.grown hg6 hB5.out.size (fun k e => by have := Option.some.inj e; omega)⟩
theorem rmake_any (t f : Int) (bl : List Bool) (sl : List Int) (nb ns cb c : Nat) (B S : Option Addr) (hnb : bl.length = nb) (hn : sl.length = ns) (hcb : nb ≤ cb) (hc : ns ≤ c) (ht : I64 t) (hsl : ∀ x ∈ sl, I64 x) (w : World) (hB : BoAt w B bl) (hS : InAt w S sl) : Calls Tryd.prog 17 #[.int .i64 t, .int .i64 f, .slice B nb cb, .slice S ns c] w fun e w' => e = .returned (.tuple #[.agg (slA (mkS t f nb ns bl sl)), .int .i64 (opE t f nb ns sl)]) ∧ Below w.heap.size w w' := by
  by_cases he : opE t f nb ns sl = 0
  · exact rmake_in t f bl sl nb ns cb c B S hnb hn hcb hc ht hsl w hB hS he
  · exact rmake_err t f bl sl nb ns cb c B S hnb hn hcb hc ht hsl w hB hS he
end Go.Proofs.YtnccbhndlnkboaaDoor
/- The walks of the reference's Open and Same of openings. -/
namespace Go.Proofs.YtnccbhndlnkboaaDoor
open Go.RowKit Go.Shelf Cdc Sha
set_option linter.unusedVariables false
set_option linter.unusedSimpArgs false

theorem built_op4 (d y : Int) (b : Bool) (P : Option Addr) (q cp : Nat) : Tryd.prog.built 33 [(0, .int .i64 d), (1, .int .i64 y), (2, .bool b), (3, .slice P q cp)] = some #[.int .i64 d, .int .i64 y, .bool b, .slice P q cp] := by kernel_rfl
set_option maxRecDepth 100000 in
set_option maxHeartbeats 8000000 in
theorem ropen_err (t f : Int) (bl : List Bool) (sl : List Int) (nb ns cb c : Nat) (B S : Option Addr) (hnb : bl.length = nb) (hn : sl.length = ns) (hcb : nb ≤ cb) (hc : ns ≤ c) (ht : I64 t) (hsl : ∀ x ∈ sl, I64 x) (d : Int) (hdI : I64 d) (w : World) (hB : BoAt w B bl) (hS : InAt w S sl) (he : opE t f nb ns sl ≠ 0) : Calls Tryd.prog 19 #[.int .i64 t, .int .i64 f, .slice B nb cb, .slice S ns c, .int .i64 d] w (OpnC t f nb ns bl sl d w) := by
  have hCk : Hid (∀ V, Below w.heap.size w V → Calls Tryd.prog 36 #[.int .i64 t, .int .i64 f, .slice B nb cb, .slice S ns c] V fun e w' => e = .returned (.int .i64 (opE t f nb ns sl)) ∧ Below V.heap.size V w') := Lib.hid fun V hV => rcheck39_any t f nb ns cb c B S sl hn V (hS.below hV)
  have hE : opnE t f nb ns sl d = opE t f nb ns sl := if_neg he
  have hO : opnO t f nb ns bl sl d = opZ := if_neg (by rw [hE]; exact he)
  unfold OpnC
  rw [hO, hE]
  obtain ⟨E9, hE9⟩ : ∃ E9, opE t f nb ns sl = E9 := ⟨_, rfl⟩
  rw [hE9] at hCk he ⊢
  have z9 : (E9 != 0) = true := by simpa using he
  have hz := heap_alloc_new w (.cells opZA 33)
  have hb : Below w.heap.size w (w.alloc (.cells opZA 33)) := blow1 w _
  have po : Hid (opZA.all (·.oneCell') = true) := Lib.hid (by simp [opZA, Value.oneCell'])
  clear hE9 he hE hO hnb hn hB hS hsl
  go_enter Tryd.func19, Tryd.ntmps19
  go_wp2_with fail
  refine (hCk.out _ hb).mono ?_
  rintro e w3 ⟨rfl, hb3⟩
  have hz3 := Lib.hid ((hb3.block _ (by simp)).trans hz)
  have hB3 := Lib.hid (hb.trans (hb3.mono hb.size))
  clear hb hb3 hz
  go_wp2_with (first
    | (refine wpList_buildG (by rfl) 33 #[] (by rfl) opZA built_opZ ?_)
    | (refine wpList_set_row (by rfl) 33 (.tmp 10) (.tmp 23) (by rfl) (by rfl) w.heap.size opZA (by rfl) (by rfl) 33 _ hz3.out op_info rfl po.out ?_; intro w6 hd6 hz6 hg6; replace hd6 := Lib.hid hd6))
  refine bodyPost_ret (v := .tuple #[.agg opZA, .int .i64 E9]) (results_row_tmp rfl _ _ w.heap.size 33 opZA (0, 0) _ _ rfl rfl hd6.out Tryd.underlying33 (by rfl) op_info) rfl ⟨none, 0, rfl, by simp [opZ], opZ_ds _, hB3.out.grown hg6 hB3.out.size (fun k e => by have := Option.some.inj e; omega)⟩
set_option maxRecDepth 100000 in
set_option maxHeartbeats 8000000 in
theorem ropen_early (t f : Int) (bl : List Bool) (sl : List Int) (nb ns cb c : Nat) (B S : Option Addr) (hnb : bl.length = nb) (hn : sl.length = ns) (hcb : nb ≤ cb) (hc : ns ≤ c) (ht : I64 t) (hsl : ∀ x ∈ sl, I64 x) (d : Int) (hdI : I64 d) (w : World) (hB : BoAt w B bl) (hS : InAt w S sl) (he : opE t f nb ns sl = 0) (hh : ¬ hasB f ns d = true) (h1 : d < f) : Calls Tryd.prog 19 #[.int .i64 t, .int .i64 f, .slice B nb cb, .slice S ns c, .int .i64 d] w (OpnC t f nb ns bl sl d w) := by
  have hCk : Hid (∀ V, Below w.heap.size w V → Calls Tryd.prog 36 #[.int .i64 t, .int .i64 f, .slice B nb cb, .slice S ns c] V fun e w' => e = .returned (.int .i64 (opE t f nb ns sl)) ∧ Below V.heap.size V w') := Lib.hid fun V hV => rcheck39_any t f nb ns cb c B S sl hn V (hS.below hV)
  have hE : opnE t f nb ns sl d = 1 := by rw [opnE, if_pos he, if_neg hh]
  have hO : opnO t f nb ns bl sl d = opZ := if_neg (by rw [hE]; decide)
  unfold OpnC
  rw [hO, hE]
  rw [he] at hCk
  obtain ⟨e1, e2, e3, e4⟩ := opE_zero he
  subst e2
  have hd := of_decide_eq_true e3
  have d1 : decide (d < f) = true := decide_eq_true h1
  have hz := heap_alloc_new w (.cells opZA 33)
  have hb : Below w.heap.size w (w.alloc (.cells opZA 33)) := blow1 w _
  have po : Hid (opZA.all (·.oneCell') = true) := Lib.hid (by simp [opZA, Value.oneCell'])
  clear hd e1 e3 e4 he hE hO hh hnb hn hB hS hsl h1
  go_enter Tryd.func19, Tryd.ntmps19
  go_wp2_with fail
  refine (hCk.out _ hb).mono ?_
  rintro e w3 ⟨rfl, hb3⟩
  have hz3 := Lib.hid ((hb3.block _ (by simp)).trans hz)
  have hB3 := Lib.hid (hb.trans (hb3.mono hb.size))
  clear hb hb3 hz
  go_wp2_with (first
    | (refine wpList_buildG (by rfl) 33 #[] (by rfl) opZA built_opZ ?_)
    | (refine wpList_set_row (by rfl) 33 (.tmp 10) (.tmp 36) (by rfl) (by rfl) w.heap.size opZA (by rfl) (by rfl) 33 _ hz3.out op_info rfl po.out ?_; intro w6 hd6 hz6 hg6; replace hd6 := Lib.hid hd6))
  refine bodyPost_ret (v := .tuple #[.agg opZA, .int .i64 1]) (results_row_tmp rfl _ _ w.heap.size 33 opZA (0, 0) _ _ rfl rfl hd6.out Tryd.underlying33 (by rfl) op_info) rfl ⟨none, 0, rfl, by simp [opZ], opZ_ds _, hB3.out.grown hg6 hB3.out.size (fun k e => by have := Option.some.inj e; omega)⟩
set_option maxRecDepth 100000 in
set_option maxHeartbeats 8000000 in
theorem ropen_late (t f : Int) (bl : List Bool) (sl : List Int) (nb ns cb c : Nat) (B S : Option Addr) (hnb : bl.length = nb) (hn : sl.length = ns) (hcb : nb ≤ cb) (hc : ns ≤ c) (ht : I64 t) (hsl : ∀ x ∈ sl, I64 x) (d : Int) (hdI : I64 d) (w : World) (hB : BoAt w B bl) (hS : InAt w S sl) (he : opE t f nb ns sl = 0) (hh : ¬ hasB f ns d = true) (h1 : ¬ d < f) : Calls Tryd.prog 19 #[.int .i64 t, .int .i64 f, .slice B nb cb, .slice S ns c, .int .i64 d] w (OpnC t f nb ns bl sl d w) := by
  have hCk : Hid (∀ V, Below w.heap.size w V → Calls Tryd.prog 36 #[.int .i64 t, .int .i64 f, .slice B nb cb, .slice S ns c] V fun e w' => e = .returned (.int .i64 (opE t f nb ns sl)) ∧ Below V.heap.size V w') := Lib.hid fun V hV => rcheck39_any t f nb ns cb c B S sl hn V (hS.below hV)
  have hE : opnE t f nb ns sl d = 1 := by rw [opnE, if_pos he, if_neg hh]
  have hO : opnO t f nb ns bl sl d = opZ := if_neg (by rw [hE]; decide)
  unfold OpnC
  rw [hO, hE]
  rw [he] at hCk
  obtain ⟨e1, e2, e3, e4⟩ := opE_zero he
  subst e2
  have hd := of_decide_eq_true e3
  have h2 : f + (nb : Int) ≤ d := by
    by_cases h3 : f + (nb : Int) ≤ d
    · exact h3
    · exact absurd (decide_eq_true (by omega)) hh
  have hwp : IntKind.i64.wrap (f + (nb : Int)) = f + (nb : Int) := IntWalk.i64_in _ (by omega)
  have d1 : decide (d < f) = false := decide_eq_false h1
  have d2 : decide (f + (nb : Int) ≤ d) = true := decide_eq_true h2
  have hz := heap_alloc_new w (.cells opZA 33)
  have hb : Below w.heap.size w (w.alloc (.cells opZA 33)) := blow1 w _
  have po : Hid (opZA.all (·.oneCell') = true) := Lib.hid (by simp [opZA, Value.oneCell'])
  clear hd e1 e3 e4 he hE hO hh hnb hn hB hS hsl
  go_enter Tryd.func19, Tryd.ntmps19
  go_wp2_with fail
  refine (hCk.out _ hb).mono ?_
  rintro e w3 ⟨rfl, hb3⟩
  have hz3 := Lib.hid ((hb3.block _ (by simp)).trans hz)
  have hB3 := Lib.hid (hb.trans (hb3.mono hb.size))
  clear hb hb3 hz
  go_wp2_with (first
    | (refine wpList_buildG (by rfl) 33 #[] (by rfl) opZA built_opZ ?_)
    | (refine wpList_set_row (by rfl) 33 (.tmp 10) (.tmp 36) (by rfl) (by rfl) w.heap.size opZA (by rfl) (by rfl) 33 _ hz3.out op_info rfl po.out ?_; intro w6 hd6 hz6 hg6; replace hd6 := Lib.hid hd6))
  refine bodyPost_ret (v := .tuple #[.agg opZA, .int .i64 1]) (results_row_tmp rfl _ _ w.heap.size 33 opZA (0, 0) _ _ rfl rfl hd6.out Tryd.underlying33 (by rfl) op_info) rfl ⟨none, 0, rfl, by simp [opZ], opZ_ds _, hB3.out.grown hg6 hB3.out.size (fun k e => by have := Option.some.inj e; omega)⟩
set_option maxRecDepth 100000 in
set_option maxHeartbeats 8000000 in
theorem ropen_in (t f : Int) (bl : List Bool) (sl : List Int) (nb ns cb c : Nat) (B S : Option Addr) (hnb : bl.length = nb) (hn : sl.length = ns) (hcb : nb ≤ cb) (hc : ns ≤ c) (ht : I64 t) (hsl : ∀ x ∈ sl, I64 x) (d : Int) (hdI : I64 d) (w : World) (hB : BoAt w B bl) (hS : InAt w S sl) (he : opE t f nb ns sl = 0) (hh : hasB f ns d = true) : Calls Tryd.prog 19 #[.int .i64 t, .int .i64 f, .slice B nb cb, .slice S ns c, .int .i64 d] w (OpnC t f nb ns bl sl d w) := by
  have hCk : Hid (∀ V, Below w.heap.size w V → Calls Tryd.prog 36 #[.int .i64 t, .int .i64 f, .slice B nb cb, .slice S ns c] V fun e w' => e = .returned (.int .i64 (opE t f nb ns sl)) ∧ Below V.heap.size V w') := Lib.hid fun V hV => rcheck39_any t f nb ns cb c B S sl hn V (hS.below hV)
  rw [he] at hCk
  have hE : opnE t f nb ns sl d = 0 := by rw [opnE, if_pos he, if_pos hh]
  obtain ⟨e1, e2, e3, e4⟩ := opE_zero he
  subst e2
  have hd := of_decide_eq_true e3
  have hh2 := of_decide_eq_true hh
  obtain ⟨i, hi⟩ : ∃ i : Nat, d - f = (i : Int) := ⟨(d - f).toNat, by omega⟩
  have hiN : i < nb := by omega
  obtain ⟨b, hbv⟩ : ∃ b, bl[i]? = some b := ⟨_, List.getElem?_eq_getElem (by omega)⟩
  obtain ⟨y, hyv⟩ : ∃ y, sl[i]? = some y := ⟨_, List.getElem?_eq_getElem (by omega)⟩
  have hbl : bl.length = sl.length := hnb.trans hn.symm
  have hsm := lvs_sm (t := t) (f := f) hbl (by omega) ht (by omega) (by omega) hsl
  have hll : (lvs t f bl sl).length = nb := (lvs_len hbl).trans hn
  have hLv : Hid (∀ V, Below w.heap.size w V → Calls Tryd.prog 38 #[.int .i64 t, .int .i64 f, .slice B nb cb, .slice S nb c] V fun e w' => ∃ (A : Option Addr) (c' : Nat), e = .returned (.slice A nb c') ∧ LvAt w' A (lvs t f bl sl) ∧ Below V.heap.size V w') := Lib.hid fun V hV => rleaves_any t f bl sl cb nb c B S hbl hn hcb hc (by omega) ht (by omega) (by omega) hsl V (hB.below hV) (hS.below hV)
  have hRt : Hid (∀ V A c', LvAt V A (lvs t f bl sl) → Calls Tryd.prog 41 #[.slice A nb c', .int .i64 (i : Int)] V fun e w' => ∃ (A' : Option Addr) (c' : Nat), e = .returned (.tuple #[.slice A' (pathM ((lvs t f bl sl).map lfD) i).length c', .int .i64 0]) ∧ (pathM ((lvs t f bl sl).map lfD) i).length ≤ c' ∧ DsAt w' A' (pathM ((lvs t f bl sl).map lfD) i) ∧ Below V.heap.size V w') := Lib.hid fun V A c' h => rprove_any (lvs t f bl sl) nb hll (by omega) (by omega) A c' V h hsm i hiN
  have hO : opnO t f nb nb bl sl d = ⟨d, y, b, pathM ((lvs t f bl sl).map lfD) i⟩ := by
    rw [opnO, if_pos hE, show (d - f).toNat = i by omega, List.getD_eq_getElem?_getD, List.getD_eq_getElem?_getD, hyv, hbv]; rfl
  unfold OpnC
  rw [hO, hE]
  obtain ⟨p, hp⟩ : ∃ p, pathM ((lvs t f bl sl).map lfD) i = p := ⟨_, rfl⟩
  rw [hp] at hRt ⊢
  obtain ⟨X, hX⟩ : ∃ X, lvs t f bl sl = X := ⟨_, rfl⟩
  rw [hX] at hLv hRt
  obtain ⟨q, hq⟩ : ∃ q, p.length = q := ⟨_, rfl⟩
  rw [hq] at hRt
  replace hq := Lib.hid hq
  obtain ⟨g, o, rfl, hcb0⟩ := hB i b hbv
  obtain ⟨g', o', rfl, hcs0⟩ := hS i y hyv
  have hcel : Hid (∀ V, Below w.heap.size w V → V.cell? ⟨g', o' + i, none⟩ = some (.int .i64 y) ∧ V.cell? ⟨g, o + i, none⟩ = some (.bool b)) := Lib.hid fun V hV => ⟨(hV.cell (p := ⟨g', o' + i, none⟩) (World.block_lt_of_cell? w _ hcs0)).trans hcs0, (hV.cell (p := ⟨g, o + i, none⟩) (World.block_lt_of_cell? w _ hcb0)).trans hcb0⟩
  have hwp : IntKind.i64.wrap (f + (nb : Int)) = f + (nb : Int) := IntWalk.i64_in _ (by omega)
  have hwr : IntKind.i64.wrap (d - f) = (i : Int) := by rw [IntWalk.i64_in _ (by omega)]; exact hi
  have d1 : decide (d < f) = false := decide_eq_false (by omega)
  have d2 : decide (f + (nb : Int) ≤ d) = false := decide_eq_false (by omega)
  have k1 : (i : Int) < (nb : Int) := by omega
  replace hi := Lib.hid hi
  have hz := heap_alloc_new w (.cells opZA 33)
  have hb : Below w.heap.size w (w.alloc (.cells opZA 33)) := blow1 w _
  have po : Hid (opZA.all (·.oneCell') = true) := Lib.hid (by simp [opZA, Value.oneCell'])
  clear hX hp hsm hll hd hh2 e1 e3 e4 he hE hO hh hnb hn hB hS hsl hbl hbv hyv hcb0 hcs0
  go_enter Tryd.func19, Tryd.ntmps19
  go_wp2_with fail
  refine (hCk.out _ hb).mono ?_
  rintro e w3 ⟨rfl, hb3⟩
  have hz3 := Lib.hid ((hb3.block _ (by simp)).trans hz)
  have hB3 := Lib.hid (hb.trans (hb3.mono hb.size))
  clear hb hb3 hz
  go_wp2_with fail
  refine (hLv.out _ hB3.out).mono ?_
  rintro e w4 ⟨A4, c4, rfl, hl4, hb4⟩
  have hz4 := Lib.hid ((hb4.block _ (Array.getElem?_eq_some_iff.1 hz3.out).1).trans hz3.out)
  have hB4 := Lib.hid (hB3.out.trans (hb4.mono hB3.out.size))
  replace hl4 := Lib.hid hl4
  clear hb4 hz3 hB3
  go_wp2_with fail
  refine (hRt.out _ _ _ hl4.out).mono ?_
  rintro e w6 ⟨A6, c6, rfl, hc6, hds6, hb6⟩
  have hz6 := Lib.hid ((hb6.block _ (Array.getElem?_eq_some_iff.1 hz4.out).1).trans hz4.out)
  have hB6 := Lib.hid (hB4.out.trans (hb6.mono hB4.out.size))
  replace hds6 := Lib.hid hds6
  replace hc6 := Lib.hid hc6
  have pb := built_op4 d y b A6 q c6
  have hSp : Hid (∀ V, Below w6.heap.size w6 V → V.cell? ⟨g', o' + i, none⟩ = some (.int .i64 y) ∧ V.cell? ⟨g, o + i, none⟩ = some (.bool b)) := Lib.hid fun V hV => hcel.out V (hB6.out.trans (hV.mono hB6.out.size))
  clear hb6 hz4 hB4 hl4
  go_wp2_with fail
  have HB : Below w6.heap.size w6 w6.drew := (Below.refl _ _).drew
  refine wp_region_T 11 (fun w' => w'.cell? ⟨g', o' + i, none⟩ = some (.int .i64 y) ∧ w'.cell? ⟨g, o + i, none⟩ = some (.bool b)) (by kernel_rfl) (by exact hSp.out _ HB) (fun hHeld => ?_)
  refine wpAnyT_take (i := 0) (oi := { dst := some 50, op := Op.move (Operand.tmp 4), type := 3, pos := "ref.go:73", after := #[], guard := none }) (v := ?_) rfl (by kernel_rfl) (by kernel_rfl) (by kernel_rfl) (by kernel_rfl) (fun _ _ _ h => h) (Or.inl ⟨by rfl, ?hy0⟩) hHeld ?rest0
  case hy0 =>
    intro w hSw
    try dsimp only at hSw
    go_simp
    try with_reducible rfl
  try simp only [Act.put, List.setIfInBounds_toArray, List.set_cons_zero, List.set_cons_succ]
  refine wpAnyT_take (i := 1) (oi := { dst := some 51, op := Op.move (Operand.tmp 3), type := 40, pos := "ref.go:73", after := #[], guard := none }) (v := ?_) rfl (by kernel_rfl) (by kernel_rfl) (by kernel_rfl) (by kernel_rfl) (fun _ _ _ h => h) (Or.inl ⟨by rfl, ?hy1⟩) hHeld ?rest1
  case hy1 =>
    intro w hSw
    try dsimp only at hSw
    go_simp
    try with_reducible rfl
  try simp only [Act.put, List.setIfInBounds_toArray, List.set_cons_zero, List.set_cons_succ]
  refine wpAnyT_take (i := 2) (oi := { dst := some 52, op := Op.move (Operand.tmp 13), type := 3, pos := "ref.go:73", after := #[], guard := none }) (v := ?_) rfl (by kernel_rfl) (by kernel_rfl) (by kernel_rfl) (by kernel_rfl) (fun _ _ _ h => h) (Or.inl ⟨by rfl, ?hy2⟩) hHeld ?rest2
  case hy2 =>
    intro w hSw
    try dsimp only at hSw
    go_simp
    try with_reducible rfl
  try simp only [Act.put, List.setIfInBounds_toArray, List.set_cons_zero, List.set_cons_succ]
  refine wpAnyT_take (i := 3) (oi := { dst := some 53, op := Op.indexAddr 40 (Operand.tmp 51) (Operand.tmp 52), type := 0, pos := "ref.go:73", after := #[{ on := 1, ground := Ground.data }, { on := 2, ground := Ground.data }], guard := none }) (v := ?_) rfl (by kernel_rfl) (by kernel_rfl) (by kernel_rfl) (by kernel_rfl) (fun _ _ _ h => h) (Or.inl ⟨by rfl, ?hy3⟩) hHeld ?rest3
  case hy3 =>
    intro w hSw
    try dsimp only at hSw
    go_simp
    try with_reducible rfl
  try simp only [Act.put, List.setIfInBounds_toArray, List.set_cons_zero, List.set_cons_succ]
  refine wpAnyT_take (i := 4) (oi := { dst := some 54, op := Op.load 3 (Operand.tmp 53), type := 3, pos := "ref.go:73", after := #[{ on := 3, ground := Ground.data }], guard := none }) (v := ?_) rfl (by kernel_rfl) (by kernel_rfl) (by kernel_rfl) (by kernel_rfl) (fun _ _ _ h => h) (Or.inl ⟨by rfl, ?hy4⟩) hHeld ?rest4
  case hy4 =>
    intro w hSw
    try dsimp only at hSw
    go_simp
    try with_reducible rfl
  try simp only [Act.put, List.setIfInBounds_toArray, List.set_cons_zero, List.set_cons_succ]
  refine wpAnyT_take (i := 5) (oi := { dst := some 55, op := Op.move (Operand.tmp 2), type := 39, pos := "ref.go:73", after := #[], guard := none }) (v := ?_) rfl (by kernel_rfl) (by kernel_rfl) (by kernel_rfl) (by kernel_rfl) (fun _ _ _ h => h) (Or.inl ⟨by rfl, ?hy5⟩) hHeld ?rest5
  case hy5 =>
    intro w hSw
    try dsimp only at hSw
    go_simp
    try with_reducible rfl
  try simp only [Act.put, List.setIfInBounds_toArray, List.set_cons_zero, List.set_cons_succ]
  refine wpAnyT_take (i := 6) (oi := { dst := some 56, op := Op.move (Operand.tmp 13), type := 3, pos := "ref.go:73", after := #[], guard := none }) (v := ?_) rfl (by kernel_rfl) (by kernel_rfl) (by kernel_rfl) (by kernel_rfl) (fun _ _ _ h => h) (Or.inl ⟨by rfl, ?hy6⟩) hHeld ?rest6
  case hy6 =>
    intro w hSw
    try dsimp only at hSw
    go_simp
    try with_reducible rfl
  try simp only [Act.put, List.setIfInBounds_toArray, List.set_cons_zero, List.set_cons_succ]
  refine wpAnyT_take (i := 7) (oi := { dst := some 57, op := Op.indexAddr 39 (Operand.tmp 55) (Operand.tmp 56), type := 0, pos := "ref.go:73", after := #[{ on := 5, ground := Ground.data }, { on := 6, ground := Ground.data }], guard := none }) (v := ?_) rfl (by kernel_rfl) (by kernel_rfl) (by kernel_rfl) (by kernel_rfl) (fun _ _ _ h => h) (Or.inl ⟨by rfl, ?hy7⟩) hHeld ?rest7
  case hy7 =>
    intro w hSw
    try dsimp only at hSw
    go_simp
    try with_reducible rfl
  try simp only [Act.put, List.setIfInBounds_toArray, List.set_cons_zero, List.set_cons_succ]
  refine wpAnyT_take (i := 8) (oi := { dst := some 58, op := Op.load 4 (Operand.tmp 57), type := 4, pos := "ref.go:73", after := #[{ on := 7, ground := Ground.data }], guard := none }) (v := ?_) rfl (by kernel_rfl) (by kernel_rfl) (by kernel_rfl) (by kernel_rfl) (fun _ _ _ h => h) (Or.inl ⟨by rfl, ?hy8⟩) hHeld ?rest8
  case hy8 =>
    intro w hSw
    try dsimp only at hSw
    go_simp
    try with_reducible rfl
  try simp only [Act.put, List.setIfInBounds_toArray, List.set_cons_zero, List.set_cons_succ]
  refine wpAnyT_take (i := 9) (oi := { dst := some 59, op := Op.move (Operand.tmp 14), type := 31, pos := "ref.go:73", after := #[], guard := none }) (v := ?_) rfl (by kernel_rfl) (by kernel_rfl) (by kernel_rfl) (by kernel_rfl) (fun _ _ _ h => h) (Or.inl ⟨by rfl, ?hy9⟩) hHeld ?rest9
  case hy9 =>
    intro w hSw
    try dsimp only at hSw
    go_simp
    try with_reducible rfl
  try simp only [Act.put, List.setIfInBounds_toArray, List.set_cons_zero, List.set_cons_succ]
  refine wpAnyT_one (i := 10) (o := { dst := some 60, op := Op.build 33 #[(0, Operand.tmp 50), (1, Operand.tmp 54), (2, Operand.tmp 58), (3, Operand.tmp 59)], type := 33, pos := "ref.go:73", after := #[{ on := 0, ground := Ground.data }, { on := 4, ground := Ground.data }, { on := 8, ground := Ground.data }, { on := 9, ground := Ground.data }], guard := none }) (by kernel_rfl) rfl (fun K hK => ?_)
  refine step_buildS (by rfl) 33 #[(0, .tmp 50), (1, .tmp 54), (2, .tmp 58), (3, .tmp 59)] (by rfl) #[.int .i64 d, .int .i64 y, .bool b, .slice A6 q c6] (by simp only [List.map_toArray, List.map_cons, List.map_nil]; exact pb) ?_
  refine hK.out _ _ (by exact hSp.out _ HB) (fun hHeld' => ?_)
  clear hK K hHeld
  have hHeld := hHeld'
  clear hHeld'
  try simp only [Act.put, List.setIfInBounds_toArray, List.set_cons_zero, List.set_cons_succ]
  refine wpAnyT_tail (i := 11) (o := { dst := none, op := Op.store 33 (Operand.tmp 10) (Operand.tmp 60), type := 0, pos := "ref.go:73", after := #[{ on := 10, ground := Ground.data }, { on := 0, ground := Ground.phase }, { on := 1, ground := Ground.phase }, { on := 2, ground := Ground.phase }, { on := 3, ground := Ground.phase }, { on := 4, ground := Ground.phase }, { on := 5, ground := Ground.phase }, { on := 6, ground := Ground.phase }, { on := 7, ground := Ground.phase }, { on := 8, ground := Ground.phase }, { on := 9, ground := Ground.phase }, { on := 10, ground := Ground.phase }], guard := none }) (by kernel_rfl) rfl (by rfl) (fun K hK => ?_)
  rw [if_pos (by rfl)]
  refine wp_set_row 33 (.tmp 10) (.tmp 60) (by rfl) (by rfl) w.heap.size #[.int .i64 d, .int .i64 y, .bool b, .slice A6 q c6] (by rfl) (by rfl) 33 _ hz6.out op_info (by rfl) (by simp [Value.oneCell']) ?_
  intro w9 hd9 hz9 hg9
  refine hK.out _ _ ?_
  clear hK K
  try simp only [Act.put, List.setIfInBounds_toArray, List.set_cons_zero, List.set_cons_succ]
  refine wpAnyT_tail (i := 12) (o := { dst := some 11, op := Op.assign (Operand.const (Value.int IntKind.i64 0)), type := 35, pos := "ref.go:73", after := #[{ on := 11, ground := Ground.chain }, { on := 0, ground := Ground.phase }, { on := 1, ground := Ground.phase }, { on := 2, ground := Ground.phase }, { on := 3, ground := Ground.phase }, { on := 4, ground := Ground.phase }, { on := 5, ground := Ground.phase }, { on := 6, ground := Ground.phase }, { on := 7, ground := Ground.phase }, { on := 8, ground := Ground.phase }, { on := 9, ground := Ground.phase }, { on := 10, ground := Ground.phase }, { on := 11, ground := Ground.phase }], guard := none }) (by kernel_rfl) rfl (by rfl) (fun K hK => ?_)
  go_simp
  refine hK.out _ _ ?_
  clear hK K
  try simp only [Act.put, List.setIfInBounds_toArray, List.set_cons_zero, List.set_cons_succ]
  refine wpAnyT_done (by kernel_rfl) ?_ _
  have hB9 := Lib.hid ((hB6.out.trans (HB.mono hB6.out.size)).grown hg9 (hB6.out.trans (HB.mono hB6.out.size)).size (fun k e => by have := Option.some.inj e; omega))
  have hds9 := Lib.hid (ds_grown (hds6.out.below HB) hz6.out hg9)
  replace hd9 := Lib.hid hd9
  clear hHeld HB hg9
  go_wp2_with fail
  refine bodyPost_ret (v := .tuple #[.agg (opA ⟨d, y, b, p⟩ A6 c6), .int .i64 0]) (results_row_tmp rfl _ _ w.heap.size 33 (opA ⟨d, y, b, p⟩ A6 c6) (0, 0) _ _ rfl rfl (by rw [hd9.out, opA, hq.out]) Tryd.underlying33 (by rfl) op_info) rfl ⟨A6, c6, rfl, by rw [hq.out]; exact hc6.out, hds9.out, hB9.out⟩
theorem ropen_any (t f : Int) (bl : List Bool) (sl : List Int) (nb ns cb c : Nat) (B S : Option Addr) (hnb : bl.length = nb) (hn : sl.length = ns) (hcb : nb ≤ cb) (hc : ns ≤ c) (ht : I64 t) (hsl : ∀ x ∈ sl, I64 x) (d : Int) (hdI : I64 d) (w : World) (hB : BoAt w B bl) (hS : InAt w S sl) : Calls Tryd.prog 19 #[.int .i64 t, .int .i64 f, .slice B nb cb, .slice S ns c, .int .i64 d] w (OpnC t f nb ns bl sl d w) := by
  by_cases he : opE t f nb ns sl = 0
  · by_cases hh : hasB f ns d = true
    · exact ropen_in t f bl sl nb ns cb c B S hnb hn hcb hc ht hsl d hdI w hB hS he hh
    · by_cases h1 : d < f
      · exact ropen_early t f bl sl nb ns cb c B S hnb hn hcb hc ht hsl d hdI w hB hS he hh h1
      · exact ropen_late t f bl sl nb ns cb c B S hnb hn hcb hc ht hsl d hdI w hB hS he hh h1
  · exact ropen_err t f bl sl nb ns cb c B S hnb hn hcb hc ht hsl d hdI w hB hS he
end Go.Proofs.YtnccbhndlnkboaaDoor
/- A seal compared with itself. -/
namespace Go.Proofs.YtnccbhndlnkboaaDoor
open Go.RowKit Cdc Sha
set_option linter.unusedVariables false
set_option linter.unusedSimpArgs false

theorem wf64 {n : Int} (h : I64 n) : (Lit.int .i64 n).wf = true := by
  simp only [Lit.wf]
  have e0 : IntKind.i64.min = -9223372036854775808 := by decide
  have e1 : IntKind.i64.max = 9223372036854775807 := by decide
  rw [e0, e1]
  have := h.1
  have := h.2
  simp
  omega
theorem kInt (D : Nat) {n : Int} (h : I64 n) : Tryd.prog.keyLits (D + 1) 3 [.int .i64 n] = some [.int .i64 n] := by
  simp [Program.keyLits, Tryd.underlying3, wf64 h]
theorem k8 (D : Nat) (x : UInt8) : Tryd.prog.keyLits (D + 1) 5 [by1 x] = some [.int .u8 (x.toNat : Int)] := by
  simp [Program.keyLits, by1, Tryd.underlying5, wf8 x]
theorem kDg (D : Nat) (r : List UInt8) (h : r.length = 32) : Tryd.prog.keyLits (D + 2) 23 (r.map by1) = some (r.map fun x => Lit.int .u8 (x.toNat : Int)) := by
  have hc : Tryd.prog.cellsOf 5 = 1 := by kernel_rfl
  have hd : Tryd.prog.cellsOf 23 = 32 := by kernel_rfl
  unfold Program.keyLits
  rw [Tryd.underlying23]
  simp only
  rw [if_pos (by rw [hd, List.length_map, h])]
  have hm : (List.range 32).mapM (fun i => Tryd.prog.keyLits (D + 1) 5 (((r.map by1).drop (i * Tryd.prog.cellsOf 5)).take (Tryd.prog.cellsOf 5))) = some ((List.range 32).map fun i => [Lit.int .u8 ((r.getD i 0).toNat : Int)]) := by
    refine mapM_some _ _ _ fun i hi => ?_
    have hlt : i < r.length := by rw [h]; simpa using hi
    have e : ((r.map by1).drop (i * Tryd.prog.cellsOf 5)).take (Tryd.prog.cellsOf 5) = [by1 (r.getD i 0)] := by
      rw [hc, Nat.mul_one]
      have : (r.map by1).drop i = by1 (r.getD i 0) :: (r.map by1).drop (i + 1) := by
        rw [List.drop_eq_getElem_cons (by simpa using hlt)]
        simp [List.getD_eq_getElem?_getD, List.getElem?_eq_getElem hlt]
      rw [this]
      rfl
    rw [e]
    exact k8 D _
  rw [hm]
  have e2 := flat_lits r
  rw [h] at e2
  simp only [Option.map_some]
  rw [e2]
theorem kSl (D : Nat) {s : Sl} (h : SlI s) : ∃ l, Tryd.prog.keyLits (D + 3) 25 (slC s) = some l := by
  have h1 : Tryd.prog.cellsOf 3 = 1 := by kernel_rfl
  have h3 : Tryd.prog.cellsOf 23 = 32 := by kernel_rfl
  have h4 : Tryd.prog.cellsOf 25 = 35 := by kernel_rfl
  have hl : (slC s).length = 35 := by simp [slC, h.root]
  have e3 : ((slC s).drop 3).take 32 = s.root.map by1 := by
    show ((s.root.map by1)).take 32 = _
    exact List.take_of_length_le (by simp [h.root])
  have e4 : List.take 32 (dc s.root) = s.root.map by1 := List.take_of_length_le (by simp [h.root])
  unfold Program.keyLits
  rw [Tryd.underlying25]
  simp [h1, h3, h4, hl, e4, slC, kInt (D + 1) h.t, kInt (D + 1) h.f, kInt (D + 1) h.m, kDg D s.root h.root, h.root]
theorem eq_sl {s : Sl} (h : SlI s) (W : World) : (Op.equalIn 10000 25 (.agg (slC s).toArray) (.agg (slC s).toArray)).run Tryd.prog W = .ok true W := by
  obtain ⟨l, hl⟩ := kSl 5 h
  have hf : (Value.agg (slC s).toArray).formed Tryd.prog 25 = true := by
    have h4 : Tryd.prog.cellsOf 25 = 35 := by kernel_rfl
    simp only [Value.formed, Tryd.underlying25, h4]
    simp [slC, h.root]
  obtain ⟨r, hr, hiff⟩ := run_equalIn_deep 9997 3 25 (by kernel_rfl) W _ _ _ _ l l hf hf hl hl
  rw [hiff.2 rfl] at hr
  exact hr
end Go.Proofs.YtnccbhndlnkboaaDoor
