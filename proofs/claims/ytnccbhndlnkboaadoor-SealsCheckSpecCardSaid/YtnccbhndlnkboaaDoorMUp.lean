/- The walks of merkle.leafHash and up. -/
import Derived.Test.YtnccbhndlnkboaaDoorMText
import Derived.Test.YtnccbhndlnkboaaDoorDs
namespace Go.Proofs.YtnccbhndlnkboaaDoor
open Go.RowKit Go.Shelf Cdc Sha
set_option linter.unusedVariables false
set_option linter.unusedSimpArgs false

set_option maxRecDepth 100000 in
set_option maxHeartbeats 4000000 in
/-- leafHash: a leaf's digest -/
theorem mleaf_any (x : List UInt8) (n : Nat) (hn : x.length = n) (hx : n ≤ 1000000000) (A : Option Addr) (c : Nat) (w : World) (h : AtO w A x) (hL : Laid w) :
    Calls Tryd.prog 83 #[.slice A n c] w fun e w' => e = .returned (.agg (dg (lfD x))) ∧ Below w.heap.size w w' := by
  have hT : Hid (∀ V k, Below w.heap.size w V → k = V.heap.size → Calls Tryd.prog 75 #[.string leafB, .slice (some ⟨k, 0, none⟩) 1 1] (V.alloc (.cells #[.slice A n c] 48)) (JoinC (lfT x) (V.alloc (.cells #[.slice A n c] 48)))) := Lib.hid fun V k hV hk => by
    subst hk
    have h2 := hV.alloc hV.size (.cells #[.slice A n c] 48)
    have hce := cell_of_row _ V.heap.size 0 _ _ _ (heap_alloc_new V (.cells #[.slice A n c] 48))
    refine mtext_of leafB (by decide) _ 1 1 x (by omega) _ (hL.below h2) fun U hU => join_one x _ 1 U ?_ (by omega)
    intro i xs hi
    match i, hi with
    | 0, hi =>
      obtain rfl : x = xs := by simpa using hi
      exact ⟨A, c, by rw [hn]; exact (hU.cell (p := ⟨V.heap.size, 0, none⟩) (by simp)).trans hce, (h.below h2).below hU⟩
  have hZ : Hid (∀ V A' c', Below w.heap.size w V → 32 + n ≤ c' → c' ≤ 9223372036854775807 → AtO V A' (lfT x) → Calls Tryd.prog 74 #[.slice A' (32 + n) c'] V fun e w' => e = .returned (.agg (dg (lfD x))) ∧ Below V.heap.size V w') := Lib.hid fun V A' c' hV h1 h2 h3 => sum_dg (lfT x) (32 + n) (by rw [lfT, mT_len, hn]) (by omega) A' c' h1 h2 V h3 (hL.below hV)
  have hlt : Hid ((lfT x).length = 32 + n) := Lib.hid (by rw [lfT, mT_len, hn])
  obtain ⟨T, hT9⟩ : ∃ T, lfT x = T := ⟨_, rfl⟩
  rw [hT9] at hT hZ hlt
  have hi5 := Lib.hid (dg_info _ (lfD_len x))
  have ho5 := Lib.hid (dg_one (lfD x))
  have hr5 := Lib.hid (show (dg (List.replicate 32 (0 : UInt8))).size = (dg (lfD x)).size by rw [dg_size, dg_size, List.length_replicate, lfD_len])
  obtain ⟨D, hD⟩ : ∃ D, lfD x = D := ⟨_, rfl⟩
  rw [hD] at hZ hi5 ho5 hr5 ⊢
  clear hT9 hD h hL
  have hz0 : Hid (∀ w : World, (w.alloc (.cells ((List.replicate 32 (0 : UInt8)).map by1).toArray 23)).heap[w.heap.size]? = some (.cells ((List.replicate 32 (0 : UInt8)).map by1).toArray 23 (0, 0))) := Lib.hid fun w => heap_alloc_new w _
  go_enter Tryd.func83, Tryd.ntmps83
  go_wp2_with fail
  refine (hT.out _ _ ((Below.refl _ _).alloc (Nat.le_refl _) _) (by simp)).mono ?_
  unfold JoinC
  rw [hlt.out]
  rintro e w2 ⟨A2, c2, rfl, h21, h22, h23, hb2, -⟩
  have hd2 := Lib.hid ((hb2.block w.heap.size (by simp; omega)).trans ((Below.heap_alloc _ _ w.heap.size (by simp)).trans (hz0.out w)))
  have hB2 := (((Below.refl w.heap.size w).alloc (Nat.le_refl _) _).alloc (by simp) _).trans (hb2.mono (by simp; omega))
  clear hb2 hT hz0
  replace h23 := Lib.hid h23
  go_wp2_with fail
  refine (hZ.out _ _ _ hB2 h21 h22 h23.out).mono ?_
  rintro e w3 ⟨rfl, hb3⟩
  have hd3 := Lib.hid ((hb3.block w.heap.size (Array.getElem?_eq_some_iff.1 hd2.out).1).trans hd2.out)
  have hB3 := hB2.trans (hb3.mono hB2.size)
  clear hd2 hb3
  go_wp2_with (refine wpList_set_row (by rfl) 23 (.tmp 2) (.tmp 6) (by rfl) (by rfl) w.heap.size (dg D) (by rfl) (by rfl) 23 _ hd3.out hi5.out hr5.out ho5.out ?_; intro w6 hd6 hz6 hg6; replace hd6 := Lib.hid hd6)
  refine bodyPost_ret (v := .agg (dg D)) (results_cell_row rfl _ _ w.heap.size 23 (dg D) (0, 0) _ rfl hd6.out Tryd.underlying23 (by rfl) hi5.out) rfl ⟨rfl, hB3.grown hg6 hB3.size (fun k e => by have := Option.some.inj e; omega)⟩

def lenSl : Value → Nat
  | .slice _ n _ => n
  | _ => 0

theorem range_grown {w0 w1 w2 : World} {g o : Nat} {cs : List Value} {r : Option Nat} (hg : w1.grownBy w2 r) (h : w0.rangeAt g o cs) (hlt : g < w0.heap.size) (hB : Below w0.heap.size w0 w1) (hne : r ≠ some g) : w2.rangeAt g o cs := by
  have h1 := range_belowB h hlt hB
  intro j v hj
  have hb := hg.block g (Nat.lt_of_lt_of_le hlt hB.size) (fun e => hne e.symm)
  rw [World.cell?_of_block (w := w1) (a := ⟨g, o + j, none⟩) hb]
  exact h1 j v hj

theorem RowD.spot {w : World} {b n c : Nat} {A : Option Addr} {l : List (List UInt8)} (h : RowD w b (.slice A n c) l) (h0 : l ≠ []) : ∃ g cs ty fr, A = some ⟨g, 0, none⟩ ∧ b ≤ g ∧ w.heap[g]? = some (.cells cs ty fr) := by
  rcases h.2 with ⟨_, he⟩ | ⟨g, cap, cur, e, hb, hh, _⟩
  · exact absurd (List.length_eq_zero_iff.1 he) h0
  · injection e with e1 e2 e3
    exact ⟨g, cur, _, _, e1, hb, hh⟩
/-- what up returns -/
def UpC (l : List (List UInt8)) (w : World) (e : Ending) (w' : World) : Prop := ∃ (A : Option Addr) (c : Nat), e = .returned (.slice A l.length c) ∧ l.length ≤ c ∧ DsAt w' A l ∧ Below w.heap.size w w' ∧ (l ≠ [] → ∃ g cs ty fr, A = some ⟨g, 0, none⟩ ∧ w.heap.size ≤ g ∧ w'.heap[g]? = some (.cells cs ty fr))

set_option maxRecDepth 100000 in
set_option maxHeartbeats 4000000 in
/-- up: the row behind a row -/
theorem mup_any (l : List (List UInt8)) (n : Nat) (hn : l.length = n) (hx : n ≤ 100000) (A : Option Addr) (c : Nat) (hc : n ≤ c) (w : World) (h : DsAt w A l) (h32 : ∀ d ∈ l, d.length = 32) (hL : Laid w) :
    Calls Tryd.prog 84 #[.slice A n c] w (UpC (up l) w) := by
  replace h := Lib.hid h
  replace hL := Lib.hid hL
  subst hn
  go_enter Tryd.func84, Tryd.ntmps84
  go_wp2_with fail
  go_loopw [0, 2] (fun s0 s2 wr => ∃ (l' acc : List (List UInt8)) (A' : Option Addr) (n' c' : Nat), l'.length = n' ∧ s0 = .slice A' n' c' ∧ n' ≤ c' ∧ Hid (DsAt w A' l') ∧ RowD wr w.heap.size s2 acc ∧ Below w.heap.size w wr ∧ Hid (up l = acc ++ up l') ∧ Hid (∀ d ∈ l', d.length = 32) ∧ Hid (∀ d ∈ acc, d.length = 32) ∧ acc.length + n' ≤ l.length) (fun s0 _ _ => lenSl s0)
  case atStart => exact ⟨l, [], A, l.length, c, rfl, rfl, hc, h, RowD.nil _ _, Below.refl _ _, Lib.hid rfl, Lib.hid h32, Lib.hid (fun d hd => by simp at hd), by simp⟩
  case round =>
    clear h hc h32
    obtain ⟨l', acc, A', n', c', hn', rfl, hc', hds, hrow, hBr, hup, hl32, ha32, hsz⟩ := hrel
    by_cases h1 : 1 < n'
    · obtain ⟨a, b, r, rfl⟩ : ∃ a b r, l' = a :: b :: r := by
        match l', hn' with
        | [], hn' => simp at hn'; omega
        | [_], hn' => simp at hn'; omega
        | a :: b :: r, _ => exact ⟨a, b, r, rfl⟩
      obtain ⟨g, o, eA, hgl0, hr0⟩ := hds.out 0 a rfl
      subst eA
      obtain ⟨g', o', e', _, hr1⟩ := hds.out 1 b rfl
      obtain ⟨rfl, rfl⟩ : g = g' ∧ o = o' := by injection e' with h; injection h with h1 h2; exact ⟨h1, h2⟩
      clear e'
      simp only [Nat.zero_mul, Nat.one_mul, Nat.add_zero] at hr0 hr1
      have hgl : g < wr.heap.size := Nat.lt_of_lt_of_le hgl0 hBr.size
      replace hr0 := range_belowB hr0 hgl0 hBr
      replace hr1 := range_belowB hr1 hgl0 hBr
      have ha := hl32.out a (by simp)
      have hb := hl32.out b (by simp)
      have pa := Lib.hid (dc_info ha)
      have pb := Lib.hid (dc_info hb)
      have hS : Hid (∀ V, Below wr.heap.size wr V → V.rangeAt g o (dc a) ∧ V.rangeAt g (o + 32) (dc b)) := Lib.hid fun V hV => ⟨range_belowB hr0 hgl hV, range_belowB hr1 hgl hV⟩
      have hN : Hid (∀ V, Below wr.heap.size wr V → Calls Tryd.prog 77 #[.agg (dc a).toArray, .agg (dc b).toArray] V (JoinC (ndT a b) V)) := Lib.hid fun V hV => mnode_any a b ha hb V (hL.out.below (hBr.trans (hV.mono hBr.size)))
      have hZ : Hid (∀ V A' c', Below wr.heap.size wr V → 96 ≤ c' → c' ≤ 9223372036854775807 → AtO V A' (ndT a b) → Calls Tryd.prog 74 #[.slice A' 96 c'] V fun e w' => e = .returned (.agg (dc (ndD a b)).toArray) ∧ Below V.heap.size V w') := Lib.hid fun V A' c' hV h1 h2 h3 => sum_dg (ndT a b) 96 (by rw [ndT, mT_len, List.length_append, ha, hb]) (by omega) A' c' h1 h2 V h3 (hL.out.below (hBr.trans (hV.mono hBr.size)))
      have hT9 : Hid ((ndT a b).length = 96) := Lib.hid (by rw [ndT, mT_len, List.length_append, ha, hb])
      have hup2 : Hid (up l = (acc ++ [ndD a b]) ++ up r) := Lib.hid (by rw [hup.out, up]; simp)
      have hD1 : Hid (∀ d ∈ [ndD a b], d.length = 32) := Lib.hid (fun d hd => by simp at hd; subst hd; exact ndD_len a b)
      have hbu := Lib.hid (builtSlice_d1 (ndD a b) (ndD_len a b))
      obtain ⟨T, hT⟩ : ∃ T, ndT a b = T := ⟨_, rfl⟩
      obtain ⟨D, hD⟩ : ∃ D, ndD a b = D := ⟨_, rfl⟩
      rw [hT] at hN hZ hT9
      rw [hD] at hZ hup2 hD1 hbu
      clear hT hD ha hb hup
      have hcut : ∀ W, (Instr.slice 31 (.slice (some ⟨g, o, none⟩) n' c') (some (.int .i64 2)) none none).run Tryd.prog W = .ok (cutV g o n' c' 2) W := fun W => run_cut W g o n' c' 2 (by omega) hc'
      obtain ⟨A2, eA2, hds2⟩ := cut_ds (k := 2) hds.out hn' hc'
      rw [eA2] at hcut
      replace hds2 := Lib.hid hds2
      have HB : Below wr.heap.size wr wr.drew := (Below.refl _ _).drew
      have hg9 : u2.ownBlock ≠ some g := fun e => by have := (hrow.high e).1; omega
      have hacc : acc.length ≤ 1000000 := by omega
      have hl2 : r.length = n' - 2 := by simp at hn'; omega
      have k0 : 0 < n' := by omega
      have k1 : (1 : Int) < (n' : Int) := by omega
      replace hn' := Lib.hid hn'
      clear eA2
      have d1 : decide ((1 : Int) < (n' : Int)) = true := decide_eq_true (by omega)
      go_wp2_with fail
      refine wp_region_held_drew (S := fun w' => w'.rangeAt g o (dc a) ∧ w'.rangeAt g (o + 32) (dc b)) (by kernel_rfl) (by exact hS.out _ HB) (fun hHeld => ?_)
      refine wpAnyH_take (i := 0) (oi := { dst := some 6, op := Op.move (Operand.tmp 2), type := 31, pos := "merkle.go:27", after := #[], guard := none }) (v := ?_) rfl (by kernel_rfl) (by kernel_rfl) (by kernel_rfl) (fun _ _ _ h => h) (Or.inl ⟨by rfl, ?hy0⟩) hHeld ?rest0
      case hy0 =>
        intro w hSw
        try dsimp only at hSw
        go_simp
        try with_reducible rfl
      try simp only [Act.put, List.setIfInBounds_toArray, List.set_cons_zero, List.set_cons_succ]
      refine wpAnyH_take (i := 1) (oi := { dst := some 7, op := Op.move (Operand.tmp 0), type := 31, pos := "merkle.go:27", after := #[], guard := none }) (v := ?_) rfl (by kernel_rfl) (by kernel_rfl) (by kernel_rfl) (fun _ _ _ h => h) (Or.inl ⟨by rfl, ?hy1⟩) hHeld ?rest1
      case hy1 =>
        intro w hSw
        try dsimp only at hSw
        go_simp
        try with_reducible rfl
      try simp only [Act.put, List.setIfInBounds_toArray, List.set_cons_zero, List.set_cons_succ]
      refine wpAnyH_take (i := 2) (oi := { dst := some 8, op := Op.indexAddr 31 (Operand.tmp 7) (Operand.const (Value.int IntKind.i64 0)), type := 0, pos := "merkle.go:27", after := #[{ on := 1, ground := Ground.data }], guard := none }) (v := ?_) rfl (by kernel_rfl) (by kernel_rfl) (by kernel_rfl) (fun _ _ _ h => h) (Or.inl ⟨by rfl, ?hy2⟩) hHeld ?rest2
      case hy2 =>
        intro w hSw
        try dsimp only at hSw
        go_simp
        try with_reducible rfl
      try simp only [Act.put, List.setIfInBounds_toArray, List.set_cons_zero, List.set_cons_succ]
      refine wpAnyH_take (i := 3) (oi := { dst := some 9, op := Op.load 23 (Operand.tmp 8), type := 23, pos := "merkle.go:27", after := #[{ on := 2, ground := Ground.data }], guard := none }) (v := _) rfl (by kernel_rfl) (by kernel_rfl) (by kernel_rfl) (fun _ _ _ h => h) (yieldsIf_load_mid (by rfl) 23 (.tmp 8) rfl g o rfl (dc a) _ (fun _ h => h.1) Tryd.underlying23 rfl pa.out) hHeld ?_
      try simp only [Act.put, List.setIfInBounds_toArray, List.set_cons_zero, List.set_cons_succ]
      refine wpAnyH_take (i := 4) (oi := { dst := some 10, op := Op.move (Operand.tmp 0), type := 31, pos := "merkle.go:27", after := #[], guard := none }) (v := ?_) rfl (by kernel_rfl) (by kernel_rfl) (by kernel_rfl) (fun _ _ _ h => h) (Or.inl ⟨by rfl, ?hy4⟩) hHeld ?rest4
      case hy4 =>
        intro w hSw
        try dsimp only at hSw
        go_simp
        try with_reducible rfl
      try simp only [Act.put, List.setIfInBounds_toArray, List.set_cons_zero, List.set_cons_succ]
      refine wpAnyH_take (i := 5) (oi := { dst := some 11, op := Op.indexAddr 31 (Operand.tmp 10) (Operand.const (Value.int IntKind.i64 1)), type := 0, pos := "merkle.go:27", after := #[{ on := 4, ground := Ground.data }], guard := none }) (v := ?_) rfl (by kernel_rfl) (by kernel_rfl) (by kernel_rfl) (fun _ _ _ h => h) (Or.inl ⟨by rfl, ?hy5⟩) hHeld ?rest5
      case hy5 =>
        intro w hSw
        try dsimp only at hSw
        go_simp
        try with_reducible rfl
      try simp only [Act.put, List.setIfInBounds_toArray, List.set_cons_zero, List.set_cons_succ]
      refine wpAnyH_take (i := 6) (oi := { dst := some 12, op := Op.load 23 (Operand.tmp 11), type := 23, pos := "merkle.go:27", after := #[{ on := 5, ground := Ground.data }], guard := none }) (v := _) rfl (by kernel_rfl) (by kernel_rfl) (by kernel_rfl) (fun _ _ _ h => h) (yieldsIf_load_mid (by rfl) 23 (.tmp 11) rfl g (o + 32) rfl (dc b) _ (fun _ h => h.2) Tryd.underlying23 rfl pb.out) hHeld ?_
      try simp only [Act.put, List.setIfInBounds_toArray, List.set_cons_zero, List.set_cons_succ]
      refine wpAnyH_ready (rs := [7]) (by kernel_rfl) (by simp) (AllReadyH.cons (o := { dst := some 13, op := Op.call { callee := Callee.value (Operand.func 77), args := #[Operand.tmp 9, Operand.tmp 12], argTypes := #[23, 23] }, type := 48, pos := "merkle.go:27", after := #[{ on := 3, ground := Ground.data }, { on := 6, ground := Ground.data }], guard := none }) rfl (fun K hK => ?_) AllReadyH.nil)
      go_simp
      go_at_call 77
      refine (hN.out _ HB).mono ?_
      unfold JoinC
      rw [hT9.out]
      rintro e w4 ⟨A4, c4, rfl, h41, h42, h43, hb, -⟩
      replace HB := HB.trans (hb.mono HB.size)
      replace h43 := Lib.hid h43
      clear hb
      refine hK.out _ _ (by exact hS.out _ HB) (fun hHeld' => ?_)
      clear hK K hHeld
      have hHeld := hHeld'
      clear hHeld'
      try simp only [Act.put, List.setIfInBounds_toArray, List.set_cons_zero, List.set_cons_succ]
      refine wpAnyH_ready (rs := [8]) (by kernel_rfl) (by simp) (AllReadyH.cons (o := { dst := some 14, op := Op.call { callee := Callee.value (Operand.func 74), args := #[Operand.tmp 13], argTypes := #[48] }, type := 23, pos := "merkle.go:27", after := #[{ on := 7, ground := Ground.data }, { on := 7, ground := Ground.chain }], guard := none }) rfl (fun K hK => ?_) AllReadyH.nil)
      go_simp
      go_at_call 74
      refine (hZ.out _ _ _ HB h41 h42 h43.out).mono ?_
      rintro e w5 ⟨rfl, hb⟩
      replace HB := HB.trans (hb.mono HB.size)
      clear hb
      refine hK.out _ _ (by exact hS.out _ HB) (fun hHeld' => ?_)
      clear hK K hHeld
      have hHeld := hHeld'
      clear hHeld'
      try simp only [Act.put, List.setIfInBounds_toArray, List.set_cons_zero, List.set_cons_succ]
      refine wpAnyH_ready (rs := [9]) (by kernel_rfl) (by simp) (AllReadyH.cons (o := { dst := some 15, op := Op.buildSlice 31 1 #[(0, Operand.tmp 14)], type := 31, pos := "merkle.go:27", after := #[{ on := 8, ground := Ground.data }], guard := none }) rfl (fun K hK => ?_) AllReadyH.nil)
      refine step_built (by rfl) 31 23 1 #[(0, .tmp 14)] (by rfl) Tryd.underlying31 (dc D).toArray (by simp only [List.map_toArray, List.map_cons, List.map_nil]; exact hbu.out) ?_
      have HB9 := HB.alloc HB.size (.cells (dc D).toArray 23)
      have hrow9 := hrow.below HB9
      have hat9 := dsAt_row (l := [D]) hD1.out (heap_alloc_new w5 (.cells (dc D).toArray 23)) (by simp [dsC])
      refine hK.out _ _ (by exact hS.out _ HB9) (fun hHeld' => ?_)
      clear hK K hHeld
      have hHeld := hHeld'
      clear hHeld'
      try simp only [Act.put, List.setIfInBounds_toArray, List.set_cons_zero, List.set_cons_succ]
      refine wpAnyH_ready (rs := [10]) (by kernel_rfl) (by simp) (AllReadyH.cons (o := { dst := some 16, op := Op.call { callee := Callee.builtin Builtin.append, args := #[Operand.tmp 6, Operand.tmp 15], argTypes := #[31, 31] }, type := 31, pos := "merkle.go:27", after := #[{ on := 0, ground := Ground.data }, { on := 9, ground := Ground.data }, { on := 8, ground := Ground.chain }], guard := none }) rfl (fun K hK => ?_) AllReadyH.nil)
      refine step_appD _ (by rfl) (.tmp 6) (.tmp 15) (by rfl) w.heap.size u2 acc [D] (some ⟨w5.heap.size, 0, none⟩) 1 1 (by rfl) (by rfl) (by rfl) hat9 hrow9 hD1.out hacc (by decide) (by simp; have := hBr.size; have := HB.size; omega) ?_
      intro row' w6 hrow6 hg6
      refine hK.out _ _ (by exact ⟨range_grown hg6 hr0 hgl HB9 hg9, range_grown hg6 hr1 hgl HB9 hg9⟩) (fun hHeld' => ?_)
      clear hK K hHeld
      have hHeld := hHeld'
      clear hHeld'
      try simp only [Act.put, List.setIfInBounds_toArray, List.set_cons_zero, List.set_cons_succ]
      refine wpAnyH_take (i := 11) (oi := { dst := some 2, op := Op.assign (Operand.tmp 16), type := 31, pos := "merkle.go:27", after := #[{ on := 10, ground := Ground.data }, { on := 10, ground := Ground.chain }, { on := 0, ground := Ground.phase }, { on := 1, ground := Ground.phase }, { on := 2, ground := Ground.phase }, { on := 3, ground := Ground.phase }, { on := 4, ground := Ground.phase }, { on := 5, ground := Ground.phase }, { on := 6, ground := Ground.phase }, { on := 7, ground := Ground.phase }, { on := 8, ground := Ground.phase }, { on := 9, ground := Ground.phase }, { on := 10, ground := Ground.phase }], guard := none }) (v := ?_) rfl (by kernel_rfl) (by kernel_rfl) (by kernel_rfl) (fun _ _ _ h => h) (Or.inl ⟨by rfl, ?hy11⟩) hHeld ?rest11
      case hy11 =>
        intro w hSw
        try dsimp only at hSw
        go_simp
        try with_reducible rfl
      try simp only [Act.put, List.setIfInBounds_toArray, List.set_cons_zero, List.set_cons_succ]
      refine wpAnyH_done (by kernel_rfl) ?_ _
      have HB6 : Below w.heap.size w w6 := RowD.grown hrow9 (hBr.trans (HB9.mono hBr.size)) (Nat.le_refl _) (by have := hBr.size; have := HB9.size; omega) hg6
      go_wp2_with fail
      go_roundw
      case rel => exact ⟨r, acc ++ [D], A2, n' - 2, c' - 2, hl2, rfl, by omega, hds2, hrow6, HB6, hup2, Lib.hid (fun d hd => hl32.out d (by simp [hd])), Lib.hid (fun d hd => by rcases List.mem_append.1 hd with h | h; exact ha32.out d h; exact hD1.out d h), by simp; omega⟩
      case measure => simp [lenSl]; omega
    · have d1 : decide ((1 : Int) < (n' : Int)) = false := decide_eq_false (by omega)
      have hu : Hid (up l = acc ++ l') := Lib.hid (by
        rw [hup.out]
        match l', hn' with
        | [], _ => rfl
        | [_], _ => rfl
        | _ :: _ :: _, hn' => simp at hn'; omega)
      have hdsr := Lib.hid (hds.out.below hBr)
      replace hn' := Lib.hid hn'
      go_wp2_with (refine wpList_appD _ (by rfl) (.tmp 19) (.tmp 20) (by rfl) w.heap.size u2 acc l' A' n' c' (by rfl) (by rfl) hn'.out hdsr.out hrow hl32.out (by omega) (by omega) hBr.size ?_; intro row' w6 hrow6 hg6)
      have hB6 : Below w.heap.size w w6 := RowD.grown hrow hBr (Nat.le_refl _) hBr.size hg6
      obtain ⟨A6, c6, rfl, hc6, hd6⟩ := hrow6.ds fun d hd => by rcases List.mem_append.1 hd with h | h; exact ha32.out d h; exact hl32.out d h
      refine bodyPost_ret (v := .slice A6 (acc ++ l').length c6) (by simp [results, Tryd.results84, go_sem]) rfl ?_
      rw [hu.out]
      exact ⟨A6, c6, rfl, hc6, hd6, hB6, hrow6.spot⟩
end Go.Proofs.YtnccbhndlnkboaaDoor
