/- The walks of the reference's texts of leaves and nodes. -/
import Derived.Test.YtnccbhndlnkboaaDoorRDig
import Derived.Test.YtnccbhndlnkboaaDoorMText
import Derived.Test.YtnccbhndlnkboaaDoorDs
import Derived.Deep.RegionHeld3
import Derived.Test.YtnccbhndlnkboaaDoorMClimbF
import Derived.LoopTactic
namespace Go.Proofs.YtnccbhndlnkboaaDoor
open Go.RowKit Sha Cdc
set_option linter.unusedVariables false
set_option linter.unusedSimpArgs false

theorem Out.join {w w' : World} {v : Value} {l : List UInt8} (h : Out w w' v l) : JoinC l w (.returned v) w' := by
  obtain ⟨h1, h2, h3⟩ := h
  have hat : ∀ A n c, v = .slice A n c → AtO w' A l := fun A n c e => by subst e; exact h1.atO
  rcases h1.2 with ⟨rfl, h0⟩ | ⟨g, cap, cur, rfl, hb, hh, hc, hcm, hcs, htk⟩
  · rw [List.length_eq_zero_iff] at h0
    subst h0
    exact ⟨none, 0, rfl, Nat.le_refl _, by omega, hat _ _ _ rfl, h3, fun g o e => by cases e⟩
  · refine ⟨some ⟨g, 0, none⟩, cap, rfl, hc, by simpa [maxLen] using hcm, hat _ _ _ rfl, h3, fun g' o e _ => ?_⟩
    injection e with e
    injection e with e1 e2 e3
    subst e1
    exact ⟨h2 g rfl, (Array.getElem?_eq_some_iff.1 hh).1⟩
theorem step_appB {ops : Array Oper} {o : Oper} {a : Act} {K : Act → World → Prop} {Q : Exit → Act → World → Prop} {E : Prop} (w : World) (hgd : o.guard = none) (s x : Operand)
    (ho : o.op = .call { callee := .builtin .append, args := #[s, x], argTypes := #[48, 48] }) (v : Value) (xs : List UInt8) (A : Option Addr) (m c : Nat) (ys : List UInt8)
    (hs : a.eval s = v) (hx : a.eval x = .slice A m c) (hown : Own w v xs) (hm : ys.length = m) (hc : AtO w A ys) (hl : xs.length + m ≤ 100000000000000)
    (h : ∀ v' w', Own w' v' (xs ++ ys) → Grew w w' v v' → K (a.put o.dst v') w') : if Region.wanted o (yielded ops a.tmps) = true then Oper.wp Tryd.prog o a w K Q else E := by
  have hw : Region.wanted o (yielded ops a.tmps) = true := by simp [Region.wanted, hgd]
  rw [if_pos hw]
  obtain ⟨v', w', hr, h2, h3⟩ := run_appO w o.type v xs A m c ys hown hm hc hl
  unfold Oper.wp execOp
  simp only [ho, resolve, invoke, builtin, Sem.run_bind, Sem.run_pure, Result.andThen_ok, List.map_toArray, List.map_cons, List.map_nil, hs, hx, hr]
  exact h v' w' h2 h3

set_option maxRecDepth 100000 in
set_option maxHeartbeats 2000000 in
theorem rtext7_any (tag : ByteArray) (ht : tag.size ≤ 1000000000) (bs : List UInt8) (n : Nat) (hn : bs.length = n) (hb : n ≤ 10000000000) (A : Option Addr) (c : Nat) (w : World) (h : AtO w A bs) :
    Calls Tryd.prog 86 #[.string tag, .slice A n c] w (JoinC (mT tag bs) w) := by
  have hconv := fun W => Lib.run_convert_string_bytes (P := Tryd.prog) W 9 48 5 tag Tryd.underlying9 Tryd.underlying48 Tryd.underlying5
  have hlen : Hid (tag.data.toList.length = tag.size) := Lib.hid (Array.length_toList ..)
  replace hn := Lib.hid hn
  replace h := Lib.hid h
  have key : Hid (∀ (W0 : World) (k : Nat), k = W0.heap.size → Below w.heap.size w W0 → Calls Tryd.prog 85 #[.slice (some ⟨k, 0, none⟩) tag.size (grownCap W0 tag.size 0 5)] (Lib.bytesWorld W0 5 tag)
      fun e w' => e = .returned (.agg (dg (sha tag.data.toList))) ∧ Below w.heap.size w w') := Lib.hid (by
    intro W0 k hk hB0
    have hB1 := bytesW_below tag hB0 hB0.size
    have hsz := Lib.bytesWorld_size W0 5 tag
    refine (rsum_dg tag.data.toList tag.size hlen.out (by omega) (some ⟨k, 0, none⟩) _ _ (bytesW_at W0 tag k hk)).mono ?_
    rintro e w' ⟨rfl, hb⟩
    exact ⟨rfl, hB1.trans (hb.mono hB1.size)⟩)
  go_enter Tryd.func86, Tryd.ntmps86
  go_wp2_with fail
  refine (key.out _ _ (by simp) (Below.refl _ _)).mono ?_
  rintro e w2 ⟨rfl, hB2⟩
  clear hconv key
  have hi2 := Lib.hid (dg_info _ (sha_len tag.data.toList))
  have ho2 := Lib.hid (dg_one (sha tag.data.toList))
  have hs2 := Lib.hid (dg_size (sha tag.data.toList))
  obtain ⟨t, hD⟩ : ∃ t, sha tag.data.toList = t := ⟨_, rfl⟩
  have hmt : Hid (mT tag bs = t ++ bs) := Lib.hid (by rw [mT, hD])
  have hr3 : Hid (32 = (dg t).size) := Lib.hid (by rw [← hD, hs2.out, sha_len])
  have htl : Hid (t.length = 32) := Lib.hid (by rw [← hD, sha_len])
  rw [hD] at hi2 ho2 ⊢
  clear hD hs2
  go_wp2_with (first
    | (refine wpList_new_row (by rfl) 23 (.tmp 5) (.tmp 8) (by rfl) (by rfl) (dg t) (by rfl) (by rfl) 23 _ hi2 hr3 ho2 ?_; intro w3 hd3 hz3 hB3; have hBB : Below w.heap.size w w3 := hB2.trans (hB3.mono hB2.size); have hat3 : Hid (∀ o, AtO (w3.alloc o) (some ⟨w2.heap.size, 0, none⟩) t) := Lib.hid (fun o => (dg_at hd3).below ((Below.refl _ _).alloc (Nat.le_refl _) o)); replace hd3 := Lib.hid hd3; replace hz3 := Lib.hid hz3)
    | (at_builtin; refine wpList_appO _ (by rfl) (.tmp 9) (.tmp 10) (by rfl) _ [] (some ⟨w2.heap.size, 0, none⟩) 32 32 t (by rfl) (by rfl) (Own.empty w3 _ rfl) htl.out (hat3.out _) (by simp) ?_; intro v4 w4 ho4 hg4; have hO4 : Out w3 w4 v4 ([] ++ t) := (Out.zero w3 _ rfl).step0 ho4 hg4; replace ho4 := Lib.hid ho4; have hbs4 : AtO w4 A bs := (h.out.below hBB).below hO4.2.2; replace hbs4 := Lib.hid hbs4)
    | (at_builtin; refine wpList_appO _ (by rfl) (.tmp 11) (.tmp 12) (by rfl) _ ([] ++ t) A n c bs (by rfl) (by rfl) ho4.out hn.out hbs4.out (by simp [htl.out]; omega) ?_; intro v5 w5 ho5 hg5; have hO5 := hO4.step0 ho5 hg5; clear ho5 hg5))
  rw [List.nil_append] at hO5
  obtain ⟨A5, c5, hv, h1, h2, h3, h4, h5⟩ := hO5.join
  injection hv with hv
  subst hv
  refine bodyPost_ret (v := .slice A5 (t ++ bs).length c5) (by simp [results, Tryd.results86, go_sem]) rfl (by
    rw [hmt.out]
    exact ⟨A5, c5, rfl, h1, h2, h3, hBB.trans (h4.mono hBB.size), fun g o e hne => ⟨Nat.le_trans hBB.size (h5 g o e hne).1, (h5 g o e hne).2⟩⟩)

theorem step_noneB {ops : Array Oper} {o : Oper} {a : Act} {K : Act → World → Prop} {Q : Exit → Act → World → Prop} {E : Prop} (w : World) (hgd : o.guard = none) (ho : o.op = .buildSlice 48 0 #[])
    (h : K (a.put o.dst (.slice (some ⟨w.heap.size, 0, none⟩) 0 0)) (w.alloc (.cells #[] 5))) : if Region.wanted o (yielded ops a.tmps) = true then Oper.wp Tryd.prog o a w K Q else E := by
  have hw : Region.wanted o (yielded ops a.tmps) = true := by simp [Region.wanted, hgd]
  rw [if_pos hw]
  obtain ⟨i0, hi0, hz0, hz1, hz2⟩ := info_parts u8_info
  have hr : (Instr.buildSlice 48 0 #[]).run Tryd.prog w = .ok (.slice (some ⟨w.heap.size, 0, none⟩) 0 0) (w.alloc (.cells #[] 5)) := by
    simp [Instr.buildSlice, run_underlying Tryd.underlying48, sizeOf, typeInfo, zeroValue, hi0, hz0, newRow, Instr.fill]
    try rw [show ∀ d : Value, Array.map (fun _ => d) (Array.range 0) = #[] from fun d => Array.eq_empty_of_size_eq_zero (by simp)]
  unfold Oper.wp execOp
  simp only [ho, Sem.run_bind, List.map_toArray, List.map_nil, hr, Result.andThen_ok]
  exact h
set_option maxRecDepth 100000 in
set_option maxHeartbeats 2000000 in
theorem rtwo_any (a b : List UInt8) (ha : a.length = 32) (hb : b.length = 32) (w : World) :
    Calls Tryd.prog 87 #[.agg (dg a), .agg (dg b)] w (JoinC (ndT a b) w) := by
  have hT : Hid (∀ V A c, AtO V A (a ++ b) → Calls Tryd.prog 86 #[.string nodeB, .slice A 64 c] V (JoinC (ndT a b) V)) := Lib.hid fun V A c h => rtext7_any nodeB (by decide) (a ++ b) 64 (by rw [List.length_append, ha, hb]) (by decide) A c V h
  have hlen : Hid ((a ++ b).length = 64) := Lib.hid (by rw [List.length_append, ha, hb])
  obtain ⟨N, hN⟩ : ∃ N, ndT a b = N := ⟨_, rfl⟩
  rw [hN] at hT ⊢
  obtain ⟨W2, hW2⟩ : ∃ W2, W2 = (w.alloc (.cells (dg a) 23)).alloc (.cells (dg b) 23) := ⟨_, rfl⟩
  obtain ⟨g1, g2, hB2⟩ := two_alloc w (dg a) (dg b) 23 23
  rw [← hW2] at g1 g2 hB2
  have hz2 : W2.heap.size = w.heap.size + 2 := by rw [hW2]; simp
  have hS : Hid (∀ V, Below W2.heap.size W2 V → V.heap[w.heap.size]? = some (.cells (dg a) 23 (0, 0)) ∧ V.heap[w.heap.size + 1]? = some (.cells (dg b) 23 (0, 0))) := Lib.hid fun V hV => ⟨(hV.block _ (by omega)).trans g1, (hV.block _ (by omega)).trans g2⟩
  have hat : Hid (∀ V, Below W2.heap.size W2 V → AtO V (some ⟨w.heap.size, 0, none⟩) a ∧ AtO V (some ⟨w.heap.size + 1, 0, none⟩) b) := Lib.hid fun V hV => ⟨dg_at (hS.out V hV).1, dg_at (hS.out V hV).2⟩
  clear hN g1 g2
  go_enter Tryd.func87, Tryd.ntmps87
  go_wp2_with fail
  rw [← hW2]
  clear hW2
  have HB : Below W2.heap.size W2 W2.drew := (Below.refl _ _).drew
  refine wp_region_held_drew (S := fun w' => w'.heap[w.heap.size]? = some (.cells (dg a) 23 (0, 0)) ∧ w'.heap[w.heap.size + 1]? = some (.cells (dg b) 23 (0, 0))) (by kernel_rfl) (by exact hS.out _ HB) (fun hHeld => ?_)
  refine wpAnyH_take (i := 1) (oi := { dst := some 6, op := Op.slice 23 (Operand.tmp 2) none none none, type := 48, pos := "ref.go:17", after := #[], guard := none }) (v := ?_) rfl (by kernel_rfl) (by kernel_rfl) (by kernel_rfl) (fun _ _ _ h => h) (Or.inl ⟨by rfl, ?hy1⟩) hHeld ?rest1
  case hy1 =>
    intro w hSw
    try dsimp only at hSw
    go_simp
    try with_reducible rfl
  try simp only [Act.put, List.setIfInBounds_toArray, List.set_cons_zero, List.set_cons_succ]
  refine wpAnyH_take (i := 3) (oi := { dst := some 8, op := Op.slice 23 (Operand.tmp 3) none none none, type := 48, pos := "ref.go:17", after := #[], guard := none }) (v := ?_) rfl (by kernel_rfl) (by kernel_rfl) (by kernel_rfl) (fun _ _ _ h => h) (Or.inl ⟨by rfl, ?hy3⟩) hHeld ?rest3
  case hy3 =>
    intro w hSw
    try dsimp only at hSw
    go_simp
    try with_reducible rfl
  try simp only [Act.put, List.setIfInBounds_toArray, List.set_cons_zero, List.set_cons_succ]
  refine wpAnyH_ready (rs := [0]) (by kernel_rfl) (by simp) (AllReadyH.cons (o := { dst := some 5, op := Op.buildSlice 48 0 #[], type := 48, pos := "ref.go:17", after := #[], guard := none }) rfl (fun K hK => ?_) AllReadyH.nil)
  refine step_noneB _ (by rfl) (by rfl) ?_
  have hO0 := Out.zero W2.drew W2.drew.heap.size rfl
  have hBd := HB
  have HB2 := HB.alloc HB.size (.cells #[] 5)
  clear HB
  have HB := HB2
  clear HB2
  have ha1 := (hat.out _ HB).1
  refine hK.out _ _ (by exact hS.out _ HB) (fun hHeld' => ?_)
  clear hK K hHeld
  have hHeld := hHeld'
  clear hHeld'
  try simp only [Act.put, List.setIfInBounds_toArray, List.set_cons_zero, List.set_cons_succ]
  refine wpAnyH_ready (rs := [2]) (by kernel_rfl) (by simp) (AllReadyH.cons (o := { dst := some 7, op := Op.call { callee := Callee.builtin Builtin.append, args := #[Operand.tmp 5, Operand.tmp 6], argTypes := #[48, 48] }, type := 48, pos := "ref.go:17", after := #[{ on := 0, ground := Ground.data }, { on := 1, ground := Ground.data }], guard := none }) rfl (fun K hK => ?_) AllReadyH.nil)
  refine step_appB _ (by rfl) (.tmp 5) (.tmp 6) (by rfl) _ [] (some ⟨w.heap.size, 0, none⟩) 32 32 a (by rfl) (by rfl) hO0.1 ha ha1 (by simp) ?_
  intro v4 w4 ho4 hg4
  have hO4 := hO0.step0 ho4 hg4
  clear hO0 ho4 hg4 ha1 HB
  have HB := hBd.trans (hO4.2.2.mono (Nat.le_refl _))
  have hb1 := (hat.out _ HB).2
  refine hK.out _ _ (by exact hS.out _ HB) (fun hHeld' => ?_)
  clear hK K hHeld
  have hHeld := hHeld'
  clear hHeld'
  try simp only [Act.put, List.setIfInBounds_toArray, List.set_cons_zero, List.set_cons_succ]
  refine wpAnyH_ready (rs := [4]) (by kernel_rfl) (by simp) (AllReadyH.cons (o := { dst := some 9, op := Op.call { callee := Callee.builtin Builtin.append, args := #[Operand.tmp 7, Operand.tmp 8], argTypes := #[48, 48] }, type := 48, pos := "ref.go:17", after := #[{ on := 2, ground := Ground.data }, { on := 3, ground := Ground.data }, { on := 2, ground := Ground.chain }], guard := none }) rfl (fun K hK => ?_) AllReadyH.nil)
  refine step_appB _ (by rfl) (.tmp 7) (.tmp 8) (by rfl) _ ([] ++ a) (some ⟨w.heap.size + 1, 0, none⟩) 32 32 b (by rfl) (by rfl) hO4.1 hb hb1 (by simp [ha]) ?_
  intro v5 w5 ho5 hg5
  have hO5 := hO4.step0 ho5 hg5
  clear hO4 ho5 hg5 hb1 HB
  have HB := hBd.trans (hO5.2.2.mono (Nat.le_refl _))
  rw [List.nil_append] at hO5
  obtain ⟨A5, c5, hv, h1, h2, h3, h4, h5⟩ := hO5.join
  injection hv with hv
  rw [hlen.out] at hv h1
  subst hv
  clear hO5 h4 h5
  refine hK.out _ _ (by exact hS.out _ HB) (fun hHeld' => ?_)
  clear hK K hHeld
  have hHeld := hHeld'
  clear hHeld'
  try simp only [Act.put, List.setIfInBounds_toArray, List.set_cons_zero, List.set_cons_succ]
  refine wpAnyH_ready (rs := [5]) (by kernel_rfl) (by simp) (AllReadyH.cons (o := { dst := some 10, op := Op.call { callee := Callee.value (Operand.func 86), args := #[Operand.const (Value.string { data := #[110, 111, 100, 101] }), Operand.tmp 9], argTypes := #[9, 48] }, type := 48, pos := "ref.go:17", after := #[{ on := 4, ground := Ground.data }, { on := 4, ground := Ground.chain }], guard := none }) rfl (fun K hK => ?_) AllReadyH.nil)
  go_simp
  go_at_call 86
  refine (hT.out _ _ _ h3).mono ?_
  unfold JoinC
  rintro e w6 ⟨A6, c6, rfl, k1, k2, k3, hbx, k5⟩
  have hs5 := HB.size
  have HB2 := HB.trans (hbx.mono HB.size)
  clear HB hbx
  have HB := HB2
  clear HB2
  refine hK.out _ _ (by exact hS.out _ HB) (fun hHeld' => ?_)
  clear hK K hHeld
  have hHeld := hHeld'
  clear hHeld'
  try simp only [Act.put, List.setIfInBounds_toArray, List.set_cons_zero, List.set_cons_succ]
  refine wpAnyH_take (i := 6) (oi := { dst := some 4, op := Op.assign (Operand.tmp 10), type := 48, pos := "ref.go:17", after := #[{ on := 5, ground := Ground.data }, { on := 5, ground := Ground.chain }, { on := 0, ground := Ground.phase }, { on := 1, ground := Ground.phase }, { on := 2, ground := Ground.phase }, { on := 3, ground := Ground.phase }, { on := 4, ground := Ground.phase }, { on := 5, ground := Ground.phase }], guard := none }) (v := ?_) rfl (by kernel_rfl) (by kernel_rfl) (by kernel_rfl) (fun _ _ _ h => h) (Or.inl ⟨by rfl, ?hy6⟩) hHeld ?rest6
  case hy6 =>
    intro w hSw
    try dsimp only at hSw
    go_simp
    try with_reducible rfl
  try simp only [Act.put, List.setIfInBounds_toArray, List.set_cons_zero, List.set_cons_succ]
  refine wpAnyH_done (by kernel_rfl) ?_ _
  go_wp2
  refine bodyPost_ret (v := .slice A6 N.length c6) (by simp [results, Tryd.results87, go_sem]) rfl ⟨A6, c6, rfl, k1, k2, k3, hB2.trans (HB.mono hB2.size), fun g o e hne => ⟨Nat.le_trans hB2.size (Nat.le_trans hs5 (k5 g o e hne).1), (k5 g o e hne).2⟩⟩
end Go.Proofs.YtnccbhndlnkboaaDoor
/- The walks of the reference's Length and way. -/
namespace Go.Proofs.YtnccbhndlnkboaaDoor
open Go.RowKit Sha Cdc
set_option linter.unusedVariables false
set_option linter.unusedSimpArgs false

theorem xr_alone {n i : Nat} (hi : i < n) : n ≤ xr i ↔ ¬ i % 2 = 1 ∧ ¬ i + 1 < n := by
  unfold xr
  split <;> omega
set_option maxRecDepth 100000 in
set_option maxHeartbeats 2000000 in
theorem rlen7_any (n i : Nat) (hn : n ≤ 65536) (hi : i < n) (w : World) : Calls Tryd.prog 72 #[.int .i64 n, .int .i64 i] w fun e w' => e = .returned (.int .i64 (lenM n i)) ∧ w' = w := by
  obtain ⟨z, hz⟩ : ∃ z, lenM n i = z := ⟨_, rfl⟩
  have hz9 : z ≤ 65536 := hz ▸ Nat.le_trans (lenM_le n i) hn
  rw [hz]
  go_enter Tryd.func72, Tryd.ntmps72
  go_wp2
  go_loopw [0, 1, 5] (fun s0 s1 s5 wr => ∃ (n' i' k' : Nat), s0 = .int .i64 n' ∧ s1 = .int .i64 i' ∧ s5 = .int .i64 k' ∧ Hid (k' + lenM n' i' = z) ∧ i' < n' ∧ n' ≤ 65536 ∧ wr = w) (fun s0 _ _ _ => (intOf s0).toNat)
  case atStart => exact ⟨n, i, 0, rfl, rfl, rfl, Lib.hid (by rw [Nat.zero_add]; exact hz), hi, hn, rfl⟩
  case round =>
    clear hi hn hz
    obtain ⟨n', i', k', rfl, rfl, rfl, hk, hi', hn', hwr⟩ := hrel
    subst hwr
    by_cases h1 : 1 < n'
    · have d1 : decide ((1 : Int) < (n' : Int)) = true := decide_eq_true (by omega)
      have w1 : IntKind.i64.wrap ((n' : Int) + 1) = (n' : Int) + 1 := IntWalk.i64_in _ (by omega)
      have w2 : IntKind.i64.wrap ((i' : Int) + 1) = (i' : Int) + 1 := IntWalk.i64_in _ (by omega)
      have hk9 : k' ≤ z := by have := hk.out; omega
      have w3 : IntKind.i64.wrap ((k' : Int) + 1) = (k' : Int) + 1 := IntWalk.i64_in _ (by omega)
      have hb1 := lenM_big (i := i') h1
      have hx := xr_alone hi'
      by_cases o : i' % 2 = 1
      · have m1 : (Int.tmod (i' : Int) 2 == 1) = true := by rw [Int.tmod_eq_emod_of_nonneg (by omega)]; simp; omega
        have m2 : ((i' : Int) % 2 == 1) = true := by simp; omega
        have hk2 : Hid (k' + 1 + lenM ((n' + 1) / 2) (i' / 2) = z) := Lib.hid (by have := hk.out; rw [hb1, if_neg (fun e => (hx.1 e).1 o)] at this; omega)
        clear hb1 hx hk
        go_wp2
        go_roundw
        case rel => exact ⟨(n' + 1) / 2, i' / 2, k' + 1, by congr 1, by congr 1, by congr 1, hk2, by omega, by omega, by first | trivial | rfl⟩
        case measure => simp [intOf]; omega
      · have m1 : (Int.tmod (i' : Int) 2 == 1) = false := by rw [Int.tmod_eq_emod_of_nonneg (by omega)]; simp; omega
        have m2 : ((i' : Int) % 2 == 1) = false := by simp; omega
        by_cases l : i' + 1 < n'
        · have d2 : decide ((i' : Int) + 1 < (n' : Int)) = true := decide_eq_true (by omega)
          have hk2 : Hid (k' + 1 + lenM ((n' + 1) / 2) (i' / 2) = z) := Lib.hid (by have := hk.out; rw [hb1, if_neg (fun e => (hx.1 e).2 l)] at this; omega)
          clear hb1 hx hk
          go_wp2
          go_roundw
          case rel => exact ⟨(n' + 1) / 2, i' / 2, k' + 1, by congr 1, by congr 1, by congr 1, hk2, by omega, by omega, by first | trivial | rfl⟩
          case measure => simp [intOf]; omega
        · have d2 : decide ((i' : Int) + 1 < (n' : Int)) = false := decide_eq_false (by omega)
          have hk2 : Hid (k' + lenM ((n' + 1) / 2) (i' / 2) = z) := Lib.hid (by have := hk.out; rw [hb1, if_pos (hx.2 ⟨o, l⟩)] at this; omega)
          clear hb1 hx hk
          go_wp2
          go_roundw
          case rel => exact ⟨(n' + 1) / 2, i' / 2, k', by congr 1, by congr 1, rfl, hk2, by omega, by omega, by first | trivial | rfl⟩
          case measure => simp [intOf]; omega
    · have d1 : decide ((1 : Int) < (n' : Int)) = false := decide_eq_false (by omega)
      have hk2 : Hid (k' = z) := Lib.hid (by have := hk.out; rw [lenM_one h1] at this; omega)
      clear hk
      have e := hk2.out
      subst e
      go_wp2
      go_ret
      exact ⟨rfl, rfl⟩

theorem RowD.one (w : World) (b k : Nat) (hk : k = w.heap.size) (hb : b ≤ k) (d : List UInt8) (h : d.length = 32) : RowD (w.alloc (.cells (dc d).toArray 23)) b (.slice (some ⟨k, 0, none⟩) 1 1) [d] := by
  subst hk
  exact ⟨by rw [dsC_len (fun p hp => by simp at hp; subst hp; exact h)], .inr ⟨_, 1, (dc d).toArray, rfl, hb, heap_alloc_new w _, Nat.le_refl _, by simp [maxLen], by simp [h], by show List.take 32 (dc d) = dc d ++ []; rw [List.append_nil]; exact List.take_of_length_le (Nat.le_of_eq (dc_len h))⟩⟩
theorem RowT.one (w : World) (b k : Nat) (hk : k = w.heap.size) (hb : b ≤ k) (v : Value) : RowT (w.alloc (.cells #[v] 48)) b (.slice (some ⟨k, 0, none⟩) 1 1) [v] := by
  subst hk
  exact ⟨rfl, .inr ⟨_, 1, #[v], rfl, hb, heap_alloc_new w _, Nat.le_refl _, by simp [maxLen], rfl, rfl⟩⟩
theorem built_bs7 (A : Option Addr) (n c : Nat) : Tryd.prog.builtSlice 48 1 [(0, .slice A n c)] = some #[.slice A n c] := by kernel_rfl
theorem row_range7 {W : World} {g : Nat} {cs : List Value} {t : TypeId} {fr : Nat × Nat} (h : W.heap[g]? = some (.cells cs.toArray t fr)) : W.rangeAt g 0 cs := fun j v hj => by
  rw [cell_of_row _ _ _ _ _ _ h, Nat.zero_add]
  simpa using hj
theorem rowDT {W : World} {b b' : Nat} {D T : Value} {ds : List (List UInt8)} {ts : List Value} (h : RowD W b D ds) (k : RowT W b' T ts) : ∀ g, D.ownBlock = some g → T.ownBlock ≠ some g := fun g e => by
  obtain ⟨cs, h'⟩ := h.at e
  exact k.neT h' (by decide)
theorem wpList_appD7 {ops : Array Oper} {rest : List Oper} {o : Oper} {a : Act} {Q : Exit → Act → World → Prop} (w : World) (hgd : o.guard = none) (s x : Operand)
    (ho : o.op = .call { callee := .builtin .append, args := #[s, x], argTypes := #[31, 31] }) (b : Nat) (row : Value) (l l2 : List (List UInt8)) (A : Option Addr) (m c : Nat)
    (hs : a.eval s = row) (hx : a.eval x = .slice A m c) (hm : l2.length = m) (hA : DsAt w A l2) (hown : RowD w b row l) (hp2 : ∀ y ∈ l2, y.length = 32) (hl : l.length ≤ 1000000) (hm2 : m ≤ 1000000) (hb : b ≤ w.heap.size)
    (h : ∀ row' w', RowD w' b row' (l ++ l2) → w.grownBy w' row.ownBlock → (row'.ownBlock = row.ownBlock ∨ row'.ownBlock = some w.heap.size) → wpList Tryd.prog ops Q rest (a.put o.dst row') w') : wpList Tryd.prog ops Q (o :: rest) a w := by
  refine wpList_plain hgd fun K hK => ?_
  obtain ⟨v', w', hr, h2, h3, h5⟩ := run_app_dg w o.type b row l l2 A m c hm hA hown hp2 hl hm2 hb
  unfold Oper.wp execOp
  simp only [ho, resolve, invoke, builtin, Sem.run_bind, Sem.run_pure, Result.andThen_ok, List.map_toArray, List.map_cons, List.map_nil, hs, hx, hr]
  exact hK _ _ (h v' w' h2 h3 h5)
/-- byte slices in blocks that are none of N -/
structure TxN (W : World) (N : List (Option Nat)) (xs : List (List UInt8)) (ts : List Value) : Prop where
  len : xs.length = ts.length
  tx : ∀ (i : Nat) (v : Value) (x : List UInt8), ts[i]? = some v → xs[i]? = some x → TxA W N v x
theorem TxN.below {W W' : World} {N : List (Option Nat)} {xs : List (List UInt8)} {ts : List Value} (h : TxN W N xs ts) (hB : Below W.heap.size W W') : TxN W' N xs ts :=
  ⟨h.len, fun i v x h1 h2 => (h.tx i v x h1 h2).keepX (X := []) (KeepX.of_below hB) (fun g hg => by simp at hg)⟩
theorem TxN.keptD {W W' : World} {D D' T : Value} {xs : List (List UInt8)} {ts : List Value} (h : TxN W [D.ownBlock, T.ownBlock] xs ts) (hg : W.grownBy W' D.ownBlock) (hn : D'.ownBlock = D.ownBlock ∨ D'.ownBlock = some W.heap.size) : TxN W' [D'.ownBlock, T.ownBlock] xs ts :=
  ⟨h.len, fun i v x h1 h2 => (h.tx i v x h1 h2).kept hg (.inr (by simp)) (fun g hm => by
    rcases List.mem_cons.1 hm with hm | hm
    · rcases hn with hn | hn
      · exact .inl (by rw [hm, hn]; simp)
      · rw [hn] at hm; have := Option.some.inj hm; exact .inr (by omega)
    · exact .inl (List.mem_cons_of_mem _ hm))⟩
theorem TxN.keptT {W W' : World} {D T T' : Value} {xs : List (List UInt8)} {ts : List Value} (h : TxN W [D.ownBlock, T.ownBlock] xs ts) (hg : W.grownBy W' T.ownBlock) (hn : T'.ownBlock = T.ownBlock ∨ T'.ownBlock = some W.heap.size) : TxN W' [D.ownBlock, T'.ownBlock] xs ts :=
  ⟨h.len, fun i v x h1 h2 => (h.tx i v x h1 h2).kept hg (.inr (by simp)) (fun g hm => by
    rcases List.mem_cons.1 hm with hm | hm
    · exact .inl (by rw [hm]; simp)
    · rw [List.mem_singleton] at hm
      rcases hn with hn | hn
      · exact .inl (by rw [hm, hn]; simp)
      · rw [hn] at hm; have := Option.some.inj hm; exact .inr (by omega))⟩
theorem TxN.push {W : World} {N : List (Option Nat)} {xs : List (List UInt8)} {ts : List Value} {x : List UInt8} {A : Option Addr} {m c : Nat} (h : TxN W N xs ts) (hm : x.length = m) (hc : m ≤ c) (hx : c ≤ 9223372036854775807) (hat : AtO W A x)
    (hfr : ∀ g o, A = some ⟨g, o, none⟩ → x ≠ [] → g < W.heap.size ∧ some g ∉ N) : TxN W N (xs ++ [x]) (ts ++ [.slice A m c]) := by
  subst hm
  refine ⟨by simp [h.len], fun i v y h1 h2 => ?_⟩
  by_cases hi : i < ts.length
  · rw [List.getElem?_append_left hi] at h1
    rw [List.getElem?_append_left (by rw [h.len]; exact hi)] at h2
    exact h.tx i v y h1 h2
  · have hi' : i = ts.length := by have := (List.getElem?_eq_some_iff.1 h1).1; simp at this; omega
    subst hi'
    rw [List.getElem?_append_right (by omega)] at h1
    rw [List.getElem?_append_right (by rw [h.len]; omega)] at h2
    simp [h.len] at h1 h2
    subst h1 h2
    exact ⟨A, c, rfl, hc, hx, hat, hfr⟩
theorem TxN.pushR {W0 W : World} {b b' : Nat} {D T : Value} {ds : List (List UInt8)} {xs : List (List UInt8)} {ts : List Value} {x : List UInt8} {A : Option Addr} {m c : Nat} (h : TxN W [D.ownBlock, T.ownBlock] xs ts) (hD : RowD W0 b D ds) (hT : RowT W0 b' T ts) (hm : x.length = m) (hc : m ≤ c) (hx : c ≤ 9223372036854775807) (hat : AtO W A x)
    (hfr : ∀ g o, A = some ⟨g, o, none⟩ → x ≠ [] → W0.heap.size ≤ g ∧ g < W.heap.size) : TxN W [D.ownBlock, T.ownBlock] (xs ++ [x]) (ts ++ [.slice A m c]) :=
  h.push hm hc hx hat fun g o e hne => ⟨(hfr g o e hne).2, fun hmem => by
    have h8 := (hfr g o e hne).1
    rcases List.mem_cons.1 hmem with h9 | h9
    · have := (hD.high h9.symm).2; omega
    · rw [List.mem_singleton] at h9
      have := (hT.high h9.symm).2; omega⟩
theorem TxN.none {W : World} {N : List (Option Nat)} {xs : List (List UInt8)} {ts : List Value} (h : TxN W N xs ts) : TxN W N (xs ++ [[]]) (ts ++ [.slice none 0 0]) :=
  h.push rfl (Nat.le_refl _) (by omega) (fun i x hx => by simp at hx) (fun g o e => by cases e)

set_option maxRecDepth 100000 in
set_option maxHeartbeats 16000000 in
theorem rwayL_any (n i : Nat) (hn : n ≤ 65536) (hi : i < n) (leaf : List UInt8) (m : Nat) (hm : leaf.length = m) (hms : m ≤ 1000000) (A : Option Addr) (c : Nat) (path : List (List UInt8)) (k : Nat) (hk : path.length = k) (P : Option Addr) (cp : Nat) (hcp : k ≤ cp) (hks : k ≤ 65536) (full fullT : List (List UInt8)) (hfull : ∃ l, wayM n i (lfD leaf) path = some l ∧ full = lfD leaf :: l.map (·.1) ∧ fullT = lfT leaf :: l.map (·.2)) (w : World) (hlf : AtO w A leaf) (hp : DsAt w P path) (hp32 : ∀ d ∈ path, d.length = 32) :
    Calls Tryd.prog 70 #[.int .i64 n, .int .i64 i, .slice A m c, .slice P k cp] w fun e w' => ∃ (A' : Option Addr) (L c' : Nat) (T : Option Addr) (cT : Nat), e = .returned (.tuple #[.slice A' L c', .slice T L cT]) ∧ full.length = L ∧ L ≤ c' ∧ DsAt w' A' full ∧ LvAt w' T fullT ∧ Below w.heap.size w w' := by
  obtain ⟨N0, hN0⟩ : ∃ N0, (lfT leaf).length = N0 := ⟨_, rfl⟩
  have hN9 : N0 ≤ 1000032 := by rw [← hN0, lfT, mT_len]; omega
  have hT0 : Hid (∀ V, Below w.heap.size w V → Calls Tryd.prog 86 #[.string leafB, .slice A m c] V (JoinC (lfT leaf) V)) := Lib.hid fun V hV => rtext7_any leafB (by decide) leaf m hm (by omega) A c V (hlf.below hV)
  have hZ0 : Hid (∀ V A' c', AtO V A' (lfT leaf) → Calls Tryd.prog 85 #[.slice A' N0 c'] V fun e w' => e = .returned (.agg (dg (lfD leaf))) ∧ Below V.heap.size V w') := Lib.hid fun V A' c' h => rsum_dg (lfT leaf) N0 hN0 (by omega) A' c' V h
  have hNo : Hid (∀ V a b, a.length = 32 → b.length = 32 → Calls Tryd.prog 87 #[.agg (dg a), .agg (dg b)] V (JoinC (ndT a b) V)) := Lib.hid fun V a b ha hb => rtwo_any a b ha hb V
  have hZ : Hid (∀ V x (N : Nat) A' c', x.length = N → N ≤ 1000000 → AtO V A' x → Calls Tryd.prog 85 #[.slice A' N c'] V fun e w' => e = .returned (.agg (dg (sha x))) ∧ Below V.heap.size V w') := Lib.hid fun V x N A' c' h1 h2 h => rsum_dg x N h1 (by omega) A' c' V h
  have h0 : (lfD leaf).length = 32 := lfD_len leaf
  obtain ⟨d0, hd0⟩ : ∃ d0, lfD leaf = d0 := ⟨_, rfl⟩
  obtain ⟨t0, ht0⟩ : ∃ t0, lfT leaf = t0 := ⟨_, rfl⟩
  rw [hd0] at hZ0 h0 hfull
  rw [ht0] at hT0 hZ0 hN0 hfull
  have pD0 := Lib.hid (builtSlice_d1 d0 h0)
  have hN0h := Lib.hid hN0
  have h0h := Lib.hid h0
  have hfl := Lib.hid hfull
  have hph := Lib.hid hp
  have hp3 := Lib.hid hp32
  have hkh := Lib.hid hk
  clear hd0 ht0 hlf hp hp32 hfull hm hk hN0 h0
  go_enter Tryd.func70, Tryd.ntmps70
  go_wp2_with fail
  refine (hT0.out _ (Below.refl _ _)).mono ?_
  unfold JoinC
  rw [hN0h.out]
  rintro e w2 ⟨A2, c2, rfl, h21, h22, h23, hb2, h24⟩
  replace h24 := Lib.hid h24
  go_wp2_with fail
  refine (hZ0.out _ _ _ h23).mono ?_
  rintro e w3 ⟨rfl, hb3⟩
  have HB3 := hb2.trans (hb3.mono hb2.size)
  have ha9 := HB3.size
  have hat3 : AtO w3 A2 t0 := h23.below hb3
  have hfr3 : Hid (∀ g o, A2 = some ⟨g, o, none⟩ → t0 ≠ [] → g < w3.heap.size) := Lib.hid fun g o e hne => Nat.lt_of_lt_of_le (h24.out g o e hne).2 hb3.size
  clear hb2 hb3 hT0 hZ0 h23 h24
  go_wp2_with (first
    | (refine wpList_built (by rfl) 31 23 1 #[(0, .tmp 18)] (by rfl) Tryd.underlying31 (dc d0).toArray (by simp only [List.map_toArray, List.map_cons, List.map_nil]; exact pD0.out) ?_)
    | (refine wpList_built (by rfl) 75 48 1 #[(0, .tmp 20)] (by rfl) Tryd.underlying75 #[.slice A2 N0 c2] (by simp only [List.map_toArray, List.map_cons, List.map_nil]; exact built_bs7 _ _ _) ?_))
  have hrD := (RowD.one w3 w.heap.size w3.heap.size rfl ha9 d0 h0h.out).below (blow1 _ (.cells #[.slice A2 N0 c2] 48))
  have hrT := RowT.one (w3.alloc (.cells (dc d0).toArray 23)) w.heap.size (w3.heap.size + 1) (by simp) (by omega) (.slice A2 N0 c2)
  have HB4 : Below w.heap.size w ((w3.alloc (.cells (dc d0).toArray 23)).alloc (.cells #[.slice A2 N0 c2] 48)) := (HB3.alloc HB3.size _).alloc (by simp; omega) _
  have hB34 : Below w3.heap.size w3 ((w3.alloc (.cells (dc d0).toArray 23)).alloc (.cells #[.slice A2 N0 c2] 48)) := ((Below.refl _ _).alloc (Nat.le_refl _) _).alloc (by simp) _
  have hsz4 : w3.heap.size ≤ ((w3.alloc (.cells (dc d0).toArray 23)).alloc (.cells #[.slice A2 N0 c2] 48)).heap.size := hB34.size
  generalize (w3.alloc (.cells (dc d0).toArray 23)).alloc (.cells #[.slice A2 N0 c2] 48) = W4 at hrD hrT HB4 hB34 hsz4 ⊢
  have hTx4 : Hid (TxN W4 [(Value.slice (some ⟨w3.heap.size, 0, none⟩) 1 1).ownBlock, (Value.slice (some ⟨w3.heap.size + 1, 0, none⟩) 1 1).ownBlock] [t0] [.slice A2 N0 c2]) := Lib.hid (TxN.push (xs := []) (ts := []) ⟨rfl, fun i v x h1 _ => by simp at h1⟩ hN0h.out h21 h22 (hat3.below hB34) (fun g o e hne => by
    have h9 := hfr3.out g o e hne
    refine ⟨by omega, fun hm => ?_⟩
    rcases List.mem_cons.1 hm with hm | hm
    · have h10 : g = w3.heap.size := Option.some.inj hm
      omega
    · rw [List.mem_singleton] at hm
      have h10 : g = w3.heap.size + 1 := Option.some.inj hm
      omega))
  clear hB34 hsz4 hat3 hfr3
  go_loopw [0, 1, 10, 11, 12, 13] (fun s0 s1 s10 s11 s12 s13 wr => ∃ (n' i' k' a : Nat) (acc : List (List UInt8)) (dl : List UInt8) (ts : List Value) (xs : List (List UInt8)), s0 = .int .i64 n' ∧ s1 = .int .i64 i' ∧ s13 = .int .i64 k' ∧ RowD wr w.heap.size s11 (acc ++ [dl]) ∧ acc.length = a ∧ RowT wr w.heap.size s12 ts ∧ ts.length ≤ a + 1 ∧ Hid (ts.length = a + 1 ∧ TxN wr [s11.ownBlock, s12.ownBlock] xs ts) ∧ Hid (∃ l', wayM n' i' dl (path.drop k') = some l' ∧ acc ++ dl :: l'.map (·.1) = full ∧ xs ++ l'.map (·.2) = fullT) ∧ Hid (∀ d ∈ acc ++ [dl], d.length = 32) ∧ i' < n' ∧ n' ≤ 65536 ∧ k' ≤ k ∧ a + n' ≤ 65537 ∧ Below w.heap.size w wr) (fun s0 _ _ _ _ _ _ => (intOf s0).toNat)
  case atStart =>
    obtain ⟨l, hl1, hl2, hl5⟩ := hfl.out
    exact ⟨n, i, 0, 0, [], d0, [.slice A2 N0 c2], [t0], rfl, rfl, rfl, hrD, rfl, hrT, by simp, Lib.hid ⟨rfl, hTx4.out⟩, Lib.hid ⟨l, by rw [List.drop_zero]; exact hl1, hl2.symm, hl5.symm⟩, Lib.hid (fun d hd => by simp at hd; subst hd; exact h0h.out), hi, hn, Nat.zero_le _, by omega, HB4⟩
  case round =>
    clear hrD hrT HB4 HB3 ha9 hi hn pD0 h0h hfl hTx4
    obtain ⟨n', i', k', a, acc, dl, ts, xs, rfl, rfl, rfl, hrow, ha, hrT, hts, hTx, HE, h32, hi', hn', hk', han, HB⟩ := hrel
    have hlen : (acc ++ [dl]).length = a + 1 := by rw [List.length_append, ha]; rfl
    obtain ⟨A1, c1, hr1, hc1, hds1⟩ := hrow.ds h32.out
    rw [hlen] at hr1 hc1
    subst hr1
    by_cases h1 : 1 < n'
    · have d1 : decide ((1 : Int) < (n' : Int)) = true := decide_eq_true (by omega)
      obtain ⟨g1, o1, rfl, hg1, hrg⟩ := hds1 a dl (by rw [List.getElem?_append_right (by omega), ha]; simp)
      have hdl := h32.out dl (by simp)
      have hrgh := Lib.hid hrg
      have pd := Lib.hid (dc_info hdl)
      have pd2 := Lib.hid (dg_info dl hdl)
      have po := Lib.hid (dg_one dl)
      have ps : Hid (32 = (dg dl).size) := Lib.hid (by rw [dg_size, hdl])
      have k4 : (a : Int) < (a : Int) + 1 := by omega
      have k2 : (0 : Int) ≤ (a : Int) := by omega
      have w1 : IntKind.i64.wrap ((n' : Int) + 1) = (n' : Int) + 1 := IntWalk.i64_in _ (by omega)
      have w2 : IntKind.i64.wrap ((i' : Int) + 1) = (i' : Int) + 1 := IntWalk.i64_in _ (by omega)
      have w3 : IntKind.i64.wrap ((k' : Int) + 1) = (k' : Int) + 1 := IntWalk.i64_in _ (by omega)
      have hx := xr_alone hi'
      have hrowh := Lib.hid hrow
      have hrTh := Lib.hid hrT
      have hBh := Lib.hid HB
      have hdlh := Lib.hid hdl
      have hlenh := Lib.hid hlen
      have ha5 : a ≤ 65536 := by omega
      clear hds1 hrg hrow hrT HB hdl hlen
      by_cases o : i' % 2 = 1
      · have m1 : (Int.tmod (i' : Int) 2 == 1) = true := by rw [Int.tmod_eq_emod_of_nonneg (by omega)]; simp; omega
        have m2 : ((i' : Int) % 2 == 1) = true := by simp; omega
        have hna : ¬ n' ≤ xr i' := fun e => (hx.1 e).1 o
        obtain ⟨l', hl1, hl2, hl5⟩ := HE.out
        obtain ⟨q0, hq0⟩ : ∃ q0, path[k']? = some q0 := by
          cases hh : path[k']? with
          | some q0 => exact ⟨q0, rfl⟩
          | none =>
            exfalso
            rw [List.drop_of_length_le (List.getElem?_eq_none_iff.1 hh), wayM_short h1 hna] at hl1
            cases hl1
        have hkk : k' < k := by have := (List.getElem?_eq_some_iff.1 hq0).1; rw [hkh.out] at this; exact this
        have hdr : path.drop k' = q0 :: path.drop (k' + 1) := by
          obtain ⟨h8, h9⟩ := List.getElem?_eq_some_iff.1 hq0
          rw [← h9, List.drop_eq_getElem_cons h8]
        rw [hdr, wayM_node h1 hna] at hl1
        obtain ⟨l2, hl3, hl4⟩ := Option.map_eq_some_iff.1 hl1
        obtain ⟨T9, hT9⟩ : ∃ T9, ndT q0 dl = T9 := ⟨_, rfl⟩
        have ho2 : ¬ i' % 2 = 0 := by omega
        rw [if_neg ho2, hT9] at hl3 hl4
        have HE2 : Hid (∃ l', wayM ((n' + 1) / 2) (i' / 2) (sha T9) (path.drop (k' + 1)) = some l' ∧ (acc ++ [dl]) ++ sha T9 :: l'.map (·.1) = full ∧ (xs ++ [T9]) ++ l'.map (·.2) = fullT) := Lib.hid ⟨l2, hl3, by rw [← hl2, ← hl4]; simp, by rw [← hl5, ← hl4]; simp⟩
        have hq32 := hp3.out q0 (List.mem_of_getElem? hq0)
        obtain ⟨gp, op, rfl, hgp, hrp⟩ := hph.out k' q0 hq0
        have hrph : Hid (∀ V, Below w.heap.size w V → V.rangeAt gp (op + k' * 32) (dc q0)) := Lib.hid fun V hV => range_belowB hrp hgp hV
        have pq := Lib.hid (dc_info hq32)
        have hT9l : T9.length = 96 := by rw [← hT9, ndT, mT_len, List.length_append, hq32, hdlh.out]
        have hNc : Hid (∀ V, Calls Tryd.prog 87 #[.agg (dg q0), .agg (dg dl)] V (JoinC T9 V)) := Lib.hid fun V => hT9 ▸ hNo.out V q0 dl hq32 hdlh.out
        have hZc : Hid (∀ V A' c', AtO V A' T9 → Calls Tryd.prog 85 #[.slice A' 96 c'] V fun e w' => e = .returned (.agg (dg (sha T9))) ∧ Below V.heap.size V w') := Lib.hid fun V A' c' h => hZ.out V T9 96 A' c' hT9l (by decide) h
        have hs32 : (sha T9).length = 32 := sha_len T9
        obtain ⟨dn, hdn⟩ : ∃ dn, sha T9 = dn := ⟨_, rfl⟩
        rw [hdn] at HE2 hZc hs32
        have hTl := Lib.hid hT9l
        have hs3h := Lib.hid hs32
        have pDn := Lib.hid (builtSlice_d1 dn hs32)
        clear hl1 hl2 hl3 hl4 hl5 hdr hq0 hq32 hrp hT9 hdn hna hx HE hT9l hs32 hgp
        go_wp2_with (first
          | (refine wpList_load_mid (by rfl) 23 (.tmp 28) (by rfl) g1 (o1 + a * 32) (by rfl) (dc dl) _ hrgh.out Tryd.underlying23 (by rfl) pd.out ?_)
          | (refine wpList_new_row (by rfl) 23 (.tmp 14) (.tmp 29) (by rfl) (by rfl) (dg dl) (by rfl) (by rfl) 23 _ pd2 ps po ?_; intro w5 hd5 hz5 hB5; replace hd5 := Lib.hid hd5; replace hz5 := Lib.hid hz5))
        have HB5 := Lib.hid (hBh.out.trans (hB5.mono hBh.out.size))
        have hlt5 := hz5.out
        have hS : Hid (∀ V, Below w5.heap.size w5 V → V.rangeAt gp (op + k' * 32) (dc q0) ∧ V.rangeAt wr.heap.size 0 (dc dl)) := Lib.hid fun V hV => ⟨hrph.out V (HB5.out.trans (hV.mono HB5.out.size)), row_range7 (cs := dc dl) ((hV.block wr.heap.size (Array.getElem?_eq_some_iff.1 hd5.out).1).trans hd5.out)⟩
        have hrw5 := Lib.hid (hrowh.out.below hB5)
        have hrT5 := Lib.hid (hrTh.out.below hB5)
        have hTx5 := Lib.hid (hTx.out.2.below hB5)
        clear hB5
        have HBn : Below w5.heap.size w5 w5.drew := (Below.refl _ _).drew
        refine wp_region_held_drew (S := fun w' => w'.rangeAt gp (op + k' * 32) (dc q0) ∧ w'.rangeAt wr.heap.size 0 (dc dl)) (by kernel_rfl) (by exact hS.out _ HBn) (fun hHeld => ?_)
        refine wpAnyH_take (i := 0) (oi := { dst := some 42, op := Op.move (Operand.tmp 3), type := 31, pos := "ref.go:96", after := #[], guard := none }) (v := ?_) rfl (by kernel_rfl) (by kernel_rfl) (by kernel_rfl) (fun _ _ _ h => h) (Or.inl ⟨by rfl, ?hyaa0⟩) hHeld ?restaa0
        case hyaa0 =>
          intro w hSw
          try dsimp only at hSw
          go_simp
          try with_reducible rfl
        try simp only [Act.put, List.setIfInBounds_toArray, List.set_cons_zero, List.set_cons_succ]
        refine wpAnyH_take (i := 1) (oi := { dst := some 43, op := Op.move (Operand.tmp 13), type := 3, pos := "ref.go:96", after := #[], guard := none }) (v := ?_) rfl (by kernel_rfl) (by kernel_rfl) (by kernel_rfl) (fun _ _ _ h => h) (Or.inl ⟨by rfl, ?hyaa1⟩) hHeld ?restaa1
        case hyaa1 =>
          intro w hSw
          try dsimp only at hSw
          go_simp
          try with_reducible rfl
        try simp only [Act.put, List.setIfInBounds_toArray, List.set_cons_zero, List.set_cons_succ]
        refine wpAnyH_take (i := 2) (oi := { dst := some 44, op := Op.indexAddr 31 (Operand.tmp 42) (Operand.tmp 43), type := 0, pos := "ref.go:96", after := #[{ on := 0, ground := Ground.data }, { on := 1, ground := Ground.data }], guard := none }) (v := ?_) rfl (by kernel_rfl) (by kernel_rfl) (by kernel_rfl) (fun _ _ _ h => h) (Or.inl ⟨by rfl, ?hyaa2⟩) hHeld ?restaa2
        case hyaa2 =>
          intro w hSw
          try dsimp only at hSw
          go_simp
          try with_reducible rfl
        try simp only [Act.put, List.setIfInBounds_toArray, List.set_cons_zero, List.set_cons_succ]
        refine wpAnyH_take (i := 3) (oi := { dst := some 45, op := Op.load 23 (Operand.tmp 44), type := 23, pos := "ref.go:96", after := #[{ on := 2, ground := Ground.data }], guard := none }) (v := _) rfl (by kernel_rfl) (by kernel_rfl) (by kernel_rfl) (fun _ _ _ h => h) (yieldsIf_load_mid (by rfl) 23 (.tmp 44) rfl gp (op + k' * 32) rfl (dc q0) _ (fun _ h => h.1) Tryd.underlying23 rfl pq.out) hHeld ?_
        try simp only [Act.put, List.setIfInBounds_toArray, List.set_cons_zero, List.set_cons_succ]
        refine wpAnyH_take (i := 4) (oi := { dst := some 46, op := Op.load 23 (Operand.tmp 14), type := 23, pos := "ref.go:96", after := #[], guard := none }) (v := _) rfl (by kernel_rfl) (by kernel_rfl) (by kernel_rfl) (fun _ _ _ h => h) (yieldsIf_load_mid (by rfl) 23 (.tmp 14) rfl wr.heap.size 0 rfl (dc dl) _ (fun _ h => h.2) Tryd.underlying23 rfl pd.out) hHeld ?_
        try simp only [Act.put, List.setIfInBounds_toArray, List.set_cons_zero, List.set_cons_succ]
        refine wpAnyH_ready (rs := [5]) (by kernel_rfl) (by simp) (AllReadyH.cons (o := { dst := some 47, op := Op.call { callee := Callee.value (Operand.func 87), args := #[Operand.tmp 45, Operand.tmp 46], argTypes := #[23, 23] }, type := 48, pos := "ref.go:96", after := #[{ on := 3, ground := Ground.data }, { on := 4, ground := Ground.data }], guard := none }) rfl (fun K hK => ?_) AllReadyH.nil)
        go_simp
        go_at_call 87
        refine (hNc.out _).mono ?_
        unfold JoinC
        rw [hTl.out]
        rintro e w6 ⟨A6, c6, rfl, h61, h62, h63, hb6, h64⟩
        have h65 : Hid (∀ g o, A6 = some ⟨g, o, none⟩ → T9 ≠ [] → w5.heap.size ≤ g ∧ g < w6.heap.size) := Lib.hid fun g o e hne => ⟨Nat.le_trans HBn.size (h64 g o e hne).1, (h64 g o e hne).2⟩
        clear h64
        have HB2 := HBn.trans (hb6.mono HBn.size)
        clear HBn hb6
        have HBn := HB2
        clear HB2
        replace h63 := Lib.hid h63
        refine hK.out _ _ (by exact hS.out _ HBn) (fun hHeld' => ?_)
        clear hK K hHeld
        have hHeld := hHeld'
        clear hHeld'
        try simp only [Act.put, List.setIfInBounds_toArray, List.set_cons_zero, List.set_cons_succ]
        refine wpAnyH_take (i := 6) (oi := { dst := some 10, op := Op.assign (Operand.tmp 47), type := 48, pos := "ref.go:96", after := #[{ on := 5, ground := Ground.data }, { on := 5, ground := Ground.chain }, { on := 0, ground := Ground.phase }, { on := 1, ground := Ground.phase }, { on := 2, ground := Ground.phase }, { on := 3, ground := Ground.phase }, { on := 4, ground := Ground.phase }, { on := 5, ground := Ground.phase }], guard := none }) (v := ?_) rfl (by kernel_rfl) (by kernel_rfl) (by kernel_rfl) (fun _ _ _ h => h) (Or.inl ⟨by rfl, ?hyaa6⟩) hHeld ?restaa6
        case hyaa6 =>
          intro w hSw
          try dsimp only at hSw
          go_simp
          try with_reducible rfl
        try simp only [Act.put, List.setIfInBounds_toArray, List.set_cons_zero, List.set_cons_succ]
        refine wpAnyH_done (by kernel_rfl) ?_ _
        have hrw6 := Lib.hid (hrw5.out.below HBn)
        have hrT6 := Lib.hid (hrT5.out.below HBn)
        have HB6 := Lib.hid (HB5.out.trans (HBn.mono HB5.out.size))
        have hTx6 := Lib.hid ((hTx5.out.below HBn).pushR hrw5.out hrT5.out hTl.out h61 h62 h63.out h65.out)
        clear hHeld HBn hrw5 hrT5 hS hTx5 h65
        go_wp2_with fail
        refine (hZc.out _ _ _ h63.out).mono ?_
        rintro e w7 ⟨rfl, hb7⟩
        have hrw7 := Lib.hid (hrw6.out.below hb7)
        have hrT7 := Lib.hid (hrT6.out.below hb7)
        have HB7 := Lib.hid (HB6.out.trans (hb7.mono HB6.out.size))
        have hTx8 := Lib.hid ((hTx6.out.below hb7).below (blow1 w7 (.cells (dc dn).toArray 23)))
        clear hTx6
        have n8 := Lib.hid (dsAt_row (l := [dn]) (by simpa using hs3h.out) (heap_alloc_new w7 (.cells (dc dn).toArray 23)) (by simp [dsC]))
        have hrw8 := Lib.hid (hrw7.out.below (blow1 w7 (.cells (dc dn).toArray 23)))
        have hrT8 := Lib.hid (hrT7.out.below (blow1 w7 (.cells (dc dn).toArray 23)))
        have HB8 := Lib.hid (HB7.out.alloc HB7.out.size (.cells (dc dn).toArray 23))
        clear hb7 hrw6 hrT6 HB6 h63
        go_wp2_with (first
          | (refine wpList_built (by rfl) 31 23 1 #[(0, .tmp 56)] (by rfl) Tryd.underlying31 (dc dn).toArray (by simp only [List.map_toArray, List.map_cons, List.map_nil]; exact pDn.out) ?_)
          | (refine wpList_appD7 _ (by rfl) (.tmp 54) (.tmp 57) (by rfl) w.heap.size _ (acc ++ [dl]) [dn] (some ⟨w7.heap.size, 0, none⟩) 1 1 (by rfl) (by rfl) rfl n8.out hrw8.out (by simpa using hs3h.out) (by rw [hlenh.out]; omega) (by decide) HB8.out.size ?_; intro row9 w9 hrow9 hg9 hn9; have hTx9 := hTx8.out.keptD hg9 hn9; have hTx10 := Lib.hid (hTx9.below (blow1 w9 (.cells #[.slice A6 96 c6] 48))); clear hTx9 hn9; have hrT9 := hrT8.out.keptG hg9 (fun g e e2 => rowDT hrw8.out hrT8.out g e2 e); have HB9 := RowD.grown hrw8.out HB8.out (Nat.le_refl _) HB8.out.size hg9; have hrT10 := Lib.hid (hrT9.below (blow1 w9 (.cells #[.slice A6 96 c6] 48))); have hrw10 := Lib.hid (hrow9.below (blow1 w9 (.cells #[.slice A6 96 c6] 48))); have HB10 := Lib.hid (HB9.alloc HB9.size (.cells #[.slice A6 96 c6] 48)); have hc10 : (w9.alloc (.cells #[.slice A6 96 c6] 48)).cell? ⟨w9.heap.size, 0, none⟩ = some (.slice A6 96 c6) := (by rw [cell_of_row _ _ _ _ _ _ (heap_alloc_new w9 _)]; rfl); clear hrow9 hg9 hrT9 HB9)
          | (refine wpList_built (by rfl) 75 48 1 #[(0, .tmp 60)] (by rfl) Tryd.underlying75 #[.slice A6 96 c6] (by simp only [List.map_toArray, List.map_cons, List.map_nil]; exact built_bs7 _ _ _) ?_)
          | (refine wpList_appT _ (by rfl) (.tmp 59) (.tmp 61) (by rfl) w.heap.size _ ts w9.heap.size 96 c6 A6 (by rfl) (by rfl) hc10 hrT10.out (by omega) HB10.out.size ?_; intro row11 w11 hrT11 hg11 hn11; have hTx11 := Lib.hid (hTx10.out.keptT hg11 hn11); have hrw11 := hrw10.out.keptG hg11 (fun g e e2 => rowDT hrw10.out hrT10.out g e e2); have HB11 := RowT.grown hrT10.out HB10.out (Nat.le_refl _) HB10.out.size hg11))
        go_roundw
        case rel => exact ⟨(n' + 1) / 2, i' / 2, k' + 1, a + 1, acc ++ [dl], dn, ts ++ [.slice A6 96 c6], xs ++ [T9], by congr 1, by congr 1, by congr 1, hrw11, hlenh.out, hrT11, by simp; omega, Lib.hid ⟨by simp [hTx.out.1], hTx11.out⟩, HE2, Lib.hid (fun d hd => by rcases List.mem_append.1 hd with h | h; exact h32.out d h; simp at h; subst h; exact hs3h.out), by omega, by omega, by omega, by omega, HB11⟩
        case measure => simp [intOf]; omega
      · have m1 : (Int.tmod (i' : Int) 2 == 1) = false := by rw [Int.tmod_eq_emod_of_nonneg (by omega)]; simp; omega
        have m2 : ((i' : Int) % 2 == 1) = false := by simp; omega
        by_cases l : i' + 1 < n'
        · have d2 : decide ((i' : Int) + 1 < (n' : Int)) = true := decide_eq_true (by omega)
          have hna : ¬ n' ≤ xr i' := fun e => (hx.1 e).2 l
          obtain ⟨l', hl1, hl2, hl5⟩ := HE.out
          obtain ⟨q0, hq0⟩ : ∃ q0, path[k']? = some q0 := by
            cases hh : path[k']? with
            | some q0 => exact ⟨q0, rfl⟩
            | none =>
              exfalso
              rw [List.drop_of_length_le (List.getElem?_eq_none_iff.1 hh), wayM_short h1 hna] at hl1
              cases hl1
          have hkk : k' < k := by have := (List.getElem?_eq_some_iff.1 hq0).1; rw [hkh.out] at this; exact this
          have hdr : path.drop k' = q0 :: path.drop (k' + 1) := by
            obtain ⟨h8, h9⟩ := List.getElem?_eq_some_iff.1 hq0
            rw [← h9, List.drop_eq_getElem_cons h8]
          rw [hdr, wayM_node h1 hna] at hl1
          obtain ⟨l2, hl3, hl4⟩ := Option.map_eq_some_iff.1 hl1
          obtain ⟨T9, hT9⟩ : ∃ T9, ndT dl q0 = T9 := ⟨_, rfl⟩
          have ho2 : i' % 2 = 0 := by omega
          rw [if_pos ho2, hT9] at hl3 hl4
          have HE2 : Hid (∃ l', wayM ((n' + 1) / 2) (i' / 2) (sha T9) (path.drop (k' + 1)) = some l' ∧ (acc ++ [dl]) ++ sha T9 :: l'.map (·.1) = full ∧ (xs ++ [T9]) ++ l'.map (·.2) = fullT) := Lib.hid ⟨l2, hl3, by rw [← hl2, ← hl4]; simp, by rw [← hl5, ← hl4]; simp⟩
          have hq32 := hp3.out q0 (List.mem_of_getElem? hq0)
          obtain ⟨gp, op, rfl, hgp, hrp⟩ := hph.out k' q0 hq0
          have hrph : Hid (∀ V, Below w.heap.size w V → V.rangeAt gp (op + k' * 32) (dc q0)) := Lib.hid fun V hV => range_belowB hrp hgp hV
          have pq := Lib.hid (dc_info hq32)
          have hT9l : T9.length = 96 := by rw [← hT9, ndT, mT_len, List.length_append, hq32, hdlh.out]
          have hNc : Hid (∀ V, Calls Tryd.prog 87 #[.agg (dg dl), .agg (dg q0)] V (JoinC T9 V)) := Lib.hid fun V => hT9 ▸ hNo.out V dl q0 hdlh.out hq32
          have hZc : Hid (∀ V A' c', AtO V A' T9 → Calls Tryd.prog 85 #[.slice A' 96 c'] V fun e w' => e = .returned (.agg (dg (sha T9))) ∧ Below V.heap.size V w') := Lib.hid fun V A' c' h => hZ.out V T9 96 A' c' hT9l (by decide) h
          have hs32 : (sha T9).length = 32 := sha_len T9
          obtain ⟨dn, hdn⟩ : ∃ dn, sha T9 = dn := ⟨_, rfl⟩
          rw [hdn] at HE2 hZc hs32
          have hTl := Lib.hid hT9l
          have hs3h := Lib.hid hs32
          have pDn := Lib.hid (builtSlice_d1 dn hs32)
          clear hl1 hl2 hl3 hl4 hl5 hdr hq0 hq32 hrp hT9 hdn hna hx HE hT9l hs32 hgp
          go_wp2_with (first
            | (refine wpList_load_mid (by rfl) 23 (.tmp 28) (by rfl) g1 (o1 + a * 32) (by rfl) (dc dl) _ hrgh.out Tryd.underlying23 (by rfl) pd.out ?_)
            | (refine wpList_new_row (by rfl) 23 (.tmp 14) (.tmp 29) (by rfl) (by rfl) (dg dl) (by rfl) (by rfl) 23 _ pd2 ps po ?_; intro w5 hd5 hz5 hB5; replace hd5 := Lib.hid hd5; replace hz5 := Lib.hid hz5))
          have HB5 := Lib.hid (hBh.out.trans (hB5.mono hBh.out.size))
          have hlt5 := hz5.out
          have hS : Hid (∀ V, Below w5.heap.size w5 V → V.rangeAt gp (op + k' * 32) (dc q0) ∧ V.rangeAt wr.heap.size 0 (dc dl)) := Lib.hid fun V hV => ⟨hrph.out V (HB5.out.trans (hV.mono HB5.out.size)), row_range7 (cs := dc dl) ((hV.block wr.heap.size (Array.getElem?_eq_some_iff.1 hd5.out).1).trans hd5.out)⟩
          have hrw5 := Lib.hid (hrowh.out.below hB5)
          have hrT5 := Lib.hid (hrTh.out.below hB5)
          have hTx5 := Lib.hid (hTx.out.2.below hB5)
          clear hB5
          have HBn : Below w5.heap.size w5 w5.drew := (Below.refl _ _).drew
          refine wp_region_held_drew (S := fun w' => w'.rangeAt gp (op + k' * 32) (dc q0) ∧ w'.rangeAt wr.heap.size 0 (dc dl)) (by kernel_rfl) (by exact hS.out _ HBn) (fun hHeld => ?_)
          refine wpAnyH_take (i := 0) (oi := { dst := some 48, op := Op.load 23 (Operand.tmp 14), type := 23, pos := "ref.go:98", after := #[], guard := none }) (v := _) rfl (by kernel_rfl) (by kernel_rfl) (by kernel_rfl) (fun _ _ _ h => h) (yieldsIf_load_mid (by rfl) 23 (.tmp 14) rfl wr.heap.size 0 rfl (dc dl) _ (fun _ h => h.2) Tryd.underlying23 rfl pd.out) hHeld ?_
          try simp only [Act.put, List.setIfInBounds_toArray, List.set_cons_zero, List.set_cons_succ]
          refine wpAnyH_take (i := 1) (oi := { dst := some 49, op := Op.move (Operand.tmp 3), type := 31, pos := "ref.go:98", after := #[], guard := none }) (v := ?_) rfl (by kernel_rfl) (by kernel_rfl) (by kernel_rfl) (fun _ _ _ h => h) (Or.inl ⟨by rfl, ?hyaaa1⟩) hHeld ?restaaa1
          case hyaaa1 =>
            intro w hSw
            try dsimp only at hSw
            go_simp
            try with_reducible rfl
          try simp only [Act.put, List.setIfInBounds_toArray, List.set_cons_zero, List.set_cons_succ]
          refine wpAnyH_take (i := 2) (oi := { dst := some 50, op := Op.move (Operand.tmp 13), type := 3, pos := "ref.go:98", after := #[], guard := none }) (v := ?_) rfl (by kernel_rfl) (by kernel_rfl) (by kernel_rfl) (fun _ _ _ h => h) (Or.inl ⟨by rfl, ?hyaaa2⟩) hHeld ?restaaa2
          case hyaaa2 =>
            intro w hSw
            try dsimp only at hSw
            go_simp
            try with_reducible rfl
          try simp only [Act.put, List.setIfInBounds_toArray, List.set_cons_zero, List.set_cons_succ]
          refine wpAnyH_take (i := 3) (oi := { dst := some 51, op := Op.indexAddr 31 (Operand.tmp 49) (Operand.tmp 50), type := 0, pos := "ref.go:98", after := #[{ on := 1, ground := Ground.data }, { on := 2, ground := Ground.data }], guard := none }) (v := ?_) rfl (by kernel_rfl) (by kernel_rfl) (by kernel_rfl) (fun _ _ _ h => h) (Or.inl ⟨by rfl, ?hyaaa3⟩) hHeld ?restaaa3
          case hyaaa3 =>
            intro w hSw
            try dsimp only at hSw
            go_simp
            try with_reducible rfl
          try simp only [Act.put, List.setIfInBounds_toArray, List.set_cons_zero, List.set_cons_succ]
          refine wpAnyH_take (i := 4) (oi := { dst := some 52, op := Op.load 23 (Operand.tmp 51), type := 23, pos := "ref.go:98", after := #[{ on := 3, ground := Ground.data }], guard := none }) (v := _) rfl (by kernel_rfl) (by kernel_rfl) (by kernel_rfl) (fun _ _ _ h => h) (yieldsIf_load_mid (by rfl) 23 (.tmp 51) rfl gp (op + k' * 32) rfl (dc q0) _ (fun _ h => h.1) Tryd.underlying23 rfl pq.out) hHeld ?_
          try simp only [Act.put, List.setIfInBounds_toArray, List.set_cons_zero, List.set_cons_succ]
          refine wpAnyH_ready (rs := [5]) (by kernel_rfl) (by simp) (AllReadyH.cons (o := { dst := some 53, op := Op.call { callee := Callee.value (Operand.func 87), args := #[Operand.tmp 48, Operand.tmp 52], argTypes := #[23, 23] }, type := 48, pos := "ref.go:98", after := #[{ on := 0, ground := Ground.data }, { on := 4, ground := Ground.data }], guard := none }) rfl (fun K hK => ?_) AllReadyH.nil)
          go_simp
          go_at_call 87
          refine (hNc.out _).mono ?_
          unfold JoinC
          rw [hTl.out]
          rintro e w6 ⟨A6, c6, rfl, h61, h62, h63, hb6, h64⟩
          have h65 : Hid (∀ g o, A6 = some ⟨g, o, none⟩ → T9 ≠ [] → w5.heap.size ≤ g ∧ g < w6.heap.size) := Lib.hid fun g o e hne => ⟨Nat.le_trans HBn.size (h64 g o e hne).1, (h64 g o e hne).2⟩
          clear h64
          have HB2 := HBn.trans (hb6.mono HBn.size)
          clear HBn hb6
          have HBn := HB2
          clear HB2
          replace h63 := Lib.hid h63
          refine hK.out _ _ (by exact hS.out _ HBn) (fun hHeld' => ?_)
          clear hK K hHeld
          have hHeld := hHeld'
          clear hHeld'
          try simp only [Act.put, List.setIfInBounds_toArray, List.set_cons_zero, List.set_cons_succ]
          refine wpAnyH_take (i := 6) (oi := { dst := some 10, op := Op.assign (Operand.tmp 53), type := 48, pos := "ref.go:98", after := #[{ on := 5, ground := Ground.data }, { on := 5, ground := Ground.chain }, { on := 0, ground := Ground.phase }, { on := 1, ground := Ground.phase }, { on := 2, ground := Ground.phase }, { on := 3, ground := Ground.phase }, { on := 4, ground := Ground.phase }, { on := 5, ground := Ground.phase }], guard := none }) (v := ?_) rfl (by kernel_rfl) (by kernel_rfl) (by kernel_rfl) (fun _ _ _ h => h) (Or.inl ⟨by rfl, ?hyaaa6⟩) hHeld ?restaaa6
          case hyaaa6 =>
            intro w hSw
            try dsimp only at hSw
            go_simp
            try with_reducible rfl
          try simp only [Act.put, List.setIfInBounds_toArray, List.set_cons_zero, List.set_cons_succ]
          refine wpAnyH_done (by kernel_rfl) ?_ _
          have hrw6 := Lib.hid (hrw5.out.below HBn)
          have hrT6 := Lib.hid (hrT5.out.below HBn)
          have HB6 := Lib.hid (HB5.out.trans (HBn.mono HB5.out.size))
          have hTx6 := Lib.hid ((hTx5.out.below HBn).pushR hrw5.out hrT5.out hTl.out h61 h62 h63.out h65.out)
          clear hHeld HBn hrw5 hrT5 hS hTx5 h65
          go_wp2_with fail
          refine (hZc.out _ _ _ h63.out).mono ?_
          rintro e w7 ⟨rfl, hb7⟩
          have hrw7 := Lib.hid (hrw6.out.below hb7)
          have hrT7 := Lib.hid (hrT6.out.below hb7)
          have HB7 := Lib.hid (HB6.out.trans (hb7.mono HB6.out.size))
          have hTx8 := Lib.hid ((hTx6.out.below hb7).below (blow1 w7 (.cells (dc dn).toArray 23)))
          clear hTx6
          have n8 := Lib.hid (dsAt_row (l := [dn]) (by simpa using hs3h.out) (heap_alloc_new w7 (.cells (dc dn).toArray 23)) (by simp [dsC]))
          have hrw8 := Lib.hid (hrw7.out.below (blow1 w7 (.cells (dc dn).toArray 23)))
          have hrT8 := Lib.hid (hrT7.out.below (blow1 w7 (.cells (dc dn).toArray 23)))
          have HB8 := Lib.hid (HB7.out.alloc HB7.out.size (.cells (dc dn).toArray 23))
          clear hb7 hrw6 hrT6 HB6 h63
          go_wp2_with (first
            | (refine wpList_built (by rfl) 31 23 1 #[(0, .tmp 56)] (by rfl) Tryd.underlying31 (dc dn).toArray (by simp only [List.map_toArray, List.map_cons, List.map_nil]; exact pDn.out) ?_)
            | (refine wpList_appD7 _ (by rfl) (.tmp 54) (.tmp 57) (by rfl) w.heap.size _ (acc ++ [dl]) [dn] (some ⟨w7.heap.size, 0, none⟩) 1 1 (by rfl) (by rfl) rfl n8.out hrw8.out (by simpa using hs3h.out) (by rw [hlenh.out]; omega) (by decide) HB8.out.size ?_; intro row9 w9 hrow9 hg9 hn9; have hTx9 := hTx8.out.keptD hg9 hn9; have hTx10 := Lib.hid (hTx9.below (blow1 w9 (.cells #[.slice A6 96 c6] 48))); clear hTx9 hn9; have hrT9 := hrT8.out.keptG hg9 (fun g e e2 => rowDT hrw8.out hrT8.out g e2 e); have HB9 := RowD.grown hrw8.out HB8.out (Nat.le_refl _) HB8.out.size hg9; have hrT10 := Lib.hid (hrT9.below (blow1 w9 (.cells #[.slice A6 96 c6] 48))); have hrw10 := Lib.hid (hrow9.below (blow1 w9 (.cells #[.slice A6 96 c6] 48))); have HB10 := Lib.hid (HB9.alloc HB9.size (.cells #[.slice A6 96 c6] 48)); have hc10 : (w9.alloc (.cells #[.slice A6 96 c6] 48)).cell? ⟨w9.heap.size, 0, none⟩ = some (.slice A6 96 c6) := (by rw [cell_of_row _ _ _ _ _ _ (heap_alloc_new w9 _)]; rfl); clear hrow9 hg9 hrT9 HB9)
            | (refine wpList_built (by rfl) 75 48 1 #[(0, .tmp 60)] (by rfl) Tryd.underlying75 #[.slice A6 96 c6] (by simp only [List.map_toArray, List.map_cons, List.map_nil]; exact built_bs7 _ _ _) ?_)
            | (refine wpList_appT _ (by rfl) (.tmp 59) (.tmp 61) (by rfl) w.heap.size _ ts w9.heap.size 96 c6 A6 (by rfl) (by rfl) hc10 hrT10.out (by omega) HB10.out.size ?_; intro row11 w11 hrT11 hg11 hn11; have hTx11 := Lib.hid (hTx10.out.keptT hg11 hn11); have hrw11 := hrw10.out.keptG hg11 (fun g e e2 => rowDT hrw10.out hrT10.out g e e2); have HB11 := RowT.grown hrT10.out HB10.out (Nat.le_refl _) HB10.out.size hg11))
          go_roundw
          case rel => exact ⟨(n' + 1) / 2, i' / 2, k' + 1, a + 1, acc ++ [dl], dn, ts ++ [.slice A6 96 c6], xs ++ [T9], by congr 1, by congr 1, by congr 1, hrw11, hlenh.out, hrT11, by simp; omega, Lib.hid ⟨by simp [hTx.out.1], hTx11.out⟩, HE2, Lib.hid (fun d hd => by rcases List.mem_append.1 hd with h | h; exact h32.out d h; simp at h; subst h; exact hs3h.out), by omega, by omega, by omega, by omega, HB11⟩
          case measure => simp [intOf]; omega
        · have d2 : decide ((i' : Int) + 1 < (n' : Int)) = false := decide_eq_false (by omega)
          have hal : n' ≤ xr i' := hx.2 ⟨o, l⟩
          obtain ⟨l', hl1, hl2, hl5⟩ := HE.out
          rw [wayM_alone h1 hal] at hl1
          obtain ⟨l2, hl3, hl4⟩ := Option.map_eq_some_iff.1 hl1
          have HE2 : Hid (∃ l', wayM ((n' + 1) / 2) (i' / 2) dl (path.drop k') = some l' ∧ (acc ++ [dl]) ++ dl :: l'.map (·.1) = full ∧ (xs ++ [[]]) ++ l'.map (·.2) = fullT) := Lib.hid ⟨l2, hl3, by rw [← hl2, ← hl4]; simp, by rw [← hl5, ← hl4]; simp⟩
          have pDn := Lib.hid (builtSlice_d1 dl hdlh.out)
          clear hl1 hl2 hl3 hl4 hl5 hx hal HE
          go_wp2_with (first
            | (refine wpList_load_mid (by rfl) 23 (.tmp 28) (by rfl) g1 (o1 + a * 32) (by rfl) (dc dl) _ hrgh.out Tryd.underlying23 (by rfl) pd.out ?_)
            | (refine wpList_new_row (by rfl) 23 (.tmp 14) (.tmp 29) (by rfl) (by rfl) (dg dl) (by rfl) (by rfl) 23 _ pd2 ps po ?_; intro w5 hd5 hz5 hB5; replace hd5 := Lib.hid hd5; replace hz5 := Lib.hid hz5)
            | (refine wpList_load_mid (by rfl) 23 (.tmp 14) (by rfl) wr.heap.size 0 (by rfl) (dc dl) _ (row_range7 (cs := dc dl) hd5.out) Tryd.underlying23 (by rfl) pd.out ?_)
            | (refine wpList_built (by rfl) 31 23 1 #[(0, .tmp 66)] (by rfl) Tryd.underlying31 (dc dl).toArray (by simp only [List.map_toArray, List.map_cons, List.map_nil]; exact pDn.out) ?_; have hrw7 := hrowh.out.below hB5; have hrT7 := hrTh.out.below hB5; have HB7 := hBh.out.trans (hB5.mono hBh.out.size); have n8 := Lib.hid (dsAt_row (l := [dl]) (by simpa using hdlh.out) (heap_alloc_new w5 (.cells (dc dl).toArray 23)) (by simp [dsC])); have hTx8 := Lib.hid ((hTx.out.2.none.below hB5).below (blow1 w5 (.cells (dc dl).toArray 23))); have hrw8 := Lib.hid (hrw7.below (blow1 w5 (.cells (dc dl).toArray 23))); have hrT8 := Lib.hid (hrT7.below (blow1 w5 (.cells (dc dl).toArray 23))); have HB8 := Lib.hid (HB7.alloc HB7.size (.cells (dc dl).toArray 23)); clear hrw7 hrT7 HB7 hB5)
            | (refine wpList_appD7 _ (by rfl) (.tmp 65) (.tmp 67) (by rfl) w.heap.size _ (acc ++ [dl]) [dl] (some ⟨w5.heap.size, 0, none⟩) 1 1 (by rfl) (by rfl) rfl n8.out hrw8.out (by simpa using hdlh.out) (by rw [hlenh.out]; omega) (by decide) HB8.out.size ?_; intro row9 w9 hrow9 hg9 hn9; have hTx9 := hTx8.out.keptD hg9 hn9; have hTx10 := Lib.hid (hTx9.below (blow1 w9 (.cells #[.slice none 0 0] 48))); clear hTx9 hn9; have hrT9 := hrT8.out.keptG hg9 (fun g e e2 => rowDT hrw8.out hrT8.out g e2 e); have HB9 := RowD.grown hrw8.out HB8.out (Nat.le_refl _) HB8.out.size hg9; have hrT10 := Lib.hid (hrT9.below (blow1 w9 (.cells #[.slice none 0 0] 48))); have hrw10 := Lib.hid (hrow9.below (blow1 w9 (.cells #[.slice none 0 0] 48))); have HB10 := Lib.hid (HB9.alloc HB9.size (.cells #[.slice none 0 0] 48)); have hc10 : (w9.alloc (.cells #[.slice none 0 0] 48)).cell? ⟨w9.heap.size, 0, none⟩ = some (.slice none 0 0) := (by rw [cell_of_row _ _ _ _ _ _ (heap_alloc_new w9 _)]; rfl); clear hrow9 hg9 hrT9 HB9)
            | (refine wpList_built (by rfl) 75 48 1 #[(0, .const (.slice none 0 0))] (by rfl) Tryd.underlying75 #[.slice none 0 0] (by simp only [List.map_toArray, List.map_cons, List.map_nil]; exact built_bs7 _ _ _) ?_)
            | (refine wpList_appT _ (by rfl) (.tmp 69) (.tmp 70) (by rfl) w.heap.size _ ts w9.heap.size 0 0 none (by rfl) (by rfl) hc10 hrT10.out (by omega) HB10.out.size ?_; intro row11 w11 hrT11 hg11 hn11; have hTx11 := Lib.hid (hTx10.out.keptT hg11 hn11); have hrw11 := hrw10.out.keptG hg11 (fun g e e2 => rowDT hrw10.out hrT10.out g e e2); have HB11 := RowT.grown hrT10.out HB10.out (Nat.le_refl _) HB10.out.size hg11))
          go_roundw
          case rel => exact ⟨(n' + 1) / 2, i' / 2, k', a + 1, acc ++ [dl], dl, ts ++ [.slice none 0 0], xs ++ [[]], by congr 1, by congr 1, rfl, hrw11, hlenh.out, hrT11, by simp; omega, Lib.hid ⟨by simp [hTx.out.1], hTx11.out⟩, HE2, Lib.hid (fun d hd => by rcases List.mem_append.1 hd with h | h; exact h32.out d h; simp at h; subst h; exact hdlh.out), by omega, by omega, by omega, by omega, HB11⟩
          case measure => simp [intOf]; omega
    · have d1 : decide ((1 : Int) < (n' : Int)) = false := decide_eq_false (by omega)
      obtain ⟨l', hl1, hl2, hl5⟩ := HE.out
      rw [wayM_end h1] at hl1
      have hl3 : l' = [] := by
        split at hl1
        · exact (Option.some.inj hl1).symm
        · cases hl1
      subst hl3
      have hfu : acc ++ [dl] = full := hl2
      have hft : xs = fullT := by simpa using hl5
      obtain ⟨AT, cT, hu12, -, -, -⟩ := hrT.form
      rw [hTx.out.1] at hu12
      subst hu12
      have hlv : LvAt wr AT fullT := hft ▸ texts_lv hrT hTx.out.2.len hTx.out.2.tx
      clear hl5 hft hTx hts
      go_wp2
      refine bodyPost_ret (v := .tuple #[.slice A1 (a + 1) c1, .slice AT (a + 1) cT]) (by simp [results, Tryd.results70, go_sem]) rfl ⟨A1, a + 1, c1, AT, cT, rfl, by rw [← hfu, hlen], hc1, hfu ▸ hds1, hlv, HB⟩

theorem rway_any (n i : Nat) (hn : n ≤ 65536) (hi : i < n) (leaf : List UInt8) (m : Nat) (hm : leaf.length = m) (hms : m ≤ 1000000) (A : Option Addr) (c : Nat) (path : List (List UInt8)) (k : Nat) (hk : path.length = k) (P : Option Addr) (cp : Nat) (hcp : k ≤ cp) (hks : k ≤ 65536) (full : List (List UInt8)) (hfull : ∃ l, wayM n i (lfD leaf) path = some l ∧ full = lfD leaf :: l.map (·.1)) (w : World) (hlf : AtO w A leaf) (hp : DsAt w P path) (hp32 : ∀ d ∈ path, d.length = 32) :
    Calls Tryd.prog 70 #[.int .i64 n, .int .i64 i, .slice A m c, .slice P k cp] w fun e w' => ∃ (A' : Option Addr) (L c' : Nat) (T : Value), e = .returned (.tuple #[.slice A' L c', T]) ∧ full.length = L ∧ L ≤ c' ∧ DsAt w' A' full ∧ Below w.heap.size w w' := by
  obtain ⟨l, h1, h2⟩ := hfull
  refine (rwayL_any n i hn hi leaf m hm hms A c path k hk P cp hcp hks full (lfT leaf :: l.map (·.2)) ⟨l, h1, h2, rfl⟩ w hlf hp hp32).mono ?_
  rintro e w' ⟨A', L, c', T, cT, h3, h4, h5, h6, -, h7⟩
  exact ⟨A', L, c', _, h3, h4, h5, h6, h7⟩
end Go.Proofs.YtnccbhndlnkboaaDoor
