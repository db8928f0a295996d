/- The walk of merkle.Root. -/
import Derived.Test.YtnccbhndlnkboaaDoorMRows
import Derived.RangeFuncKeeps
namespace Go.Proofs.YtnccbhndlnkboaaDoor
open Go.RowKit Go.Shelf Cdc Sha
set_option linter.unusedVariables false
set_option linter.unusedSimpArgs false
attribute [local go_sem] Oper.semAt_some

theorem rows_any (A : Option Addr) (n c : Nat) (w : World) :
    Calls Tryd.prog 64 #[.slice A n c] w fun e w' => e = .returned (.func (.func 82) #[] #[.pointer (some ⟨w.heap.size, 0, none⟩)]) ∧ w' = w.alloc (.cells #[.slice A n c] 75) := by
  go_enter Tryd.func64, Tryd.ntmps64
  go_wp2
  go_ret
  exact ⟨rfl, rfl⟩
theorem xor_one (n : Nat) : n ^^^ 1 = xr n := by
  unfold xr
  have h1 := @Nat.xor_div_two n 1
  have h2 : (n ^^^ 1).testBit 0 = (n.testBit 0 ^^ (1 : Nat).testBit 0) := Nat.testBit_xor ..
  rw [Nat.testBit_zero, Nat.testBit_zero] at h2
  simp at h1
  by_cases h : n % 2 = 0
  · have h0 : ¬ n % 2 = 1 := by omega
    rw [if_pos h]
    rw [decide_eq_false h0] at h2
    have h3 : (n ^^^ 1) % 2 = 1 := of_decide_eq_true h2
    omega
  · have h0 : n % 2 = 1 := by omega
    rw [if_neg h]
    rw [decide_eq_true h0] at h2
    have h3 : ¬ (n ^^^ 1) % 2 = 1 := of_decide_eq_false h2
    omega
theorem bits_xr (n : Nat) (h : n ≤ 1000000) : bits BinOp.xor IntKind.i64 (n : Int) 1 = (xr n : Int) := by
  have hx : n ^^^ 1 ≤ n + 1 := by rw [xor_one]; unfold xr; split <;> omega
  have h1 : (BitVec.ofInt 64 (n : Int)).toNat = n := by
    rw [BitVec.ofInt_natCast, BitVec.toNat_ofNat]; exact Nat.mod_eq_of_lt (by omega)
  have h2 : (BitVec.ofInt 64 (1 : Int)).toNat = 1 := by decide
  show IntKind.i64.wrap ((BitVec.ofInt 64 (n : Int) ^^^ BitVec.ofInt 64 (1 : Int)).toNat : Int) = _
  rw [BitVec.toNat_xor, h1, h2, IntWalk.i64_in _ (by omega), xor_one]
/-- the digest that the rounds of Root leave -/
def rtF (z : List UInt8) (xs : List (List (List UInt8))) : List UInt8 := match xs.getLast? with
  | some r => r.headD []
  | none => z
theorem rtF_rows (z : List UInt8) : ∀ (n : Nat) (r : List (List UInt8)), r.length = n → rtF z (rowsM r) = rootM r := by
  intro n
  induction n using Nat.strongRecOn with
  | ind n ih =>
    intro r hn
    by_cases h : 1 < r.length
    · rw [rootM_big h, ← ih (up r).length (by rw [up_len]; omega) (up r) rfl, rowsM_big h]
      cases hr : rowsM (up r) with
      | nil =>
        by_cases h2 : 1 < (up r).length
        · rw [rowsM_big h2] at hr; cases hr
        · rw [rowsM_one h2] at hr; cases hr
      | cons x xs =>
        simp only [rtF, List.getLast?_cons_cons]
    · rw [rootM_one h, rowsM_one h]; rfl
theorem rtF_snoc (z : List UInt8) (xs : List (List (List UInt8))) (x : List (List UInt8)) : rtF z (xs ++ [x]) = x.headD [] := by simp [rtF]

/-- a row is stored into a block that lies already -/
theorem wp_set_row {P : Program} {o : Oper} {a : Act} {w : World} {K : Act → World → Prop} {Q : Exit → Act → World → Prop} (ty : TypeId) (x y : Operand) (ho : o.op = .store ty x y) (hd : o.dst = none)
    (g : Nat) (D : Array Value) (hx : a.eval x = .pointer (some ⟨g, 0, none⟩)) (hy : a.eval y = .agg D) (t : TypeId) (z : Array Value) (hg : w.heap[g]? = some (.cells z t (0, 0))) (hi : (P.info? ty).map (·.size) = some D.size) (hz : z.size = D.size) (h1 : D.all (·.oneCell') = true)
    (h : ∀ W : World, W.heap[g]? = some (.cells D t (0, 0)) → W.heap.size = w.heap.size → w.grownBy W (some g) → K a W) : o.wp P a w K Q := by
  refine wp_store_row ty x y ho g D hx hy t z hg hi hz h1 ?_
  rw [hd]
  refine h _ (setRow_heap w g z D t _ hg) (by simp [World.setRow]) ⟨rfl, rfl, rfl, by simp [World.setRow], fun i hi hne => ?_⟩
  simp only [World.setRow, Array.getElem?_modify]
  rw [if_neg (fun e => hne (by rw [e]))]
theorem keepsFrom_grown {B : Nat} {W W' : World} {g : Nat} {cs : Array Value} {t : TypeId} {fr : Nat × Nat} (hg : W.grownBy W' (some g)) (hc : W.heap[g]? = some (.cells cs t fr)) : KeepsFrom B W W' :=
  ⟨hg.size, fun k o hk h ho => by
    refine (hg.block k (Array.getElem?_eq_some_iff.1 h).1 (fun e => ?_)).trans h
    obtain rfl := Option.some.inj e
    rw [h] at hc
    obtain rfl := Option.some.inj hc
    cases ho⟩

set_option maxRecDepth 100000 in
set_option maxHeartbeats 2000000 in
/-- Root: the digest of a list that is not empty -/
theorem mroot_any (ls : List (List UInt8)) (m : Nat) (A : Option Addr) (c : Nat) (w : World) (hn : ls.length = m) (h0m : 0 < m) (hm : m ≤ 1000) (hls : LvAt w A ls) (hsm : ∀ x ∈ ls, x.length ≤ 1000000) (hL : Laid w) :
    Calls Tryd.prog 34 #[.slice A m c] w fun e w' => e = .returned (.agg (dg (rootM (ls.map lfD)))) ∧ Below w.heap.size w w' := by
  have hlen : (ls.map lfD).length = m := by rw [List.length_map, hn]
  have h32 : ∀ d ∈ ls.map lfD, d.length = 32 := fun d hd => by
    obtain ⟨x, _, rfl⟩ := List.mem_map.1 hd
    exact lfD_len x
  have hrl := rootM_len m (ls.map lfD) hlen (fun e => by rw [e] at hlen; simp at hlen; omega) h32
  have hroot := Lib.hid (rtF_rows (List.replicate 32 (0 : UInt8)) m (ls.map lfD) hlen)
  have hseq : Hid (∀ W1, Below w.heap.size w W1 → W1.cell? ⟨w.heap.size + 1, 0, none⟩ = some (.slice A m c) → SeqW Fence.wide 7 Tryd.prog 82 #[.pointer (some ⟨w.heap.size + 1, 0, none⟩)] rwEncs (RwNx (ls.map lfD)) (RwKp w.heap.size) (fun xs => xs.map (·.1) = rowsM (ls.map lfD)) (fun _ => True) W1) :=
    Lib.hid fun W1 hW hc => rows_seq 7 (by decide) ls m A c (w.heap.size + 1) w W1 hn h0m hm hls hsm hL hW hc
  clear hls hsm hL h32 hlen hn
  obtain ⟨l, hl⟩ : ∃ l, ls.map lfD = l := ⟨_, rfl⟩
  rw [hl] at hseq hroot hrl ⊢
  clear hl
  have q0 : ((m : Int) == 0) = false := beq_eq_false_iff_ne.2 (by omega)
  refine (callsIn_wide (n := 8)).1 ?_
  refine callsIn_of_wp_marks Tryd.func34 rfl trivial ?_ rfl
  simp only [Tryd.ntmps34, List.size_toArray, List.length_cons, List.length_nil, Nat.reduceAdd, Nat.reduceSub, Array.replicate_succ, Array.replicate_zero, List.push_toArray, List.append_toArray, List.nil_append, List.cons_append]
  gi_wp2_with (first
    | (refine ⟨trivial, ?_⟩; gi_at_call 64; refine (callsIn_wide.2 (rows_any _ _ _ _)).mono ?_; rintro e w' ⟨rfl, rfl⟩))
  have hz0 := heap_alloc_new w (.cells ((List.replicate 32 (0 : UInt8)).map by1).toArray 23)
  obtain ⟨Z, hZ⟩ : ∃ Z : List UInt8, List.replicate 32 (0 : UInt8) = Z := ⟨_, rfl⟩
  have hZl : Z.length = 32 := by rw [← hZ, List.length_replicate]
  have hB00 : Below w.heap.size w (w.alloc (.cells ((List.replicate 32 (0 : UInt8)).map by1).toArray 23)) := (Below.refl _ _).alloc (Nat.le_refl _) _
  have hsz0 : (w.alloc (.cells ((List.replicate 32 (0 : UInt8)).map by1).toArray 23)).heap.size = w.heap.size + 1 := by simp
  change Code.wpIn _ _ _ _ _ _ ((w.alloc (.cells ((List.replicate 32 (0 : UInt8)).map by1).toArray 23)).alloc _)
  generalize w.alloc (.cells ((List.replicate 32 (0 : UInt8)).map by1).toArray 23) = V1 at hz0 hB00 hsz0 ⊢
  rw [hZ] at hz0 hroot
  have hc1 := Boxed.new V1 75 (.slice A m c)
  have hz1 := (Below.heap_alloc V1 (.cells #[.slice A m c] 75) w.heap.size (by omega)).trans hz0
  have hB0 := hB00.alloc hB00.size (.cells #[.slice A m c] 75)
  have hs1 : (V1.alloc (.cells #[.slice A m c] 75)).heap.size = w.heap.size + 2 := by simp; omega
  rw [hsz0] at hc1
  generalize V1.alloc (.cells #[.slice A m c] 75) = W0 at hc1 hz1 hB0 hs1 ⊢
  clear hz0 hB00 hsz0 hZ V1
  replace hc1 := hc1.cell
  refine wpIn_rangeFunc_stw (F := Fence.wide) (n := 8) rfl (by decide) (gf := 82) (lb := #[.pointer (some ⟨w.heap.size + 1, 0, none⟩)]) rfl trivial (enters_of Tryd.func82 (by kernel_rfl) rfl)
    (fun W1 hb1 _ => hseq.out W1 (hB0.trans (hb1.mono hB0.size)) ((hb1.cell (p := ⟨w.heap.size + 1, 0, none⟩) (by simp; omega)).trans hc1))
    (fun pre x B W l o o' hl hx hW ho => by
      obtain ⟨h1, h2, h3, h4, h5, h6, cs, ty, fr, h7⟩ := hx
      have hne : x.2.1 ≠ l := fun e => by rw [e, hW] at h7; obtain rfl := Option.some.inj h7; cases ho
      have hk : (W.putObj l o').heap[x.2.1]? = W.heap[x.2.1]? := World.putObj_heap_other hne
      exact ⟨h1, h2, h3, h4, h5.block hk, h6, cs, ty, fr, hk.trans h7⟩)
    (fun x A B C h k => ⟨h.1.trans k.1, fun o ho hc => k.2 o (h.2 o ho hc) hc⟩)
    (fun x W l o o' hl hW ho hwk => ⟨belowK_b (w := w) (Nat.le_refl _) W l o o' (by omega) hW ho hwk, fun o9 ho9 hc9 => by
      have hne : x.2.1 ≠ l := fun e => by rw [e, hW] at ho9; obtain rfl := Option.some.inj ho9; rw [ho] at hc9; cases hc9
      exact (World.putObj_heap_other hne).trans ho9⟩)
    (fun _ => rfl)
    (fun pre W => W.heap[w.heap.size]? = some (.cells (dg (rtF Z (pre.map (·.1)))) 23 (0, 0)) ∧ (rtF Z (pre.map (·.1))).length = 32 ∧ Below w.heap.size w W ∧ w.heap.size + 2 ≤ W.heap.size)
    (fun _ _ _ => False) ?hI ?hIx ?hIs ?hIxs ⟨hz1, hZl, hB0, by omega⟩
    (fun x => { tmps := #[.slice A m c, undef, .pointer (some ⟨w.heap.size, 0, none⟩), .slice (some ⟨x.2.1, 0, none⟩) x.1.length x.2.2, .slice A m c, .int .i64 m, .bool false, undef, .slice A m c,
        .func (.func 82) #[] #[.pointer (some ⟨w.heap.size + 1, 0, none⟩)], .slice (some ⟨x.2.1, 0, none⟩) x.1.length x.2.2, undef, undef, undef, undef], defers := [] }) ?assign ?body ?done ?stop
  case hI =>
    exact fun s A B row hs hg hr => ⟨(hg.block _ (Array.getElem?_eq_some_iff.1 hs.1).1 (fun e => by obtain ⟨_, o, ho, hc⟩ := hr _ e.symm; rw [hs.1] at ho; obtain rfl := Option.some.inj ho; cases hc)).trans hs.1, hs.2.1, hs.2.2.1.grown hg hs.2.2.1.size (fun k e => by have := (hr k e).1; omega), Nat.le_trans hs.2.2.2 hg.size⟩
  case hIx => exact fun _ _ _ _ _ hs _ _ => hs
  case hIs =>
    exact fun s A B hs h => ⟨(h.block _ (Array.getElem?_eq_some_iff.1 hs.1).1).trans hs.1, hs.2.1, hs.2.2.1.trans (h.mono hs.2.2.1.size), Nat.le_trans hs.2.2.2 h.size⟩
  case hIxs => exact fun _ _ _ _ hs _ => hs
  case assign =>
    intro l x W K hK
    gi_wp2
    exact hK
  case body =>
    rintro l9 pre ⟨row, g, c4⟩ V W ⟨_, _, _, hsV⟩ ⟨hd, hdl, hB, hsz'⟩ hkc ⟨hx1, hx2, hne, hgB, hds, h32, cs, ty, fr, hh⟩ hsz
    dsimp only at hx2 hne hgB hds h32 hh
    obtain ⟨d, hrd⟩ : ∃ d, row[0]? = some d := by
      cases row with
      | nil => exact absurd rfl hne
      | cons d r => exact ⟨d, rfl⟩
    have hdl9 := h32 d (List.mem_of_getElem? hrd)
    obtain ⟨g', o', e', _, hr9⟩ := hds 0 d hrd
    obtain ⟨rfl, rfl⟩ : g = g' ∧ 0 = o' := by injection e' with h; injection h with h1 h2; exact ⟨h1, h2⟩
    simp only [Nat.zero_mul, Nat.zero_add] at hr9
    replace hr9 := Lib.hid hr9
    have pd := Lib.hid (dc_info hdl9)
    have pd2 := Lib.hid (dg_info d hdl9)
    have ps := Lib.hid (show (dg (rtF Z (pre.map (·.1)))).size = (dg d).size by rw [dg_size, dg_size, hdl, hdl9])
    have po := Lib.hid (dg_one d)
    have hrt : rtF Z ((pre ++ [(row, g, c4)]).map (·.1)) = d := by
      rw [List.map_append, List.map_cons, List.map_nil, rtF_snoc]
      cases row with
      | nil => exact absurd rfl hne
      | cons a r => simpa using hrd
    replace hrt := Lib.hid hrt
    replace hd := Lib.hid hd
    have hk0 : 0 < row.length := by cases row with
      | nil => exact absurd rfl hne
      | cons a r => simp
    have hk1 : (0 : Int) < (row.length : Int) := by omega
    clear hds hx1 h32 hrd e' hkc
    gi_wp2_with (first
      | (refine wpListIn_round_of_wp (by rfl) (by intro c e; cases e) (wp_load_mid 23 (.tmp 12) (by rfl) g 0 (by rfl) (dc d) _ hr9.out Tryd.underlying23 (by rfl) pd.out ?_))
      | (refine wpListIn_round_of_wp (by rfl) (by intro c e; cases e) (wp_set_row 23 (.tmp 2) (.tmp 13) (by rfl) (by rfl) w.heap.size (dg d) (by rfl) (by rfl) 23 _ hd.out pd2.out ps.out po.out ?_); intro W6 hd6 hz6 hg6))
    refine ⟨keepsFrom_grown hg6 hd.out, ⟨(Below.refl _ _).grown hg6 (by omega) (fun k e => by have := Option.some.inj e; omega), fun o ho hc => (hg6.block g (Array.getElem?_eq_some_iff.1 hh).1 (fun e => by have := Option.some.inj e; omega)).trans ho⟩, ?_, ?_, hB.grown hg6 hB.size (fun k e => by have := Option.some.inj e; omega), by omega⟩
    · rw [hrt.out]; exact hd6
    · rw [hrt.out]; exact hdl9
  case done =>
    rintro D xs W hD hxs ⟨hd, hdl, hB, hsz'⟩ hK
    rw [hxs, hroot.out] at hd hdl
    obtain ⟨R, hR⟩ : ∃ R, rootM l = R := ⟨_, rfl⟩
    rw [hR] at hd hdl
    replace hR := Lib.hid hR
    have pd := Lib.hid (dc_info hdl)
    have pd2 := Lib.hid (dg_info R hdl)
    have po := Lib.hid (dg_one R)
    have hr9 := Lib.hid (show W.rangeAt w.heap.size 0 (dc R) from fun j v hj => by rw [Nat.zero_add, cell_of_row _ _ _ _ _ _ hd]; simpa [dg] using hj)
    replace hd := Lib.hid hd
    gi_wp2_with (first
      | (refine wpListIn_of_wp (by rfl) (wp_load_mid 23 (.tmp 2) (by rfl) w.heap.size 0 (by rfl) (dc R) _ hr9.out Tryd.underlying23 (by rfl) pd.out ?_))
      | (refine wpListIn_of_wp (by rfl) (wp_set_row 23 (.tmp 2) (.tmp 14) (by rfl) (by rfl) w.heap.size (dg R) (by rfl) (by rfl) 23 _ hd.out pd2.out rfl po.out ?_); intro W6 hd6 hz6 hg6))
    have hDne : D ≠ w.heap.size := fun e => by rw [e, hd.out] at hK; cases Option.some.inj hK
    have hK' := (hg6.block D (Array.getElem?_eq_some_iff.1 hK).1 (fun e => by have := Option.some.inj e; omega)).trans hK
    refine ⟨by simp, .inl ⟨_, _, rfl, run_takeDeferred hK', ?_⟩⟩
    have hd7 := (World.putObj_heap_other (w := W6) (o := .deferred none) (fun e => hDne e.symm)).trans hd6
    have hB7 := (hB.grown hg6 hB.size (fun k e => by have := Option.some.inj e; omega)).trans (belowK_b (w := w) (Nat.le_refl _) W6 D _ (.deferred none) (by omega) hK' rfl rfl)
    refine ⟨.agg (dg R), results_cell_row rfl _ _ w.heap.size 23 (dg R) (0, 0) _ rfl hd7 Tryd.underlying23 (by rfl) pd2.out, by rw [hR.out], hB7⟩
  case stop =>
    rintro D c pre W _ _ h _
    exact h.elim
end Go.Proofs.YtnccbhndlnkboaaDoor
