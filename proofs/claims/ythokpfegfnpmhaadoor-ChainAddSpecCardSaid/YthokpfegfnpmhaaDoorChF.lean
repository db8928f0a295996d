/- The walk of chain.Head. -/
import Derived.Test.YthokpfegfnpmhaaDoorChain0
import Derived.Deep.RegionHeld3
namespace Go.Proofs.YthokpfegfnpmhaaDoor
open Go.RowKit Cdc Sha
set_option linter.unusedVariables false
set_option linter.unusedSimpArgs false

/-- the cells of a link, as one value -/
def lkA (x : Lk) (D : Value) : Array Value := (lkC x D).toArray
theorem lkA_size {x : Lk} (h : x.prev.length = 32) (D : Value) : (lkA x D).size = 35 := by simp [lkA, lkC_len h]
theorem lkA_one (x : Lk) (A : Option Addr) (n c : Nat) : (lkA x (.slice A n c)).all (·.oneCell') = true := by
  have h1 := one_by1 x.prev
  simp [lkA, lkC, Value.oneCell'] at h1 ⊢
theorem lk_info {x : Lk} (h : x.prev.length = 32) (D : Value) : (Tryd.prog.info? 37).map (·.size) = some (lkA x D).size := by rw [lkA_size h]; kernel_rfl
theorem lk_info' {x : Lk} (h : x.prev.length = 32) (D : Value) : (Tryd.prog.info? 37).map (·.size) = some (lkC x D).length := by rw [lkC_len h]; kernel_rfl

theorem hdC_nil : hdC [] = tgd noneB.data.toList [] := rfl
theorem hdC_last {l : List Lk} {n : Nat} {x : Lk} (hn : l.length = n) (hx : l[n - 1]? = some x) : hdC l = tgd linkB.data.toList (encB (lV (lkL x))) := by
  have e : l.getLast? = some x := by rw [List.getLast?_eq_getElem?, hn]; exact hx
  unfold hdC
  rw [e]

set_option maxRecDepth 100000 in
set_option maxHeartbeats 4000000 in
theorem head_none (A : Option Addr) (c : Nat) (w : World) (hL : Laid w) :
    Calls Tryd.prog 20 #[.slice A 0 c] w fun e w' => e = .returned (.agg (dg (hdC []))) ∧ Below w.heap.size w w' := by
  have hz0 : Hid (∀ w : World, (w.alloc (.cells ((List.replicate 32 (0 : UInt8)).map by1).toArray 35)).heap[w.heap.size]? = some (.cells ((List.replicate 32 (0 : UInt8)).map by1).toArray 35 (0, 0))) := Lib.hid fun w => heap_alloc_new w _
  go_enter Tryd.func20, Tryd.ntmps20
  go_wp2_with fail
  have hd := hz0.out w
  have hB : Below w.heap.size w (w.alloc (.cells ((List.replicate 32 (0 : UInt8)).map by1).toArray 35)) := (Below.refl _ _).alloc (Nat.le_refl _) _
  refine (tagged_any noneB (by decide) [] 0 rfl (by omega) none 0 (by omega) (by omega) _ (fun j x h => by simp at h) (hL.below hB)).mono ?_
  rintro e w5 ⟨rfl, hB5⟩
  have hd5 := (hB5.block w.heap.size ((Array.getElem?_eq_some_iff.1 hd).1)).trans hd
  have hB50 := hB.trans (hB5.mono hB.size)
  rw [← hdC_nil]
  have hi5 := Lib.hid (dg_info _ (hdC_len []))
  have ho5 := Lib.hid (dg_one (hdC []))
  have hr5 : Hid (32 = (dg (hdC [])).size) := Lib.hid (by rw [dg_size, hdC_len])
  generalize ht9 : hdC [] = t9 at hi5 ho5 hr5 ⊢
  replace ht9 := Lib.hid ht9
  replace hd5 := Lib.hid hd5
  go_wp2_with (refine wpList_set_row (by rfl) 35 (.tmp 2) (.tmp 9) (by rfl) (by rfl) w.heap.size (dg t9) (by rfl) (by rfl) 35 _ hd5.out hi5.out hr5.out ho5.out ?_; intro w6 hd6 hz6 hg6; replace hd6 := Lib.hid hd6)
  refine bodyPost_ret (v := .agg (dg t9)) (results_cell_row rfl _ _ w.heap.size 35 (dg t9) (0, 0) _ rfl hd6.out Tryd.underlying35 (by rfl) hi5.out) rfl ⟨by rw [ht9.out], hB50.grown hg6 hB50.size (fun k e => by have := Option.some.inj e; omega)⟩

set_option maxRecDepth 100000 in
set_option maxHeartbeats 4000000 in
theorem head_some (l : List Lk) (n : Nat) (A : Option Addr) (c : Nat) (w : World) (hn : l.length = n) (hn0 : 0 < n) (hnm : n ≤ 1000000) (hc : n ≤ c) (h : LsAt w A l) (hok : ∀ x ∈ l, LkOk x) (hL : Laid w) :
    Calls Tryd.prog 20 #[.slice A n c] w fun e w' => e = .returned (.agg (dg (hdC l))) ∧ Below w.heap.size w w' := by
  obtain ⟨x, hx⟩ : ∃ x, l[n - 1]? = some x := ⟨_, List.getElem?_eq_getElem (by omega)⟩
  have hxo := hok x (List.mem_of_getElem? hx)
  have hlast := Lib.hid (hdC_last hn hx)
  obtain ⟨b, o, D, rfl, hr, A2, c2, rfl, hdl, hdc, hdat⟩ := h (n - 1) x hx
  have hz0 : Hid (∀ w : World, (w.alloc (.cells ((List.replicate 32 (0 : UInt8)).map by1).toArray 35)).heap[w.heap.size]? = some (.cells ((List.replicate 32 (0 : UInt8)).map by1).toArray 35 (0, 0))) := Lib.hid fun w => heap_alloc_new w _
  have hu := Tryd.underlying37
  replace hr := Lib.hid (range_below hr ((Below.refl w.heap.size w).alloc (Nat.le_refl _) (.cells ((List.replicate 32 (0 : UInt8)).map by1).toArray 35)))
  have hi := Lib.hid (lk_info' hxo.p32 (.slice A2 x.data.length c2))
  clear hu
  go_enter Tryd.func20, Tryd.ntmps20
  have hiA := Lib.hid (lk_info hxo.p32 (.slice A2 x.data.length c2))
  have hiS : Hid (35 = (lkA x (.slice A2 x.data.length c2)).size) := Lib.hid (lkA_size hxo.p32 _).symm
  have hiO := Lib.hid (lkA_one x A2 x.data.length c2)
  have hd := hz0.out w
  have hB : Below w.heap.size w (w.alloc (.cells ((List.replicate 32 (0 : UInt8)).map by1).toArray 35)) := (Below.refl _ _).alloc (Nat.le_refl _) _
  have hgs : w.heap.size + 1 = (w.alloc (.cells ((List.replicate 32 (0 : UInt8)).map by1).toArray 35)).heap.size := by simp
  replace hgs := Lib.hid hgs
  go_wp2_with (first
    | (refine wpList_load_mid (by rfl) 37 (.tmp 14) (by rfl) b (o + (n - 1) * 35) (by rfl) (lkC x (.slice A2 x.data.length c2)) _ hr.out Tryd.underlying37 (by rfl) hi.out ?_)
    | (refine wpList_new_row' (by rfl) 37 (.tmp 3) (.tmp 15) (by rfl) (by rfl) (lkA x (.slice A2 x.data.length c2)) (w.heap.size + 1) (by rfl) hgs.out (by rfl) 37 _ hiA.out hiS.out hiO.out ?_; intro w3 hd3 hz3 hB3; replace hd3 := Lib.hid hd3; replace hz3 := Lib.hid hz3))
  have hz9 := (hB3.block w.heap.size (by have := hgs.out; omega)).trans hd
  have hB9 : Below w.heap.size w w3 := hB.trans (hB3.mono (by omega))
  have hzl := (Array.getElem?_eq_some_iff.1 hz9).1
  obtain ⟨g, hg⟩ : ∃ g, w.heap.size + 1 = g := ⟨_, rfl⟩
  rw [hg] at hd3 ⊢
  have hgl := (Array.getElem?_eq_some_iff.1 hd3.out).1
  have hcell := fun (W : World) (hW : Below w3.heap.size w3 W) (j : Nat) => cell_of_row W g j _ _ _ ((hW.block g hgl).trans hd3.out)
  have hSS : Hid (∀ W, Below w3.heap.size w3 W → W.cell? ⟨g, 0, none⟩ = some (.int .i64 x.node) ∧ W.cell? ⟨g, 1, none⟩ = some (.int .i64 x.no) ∧ W.cell? ⟨g, 34, none⟩ = some (.slice A2 x.data.length c2)) := Lib.hid fun W hW =>
    ⟨by rw [hcell W hW]; simp [lkA, lkC], by rw [hcell W hW]; simp [lkA, lkC], by rw [hcell W hW]; have := lkC_data hxo.p32 (.slice A2 x.data.length c2); simpa [lkA] using this⟩
  have hPP : Hid (∀ W, Below w3.heap.size w3 W → AtO W (some ⟨g, 2, none⟩) x.prev) := Lib.hid fun W hW j y hy => ⟨g, 2, rfl, by rw [hcell W hW]; have := lkC_prev (D := .slice A2 x.data.length c2) hy; simpa [lkA] using this⟩
  have hDD : Hid (∀ W, Below w3.heap.size w3 W → AtO W A2 x.data) := Lib.hid fun W hW => hdat.below (hB9.trans (hW.mono hB9.size))
  have hp32 := Lib.hid hxo.p32
  have hs4 := sm4 hxo
  have henc : Hid (∀ (W : World) (k : Nat), k = W.heap.size → ∀ W2, Below (W.alloc (.cells #[.int .i64 1, .int .i64 x.node, .string ⟨#[]⟩, .slice none 0 0, .int .i64 1, .int .i64 x.no, .string ⟨#[]⟩, .slice none 0 0, .int .i64 2, .int .i64 0, .string ⟨x.prev.toArray⟩, .slice none 0 0, .int .i64 2, .int .i64 0, .string ⟨x.data.toArray⟩, .slice none 0 0] 80)).heap.size (W.alloc (.cells #[.int .i64 1, .int .i64 x.node, .string ⟨#[]⟩, .slice none 0 0, .int .i64 1, .int .i64 x.no, .string ⟨#[]⟩, .slice none 0 0, .int .i64 2, .int .i64 0, .string ⟨x.prev.toArray⟩, .slice none 0 0, .int .i64 2, .int .i64 0, .string ⟨x.data.toArray⟩, .slice none 0 0] 80)) W2 →
      Calls Tryd.prog 46 #[.agg #[.int .i64 3, .int .i64 0, .string ⟨#[]⟩, .slice (some ⟨k, 0, none⟩) 4 4]] W2 fun e w' => ∃ A1 m c1, e = .returned (.tuple #[.slice A1 m c1, .int .i64 (ckE (lV (lkL x)))]) ∧ Below W2.heap.size W2 w' ∧
        (∀ W3, Below w'.heap.size w' W3 → Laid W3 → Calls Tryd.prog 40 #[.string linkB, .slice A1 m c1] W3 fun e w4 => e = .returned (.agg (dg (hdC l))) ∧ Below W3.heap.size W3 w4)) := Lib.hid fun W k hk W2 hB => by
    refine (encode_any 1 (lV (lkL x)) (.slice (some ⟨k, 0, none⟩) 4 4) W2 ((flat_rs W (lkL x) _ rfl k 4 4 hk rfl (by omega) (by simp [lkL, iV, tV])).below hB) hs4.1 (by simp [lV, lkL, iV, tV, dp, dpL]) (by omega)).mono ?_
    unfold EncPost
    rintro e w' ⟨v', rfl, ho, hh, hB⟩
    obtain ⟨A1, c1, rfl⟩ := ho.form
    have hcc := ho.cap
    have hll := encB_le (lV (lkL x))
    refine ⟨A1, _, c1, rfl, hB, fun W3 hB3 hL3 => ?_⟩
    rw [hlast.out]
    exact tagged_any linkB (by decide) (encB (lV (lkL x))) _ rfl (by omega) A1 c1 hcc.1 hcc.2 W3 (ho.atO.below hB3) hL3
  have hc1 : Hid (∀ W : World, Calls Tryd.prog 48 #[.int .i64 x.node] W fun e w' => e = .returned (.agg #[.int .i64 1, .int .i64 x.node, .string ⟨#[]⟩, .slice none 0 0]) ∧ Below W.heap.size W w') := Lib.hid fun W => cnumber_any _ W
  have hc2 : Hid (∀ W : World, Calls Tryd.prog 48 #[.int .i64 x.no] W fun e w' => e = .returned (.agg #[.int .i64 1, .int .i64 x.no, .string ⟨#[]⟩, .slice none 0 0]) ∧ Below W.heap.size W w') := Lib.hid fun W => cnumber_any _ W
  have hc3 : Hid (∀ W : World, Below w3.heap.size w3 W → Calls Tryd.prog 49 #[.slice (some ⟨g, 2, none⟩) 32 32] W fun e w' => e = .returned (.agg #[.int .i64 2, .int .i64 0, .string ⟨x.prev.toArray⟩, .slice none 0 0]) ∧ Below W.heap.size W w') := Lib.hid fun W hW => ctext_any x.prev _ 32 32 W hp32.out (hPP.out W hW)
  have hc4 : Hid (∀ W : World, Below w3.heap.size w3 W → Calls Tryd.prog 49 #[.slice A2 x.data.length c2] W fun e w' => e = .returned (.agg #[.int .i64 2, .int .i64 0, .string ⟨x.data.toArray⟩, .slice none 0 0]) ∧ Below W.heap.size W w') := Lib.hid fun W hW => ctext_any x.data _ _ c2 W rfl (hDD.out W hW)
  have HB : Below w3.heap.size w3 w3.drew := (Below.refl _ _).drew
  obtain ⟨s0, s1, s2⟩ := hSS.out w3 (Below.refl _ _)
  replace hg := Lib.hid hg
  clear hcell hPP hDD hi hiA hiS hiO hr hgs hB3 hdat hs4 hz3 hd3 hB hd hz0
  go_region_held3 (fun w' => w'.cell? ⟨g, 0, none⟩ = some (.int .i64 x.node) ∧ w'.cell? ⟨g, 1, none⟩ = some (.int .i64 x.no) ∧ w'.cell? ⟨g, 34, none⟩ = some (.slice A2 x.data.length c2))
    (first
      | exact hSS.out _ HB
      | exact hSS.out _ (HB.alloc HB.size _)
      | exact hSS.out _ (Below.refl _ _)
      | go_keep)
    (first
      | (go_at_call 48; (with_reducible refine (hc1.out _).mono ?_); rintro e w4 ⟨rfl, hb⟩; replace HB := HB.trans (hb.mono HB.size); clear hb)
      | (go_at_call 48; (with_reducible refine (hc2.out _).mono ?_); rintro e w5 ⟨rfl, hb⟩; replace HB := HB.trans (hb.mono HB.size); clear hb)
      | (go_at_call 49; (with_reducible refine (hc3.out _ HB).mono ?_); rintro e w6 ⟨rfl, hb⟩; replace HB := HB.trans (hb.mono HB.size); clear hb)
      | (go_at_call 49; (with_reducible refine (hc4.out _ HB).mono ?_); rintro e w7 ⟨rfl, hb⟩; replace HB := HB.trans (hb.mono HB.size); clear hb)
      | (go_at_call 47; refine (clist_any _ _ _ _).mono ?_; rintro e w8 ⟨rfl, hb4⟩; replace HB := (HB.alloc HB.size _).trans (hb4.mono (HB.alloc HB.size _).size))
      | (go_at_call 46; refine (henc.out _ _ rfl _ hb4).mono ?_; rintro e w9 ⟨A5, m5, c5, rfl, hb5, hH5⟩; replace HB := HB.trans (hb5.mono HB.size)))
  have hz10 := (HB.block w.heap.size hzl).trans hz9
  have hB10 := hB9.trans (HB.mono hB9.size)
  clear hSS hc1 hc2 hc3 hc4 henc hb4 hb5 s0 s1 s2 hz9 hB9 hzl HB
  go_wp2_with fail
  refine (hH5 w9 (Below.refl _ _) (hL.below hB10)).mono ?_
  rintro e w10 ⟨rfl, hb⟩
  have hd5 := (hb.block w.heap.size ((Array.getElem?_eq_some_iff.1 hz10).1)).trans hz10
  have hB50 := hB10.trans (hb.mono hB10.size)
  clear hb hH5
  have hi5 := Lib.hid (dg_info _ (hdC_len l))
  have ho5 := Lib.hid (dg_one (hdC l))
  have hr5 : Hid (32 = (dg (hdC l)).size) := Lib.hid (by rw [dg_size, hdC_len])
  clear hlast
  generalize ht9 : hdC l = t9 at hi5 ho5 hr5 ⊢
  replace ht9 := Lib.hid ht9
  replace hd5 := Lib.hid hd5
  go_wp2_with (refine wpList_set_row (by rfl) 35 (.tmp 2) (.tmp 35) (by rfl) (by rfl) w.heap.size (dg t9) (by rfl) (by rfl) 35 _ hd5.out hi5.out hr5.out ho5.out ?_; intro w11 hd6 hz6 hg6; replace hd6 := Lib.hid hd6)
  refine bodyPost_ret (v := .agg (dg t9)) (results_cell_row rfl _ _ w.heap.size 35 (dg t9) (0, 0) _ rfl hd6.out Tryd.underlying35 (by rfl) hi5.out) rfl ⟨by rw [ht9.out], hB50.grown hg6 hB50.size (fun k e => by have := Option.some.inj e; omega)⟩

theorem head_any (l : List Lk) (n : Nat) (A : Option Addr) (c : Nat) (w : World) (hn : l.length = n) (hnm : n ≤ 1000000) (hc : n ≤ c) (h : LsAt w A l) (hok : ∀ x ∈ l, LkOk x) (hL : Laid w) :
    Calls Tryd.prog 20 #[.slice A n c] w fun e w' => e = .returned (.agg (dg (hdC l))) ∧ Below w.heap.size w w' := by
  by_cases h0 : n = 0
  · subst h0
    obtain rfl := List.length_eq_zero_iff.1 hn
    exact head_none A c w hL
  · exact head_some l n A c w hn (by omega) hnm hc h hok hL
end Go.Proofs.YthokpfegfnpmhaaDoor
/- The walk of the reference's Few. -/
namespace Go.Proofs.YthokpfegfnpmhaaDoor
open Go.RowKit Cdc Sha
set_option linter.unusedVariables false
set_option linter.unusedSimpArgs false

def smallC (x : Lk) : Bool := decide (x.data.length ≤ 300)
def fewC (l : List Lk) : Bool := decide (l.length ≤ 16) && l.all smallC

theorem all_take_succ {l : List Lk} {i : Nat} {x : Lk} (h : l[i]? = some x) (ha : (l.take i).all smallC = true) (hx : smallC x = true) : (l.take (i + 1)).all smallC = true := by
  rw [List.take_add_one, h, List.all_append, ha]
  simp [hx]
theorem all_false {l : List Lk} {i : Nat} {x : Lk} (h : l[i]? = some x) (hx : smallC x = false) : l.all smallC = false := by
  rw [List.all_eq_false]
  exact ⟨x, List.mem_of_getElem? h, by rw [hx]; decide⟩

set_option maxRecDepth 100000 in
set_option maxHeartbeats 1000000 in
theorem few_many (n : Nat) (A : Option Addr) (c : Nat) (w : World) (h : 16 < n) :
    Calls Tryd.prog 14 #[.slice A n c] w fun e w' => e = .returned (.bool false) ∧ w' = w := by
  go_enter Tryd.func14, Tryd.ntmps14
  go_wp2
  go_ret
  exact ⟨rfl, rfl⟩

set_option maxRecDepth 100000 in
set_option maxHeartbeats 2000000 in
theorem few_in (l : List Lk) (n : Nat) (A : Option Addr) (c : Nat) (w : World) (hn : l.length = n) (h16 : n ≤ 16) (hc : n ≤ c) (h : LsAt w A l) (hp : ∀ x ∈ l, x.prev.length = 32) :
    Calls Tryd.prog 14 #[.slice A n c] w fun e w' => e = .returned (.bool (l.all smallC)) ∧ w' = w := by
  replace h := Lib.hid h
  replace hn := Lib.hid hn
  replace hp := Lib.hid hp
  go_enter Tryd.func14, Tryd.ntmps14
  go_wp2
  go_loop [3] (fun s => ∃ i : Nat, i ≤ n ∧ s = .int .i64 i ∧ Hid ((l.take i).all smallC = true)) (fun s => n - (intOf s).toNat)
  case atStart => exact ⟨0, Nat.zero_le _, rfl, rfl⟩
  case round =>
    obtain ⟨i, hi, rfl, ha⟩ := hrel
    by_cases hlt : i < n
    · obtain ⟨x, hx⟩ : ∃ x, l[i]? = some x := ⟨_, List.getElem?_eq_getElem (by rw [hn.out]; omega)⟩
      obtain ⟨b, o, D, rfl, hr, A2, c2, rfl, hdl, hdc, hdat⟩ := h.out i x hx
      have hcell : w.cell? ⟨b, o + i * 35 + 34, none⟩ = some (.slice A2 x.data.length c2) := hr 34 _ (lkC_data (hp.out x (List.mem_of_getElem? hx)) _)
      have h1 := fun e => Lib.hid (all_take_succ hx ha.out e)
      have h2 := fun e => Lib.hid (all_false hx e)
      unfold smallC at h1 h2
      obtain ⟨m, hm⟩ : ∃ m, x.data.length = m := ⟨_, rfl⟩
      rw [hm] at h1 h2 hcell hdl
      clear hr hdat hm hx
      by_cases hs : m ≤ 300
      · replace h1 := h1 (decide_eq_true hs)
        clear h2
        go_wp2
        go_round
        case rel => exact ⟨i + 1, by omega, by go_num, h1⟩
        case measure => simp [intOf]; omega
      · replace h2 := h2 (decide_eq_false hs)
        clear h1
        go_wp2
        go_ret
        exact ⟨by rw [← h2.out]; rfl, rfl⟩
    · have e : l.take i = l := List.take_of_length_le (by rw [hn.out]; omega)
      rw [e] at ha
      go_wp2
      go_ret
      refine ⟨?_, rfl⟩
      rw [ha.out]
      rfl

theorem few_any (l : List Lk) (n : Nat) (A : Option Addr) (c : Nat) (w : World) (hn : l.length = n) (hc : n ≤ c) (h : LsAt w A l) (hp : ∀ x ∈ l, x.prev.length = 32) :
    Calls Tryd.prog 14 #[.slice A n c] w fun e w' => e = .returned (.bool (fewC l)) ∧ w' = w := by
  unfold fewC
  rw [hn]
  by_cases h16 : n ≤ 16
  · rw [decide_eq_true h16, Bool.true_and]
    exact few_in l n A c w hn h16 hc h hp
  · rw [decide_eq_false h16, Bool.false_and]
    exact few_many n A c w (by omega)
end Go.Proofs.YthokpfegfnpmhaaDoor
/- What is known of a list of links that is an argument. -/
namespace Go.Proofs.YthokpfegfnpmhaaDoor
open Go.RowKit Cdc Sha
set_option linter.unusedVariables false
set_option linter.unusedSimpArgs false

/-- what is known of an argument: its links' numbers and digests -/
def ArgL (l : List Lk) : Prop := ∀ x ∈ l, I64 x.node ∧ I64 x.no ∧ x.prev.length = 32
theorem ArgL.p32 {l : List Lk} (h : ArgL l) : ∀ x ∈ l, x.prev.length = 32 := fun x hx => (h x hx).2.2
theorem few_len {l : List Lk} (h : fewC l = true) : l.length ≤ 16 := by
  unfold fewC at h
  simp at h
  exact h.1
theorem ArgL.ok {l : List Lk} (h : ArgL l) (hf : fewC l = true) : ∀ x ∈ l, LkOk x := fun x hx => by
  obtain ⟨h1, h2, h3⟩ := h x hx
  unfold fewC at hf
  simp at hf
  have := hf.2 x hx
  unfold smallC at this
  simp at this
  exact ⟨h1, h2, h3, by omega⟩
end Go.Proofs.YthokpfegfnpmhaaDoor
