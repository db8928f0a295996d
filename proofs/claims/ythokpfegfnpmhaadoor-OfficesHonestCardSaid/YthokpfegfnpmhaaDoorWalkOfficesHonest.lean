/- The walk of the statement OfficesHonest. -/
import Derived.Test.YthokpfegfnpmhaaDoorWalkOfficesSpec
import Derived.Test.YthokpfegfnpmhaaDoorFxSame
import Derived.Test.YthokpfegfnpmhaaDoorOwnMap
import Derived.Test.YthokpfegfnpmhaaDoorRowSet
import Derived.Test.YthokpfegfnpmhaaDoorMoreA
namespace Go.Proofs.YthokpfegfnpmhaaDoor
open Go.RowKit Go.Shelf Jac Cdc Sha
set_option linter.unusedVariables false
set_option linter.unusedSimpArgs false

set_option maxRecDepth 100000 in
set_option maxHeartbeats 16000000 in
theorem ohn_0 (x : Int) (n1 c1 n2 c2 n3 c3 : Nat) (A1 A2 A3 : Option Addr) (w : World)  (h0 : x < 1) (hL : Laid w) :
    Calls Tryd.prog 10 #[.int .i64 x, .slice A1 n1 c1, .slice A2 n2 c2, .slice A3 n3 c3] w fun e w' => e = .returned (.bool true) ∧ Below w.heap.size w w' := by
  have kS : Hid (Calls Tryd.prog 24 #[] w fun e w' => e = .returned (.bool true) ∧ Below w.heap.size w w') := Lib.hid (osane_any w hL)
  have d0 : decide (x < 1) = true := decide_eq_true (by omega)
  clear hL
  go_enter Tryd.func10, Tryd.ntmps10
  go_wp2_with fail
  refine kS.out.mono ?_
  rintro e w1 ⟨rfl, hb⟩
  go_wp2_with fail
  go_ret
  exact ⟨rfl, hb⟩

set_option maxRecDepth 100000 in
set_option maxHeartbeats 16000000 in
theorem ohn_1 (x : Int) (n1 c1 n2 c2 n3 c3 : Nat) (A1 A2 A3 : Option Addr) (w : World) (h0 : ¬ x < 1) (h1 : 1073741789 ≤ x) (hL : Laid w) :
    Calls Tryd.prog 10 #[.int .i64 x, .slice A1 n1 c1, .slice A2 n2 c2, .slice A3 n3 c3] w fun e w' => e = .returned (.bool true) ∧ Below w.heap.size w w' := by
  have kS : Hid (Calls Tryd.prog 24 #[] w fun e w' => e = .returned (.bool true) ∧ Below w.heap.size w w') := Lib.hid (osane_any w hL)
  have d0 : decide (x < 1) = false := decide_eq_false (by omega)
  have d1 : decide (1073741789 ≤ x) = true := decide_eq_true (by omega)
  clear hL
  go_enter Tryd.func10, Tryd.ntmps10
  go_wp2_with fail
  refine kS.out.mono ?_
  rintro e w1 ⟨rfl, hb⟩
  go_wp2_with fail
  go_ret
  exact ⟨rfl, hb⟩

set_option maxRecDepth 100000 in
set_option maxHeartbeats 16000000 in
theorem ohn_2 (x : Int) (n1 c1 n2 c2 n3 c3 : Nat) (A1 A2 A3 : Option Addr) (w : World) (h0 : ¬ x < 1) (h1 : ¬ 1073741789 ≤ x) (h2 : 5 < n1) (hL : Laid w) :
    Calls Tryd.prog 10 #[.int .i64 x, .slice A1 n1 c1, .slice A2 n2 c2, .slice A3 n3 c3] w fun e w' => e = .returned (.bool true) ∧ Below w.heap.size w w' := by
  have kS : Hid (Calls Tryd.prog 24 #[] w fun e w' => e = .returned (.bool true) ∧ Below w.heap.size w w') := Lib.hid (osane_any w hL)
  have d0 : decide (x < 1) = false := decide_eq_false (by omega)
  have d1 : decide (1073741789 ≤ x) = false := decide_eq_false (by omega)
  have d2 : decide (5 < (n1 : Int)) = true := decide_eq_true (by omega)
  clear hL
  go_enter Tryd.func10, Tryd.ntmps10
  go_wp2_with fail
  refine kS.out.mono ?_
  rintro e w1 ⟨rfl, hb⟩
  go_wp2_with fail
  go_ret
  exact ⟨rfl, hb⟩

set_option maxRecDepth 100000 in
set_option maxHeartbeats 16000000 in
theorem ohn_3 (x : Int) (n1 c1 n2 c2 n3 c3 : Nat) (A1 A2 A3 : Option Addr) (w : World) (h0 : ¬ x < 1) (h1 : ¬ 1073741789 ≤ x) (h2 : ¬ 5 < n1) (h3 : 8 < n2) (hL : Laid w) :
    Calls Tryd.prog 10 #[.int .i64 x, .slice A1 n1 c1, .slice A2 n2 c2, .slice A3 n3 c3] w fun e w' => e = .returned (.bool true) ∧ Below w.heap.size w w' := by
  have kS : Hid (Calls Tryd.prog 24 #[] w fun e w' => e = .returned (.bool true) ∧ Below w.heap.size w w') := Lib.hid (osane_any w hL)
  have d0 : decide (x < 1) = false := decide_eq_false (by omega)
  have d1 : decide (1073741789 ≤ x) = false := decide_eq_false (by omega)
  have d2 : decide (5 < (n1 : Int)) = false := decide_eq_false (by omega)
  have d3 : decide (8 < (n2 : Int)) = true := decide_eq_true (by omega)
  clear hL
  go_enter Tryd.func10, Tryd.ntmps10
  go_wp2_with fail
  refine kS.out.mono ?_
  rintro e w1 ⟨rfl, hb⟩
  go_wp2_with fail
  go_ret
  exact ⟨rfl, hb⟩

set_option maxRecDepth 100000 in
set_option maxHeartbeats 16000000 in
theorem ohn_4 (x : Int) (n1 c1 n2 c2 n3 c3 : Nat) (A1 A2 A3 : Option Addr) (w : World) (h0 : ¬ x < 1) (h1 : ¬ 1073741789 ≤ x) (h2 : ¬ 5 < n1) (h3 : ¬ 8 < n2) (h4 : 6 < n3) (hL : Laid w) :
    Calls Tryd.prog 10 #[.int .i64 x, .slice A1 n1 c1, .slice A2 n2 c2, .slice A3 n3 c3] w fun e w' => e = .returned (.bool true) ∧ Below w.heap.size w w' := by
  have kS : Hid (Calls Tryd.prog 24 #[] w fun e w' => e = .returned (.bool true) ∧ Below w.heap.size w w') := Lib.hid (osane_any w hL)
  have d0 : decide (x < 1) = false := decide_eq_false (by omega)
  have d1 : decide (1073741789 ≤ x) = false := decide_eq_false (by omega)
  have d2 : decide (5 < (n1 : Int)) = false := decide_eq_false (by omega)
  have d3 : decide (8 < (n2 : Int)) = false := decide_eq_false (by omega)
  have d4 : decide (6 < (n3 : Int)) = true := decide_eq_true (by omega)
  clear hL
  go_enter Tryd.func10, Tryd.ntmps10
  go_wp2_with fail
  refine kS.out.mono ?_
  rintro e w1 ⟨rfl, hb⟩
  go_wp2_with fail
  go_ret
  exact ⟨rfl, hb⟩

set_option maxRecDepth 100000 in
set_option maxHeartbeats 16000000 in
theorem ohn_in (x : Int) (n1 c1 n2 c2 n3 c3 : Nat) (A1 A2 A3 : Option Addr) (w : World) (h0 : ¬ x < 1) (h1 : ¬ 1073741789 ≤ x) (h2 : ¬ 5 < n1) (h3 : ¬ 8 < n2) (h4 : ¬ 6 < n3) (cs : List Cal) (os : List UInt8) (ps : List Po) (hn1 : cs.length = n1) (hn2 : os.length = n2) (hn3 : ps.length = n3) (hc1 : n1 ≤ c1) (hc2 : n2 ≤ c2) (hc3 : n3 ≤ c3) (hcs : CalsAt w A1 cs) (hos : AtO w A2 os) (hps : PsAt w A3 ps) (hci : ∀ y ∈ cs, I64 y.no ∧ ∀ f ∈ y.fx, FxI f) (hpi : ∀ y ∈ ps, PoI y) (hL : Laid w) :
    Calls Tryd.prog 10 #[.int .i64 x, .slice A1 n1 c1, .slice A2 n2 c2, .slice A3 n3 c3] w fun e w' => e = .returned (.bool true) ∧ Below w.heap.size w w' := by
  have kS : Hid (Calls Tryd.prog 24 #[] w fun e w' => e = .returned (.bool true) ∧ Below w.heap.size w w') := Lib.hid (osane_any w hL)
  have d0 : decide (x < 1) = false := decide_eq_false (by omega)
  have d1 : decide (1073741789 ≤ x) = false := decide_eq_false (by omega)
  have d2 : decide (5 < (n1 : Int)) = false := decide_eq_false (by omega)
  have d3 : decide (8 < (n2 : Int)) = false := decide_eq_false (by omega)
  have d4 : decide (6 < (n3 : Int)) = false := decide_eq_false (by omega)
  have hx : AnIn x := ⟨by omega, by omega⟩
  have an : ∀ c : Cal, anE x c = calE c := fun c => if_pos hx
  obtain ⟨K, hK9⟩ : ∃ K, powC 4 x = K := ⟨_, rfl⟩
  have kK : Hid (∀ V, Calls Tryd.prog 36 #[.int .i64 x] V fun e w' => e = .returned (.int .i64 K) ∧ w' = V) := Lib.hid fun V => hK9 ▸ rkey_any x V
  have kM : Hid (∀ (V : World) (y : Cal) (B : Option Addr) (c : Nat), Calls Tryd.prog 25 #[.agg #[.int .i64 y.no, .slice B y.fx.length c]] V fun e w' => e = .returned (.bool (smB y.fx.length)) ∧ Below V.heap.size V w') := Lib.hid fun V y B c => small_any y.no y.fx.length c B V
  have kA : Hid (∀ (V : World) (y : Cal) (B : Option Addr) (c : Nat), Below w.heap.size w V → y.fx.length ≤ c → FxAt V B y.fx → (∀ f ∈ y.fx, FxI f) → Calls Tryd.prog 26 #[.int .i64 x, .agg #[.int .i64 y.no, .slice B y.fx.length c]] V fun e w' => e = .returned (.tuple #[.agg (poA (anP x y)), .int .i64 (calE y)]) ∧ Below V.heap.size V w') := Lib.hid fun V y B c hV hc hB hI => by have := announce_any x y _ c B V rfl hc hB hI (hL.below hV); rw [an] at this; exact this
  have kE : Hid (∀ (V : World) (l k : List Fx) (B B' : Option Addr) (c c' : Nat), FxAt V B l → FxAt V B' k → (∀ f ∈ l, FxI f) → (∀ f ∈ k, FxI f) → l.length ≤ 2000 → Calls Tryd.prog 37 #[.slice B l.length c, .slice B' k.length c'] V fun e w' => e = .returned (.bool (decide (l = k))) ∧ Below V.heap.size V w') := Lib.hid fun V l k B B' c c' h1 h2 h3 h4 h5 => rsame_any l k _ _ c c' B B' V rfl rfl h1 h2 h3 h4 h5
  have kC : Hid (∀ (V : World) (p : Po), p.root.length = 32 → Below w.heap.size w V → Calls Tryd.prog 30 #[.int .i64 K, .agg (poC p).toArray] V fun e w' => e = .returned (.bool (ckP K p)) ∧ Below V.heap.size V w') := Lib.hid fun V p hp hV => ocheck_any K p hp V (hL.below hV)
  have kV : Hid (∀ (V : World) (p q : Po), p.root.length = 32 → q.root.length = 32 → Below w.heap.size w V → Calls Tryd.prog 32 #[.int .i64 K, .agg (poC p).toArray, .agg (poC q).toArray] V fun e w' => e = .returned (.bool (cvP K p q)) ∧ Below V.heap.size V w') := Lib.hid fun V p q hp hq hV => oconvict_any K p q hp hq V (hL.below hV)
  have kF : Hid (∀ (V : World) (L : List Po) (N : Nat) (B : Option Addr) (C : Nat), Below w.heap.size w V → L.length = N → N ≤ 100 → N ≤ C → PsAt V B L → (∀ x ∈ L, x.root.length = 32) → Calls Tryd.prog 34 #[.int .i64 K, .slice B N C] V fun e w' => (∃ (i j : Nat) (ok : Bool), e = .returned (.tuple #[.int .i64 i, .int .i64 j, .bool ok]) ∧ FindP K L i j ok) ∧ Below V.heap.size V w') := Lib.hid fun V L N B C hV h1 h2 h3 h4 h5 => ofind_any K L N B C V h1 (by omega) h3 h4 h5 (hL.below hV)
  have bu1 : Hid (∀ x : Po, x.root.length = 32 → Tryd.prog.builtSlice 49 1 [(0, .agg (poC x).toArray)] = some (poC x).toArray) := Lib.hid builtSlice_po1
  have eqz : ∀ V, (Op.equalIn 10000 49 (.agg (poC poZ).toArray) (.agg (poC poZ).toArray)).run Tryd.prog V = .ok true V := eq_po poZ_I
  have eqz2 : ∀ V, (Op.equalIn 10000 49 (.agg (poC poZ).toArray) (.agg #[.int .i64 0, .int .u8 0, .int .u8 0, .int .u8 0, .int .u8 0, .int .u8 0, .int .u8 0, .int .u8 0, .int .u8 0, .int .u8 0, .int .u8 0, .int .u8 0, .int .u8 0, .int .u8 0, .int .u8 0, .int .u8 0, .int .u8 0, .int .u8 0, .int .u8 0, .int .u8 0, .int .u8 0, .int .u8 0, .int .u8 0, .int .u8 0, .int .u8 0, .int .u8 0, .int .u8 0, .int .u8 0, .int .u8 0, .int .u8 0, .int .u8 0, .int .u8 0, .int .u8 0, .int .i64 0, .int .i64 0])).run Tryd.prog V = .ok true V := eqz
  have anZ : Hid (∀ y : Cal, ¬ CalOk y → anP x y = poZ) := Lib.hid fun y h => if_neg fun e => h e.2
  have anS : Hid (∀ y : Cal, CalOk y → anP x y = poS x y.no (calD y)) := Lib.hid fun y h => if_pos ⟨hx, h⟩
  have bz := Lib.hid built_zero
  have ci := Lib.hid cal_info
  replace hcs := Lib.hid hcs
  replace hos := Lib.hid hos
  replace hps := Lib.hid hps
  replace hci := Lib.hid hci
  replace hpi := Lib.hid hpi
  replace hn1 := Lib.hid hn1
  replace hn2 := Lib.hid hn2
  replace hn3 := Lib.hid hn3
  clear hL hx an hK9
  go_enter Tryd.func10, Tryd.ntmps10
  go_wp2_with fail
  refine kS.out.mono ?_
  rintro e w1 ⟨rfl, hB1⟩
  clear kS
  go_wp2_with fail
  refine (kK.out _).mono ?_
  rintro e wk ⟨rfl, hwk⟩
  subst hwk
  clear kK
  have hbm := hB1.size
  go_wp2_with (refine wpList_makeMap (by rfl) 64 (by rfl) ?_)
  go_loopw [12, 59] (fun s12 s59 wr => ∃ (i : Nat) (D : DataW Value) (M : Int → Option Cal) (all : List Po), i ≤ n1 ∧ s59 = .int .i64 (i : Int) ∧ Below w.heap.size w wr ∧ MapC wr wk.heap.size i D ∧ Rep w D M ∧ RowP wr (wk.heap.size + 1) s12 all ∧ AllI M all ∧ all.length ≤ i) (fun _ s59 _ => n1 - (intOf s59).toNat)
  case atStart => exact ⟨0, .map [], fun _ => none, [], Nat.zero_le _, rfl, hB1.trans ((blow1 _ _).mono hB1.size), MapC.made _, Rep.none w, RowP.nil _ _, AllI.nil _, Nat.le_refl _⟩
  case round =>
    clear hB1
    obtain ⟨i, D, M, all, hin, rfl, hB, hm, hR, hrow, hAll, hlen⟩ := hrel
    by_cases hlt : i < n1
    · obtain ⟨y, hy⟩ : ∃ y, cs[i]? = some y := ⟨_, List.getElem?_eq_getElem (by rw [hn1.out]; exact hlt)⟩
      obtain ⟨hyI, hyF⟩ := hci.out y (List.mem_of_getElem? hy)
      obtain ⟨g, o, B, c, hA, hgl, hr, hcy, hfx⟩ := hcs.out i y hy
      subst hA
      have hr9 := Lib.hid (range_belowB hr hgl hB)
      have i3 : (0 : Int) ≤ (i : Int) := by omega
      have i4 : (i : Int) < (n1 : Int) := by omega
      obtain ⟨rA, rm, rc, rfl⟩ : ∃ A m c, u12 = .slice A m c := by
        obtain ⟨rA, rc, e, _⟩ := hrow.ps fun p hp => (hAll p hp).1.root
        exact ⟨rA, _, rc, e⟩
      have hbg : wk.heap.size < wr.heap.size := hm.lt
      obtain ⟨s, hs⟩ : ∃ s, smB y.fx.length = s := ⟨_, rfl⟩
      have kMy : Hid (∀ V, Calls Tryd.prog 25 #[.agg #[.int .i64 y.no, .slice B y.fx.length c]] V fun e w' => e = .returned (.bool s) ∧ Below V.heap.size V w') := Lib.hid fun V => hs ▸ kM.out V y B c
      replace hyF := Lib.hid hyF
      replace hs := Lib.hid hs
      clear hr hgl hy
      go_wp2_with (first
        | (refine wpList_load_mid (by rfl) 45 (.tmp 61) (by rfl) g (o + i * 2) (by rfl) [.int .i64 y.no, .slice B y.fx.length c] _ hr9.out Tryd.underlying45 (by rfl) ci.out ?_))
      have hb9 := blow1 wr (.cells #[.int .i64 y.no, .slice B y.fx.length c] 45)
      replace hB := hB.trans (hb9.mono hB.size)
      replace hm := hm.below hb9
      replace hrow := hrow.below hb9
      have hd9 := heap_alloc_new wr (.cells #[.int .i64 y.no, .slice B y.fx.length c] 45)
      have h14 : Hid (∀ V, Below (wr.alloc (.cells #[.int .i64 y.no, .slice B y.fx.length c] 45)).heap.size (wr.alloc (.cells #[.int .i64 y.no, .slice B y.fx.length c] 45)) V → V.cell? ⟨wr.heap.size, 0, none⟩ = some (.int .i64 y.no) ∧ V.cell? ⟨wr.heap.size, 1, none⟩ = some (.slice B y.fx.length c)) := Lib.hid (fun V hV => ⟨by rw [cell_of_row _ _ _ _ _ _ ((hV.block _ (Array.getElem?_eq_some_iff.1 hd9).1).trans hd9)]; rfl, by rw [cell_of_row _ _ _ _ _ _ ((hV.block _ (Array.getElem?_eq_some_iff.1 hd9).1).trans hd9)]; rfl⟩)
      clear hb9 hd9
      refine (kMy.out _).mono ?_
      rintro e w5 ⟨rfl, hb⟩
      replace hB := hB.trans (hb.mono hB.size)
      replace hm := hm.below hb
      replace hrow := hrow.below hb
      replace h14 := up h14 hb
      clear hb hr9
      cases s with
      | false =>
        go_wp2_with fail
        refine bodyPost_ret (v := .bool true) (by simp [results, Tryd.results10, go_sem]) rfl ⟨rfl, hB⟩
      | true =>
        obtain ⟨e0, e1⟩ := h14.out _ (Below.refl _ _)
        have hsm := smB_le hs.out
        have rep := hR.2 y.no
        cases hM : M y.no with
        | none =>
          rw [hM] at rep
          have lk := look_none hm hyI rep
          have hmore : ∀ k z, M k = some z → (fun k => if k = y.no then some y else M k) k = some z := fun k z h => by
            by_cases e : k = y.no
            · rw [e, hM] at h; cases h
            · simp only [if_neg e]; exact h
          clear rep
          have hb9 := blow1 w5 (.cells #[.int .i64 0, .slice none 0 0] 45)
          replace hB := hB.trans (hb9.mono hB.size)
          replace hm := hm.below hb9
          replace hrow := hrow.below hb9
          have hd9 := heap_alloc_new w5 (.cells #[.int .i64 0, .slice none 0 0] 45)
          have h15 : Hid (∀ V, Below (w5.alloc (.cells #[.int .i64 0, .slice none 0 0] 45)).heap.size (w5.alloc (.cells #[.int .i64 0, .slice none 0 0] 45)) V → V.cell? ⟨w5.heap.size, 0, none⟩ = some (.int .i64 0) ∧ V.cell? ⟨w5.heap.size, 1, none⟩ = some (.slice none 0 0)) := Lib.hid (fun V hV => ⟨by rw [cell_of_row _ _ _ _ _ _ ((hV.block _ (Array.getElem?_eq_some_iff.1 hd9).1).trans hd9)]; rfl, by rw [cell_of_row _ _ _ _ _ _ ((hV.block _ (Array.getElem?_eq_some_iff.1 hd9).1).trans hd9)]; rfl⟩)
          replace h14 := up h14 hb9
          clear hb9 hd9
          obtain ⟨q0, q1⟩ := h14.out _ (Below.refl _ _)
          clear h15
          go_wp2_with (first
            | (refine wpList_look (by rfl) (.tmp 67) (.tmp 69) (by rfl) wk.heap.size y.no _ (by rfl) (by rfl) lk ?_)
            | (refine wpList_upd _ (by rfl) (.tmp 82) (.tmp 84) (.tmp 85) (by rfl) wk.heap.size i D y.no (.agg #[.int .i64 y.no, .slice B y.fx.length c]) (by rfl) (by rfl) (by rfl) hyI hm (by omega) ?_; intro w7 hm7 hg7; replace h14 := Lib.hid (cells_upd (h14.out _ (Below.refl _ _)) hg7 hbg); replace hB := hB.grown hg7 hB.size (fun k e => by have := Option.some.inj e; omega); replace hrow := RowP.upd hrow hg7; replace hm := hm7; clear hm7 hg7 q0 q1; obtain ⟨q0, q1⟩ := h14.out _ (Below.refl _ _)))
          have hR2 := hR.put y B c hcy hfx hyF.out hsm
          have hA2 := hAll.more hmore
          clear q0 q1
          by_cases hok : CalOk y
          · obtain ⟨p, hp9⟩ : ∃ p, anP x y = p := ⟨_, rfl⟩
            have hpI : PoI p := hp9 ▸ anP_I x y
            have hpS := (anS.out y hok).symm.trans hp9
            have hpn : p.no = y.no := by rw [← hpS]; rfl
            have hpr : p.root = calD y := by rw [← hpS]; rfl
            have kAz : Hid (∀ V, Below w.heap.size w V → Calls Tryd.prog 26 #[.int .i64 x, .agg #[.int .i64 y.no, .slice B y.fx.length c]] V fun e w' => e = .returned (.tuple #[.agg (poA p), .int .i64 0]) ∧ Below V.heap.size V w') := Lib.hid fun V hV => by have := kA.out V y B c hV hcy (hfx.below hV) hyF.out; rw [hp9, show calE y = 0 from if_pos hok] at this; exact this
            have ip := Lib.hid (po_info' hpI.root)
            have jp := Lib.hid (po_info hpI.root)
            have sp := Lib.hid (poA_size hpI.root).symm
            have op := Lib.hid (poA_one p)
            have bup := Lib.hid (bu1.out p hpI.root)
            have hA3 := hA2.add hpI (y := y) (by rw [hpn]; simp) hpr
            have hrt := Lib.hid (show ∀ q ∈ [p], q.root.length = 32 from fun q hq => by simp at hq; subst hq; exact hpI.root)
            have hl9 := Lib.hid (show all.length ≤ 1000000 by omega)
            clear hp9 hpI hpS hpn hpr
            refine (kAz.out _ hB).mono ?_
            rintro e w8 ⟨rfl, hb⟩
            replace hB := hB.trans (hb.mono hB.size)
            replace hm := hm.below hb
            replace hrow := hrow.below hb
            clear hb
            go_wp2_with (first
              | (refine wpList_new_row' (by rfl) 49 (.tmp 17) (.tmp 90) (by rfl) (by rfl) (poA p) w8.heap.size (by rfl) rfl (by rfl) 49 _ jp.out sp.out op.out ?_; intro w9 hd hz hB9; replace hB := hB.trans (hB9.mono hB.size); replace hm := hm.below hB9; replace hrow := hrow.below hB9; have h17 : Hid (∀ V, Below w9.heap.size w9 V → V.rangeAt w8.heap.size 0 (poC p)) := Lib.hid (fun V hV => po_row ((hV.block _ (Array.getElem?_eq_some_iff.1 hd).1).trans hd)); clear hd hz hB9)
              | (refine wpList_load_mid (by rfl) 49 (.tmp 17) (by rfl) w8.heap.size 0 (by rfl) (poC p) _ (h17.out _ (Below.refl _ _)) Tryd.underlying49 (by rfl) ip.out ?_)
              | (refine wpList_built (by rfl) 53 49 1 #[(0, .tmp 95)] (by rfl) Tryd.underlying53 (poC p).toArray (by simp only [List.map_toArray, List.map_cons, List.map_nil]; exact bup.out) ?_)
              | (refine wpList_appP _ (by rfl) (.tmp 94) (.tmp 96) (by rfl) (wk.heap.size + 1) (.slice rA rm rc) all [p] (some ⟨w9.heap.size, 0, none⟩) 1 1 (by rfl) (by rfl) (by rfl) (psAt_row hrt.out (heap_alloc_new w9 (.cells (poC p).toArray 49)) (by simp [psC])) (hrow.below (blow1 w9 _)) hrt.out hl9.out (by decide) (by simp; have := hm.lt; omega) ?_; intro row' w10 hrow10 hg10; replace hm := (hm.below (blow1 w9 (.cells (poC p).toArray 49))).kept hg10 (fun e => by have := ((hrow.below (blow1 w9 (.cells (poC p).toArray 49))).high e.symm).1; omega); replace hB := RowP.grown (hrow.below (blow1 w9 _)) (hB.trans ((blow1 w9 (.cells (poC p).toArray 49)).mono hB.size)) (by omega) (by simp; exact Nat.le_succ_of_le hB.size) hg10))
            go_roundw
            case rel => exact ⟨i + 1, (D.put (.int .i64 y.no) (.held (.agg #[.int .i64 y.no, .slice B y.fx.length c]))), (fun k => if k = y.no then some y else M k), all ++ [p], by omega, by go_num, hB, hm, hR2, hrow10, hA3, by simp; omega⟩
            case measure => simp [intOf]; omega
          · have kAz : Hid (∀ V, Below w.heap.size w V → Calls Tryd.prog 26 #[.int .i64 x, .agg #[.int .i64 y.no, .slice B y.fx.length c]] V fun e w' => e = .returned (.tuple #[.agg (poA poZ), .int .i64 350]) ∧ Below V.heap.size V w') := Lib.hid fun V hV => by have := kA.out V y B c hV hcy (hfx.below hV) hyF.out; rw [anZ.out y hok, show calE y = 350 from if_neg hok] at this; exact this
            have ip := Lib.hid (po_info' (p := poZ) zero32_len)
            have jp := Lib.hid (po_info (p := poZ) zero32_len)
            have op := Lib.hid (poA_one poZ)
            refine (kAz.out _ hB).mono ?_
            rintro e w8 ⟨rfl, hb⟩
            replace hB := hB.trans (hb.mono hB.size)
            replace hm := hm.below hb
            replace hrow := hrow.below hb
            clear hb
            go_wp2_with (first
              | (refine wpList_new_row' (by rfl) 49 (.tmp 17) (.tmp 90) (by rfl) (by rfl) (poA poZ) w8.heap.size (by rfl) rfl (by rfl) 49 _ jp.out rfl op.out ?_; intro w9 hd hz hB9; replace hB := hB.trans (hB9.mono hB.size); replace hm := hm.below hB9; replace hrow := hrow.below hB9; have h17 : Hid (∀ V, Below w9.heap.size w9 V → V.rangeAt w8.heap.size 0 (poC poZ)) := Lib.hid (fun V hV => po_row ((hV.block _ (Array.getElem?_eq_some_iff.1 hd).1).trans hd)); clear hd hz hB9)
              | (refine wpList_load_midG (by rfl) 49 (.tmp 17) (by rfl) w8.heap.size 0 (by rfl) (poC poZ) _ (h17.out _ (Below.refl _ _)) Tryd.underlying49 (by rfl) ip.out ?_)
              | (refine wpList_buildG (by rfl) 49 #[] (by rfl) (poC poZ).toArray bz.out ?_))
            go_roundw
            case rel => exact ⟨i + 1, (D.put (.int .i64 y.no) (.held (.agg #[.int .i64 y.no, .slice B y.fx.length c]))), (fun k => if k = y.no then some y else M k), all, by omega, by go_num, hB, hm, hR2, hrow, hA2, by omega⟩
            case measure => simp [intOf]; omega
        | some z =>
          rw [hM] at rep
          obtain ⟨B', c', hat, hz0, hzc, hzf, hzI, hzl⟩ := rep
          have lk := look_some hm hyI hat
          obtain ⟨r, hr⟩ : ∃ r, decide (y.fx = z.fx) = r := ⟨_, rfl⟩
          have kEy : Hid (∀ V, Below w.heap.size w V → Calls Tryd.prog 37 #[.slice B y.fx.length c, .slice B' z.fx.length c'] V fun e w' => e = .returned (.bool r) ∧ Below V.heap.size V w') := Lib.hid fun V hV => hr ▸ kE.out V y.fx z.fx B B' c c' (hfx.below hV) (hzf.below hV) hyF.out hzI (by omega)
          replace hr := Lib.hid hr
          replace hz0 := Lib.hid hz0
          clear hat hzI
          have hb9 := blow1 w5 (.cells #[.int .i64 z.no, .slice B' z.fx.length c'] 45)
          replace hB := hB.trans (hb9.mono hB.size)
          replace hm := hm.below hb9
          replace hrow := hrow.below hb9
          have hd9 := heap_alloc_new w5 (.cells #[.int .i64 z.no, .slice B' z.fx.length c'] 45)
          have h15 : Hid (∀ V, Below (w5.alloc (.cells #[.int .i64 z.no, .slice B' z.fx.length c'] 45)).heap.size (w5.alloc (.cells #[.int .i64 z.no, .slice B' z.fx.length c'] 45)) V → V.cell? ⟨w5.heap.size, 0, none⟩ = some (.int .i64 z.no) ∧ V.cell? ⟨w5.heap.size, 1, none⟩ = some (.slice B' z.fx.length c')) := Lib.hid (fun V hV => ⟨by rw [cell_of_row _ _ _ _ _ _ ((hV.block _ (Array.getElem?_eq_some_iff.1 hd9).1).trans hd9)]; rfl, by rw [cell_of_row _ _ _ _ _ _ ((hV.block _ (Array.getElem?_eq_some_iff.1 hd9).1).trans hd9)]; rfl⟩)
          replace h14 := up h14 hb9
          clear hb9 hd9
          obtain ⟨q0, q1⟩ := h14.out _ (Below.refl _ _)
          obtain ⟨f0, f1⟩ := h15.out _ (Below.refl _ _)
          go_wp2_with (first
            | (refine wpList_look (by rfl) (.tmp 67) (.tmp 69) (by rfl) wk.heap.size y.no _ (by rfl) (by rfl) lk ?_))
          refine (kEy.out _ hB).mono ?_
          rintro e w6' ⟨rfl, hb⟩
          replace hB := hB.trans (hb.mono hB.size)
          replace hm := hm.below hb
          replace hrow := hrow.below hb
          replace h14 := up h14 hb
          clear hb e0 e1 f0 f1 q0 q1 h15
          obtain ⟨q0, q1⟩ := h14.out _ (Below.refl _ _)
          cases r with
          | false =>
            go_wp2_with fail
            go_roundw
            case rel => exact ⟨i + 1, D, M, all, by omega, by go_num, hB, World.ownsMap.mono hm (Nat.le_succ i), hR, hrow, hAll, by omega⟩
            case measure => simp [intOf]; omega
          | true =>
            have hyz : y = z := by
              have e9 := of_decide_eq_true hr.out
              obtain ⟨na, fa⟩ := y
              obtain ⟨nb, fb⟩ := z
              have h9 := hz0.out
              dsimp only at e9 h9
              rw [e9, h9]
            have hmore : ∀ k z', M k = some z' → (fun k => if k = y.no then some y else M k) k = some z' := fun k z' h => by
              by_cases e : k = y.no
              · rw [e, hM] at h
                simp only [e, if_true]
                rw [← h, hyz]
              · simp only [if_neg e]; exact h
            clear hyz
            go_wp2_with (first
              | (refine wpList_upd _ (by rfl) (.tmp 82) (.tmp 84) (.tmp 85) (by rfl) wk.heap.size i D y.no (.agg #[.int .i64 y.no, .slice B y.fx.length c]) (by rfl) (by rfl) (by rfl) hyI hm (by omega) ?_; intro w7 hm7 hg7; replace h14 := Lib.hid (cells_upd (h14.out _ (Below.refl _ _)) hg7 hbg); replace hB := hB.grown hg7 hB.size (fun k e => by have := Option.some.inj e; omega); replace hrow := RowP.upd hrow hg7; replace hm := hm7; clear hm7 hg7 q0 q1; obtain ⟨q0, q1⟩ := h14.out _ (Below.refl _ _)))
            have hR2 := hR.put y B c hcy hfx hyF.out hsm
            have hA2 := hAll.more hmore
            clear q0 q1
            by_cases hok : CalOk y
            · obtain ⟨p, hp9⟩ : ∃ p, anP x y = p := ⟨_, rfl⟩
              have hpI : PoI p := hp9 ▸ anP_I x y
              have hpS := (anS.out y hok).symm.trans hp9
              have hpn : p.no = y.no := by rw [← hpS]; rfl
              have hpr : p.root = calD y := by rw [← hpS]; rfl
              have kAz : Hid (∀ V, Below w.heap.size w V → Calls Tryd.prog 26 #[.int .i64 x, .agg #[.int .i64 y.no, .slice B y.fx.length c]] V fun e w' => e = .returned (.tuple #[.agg (poA p), .int .i64 0]) ∧ Below V.heap.size V w') := Lib.hid fun V hV => by have := kA.out V y B c hV hcy (hfx.below hV) hyF.out; rw [hp9, show calE y = 0 from if_pos hok] at this; exact this
              have ip := Lib.hid (po_info' hpI.root)
              have jp := Lib.hid (po_info hpI.root)
              have sp := Lib.hid (poA_size hpI.root).symm
              have op := Lib.hid (poA_one p)
              have bup := Lib.hid (bu1.out p hpI.root)
              have hA3 := hA2.add hpI (y := y) (by rw [hpn]; simp) hpr
              have hrt := Lib.hid (show ∀ q ∈ [p], q.root.length = 32 from fun q hq => by simp at hq; subst hq; exact hpI.root)
              have hl9 := Lib.hid (show all.length ≤ 1000000 by omega)
              clear hp9 hpI hpS hpn hpr
              refine (kAz.out _ hB).mono ?_
              rintro e w8 ⟨rfl, hb⟩
              replace hB := hB.trans (hb.mono hB.size)
              replace hm := hm.below hb
              replace hrow := hrow.below hb
              clear hb
              go_wp2_with (first
                | (refine wpList_new_row' (by rfl) 49 (.tmp 17) (.tmp 90) (by rfl) (by rfl) (poA p) w8.heap.size (by rfl) rfl (by rfl) 49 _ jp.out sp.out op.out ?_; intro w9 hd hz hB9; replace hB := hB.trans (hB9.mono hB.size); replace hm := hm.below hB9; replace hrow := hrow.below hB9; have h17 : Hid (∀ V, Below w9.heap.size w9 V → V.rangeAt w8.heap.size 0 (poC p)) := Lib.hid (fun V hV => po_row ((hV.block _ (Array.getElem?_eq_some_iff.1 hd).1).trans hd)); clear hd hz hB9)
                | (refine wpList_load_mid (by rfl) 49 (.tmp 17) (by rfl) w8.heap.size 0 (by rfl) (poC p) _ (h17.out _ (Below.refl _ _)) Tryd.underlying49 (by rfl) ip.out ?_)
                | (refine wpList_built (by rfl) 53 49 1 #[(0, .tmp 95)] (by rfl) Tryd.underlying53 (poC p).toArray (by simp only [List.map_toArray, List.map_cons, List.map_nil]; exact bup.out) ?_)
                | (refine wpList_appP _ (by rfl) (.tmp 94) (.tmp 96) (by rfl) (wk.heap.size + 1) (.slice rA rm rc) all [p] (some ⟨w9.heap.size, 0, none⟩) 1 1 (by rfl) (by rfl) (by rfl) (psAt_row hrt.out (heap_alloc_new w9 (.cells (poC p).toArray 49)) (by simp [psC])) (hrow.below (blow1 w9 _)) hrt.out hl9.out (by decide) (by simp; have := hm.lt; omega) ?_; intro row' w10 hrow10 hg10; replace hm := (hm.below (blow1 w9 (.cells (poC p).toArray 49))).kept hg10 (fun e => by have := ((hrow.below (blow1 w9 (.cells (poC p).toArray 49))).high e.symm).1; omega); replace hB := RowP.grown (hrow.below (blow1 w9 _)) (hB.trans ((blow1 w9 (.cells (poC p).toArray 49)).mono hB.size)) (by omega) (by simp; exact Nat.le_succ_of_le hB.size) hg10))
              go_roundw
              case rel => exact ⟨i + 1, (D.put (.int .i64 y.no) (.held (.agg #[.int .i64 y.no, .slice B y.fx.length c]))), (fun k => if k = y.no then some y else M k), all ++ [p], by omega, by go_num, hB, hm, hR2, hrow10, hA3, by simp; omega⟩
              case measure => simp [intOf]; omega
            · have kAz : Hid (∀ V, Below w.heap.size w V → Calls Tryd.prog 26 #[.int .i64 x, .agg #[.int .i64 y.no, .slice B y.fx.length c]] V fun e w' => e = .returned (.tuple #[.agg (poA poZ), .int .i64 350]) ∧ Below V.heap.size V w') := Lib.hid fun V hV => by have := kA.out V y B c hV hcy (hfx.below hV) hyF.out; rw [anZ.out y hok, show calE y = 350 from if_neg hok] at this; exact this
              have ip := Lib.hid (po_info' (p := poZ) zero32_len)
              have jp := Lib.hid (po_info (p := poZ) zero32_len)
              have op := Lib.hid (poA_one poZ)
              refine (kAz.out _ hB).mono ?_
              rintro e w8 ⟨rfl, hb⟩
              replace hB := hB.trans (hb.mono hB.size)
              replace hm := hm.below hb
              replace hrow := hrow.below hb
              clear hb
              go_wp2_with (first
                | (refine wpList_new_row' (by rfl) 49 (.tmp 17) (.tmp 90) (by rfl) (by rfl) (poA poZ) w8.heap.size (by rfl) rfl (by rfl) 49 _ jp.out rfl op.out ?_; intro w9 hd hz hB9; replace hB := hB.trans (hB9.mono hB.size); replace hm := hm.below hB9; replace hrow := hrow.below hB9; have h17 : Hid (∀ V, Below w9.heap.size w9 V → V.rangeAt w8.heap.size 0 (poC poZ)) := Lib.hid (fun V hV => po_row ((hV.block _ (Array.getElem?_eq_some_iff.1 hd).1).trans hd)); clear hd hz hB9)
                | (refine wpList_load_midG (by rfl) 49 (.tmp 17) (by rfl) w8.heap.size 0 (by rfl) (poC poZ) _ (h17.out _ (Below.refl _ _)) Tryd.underlying49 (by rfl) ip.out ?_)
                | (refine wpList_buildG (by rfl) 49 #[] (by rfl) (poC poZ).toArray bz.out ?_))
              go_roundw
              case rel => exact ⟨i + 1, (D.put (.int .i64 y.no) (.held (.agg #[.int .i64 y.no, .slice B y.fx.length c]))), (fun k => if k = y.no then some y else M k), all, by omega, by go_num, hB, hm, hR2, hrow, hA2, by omega⟩
              case measure => simp [intOf]; omega
    · obtain rfl : i = n1 := by omega
      obtain ⟨A4, c4, e4, hcap4, hps4⟩ := hrow.ps fun p hp => (hAll p hp).1.root
      obtain ⟨na, hna⟩ : ∃ na, all.length = na := ⟨_, rfl⟩
      rw [hna] at e4 hcap4 hlen
      subst e4
      replace hps4 := Lib.hid hps4
      replace hna := Lib.hid hna
      have hB4 := hB
      obtain ⟨W4, rfl⟩ : ∃ W : World, W = wr := ⟨_, rfl⟩
      clear hm hR hrow hB
      go_wp2_with fail
      go_loopw [11, 108] (fun s11 s108 wq => ∃ (j : Nat) (L : List Po), j ≤ n3 ∧ s108 = .int .i64 (j : Int) ∧ Below W4.heap.size W4 wq ∧ RowP wq W4.heap.size s11 L ∧ Mine K all L ∧ L.length ≤ j) (fun _ s108 _ => n3 - (intOf s108).toNat)
      case atStart => exact ⟨0, [], Nat.zero_le _, rfl, Below.refl _ _, RowP.nil _ _, Mine.nil _ _, Nat.le_refl _⟩
      case round =>
        obtain ⟨j, L, hjn, rfl, hB2, hrow, hMi, hlen2⟩ := hrel
        by_cases hlt : j < n3
        · obtain ⟨p, hp⟩ : ∃ p, ps[j]? = some p := ⟨_, List.getElem?_eq_getElem (by rw [hn3.out]; exact hlt)⟩
          have hpI := hpi.out p (List.mem_of_getElem? hp)
          obtain ⟨g, o, hA, hgl, hr⟩ := hps.out j p hp
          subst hA
          have hB := hB4.trans (hB2.mono hB4.size)
          have hr9 := Lib.hid (range_belowB hr hgl hB)
          have i3 : (0 : Int) ≤ (j : Int) := by omega
          have i4 : (j : Int) < (n3 : Int) := by omega
          obtain ⟨rA, rn, rc, rfl⟩ : ∃ A m c, u11 = .slice A m c := by
            obtain ⟨rA, rc, e, _⟩ := hrow.ps fun p hp => (hMi p hp).1.root
            exact ⟨rA, _, rc, e⟩
          have ip := Lib.hid (po_info' hpI.root)
          have jp := Lib.hid (po_info hpI.root)
          have sp := Lib.hid (poA_size hpI.root).symm
          have op := Lib.hid (poA_one p)
          have bup := Lib.hid (bu1.out p hpI.root)
          have hrt := Lib.hid (show ∀ q ∈ [p], q.root.length = 32 from fun q hq => by simp at hq; subst hq; exact hpI.root)
          have hl9 := Lib.hid (show L.length ≤ 1000000 by omega)
          obtain ⟨s, hs⟩ : ∃ s, ckP K p = s := ⟨_, rfl⟩
          have kCp : Hid (∀ V, Below w.heap.size w V → Calls Tryd.prog 30 #[.int .i64 K, .agg (poC p).toArray] V fun e w' => e = .returned (.bool s) ∧ Below V.heap.size V w') := Lib.hid fun V hV => hs ▸ kC.out V p hpI.root hV
          have hmi9 : s = false → Mine K all (L ++ [p]) := fun e => hMi.add hpI (.inl (hs.trans e))
          clear hr hgl hp hs hpI
          go_wp2_with (first
            | (refine wpList_load_mid (by rfl) 49 (.tmp 110) (by rfl) g (o + j * 35) (by rfl) (poC p) _ hr9.out Tryd.underlying49 (by rfl) ip.out ?_)
            | (refine wpList_new_row' (by rfl) 49 (.tmp 20) (.tmp 111) (by rfl) (by rfl) (poA p) wr.heap.size (by rfl) rfl (by rfl) 49 _ jp.out sp.out op.out ?_; intro w5 hd hz hB9; replace hB := hB.trans (hB9.mono hB.size); replace hB2 := hB2.trans (hB9.mono hB2.size); replace hrow := hrow.below hB9; have h20 : Hid (∀ V, Below w5.heap.size w5 V → V.rangeAt wr.heap.size 0 (poC p)) := Lib.hid (fun V hV => po_row ((hV.block _ (Array.getElem?_eq_some_iff.1 hd).1).trans hd)); clear hd hz hB9)
            | (refine wpList_load_mid (by rfl) 49 (.tmp 20) (by rfl) wr.heap.size 0 (by rfl) (poC p) _ (h20.out _ (Below.refl _ _)) Tryd.underlying49 (by rfl) ip.out ?_))
          refine (kCp.out _ hB).mono ?_
          rintro e w6 ⟨rfl, hb⟩
          replace hB := hB.trans (hb.mono hB.size)
          replace hB2 := hB2.trans (hb.mono hB2.size)
          replace hrow := hrow.below hb
          replace h20 := up h20 hb
          clear hb
          cases s with
          | true =>
            go_wp2_with fail
            go_roundw
            case rel => exact ⟨j + 1, L, by omega, by go_num, hB2, hrow, hMi, by omega⟩
            case measure => simp [intOf]; omega
          | false =>
            replace hmi9 := hmi9 rfl
            go_wp2_with (first
              | (refine wpList_load_mid (by rfl) 49 (.tmp 20) (by rfl) wr.heap.size 0 (by rfl) (poC p) _ (h20.out _ (Below.refl _ _)) Tryd.underlying49 (by rfl) ip.out ?_)
              | (refine wpList_built (by rfl) 53 49 1 #[(0, .tmp 117)] (by rfl) Tryd.underlying53 (poC p).toArray (by simp only [List.map_toArray, List.map_cons, List.map_nil]; exact bup.out) ?_)
              | (refine wpList_appP _ (by rfl) (.tmp 116) (.tmp 118) (by rfl) W4.heap.size (.slice rA rn rc) L [p] (some ⟨w6.heap.size, 0, none⟩) 1 1 (by rfl) (by rfl) (by rfl) (psAt_row hrt.out (heap_alloc_new w6 (.cells (poC p).toArray 49)) (by simp [psC])) (hrow.below (blow1 w6 _)) hrt.out hl9.out (by decide) (by simp; exact Nat.le_succ_of_le hB2.size) ?_; intro row' w9 hrow9 hg9; replace hB2 := RowP.grown (hrow.below (blow1 w6 _)) (hB2.trans ((blow1 w6 (.cells (poC p).toArray 49)).mono hB2.size)) (Nat.le_refl _) (by simp; exact Nat.le_succ_of_le hB2.size) hg9))
            go_roundw
            case rel => exact ⟨j + 1, L ++ [p], by omega, by go_num, hB2, hrow9, hmi9, by simp; omega⟩
            case measure => simp [intOf]; omega
        · obtain rfl : j = n3 := by omega
          go_wp2_with fail
          go_loopw [11, 123] (fun s11 s123 wv => ∃ (m : Nat) (L : List Po), m ≤ n2 ∧ s123 = .int .i64 (m : Int) ∧ Below W4.heap.size W4 wv ∧ RowP wv W4.heap.size s11 L ∧ Mine K all L ∧ L.length ≤ 6 + m) (fun _ s123 _ => n2 - (intOf s123).toNat)
          case atStart => exact ⟨0, L, Nat.zero_le _, rfl, hB2, hrow, hMi, by omega⟩
          case round =>
            clear hB2 hrow hMi hlen2
            obtain ⟨m, L, hmn, rfl, hB2, hrow, hMi, hlen2⟩ := hrel
            by_cases hlt : m < n2
            · obtain ⟨b, hb⟩ : ∃ b, os[m]? = some b := ⟨_, List.getElem?_eq_getElem (by rw [hn2.out]; exact hlt)⟩
              obtain ⟨g, o, hA, hcb⟩ := hos.out m b hb
              subst hA
              have hB := hB4.trans (hB2.mono hB4.size)
              have hcell : wr.cell? ⟨g, o + m, none⟩ = some (.int .u8 (b.toNat : Int)) := (hB.cell (p := ⟨g, o + m, none⟩) (World.block_lt_of_cell? w _ hcb)).trans hcb
              have i3 : (0 : Int) ≤ (m : Int) := by omega
              have i4 : (m : Int) < (n2 : Int) := by omega
              have b1 : (b.toNat : Int) < 256 := by have := b.toNat_lt; omega
              obtain ⟨rA, rc, eL, hcapL, _⟩ := hrow.ps fun q hq => (hMi q hq).1.root
              obtain ⟨nl, hnl⟩ : ∃ nl, L.length = nl := ⟨_, rfl⟩
              rw [hnl] at eL hcapL
              subst eL
              have hl9 := Lib.hid (show L.length ≤ 1000000 by omega)
              clear hb hcb
              by_cases hz : 0 < na
              · obtain ⟨k, hk⟩ : ∃ k, b.toNat % na = k := ⟨_, rfl⟩
                have hkn : k < na := hk ▸ Nat.mod_lt _ hz
                obtain ⟨p, hp⟩ : ∃ p, all[k]? = some p := ⟨_, List.getElem?_eq_getElem (by rw [hna.out]; exact hkn)⟩
                have hpI := (hAll p (List.mem_of_getElem? hp)).1
                obtain ⟨g2, o2, hA2, hgl2, hr2⟩ := hps4.out k p hp
                subst hA2
                have hr9 := Lib.hid (range_belowB hr2 hgl2 hB2)
                have tm : Int.tmod (b.toNat : Int) (na : Int) = (k : Int) := by rw [← hk]; exact (Int.ofNat_tmod _ _).symm
                have t0 : ((na : Int) == 0) = false := beq_eq_false_iff_ne.2 (by omega)
                have t1 : decide ((0 : Int) < (na : Int)) = true := decide_eq_true (by omega)
                have t2 : (0 : Int) ≤ (k : Int) := by omega
                have t3 : (k : Int) < (na : Int) := by omega
                obtain ⟨N, hN⟩ : ∃ N, nl + 1 = N := ⟨_, rfl⟩
                have hMi9 := hMi.add hpI (.inr (List.mem_of_getElem? hp))
                have hLN : (L ++ [p]).length = N := by simp [hnl]; omega
                have hRoot9 : ∀ q ∈ L ++ [p], q.root.length = 32 := fun q hq => (hMi9 q hq).1.root
                have ip := Lib.hid (po_info' hpI.root)
                have jp := Lib.hid (po_info hpI.root)
                have sp := Lib.hid (poA_size hpI.root).symm
                have op := Lib.hid (poA_one p)
                have bup := Lib.hid (bu1.out p hpI.root)
                have hrt := Lib.hid (show ∀ q ∈ [p], q.root.length = 32 from fun q hq => by simp at hq; subst hq; exact hpI.root)
                clear hp hpI hr2 hgl2 hk
                by_cases c1 : 1 < N
                · have f1 : decide ((1 : Int) < (N : Int)) = true := decide_eq_true (by omega)
                  by_cases c2 : 128 ≤ b.toNat
                  · have f2 : decide ((128 : Int) ≤ (b.toNat : Int)) = true := decide_eq_true (by omega)
                    go_wp2_with (first
                      | (refine wpList_load_mid (by rfl) 49 (.tmp 137) (by rfl) g2 (o2 + k * 35) (by rfl) (poC p) _ hr9.out Tryd.underlying49 (by rfl) ip.out ?_)
                      | (refine wpList_built (by rfl) 53 49 1 #[(0, .tmp 138)] (by rfl) Tryd.underlying53 (poC p).toArray (by simp only [List.map_toArray, List.map_cons, List.map_nil]; exact bup.out) ?_)
                      | (refine wpList_appP _ (by rfl) (.tmp 130) (.tmp 139) (by rfl) W4.heap.size (.slice rA nl rc) L [p] (some ⟨wr.heap.size, 0, none⟩) 1 1 (by rfl) (by rfl) (by rfl) (psAt_row hrt.out (heap_alloc_new wr (.cells (poC p).toArray 49)) (by simp [psC])) (hrow.below (blow1 wr _)) hrt.out hl9.out (by decide) (by simp; exact Nat.le_succ_of_le hB2.size) ?_; intro row' w9 hrow9 hg9; replace hB2 := RowP.grown (hrow.below (blow1 wr _)) (hB2.trans ((blow1 wr (.cells (poC p).toArray 49)).mono hB2.size)) (Nat.le_refl _) (by simp; exact Nat.le_succ_of_le hB2.size) hg9; obtain ⟨rA9, rc9, e9, hcap9, _⟩ := hrow9.ps hRoot9; rw [hLN] at e9 hcap9; subst e9))
                    obtain ⟨x0, hx0⟩ : ∃ q, (L ++ [p])[0]? = some q := ⟨_, List.getElem?_eq_getElem (by rw [hLN]; omega)⟩
                    obtain ⟨e1, he1⟩ : ∃ e1, N - 1 = e1 := ⟨_, rfl⟩
                    obtain ⟨x1, hx1⟩ : ∃ q, (L ++ [p])[e1]? = some q := ⟨_, List.getElem?_eq_getElem (by rw [hLN]; omega)⟩
                    have hroot : ∀ q ∈ (L ++ [p]), q.root.length = 32 := fun q hq => (hMi9 q hq).1.root
                    have hm0 := List.mem_of_getElem? hx0
                    have hm1 := List.mem_of_getElem? hx1
                    obtain ⟨gr, eA, hgr, -⟩ := RowP.addr hrow9 (by rw [hLN]; omega)
                    subst eA
                    obtain ⟨A8, c8, e8, _, hps8⟩ := RowP.ps hrow9 hroot
                    have e8a : some (⟨gr, 0, none⟩ : Addr) = A8 := by injection e8
                    clear e8
                    subst e8a
                    obtain ⟨g7, o7, e7, hgl7, hr0⟩ := hps8 0 x0 hx0
                    obtain ⟨rfl, rfl⟩ : gr = g7 ∧ 0 = o7 := by injection e7 with h; injection h with h1 h2; exact ⟨h1, h2⟩
                    obtain ⟨g7, o7, e7, _, hr1⟩ := hps8 e1 x1 hx1
                    obtain ⟨rfl, rfl⟩ : gr = g7 ∧ 0 = o7 := by injection e7 with h; injection h with h1 h2; exact ⟨h1, h2⟩
                    simp only [Nat.zero_add, Nat.zero_mul] at hr0 hr1
                    have k1 : (N : Int) - 1 = (e1 : Int) := by omega
                    have k2 : (0 : Int) ≤ (e1 : Int) := by omega
                    have e1s : e1 < 200 := by omega
                    have k5 : IntKind.i64.wrap (e1 : Int) = (e1 : Int) := IntWalk.i64_in _ (by omega)
                    have k3 : (e1 : Int) < (N : Int) := by omega
                    have k4 : (0 : Int) < (N : Int) := by omega
                    have k6 : 0 < N := by omega
                    have p0 := Lib.hid (po_info' (hroot x0 hm0))
                    have p1 := Lib.hid (po_info' (hroot x1 hm1))
                    have hS : Hid (∀ V, Below w9.heap.size w9 V → V.rangeAt gr (e1 * 35) (poC x1) ∧ V.rangeAt gr 0 (poC x0)) := Lib.hid fun V hV => ⟨range_belowB hr1 hgl7 hV, range_belowB hr0 hgl7 hV⟩
                    have HX : Below w9.heap.size w9 w9.drew := (Below.refl _ _).drew
                    have o0 := Lib.hid (poA_one x0)
                    have o1 := Lib.hid (poA_one x1)
                    have s0 := Lib.hid (show 35 = (poC x0).length from (poC_len (hroot x0 hm0)).symm)
                    have s1 := Lib.hid (show 35 = (poC x1).length from (poC_len (hroot x1 hm1)).symm)
                    have hRd := RowP.below hrow9 HX
                    have hBd := hB2.trans (HX.mono hB2.size)
                    have hSt1 := hRd.set hroot (i := 0) (p := x1) (by rw [hLN]; omega) (hroot x1 hm1)
                    have hroot1 : ∀ q ∈ (L ++ [p]).set 0 x1, q.root.length = 32 := fun q hq => ((Mine.put hMi9 (hMi9 x1 hm1) 0) q hq).1.root
                    have hSt2 := hSt1.set hroot1 (i := e1) (p := x0) (by rw [List.length_set, hLN]; omega) (hroot x0 hm0)
                    have hTh1 := Lib.hid (hRd.there hroot (i := 0) (by rw [hLN]; omega))
                    have hTh2 := Lib.hid (hSt1.there hroot1 (i := e1) (by rw [List.length_set, hLN]; omega))
                    have hMi2 := Mine.put (Mine.put hMi9 (hMi9 x1 hm1) 0) (hMi9 x0 hm0) e1
                    have hB8 := setCells_below (setCells_below hBd hgr hBd.size (0 * 35) (poC x1)) hgr (by rw [setCells_size]; exact hBd.size) (e1 * 35) (poC x0)
                    simp only [Nat.zero_mul] at hSt1 hSt2 hTh1 hTh2 hB8
                    clear hx0 hx1 he1 hroot hm0 hm1 hps8 hr0 hr1 hRd hBd hSt1 hroot1 hgl7 hgr
                    try clear hRoot9
                    replace hSt2 := Lib.hid hSt2
                    replace hMi2 := Lib.hid hMi2
                    replace hB8 := Lib.hid hB8
                    refine wp_region_T 12 (fun w' => w'.rangeAt gr (e1 * 35) (poC x1) ∧ w'.rangeAt gr 0 (poC x0)) (by kernel_rfl) (by exact hS.out _ HX) (fun hHeld => ?_)
                    refine wpAnyT_take (i := 0) (oi := { dst := some 149, op := Op.move (Operand.tmp 11), type := 53, pos := "law.go:117", after := #[], guard := none }) (v := ?_) rfl (by kernel_rfl) (by kernel_rfl) (by kernel_rfl) (by kernel_rfl) (fun _ _ _ h => h) (Or.inl ⟨by rfl, ?hy0⟩) hHeld ?rest0
                    case hy0 =>
                      intro w hSw
                      try dsimp only at hSw
                      go_simp
                      try with_reducible rfl
                    try simp only [Act.put, List.setIfInBounds_toArray, List.set_cons_zero, List.set_cons_succ]
                    refine wpAnyT_pure (i := 1) (oi := { dst := some 150, op := Op.move (Operand.tmp 11), type := 53, pos := "law.go:117", after := #[{ on := 13, ground := Ground.gcOnly Departure.lateStores }], guard := none }) (v := ?_) rfl (by kernel_rfl) (by kernel_rfl) (by kernel_rfl) (fun _ _ _ h => h) (Or.inl ⟨by rfl, ?hy1⟩) ?rest1
                    case hy1 =>
                      intro w hSw
                      go_simp
                      try with_reducible rfl
                    try simp only [Act.put, List.setIfInBounds_toArray, List.set_cons_zero, List.set_cons_succ]
                    refine wpAnyT_pure (i := 2) (oi := { dst := some 151, op := Op.move (Operand.tmp 23), type := 3, pos := "law.go:117", after := #[{ on := 13, ground := Ground.gcOnly Departure.lateStores }], guard := none }) (v := ?_) rfl (by kernel_rfl) (by kernel_rfl) (by kernel_rfl) (fun _ _ _ h => h) (Or.inl ⟨by rfl, ?hy2⟩) ?rest2
                    case hy2 =>
                      intro w hSw
                      go_simp
                      try with_reducible rfl
                    try simp only [Act.put, List.setIfInBounds_toArray, List.set_cons_zero, List.set_cons_succ]
                    refine wpAnyT_pure (i := 3) (oi := { dst := some 152, op := Op.binOp BinOp.sub 3 (Operand.tmp 151) (Operand.const (Value.int IntKind.i64 1)) 3, type := 3, pos := "law.go:117", after := #[{ on := 2, ground := Ground.data }, { on := 13, ground := Ground.gcOnly Departure.lateStores }], guard := none }) (v := ?_) rfl (by kernel_rfl) (by kernel_rfl) (by kernel_rfl) (fun _ _ _ h => h) (Or.inl ⟨by rfl, ?hy3⟩) ?rest3
                    case hy3 =>
                      intro w hSw
                      go_simp
                      try with_reducible rfl
                    try simp only [Act.put, List.setIfInBounds_toArray, List.set_cons_zero, List.set_cons_succ]
                    refine wpAnyT_take (i := 4) (oi := { dst := some 153, op := Op.move (Operand.tmp 11), type := 53, pos := "law.go:117", after := #[], guard := none }) (v := ?_) rfl (by kernel_rfl) (by kernel_rfl) (by kernel_rfl) (by kernel_rfl) (fun _ _ _ h => h) (Or.inl ⟨by rfl, ?hy4⟩) hHeld ?rest4
                    case hy4 =>
                      intro w hSw
                      try dsimp only at hSw
                      go_simp
                      try with_reducible rfl
                    try simp only [Act.put, List.setIfInBounds_toArray, List.set_cons_zero, List.set_cons_succ]
                    refine wpAnyT_take (i := 5) (oi := { dst := some 154, op := Op.move (Operand.tmp 23), type := 3, pos := "law.go:117", after := #[], guard := none }) (v := ?_) rfl (by kernel_rfl) (by kernel_rfl) (by kernel_rfl) (by kernel_rfl) (fun _ _ _ h => h) (Or.inl ⟨by rfl, ?hy5⟩) hHeld ?rest5
                    case hy5 =>
                      intro w hSw
                      try dsimp only at hSw
                      go_simp
                      try with_reducible rfl
                    try simp only [Act.put, List.setIfInBounds_toArray, List.set_cons_zero, List.set_cons_succ]
                    refine wpAnyT_take (i := 6) (oi := { dst := some 155, op := Op.binOp BinOp.sub 3 (Operand.tmp 154) (Operand.const (Value.int IntKind.i64 1)) 3, type := 3, pos := "law.go:117", after := #[{ on := 5, ground := Ground.data }], guard := none }) (v := ?_) rfl (by kernel_rfl) (by kernel_rfl) (by kernel_rfl) (by kernel_rfl) (fun _ _ _ h => h) (Or.inl ⟨by rfl, ?hy6⟩) hHeld ?rest6
                    case hy6 =>
                      intro w hSw
                      try dsimp only at hSw
                      go_simp
                      try with_reducible rfl
                    try simp only [Act.put, List.setIfInBounds_toArray, List.set_cons_zero, List.set_cons_succ]
                    refine wpAnyT_take (i := 7) (oi := { dst := some 156, op := Op.indexAddr 53 (Operand.tmp 153) (Operand.tmp 155), type := 0, pos := "law.go:117", after := #[{ on := 4, ground := Ground.data }, { on := 6, ground := Ground.data }], guard := none }) (v := ?_) rfl (by kernel_rfl) (by kernel_rfl) (by kernel_rfl) (by kernel_rfl) (fun _ _ _ h => h) (Or.inl ⟨by rfl, ?hy7⟩) hHeld ?rest7
                    case hy7 =>
                      intro w hSw
                      try dsimp only at hSw
                      go_simp
                      try with_reducible rfl
                    try simp only [Act.put, List.setIfInBounds_toArray, List.set_cons_zero, List.set_cons_succ]
                    refine wpAnyT_take (i := 8) (oi := { dst := some 157, op := Op.load 49 (Operand.tmp 156), type := 49, pos := "law.go:117", after := #[{ on := 7, ground := Ground.data }], guard := none }) (v := _) rfl (by kernel_rfl) (by kernel_rfl) (by kernel_rfl) (by kernel_rfl) (fun _ _ _ h => h) (yieldsIf_load_mid (by rfl) 49 (.tmp 156) rfl gr (e1 * 35) rfl (poC x1) _ (fun _ h => h.1) Tryd.underlying49 rfl p1.out) hHeld ?_
                    try simp only [Act.put, List.setIfInBounds_toArray, List.set_cons_zero, List.set_cons_succ]
                    refine wpAnyT_pure (i := 9) (oi := { dst := some 158, op := Op.move (Operand.tmp 11), type := 53, pos := "law.go:117", after := #[], guard := none }) (v := ?_) rfl (by kernel_rfl) (by kernel_rfl) (by kernel_rfl) (fun _ _ _ h => h) (Or.inl ⟨by rfl, ?hy9⟩) ?rest9
                    case hy9 =>
                      intro w hSw
                      go_simp
                      try with_reducible rfl
                    try simp only [Act.put, List.setIfInBounds_toArray, List.set_cons_zero, List.set_cons_succ]
                    refine wpAnyT_pure (i := 10) (oi := { dst := some 159, op := Op.indexAddr 53 (Operand.tmp 158) (Operand.const (Value.int IntKind.i64 0)), type := 0, pos := "law.go:117", after := #[{ on := 9, ground := Ground.data }], guard := none }) (v := ?_) rfl (by kernel_rfl) (by kernel_rfl) (by kernel_rfl) (fun _ _ _ h => h) (Or.inl ⟨by rfl, ?hy10⟩) ?rest10
                    case hy10 =>
                      intro w hSw
                      go_simp
                      try with_reducible rfl
                    try simp only [Act.put, List.setIfInBounds_toArray, List.set_cons_zero, List.set_cons_succ]
                    refine wpAnyT_take (i := 11) (oi := { dst := some 160, op := Op.load 49 (Operand.tmp 159), type := 49, pos := "law.go:117", after := #[{ on := 10, ground := Ground.data }], guard := none }) (v := _) rfl (by kernel_rfl) (by kernel_rfl) (by kernel_rfl) (by kernel_rfl) (fun _ _ _ h => h) (yieldsIf_load_mid (by rfl) 49 (.tmp 159) rfl gr 0 rfl (poC x0) _ (fun _ h => h.2) Tryd.underlying49 rfl p0.out) hHeld ?_
                    try simp only [Act.put, List.setIfInBounds_toArray, List.set_cons_zero, List.set_cons_succ]
                    refine wpAnyT_tail (i := 12) (o := { dst := some 161, op := Op.indexAddr 53 (Operand.tmp 149) (Operand.const (Value.int IntKind.i64 0)), type := 0, pos := "law.go:117", after := #[{ on := 0, ground := Ground.data }, { on := 0, ground := Ground.phase }, { on := 1, ground := Ground.textOnly Departure.lateStores }, { on := 2, ground := Ground.textOnly Departure.lateStores }, { on := 3, ground := Ground.textOnly Departure.lateStores }, { on := 4, ground := Ground.phase }, { on := 5, ground := Ground.phase }, { on := 6, ground := Ground.phase }, { on := 7, ground := Ground.phase }, { on := 8, ground := Ground.phase }, { on := 9, ground := Ground.textOnly Departure.lateStores }, { on := 10, ground := Ground.textOnly Departure.lateStoresUnsure }, { on := 11, ground := Ground.phase }], guard := none }) (by kernel_rfl) rfl (by rfl) (fun K hK => ?_)
                    go_simp
                    refine hK.out _ _ ?_
                    clear hK K
                    try simp only [Act.put, List.setIfInBounds_toArray, List.set_cons_zero, List.set_cons_succ]
                    refine wpAnyT_tail (i := 13) (o := { dst := none, op := Op.store 49 (Operand.tmp 161) (Operand.tmp 157), type := 0, pos := "law.go:117", after := #[{ on := 12, ground := Ground.data }, { on := 8, ground := Ground.data }, { on := 0, ground := Ground.phase }, { on := 1, ground := Ground.textOnly Departure.lateStores }, { on := 2, ground := Ground.textOnly Departure.lateStores }, { on := 3, ground := Ground.textOnly Departure.lateStores }, { on := 4, ground := Ground.phase }, { on := 5, ground := Ground.phase }, { on := 6, ground := Ground.phase }, { on := 7, ground := Ground.phase }, { on := 8, ground := Ground.phase }, { on := 9, ground := Ground.textOnly Departure.lateStores }, { on := 10, ground := Ground.textOnly Departure.lateStoresUnsure }, { on := 11, ground := Ground.phase }], guard := none }) (by kernel_rfl) rfl (by rfl) (fun K hK => ?_)
                    rw [if_pos (by rfl)]
                    refine wp_store_mid 49 (.tmp 161) (.tmp 157) (by rfl) gr 0 (poC x1).toArray (by rfl) (by rfl) (by simpa [← s1.out] using hTh1.out) p1.out (by simpa [poA] using o1.out) ?_
                    try simp only [List.toList_toArray]
                    refine hK.out _ _ ?_
                    clear hK K
                    try simp only [Act.put, List.setIfInBounds_toArray, List.set_cons_zero, List.set_cons_succ]
                    refine wpAnyT_tail (i := 14) (o := { dst := some 162, op := Op.indexAddr 53 (Operand.tmp 150) (Operand.tmp 152), type := 0, pos := "law.go:117", after := #[{ on := 1, ground := Ground.data }, { on := 3, ground := Ground.data }, { on := 0, ground := Ground.phase }, { on := 1, ground := Ground.phase }, { on := 2, ground := Ground.phase }, { on := 3, ground := Ground.phase }, { on := 4, ground := Ground.phase }, { on := 5, ground := Ground.phase }, { on := 6, ground := Ground.phase }, { on := 7, ground := Ground.phase }, { on := 8, ground := Ground.phase }, { on := 9, ground := Ground.phase }, { on := 10, ground := Ground.phase }, { on := 11, ground := Ground.phase }, { on := 12, ground := Ground.phase }, { on := 13, ground := Ground.phase }], guard := none }) (by kernel_rfl) rfl (by rfl) (fun K hK => ?_)
                    go_simp
                    refine hK.out _ _ ?_
                    clear hK K
                    try simp only [Act.put, List.setIfInBounds_toArray, List.set_cons_zero, List.set_cons_succ]
                    refine wpAnyT_tail (i := 15) (o := { dst := none, op := Op.store 49 (Operand.tmp 162) (Operand.tmp 160), type := 0, pos := "law.go:117", after := #[{ on := 14, ground := Ground.data }, { on := 11, ground := Ground.data }, { on := 13, ground := Ground.chain }, { on := 0, ground := Ground.phase }, { on := 1, ground := Ground.phase }, { on := 2, ground := Ground.phase }, { on := 3, ground := Ground.phase }, { on := 4, ground := Ground.phase }, { on := 5, ground := Ground.phase }, { on := 6, ground := Ground.phase }, { on := 7, ground := Ground.phase }, { on := 8, ground := Ground.phase }, { on := 9, ground := Ground.phase }, { on := 10, ground := Ground.phase }, { on := 11, ground := Ground.phase }, { on := 12, ground := Ground.phase }, { on := 13, ground := Ground.phase }], guard := none }) (by kernel_rfl) rfl (by rfl) (fun K hK => ?_)
                    rw [if_pos (by rfl)]
                    refine wp_store_mid 49 (.tmp 162) (.tmp 160) (by rfl) gr (e1 * 35) (poC x0).toArray (by rfl) (by rfl) (by simpa [← s0.out] using hTh2.out) p0.out (by simpa [poA] using o0.out) ?_
                    try simp only [List.toList_toArray]
                    refine hK.out _ _ ?_
                    clear hK K
                    try simp only [Act.put, List.setIfInBounds_toArray, List.set_cons_zero, List.set_cons_succ]
                    refine wpAnyT_done (by kernel_rfl) ?_ _
                    go_wp2_with fail
                    go_roundw
                    case rel => exact ⟨m + 1, ((L ++ [p]).set 0 x1).set e1 x0, by omega, by go_num, hB8.out, hSt2.out, hMi2.out, by simp; omega⟩
                    case measure => simp [intOf]; omega
                  · have f2 : decide ((128 : Int) ≤ (b.toNat : Int)) = false := decide_eq_false (by omega)
                    go_wp2_with (first
                      | (refine wpList_load_mid (by rfl) 49 (.tmp 137) (by rfl) g2 (o2 + k * 35) (by rfl) (poC p) _ hr9.out Tryd.underlying49 (by rfl) ip.out ?_)
                      | (refine wpList_built (by rfl) 53 49 1 #[(0, .tmp 138)] (by rfl) Tryd.underlying53 (poC p).toArray (by simp only [List.map_toArray, List.map_cons, List.map_nil]; exact bup.out) ?_)
                      | (refine wpList_appP _ (by rfl) (.tmp 130) (.tmp 139) (by rfl) W4.heap.size (.slice rA nl rc) L [p] (some ⟨wr.heap.size, 0, none⟩) 1 1 (by rfl) (by rfl) (by rfl) (psAt_row hrt.out (heap_alloc_new wr (.cells (poC p).toArray 49)) (by simp [psC])) (hrow.below (blow1 wr _)) hrt.out hl9.out (by decide) (by simp; exact Nat.le_succ_of_le hB2.size) ?_; intro row' w9 hrow9 hg9; replace hB2 := RowP.grown (hrow.below (blow1 wr _)) (hB2.trans ((blow1 wr (.cells (poC p).toArray 49)).mono hB2.size)) (Nat.le_refl _) (by simp; exact Nat.le_succ_of_le hB2.size) hg9; obtain ⟨rA9, rc9, e9, hcap9, _⟩ := hrow9.ps hRoot9; rw [hLN] at e9 hcap9; subst e9))
                    go_roundw
                    case rel => exact ⟨m + 1, (L ++ [p]), by omega, by go_num, hB2, hrow9, hMi9, by simp; omega⟩
                    case measure => simp [intOf]; omega
                · have f1 : decide ((1 : Int) < (N : Int)) = false := decide_eq_false (by omega)
                  go_wp2_with (first
                    | (refine wpList_load_mid (by rfl) 49 (.tmp 137) (by rfl) g2 (o2 + k * 35) (by rfl) (poC p) _ hr9.out Tryd.underlying49 (by rfl) ip.out ?_)
                    | (refine wpList_built (by rfl) 53 49 1 #[(0, .tmp 138)] (by rfl) Tryd.underlying53 (poC p).toArray (by simp only [List.map_toArray, List.map_cons, List.map_nil]; exact bup.out) ?_)
                    | (refine wpList_appP _ (by rfl) (.tmp 130) (.tmp 139) (by rfl) W4.heap.size (.slice rA nl rc) L [p] (some ⟨wr.heap.size, 0, none⟩) 1 1 (by rfl) (by rfl) (by rfl) (psAt_row hrt.out (heap_alloc_new wr (.cells (poC p).toArray 49)) (by simp [psC])) (hrow.below (blow1 wr _)) hrt.out hl9.out (by decide) (by simp; exact Nat.le_succ_of_le hB2.size) ?_; intro row' w9 hrow9 hg9; replace hB2 := RowP.grown (hrow.below (blow1 wr _)) (hB2.trans ((blow1 wr (.cells (poC p).toArray 49)).mono hB2.size)) (Nat.le_refl _) (by simp; exact Nat.le_succ_of_le hB2.size) hg9; obtain ⟨rA9, rc9, e9, hcap9, _⟩ := hrow9.ps hRoot9; rw [hLN] at e9 hcap9; subst e9))
                  go_roundw
                  case rel => exact ⟨m + 1, (L ++ [p]), by omega, by go_num, hB2, hrow9, hMi9, by simp; omega⟩
                  case measure => simp [intOf]; omega
              · obtain rfl : na = 0 := by omega
                have t1 : decide ((0 : Int) < ((0 : Nat) : Int)) = false := by decide
                by_cases c1 : 1 < nl
                · have f1 : decide ((1 : Int) < (nl : Int)) = true := decide_eq_true (by omega)
                  by_cases c2 : 128 ≤ b.toNat
                  · have f2 : decide ((128 : Int) ≤ (b.toNat : Int)) = true := decide_eq_true (by omega)
                    go_wp2_with fail
                    obtain ⟨x0, hx0⟩ : ∃ q, L[0]? = some q := ⟨_, List.getElem?_eq_getElem (by rw [hnl]; omega)⟩
                    obtain ⟨e1, he1⟩ : ∃ e1, nl - 1 = e1 := ⟨_, rfl⟩
                    obtain ⟨x1, hx1⟩ : ∃ q, L[e1]? = some q := ⟨_, List.getElem?_eq_getElem (by rw [hnl]; omega)⟩
                    have hroot : ∀ q ∈ L, q.root.length = 32 := fun q hq => (hMi q hq).1.root
                    have hm0 := List.mem_of_getElem? hx0
                    have hm1 := List.mem_of_getElem? hx1
                    obtain ⟨gr, eA, hgr, -⟩ := RowP.addr hrow (by rw [hnl]; omega)
                    subst eA
                    obtain ⟨A8, c8, e8, _, hps8⟩ := RowP.ps hrow hroot
                    have e8a : some (⟨gr, 0, none⟩ : Addr) = A8 := by injection e8
                    clear e8
                    subst e8a
                    obtain ⟨g7, o7, e7, hgl7, hr0⟩ := hps8 0 x0 hx0
                    obtain ⟨rfl, rfl⟩ : gr = g7 ∧ 0 = o7 := by injection e7 with h; injection h with h1 h2; exact ⟨h1, h2⟩
                    obtain ⟨g7, o7, e7, _, hr1⟩ := hps8 e1 x1 hx1
                    obtain ⟨rfl, rfl⟩ : gr = g7 ∧ 0 = o7 := by injection e7 with h; injection h with h1 h2; exact ⟨h1, h2⟩
                    simp only [Nat.zero_add, Nat.zero_mul] at hr0 hr1
                    have k1 : (nl : Int) - 1 = (e1 : Int) := by omega
                    have k2 : (0 : Int) ≤ (e1 : Int) := by omega
                    have e1s : e1 < 200 := by omega
                    have k5 : IntKind.i64.wrap (e1 : Int) = (e1 : Int) := IntWalk.i64_in _ (by omega)
                    have k3 : (e1 : Int) < (nl : Int) := by omega
                    have k4 : (0 : Int) < (nl : Int) := by omega
                    have k6 : 0 < nl := by omega
                    have p0 := Lib.hid (po_info' (hroot x0 hm0))
                    have p1 := Lib.hid (po_info' (hroot x1 hm1))
                    have hS : Hid (∀ V, Below wr.heap.size wr V → V.rangeAt gr (e1 * 35) (poC x1) ∧ V.rangeAt gr 0 (poC x0)) := Lib.hid fun V hV => ⟨range_belowB hr1 hgl7 hV, range_belowB hr0 hgl7 hV⟩
                    have HX : Below wr.heap.size wr wr.drew := (Below.refl _ _).drew
                    have o0 := Lib.hid (poA_one x0)
                    have o1 := Lib.hid (poA_one x1)
                    have s0 := Lib.hid (show 35 = (poC x0).length from (poC_len (hroot x0 hm0)).symm)
                    have s1 := Lib.hid (show 35 = (poC x1).length from (poC_len (hroot x1 hm1)).symm)
                    have hRd := RowP.below hrow HX
                    have hBd := hB2.trans (HX.mono hB2.size)
                    have hSt1 := hRd.set hroot (i := 0) (p := x1) (by rw [hnl]; omega) (hroot x1 hm1)
                    have hroot1 : ∀ q ∈ L.set 0 x1, q.root.length = 32 := fun q hq => ((Mine.put hMi (hMi x1 hm1) 0) q hq).1.root
                    have hSt2 := hSt1.set hroot1 (i := e1) (p := x0) (by rw [List.length_set, hnl]; omega) (hroot x0 hm0)
                    have hTh1 := Lib.hid (hRd.there hroot (i := 0) (by rw [hnl]; omega))
                    have hTh2 := Lib.hid (hSt1.there hroot1 (i := e1) (by rw [List.length_set, hnl]; omega))
                    have hMi2 := Mine.put (Mine.put hMi (hMi x1 hm1) 0) (hMi x0 hm0) e1
                    have hB8 := setCells_below (setCells_below hBd hgr hBd.size (0 * 35) (poC x1)) hgr (by rw [setCells_size]; exact hBd.size) (e1 * 35) (poC x0)
                    simp only [Nat.zero_mul] at hSt1 hSt2 hTh1 hTh2 hB8
                    clear hx0 hx1 he1 hroot hm0 hm1 hps8 hr0 hr1 hRd hBd hSt1 hroot1 hgl7 hgr
                    try clear hRoot9
                    replace hSt2 := Lib.hid hSt2
                    replace hMi2 := Lib.hid hMi2
                    replace hB8 := Lib.hid hB8
                    refine wp_region_T 12 (fun w' => w'.rangeAt gr (e1 * 35) (poC x1) ∧ w'.rangeAt gr 0 (poC x0)) (by kernel_rfl) (by exact hS.out _ HX) (fun hHeld => ?_)
                    refine wpAnyT_take (i := 0) (oi := { dst := some 149, op := Op.move (Operand.tmp 11), type := 53, pos := "law.go:117", after := #[], guard := none }) (v := ?_) rfl (by kernel_rfl) (by kernel_rfl) (by kernel_rfl) (by kernel_rfl) (fun _ _ _ h => h) (Or.inl ⟨by rfl, ?hya0⟩) hHeld ?resta0
                    case hya0 =>
                      intro w hSw
                      try dsimp only at hSw
                      go_simp
                      try with_reducible rfl
                    try simp only [Act.put, List.setIfInBounds_toArray, List.set_cons_zero, List.set_cons_succ]
                    refine wpAnyT_pure (i := 1) (oi := { dst := some 150, op := Op.move (Operand.tmp 11), type := 53, pos := "law.go:117", after := #[{ on := 13, ground := Ground.gcOnly Departure.lateStores }], guard := none }) (v := ?_) rfl (by kernel_rfl) (by kernel_rfl) (by kernel_rfl) (fun _ _ _ h => h) (Or.inl ⟨by rfl, ?hya1⟩) ?resta1
                    case hya1 =>
                      intro w hSw
                      go_simp
                      try with_reducible rfl
                    try simp only [Act.put, List.setIfInBounds_toArray, List.set_cons_zero, List.set_cons_succ]
                    refine wpAnyT_pure (i := 2) (oi := { dst := some 151, op := Op.move (Operand.tmp 23), type := 3, pos := "law.go:117", after := #[{ on := 13, ground := Ground.gcOnly Departure.lateStores }], guard := none }) (v := ?_) rfl (by kernel_rfl) (by kernel_rfl) (by kernel_rfl) (fun _ _ _ h => h) (Or.inl ⟨by rfl, ?hya2⟩) ?resta2
                    case hya2 =>
                      intro w hSw
                      go_simp
                      try with_reducible rfl
                    try simp only [Act.put, List.setIfInBounds_toArray, List.set_cons_zero, List.set_cons_succ]
                    refine wpAnyT_pure (i := 3) (oi := { dst := some 152, op := Op.binOp BinOp.sub 3 (Operand.tmp 151) (Operand.const (Value.int IntKind.i64 1)) 3, type := 3, pos := "law.go:117", after := #[{ on := 2, ground := Ground.data }, { on := 13, ground := Ground.gcOnly Departure.lateStores }], guard := none }) (v := ?_) rfl (by kernel_rfl) (by kernel_rfl) (by kernel_rfl) (fun _ _ _ h => h) (Or.inl ⟨by rfl, ?hya3⟩) ?resta3
                    case hya3 =>
                      intro w hSw
                      go_simp
                      try with_reducible rfl
                    try simp only [Act.put, List.setIfInBounds_toArray, List.set_cons_zero, List.set_cons_succ]
                    refine wpAnyT_take (i := 4) (oi := { dst := some 153, op := Op.move (Operand.tmp 11), type := 53, pos := "law.go:117", after := #[], guard := none }) (v := ?_) rfl (by kernel_rfl) (by kernel_rfl) (by kernel_rfl) (by kernel_rfl) (fun _ _ _ h => h) (Or.inl ⟨by rfl, ?hya4⟩) hHeld ?resta4
                    case hya4 =>
                      intro w hSw
                      try dsimp only at hSw
                      go_simp
                      try with_reducible rfl
                    try simp only [Act.put, List.setIfInBounds_toArray, List.set_cons_zero, List.set_cons_succ]
                    refine wpAnyT_take (i := 5) (oi := { dst := some 154, op := Op.move (Operand.tmp 23), type := 3, pos := "law.go:117", after := #[], guard := none }) (v := ?_) rfl (by kernel_rfl) (by kernel_rfl) (by kernel_rfl) (by kernel_rfl) (fun _ _ _ h => h) (Or.inl ⟨by rfl, ?hya5⟩) hHeld ?resta5
                    case hya5 =>
                      intro w hSw
                      try dsimp only at hSw
                      go_simp
                      try with_reducible rfl
                    try simp only [Act.put, List.setIfInBounds_toArray, List.set_cons_zero, List.set_cons_succ]
                    refine wpAnyT_take (i := 6) (oi := { dst := some 155, op := Op.binOp BinOp.sub 3 (Operand.tmp 154) (Operand.const (Value.int IntKind.i64 1)) 3, type := 3, pos := "law.go:117", after := #[{ on := 5, ground := Ground.data }], guard := none }) (v := ?_) rfl (by kernel_rfl) (by kernel_rfl) (by kernel_rfl) (by kernel_rfl) (fun _ _ _ h => h) (Or.inl ⟨by rfl, ?hya6⟩) hHeld ?resta6
                    case hya6 =>
                      intro w hSw
                      try dsimp only at hSw
                      go_simp
                      try with_reducible rfl
                    try simp only [Act.put, List.setIfInBounds_toArray, List.set_cons_zero, List.set_cons_succ]
                    refine wpAnyT_take (i := 7) (oi := { dst := some 156, op := Op.indexAddr 53 (Operand.tmp 153) (Operand.tmp 155), type := 0, pos := "law.go:117", after := #[{ on := 4, ground := Ground.data }, { on := 6, ground := Ground.data }], guard := none }) (v := ?_) rfl (by kernel_rfl) (by kernel_rfl) (by kernel_rfl) (by kernel_rfl) (fun _ _ _ h => h) (Or.inl ⟨by rfl, ?hya7⟩) hHeld ?resta7
                    case hya7 =>
                      intro w hSw
                      try dsimp only at hSw
                      go_simp
                      try with_reducible rfl
                    try simp only [Act.put, List.setIfInBounds_toArray, List.set_cons_zero, List.set_cons_succ]
                    refine wpAnyT_take (i := 8) (oi := { dst := some 157, op := Op.load 49 (Operand.tmp 156), type := 49, pos := "law.go:117", after := #[{ on := 7, ground := Ground.data }], guard := none }) (v := _) rfl (by kernel_rfl) (by kernel_rfl) (by kernel_rfl) (by kernel_rfl) (fun _ _ _ h => h) (yieldsIf_load_mid (by rfl) 49 (.tmp 156) rfl gr (e1 * 35) rfl (poC x1) _ (fun _ h => h.1) Tryd.underlying49 rfl p1.out) hHeld ?_
                    try simp only [Act.put, List.setIfInBounds_toArray, List.set_cons_zero, List.set_cons_succ]
                    refine wpAnyT_pure (i := 9) (oi := { dst := some 158, op := Op.move (Operand.tmp 11), type := 53, pos := "law.go:117", after := #[], guard := none }) (v := ?_) rfl (by kernel_rfl) (by kernel_rfl) (by kernel_rfl) (fun _ _ _ h => h) (Or.inl ⟨by rfl, ?hya9⟩) ?resta9
                    case hya9 =>
                      intro w hSw
                      go_simp
                      try with_reducible rfl
                    try simp only [Act.put, List.setIfInBounds_toArray, List.set_cons_zero, List.set_cons_succ]
                    refine wpAnyT_pure (i := 10) (oi := { dst := some 159, op := Op.indexAddr 53 (Operand.tmp 158) (Operand.const (Value.int IntKind.i64 0)), type := 0, pos := "law.go:117", after := #[{ on := 9, ground := Ground.data }], guard := none }) (v := ?_) rfl (by kernel_rfl) (by kernel_rfl) (by kernel_rfl) (fun _ _ _ h => h) (Or.inl ⟨by rfl, ?hya10⟩) ?resta10
                    case hya10 =>
                      intro w hSw
                      go_simp
                      try with_reducible rfl
                    try simp only [Act.put, List.setIfInBounds_toArray, List.set_cons_zero, List.set_cons_succ]
                    refine wpAnyT_take (i := 11) (oi := { dst := some 160, op := Op.load 49 (Operand.tmp 159), type := 49, pos := "law.go:117", after := #[{ on := 10, ground := Ground.data }], guard := none }) (v := _) rfl (by kernel_rfl) (by kernel_rfl) (by kernel_rfl) (by kernel_rfl) (fun _ _ _ h => h) (yieldsIf_load_mid (by rfl) 49 (.tmp 159) rfl gr 0 rfl (poC x0) _ (fun _ h => h.2) Tryd.underlying49 rfl p0.out) hHeld ?_
                    try simp only [Act.put, List.setIfInBounds_toArray, List.set_cons_zero, List.set_cons_succ]
                    refine wpAnyT_tail (i := 12) (o := { dst := some 161, op := Op.indexAddr 53 (Operand.tmp 149) (Operand.const (Value.int IntKind.i64 0)), type := 0, pos := "law.go:117", after := #[{ on := 0, ground := Ground.data }, { on := 0, ground := Ground.phase }, { on := 1, ground := Ground.textOnly Departure.lateStores }, { on := 2, ground := Ground.textOnly Departure.lateStores }, { on := 3, ground := Ground.textOnly Departure.lateStores }, { on := 4, ground := Ground.phase }, { on := 5, ground := Ground.phase }, { on := 6, ground := Ground.phase }, { on := 7, ground := Ground.phase }, { on := 8, ground := Ground.phase }, { on := 9, ground := Ground.textOnly Departure.lateStores }, { on := 10, ground := Ground.textOnly Departure.lateStoresUnsure }, { on := 11, ground := Ground.phase }], guard := none }) (by kernel_rfl) rfl (by rfl) (fun K hK => ?_)
                    go_simp
                    refine hK.out _ _ ?_
                    clear hK K
                    try simp only [Act.put, List.setIfInBounds_toArray, List.set_cons_zero, List.set_cons_succ]
                    refine wpAnyT_tail (i := 13) (o := { dst := none, op := Op.store 49 (Operand.tmp 161) (Operand.tmp 157), type := 0, pos := "law.go:117", after := #[{ on := 12, ground := Ground.data }, { on := 8, ground := Ground.data }, { on := 0, ground := Ground.phase }, { on := 1, ground := Ground.textOnly Departure.lateStores }, { on := 2, ground := Ground.textOnly Departure.lateStores }, { on := 3, ground := Ground.textOnly Departure.lateStores }, { on := 4, ground := Ground.phase }, { on := 5, ground := Ground.phase }, { on := 6, ground := Ground.phase }, { on := 7, ground := Ground.phase }, { on := 8, ground := Ground.phase }, { on := 9, ground := Ground.textOnly Departure.lateStores }, { on := 10, ground := Ground.textOnly Departure.lateStoresUnsure }, { on := 11, ground := Ground.phase }], guard := none }) (by kernel_rfl) rfl (by rfl) (fun K hK => ?_)
                    rw [if_pos (by rfl)]
                    refine wp_store_mid 49 (.tmp 161) (.tmp 157) (by rfl) gr 0 (poC x1).toArray (by rfl) (by rfl) (by simpa [← s1.out] using hTh1.out) p1.out (by simpa [poA] using o1.out) ?_
                    try simp only [List.toList_toArray]
                    refine hK.out _ _ ?_
                    clear hK K
                    try simp only [Act.put, List.setIfInBounds_toArray, List.set_cons_zero, List.set_cons_succ]
                    refine wpAnyT_tail (i := 14) (o := { dst := some 162, op := Op.indexAddr 53 (Operand.tmp 150) (Operand.tmp 152), type := 0, pos := "law.go:117", after := #[{ on := 1, ground := Ground.data }, { on := 3, ground := Ground.data }, { on := 0, ground := Ground.phase }, { on := 1, ground := Ground.phase }, { on := 2, ground := Ground.phase }, { on := 3, ground := Ground.phase }, { on := 4, ground := Ground.phase }, { on := 5, ground := Ground.phase }, { on := 6, ground := Ground.phase }, { on := 7, ground := Ground.phase }, { on := 8, ground := Ground.phase }, { on := 9, ground := Ground.phase }, { on := 10, ground := Ground.phase }, { on := 11, ground := Ground.phase }, { on := 12, ground := Ground.phase }, { on := 13, ground := Ground.phase }], guard := none }) (by kernel_rfl) rfl (by rfl) (fun K hK => ?_)
                    go_simp
                    refine hK.out _ _ ?_
                    clear hK K
                    try simp only [Act.put, List.setIfInBounds_toArray, List.set_cons_zero, List.set_cons_succ]
                    refine wpAnyT_tail (i := 15) (o := { dst := none, op := Op.store 49 (Operand.tmp 162) (Operand.tmp 160), type := 0, pos := "law.go:117", after := #[{ on := 14, ground := Ground.data }, { on := 11, ground := Ground.data }, { on := 13, ground := Ground.chain }, { on := 0, ground := Ground.phase }, { on := 1, ground := Ground.phase }, { on := 2, ground := Ground.phase }, { on := 3, ground := Ground.phase }, { on := 4, ground := Ground.phase }, { on := 5, ground := Ground.phase }, { on := 6, ground := Ground.phase }, { on := 7, ground := Ground.phase }, { on := 8, ground := Ground.phase }, { on := 9, ground := Ground.phase }, { on := 10, ground := Ground.phase }, { on := 11, ground := Ground.phase }, { on := 12, ground := Ground.phase }, { on := 13, ground := Ground.phase }], guard := none }) (by kernel_rfl) rfl (by rfl) (fun K hK => ?_)
                    rw [if_pos (by rfl)]
                    refine wp_store_mid 49 (.tmp 162) (.tmp 160) (by rfl) gr (e1 * 35) (poC x0).toArray (by rfl) (by rfl) (by simpa [← s0.out] using hTh2.out) p0.out (by simpa [poA] using o0.out) ?_
                    try simp only [List.toList_toArray]
                    refine hK.out _ _ ?_
                    clear hK K
                    try simp only [Act.put, List.setIfInBounds_toArray, List.set_cons_zero, List.set_cons_succ]
                    refine wpAnyT_done (by kernel_rfl) ?_ _
                    go_wp2_with fail
                    go_roundw
                    case rel => exact ⟨m + 1, (L.set 0 x1).set e1 x0, by omega, by go_num, hB8.out, hSt2.out, hMi2.out, by simp; omega⟩
                    case measure => simp [intOf]; omega
                  · have f2 : decide ((128 : Int) ≤ (b.toNat : Int)) = false := decide_eq_false (by omega)
                    go_wp2_with fail
                    go_roundw
                    case rel => exact ⟨m + 1, L, by omega, by go_num, hB2, hrow, hMi, by omega⟩
                    case measure => simp [intOf]; omega
                · have f1 : decide ((1 : Int) < (nl : Int)) = false := decide_eq_false (by omega)
                  go_wp2_with fail
                  go_roundw
                  case rel => exact ⟨m + 1, L, by omega, by go_num, hB2, hrow, hMi, by omega⟩
                  case measure => simp [intOf]; omega
            · obtain rfl : m = n2 := by omega
              have hB := hB4.trans (hB2.mono hB4.size)
              have hroot : ∀ q ∈ L, q.root.length = 32 := fun q hq => (hMi q hq).1.root
              obtain ⟨rA, rc, eL, hcapL, hpsL⟩ := hrow.ps hroot
              obtain ⟨nl, hnl⟩ : ∃ nl, L.length = nl := ⟨_, rfl⟩
              rw [hnl] at eL hcapL
              subst eL
              have hL100 : nl ≤ 100 := by omega
              have hno : Hid (∀ p q : Po, p ∈ L → q ∈ L → cvP K p q = false) := Lib.hid fun p q hp hq => Mine.no hAll hMi hp hq
              replace hpsL := Lib.hid hpsL
              replace hnl := Lib.hid hnl
              replace hroot := Lib.hid hroot
              go_wp2_with fail
              refine (kF.out _ L nl rA rc hB hnl.out hL100 hcapL hpsL.out hroot.out).mono ?_
              rintro e w5 ⟨⟨i5, j5, ok5, rfl, hF5⟩, hb⟩
              obtain ⟨z1, z2, rfl⟩ := Mine.find hAll hMi hF5
              have q1 : ((i5 : Int) != 0) = false := by rw [z1]; rfl
              have q2 : ((j5 : Int) != 0) = false := by rw [z2]; rfl
              replace hB := hB.trans (hb.mono hB.size)
              replace hpsL := Lib.hid (hpsL.out.below hb)
              clear z1 z2 hF5 hb hB2 hrow hMi
              go_wp2_with fail
              go_loopw [182] (fun s182 wx => ∃ (a : Nat), a ≤ nl ∧ s182 = .int .i64 (a : Int) ∧ Below w5.heap.size w5 wx) (fun s182 _ => nl - (intOf s182).toNat)
              case atStart => exact ⟨0, Nat.zero_le _, rfl, Below.refl _ _⟩
              case round =>
                obtain ⟨a, han, rfl, hB5⟩ := hrel
                by_cases hla : a < nl
                · obtain ⟨p, hp⟩ : ∃ p, L[a]? = some p := ⟨_, List.getElem?_eq_getElem (by rw [hnl.out]; exact hla)⟩
                  have hpm := List.mem_of_getElem? hp
                  have hpr := hroot.out p hpm
                  obtain ⟨g, o, hA, hgl, hr⟩ := hpsL.out a p hp
                  subst hA
                  have hr9 := Lib.hid (range_belowB hr hgl hB5)
                  have i3 : (0 : Int) ≤ (a : Int) := by omega
                  have i4 : (a : Int) < (nl : Int) := by omega
                  have ip := Lib.hid (po_info' hpr)
                  have jp := Lib.hid (po_info hpr)
                  have sp := Lib.hid (poA_size hpr).symm
                  have op := Lib.hid (poA_one p)
                  obtain ⟨W8, rfl⟩ : ∃ W : World, W = wr := ⟨_, rfl⟩
                  clear hr hgl hp
                  go_wp2_with (first
                    | (refine wpList_load_mid (by rfl) 49 (.tmp 184) (by rfl) g (o + a * 35) (by rfl) (poC p) _ hr9.out Tryd.underlying49 (by rfl) ip.out ?_)
                    | (refine wpList_new_row' (by rfl) 49 (.tmp 28) (.tmp 185) (by rfl) (by rfl) (poA p) W8.heap.size (by rfl) rfl (by rfl) 49 _ jp.out sp.out op.out ?_; intro w6 hd hz hB9; replace hB5 := hB5.trans (hB9.mono hB5.size); have h28 : Hid (∀ V, Below w6.heap.size w6 V → V.rangeAt W8.heap.size 0 (poC p)) := Lib.hid (fun V hV => po_row ((hV.block _ (Array.getElem?_eq_some_iff.1 hd).1).trans hd)); clear hd hz hB9))
                  go_loopw [188] (fun s188 wy => ∃ (b : Nat), b ≤ nl ∧ s188 = .int .i64 (b : Int) ∧ Below w5.heap.size w5 wy ∧ Below w6.heap.size w6 wy) (fun s188 _ => nl - (intOf s188).toNat)
                  case atStart => exact ⟨0, Nat.zero_le _, rfl, hB5, Below.refl _ _⟩
                  case round =>
                    clear hB5
                    obtain ⟨b, hbn, rfl, hB5, hB6⟩ := hrel
                    by_cases hlb : b < nl
                    · obtain ⟨q, hq⟩ : ∃ q, L[b]? = some q := ⟨_, List.getElem?_eq_getElem (by rw [hnl.out]; exact hlb)⟩
                      have hqm := List.mem_of_getElem? hq
                      have hqr := hroot.out q hqm
                      obtain ⟨g2, o2, hA2, hgl2, hr2⟩ := hpsL.out b q hq
                      obtain ⟨rfl, rfl⟩ : g = g2 ∧ o = o2 := by injection hA2 with h; injection h with h1 h2; exact ⟨h1, h2⟩
                      have hr8 := Lib.hid (range_belowB hr2 hgl2 hB5)
                      have i5' : (0 : Int) ≤ (b : Int) := by omega
                      have i6' : (b : Int) < (nl : Int) := by omega
                      have iq := Lib.hid (po_info' hqr)
                      have jq := Lib.hid (po_info hqr)
                      have sq := Lib.hid (poA_size hqr).symm
                      have oq := Lib.hid (poA_one q)
                      have kVy : Hid (∀ V, Below w.heap.size w V → Calls Tryd.prog 32 #[.int .i64 K, .agg (poC p).toArray, .agg (poC q).toArray] V fun e w' => e = .returned (.bool false) ∧ Below V.heap.size V w') := Lib.hid fun V hV => hno.out p q hpm hqm ▸ kV.out V p q hpr hqr hV
                      clear hr2 hgl2 hq hA2
                      go_wp2_with (first
                        | (refine wpList_load_mid (by rfl) 49 (.tmp 190) (by rfl) g (o + b * 35) (by rfl) (poC q) _ hr8.out Tryd.underlying49 (by rfl) iq.out ?_)
                        | (refine wpList_new_row' (by rfl) 49 (.tmp 30) (.tmp 191) (by rfl) (by rfl) (poA q) wr.heap.size (by rfl) rfl (by rfl) 49 _ jq.out sq.out oq.out ?_; intro w7 hd hz hB9; replace hB5 := hB5.trans (hB9.mono hB5.size); replace hB6 := hB6.trans (hB9.mono hB6.size); have h30 : Hid (∀ V, Below w7.heap.size w7 V → V.rangeAt wr.heap.size 0 (poC q)) := Lib.hid (fun V hV => po_row ((hV.block _ (Array.getElem?_eq_some_iff.1 hd).1).trans hd)); clear hd hz hB9)
                        | (refine wpList_load_mid (by rfl) 49 (.tmp 28) (by rfl) W8.heap.size 0 (by rfl) (poC p) _ (h28.out _ hB6) Tryd.underlying49 (by rfl) ip.out ?_)
                        | (refine wpList_load_mid (by rfl) 49 (.tmp 30) (by rfl) wr.heap.size 0 (by rfl) (poC q) _ (h30.out _ (Below.refl _ _)) Tryd.underlying49 (by rfl) iq.out ?_))
                      refine (kVy.out _ (hB.trans (hB5.mono hB.size))).mono ?_
                      rintro e w9 ⟨rfl, hb⟩
                      replace hB5 := hB5.trans (hb.mono hB5.size)
                      replace hB6 := hB6.trans (hb.mono hB6.size)
                      go_wp2_with fail
                      go_roundw
                      case rel => exact ⟨b + 1, by omega, by go_num, hB5, hB6⟩
                      case measure => simp [intOf]; omega
                    · obtain rfl : b = nl := by omega
                      go_wp2_with fail
                      go_roundw
                      case rel => exact ⟨a + 1, by omega, by go_num, hB5⟩
                      case measure => simp [intOf]; omega
                · obtain rfl : a = nl := by omega
                  go_wp2_with fail
                  refine bodyPost_ret (v := .bool true) (by simp [results, Tryd.results10, go_sem]) rfl ⟨rfl, hB.trans (hB5.mono hB.size)⟩

theorem walk_OfficesHonest (a0 : Int) (a1 : List Cal) (a2 : List UInt8) (a3 : List Po) (A1 : Option Addr) (c1 : Nat) (A2 : Option Addr) (c2 : Nat) (A3 : Option Addr) (c3 : Nat) (w : World) (b0 : I64 a0) (lc1 : a1.length ≤ c1) (nc1 : A1 = none → c1 = 0) (cs1 : CalsAt w A1 a1) (ci1 : ∀ y ∈ a1, I64 y.no ∧ ∀ f ∈ y.fx, FxI f) (lc2 : a2.length ≤ c2) (cm2 : c2 ≤ 9223372036854775807) (at2 : AtO w A2 a2) (lc3 : a3.length ≤ c3) (nc3 : A3 = none → c3 = 0) (ps3 : PsAt w A3 a3) (po3 : ∀ y ∈ a3, PoI y) (hL : Laid w) :
    Calls Tryd.prog 10 #[.int .i64 a0, .slice A1 a1.length c1, .slice A2 a2.length c2, .slice A3 a3.length c3] w fun e w' => e = .returned (.bool true) ∧ Below w.heap.size w w' := by
  by_cases h0 : a0 < 1
  · exact ohn_0 a0 _ _ _ _ _ _ A1 A2 A3 w h0 hL
  by_cases h1 : 1073741789 ≤ a0
  · exact ohn_1 a0 _ _ _ _ _ _ A1 A2 A3 w h0 h1 hL
  by_cases h2 : 5 < a1.length
  · exact ohn_2 a0 _ _ _ _ _ _ A1 A2 A3 w h0 h1 h2 hL
  by_cases h3 : 8 < a2.length
  · exact ohn_3 a0 _ _ _ _ _ _ A1 A2 A3 w h0 h1 h2 h3 hL
  by_cases h4 : 6 < a3.length
  · exact ohn_4 a0 _ _ _ _ _ _ A1 A2 A3 w h0 h1 h2 h3 h4 hL
  exact ohn_in a0 _ _ _ _ _ _ A1 A2 A3 w h0 h1 h2 h3 h4 a1 a2 a3 rfl rfl rfl lc1 lc2 lc3 cs1 at2 ps3 ci1 po3 hL
end Go.Proofs.YthokpfegfnpmhaaDoor
