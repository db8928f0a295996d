/- The walk of merkle.Collide where it answers nothing at once. -/
import Derived.Test.YtnccbhndlnkboaaDoorCollG
import Derived.Test.YtnccbhndlnkboaaDoorSealSane
import Derived.Test.YtnccbhndlnkboaaDoorRefG
import Derived.WalkMore
import Derived.Test.YtnccbhndlnkboaaDoorSealM
namespace Go.Proofs.YtnccbhndlnkboaaDoor
open Go.RowKit Go.Shelf Cdc Sha
set_option linter.unusedVariables false
set_option linter.unusedSimpArgs false

set_option maxRecDepth 100000 in
set_option maxHeartbeats 8000000 in
theorem mcoll_e1 (n i : Int) (la lb : List UInt8) (ma mb : Nat) (hma : la.length = ma) (hmb : lb.length = mb) (hmas : ma ≤ 1000000) (hmbs : mb ≤ 1000000) (A B : Option Addr) (ca cb : Nat) (pa pb : List (List UInt8)) (ka kb : Nat) (hka : pa.length = ka) (hkb : pb.length = kb) (hkas : ka ≤ 65536) (hkbs : kb ≤ 65536) (P Q : Option Addr) (cp cq : Nat) (hcp : ka ≤ cp) (hcq : kb ≤ cq) (w : World) (hA : AtO w A la) (hB : AtO w B lb) (hP : DsAt w P pa) (hQ : DsAt w Q pb) (pa32 : ∀ d ∈ pa, d.length = 32) (pb32 : ∀ d ∈ pb, d.length = 32) (hL : Laid w) (h1 : (clV n i la pa).2 ≠ 0) : Calls Tryd.prog 45 #[.int .i64 n, .int .i64 i, .slice A ma ca, .slice B mb cb, .slice P ka cp, .slice Q kb cq] w (CoC (colV n i la lb pa pb) w) := by
  have e0 : colV n i la lb pa pb = ([], [], false) := if_pos (.inl h1)
  rw [e0]
  clear e0
  have hC1 : Hid (Calls Tryd.prog 25 #[.int .i64 n, .int .i64 i, .slice A ma ca, .slice P ka cp] w fun e w' => e = .returned (.tuple #[.agg (dg (clV n i la pa).1), .int .i64 (clV n i la pa).2]) ∧ Below w.heap.size w w') := Lib.hid (mClimb_any n i la ma hma hmas A ca pa ka hka P cp hcp (by omega) w hA hP pa32 hL)
  have hC2 : Hid (∀ V, Below w.heap.size w V → Calls Tryd.prog 25 #[.int .i64 n, .int .i64 i, .slice B mb cb, .slice Q kb cq] V fun e w' => e = .returned (.tuple #[.agg (dg (clV n i lb pb).1), .int .i64 (clV n i lb pb).2]) ∧ Below V.heap.size V w') := Lib.hid fun V hV => mClimb_any n i lb mb hmb hmbs B cb pb kb hkb Q cq hcq (by omega) V (hB.below hV) (hQ.below hV) pb32 (hL.below hV)
  obtain ⟨D1, hD1⟩ : ∃ D1, (clV n i la pa).1 = D1 := ⟨_, rfl⟩
  obtain ⟨E1, hE1⟩ : ∃ E1, (clV n i la pa).2 = E1 := ⟨_, rfl⟩
  obtain ⟨D2, hD2⟩ : ∃ D2, (clV n i lb pb).1 = D2 := ⟨_, rfl⟩
  obtain ⟨E2, hE2⟩ : ∃ E2, (clV n i lb pb).2 = E2 := ⟨_, rfl⟩
  have l1 : D1.length = 32 := hD1 ▸ clV_32 _ _ _ _
  have l2 : D2.length = 32 := hD2 ▸ clV_32 _ _ _ _
  rw [hD1, hE1] at hC1
  rw [hD2, hE2] at hC2
  have p1 := Lib.hid (dg_info D1 l1)
  have p2 := Lib.hid (dg_info D2 l2)
  have j1 := Lib.hid (dc_info l1)
  have j2 := Lib.hid (dc_info l2)
  have o1 := Lib.hid (dg_one D1)
  have o2 := Lib.hid (dg_one D2)
  have s1 : Hid (32 = (dg D1).size) := Lib.hid (by rw [dg_size, l1])
  have s2 : Hid (32 = (dg D2).size) := Lib.hid (by rw [dg_size, l2])
  rw [hE1] at h1
  have z1 : (E1 != 0) = true := by simpa using h1
  clear h1  hD1 hE1 hD2 hE2 l1 l2 hA hB hP hQ hL pa32 pb32 hma hmb hka hkb
  go_enter Tryd.func45, Tryd.ntmps45
  go_wp2_with fail
  apply wp_scope_straight
  go_wp2_with fail
  refine hC1.out.mono ?_
  rintro e w3 ⟨rfl, hb3⟩
  go_wp2_with (refine wpList_new_row (by rfl) 23 (.tmp 15) (.tmp 30) (by rfl) (by rfl) (dg D1) (by rfl) (by rfl) 23 _ p1.out s1.out o1.out ?_; intro w4 hd4 hz4 hB4; have HB4 := Lib.hid (hb3.trans (hB4.mono hb3.size)); clear hB4 hb3; replace hd4 := Lib.hid hd4; replace hz4 := Lib.hid hz4)
  refine (hC2.out _ HB4.out).mono ?_
  rintro e w5 ⟨rfl, hb5⟩
  have HB5 := Lib.hid (HB4.out.trans (hb5.mono HB4.out.size))
  have hd5 := Lib.hid ((hb5.block _ (Array.getElem?_eq_some_iff.1 hd4.out).1).trans hd4.out)
  clear hb5 hd4 hz4
  go_wp2_with (first
    | (refine wpList_new_row (by rfl) 23 (.tmp 17) (.tmp 38) (by rfl) (by rfl) (dg D2) (by rfl) (by rfl) 23 _ p2.out s2.out o2.out ?_; intro w6 hd6 hz6 hB6; have HB6 := Lib.hid (HB5.out.trans (hB6.mono HB5.out.size)); have hr15 := Lib.hid (row_range7 (cs := dc D1) ((hB6.block _ (Array.getElem?_eq_some_iff.1 hd5.out).1).trans hd5.out)); have hr17 := Lib.hid (row_range7 (cs := dc D2) hd6); clear hB6 hd6 hz6 hd5)
    | (refine wpList_load_midG (by rfl) 23 (.tmp 15) (by rfl) w3.heap.size 0 (by rfl) (dc D1) _ hr15.out Tryd.underlying23 (by rfl) j1.out ?_)
    | (refine wpList_load_midG (by rfl) 23 (.tmp 17) (by rfl) w5.heap.size 0 (by rfl) (dc D2) _ hr17.out Tryd.underlying23 (by rfl) j2.out ?_))
  refine bodyPost_ret (v := .tuple #[.slice none 0 0, .slice none 0 0, .bool false]) (by simp [results, Tryd.results45, go_sem]) rfl ⟨none, 0, none, 0, rfl, ato_nil _, ato_nil _, HB6.out⟩
set_option maxRecDepth 100000 in
set_option maxHeartbeats 8000000 in
theorem mcoll_e2 (n i : Int) (la lb : List UInt8) (ma mb : Nat) (hma : la.length = ma) (hmb : lb.length = mb) (hmas : ma ≤ 1000000) (hmbs : mb ≤ 1000000) (A B : Option Addr) (ca cb : Nat) (pa pb : List (List UInt8)) (ka kb : Nat) (hka : pa.length = ka) (hkb : pb.length = kb) (hkas : ka ≤ 65536) (hkbs : kb ≤ 65536) (P Q : Option Addr) (cp cq : Nat) (hcp : ka ≤ cp) (hcq : kb ≤ cq) (w : World) (hA : AtO w A la) (hB : AtO w B lb) (hP : DsAt w P pa) (hQ : DsAt w Q pb) (pa32 : ∀ d ∈ pa, d.length = 32) (pb32 : ∀ d ∈ pb, d.length = 32) (hL : Laid w) (h1 : (clV n i la pa).2 = 0) (h2 : (clV n i lb pb).2 ≠ 0) : Calls Tryd.prog 45 #[.int .i64 n, .int .i64 i, .slice A ma ca, .slice B mb cb, .slice P ka cp, .slice Q kb cq] w (CoC (colV n i la lb pa pb) w) := by
  have e0 : colV n i la lb pa pb = ([], [], false) := if_pos (.inr (.inl h2))
  rw [e0]
  clear e0
  have hC1 : Hid (Calls Tryd.prog 25 #[.int .i64 n, .int .i64 i, .slice A ma ca, .slice P ka cp] w fun e w' => e = .returned (.tuple #[.agg (dg (clV n i la pa).1), .int .i64 (clV n i la pa).2]) ∧ Below w.heap.size w w') := Lib.hid (mClimb_any n i la ma hma hmas A ca pa ka hka P cp hcp (by omega) w hA hP pa32 hL)
  have hC2 : Hid (∀ V, Below w.heap.size w V → Calls Tryd.prog 25 #[.int .i64 n, .int .i64 i, .slice B mb cb, .slice Q kb cq] V fun e w' => e = .returned (.tuple #[.agg (dg (clV n i lb pb).1), .int .i64 (clV n i lb pb).2]) ∧ Below V.heap.size V w') := Lib.hid fun V hV => mClimb_any n i lb mb hmb hmbs B cb pb kb hkb Q cq hcq (by omega) V (hB.below hV) (hQ.below hV) pb32 (hL.below hV)
  obtain ⟨D1, hD1⟩ : ∃ D1, (clV n i la pa).1 = D1 := ⟨_, rfl⟩
  obtain ⟨E1, hE1⟩ : ∃ E1, (clV n i la pa).2 = E1 := ⟨_, rfl⟩
  obtain ⟨D2, hD2⟩ : ∃ D2, (clV n i lb pb).1 = D2 := ⟨_, rfl⟩
  obtain ⟨E2, hE2⟩ : ∃ E2, (clV n i lb pb).2 = E2 := ⟨_, rfl⟩
  have l1 : D1.length = 32 := hD1 ▸ clV_32 _ _ _ _
  have l2 : D2.length = 32 := hD2 ▸ clV_32 _ _ _ _
  rw [hD1, hE1] at hC1
  rw [hD2, hE2] at hC2
  have p1 := Lib.hid (dg_info D1 l1)
  have p2 := Lib.hid (dg_info D2 l2)
  have j1 := Lib.hid (dc_info l1)
  have j2 := Lib.hid (dc_info l2)
  have o1 := Lib.hid (dg_one D1)
  have o2 := Lib.hid (dg_one D2)
  have s1 : Hid (32 = (dg D1).size) := Lib.hid (by rw [dg_size, l1])
  have s2 : Hid (32 = (dg D2).size) := Lib.hid (by rw [dg_size, l2])
  rw [hE1] at h1
  rw [hE2] at h2
  have z1 : (E1 != 0) = false := by rw [h1]; rfl
  have z2 : (E2 != 0) = true := by simpa using h2
  clear h1 h2 hD1 hE1 hD2 hE2 l1 l2 hA hB hP hQ hL pa32 pb32 hma hmb hka hkb
  go_enter Tryd.func45, Tryd.ntmps45
  go_wp2_with fail
  apply wp_scope_straight
  go_wp2_with fail
  refine hC1.out.mono ?_
  rintro e w3 ⟨rfl, hb3⟩
  go_wp2_with (refine wpList_new_row (by rfl) 23 (.tmp 15) (.tmp 30) (by rfl) (by rfl) (dg D1) (by rfl) (by rfl) 23 _ p1.out s1.out o1.out ?_; intro w4 hd4 hz4 hB4; have HB4 := Lib.hid (hb3.trans (hB4.mono hb3.size)); clear hB4 hb3; replace hd4 := Lib.hid hd4; replace hz4 := Lib.hid hz4)
  refine (hC2.out _ HB4.out).mono ?_
  rintro e w5 ⟨rfl, hb5⟩
  have HB5 := Lib.hid (HB4.out.trans (hb5.mono HB4.out.size))
  have hd5 := Lib.hid ((hb5.block _ (Array.getElem?_eq_some_iff.1 hd4.out).1).trans hd4.out)
  clear hb5 hd4 hz4
  go_wp2_with (first
    | (refine wpList_new_row (by rfl) 23 (.tmp 17) (.tmp 38) (by rfl) (by rfl) (dg D2) (by rfl) (by rfl) 23 _ p2.out s2.out o2.out ?_; intro w6 hd6 hz6 hB6; have HB6 := Lib.hid (HB5.out.trans (hB6.mono HB5.out.size)); have hr15 := Lib.hid (row_range7 (cs := dc D1) ((hB6.block _ (Array.getElem?_eq_some_iff.1 hd5.out).1).trans hd5.out)); have hr17 := Lib.hid (row_range7 (cs := dc D2) hd6); clear hB6 hd6 hz6 hd5)
    | (refine wpList_load_midG (by rfl) 23 (.tmp 15) (by rfl) w3.heap.size 0 (by rfl) (dc D1) _ hr15.out Tryd.underlying23 (by rfl) j1.out ?_)
    | (refine wpList_load_midG (by rfl) 23 (.tmp 17) (by rfl) w5.heap.size 0 (by rfl) (dc D2) _ hr17.out Tryd.underlying23 (by rfl) j2.out ?_))
  refine bodyPost_ret (v := .tuple #[.slice none 0 0, .slice none 0 0, .bool false]) (by simp [results, Tryd.results45, go_sem]) rfl ⟨none, 0, none, 0, rfl, ato_nil _, ato_nil _, HB6.out⟩
set_option maxRecDepth 100000 in
set_option maxHeartbeats 8000000 in
theorem mcoll_e3 (n i : Int) (la lb : List UInt8) (ma mb : Nat) (hma : la.length = ma) (hmb : lb.length = mb) (hmas : ma ≤ 1000000) (hmbs : mb ≤ 1000000) (A B : Option Addr) (ca cb : Nat) (pa pb : List (List UInt8)) (ka kb : Nat) (hka : pa.length = ka) (hkb : pb.length = kb) (hkas : ka ≤ 65536) (hkbs : kb ≤ 65536) (P Q : Option Addr) (cp cq : Nat) (hcp : ka ≤ cp) (hcq : kb ≤ cq) (w : World) (hA : AtO w A la) (hB : AtO w B lb) (hP : DsAt w P pa) (hQ : DsAt w Q pb) (pa32 : ∀ d ∈ pa, d.length = 32) (pb32 : ∀ d ∈ pb, d.length = 32) (hL : Laid w) (h1 : (clV n i la pa).2 = 0) (h2 : (clV n i lb pb).2 = 0) (h3 : (clV n i la pa).1 ≠ (clV n i lb pb).1) : Calls Tryd.prog 45 #[.int .i64 n, .int .i64 i, .slice A ma ca, .slice B mb cb, .slice P ka cp, .slice Q kb cq] w (CoC (colV n i la lb pa pb) w) := by
  have e0 : colV n i la lb pa pb = ([], [], false) := if_pos (.inr (.inr (.inl h3)))
  rw [e0]
  clear e0
  have hC1 : Hid (Calls Tryd.prog 25 #[.int .i64 n, .int .i64 i, .slice A ma ca, .slice P ka cp] w fun e w' => e = .returned (.tuple #[.agg (dg (clV n i la pa).1), .int .i64 (clV n i la pa).2]) ∧ Below w.heap.size w w') := Lib.hid (mClimb_any n i la ma hma hmas A ca pa ka hka P cp hcp (by omega) w hA hP pa32 hL)
  have hC2 : Hid (∀ V, Below w.heap.size w V → Calls Tryd.prog 25 #[.int .i64 n, .int .i64 i, .slice B mb cb, .slice Q kb cq] V fun e w' => e = .returned (.tuple #[.agg (dg (clV n i lb pb).1), .int .i64 (clV n i lb pb).2]) ∧ Below V.heap.size V w') := Lib.hid fun V hV => mClimb_any n i lb mb hmb hmbs B cb pb kb hkb Q cq hcq (by omega) V (hB.below hV) (hQ.below hV) pb32 (hL.below hV)
  obtain ⟨D1, hD1⟩ : ∃ D1, (clV n i la pa).1 = D1 := ⟨_, rfl⟩
  obtain ⟨E1, hE1⟩ : ∃ E1, (clV n i la pa).2 = E1 := ⟨_, rfl⟩
  obtain ⟨D2, hD2⟩ : ∃ D2, (clV n i lb pb).1 = D2 := ⟨_, rfl⟩
  obtain ⟨E2, hE2⟩ : ∃ E2, (clV n i lb pb).2 = E2 := ⟨_, rfl⟩
  have l1 : D1.length = 32 := hD1 ▸ clV_32 _ _ _ _
  have l2 : D2.length = 32 := hD2 ▸ clV_32 _ _ _ _
  rw [hD1, hE1] at hC1
  rw [hD2, hE2] at hC2
  have p1 := Lib.hid (dg_info D1 l1)
  have p2 := Lib.hid (dg_info D2 l2)
  have j1 := Lib.hid (dc_info l1)
  have j2 := Lib.hid (dc_info l2)
  have o1 := Lib.hid (dg_one D1)
  have o2 := Lib.hid (dg_one D2)
  have s1 : Hid (32 = (dg D1).size) := Lib.hid (by rw [dg_size, l1])
  have s2 : Hid (32 = (dg D2).size) := Lib.hid (by rw [dg_size, l2])
  rw [hE1] at h1
  rw [hE2] at h2
  have z1 : (E1 != 0) = false := by rw [h1]; rfl
  have z2 : (E2 != 0) = false := by rw [h2]; rfl
  rw [hD1, hD2] at h3
  have hEq : ∀ V, (Op.equalIn 10000 23 (.agg (dc D1).toArray) (.agg (dc D2).toArray)).run Tryd.prog V = .ok false V := fun V => by have := eq_dg D1 D2 l1 l2 V; rw [decide_eq_false h3] at this; exact this
  clear h1 h2 h3 hD1 hE1 hD2 hE2 l1 l2 hA hB hP hQ hL pa32 pb32 hma hmb hka hkb
  go_enter Tryd.func45, Tryd.ntmps45
  go_wp2_with fail
  apply wp_scope_straight
  go_wp2_with fail
  refine hC1.out.mono ?_
  rintro e w3 ⟨rfl, hb3⟩
  go_wp2_with (refine wpList_new_row (by rfl) 23 (.tmp 15) (.tmp 30) (by rfl) (by rfl) (dg D1) (by rfl) (by rfl) 23 _ p1.out s1.out o1.out ?_; intro w4 hd4 hz4 hB4; have HB4 := Lib.hid (hb3.trans (hB4.mono hb3.size)); clear hB4 hb3; replace hd4 := Lib.hid hd4; replace hz4 := Lib.hid hz4)
  refine (hC2.out _ HB4.out).mono ?_
  rintro e w5 ⟨rfl, hb5⟩
  have HB5 := Lib.hid (HB4.out.trans (hb5.mono HB4.out.size))
  have hd5 := Lib.hid ((hb5.block _ (Array.getElem?_eq_some_iff.1 hd4.out).1).trans hd4.out)
  clear hb5 hd4 hz4
  go_wp2_with (first
    | (refine wpList_new_row (by rfl) 23 (.tmp 17) (.tmp 38) (by rfl) (by rfl) (dg D2) (by rfl) (by rfl) 23 _ p2.out s2.out o2.out ?_; intro w6 hd6 hz6 hB6; have HB6 := Lib.hid (HB5.out.trans (hB6.mono HB5.out.size)); have hr15 := Lib.hid (row_range7 (cs := dc D1) ((hB6.block _ (Array.getElem?_eq_some_iff.1 hd5.out).1).trans hd5.out)); have hr17 := Lib.hid (row_range7 (cs := dc D2) hd6); clear hB6 hd6 hz6 hd5)
    | (refine wpList_load_midG (by rfl) 23 (.tmp 15) (by rfl) w3.heap.size 0 (by rfl) (dc D1) _ hr15.out Tryd.underlying23 (by rfl) j1.out ?_)
    | (refine wpList_load_midG (by rfl) 23 (.tmp 17) (by rfl) w5.heap.size 0 (by rfl) (dc D2) _ hr17.out Tryd.underlying23 (by rfl) j2.out ?_))
  refine bodyPost_ret (v := .tuple #[.slice none 0 0, .slice none 0 0, .bool false]) (by simp [results, Tryd.results45, go_sem]) rfl ⟨none, 0, none, 0, rfl, ato_nil _, ato_nil _, HB6.out⟩
set_option maxRecDepth 100000 in
set_option maxHeartbeats 8000000 in
theorem mcoll_e4 (n i : Int) (la lb : List UInt8) (ma mb : Nat) (hma : la.length = ma) (hmb : lb.length = mb) (hmas : ma ≤ 1000000) (hmbs : mb ≤ 1000000) (A B : Option Addr) (ca cb : Nat) (pa pb : List (List UInt8)) (ka kb : Nat) (hka : pa.length = ka) (hkb : pb.length = kb) (hkas : ka ≤ 65536) (hkbs : kb ≤ 65536) (P Q : Option Addr) (cp cq : Nat) (hcp : ka ≤ cp) (hcq : kb ≤ cq) (w : World) (hA : AtO w A la) (hB : AtO w B lb) (hP : DsAt w P pa) (hQ : DsAt w Q pb) (pa32 : ∀ d ∈ pa, d.length = 32) (pb32 : ∀ d ∈ pb, d.length = 32) (hL : Laid w) (h1 : (clV n i la pa).2 = 0) (h2 : (clV n i lb pb).2 = 0) (h3 : (clV n i la pa).1 = (clV n i lb pb).1) (h4 : la = lb) : Calls Tryd.prog 45 #[.int .i64 n, .int .i64 i, .slice A ma ca, .slice B mb cb, .slice P ka cp, .slice Q kb cq] w (CoC (colV n i la lb pa pb) w) := by
  have e0 : colV n i la lb pa pb = ([], [], false) := if_pos (.inr (.inr (.inr h4)))
  rw [e0]
  clear e0
  have hC1 : Hid (Calls Tryd.prog 25 #[.int .i64 n, .int .i64 i, .slice A ma ca, .slice P ka cp] w fun e w' => e = .returned (.tuple #[.agg (dg (clV n i la pa).1), .int .i64 (clV n i la pa).2]) ∧ Below w.heap.size w w') := Lib.hid (mClimb_any n i la ma hma hmas A ca pa ka hka P cp hcp (by omega) w hA hP pa32 hL)
  have hC2 : Hid (∀ V, Below w.heap.size w V → Calls Tryd.prog 25 #[.int .i64 n, .int .i64 i, .slice B mb cb, .slice Q kb cq] V fun e w' => e = .returned (.tuple #[.agg (dg (clV n i lb pb).1), .int .i64 (clV n i lb pb).2]) ∧ Below V.heap.size V w') := Lib.hid fun V hV => mClimb_any n i lb mb hmb hmbs B cb pb kb hkb Q cq hcq (by omega) V (hB.below hV) (hQ.below hV) pb32 (hL.below hV)
  have hBE : Hid (∀ V, Below w.heap.size w V → Calls Tryd.prog 69 #[.slice A ma ca, .slice B mb cb] V fun e w' => e = .returned (.bool true) ∧ w' = V) := Lib.hid fun V hV => byt_equal_yes la A B ma mb ca cb V ((hA.below hV).conv ma ca hma) (by have := (hB.below hV).conv mb cb hmb; rw [← h4] at this; exact this)
  obtain ⟨D1, hD1⟩ : ∃ D1, (clV n i la pa).1 = D1 := ⟨_, rfl⟩
  obtain ⟨E1, hE1⟩ : ∃ E1, (clV n i la pa).2 = E1 := ⟨_, rfl⟩
  obtain ⟨D2, hD2⟩ : ∃ D2, (clV n i lb pb).1 = D2 := ⟨_, rfl⟩
  obtain ⟨E2, hE2⟩ : ∃ E2, (clV n i lb pb).2 = E2 := ⟨_, rfl⟩
  have l1 : D1.length = 32 := hD1 ▸ clV_32 _ _ _ _
  have l2 : D2.length = 32 := hD2 ▸ clV_32 _ _ _ _
  rw [hD1, hE1] at hC1
  rw [hD2, hE2] at hC2
  have p1 := Lib.hid (dg_info D1 l1)
  have p2 := Lib.hid (dg_info D2 l2)
  have j1 := Lib.hid (dc_info l1)
  have j2 := Lib.hid (dc_info l2)
  have o1 := Lib.hid (dg_one D1)
  have o2 := Lib.hid (dg_one D2)
  have s1 : Hid (32 = (dg D1).size) := Lib.hid (by rw [dg_size, l1])
  have s2 : Hid (32 = (dg D2).size) := Lib.hid (by rw [dg_size, l2])
  rw [hE1] at h1
  rw [hE2] at h2
  have z1 : (E1 != 0) = false := by rw [h1]; rfl
  have z2 : (E2 != 0) = false := by rw [h2]; rfl
  rw [hD1, hD2] at h3
  have hEq : ∀ V, (Op.equalIn 10000 23 (.agg (dc D1).toArray) (.agg (dc D2).toArray)).run Tryd.prog V = .ok true V := fun V => by have := eq_dg D1 D2 l1 l2 V; rw [decide_eq_true h3] at this; exact this
  clear h1 h2 h3 h4 hD1 hE1 hD2 hE2 l1 l2 hA hB hP hQ hL pa32 pb32 hma hmb hka hkb
  go_enter Tryd.func45, Tryd.ntmps45
  go_wp2_with fail
  apply wp_scope_straight
  go_wp2_with fail
  refine hC1.out.mono ?_
  rintro e w3 ⟨rfl, hb3⟩
  go_wp2_with (refine wpList_new_row (by rfl) 23 (.tmp 15) (.tmp 30) (by rfl) (by rfl) (dg D1) (by rfl) (by rfl) 23 _ p1.out s1.out o1.out ?_; intro w4 hd4 hz4 hB4; have HB4 := Lib.hid (hb3.trans (hB4.mono hb3.size)); clear hB4 hb3; replace hd4 := Lib.hid hd4; replace hz4 := Lib.hid hz4)
  refine (hC2.out _ HB4.out).mono ?_
  rintro e w5 ⟨rfl, hb5⟩
  have HB5 := Lib.hid (HB4.out.trans (hb5.mono HB4.out.size))
  have hd5 := Lib.hid ((hb5.block _ (Array.getElem?_eq_some_iff.1 hd4.out).1).trans hd4.out)
  clear hb5 hd4 hz4
  go_wp2_with (first
    | (refine wpList_new_row (by rfl) 23 (.tmp 17) (.tmp 38) (by rfl) (by rfl) (dg D2) (by rfl) (by rfl) 23 _ p2.out s2.out o2.out ?_; intro w6 hd6 hz6 hB6; have HB6 := Lib.hid (HB5.out.trans (hB6.mono HB5.out.size)); have hr15 := Lib.hid (row_range7 (cs := dc D1) ((hB6.block _ (Array.getElem?_eq_some_iff.1 hd5.out).1).trans hd5.out)); have hr17 := Lib.hid (row_range7 (cs := dc D2) hd6); clear hB6 hd6 hz6 hd5)
    | (refine wpList_load_midG (by rfl) 23 (.tmp 15) (by rfl) w3.heap.size 0 (by rfl) (dc D1) _ hr15.out Tryd.underlying23 (by rfl) j1.out ?_)
    | (refine wpList_load_midG (by rfl) 23 (.tmp 17) (by rfl) w5.heap.size 0 (by rfl) (dc D2) _ hr17.out Tryd.underlying23 (by rfl) j2.out ?_)
    | (go_at_call 69; refine (hBE.out _ HB6.out).mono ?_; rintro e w7 ⟨rfl, hw7⟩; have hw7b := hw7.symm; clear hw7; subst hw7b))
  refine bodyPost_ret (v := .tuple #[.slice none 0 0, .slice none 0 0, .bool false]) (by simp [results, Tryd.results45, go_sem]) rfl ⟨none, 0, none, 0, rfl, ato_nil _, ato_nil _, HB6.out⟩
end Go.Proofs.YtnccbhndlnkboaaDoor
/- The walk of merkle.Collide. -/
namespace Go.Proofs.YtnccbhndlnkboaaDoor
open Go.RowKit Go.Shelf Cdc Sha
set_option linter.unusedVariables false
set_option linter.unusedSimpArgs false

set_option maxRecDepth 100000 in
set_option maxHeartbeats 8000000 in
theorem mcoll_main (n i : Nat) (hn : n ≤ 65536) (hi : i < n) (la lb : List UInt8) (ma mb : Nat) (hma : la.length = ma) (hmb : lb.length = mb) (hmas : ma ≤ 1000000) (hmbs : mb ≤ 1000000) (A B : Option Addr) (ca cb : Nat) (pa pb : List (List UInt8)) (ka kb : Nat) (hka : pa.length = ka) (hkb : pb.length = kb) (hkas : ka ≤ 65536) (hkbs : kb ≤ 65536) (P Q : Option Addr) (cp cq : Nat) (hcp : ka ≤ cp) (hcq : kb ≤ cq) (w : World) (hA : AtO w A la) (hB : AtO w B lb) (hP : DsAt w P pa) (hQ : DsAt w Q pb) (pa32 : ∀ d ∈ pa, d.length = 32) (pb32 : ∀ d ∈ pb, d.length = 32) (hL : Laid w) (h1 : (clV n i la pa).2 = 0) (h2 : (clV n i lb pb).2 = 0) (h3 : (clV n i la pa).1 = (clV n i lb pb).1) (h4 : la ≠ lb) (r1 r2 : List (List UInt8 × List UInt8)) (k1 : climbM n i la pa = some r1) (k2 : climbM n i lb pb = some r2) : Calls Tryd.prog 45 #[.int .i64 (n : Int), .int .i64 (i : Int), .slice A ma ca, .slice B mb cb, .slice P ka cp, .slice Q kb cq] w (CoC (colR (collL r1 r2)) w) := by
  have hC1 : Hid (Calls Tryd.prog 25 #[.int .i64 (n : Int), .int .i64 (i : Int), .slice A ma ca, .slice P ka cp] w fun e w' => e = .returned (.tuple #[.agg (dg (clV (n : Int) (i : Int) la pa).1), .int .i64 (clV (n : Int) (i : Int) la pa).2]) ∧ Below w.heap.size w w') := Lib.hid (mClimb_any (n : Int) (i : Int) la ma hma hmas A ca pa ka hka P cp hcp (by omega) w hA hP pa32 hL)
  have hC2 : Hid (∀ V, Below w.heap.size w V → Calls Tryd.prog 25 #[.int .i64 (n : Int), .int .i64 (i : Int), .slice B mb cb, .slice Q kb cq] V fun e w' => e = .returned (.tuple #[.agg (dg (clV (n : Int) (i : Int) lb pb).1), .int .i64 (clV (n : Int) (i : Int) lb pb).2]) ∧ Below V.heap.size V w') := Lib.hid fun V hV => mClimb_any (n : Int) (i : Int) lb mb hmb hmbs B cb pb kb hkb Q cq hcq (by omega) V (hB.below hV) (hQ.below hV) pb32 (hL.below hV)
  have hBE : Hid (∀ V, Below w.heap.size w V → Calls Tryd.prog 69 #[.slice A ma ca, .slice B mb cb] V fun e w' => e = .returned (.bool false) ∧ w' = V) := Lib.hid fun V hV => byt_equal_no la lb A B ma mb ca cb V (by simpa using h4) ((hA.below hV).conv ma ca hma) ((hB.below hV).conv mb cb hmb)
  obtain ⟨N, hN1⟩ : ∃ N, r1.length = N := ⟨_, rfl⟩
  have hN2 : r2.length = N := by rw [← climbM_same k1 k2, hN1]
  have hW1 : Hid (∀ V, Below w.heap.size w V → Calls Tryd.prog 53 #[.int .i64 (n : Int), .int .i64 (i : Int), .slice A ma ca, .slice P ka cp] V fun e w' => ∃ (A1 : Option Addr) (c1 : Nat) (T1 : Option Addr) (ct1 : Nat), e = .returned (.tuple #[.agg #[.slice A1 N c1, .slice T1 N ct1], .bool true]) ∧ DsAt w' A1 (r1.map (·.1)) ∧ LvAt w' T1 (r1.map (·.2)) ∧ Below V.heap.size V w') := Lib.hid fun V hV => by
    have h := climb_any V n i hn (by omega) la ma hma hmas A ca (hA.below hV) pa ka hka P cp hcp (by omega) (hP.below hV) pa32 (hL.below hV)
    rw [k1] at h
    refine h.mono ?_
    rintro e w' ⟨A1, m1, c1, T1, m2, ct1, ok, rfl, hok, hb, hs⟩
    obtain ⟨e1, _, e3, e4, e5⟩ := hs _ rfl
    obtain rfl : ok = true := hok
    subst e1 e4
    exact ⟨A1, c1, T1, ct1, by rw [hN1], e3, e5, hb⟩
  have hW2 : Hid (∀ V, Below w.heap.size w V → Calls Tryd.prog 53 #[.int .i64 (n : Int), .int .i64 (i : Int), .slice B mb cb, .slice Q kb cq] V fun e w' => ∃ (A1 : Option Addr) (c1 : Nat) (T1 : Option Addr) (ct1 : Nat), e = .returned (.tuple #[.agg #[.slice A1 N c1, .slice T1 N ct1], .bool true]) ∧ DsAt w' A1 (r2.map (·.1)) ∧ LvAt w' T1 (r2.map (·.2)) ∧ Below V.heap.size V w') := Lib.hid fun V hV => by
    have h := climb_any V n i hn (by omega) lb mb hmb hmbs B cb (hB.below hV) pb kb hkb Q cq hcq (by omega) (hQ.below hV) pb32 (hL.below hV)
    rw [k2] at h
    refine h.mono ?_
    rintro e w' ⟨A1, m1, c1, T1, m2, ct1, ok, rfl, hok, hb, hs⟩
    obtain ⟨e1, _, e3, e4, e5⟩ := hs _ rfl
    obtain rfl : ok = true := hok
    subst e1 e4
    exact ⟨A1, c1, T1, ct1, by rw [hN2], e3, e5, hb⟩
  have hq1 : Hid (∀ x ∈ r1, x.1.length = 32) := Lib.hid (climbM_32 k1)
  have hq2 : Hid (∀ x ∈ r2, x.1.length = 32) := Lib.hid (climbM_32 k2)
  have hN9 : N ≤ 65537 := by have := climbM_len k1; omega
  replace hN1 := Lib.hid hN1
  replace hN2 := Lib.hid hN2
  obtain ⟨R, hR⟩ : ∃ R, collL r1 r2 = R := ⟨_, rfl⟩
  rw [hR]
  replace hR := Lib.hid hR
  obtain ⟨D1, hD1⟩ : ∃ D1, (clV n i la pa).1 = D1 := ⟨_, rfl⟩
  obtain ⟨E1, hE1⟩ : ∃ E1, (clV n i la pa).2 = E1 := ⟨_, rfl⟩
  obtain ⟨D2, hD2⟩ : ∃ D2, (clV n i lb pb).1 = D2 := ⟨_, rfl⟩
  obtain ⟨E2, hE2⟩ : ∃ E2, (clV n i lb pb).2 = E2 := ⟨_, rfl⟩
  have l1 : D1.length = 32 := hD1 ▸ clV_32 _ _ _ _
  have l2 : D2.length = 32 := hD2 ▸ clV_32 _ _ _ _
  rw [hD1, hE1] at hC1
  rw [hD2, hE2] at hC2
  have p1 := Lib.hid (dg_info D1 l1)
  have p2 := Lib.hid (dg_info D2 l2)
  have j1 := Lib.hid (dc_info l1)
  have j2 := Lib.hid (dc_info l2)
  have o1 := Lib.hid (dg_one D1)
  have o2 := Lib.hid (dg_one D2)
  have s1 : Hid (32 = (dg D1).size) := Lib.hid (by rw [dg_size, l1])
  have s2 : Hid (32 = (dg D2).size) := Lib.hid (by rw [dg_size, l2])
  rw [hE1] at h1
  rw [hE2] at h2
  rw [hD1, hD2] at h3
  have z1 : (E1 != 0) = false := by rw [h1]; rfl
  have z2 : (E2 != 0) = false := by rw [h2]; rfl
  have hEq : ∀ V, (Op.equalIn 10000 23 (.agg (dc D1).toArray) (.agg (dc D2).toArray)).run Tryd.prog V = .ok true V := fun V => by have := eq_dg D1 D2 l1 l2 V; rw [decide_eq_true h3] at this; exact this
  clear h1 h2 h3 h4 hD1 hE1 hD2 hE2 l1 l2 hA hB hP hQ hL pa32 pb32 hma hmb hka hkb k1 k2 hi
  go_enter Tryd.func45, Tryd.ntmps45
  go_wp2_with fail
  apply wp_scope_straight
  go_wp2_with fail
  refine hC1.out.mono ?_
  rintro e w3 ⟨rfl, hb3⟩
  go_wp2_with (refine wpList_new_row (by rfl) 23 (.tmp 15) (.tmp 30) (by rfl) (by rfl) (dg D1) (by rfl) (by rfl) 23 _ p1.out s1.out o1.out ?_; intro w4 hd4 hz4 hB4; have HB4 := Lib.hid (hb3.trans (hB4.mono hb3.size)); clear hB4 hb3; replace hd4 := Lib.hid hd4; replace hz4 := Lib.hid hz4)
  refine (hC2.out _ HB4.out).mono ?_
  rintro e w5 ⟨rfl, hb5⟩
  have HB5 := Lib.hid (HB4.out.trans (hb5.mono HB4.out.size))
  have hd5 := Lib.hid ((hb5.block _ (Array.getElem?_eq_some_iff.1 hd4.out).1).trans hd4.out)
  clear hb5 hd4 hz4
  go_wp2_with (first
    | (refine wpList_new_row (by rfl) 23 (.tmp 17) (.tmp 38) (by rfl) (by rfl) (dg D2) (by rfl) (by rfl) 23 _ p2.out s2.out o2.out ?_; intro w6 hd6 hz6 hB6; have HB6 := Lib.hid (HB5.out.trans (hB6.mono HB5.out.size)); have hr15 := Lib.hid (row_range7 (cs := dc D1) ((hB6.block _ (Array.getElem?_eq_some_iff.1 hd5.out).1).trans hd5.out)); have hr17 := Lib.hid (row_range7 (cs := dc D2) hd6); clear hB6 hd6 hz6 hd5)
    | (refine wpList_load_midG (by rfl) 23 (.tmp 15) (by rfl) w3.heap.size 0 (by rfl) (dc D1) _ hr15.out Tryd.underlying23 (by rfl) j1.out ?_)
    | (refine wpList_load_midG (by rfl) 23 (.tmp 17) (by rfl) w5.heap.size 0 (by rfl) (dc D2) _ hr17.out Tryd.underlying23 (by rfl) j2.out ?_)
    | (go_at_call 69; refine (hBE.out _ HB6.out).mono ?_; rintro e w7 ⟨rfl, hw7⟩; have hw7b := hw7.symm; clear hw7; subst hw7b))
  clear hEq z1 z2 hr15 hr17
  refine (hW1.out _ HB6.out).mono ?_
  rintro e w8 ⟨A1, c1, T1, ct1, rfl, ds1, tl1, hb8⟩
  have HB8 := Lib.hid (HB6.out.trans (hb8.mono HB6.out.size))
  clear hb8
  go_wp2_with fail
  have hd9 := Lib.hid (heap_alloc_new w8 (.cells #[.slice A1 N c1, .slice T1 N ct1] 89))
  have HB9 := Lib.hid (HB8.out.alloc HB8.out.size (.cells #[.slice A1 N c1, .slice T1 N ct1] 89))
  have ds9 := Lib.hid (ds1.below (blow1 w8 (.cells #[.slice A1 N c1, .slice T1 N ct1] 89)))
  have tl9 := Lib.hid (tl1.below (blow1 w8 (.cells #[.slice A1 N c1, .slice T1 N ct1] 89)))
  clear ds1 tl1
  generalize w8.alloc (.cells #[.slice A1 N c1, .slice T1 N ct1] 89) = w9 at hd9 HB9 ds9 tl9 ⊢
  refine (hW2.out _ HB9.out).mono ?_
  rintro e w10 ⟨A2, c2, T2, ct2, rfl, ds2, tl2, hb10⟩
  have HB10 := Lib.hid (HB9.out.trans (hb10.mono HB9.out.size))
  have ds10 := Lib.hid (ds9.out.below hb10)
  have tl10 := Lib.hid (tl9.out.below hb10)
  have hd10 := Lib.hid ((hb10.block _ (Array.getElem?_eq_some_iff.1 hd9.out).1).trans hd9.out)
  clear hb10 ds9 tl9 hd9
  go_wp2_with fail
  have hB11 := blow1 w10 (.cells #[.slice A2 N c2, .slice T2 N ct2] 89)
  have hd11 := Lib.hid (heap_alloc_new w10 (.cells #[.slice A2 N c2, .slice T2 N ct2] 89))
  have HB11 := Lib.hid (HB10.out.trans (hB11.mono HB10.out.size))
  have hDS1 := Lib.hid (ds10.out.below hB11)
  have hTS1 := Lib.hid (tl10.out.below hB11)
  have hDS2 := Lib.hid (ds2.below hB11)
  have hTS2 := Lib.hid (tl2.below hB11)
  have hd19 := Lib.hid ((hB11.block _ (Array.getElem?_eq_some_iff.1 hd10.out).1).trans hd10.out)
  clear hB11 ds10 tl10 ds2 tl2 hd10
  generalize w10.alloc (.cells #[.slice A2 N c2, .slice T2 N ct2] 89) = w11 at hd11 HB11 hDS1 hTS1 hDS2 hTS2 hd19 ⊢
  have x19 : w11.cell? ⟨w8.heap.size, 0, none⟩ = some (.slice A1 N c1) := (by rw [cell_of_row _ _ _ _ _ _ hd19.out]; rfl)
  apply wp_label
  go_wp2_with fail
  clear x19
  go_loopw [75] (fun s75 wr => ∃ (k : Nat), s75 = .int .i64 (k : Int) ∧ k ≤ N ∧ Hid (collL (r1.drop k) (r2.drop k) = R) ∧ Hid (Below w11.heap.size w11 wr)) (fun s75 _ => N - (intOf s75).toNat)
  case atStart => exact ⟨0, rfl, Nat.zero_le _, Lib.hid (by rw [List.drop_zero, List.drop_zero]; exact hR.out), Lib.hid (Below.refl _ _)⟩
  case round =>
    obtain ⟨k, rfl, hk, hcol, hBr⟩ := hrel
    clear hC1 hC2 hW1 hW2 HB4 HB5 HB6
    by_cases hlt : k < N
    · obtain ⟨⟨dx, tx⟩, hx⟩ : ∃ x, r1[k]? = some x := ⟨_, List.getElem?_eq_getElem (by rw [hN1.out]; exact hlt)⟩
      obtain ⟨⟨dy, ty⟩, hy⟩ : ∃ x, r2[k]? = some x := ⟨_, List.getElem?_eq_getElem (by rw [hN2.out]; exact hlt)⟩
      obtain ⟨a1, q1, rfl, ha1, hr1⟩ := hDS1.out k dx (by rw [List.getElem?_map, hx]; rfl)
      obtain ⟨a2, q2, rfl, ha2, hr2⟩ := hDS2.out k dy (by rw [List.getElem?_map, hy]; rfl)
      obtain ⟨b1, t1, Ax, cx, rfl, hcx, -, -, hatx⟩ := hTS1.out k tx (by rw [List.getElem?_map, hx]; rfl)
      obtain ⟨b2, t2, Ay, cy, rfl, hcy, -, -, haty⟩ := hTS2.out k ty (by rw [List.getElem?_map, hy]; rfl)
      have hdx := hq1.out _ (List.mem_of_getElem? hx)
      have hdy := hq2.out _ (List.mem_of_getElem? hy)
      dsimp only at hdx hdy
      have hS : Hid (∀ V, Below w11.heap.size w11 V → V.cell? ⟨w8.heap.size, 0, none⟩ = some (.slice (some ⟨a1, q1, none⟩) N c1) ∧ V.cell? ⟨w10.heap.size, 0, none⟩ = some (.slice (some ⟨a2, q2, none⟩) N c2) ∧ V.rangeAt a1 (q1 + k * 32) (dc dx) ∧ V.rangeAt a2 (q2 + k * 32) (dc dy)) := Lib.hid fun V hV => ⟨by rw [cell_of_row _ _ _ _ _ _ ((hV.block _ (Array.getElem?_eq_some_iff.1 hd19.out).1).trans hd19.out)]; rfl, by rw [cell_of_row _ _ _ _ _ _ ((hV.block _ (Array.getElem?_eq_some_iff.1 hd11.out).1).trans hd11.out)]; rfl, range_belowB hr1 ha1 hV, range_belowB hr2 ha2 hV⟩
      have hST : Hid (∀ V, Below w11.heap.size w11 V → V.cell? ⟨w8.heap.size, 1, none⟩ = some (.slice (some ⟨b1, t1, none⟩) N ct1) ∧ V.cell? ⟨w10.heap.size, 1, none⟩ = some (.slice (some ⟨b2, t2, none⟩) N ct2) ∧ V.cell? ⟨b1, t1 + k, none⟩ = some (.slice Ax tx.length cx) ∧ V.cell? ⟨b2, t2 + k, none⟩ = some (.slice Ay ty.length cy)) := Lib.hid fun V hV => ⟨by rw [cell_of_row _ _ _ _ _ _ ((hV.block _ (Array.getElem?_eq_some_iff.1 hd19.out).1).trans hd19.out)]; rfl, by rw [cell_of_row _ _ _ _ _ _ ((hV.block _ (Array.getElem?_eq_some_iff.1 hd11.out).1).trans hd11.out)]; rfl, (hV.cell (p := ⟨b1, t1 + k, none⟩) (World.block_lt_of_cell? w11 _ hcx)).trans hcx, (hV.cell (p := ⟨b2, t2 + k, none⟩) (World.block_lt_of_cell? w11 _ hcy)).trans hcy⟩
      have i1 := Lib.hid (dc_info hdx)
      have i2 := Lib.hid (dc_info hdy)
      have hEqs := eq_dg dx dy hdx hdy
      have hstep := collL_at hx hy
      rw [hcol.out] at hstep
      dsimp only at hstep
      have HB := hBr.out.drew
      have i3 : (0 : Int) ≤ (k : Int) := by omega
      have i4 : (k : Int) < (N : Int) := by omega
      have i5 : IntKind.i64.wrap ((k : Int) + 1) = (k : Int) + 1 := IntWalk.i64_in _ (by omega)
      have hat : Hid (∀ V, Below w11.heap.size w11 V → AtO V Ax tx ∧ AtO V Ay ty) := Lib.hid fun V hV => ⟨hatx.below hV, haty.below hV⟩
      clear hx hy hr1 ha1 hr2 ha2 hcx hcy hdx hdy hatx haty hDS1 hDS2 hTS1 hTS2 hcol
      by_cases hxy : dx = dy
      · rw [if_pos hxy] at hstep
        subst hstep
        have hEq2 : ∀ V, (Op.equalIn 10000 23 (.agg (dc dx).toArray) (.agg (dc dy).toArray)).run Tryd.prog V = .ok true V := fun V => by have := hEqs V; rw [decide_eq_true hxy] at this; exact this
        clear hEqs hxy
        go_wp2_with fail
        refine wp_region_held_drew (S := fun w' => w'.cell? ⟨w8.heap.size, 0, none⟩ = some (.slice (some ⟨a1, q1, none⟩) N c1) ∧ w'.cell? ⟨w10.heap.size, 0, none⟩ = some (.slice (some ⟨a2, q2, none⟩) N c2) ∧ w'.rangeAt a1 (q1 + k * 32) (dc dx) ∧ w'.rangeAt a2 (q2 + k * 32) (dc dy)) (by kernel_rfl) (by exact hS.out _ HB) (fun hHeld => ?_)
        refine wpAnyH_take (i := 0) (oi := { dst := some 78, op := Op.fieldAddr 89 (Operand.tmp 19) 0, type := 0, pos := "merkle.go:139", after := #[], guard := none }) (v := ?_) rfl (by kernel_rfl) (by kernel_rfl) (by kernel_rfl) (fun _ _ _ h => h) (Or.inl ⟨by rfl, ?hy0⟩) hHeld ?rest0
        case hy0 =>
          intro w hSw
          try dsimp only at hSw
          go_simp
          try with_reducible rfl
        try simp only [Act.put, List.setIfInBounds_toArray, List.set_cons_zero, List.set_cons_succ]
        refine wpAnyH_take (i := 1) (oi := { dst := some 79, op := Op.load 31 (Operand.tmp 78), type := 31, pos := "merkle.go:139", after := #[{ on := 0, ground := Ground.data }], guard := none }) (v := ?_) rfl (by kernel_rfl) (by kernel_rfl) (by kernel_rfl) (fun _ _ _ h => h) (Or.inl ⟨by rfl, ?hy1⟩) hHeld ?rest1
        case hy1 =>
          intro w hSw
          try dsimp only at hSw
          go_simp
          try with_reducible rfl
        try simp only [Act.put, List.setIfInBounds_toArray, List.set_cons_zero, List.set_cons_succ]
        refine wpAnyH_take (i := 2) (oi := { dst := some 80, op := Op.move (Operand.tmp 23), type := 3, pos := "merkle.go:139", after := #[], guard := none }) (v := ?_) rfl (by kernel_rfl) (by kernel_rfl) (by kernel_rfl) (fun _ _ _ h => h) (Or.inl ⟨by rfl, ?hy2⟩) hHeld ?rest2
        case hy2 =>
          intro w hSw
          try dsimp only at hSw
          go_simp
          try with_reducible rfl
        try simp only [Act.put, List.setIfInBounds_toArray, List.set_cons_zero, List.set_cons_succ]
        refine wpAnyH_take (i := 3) (oi := { dst := some 81, op := Op.indexAddr 31 (Operand.tmp 79) (Operand.tmp 80), type := 0, pos := "merkle.go:139", after := #[{ on := 1, ground := Ground.data }, { on := 2, ground := Ground.data }], guard := none }) (v := ?_) rfl (by kernel_rfl) (by kernel_rfl) (by kernel_rfl) (fun _ _ _ h => h) (Or.inl ⟨by rfl, ?hy3⟩) hHeld ?rest3
        case hy3 =>
          intro w hSw
          try dsimp only at hSw
          go_simp
          try with_reducible rfl
        try simp only [Act.put, List.setIfInBounds_toArray, List.set_cons_zero, List.set_cons_succ]
        refine wpAnyH_take (i := 4) (oi := { dst := some 82, op := Op.load 23 (Operand.tmp 81), type := 23, pos := "merkle.go:139", after := #[{ on := 3, ground := Ground.data }], guard := none }) (v := _) rfl (by kernel_rfl) (by kernel_rfl) (by kernel_rfl) (fun _ _ _ h => h) (yieldsIf_load_mid (by rfl) 23 (.tmp 81) rfl a1 (q1 + k * 32) rfl (dc dx) _ (fun _ h => h.2.2.1) Tryd.underlying23 rfl i1.out) hHeld ?_
        try simp only [Act.put, List.setIfInBounds_toArray, List.set_cons_zero, List.set_cons_succ]
        refine wpAnyH_take (i := 5) (oi := { dst := some 83, op := Op.fieldAddr 89 (Operand.tmp 21) 0, type := 0, pos := "merkle.go:139", after := #[], guard := none }) (v := ?_) rfl (by kernel_rfl) (by kernel_rfl) (by kernel_rfl) (fun _ _ _ h => h) (Or.inl ⟨by rfl, ?hy5⟩) hHeld ?rest5
        case hy5 =>
          intro w hSw
          try dsimp only at hSw
          go_simp
          try with_reducible rfl
        try simp only [Act.put, List.setIfInBounds_toArray, List.set_cons_zero, List.set_cons_succ]
        refine wpAnyH_take (i := 6) (oi := { dst := some 84, op := Op.load 31 (Operand.tmp 83), type := 31, pos := "merkle.go:139", after := #[{ on := 5, ground := Ground.data }], guard := none }) (v := ?_) rfl (by kernel_rfl) (by kernel_rfl) (by kernel_rfl) (fun _ _ _ h => h) (Or.inl ⟨by rfl, ?hy6⟩) hHeld ?rest6
        case hy6 =>
          intro w hSw
          try dsimp only at hSw
          go_simp
          try with_reducible rfl
        try simp only [Act.put, List.setIfInBounds_toArray, List.set_cons_zero, List.set_cons_succ]
        refine wpAnyH_take (i := 7) (oi := { dst := some 85, op := Op.move (Operand.tmp 23), type := 3, pos := "merkle.go:139", after := #[], guard := none }) (v := ?_) rfl (by kernel_rfl) (by kernel_rfl) (by kernel_rfl) (fun _ _ _ h => h) (Or.inl ⟨by rfl, ?hy7⟩) hHeld ?rest7
        case hy7 =>
          intro w hSw
          try dsimp only at hSw
          go_simp
          try with_reducible rfl
        try simp only [Act.put, List.setIfInBounds_toArray, List.set_cons_zero, List.set_cons_succ]
        refine wpAnyH_take (i := 8) (oi := { dst := some 86, op := Op.indexAddr 31 (Operand.tmp 84) (Operand.tmp 85), type := 0, pos := "merkle.go:139", after := #[{ on := 6, ground := Ground.data }, { on := 7, ground := Ground.data }], guard := none }) (v := ?_) rfl (by kernel_rfl) (by kernel_rfl) (by kernel_rfl) (fun _ _ _ h => h) (Or.inl ⟨by rfl, ?hy8⟩) hHeld ?rest8
        case hy8 =>
          intro w hSw
          try dsimp only at hSw
          go_simp
          try with_reducible rfl
        try simp only [Act.put, List.setIfInBounds_toArray, List.set_cons_zero, List.set_cons_succ]
        refine wpAnyH_take (i := 9) (oi := { dst := some 87, op := Op.load 23 (Operand.tmp 86), type := 23, pos := "merkle.go:139", after := #[{ on := 8, ground := Ground.data }], guard := none }) (v := _) rfl (by kernel_rfl) (by kernel_rfl) (by kernel_rfl) (fun _ _ _ h => h) (yieldsIf_load_mid (by rfl) 23 (.tmp 86) rfl a2 (q2 + k * 32) rfl (dc dy) _ (fun _ h => h.2.2.2) Tryd.underlying23 rfl i2.out) hHeld ?_
        try simp only [Act.put, List.setIfInBounds_toArray, List.set_cons_zero, List.set_cons_succ]
        refine wpAnyH_take (i := 10) (oi := { dst := some 88, op := Op.binOp BinOp.neq 23 (Operand.tmp 82) (Operand.tmp 87) 23, type := 4, pos := "merkle.go:139", after := #[{ on := 4, ground := Ground.data }, { on := 9, ground := Ground.data }], guard := none }) (v := ?_) rfl (by kernel_rfl) (by kernel_rfl) (by kernel_rfl) (fun _ _ _ h => h) (Or.inl ⟨by rfl, ?hy10⟩) hHeld ?rest10
        case hy10 =>
          intro w hSw
          try dsimp only at hSw
          go_simp
          try with_reducible rfl
        try simp only [Act.put, List.setIfInBounds_toArray, List.set_cons_zero, List.set_cons_succ]
        refine wpAnyH_done (by kernel_rfl) ?_ _
        have HB2 := HB.drew
        clear HB
        go_wp2_with fail
        refine wp_region_held_drew (S := fun w' => w'.cell? ⟨w8.heap.size, 1, none⟩ = some (.slice (some ⟨b1, t1, none⟩) N ct1) ∧ w'.cell? ⟨w10.heap.size, 1, none⟩ = some (.slice (some ⟨b2, t2, none⟩) N ct2) ∧ w'.cell? ⟨b1, t1 + k, none⟩ = some (.slice Ax tx.length cx) ∧ w'.cell? ⟨b2, t2 + k, none⟩ = some (.slice Ay ty.length cy)) (by kernel_rfl) (by exact hST.out _ HB2) (fun hHeld => ?_)
        refine wpAnyH_take (i := 0) (oi := { dst := some 89, op := Op.fieldAddr 89 (Operand.tmp 19) 1, type := 0, pos := "merkle.go:142", after := #[], guard := none }) (v := ?_) rfl (by kernel_rfl) (by kernel_rfl) (by kernel_rfl) (fun _ _ _ h => h) (Or.inl ⟨by rfl, ?hyaa0⟩) hHeld ?restaa0
        case hyaa0 =>
          intro w hSw
          try dsimp only at hSw
          go_simp
          try with_reducible rfl
        try simp only [Act.put, List.setIfInBounds_toArray, List.set_cons_zero, List.set_cons_succ]
        refine wpAnyH_take (i := 1) (oi := { dst := some 90, op := Op.load 75 (Operand.tmp 89), type := 75, pos := "merkle.go:142", after := #[{ on := 0, ground := Ground.data }], guard := none }) (v := ?_) rfl (by kernel_rfl) (by kernel_rfl) (by kernel_rfl) (fun _ _ _ h => h) (Or.inl ⟨by rfl, ?hyaa1⟩) hHeld ?restaa1
        case hyaa1 =>
          intro w hSw
          try dsimp only at hSw
          go_simp
          try with_reducible rfl
        try simp only [Act.put, List.setIfInBounds_toArray, List.set_cons_zero, List.set_cons_succ]
        refine wpAnyH_take (i := 2) (oi := { dst := some 91, op := Op.move (Operand.tmp 23), type := 3, pos := "merkle.go:142", after := #[], guard := none }) (v := ?_) rfl (by kernel_rfl) (by kernel_rfl) (by kernel_rfl) (fun _ _ _ h => h) (Or.inl ⟨by rfl, ?hyaa2⟩) hHeld ?restaa2
        case hyaa2 =>
          intro w hSw
          try dsimp only at hSw
          go_simp
          try with_reducible rfl
        try simp only [Act.put, List.setIfInBounds_toArray, List.set_cons_zero, List.set_cons_succ]
        refine wpAnyH_take (i := 3) (oi := { dst := some 92, op := Op.indexAddr 75 (Operand.tmp 90) (Operand.tmp 91), type := 0, pos := "merkle.go:142", after := #[{ on := 1, ground := Ground.data }, { on := 2, ground := Ground.data }], guard := none }) (v := ?_) rfl (by kernel_rfl) (by kernel_rfl) (by kernel_rfl) (fun _ _ _ h => h) (Or.inl ⟨by rfl, ?hyaa3⟩) hHeld ?restaa3
        case hyaa3 =>
          intro w hSw
          try dsimp only at hSw
          go_simp
          try with_reducible rfl
        try simp only [Act.put, List.setIfInBounds_toArray, List.set_cons_zero, List.set_cons_succ]
        refine wpAnyH_take (i := 4) (oi := { dst := some 93, op := Op.load 48 (Operand.tmp 92), type := 48, pos := "merkle.go:142", after := #[{ on := 3, ground := Ground.data }], guard := none }) (v := ?_) rfl (by kernel_rfl) (by kernel_rfl) (by kernel_rfl) (fun _ _ _ h => h) (Or.inl ⟨by rfl, ?hyaa4⟩) hHeld ?restaa4
        case hyaa4 =>
          intro w hSw
          try dsimp only at hSw
          go_simp
          try with_reducible rfl
        try simp only [Act.put, List.setIfInBounds_toArray, List.set_cons_zero, List.set_cons_succ]
        refine wpAnyH_take (i := 5) (oi := { dst := some 94, op := Op.fieldAddr 89 (Operand.tmp 21) 1, type := 0, pos := "merkle.go:142", after := #[{ on := 10, ground := Ground.gcOnly Departure.lateStores }], guard := none }) (v := ?_) rfl (by kernel_rfl) (by kernel_rfl) (by kernel_rfl) (fun _ _ _ h => h) (Or.inl ⟨by rfl, ?hyaa5⟩) hHeld ?restaa5
        case hyaa5 =>
          intro w hSw
          try dsimp only at hSw
          go_simp
          try with_reducible rfl
        try simp only [Act.put, List.setIfInBounds_toArray, List.set_cons_zero, List.set_cons_succ]
        refine wpAnyH_take (i := 6) (oi := { dst := some 95, op := Op.load 75 (Operand.tmp 94), type := 75, pos := "merkle.go:142", after := #[{ on := 5, ground := Ground.data }, { on := 10, ground := Ground.gcOnly Departure.lateStores }], guard := none }) (v := ?_) rfl (by kernel_rfl) (by kernel_rfl) (by kernel_rfl) (fun _ _ _ h => h) (Or.inl ⟨by rfl, ?hyaa6⟩) hHeld ?restaa6
        case hyaa6 =>
          intro w hSw
          try dsimp only at hSw
          go_simp
          try with_reducible rfl
        try simp only [Act.put, List.setIfInBounds_toArray, List.set_cons_zero, List.set_cons_succ]
        refine wpAnyH_take (i := 7) (oi := { dst := some 96, op := Op.move (Operand.tmp 23), type := 3, pos := "merkle.go:142", after := #[{ on := 10, ground := Ground.gcOnly Departure.lateStores }], guard := none }) (v := ?_) rfl (by kernel_rfl) (by kernel_rfl) (by kernel_rfl) (fun _ _ _ h => h) (Or.inl ⟨by rfl, ?hyaa7⟩) hHeld ?restaa7
        case hyaa7 =>
          intro w hSw
          try dsimp only at hSw
          go_simp
          try with_reducible rfl
        try simp only [Act.put, List.setIfInBounds_toArray, List.set_cons_zero, List.set_cons_succ]
        refine wpAnyH_take (i := 8) (oi := { dst := some 97, op := Op.indexAddr 75 (Operand.tmp 95) (Operand.tmp 96), type := 0, pos := "merkle.go:142", after := #[{ on := 6, ground := Ground.data }, { on := 7, ground := Ground.data }, { on := 10, ground := Ground.gcOnly Departure.lateStores }], guard := none }) (v := ?_) rfl (by kernel_rfl) (by kernel_rfl) (by kernel_rfl) (fun _ _ _ h => h) (Or.inl ⟨by rfl, ?hyaa8⟩) hHeld ?restaa8
        case hyaa8 =>
          intro w hSw
          try dsimp only at hSw
          go_simp
          try with_reducible rfl
        try simp only [Act.put, List.setIfInBounds_toArray, List.set_cons_zero, List.set_cons_succ]
        refine wpAnyH_take (i := 9) (oi := { dst := some 98, op := Op.load 48 (Operand.tmp 97), type := 48, pos := "merkle.go:142", after := #[{ on := 8, ground := Ground.data }, { on := 10, ground := Ground.gcOnly Departure.lateStores }], guard := none }) (v := ?_) rfl (by kernel_rfl) (by kernel_rfl) (by kernel_rfl) (fun _ _ _ h => h) (Or.inl ⟨by rfl, ?hyaa9⟩) hHeld ?restaa9
        case hyaa9 =>
          intro w hSw
          try dsimp only at hSw
          go_simp
          try with_reducible rfl
        try simp only [Act.put, List.setIfInBounds_toArray, List.set_cons_zero, List.set_cons_succ]
        refine wpAnyH_take (i := 10) (oi := { dst := some 12, op := Op.assign (Operand.tmp 93), type := 48, pos := "merkle.go:142", after := #[{ on := 4, ground := Ground.data }, { on := 0, ground := Ground.phase }, { on := 1, ground := Ground.phase }, { on := 2, ground := Ground.phase }, { on := 3, ground := Ground.phase }, { on := 4, ground := Ground.phase }, { on := 5, ground := Ground.textOnly Departure.lateStores }, { on := 6, ground := Ground.textOnly Departure.lateStores }, { on := 7, ground := Ground.textOnly Departure.lateStores }, { on := 8, ground := Ground.textOnly Departure.lateStores }, { on := 9, ground := Ground.textOnly Departure.lateStores }], guard := none }) (v := ?_) rfl (by kernel_rfl) (by kernel_rfl) (by kernel_rfl) (fun _ _ _ h => h) (Or.inl ⟨by rfl, ?hyaa10⟩) hHeld ?restaa10
        case hyaa10 =>
          intro w hSw
          try dsimp only at hSw
          go_simp
          try with_reducible rfl
        try simp only [Act.put, List.setIfInBounds_toArray, List.set_cons_zero, List.set_cons_succ]
        refine wpAnyH_take (i := 11) (oi := { dst := some 13, op := Op.assign (Operand.tmp 98), type := 48, pos := "merkle.go:142", after := #[{ on := 9, ground := Ground.data }, { on := 10, ground := Ground.chain }, { on := 0, ground := Ground.phase }, { on := 1, ground := Ground.phase }, { on := 2, ground := Ground.phase }, { on := 3, ground := Ground.phase }, { on := 4, ground := Ground.phase }, { on := 5, ground := Ground.phase }, { on := 6, ground := Ground.phase }, { on := 7, ground := Ground.phase }, { on := 8, ground := Ground.phase }, { on := 9, ground := Ground.phase }, { on := 10, ground := Ground.phase }], guard := none }) (v := ?_) rfl (by kernel_rfl) (by kernel_rfl) (by kernel_rfl) (fun _ _ _ h => h) (Or.inl ⟨by rfl, ?hyaa11⟩) hHeld ?restaa11
        case hyaa11 =>
          intro w hSw
          try dsimp only at hSw
          go_simp
          try with_reducible rfl
        try simp only [Act.put, List.setIfInBounds_toArray, List.set_cons_zero, List.set_cons_succ]
        refine wpAnyH_take (i := 12) (oi := { dst := some 14, op := Op.assign (Operand.const (Value.bool true)), type := 4, pos := "merkle.go:142", after := #[{ on := 11, ground := Ground.chain }, { on := 0, ground := Ground.phase }, { on := 1, ground := Ground.phase }, { on := 2, ground := Ground.phase }, { on := 3, ground := Ground.phase }, { on := 4, ground := Ground.phase }, { on := 5, ground := Ground.phase }, { on := 6, ground := Ground.phase }, { on := 7, ground := Ground.phase }, { on := 8, ground := Ground.phase }, { on := 9, ground := Ground.phase }, { on := 10, ground := Ground.phase }, { on := 11, ground := Ground.phase }], guard := none }) (v := ?_) rfl (by kernel_rfl) (by kernel_rfl) (by kernel_rfl) (fun _ _ _ h => h) (Or.inl ⟨by rfl, ?hyaa12⟩) hHeld ?restaa12
        case hyaa12 =>
          intro w hSw
          try dsimp only at hSw
          go_simp
          try with_reducible rfl
        try simp only [Act.put, List.setIfInBounds_toArray, List.set_cons_zero, List.set_cons_succ]
        refine wpAnyH_done (by kernel_rfl) ?_ _
        go_wp2_with fail
        refine bodyPost_ret (v := .tuple #[.slice Ax tx.length cx, .slice Ay ty.length cy, .bool true]) (by simp [results, Tryd.results45, go_sem]) rfl ⟨Ax, cx, Ay, cy, rfl, (hat.out _ HB2).1, (hat.out _ HB2).2, HB11.out.trans (HB2.mono HB11.out.size)⟩
      · rw [if_neg hxy] at hstep
        have hcol2 := Lib.hid hstep.symm
        have hEq2 : ∀ V, (Op.equalIn 10000 23 (.agg (dc dx).toArray) (.agg (dc dy).toArray)).run Tryd.prog V = .ok false V := fun V => by have := hEqs V; rw [decide_eq_false hxy] at this; exact this
        clear hEqs hxy hstep hST hat
        go_wp2_with fail
        refine wp_region_held_drew (S := fun w' => w'.cell? ⟨w8.heap.size, 0, none⟩ = some (.slice (some ⟨a1, q1, none⟩) N c1) ∧ w'.cell? ⟨w10.heap.size, 0, none⟩ = some (.slice (some ⟨a2, q2, none⟩) N c2) ∧ w'.rangeAt a1 (q1 + k * 32) (dc dx) ∧ w'.rangeAt a2 (q2 + k * 32) (dc dy)) (by kernel_rfl) (by exact hS.out _ HB) (fun hHeld => ?_)
        refine wpAnyH_take (i := 0) (oi := { dst := some 78, op := Op.fieldAddr 89 (Operand.tmp 19) 0, type := 0, pos := "merkle.go:139", after := #[], guard := none }) (v := ?_) rfl (by kernel_rfl) (by kernel_rfl) (by kernel_rfl) (fun _ _ _ h => h) (Or.inl ⟨by rfl, ?hya0⟩) hHeld ?resta0
        case hya0 =>
          intro w hSw
          try dsimp only at hSw
          go_simp
          try with_reducible rfl
        try simp only [Act.put, List.setIfInBounds_toArray, List.set_cons_zero, List.set_cons_succ]
        refine wpAnyH_take (i := 1) (oi := { dst := some 79, op := Op.load 31 (Operand.tmp 78), type := 31, pos := "merkle.go:139", after := #[{ on := 0, ground := Ground.data }], guard := none }) (v := ?_) rfl (by kernel_rfl) (by kernel_rfl) (by kernel_rfl) (fun _ _ _ h => h) (Or.inl ⟨by rfl, ?hya1⟩) hHeld ?resta1
        case hya1 =>
          intro w hSw
          try dsimp only at hSw
          go_simp
          try with_reducible rfl
        try simp only [Act.put, List.setIfInBounds_toArray, List.set_cons_zero, List.set_cons_succ]
        refine wpAnyH_take (i := 2) (oi := { dst := some 80, op := Op.move (Operand.tmp 23), type := 3, pos := "merkle.go:139", after := #[], guard := none }) (v := ?_) rfl (by kernel_rfl) (by kernel_rfl) (by kernel_rfl) (fun _ _ _ h => h) (Or.inl ⟨by rfl, ?hya2⟩) hHeld ?resta2
        case hya2 =>
          intro w hSw
          try dsimp only at hSw
          go_simp
          try with_reducible rfl
        try simp only [Act.put, List.setIfInBounds_toArray, List.set_cons_zero, List.set_cons_succ]
        refine wpAnyH_take (i := 3) (oi := { dst := some 81, op := Op.indexAddr 31 (Operand.tmp 79) (Operand.tmp 80), type := 0, pos := "merkle.go:139", after := #[{ on := 1, ground := Ground.data }, { on := 2, ground := Ground.data }], guard := none }) (v := ?_) rfl (by kernel_rfl) (by kernel_rfl) (by kernel_rfl) (fun _ _ _ h => h) (Or.inl ⟨by rfl, ?hya3⟩) hHeld ?resta3
        case hya3 =>
          intro w hSw
          try dsimp only at hSw
          go_simp
          try with_reducible rfl
        try simp only [Act.put, List.setIfInBounds_toArray, List.set_cons_zero, List.set_cons_succ]
        refine wpAnyH_take (i := 4) (oi := { dst := some 82, op := Op.load 23 (Operand.tmp 81), type := 23, pos := "merkle.go:139", after := #[{ on := 3, ground := Ground.data }], guard := none }) (v := _) rfl (by kernel_rfl) (by kernel_rfl) (by kernel_rfl) (fun _ _ _ h => h) (yieldsIf_load_mid (by rfl) 23 (.tmp 81) rfl a1 (q1 + k * 32) rfl (dc dx) _ (fun _ h => h.2.2.1) Tryd.underlying23 rfl i1.out) hHeld ?_
        try simp only [Act.put, List.setIfInBounds_toArray, List.set_cons_zero, List.set_cons_succ]
        refine wpAnyH_take (i := 5) (oi := { dst := some 83, op := Op.fieldAddr 89 (Operand.tmp 21) 0, type := 0, pos := "merkle.go:139", after := #[], guard := none }) (v := ?_) rfl (by kernel_rfl) (by kernel_rfl) (by kernel_rfl) (fun _ _ _ h => h) (Or.inl ⟨by rfl, ?hya5⟩) hHeld ?resta5
        case hya5 =>
          intro w hSw
          try dsimp only at hSw
          go_simp
          try with_reducible rfl
        try simp only [Act.put, List.setIfInBounds_toArray, List.set_cons_zero, List.set_cons_succ]
        refine wpAnyH_take (i := 6) (oi := { dst := some 84, op := Op.load 31 (Operand.tmp 83), type := 31, pos := "merkle.go:139", after := #[{ on := 5, ground := Ground.data }], guard := none }) (v := ?_) rfl (by kernel_rfl) (by kernel_rfl) (by kernel_rfl) (fun _ _ _ h => h) (Or.inl ⟨by rfl, ?hya6⟩) hHeld ?resta6
        case hya6 =>
          intro w hSw
          try dsimp only at hSw
          go_simp
          try with_reducible rfl
        try simp only [Act.put, List.setIfInBounds_toArray, List.set_cons_zero, List.set_cons_succ]
        refine wpAnyH_take (i := 7) (oi := { dst := some 85, op := Op.move (Operand.tmp 23), type := 3, pos := "merkle.go:139", after := #[], guard := none }) (v := ?_) rfl (by kernel_rfl) (by kernel_rfl) (by kernel_rfl) (fun _ _ _ h => h) (Or.inl ⟨by rfl, ?hya7⟩) hHeld ?resta7
        case hya7 =>
          intro w hSw
          try dsimp only at hSw
          go_simp
          try with_reducible rfl
        try simp only [Act.put, List.setIfInBounds_toArray, List.set_cons_zero, List.set_cons_succ]
        refine wpAnyH_take (i := 8) (oi := { dst := some 86, op := Op.indexAddr 31 (Operand.tmp 84) (Operand.tmp 85), type := 0, pos := "merkle.go:139", after := #[{ on := 6, ground := Ground.data }, { on := 7, ground := Ground.data }], guard := none }) (v := ?_) rfl (by kernel_rfl) (by kernel_rfl) (by kernel_rfl) (fun _ _ _ h => h) (Or.inl ⟨by rfl, ?hya8⟩) hHeld ?resta8
        case hya8 =>
          intro w hSw
          try dsimp only at hSw
          go_simp
          try with_reducible rfl
        try simp only [Act.put, List.setIfInBounds_toArray, List.set_cons_zero, List.set_cons_succ]
        refine wpAnyH_take (i := 9) (oi := { dst := some 87, op := Op.load 23 (Operand.tmp 86), type := 23, pos := "merkle.go:139", after := #[{ on := 8, ground := Ground.data }], guard := none }) (v := _) rfl (by kernel_rfl) (by kernel_rfl) (by kernel_rfl) (fun _ _ _ h => h) (yieldsIf_load_mid (by rfl) 23 (.tmp 86) rfl a2 (q2 + k * 32) rfl (dc dy) _ (fun _ h => h.2.2.2) Tryd.underlying23 rfl i2.out) hHeld ?_
        try simp only [Act.put, List.setIfInBounds_toArray, List.set_cons_zero, List.set_cons_succ]
        refine wpAnyH_take (i := 10) (oi := { dst := some 88, op := Op.binOp BinOp.neq 23 (Operand.tmp 82) (Operand.tmp 87) 23, type := 4, pos := "merkle.go:139", after := #[{ on := 4, ground := Ground.data }, { on := 9, ground := Ground.data }], guard := none }) (v := ?_) rfl (by kernel_rfl) (by kernel_rfl) (by kernel_rfl) (fun _ _ _ h => h) (Or.inl ⟨by rfl, ?hya10⟩) hHeld ?resta10
        case hya10 =>
          intro w hSw
          try dsimp only at hSw
          go_simp
          try with_reducible rfl
        try simp only [Act.put, List.setIfInBounds_toArray, List.set_cons_zero, List.set_cons_succ]
        refine wpAnyH_done (by kernel_rfl) ?_ _
        go_wp2_with fail
        go_roundw
        case rel => exact ⟨k + 1, by go_num, by omega, hcol2, Lib.hid HB⟩
        case measure => simp [intOf]; omega
    · have hRn : R = none := by rw [← hcol.out, collL_end (by rw [hN1.out]; omega)]
      subst hRn
      have dl : decide ((k : Int) < (N : Int)) = false := decide_eq_false (by omega)
      clear hcol
      go_wp2_with fail
      refine bodyPost_ret (v := .tuple #[.slice none 0 0, .slice none 0 0, .bool false]) (by simp [results, Tryd.results45, go_sem]) rfl ⟨none, 0, none, 0, rfl, ato_nil _, ato_nil _, HB11.out.trans (hBr.out.mono HB11.out.size)⟩
theorem mcoll_any (n i : Int) (la lb : List UInt8) (ma mb : Nat) (hma : la.length = ma) (hmb : lb.length = mb) (hmas : ma ≤ 1000000) (hmbs : mb ≤ 1000000) (A B : Option Addr) (ca cb : Nat) (pa pb : List (List UInt8)) (ka kb : Nat) (hka : pa.length = ka) (hkb : pb.length = kb) (hkas : ka ≤ 65536) (hkbs : kb ≤ 65536) (P Q : Option Addr) (cp cq : Nat) (hcp : ka ≤ cp) (hcq : kb ≤ cq) (w : World) (hA : AtO w A la) (hB : AtO w B lb) (hP : DsAt w P pa) (hQ : DsAt w Q pb) (pa32 : ∀ d ∈ pa, d.length = 32) (pb32 : ∀ d ∈ pb, d.length = 32) (hL : Laid w) : Calls Tryd.prog 45 #[.int .i64 n, .int .i64 i, .slice A ma ca, .slice B mb cb, .slice P ka cp, .slice Q kb cq] w (CoC (colV n i la lb pa pb) w) := by
  by_cases h1 : (clV n i la pa).2 = 0
  · by_cases h2 : (clV n i lb pb).2 = 0
    · by_cases h3 : (clV n i la pa).1 = (clV n i lb pb).1
      · by_cases h4 : la = lb
        · exact mcoll_e4 n i la lb ma mb hma hmb hmas hmbs A B ca cb pa pb ka kb hka hkb hkas hkbs P Q cp cq hcp hcq w hA hB hP hQ pa32 pb32 hL h1 h2 h3 h4
        · obtain ⟨n', i', rfl, rfl, hi, hn, r1, k1, e1⟩ := clV_ok h1
          obtain ⟨n2, i2, e5, e6, _, _, r2, k2, e2⟩ := clV_ok h2
          obtain rfl : n' = n2 := Int.ofNat.inj e5
          obtain rfl : i' = i2 := Int.ofNat.inj e6
          rw [colV_in hn hi k1 k2 (by rw [← e1, ← e2, h3]) h4]
          exact mcoll_main n' i' hn hi la lb ma mb hma hmb hmas hmbs A B ca cb pa pb ka kb hka hkb hkas hkbs P Q cp cq hcp hcq w hA hB hP hQ pa32 pb32 hL h1 h2 h3 h4 r1 r2 k1 k2
      · exact mcoll_e3 n i la lb ma mb hma hmb hmas hmbs A B ca cb pa pb ka kb hka hkb hkas hkbs P Q cp cq hcp hcq w hA hB hP hQ pa32 pb32 hL h1 h2 h3
    · exact mcoll_e2 n i la lb ma mb hma hmb hmas hmbs A B ca cb pa pb ka kb hka hkb hkas hkbs P Q cp cq hcp hcq w hA hB hP hQ pa32 pb32 hL h1 h2
  · exact mcoll_e1 n i la lb ma mb hma hmb hmas hmbs A B ca cb pa pb ka kb hka hkb hkas hkbs P Q cp cq hcp hcq w hA hB hP hQ pa32 pb32 hL h1
end Go.Proofs.YtnccbhndlnkboaaDoor
/- The walk of seals.Clash. -/
namespace Go.Proofs.YtnccbhndlnkboaaDoor
open Go.RowKit Go.Shelf Cdc Sha
set_option linter.unusedVariables false
set_option linter.unusedSimpArgs false

/-- what Clash answers -/
def clS (s : Sl) (a b : Op) : List UInt8 × List UInt8 × Bool :=
  if clG s a b = true then colV s.m (a.day - s.f) (leafM s.t a.day a.bl a.salt) (leafM s.t b.day b.bl b.salt) a.path b.path else ([], [], false)
theorem clG_yes {s : Sl} {a b : Op} (h : clG s a b = true) : chkS s a = true ∧ chkS s b = true ∧ a.day = b.day ∧ (a.bl == b.bl && decide (a.salt = b.salt)) = false := by
  unfold clG at h
  simp only [Bool.and_eq_true, Bool.not_eq_true', decide_eq_true_eq] at h
  exact ⟨h.1, h.2.1, h.2.2.1, h.2.2.2⟩
theorem chkS_in {s : Sl} {a : Op} (h : chkS s a = true) : 0 ≤ s.f ∧ 1 ≤ s.m ∧ s.m ≤ 512 ∧ s.f ≤ a.day ∧ a.day - s.f < s.m := by
  unfold chkS at h
  simp only [Bool.and_eq_true] at h
  have h1 : _ := of_decide_eq_true h.1
  have h2 : s.f ≤ a.day ∧ a.day - s.f < s.m := of_decide_eq_true h.2.1
  have h3 := h2.1
  have h4 := h2.2
  refine ⟨by omega, by omega, by omega, h3, h4⟩
theorem clash_three {ab bb : Bool} {x y : Int} (h : (ab == bb && decide (x = y)) = false) : (ab = bb ∧ (x == y) = false) ∨ (ab = true ∧ bb = false) ∨ (ab = false ∧ bb = true) := by
  revert h
  cases ab <;> cases bb <;> simp
theorem clash_cells (w : World) (S : List Value) (t f m ad as_ bd bs_ : Int) (ab bb : Bool) (P Q : Option Addr) (ka kb cp cq : Nat) (hS0 : S[0]? = some (.int .i64 t)) (hS1 : S[1]? = some (.int .i64 f)) (hS2 : S[2]? = some (.int .i64 m)) (V : World) (hV : Below (((w.alloc (.cells S.toArray 25)).alloc (.cells #[.int .i64 ad, .int .i64 as_, .bool ab, .slice P ka cp] 33)).alloc (.cells #[.int .i64 bd, .int .i64 bs_, .bool bb, .slice Q kb cq] 33)).heap.size (((w.alloc (.cells S.toArray 25)).alloc (.cells #[.int .i64 ad, .int .i64 as_, .bool ab, .slice P ka cp] 33)).alloc (.cells #[.int .i64 bd, .int .i64 bs_, .bool bb, .slice Q kb cq] 33)) V) : (V.rangeAt w.heap.size 0 S) ∧ (V.cell? ⟨w.heap.size + 1, 0, none⟩ = some (.int .i64 ad) ∧ V.cell? ⟨w.heap.size + 1, 1, none⟩ = some (.int .i64 as_) ∧ V.cell? ⟨w.heap.size + 1, 2, none⟩ = some (.bool ab) ∧ V.cell? ⟨w.heap.size + 1, 3, none⟩ = some (.slice P ka cp)) ∧ (V.cell? ⟨w.heap.size + 1 + 1, 0, none⟩ = some (.int .i64 bd) ∧ V.cell? ⟨w.heap.size + 1 + 1, 1, none⟩ = some (.int .i64 bs_) ∧ V.cell? ⟨w.heap.size + 1 + 1, 2, none⟩ = some (.bool bb) ∧ V.cell? ⟨w.heap.size + 1 + 1, 3, none⟩ = some (.slice Q kb cq)) ∧ (V.cell? ⟨w.heap.size, 0, none⟩ = some (.int .i64 t) ∧ V.cell? ⟨w.heap.size, 1, none⟩ = some (.int .i64 f) ∧ V.cell? ⟨w.heap.size, 2, none⟩ = some (.int .i64 m)) ∧ V.rangeAt (w.heap.size + 1) 0 [.int .i64 ad, .int .i64 as_, .bool ab, .slice P ka cp] ∧ V.rangeAt (w.heap.size + 1 + 1) 0 [.int .i64 bd, .int .i64 bs_, .bool bb, .slice Q kb cq] := by
  have s1 := heap_alloc_new w (.cells S.toArray 25)
  have s2 := (Below.heap_alloc (w.alloc (.cells S.toArray 25)) (.cells #[.int .i64 ad, .int .i64 as_, .bool ab, .slice P ka cp] 33) w.heap.size (by simp)).trans s1
  have s3 := (Below.heap_alloc ((w.alloc (.cells S.toArray 25)).alloc (.cells #[.int .i64 ad, .int .i64 as_, .bool ab, .slice P ka cp] 33)) (.cells #[.int .i64 bd, .int .i64 bs_, .bool bb, .slice Q kb cq] 33) w.heap.size (by simp; omega)).trans s2
  have o2 := heap_alloc_new (w.alloc (.cells S.toArray 25)) (.cells #[.int .i64 ad, .int .i64 as_, .bool ab, .slice P ka cp] 33)
  have o3 := (Below.heap_alloc ((w.alloc (.cells S.toArray 25)).alloc (.cells #[.int .i64 ad, .int .i64 as_, .bool ab, .slice P ka cp] 33)) (.cells #[.int .i64 bd, .int .i64 bs_, .bool bb, .slice Q kb cq] 33) (w.alloc (.cells S.toArray 25)).heap.size (by simp)).trans o2
  have p3 := heap_alloc_new ((w.alloc (.cells S.toArray 25)).alloc (.cells #[.int .i64 ad, .int .i64 as_, .bool ab, .slice P ka cp] 33)) (.cells #[.int .i64 bd, .int .i64 bs_, .bool bb, .slice Q kb cq] 33)
  simp only [World.size_alloc] at o2 o3 p3
  have hz3 : (((w.alloc (.cells S.toArray 25)).alloc (.cells #[.int .i64 ad, .int .i64 as_, .bool ab, .slice P ka cp] 33)).alloc (.cells #[.int .i64 bd, .int .i64 bs_, .bool bb, .slice Q kb cq] 33)).heap.size = w.heap.size + 3 := by simp
  have h1 := (hV.block w.heap.size (by rw [hz3]; omega)).trans s3
  have h2 := (hV.block (w.heap.size + 1) (by rw [hz3]; omega)).trans o3
  have h3 := (hV.block (w.heap.size + 1 + 1) (by rw [hz3]; omega)).trans p3
  have r1 : V.rangeAt w.heap.size 0 S := fun j v hj => by
    rw [cell_of_row _ _ _ _ _ _ h1, Nat.zero_add]
    simpa using hj
  refine ⟨r1, ⟨by rw [cell_of_row _ _ _ _ _ _ h2]; rfl, by rw [cell_of_row _ _ _ _ _ _ h2]; rfl, by rw [cell_of_row _ _ _ _ _ _ h2]; rfl, by rw [cell_of_row _ _ _ _ _ _ h2]; rfl⟩, ⟨by rw [cell_of_row _ _ _ _ _ _ h3]; rfl, by rw [cell_of_row _ _ _ _ _ _ h3]; rfl, by rw [cell_of_row _ _ _ _ _ _ h3]; rfl, by rw [cell_of_row _ _ _ _ _ _ h3]; rfl⟩, ⟨r1 0 _ hS0, r1 1 _ hS1, r1 2 _ hS2⟩, fun j v hj => ?_, fun j v hj => ?_⟩
  · rw [cell_of_row _ _ _ _ _ _ h2, Nat.zero_add]
    simpa using hj
  · rw [cell_of_row _ _ _ _ _ _ h3, Nat.zero_add]
    simpa using hj
theorem op_info4 : (Tryd.prog.info? 33).map (·.size) = some 4 := by kernel_rfl
set_option maxRecDepth 100000 in
set_option maxHeartbeats 8000000 in
theorem sclash_go (w : World) (S : List Value) (t f m ad as_ bs_ : Int) (ab bb : Bool) (P Q : Option Addr) (ka kb cp cq : Nat) (la lb : List UInt8) (na nb : Nat) (hna : Hid (la.length = na)) (hnb : Hid (lb.length = nb)) (R : List UInt8 × List UInt8 × Bool) (hA : Hid (∀ V, Below w.heap.size w V → Calls Tryd.prog 23 #[.agg S.toArray, .agg #[.int .i64 ad, .int .i64 as_, .bool ab, .slice P ka cp]] V fun e w' => e = .returned (.bool true) ∧ Below V.heap.size V w')) (hB : Hid (∀ V, Below w.heap.size w V → Calls Tryd.prog 23 #[.agg S.toArray, .agg #[.int .i64 ad, .int .i64 bs_, .bool bb, .slice Q kb cq]] V fun e w' => e = .returned (.bool true) ∧ Below V.heap.size V w')) (hS0 : S[0]? = some (.int .i64 t)) (hS1 : S[1]? = some (.int .i64 f)) (hS2 : S[2]? = some (.int .i64 m)) (pil : Hid ((Tryd.prog.info? 25).map (·.size) = some S.length)) (hCa : Hid (∀ V g, V.heap[g]? = some (.cells #[.int .i64 t, .int .i64 f, .int .i64 m] 69 (0, 0)) → Calls Tryd.prog 43 #[.agg #[.int .i64 ad, .int .i64 as_, .bool ab, .slice P ka cp], .pointer (some ⟨g, 0, none⟩)] V (JoinC la V))) (hCb : Hid (∀ V g, V.heap[g]? = some (.cells #[.int .i64 t, .int .i64 f, .int .i64 m] 69 (0, 0)) → Calls Tryd.prog 43 #[.agg #[.int .i64 ad, .int .i64 bs_, .bool bb, .slice Q kb cq], .pointer (some ⟨g, 0, none⟩)] V (JoinC lb V))) (hCo : Hid (∀ V A cA B cB, Below w.heap.size w V → AtO V A la → AtO V B lb → Calls Tryd.prog 45 #[.int .i64 m, .int .i64 (ad - f), .slice A na cA, .slice B nb cB, .slice P ka cp, .slice Q kb cq] V (CoC R V))) (hwr : IntKind.i64.wrap (ad - f) = ad - f) (hc : (ab == bb && decide (as_ = bs_)) = false) :
    Calls Tryd.prog 21 #[.agg S.toArray, .agg #[.int .i64 ad, .int .i64 as_, .bool ab, .slice P ka cp], .agg #[.int .i64 ad, .int .i64 bs_, .bool bb, .slice Q kb cq]] w (CoC (R) w) := by
  have hc3 := clash_three hc
  clear hc
  obtain ⟨W3, hW3⟩ : ∃ W3, W3 = (((w.alloc (.cells S.toArray 25)).alloc (.cells #[.int .i64 ad, .int .i64 as_, .bool ab, .slice P ka cp] 33)).alloc (.cells #[.int .i64 ad, .int .i64 bs_, .bool bb, .slice Q kb cq] 33)) := ⟨_, rfl⟩
  have hB1 : Below w.heap.size w (((w.alloc (.cells S.toArray 25)).alloc (.cells #[.int .i64 ad, .int .i64 as_, .bool ab, .slice P ka cp] 33)).alloc (.cells #[.int .i64 ad, .int .i64 bs_, .bool bb, .slice Q kb cq] 33)) := (((Below.refl _ _).alloc (Nat.le_refl _) _).alloc (by simp) _).alloc (by simp; omega) _
  have hcells : Hid (∀ V, Below W3.heap.size W3 V → (V.rangeAt w.heap.size 0 S) ∧ (V.cell? ⟨w.heap.size + 1, 0, none⟩ = some (.int .i64 ad) ∧ V.cell? ⟨w.heap.size + 1, 1, none⟩ = some (.int .i64 as_) ∧ V.cell? ⟨w.heap.size + 1, 2, none⟩ = some (.bool ab) ∧ V.cell? ⟨w.heap.size + 1, 3, none⟩ = some (.slice P ka cp)) ∧ (V.cell? ⟨w.heap.size + 1 + 1, 0, none⟩ = some (.int .i64 ad) ∧ V.cell? ⟨w.heap.size + 1 + 1, 1, none⟩ = some (.int .i64 bs_) ∧ V.cell? ⟨w.heap.size + 1 + 1, 2, none⟩ = some (.bool bb) ∧ V.cell? ⟨w.heap.size + 1 + 1, 3, none⟩ = some (.slice Q kb cq)) ∧ (V.cell? ⟨w.heap.size, 0, none⟩ = some (.int .i64 t) ∧ V.cell? ⟨w.heap.size, 1, none⟩ = some (.int .i64 f) ∧ V.cell? ⟨w.heap.size, 2, none⟩ = some (.int .i64 m)) ∧ V.rangeAt (w.heap.size + 1) 0 [.int .i64 ad, .int .i64 as_, .bool ab, .slice P ka cp] ∧ V.rangeAt (w.heap.size + 1 + 1) 0 [.int .i64 ad, .int .i64 bs_, .bool bb, .slice Q kb cq]) := Lib.hid fun V hV => by
    subst hW3
    exact clash_cells w S t f m ad as_ ad bs_ ab bb P Q ka kb cp cq hS0 hS1 hS2 V hV
  have hl0 := (hcells.out _ (Below.refl _ _)).1
  rw [← hW3] at hB1
  replace hl0 := Lib.hid hl0
  clear hS0 hS1 hS2
  have hmf : ∀ (fn : Fn) (first cap : Array Value) (w : World), (Instr.makeFunc fn first cap).run Tryd.prog w = .ok (.func fn first cap) w := fun _ _ _ _ => rfl
  rcases hc3 with ⟨rfl, d4⟩ | ⟨rfl, rfl⟩ | ⟨rfl, rfl⟩
  · rw [hW3] at hl0
    go_enter Tryd.func21, Tryd.ntmps21
    go_wp2_with (refine wpList_load_midG (by rfl) 25 (.tmp 3) (by rfl) w.heap.size 0 (by rfl) S _ hl0.out Tryd.underlying25 (by rfl) pil.out ?_)
    rw [← hW3]
    refine (hA.out _ hB1).mono ?_
    rintro e w4 ⟨rfl, hb4⟩
    obtain ⟨hl4, ⟨y0, y1, y2, y3⟩, ⟨z0, z1, z2, z3⟩, -, -, -⟩ := hcells.out w4 hb4
    replace hl4 := Lib.hid hl4
    have hB4 := hB1.trans (hb4.mono hB1.size)
    go_wp2_with (refine wpList_load_midG (by rfl) 25 (.tmp 3) (by rfl) w.heap.size 0 (by rfl) S _ hl4.out Tryd.underlying25 (by rfl) pil.out ?_)
    refine (hB.out _ hB4).mono ?_
    rintro e w5 ⟨rfl, hb5⟩
    clear hl4 y0 y1 y2 y3 z0 z1 z2 z3
    obtain ⟨-, ⟨y0, y1, y2, y3⟩, ⟨z0, z1, z2, z3⟩, ⟨x0, x1, x2⟩, -, -⟩ := hcells.out w5 (hb4.trans (hb5.mono hb4.size))
    have hB5 := hB4.trans (hb5.mono hB4.size)
    go_wp2_with fail
    have hd6 := heap_alloc_new w5 (.cells #[.int .i64 t, .int .i64 f, .int .i64 m] 69)
    have hb6 := blow1 w5 (.cells #[.int .i64 t, .int .i64 f, .int .i64 m] 69)
    generalize w5.alloc (.cells #[.int .i64 t, .int .i64 f, .int .i64 m] 69) = w6 at hd6 hb6 ⊢
    have hdv : Hid (∀ V, Below w6.heap.size w6 V → V.heap[w5.heap.size]? = some (.cells #[.int .i64 t, .int .i64 f, .int .i64 m] 69 (0, 0))) := Lib.hid fun V hV => (hV.block _ (Array.getElem?_eq_some_iff.1 hd6).1).trans hd6
    have hw6 := Lib.hid (hB5.trans (hb6.mono hB5.size))
    have hb36 := (hb4.trans (hb5.mono hb4.size)).trans (hb6.mono (hb4.trans (hb5.mono hb4.size)).size)
    have hSp : Hid (∀ V, Below w6.heap.size w6 V → V.cell? ⟨w.heap.size, 1, none⟩ = some (.int .i64 f) ∧ V.cell? ⟨w.heap.size, 2, none⟩ = some (.int .i64 m) ∧ V.cell? ⟨w.heap.size + 1, 0, none⟩ = some (.int .i64 ad) ∧ V.cell? ⟨w.heap.size + 1, 3, none⟩ = some (.slice P ka cp) ∧ V.cell? ⟨w.heap.size + 1 + 1, 3, none⟩ = some (.slice Q kb cq) ∧ V.rangeAt (w.heap.size + 1) 0 [.int .i64 ad, .int .i64 as_, .bool ab, .slice P ka cp] ∧ V.rangeAt (w.heap.size + 1 + 1) 0 [.int .i64 ad, .int .i64 bs_, .bool ab, .slice Q kb cq]) := Lib.hid fun V hV => by
      have h := hcells.out V (hb36.trans (hV.mono hb36.size))
      exact ⟨h.2.2.2.1.2.1, h.2.2.2.1.2.2, h.2.1.1, h.2.1.2.2.2, h.2.2.1.2.2.2, h.2.2.2.2.1, h.2.2.2.2.2⟩
    have HB : Below w6.heap.size w6 w6.drew := (Below.refl _ _).drew
    clear hb4 hb5 hb36 hB4 hB5 hB1 hl0 y0 y1 y2 y3 z0 z1 z2 z3 x0 x1 x2 hA hB hcells pil hmf
    refine wp_region_held_drew (S := fun w' => w'.cell? ⟨w.heap.size, 1, none⟩ = some (.int .i64 f) ∧ w'.cell? ⟨w.heap.size, 2, none⟩ = some (.int .i64 m) ∧ w'.cell? ⟨w.heap.size + 1, 0, none⟩ = some (.int .i64 ad) ∧ w'.cell? ⟨w.heap.size + 1, 3, none⟩ = some (.slice P ka cp) ∧ w'.cell? ⟨w.heap.size + 1 + 1, 3, none⟩ = some (.slice Q kb cq) ∧ w'.rangeAt (w.heap.size + 1) 0 [.int .i64 ad, .int .i64 as_, .bool ab, .slice P ka cp] ∧ w'.rangeAt (w.heap.size + 1 + 1) 0 [.int .i64 ad, .int .i64 bs_, .bool ab, .slice Q kb cq]) (by kernel_rfl) (by exact hSp.out _ HB) (fun hHeld => ?_)
    refine wpAnyH_take (i := 0) (oi := { dst := some 50, op := Op.fieldAddr 25 (Operand.tmp 3) 2, type := 0, pos := "seals.go:112", after := #[], guard := none }) (v := ?_) rfl (by kernel_rfl) (by kernel_rfl) (by kernel_rfl) (fun _ _ _ h => h) (Or.inl ⟨by rfl, ?hy0⟩) hHeld ?rest0
    case hy0 =>
      intro w hSw
      try dsimp only at hSw
      go_simp
      try with_reducible rfl
    try simp only [Act.put, List.setIfInBounds_toArray, List.set_cons_zero, List.set_cons_succ]
    refine wpAnyH_take (i := 1) (oi := { dst := some 51, op := Op.load 3 (Operand.tmp 50), type := 3, pos := "seals.go:112", after := #[{ on := 0, ground := Ground.data }], guard := none }) (v := ?_) rfl (by kernel_rfl) (by kernel_rfl) (by kernel_rfl) (fun _ _ _ h => h) (Or.inl ⟨by rfl, ?hy1⟩) hHeld ?rest1
    case hy1 =>
      intro w hSw
      try dsimp only at hSw
      go_simp
      try with_reducible rfl
    try simp only [Act.put, List.setIfInBounds_toArray, List.set_cons_zero, List.set_cons_succ]
    refine wpAnyH_take (i := 2) (oi := { dst := some 52, op := Op.fieldAddr 33 (Operand.tmp 4) 0, type := 0, pos := "seals.go:112", after := #[], guard := none }) (v := ?_) rfl (by kernel_rfl) (by kernel_rfl) (by kernel_rfl) (fun _ _ _ h => h) (Or.inl ⟨by rfl, ?hy2⟩) hHeld ?rest2
    case hy2 =>
      intro w hSw
      try dsimp only at hSw
      go_simp
      try with_reducible rfl
    try simp only [Act.put, List.setIfInBounds_toArray, List.set_cons_zero, List.set_cons_succ]
    refine wpAnyH_take (i := 3) (oi := { dst := some 53, op := Op.load 3 (Operand.tmp 52), type := 3, pos := "seals.go:112", after := #[{ on := 2, ground := Ground.data }], guard := none }) (v := ?_) rfl (by kernel_rfl) (by kernel_rfl) (by kernel_rfl) (fun _ _ _ h => h) (Or.inl ⟨by rfl, ?hy3⟩) hHeld ?rest3
    case hy3 =>
      intro w hSw
      try dsimp only at hSw
      go_simp
      try with_reducible rfl
    try simp only [Act.put, List.setIfInBounds_toArray, List.set_cons_zero, List.set_cons_succ]
    refine wpAnyH_take (i := 4) (oi := { dst := some 54, op := Op.fieldAddr 25 (Operand.tmp 3) 1, type := 0, pos := "seals.go:112", after := #[], guard := none }) (v := ?_) rfl (by kernel_rfl) (by kernel_rfl) (by kernel_rfl) (fun _ _ _ h => h) (Or.inl ⟨by rfl, ?hy4⟩) hHeld ?rest4
    case hy4 =>
      intro w hSw
      try dsimp only at hSw
      go_simp
      try with_reducible rfl
    try simp only [Act.put, List.setIfInBounds_toArray, List.set_cons_zero, List.set_cons_succ]
    refine wpAnyH_take (i := 5) (oi := { dst := some 55, op := Op.load 3 (Operand.tmp 54), type := 3, pos := "seals.go:112", after := #[{ on := 4, ground := Ground.data }], guard := none }) (v := ?_) rfl (by kernel_rfl) (by kernel_rfl) (by kernel_rfl) (fun _ _ _ h => h) (Or.inl ⟨by rfl, ?hy5⟩) hHeld ?rest5
    case hy5 =>
      intro w hSw
      try dsimp only at hSw
      go_simp
      try with_reducible rfl
    try simp only [Act.put, List.setIfInBounds_toArray, List.set_cons_zero, List.set_cons_succ]
    refine wpAnyH_take (i := 6) (oi := { dst := some 56, op := Op.binOp BinOp.sub 3 (Operand.tmp 53) (Operand.tmp 55) 3, type := 3, pos := "seals.go:112", after := #[{ on := 3, ground := Ground.data }, { on := 5, ground := Ground.data }], guard := none }) (v := ?_) rfl (by kernel_rfl) (by kernel_rfl) (by kernel_rfl) (fun _ _ _ h => h) (Or.inl ⟨by rfl, ?hy6⟩) hHeld ?rest6
    case hy6 =>
      intro w hSw
      try dsimp only at hSw
      go_simp
      try with_reducible rfl
    try simp only [Act.put, List.setIfInBounds_toArray, List.set_cons_zero, List.set_cons_succ]
    refine wpAnyH_take (i := 7) (oi := { dst := some 57, op := Op.move (Operand.tmp 10), type := 84, pos := "seals.go:112", after := #[], guard := none }) (v := ?_) rfl (by kernel_rfl) (by kernel_rfl) (by kernel_rfl) (fun _ _ _ h => h) (Or.inl ⟨by rfl, ?hy7⟩) hHeld ?rest7
    case hy7 =>
      intro w hSw
      try dsimp only at hSw
      go_simp
      try with_reducible rfl
    try simp only [Act.put, List.setIfInBounds_toArray, List.set_cons_zero, List.set_cons_succ]
    refine wpAnyH_take (i := 8) (oi := { dst := some 58, op := Op.load 33 (Operand.tmp 4), type := 33, pos := "seals.go:112", after := #[], guard := none }) (v := _) rfl (by kernel_rfl) (by kernel_rfl) (by kernel_rfl) (fun _ _ _ h => h) (yieldsIf_load_mid (by rfl) 33 (.tmp 4) rfl (w.heap.size + 1) 0 rfl [.int .i64 ad, .int .i64 as_, .bool ab, .slice P ka cp] _ (fun _ h => h.2.2.2.2.2.1) Tryd.underlying33 rfl op_info4) hHeld ?_
    try simp only [Act.put, List.setIfInBounds_toArray, List.set_cons_zero, List.set_cons_succ]
    refine wpAnyH_take (i := 10) (oi := { dst := some 60, op := Op.move (Operand.tmp 10), type := 84, pos := "seals.go:112", after := #[], guard := none }) (v := ?_) rfl (by kernel_rfl) (by kernel_rfl) (by kernel_rfl) (fun _ _ _ h => h) (Or.inl ⟨by rfl, ?hy10⟩) hHeld ?rest10
    case hy10 =>
      intro w hSw
      try dsimp only at hSw
      go_simp
      try with_reducible rfl
    try simp only [Act.put, List.setIfInBounds_toArray, List.set_cons_zero, List.set_cons_succ]
    refine wpAnyH_take (i := 11) (oi := { dst := some 61, op := Op.load 33 (Operand.tmp 5), type := 33, pos := "seals.go:112", after := #[], guard := none }) (v := _) rfl (by kernel_rfl) (by kernel_rfl) (by kernel_rfl) (fun _ _ _ h => h) (yieldsIf_load_mid (by rfl) 33 (.tmp 5) rfl (w.heap.size + 1 + 1) 0 rfl [.int .i64 ad, .int .i64 bs_, .bool ab, .slice Q kb cq] _ (fun _ h => h.2.2.2.2.2.2) Tryd.underlying33 rfl op_info4) hHeld ?_
    try simp only [Act.put, List.setIfInBounds_toArray, List.set_cons_zero, List.set_cons_succ]
    refine wpAnyH_take (i := 13) (oi := { dst := some 63, op := Op.fieldAddr 33 (Operand.tmp 4) 3, type := 0, pos := "seals.go:112", after := #[], guard := none }) (v := ?_) rfl (by kernel_rfl) (by kernel_rfl) (by kernel_rfl) (fun _ _ _ h => h) (Or.inl ⟨by rfl, ?hy13⟩) hHeld ?rest13
    case hy13 =>
      intro w hSw
      try dsimp only at hSw
      go_simp
      try with_reducible rfl
    try simp only [Act.put, List.setIfInBounds_toArray, List.set_cons_zero, List.set_cons_succ]
    refine wpAnyH_take (i := 14) (oi := { dst := some 64, op := Op.load 31 (Operand.tmp 63), type := 31, pos := "seals.go:112", after := #[{ on := 13, ground := Ground.data }], guard := none }) (v := ?_) rfl (by kernel_rfl) (by kernel_rfl) (by kernel_rfl) (fun _ _ _ h => h) (Or.inl ⟨by rfl, ?hy14⟩) hHeld ?rest14
    case hy14 =>
      intro w hSw
      try dsimp only at hSw
      go_simp
      try with_reducible rfl
    try simp only [Act.put, List.setIfInBounds_toArray, List.set_cons_zero, List.set_cons_succ]
    refine wpAnyH_take (i := 15) (oi := { dst := some 65, op := Op.fieldAddr 33 (Operand.tmp 5) 3, type := 0, pos := "seals.go:112", after := #[], guard := none }) (v := ?_) rfl (by kernel_rfl) (by kernel_rfl) (by kernel_rfl) (fun _ _ _ h => h) (Or.inl ⟨by rfl, ?hy15⟩) hHeld ?rest15
    case hy15 =>
      intro w hSw
      try dsimp only at hSw
      go_simp
      try with_reducible rfl
    try simp only [Act.put, List.setIfInBounds_toArray, List.set_cons_zero, List.set_cons_succ]
    refine wpAnyH_take (i := 16) (oi := { dst := some 66, op := Op.load 31 (Operand.tmp 65), type := 31, pos := "seals.go:112", after := #[{ on := 15, ground := Ground.data }], guard := none }) (v := ?_) rfl (by kernel_rfl) (by kernel_rfl) (by kernel_rfl) (fun _ _ _ h => h) (Or.inl ⟨by rfl, ?hy16⟩) hHeld ?rest16
    case hy16 =>
      intro w hSw
      try dsimp only at hSw
      go_simp
      try with_reducible rfl
    try simp only [Act.put, List.setIfInBounds_toArray, List.set_cons_zero, List.set_cons_succ]
    refine wpAnyH_ready (rs := [9]) (by kernel_rfl) (by simp) (AllReadyH.cons (o := { dst := some 59, op := Op.call { callee := Callee.value (Operand.tmp 57), args := #[Operand.tmp 58], argTypes := #[33] }, type := 48, pos := "seals.go:112", after := #[{ on := 7, ground := Ground.data }, { on := 8, ground := Ground.data }], guard := none }) rfl (fun K hK => ?_) AllReadyH.nil)
    go_simp
    go_at_call 43
    refine (hCa.out _ _ (hdv.out _ HB)).mono ?_
    unfold JoinC
    rw [hna.out]
    rintro e w7 ⟨A7, c7, rfl, h71, h72, h73, hb7, -⟩
    replace h73 := Lib.hid h73
    clear h71 h72
    have HB2 := HB.trans (hb7.mono HB.size)
    clear HB hb7
    have HB := HB2
    clear HB2
    refine hK.out _ _ (by exact hSp.out _ HB) (fun hHeld' => ?_)
    clear hK K hHeld
    have hHeld := hHeld'
    clear hHeld'
    try simp only [Act.put, List.setIfInBounds_toArray, List.set_cons_zero, List.set_cons_succ]
    refine wpAnyH_ready (rs := [12]) (by kernel_rfl) (by simp) (AllReadyH.cons (o := { dst := some 62, op := Op.call { callee := Callee.value (Operand.tmp 60), args := #[Operand.tmp 61], argTypes := #[33] }, type := 48, pos := "seals.go:112", after := #[{ on := 10, ground := Ground.data }, { on := 11, ground := Ground.data }, { on := 9, ground := Ground.chain }], guard := none }) rfl (fun K hK => ?_) AllReadyH.nil)
    go_simp
    go_at_call 43
    refine (hCb.out _ _ (hdv.out _ HB)).mono ?_
    unfold JoinC
    rw [hnb.out]
    rintro e w8 ⟨A8, c8, rfl, h81, h82, h83, hb8, -⟩
    replace h73 := Lib.hid (h73.out.below hb8)
    replace h83 := Lib.hid h83
    clear h81 h82
    have HB2 := HB.trans (hb8.mono HB.size)
    clear HB hb8
    have HB := HB2
    clear HB2
    refine hK.out _ _ (by exact hSp.out _ HB) (fun hHeld' => ?_)
    clear hK K hHeld
    have hHeld := hHeld'
    clear hHeld'
    try simp only [Act.put, List.setIfInBounds_toArray, List.set_cons_zero, List.set_cons_succ]
    refine wpAnyH_ready (rs := [17]) (by kernel_rfl) (by simp) (AllReadyH.cons (o := { dst := some 67, op := Op.call { callee := Callee.value (Operand.func 45), args := #[Operand.tmp 51, Operand.tmp 56, Operand.tmp 59, Operand.tmp 62, Operand.tmp 64, Operand.tmp 66], argTypes := #[3, 3, 48, 48, 31, 31] }, type := 49, pos := "seals.go:112", after := #[{ on := 1, ground := Ground.data }, { on := 6, ground := Ground.data }, { on := 9, ground := Ground.data }, { on := 12, ground := Ground.data }, { on := 14, ground := Ground.data }, { on := 16, ground := Ground.data }, { on := 12, ground := Ground.chain }], guard := none }) rfl (fun K hK => ?_) AllReadyH.nil)
    go_simp
    go_at_call 45
    refine (hCo.out _ _ _ _ _ (hw6.out.trans (HB.mono hw6.out.size)) h73.out h83.out).mono ?_
    unfold CoC
    rintro e w9 ⟨A9, c9, B9, d9, rfl, h91, h92, hb9⟩
    replace h91 := Lib.hid h91
    replace h92 := Lib.hid h92
    have HB2 := HB.trans (hb9.mono HB.size)
    clear HB hb9
    have HB := HB2
    clear HB2
    refine hK.out _ _ (by exact hSp.out _ HB) (fun hHeld' => ?_)
    clear hK K hHeld
    have hHeld := hHeld'
    clear hHeld'
    try simp only [Act.put, List.setIfInBounds_toArray, List.set_cons_zero, List.set_cons_succ]
    refine wpAnyH_take (i := 18) (oi := { dst := some 68, op := Op.extract (Operand.tmp 67) 0, type := 48, pos := "seals.go:112", after := #[{ on := 17, ground := Ground.data }], guard := none }) (v := ?_) rfl (by kernel_rfl) (by kernel_rfl) (by kernel_rfl) (fun _ _ _ h => h) (Or.inl ⟨by rfl, ?hy18⟩) hHeld ?rest18
    case hy18 =>
      intro w hSw
      try dsimp only at hSw
      go_simp
      try with_reducible rfl
    try simp only [Act.put, List.setIfInBounds_toArray, List.set_cons_zero, List.set_cons_succ]
    refine wpAnyH_take (i := 19) (oi := { dst := some 69, op := Op.extract (Operand.tmp 67) 1, type := 48, pos := "seals.go:112", after := #[{ on := 17, ground := Ground.data }], guard := none }) (v := ?_) rfl (by kernel_rfl) (by kernel_rfl) (by kernel_rfl) (fun _ _ _ h => h) (Or.inl ⟨by rfl, ?hy19⟩) hHeld ?rest19
    case hy19 =>
      intro w hSw
      try dsimp only at hSw
      go_simp
      try with_reducible rfl
    try simp only [Act.put, List.setIfInBounds_toArray, List.set_cons_zero, List.set_cons_succ]
    refine wpAnyH_take (i := 20) (oi := { dst := some 70, op := Op.extract (Operand.tmp 67) 2, type := 4, pos := "seals.go:112", after := #[{ on := 17, ground := Ground.data }], guard := none }) (v := ?_) rfl (by kernel_rfl) (by kernel_rfl) (by kernel_rfl) (fun _ _ _ h => h) (Or.inl ⟨by rfl, ?hy20⟩) hHeld ?rest20
    case hy20 =>
      intro w hSw
      try dsimp only at hSw
      go_simp
      try with_reducible rfl
    try simp only [Act.put, List.setIfInBounds_toArray, List.set_cons_zero, List.set_cons_succ]
    refine wpAnyH_take (i := 21) (oi := { dst := some 6, op := Op.assign (Operand.tmp 68), type := 48, pos := "seals.go:112", after := #[{ on := 18, ground := Ground.data }, { on := 17, ground := Ground.chain }, { on := 0, ground := Ground.phase }, { on := 1, ground := Ground.phase }, { on := 2, ground := Ground.phase }, { on := 3, ground := Ground.phase }, { on := 4, ground := Ground.phase }, { on := 5, ground := Ground.phase }, { on := 6, ground := Ground.phase }, { on := 7, ground := Ground.phase }, { on := 8, ground := Ground.phase }, { on := 9, ground := Ground.phase }, { on := 10, ground := Ground.phase }, { on := 11, ground := Ground.phase }, { on := 12, ground := Ground.phase }, { on := 13, ground := Ground.phase }, { on := 14, ground := Ground.phase }, { on := 15, ground := Ground.phase }, { on := 16, ground := Ground.phase }, { on := 17, ground := Ground.phase }, { on := 18, ground := Ground.phase }, { on := 19, ground := Ground.phase }, { on := 20, ground := Ground.phase }], guard := none }) (v := ?_) rfl (by kernel_rfl) (by kernel_rfl) (by kernel_rfl) (fun _ _ _ h => h) (Or.inl ⟨by rfl, ?hy21⟩) hHeld ?rest21
    case hy21 =>
      intro w hSw
      try dsimp only at hSw
      go_simp
      try with_reducible rfl
    try simp only [Act.put, List.setIfInBounds_toArray, List.set_cons_zero, List.set_cons_succ]
    refine wpAnyH_take (i := 22) (oi := { dst := some 7, op := Op.assign (Operand.tmp 69), type := 48, pos := "seals.go:112", after := #[{ on := 19, ground := Ground.data }, { on := 21, ground := Ground.chain }, { on := 0, ground := Ground.phase }, { on := 1, ground := Ground.phase }, { on := 2, ground := Ground.phase }, { on := 3, ground := Ground.phase }, { on := 4, ground := Ground.phase }, { on := 5, ground := Ground.phase }, { on := 6, ground := Ground.phase }, { on := 7, ground := Ground.phase }, { on := 8, ground := Ground.phase }, { on := 9, ground := Ground.phase }, { on := 10, ground := Ground.phase }, { on := 11, ground := Ground.phase }, { on := 12, ground := Ground.phase }, { on := 13, ground := Ground.phase }, { on := 14, ground := Ground.phase }, { on := 15, ground := Ground.phase }, { on := 16, ground := Ground.phase }, { on := 17, ground := Ground.phase }, { on := 18, ground := Ground.phase }, { on := 19, ground := Ground.phase }, { on := 20, ground := Ground.phase }, { on := 21, ground := Ground.phase }], guard := none }) (v := ?_) rfl (by kernel_rfl) (by kernel_rfl) (by kernel_rfl) (fun _ _ _ h => h) (Or.inl ⟨by rfl, ?hy22⟩) hHeld ?rest22
    case hy22 =>
      intro w hSw
      try dsimp only at hSw
      go_simp
      try with_reducible rfl
    try simp only [Act.put, List.setIfInBounds_toArray, List.set_cons_zero, List.set_cons_succ]
    refine wpAnyH_take (i := 23) (oi := { dst := some 8, op := Op.assign (Operand.tmp 70), type := 4, pos := "seals.go:112", after := #[{ on := 20, ground := Ground.data }, { on := 22, ground := Ground.chain }, { on := 0, ground := Ground.phase }, { on := 1, ground := Ground.phase }, { on := 2, ground := Ground.phase }, { on := 3, ground := Ground.phase }, { on := 4, ground := Ground.phase }, { on := 5, ground := Ground.phase }, { on := 6, ground := Ground.phase }, { on := 7, ground := Ground.phase }, { on := 8, ground := Ground.phase }, { on := 9, ground := Ground.phase }, { on := 10, ground := Ground.phase }, { on := 11, ground := Ground.phase }, { on := 12, ground := Ground.phase }, { on := 13, ground := Ground.phase }, { on := 14, ground := Ground.phase }, { on := 15, ground := Ground.phase }, { on := 16, ground := Ground.phase }, { on := 17, ground := Ground.phase }, { on := 18, ground := Ground.phase }, { on := 19, ground := Ground.phase }, { on := 20, ground := Ground.phase }, { on := 21, ground := Ground.phase }, { on := 22, ground := Ground.phase }], guard := none }) (v := ?_) rfl (by kernel_rfl) (by kernel_rfl) (by kernel_rfl) (fun _ _ _ h => h) (Or.inl ⟨by rfl, ?hy23⟩) hHeld ?rest23
    case hy23 =>
      intro w hSw
      try dsimp only at hSw
      go_simp
      try with_reducible rfl
    try simp only [Act.put, List.setIfInBounds_toArray, List.set_cons_zero, List.set_cons_succ]
    refine wpAnyH_done (by kernel_rfl) ?_ _
    go_wp2_with fail
    refine bodyPost_ret (v := .tuple #[.slice A9 R.1.length c9, .slice B9 R.2.1.length d9, .bool R.2.2]) (by simp [results, Tryd.results21, go_sem]) rfl ⟨A9, c9, B9, d9, rfl, h91.out, h92.out, hw6.out.trans (HB.mono hw6.out.size)⟩
  · rw [hW3] at hl0
    go_enter Tryd.func21, Tryd.ntmps21
    go_wp2_with (refine wpList_load_midG (by rfl) 25 (.tmp 3) (by rfl) w.heap.size 0 (by rfl) S _ hl0.out Tryd.underlying25 (by rfl) pil.out ?_)
    rw [← hW3]
    refine (hA.out _ hB1).mono ?_
    rintro e w4 ⟨rfl, hb4⟩
    obtain ⟨hl4, ⟨y0, y1, y2, y3⟩, ⟨z0, z1, z2, z3⟩, -, -, -⟩ := hcells.out w4 hb4
    replace hl4 := Lib.hid hl4
    have hB4 := hB1.trans (hb4.mono hB1.size)
    go_wp2_with (refine wpList_load_midG (by rfl) 25 (.tmp 3) (by rfl) w.heap.size 0 (by rfl) S _ hl4.out Tryd.underlying25 (by rfl) pil.out ?_)
    refine (hB.out _ hB4).mono ?_
    rintro e w5 ⟨rfl, hb5⟩
    clear hl4 y0 y1 y2 y3 z0 z1 z2 z3
    obtain ⟨-, ⟨y0, y1, y2, y3⟩, ⟨z0, z1, z2, z3⟩, ⟨x0, x1, x2⟩, -, -⟩ := hcells.out w5 (hb4.trans (hb5.mono hb4.size))
    have hB5 := hB4.trans (hb5.mono hB4.size)
    go_wp2_with fail
    have hd6 := heap_alloc_new w5 (.cells #[.int .i64 t, .int .i64 f, .int .i64 m] 69)
    have hb6 := blow1 w5 (.cells #[.int .i64 t, .int .i64 f, .int .i64 m] 69)
    generalize w5.alloc (.cells #[.int .i64 t, .int .i64 f, .int .i64 m] 69) = w6 at hd6 hb6 ⊢
    have hdv : Hid (∀ V, Below w6.heap.size w6 V → V.heap[w5.heap.size]? = some (.cells #[.int .i64 t, .int .i64 f, .int .i64 m] 69 (0, 0))) := Lib.hid fun V hV => (hV.block _ (Array.getElem?_eq_some_iff.1 hd6).1).trans hd6
    have hw6 := Lib.hid (hB5.trans (hb6.mono hB5.size))
    have hb36 := (hb4.trans (hb5.mono hb4.size)).trans (hb6.mono (hb4.trans (hb5.mono hb4.size)).size)
    have hSp : Hid (∀ V, Below w6.heap.size w6 V → V.cell? ⟨w.heap.size, 1, none⟩ = some (.int .i64 f) ∧ V.cell? ⟨w.heap.size, 2, none⟩ = some (.int .i64 m) ∧ V.cell? ⟨w.heap.size + 1, 0, none⟩ = some (.int .i64 ad) ∧ V.cell? ⟨w.heap.size + 1, 3, none⟩ = some (.slice P ka cp) ∧ V.cell? ⟨w.heap.size + 1 + 1, 3, none⟩ = some (.slice Q kb cq) ∧ V.rangeAt (w.heap.size + 1) 0 [.int .i64 ad, .int .i64 as_, .bool true, .slice P ka cp] ∧ V.rangeAt (w.heap.size + 1 + 1) 0 [.int .i64 ad, .int .i64 bs_, .bool false, .slice Q kb cq]) := Lib.hid fun V hV => by
      have h := hcells.out V (hb36.trans (hV.mono hb36.size))
      exact ⟨h.2.2.2.1.2.1, h.2.2.2.1.2.2, h.2.1.1, h.2.1.2.2.2, h.2.2.1.2.2.2, h.2.2.2.2.1, h.2.2.2.2.2⟩
    have HB : Below w6.heap.size w6 w6.drew := (Below.refl _ _).drew
    clear hb4 hb5 hb36 hB4 hB5 hB1 hl0 y0 y1 y2 y3 z0 z1 z2 z3 x0 x1 x2 hA hB hcells pil hmf
    refine wp_region_held_drew (S := fun w' => w'.cell? ⟨w.heap.size, 1, none⟩ = some (.int .i64 f) ∧ w'.cell? ⟨w.heap.size, 2, none⟩ = some (.int .i64 m) ∧ w'.cell? ⟨w.heap.size + 1, 0, none⟩ = some (.int .i64 ad) ∧ w'.cell? ⟨w.heap.size + 1, 3, none⟩ = some (.slice P ka cp) ∧ w'.cell? ⟨w.heap.size + 1 + 1, 3, none⟩ = some (.slice Q kb cq) ∧ w'.rangeAt (w.heap.size + 1) 0 [.int .i64 ad, .int .i64 as_, .bool true, .slice P ka cp] ∧ w'.rangeAt (w.heap.size + 1 + 1) 0 [.int .i64 ad, .int .i64 bs_, .bool false, .slice Q kb cq]) (by kernel_rfl) (by exact hSp.out _ HB) (fun hHeld => ?_)
    refine wpAnyH_take (i := 0) (oi := { dst := some 50, op := Op.fieldAddr 25 (Operand.tmp 3) 2, type := 0, pos := "seals.go:112", after := #[], guard := none }) (v := ?_) rfl (by kernel_rfl) (by kernel_rfl) (by kernel_rfl) (fun _ _ _ h => h) (Or.inl ⟨by rfl, ?hya0⟩) hHeld ?resta0
    case hya0 =>
      intro w hSw
      try dsimp only at hSw
      go_simp
      try with_reducible rfl
    try simp only [Act.put, List.setIfInBounds_toArray, List.set_cons_zero, List.set_cons_succ]
    refine wpAnyH_take (i := 1) (oi := { dst := some 51, op := Op.load 3 (Operand.tmp 50), type := 3, pos := "seals.go:112", after := #[{ on := 0, ground := Ground.data }], guard := none }) (v := ?_) rfl (by kernel_rfl) (by kernel_rfl) (by kernel_rfl) (fun _ _ _ h => h) (Or.inl ⟨by rfl, ?hya1⟩) hHeld ?resta1
    case hya1 =>
      intro w hSw
      try dsimp only at hSw
      go_simp
      try with_reducible rfl
    try simp only [Act.put, List.setIfInBounds_toArray, List.set_cons_zero, List.set_cons_succ]
    refine wpAnyH_take (i := 2) (oi := { dst := some 52, op := Op.fieldAddr 33 (Operand.tmp 4) 0, type := 0, pos := "seals.go:112", after := #[], guard := none }) (v := ?_) rfl (by kernel_rfl) (by kernel_rfl) (by kernel_rfl) (fun _ _ _ h => h) (Or.inl ⟨by rfl, ?hya2⟩) hHeld ?resta2
    case hya2 =>
      intro w hSw
      try dsimp only at hSw
      go_simp
      try with_reducible rfl
    try simp only [Act.put, List.setIfInBounds_toArray, List.set_cons_zero, List.set_cons_succ]
    refine wpAnyH_take (i := 3) (oi := { dst := some 53, op := Op.load 3 (Operand.tmp 52), type := 3, pos := "seals.go:112", after := #[{ on := 2, ground := Ground.data }], guard := none }) (v := ?_) rfl (by kernel_rfl) (by kernel_rfl) (by kernel_rfl) (fun _ _ _ h => h) (Or.inl ⟨by rfl, ?hya3⟩) hHeld ?resta3
    case hya3 =>
      intro w hSw
      try dsimp only at hSw
      go_simp
      try with_reducible rfl
    try simp only [Act.put, List.setIfInBounds_toArray, List.set_cons_zero, List.set_cons_succ]
    refine wpAnyH_take (i := 4) (oi := { dst := some 54, op := Op.fieldAddr 25 (Operand.tmp 3) 1, type := 0, pos := "seals.go:112", after := #[], guard := none }) (v := ?_) rfl (by kernel_rfl) (by kernel_rfl) (by kernel_rfl) (fun _ _ _ h => h) (Or.inl ⟨by rfl, ?hya4⟩) hHeld ?resta4
    case hya4 =>
      intro w hSw
      try dsimp only at hSw
      go_simp
      try with_reducible rfl
    try simp only [Act.put, List.setIfInBounds_toArray, List.set_cons_zero, List.set_cons_succ]
    refine wpAnyH_take (i := 5) (oi := { dst := some 55, op := Op.load 3 (Operand.tmp 54), type := 3, pos := "seals.go:112", after := #[{ on := 4, ground := Ground.data }], guard := none }) (v := ?_) rfl (by kernel_rfl) (by kernel_rfl) (by kernel_rfl) (fun _ _ _ h => h) (Or.inl ⟨by rfl, ?hya5⟩) hHeld ?resta5
    case hya5 =>
      intro w hSw
      try dsimp only at hSw
      go_simp
      try with_reducible rfl
    try simp only [Act.put, List.setIfInBounds_toArray, List.set_cons_zero, List.set_cons_succ]
    refine wpAnyH_take (i := 6) (oi := { dst := some 56, op := Op.binOp BinOp.sub 3 (Operand.tmp 53) (Operand.tmp 55) 3, type := 3, pos := "seals.go:112", after := #[{ on := 3, ground := Ground.data }, { on := 5, ground := Ground.data }], guard := none }) (v := ?_) rfl (by kernel_rfl) (by kernel_rfl) (by kernel_rfl) (fun _ _ _ h => h) (Or.inl ⟨by rfl, ?hya6⟩) hHeld ?resta6
    case hya6 =>
      intro w hSw
      try dsimp only at hSw
      go_simp
      try with_reducible rfl
    try simp only [Act.put, List.setIfInBounds_toArray, List.set_cons_zero, List.set_cons_succ]
    refine wpAnyH_take (i := 7) (oi := { dst := some 57, op := Op.move (Operand.tmp 10), type := 84, pos := "seals.go:112", after := #[], guard := none }) (v := ?_) rfl (by kernel_rfl) (by kernel_rfl) (by kernel_rfl) (fun _ _ _ h => h) (Or.inl ⟨by rfl, ?hya7⟩) hHeld ?resta7
    case hya7 =>
      intro w hSw
      try dsimp only at hSw
      go_simp
      try with_reducible rfl
    try simp only [Act.put, List.setIfInBounds_toArray, List.set_cons_zero, List.set_cons_succ]
    refine wpAnyH_take (i := 8) (oi := { dst := some 58, op := Op.load 33 (Operand.tmp 4), type := 33, pos := "seals.go:112", after := #[], guard := none }) (v := _) rfl (by kernel_rfl) (by kernel_rfl) (by kernel_rfl) (fun _ _ _ h => h) (yieldsIf_load_mid (by rfl) 33 (.tmp 4) rfl (w.heap.size + 1) 0 rfl [.int .i64 ad, .int .i64 as_, .bool true, .slice P ka cp] _ (fun _ h => h.2.2.2.2.2.1) Tryd.underlying33 rfl op_info4) hHeld ?_
    try simp only [Act.put, List.setIfInBounds_toArray, List.set_cons_zero, List.set_cons_succ]
    refine wpAnyH_take (i := 10) (oi := { dst := some 60, op := Op.move (Operand.tmp 10), type := 84, pos := "seals.go:112", after := #[], guard := none }) (v := ?_) rfl (by kernel_rfl) (by kernel_rfl) (by kernel_rfl) (fun _ _ _ h => h) (Or.inl ⟨by rfl, ?hya10⟩) hHeld ?resta10
    case hya10 =>
      intro w hSw
      try dsimp only at hSw
      go_simp
      try with_reducible rfl
    try simp only [Act.put, List.setIfInBounds_toArray, List.set_cons_zero, List.set_cons_succ]
    refine wpAnyH_take (i := 11) (oi := { dst := some 61, op := Op.load 33 (Operand.tmp 5), type := 33, pos := "seals.go:112", after := #[], guard := none }) (v := _) rfl (by kernel_rfl) (by kernel_rfl) (by kernel_rfl) (fun _ _ _ h => h) (yieldsIf_load_mid (by rfl) 33 (.tmp 5) rfl (w.heap.size + 1 + 1) 0 rfl [.int .i64 ad, .int .i64 bs_, .bool false, .slice Q kb cq] _ (fun _ h => h.2.2.2.2.2.2) Tryd.underlying33 rfl op_info4) hHeld ?_
    try simp only [Act.put, List.setIfInBounds_toArray, List.set_cons_zero, List.set_cons_succ]
    refine wpAnyH_take (i := 13) (oi := { dst := some 63, op := Op.fieldAddr 33 (Operand.tmp 4) 3, type := 0, pos := "seals.go:112", after := #[], guard := none }) (v := ?_) rfl (by kernel_rfl) (by kernel_rfl) (by kernel_rfl) (fun _ _ _ h => h) (Or.inl ⟨by rfl, ?hya13⟩) hHeld ?resta13
    case hya13 =>
      intro w hSw
      try dsimp only at hSw
      go_simp
      try with_reducible rfl
    try simp only [Act.put, List.setIfInBounds_toArray, List.set_cons_zero, List.set_cons_succ]
    refine wpAnyH_take (i := 14) (oi := { dst := some 64, op := Op.load 31 (Operand.tmp 63), type := 31, pos := "seals.go:112", after := #[{ on := 13, ground := Ground.data }], guard := none }) (v := ?_) rfl (by kernel_rfl) (by kernel_rfl) (by kernel_rfl) (fun _ _ _ h => h) (Or.inl ⟨by rfl, ?hya14⟩) hHeld ?resta14
    case hya14 =>
      intro w hSw
      try dsimp only at hSw
      go_simp
      try with_reducible rfl
    try simp only [Act.put, List.setIfInBounds_toArray, List.set_cons_zero, List.set_cons_succ]
    refine wpAnyH_take (i := 15) (oi := { dst := some 65, op := Op.fieldAddr 33 (Operand.tmp 5) 3, type := 0, pos := "seals.go:112", after := #[], guard := none }) (v := ?_) rfl (by kernel_rfl) (by kernel_rfl) (by kernel_rfl) (fun _ _ _ h => h) (Or.inl ⟨by rfl, ?hya15⟩) hHeld ?resta15
    case hya15 =>
      intro w hSw
      try dsimp only at hSw
      go_simp
      try with_reducible rfl
    try simp only [Act.put, List.setIfInBounds_toArray, List.set_cons_zero, List.set_cons_succ]
    refine wpAnyH_take (i := 16) (oi := { dst := some 66, op := Op.load 31 (Operand.tmp 65), type := 31, pos := "seals.go:112", after := #[{ on := 15, ground := Ground.data }], guard := none }) (v := ?_) rfl (by kernel_rfl) (by kernel_rfl) (by kernel_rfl) (fun _ _ _ h => h) (Or.inl ⟨by rfl, ?hya16⟩) hHeld ?resta16
    case hya16 =>
      intro w hSw
      try dsimp only at hSw
      go_simp
      try with_reducible rfl
    try simp only [Act.put, List.setIfInBounds_toArray, List.set_cons_zero, List.set_cons_succ]
    refine wpAnyH_ready (rs := [9]) (by kernel_rfl) (by simp) (AllReadyH.cons (o := { dst := some 59, op := Op.call { callee := Callee.value (Operand.tmp 57), args := #[Operand.tmp 58], argTypes := #[33] }, type := 48, pos := "seals.go:112", after := #[{ on := 7, ground := Ground.data }, { on := 8, ground := Ground.data }], guard := none }) rfl (fun K hK => ?_) AllReadyH.nil)
    go_simp
    go_at_call 43
    refine (hCa.out _ _ (hdv.out _ HB)).mono ?_
    unfold JoinC
    rw [hna.out]
    rintro e w7 ⟨A7, c7, rfl, h71, h72, h73, hb7, -⟩
    replace h73 := Lib.hid h73
    clear h71 h72
    have HB2 := HB.trans (hb7.mono HB.size)
    clear HB hb7
    have HB := HB2
    clear HB2
    refine hK.out _ _ (by exact hSp.out _ HB) (fun hHeld' => ?_)
    clear hK K hHeld
    have hHeld := hHeld'
    clear hHeld'
    try simp only [Act.put, List.setIfInBounds_toArray, List.set_cons_zero, List.set_cons_succ]
    refine wpAnyH_ready (rs := [12]) (by kernel_rfl) (by simp) (AllReadyH.cons (o := { dst := some 62, op := Op.call { callee := Callee.value (Operand.tmp 60), args := #[Operand.tmp 61], argTypes := #[33] }, type := 48, pos := "seals.go:112", after := #[{ on := 10, ground := Ground.data }, { on := 11, ground := Ground.data }, { on := 9, ground := Ground.chain }], guard := none }) rfl (fun K hK => ?_) AllReadyH.nil)
    go_simp
    go_at_call 43
    refine (hCb.out _ _ (hdv.out _ HB)).mono ?_
    unfold JoinC
    rw [hnb.out]
    rintro e w8 ⟨A8, c8, rfl, h81, h82, h83, hb8, -⟩
    replace h73 := Lib.hid (h73.out.below hb8)
    replace h83 := Lib.hid h83
    clear h81 h82
    have HB2 := HB.trans (hb8.mono HB.size)
    clear HB hb8
    have HB := HB2
    clear HB2
    refine hK.out _ _ (by exact hSp.out _ HB) (fun hHeld' => ?_)
    clear hK K hHeld
    have hHeld := hHeld'
    clear hHeld'
    try simp only [Act.put, List.setIfInBounds_toArray, List.set_cons_zero, List.set_cons_succ]
    refine wpAnyH_ready (rs := [17]) (by kernel_rfl) (by simp) (AllReadyH.cons (o := { dst := some 67, op := Op.call { callee := Callee.value (Operand.func 45), args := #[Operand.tmp 51, Operand.tmp 56, Operand.tmp 59, Operand.tmp 62, Operand.tmp 64, Operand.tmp 66], argTypes := #[3, 3, 48, 48, 31, 31] }, type := 49, pos := "seals.go:112", after := #[{ on := 1, ground := Ground.data }, { on := 6, ground := Ground.data }, { on := 9, ground := Ground.data }, { on := 12, ground := Ground.data }, { on := 14, ground := Ground.data }, { on := 16, ground := Ground.data }, { on := 12, ground := Ground.chain }], guard := none }) rfl (fun K hK => ?_) AllReadyH.nil)
    go_simp
    go_at_call 45
    refine (hCo.out _ _ _ _ _ (hw6.out.trans (HB.mono hw6.out.size)) h73.out h83.out).mono ?_
    unfold CoC
    rintro e w9 ⟨A9, c9, B9, d9, rfl, h91, h92, hb9⟩
    replace h91 := Lib.hid h91
    replace h92 := Lib.hid h92
    have HB2 := HB.trans (hb9.mono HB.size)
    clear HB hb9
    have HB := HB2
    clear HB2
    refine hK.out _ _ (by exact hSp.out _ HB) (fun hHeld' => ?_)
    clear hK K hHeld
    have hHeld := hHeld'
    clear hHeld'
    try simp only [Act.put, List.setIfInBounds_toArray, List.set_cons_zero, List.set_cons_succ]
    refine wpAnyH_take (i := 18) (oi := { dst := some 68, op := Op.extract (Operand.tmp 67) 0, type := 48, pos := "seals.go:112", after := #[{ on := 17, ground := Ground.data }], guard := none }) (v := ?_) rfl (by kernel_rfl) (by kernel_rfl) (by kernel_rfl) (fun _ _ _ h => h) (Or.inl ⟨by rfl, ?hya18⟩) hHeld ?resta18
    case hya18 =>
      intro w hSw
      try dsimp only at hSw
      go_simp
      try with_reducible rfl
    try simp only [Act.put, List.setIfInBounds_toArray, List.set_cons_zero, List.set_cons_succ]
    refine wpAnyH_take (i := 19) (oi := { dst := some 69, op := Op.extract (Operand.tmp 67) 1, type := 48, pos := "seals.go:112", after := #[{ on := 17, ground := Ground.data }], guard := none }) (v := ?_) rfl (by kernel_rfl) (by kernel_rfl) (by kernel_rfl) (fun _ _ _ h => h) (Or.inl ⟨by rfl, ?hya19⟩) hHeld ?resta19
    case hya19 =>
      intro w hSw
      try dsimp only at hSw
      go_simp
      try with_reducible rfl
    try simp only [Act.put, List.setIfInBounds_toArray, List.set_cons_zero, List.set_cons_succ]
    refine wpAnyH_take (i := 20) (oi := { dst := some 70, op := Op.extract (Operand.tmp 67) 2, type := 4, pos := "seals.go:112", after := #[{ on := 17, ground := Ground.data }], guard := none }) (v := ?_) rfl (by kernel_rfl) (by kernel_rfl) (by kernel_rfl) (fun _ _ _ h => h) (Or.inl ⟨by rfl, ?hya20⟩) hHeld ?resta20
    case hya20 =>
      intro w hSw
      try dsimp only at hSw
      go_simp
      try with_reducible rfl
    try simp only [Act.put, List.setIfInBounds_toArray, List.set_cons_zero, List.set_cons_succ]
    refine wpAnyH_take (i := 21) (oi := { dst := some 6, op := Op.assign (Operand.tmp 68), type := 48, pos := "seals.go:112", after := #[{ on := 18, ground := Ground.data }, { on := 17, ground := Ground.chain }, { on := 0, ground := Ground.phase }, { on := 1, ground := Ground.phase }, { on := 2, ground := Ground.phase }, { on := 3, ground := Ground.phase }, { on := 4, ground := Ground.phase }, { on := 5, ground := Ground.phase }, { on := 6, ground := Ground.phase }, { on := 7, ground := Ground.phase }, { on := 8, ground := Ground.phase }, { on := 9, ground := Ground.phase }, { on := 10, ground := Ground.phase }, { on := 11, ground := Ground.phase }, { on := 12, ground := Ground.phase }, { on := 13, ground := Ground.phase }, { on := 14, ground := Ground.phase }, { on := 15, ground := Ground.phase }, { on := 16, ground := Ground.phase }, { on := 17, ground := Ground.phase }, { on := 18, ground := Ground.phase }, { on := 19, ground := Ground.phase }, { on := 20, ground := Ground.phase }], guard := none }) (v := ?_) rfl (by kernel_rfl) (by kernel_rfl) (by kernel_rfl) (fun _ _ _ h => h) (Or.inl ⟨by rfl, ?hya21⟩) hHeld ?resta21
    case hya21 =>
      intro w hSw
      try dsimp only at hSw
      go_simp
      try with_reducible rfl
    try simp only [Act.put, List.setIfInBounds_toArray, List.set_cons_zero, List.set_cons_succ]
    refine wpAnyH_take (i := 22) (oi := { dst := some 7, op := Op.assign (Operand.tmp 69), type := 48, pos := "seals.go:112", after := #[{ on := 19, ground := Ground.data }, { on := 21, ground := Ground.chain }, { on := 0, ground := Ground.phase }, { on := 1, ground := Ground.phase }, { on := 2, ground := Ground.phase }, { on := 3, ground := Ground.phase }, { on := 4, ground := Ground.phase }, { on := 5, ground := Ground.phase }, { on := 6, ground := Ground.phase }, { on := 7, ground := Ground.phase }, { on := 8, ground := Ground.phase }, { on := 9, ground := Ground.phase }, { on := 10, ground := Ground.phase }, { on := 11, ground := Ground.phase }, { on := 12, ground := Ground.phase }, { on := 13, ground := Ground.phase }, { on := 14, ground := Ground.phase }, { on := 15, ground := Ground.phase }, { on := 16, ground := Ground.phase }, { on := 17, ground := Ground.phase }, { on := 18, ground := Ground.phase }, { on := 19, ground := Ground.phase }, { on := 20, ground := Ground.phase }, { on := 21, ground := Ground.phase }], guard := none }) (v := ?_) rfl (by kernel_rfl) (by kernel_rfl) (by kernel_rfl) (fun _ _ _ h => h) (Or.inl ⟨by rfl, ?hya22⟩) hHeld ?resta22
    case hya22 =>
      intro w hSw
      try dsimp only at hSw
      go_simp
      try with_reducible rfl
    try simp only [Act.put, List.setIfInBounds_toArray, List.set_cons_zero, List.set_cons_succ]
    refine wpAnyH_take (i := 23) (oi := { dst := some 8, op := Op.assign (Operand.tmp 70), type := 4, pos := "seals.go:112", after := #[{ on := 20, ground := Ground.data }, { on := 22, ground := Ground.chain }, { on := 0, ground := Ground.phase }, { on := 1, ground := Ground.phase }, { on := 2, ground := Ground.phase }, { on := 3, ground := Ground.phase }, { on := 4, ground := Ground.phase }, { on := 5, ground := Ground.phase }, { on := 6, ground := Ground.phase }, { on := 7, ground := Ground.phase }, { on := 8, ground := Ground.phase }, { on := 9, ground := Ground.phase }, { on := 10, ground := Ground.phase }, { on := 11, ground := Ground.phase }, { on := 12, ground := Ground.phase }, { on := 13, ground := Ground.phase }, { on := 14, ground := Ground.phase }, { on := 15, ground := Ground.phase }, { on := 16, ground := Ground.phase }, { on := 17, ground := Ground.phase }, { on := 18, ground := Ground.phase }, { on := 19, ground := Ground.phase }, { on := 20, ground := Ground.phase }, { on := 21, ground := Ground.phase }, { on := 22, ground := Ground.phase }], guard := none }) (v := ?_) rfl (by kernel_rfl) (by kernel_rfl) (by kernel_rfl) (fun _ _ _ h => h) (Or.inl ⟨by rfl, ?hya23⟩) hHeld ?resta23
    case hya23 =>
      intro w hSw
      try dsimp only at hSw
      go_simp
      try with_reducible rfl
    try simp only [Act.put, List.setIfInBounds_toArray, List.set_cons_zero, List.set_cons_succ]
    refine wpAnyH_done (by kernel_rfl) ?_ _
    go_wp2_with fail
    refine bodyPost_ret (v := .tuple #[.slice A9 R.1.length c9, .slice B9 R.2.1.length d9, .bool R.2.2]) (by simp [results, Tryd.results21, go_sem]) rfl ⟨A9, c9, B9, d9, rfl, h91.out, h92.out, hw6.out.trans (HB.mono hw6.out.size)⟩
  · rw [hW3] at hl0
    go_enter Tryd.func21, Tryd.ntmps21
    go_wp2_with (refine wpList_load_midG (by rfl) 25 (.tmp 3) (by rfl) w.heap.size 0 (by rfl) S _ hl0.out Tryd.underlying25 (by rfl) pil.out ?_)
    rw [← hW3]
    refine (hA.out _ hB1).mono ?_
    rintro e w4 ⟨rfl, hb4⟩
    obtain ⟨hl4, ⟨y0, y1, y2, y3⟩, ⟨z0, z1, z2, z3⟩, -, -, -⟩ := hcells.out w4 hb4
    replace hl4 := Lib.hid hl4
    have hB4 := hB1.trans (hb4.mono hB1.size)
    go_wp2_with (refine wpList_load_midG (by rfl) 25 (.tmp 3) (by rfl) w.heap.size 0 (by rfl) S _ hl4.out Tryd.underlying25 (by rfl) pil.out ?_)
    refine (hB.out _ hB4).mono ?_
    rintro e w5 ⟨rfl, hb5⟩
    clear hl4 y0 y1 y2 y3 z0 z1 z2 z3
    obtain ⟨-, ⟨y0, y1, y2, y3⟩, ⟨z0, z1, z2, z3⟩, ⟨x0, x1, x2⟩, -, -⟩ := hcells.out w5 (hb4.trans (hb5.mono hb4.size))
    have hB5 := hB4.trans (hb5.mono hB4.size)
    go_wp2_with fail
    have hd6 := heap_alloc_new w5 (.cells #[.int .i64 t, .int .i64 f, .int .i64 m] 69)
    have hb6 := blow1 w5 (.cells #[.int .i64 t, .int .i64 f, .int .i64 m] 69)
    generalize w5.alloc (.cells #[.int .i64 t, .int .i64 f, .int .i64 m] 69) = w6 at hd6 hb6 ⊢
    have hdv : Hid (∀ V, Below w6.heap.size w6 V → V.heap[w5.heap.size]? = some (.cells #[.int .i64 t, .int .i64 f, .int .i64 m] 69 (0, 0))) := Lib.hid fun V hV => (hV.block _ (Array.getElem?_eq_some_iff.1 hd6).1).trans hd6
    have hw6 := Lib.hid (hB5.trans (hb6.mono hB5.size))
    have hb36 := (hb4.trans (hb5.mono hb4.size)).trans (hb6.mono (hb4.trans (hb5.mono hb4.size)).size)
    have hSp : Hid (∀ V, Below w6.heap.size w6 V → V.cell? ⟨w.heap.size, 1, none⟩ = some (.int .i64 f) ∧ V.cell? ⟨w.heap.size, 2, none⟩ = some (.int .i64 m) ∧ V.cell? ⟨w.heap.size + 1, 0, none⟩ = some (.int .i64 ad) ∧ V.cell? ⟨w.heap.size + 1, 3, none⟩ = some (.slice P ka cp) ∧ V.cell? ⟨w.heap.size + 1 + 1, 3, none⟩ = some (.slice Q kb cq) ∧ V.rangeAt (w.heap.size + 1) 0 [.int .i64 ad, .int .i64 as_, .bool false, .slice P ka cp] ∧ V.rangeAt (w.heap.size + 1 + 1) 0 [.int .i64 ad, .int .i64 bs_, .bool true, .slice Q kb cq]) := Lib.hid fun V hV => by
      have h := hcells.out V (hb36.trans (hV.mono hb36.size))
      exact ⟨h.2.2.2.1.2.1, h.2.2.2.1.2.2, h.2.1.1, h.2.1.2.2.2, h.2.2.1.2.2.2, h.2.2.2.2.1, h.2.2.2.2.2⟩
    have HB : Below w6.heap.size w6 w6.drew := (Below.refl _ _).drew
    clear hb4 hb5 hb36 hB4 hB5 hB1 hl0 y0 y1 y2 y3 z0 z1 z2 z3 x0 x1 x2 hA hB hcells pil hmf
    refine wp_region_held_drew (S := fun w' => w'.cell? ⟨w.heap.size, 1, none⟩ = some (.int .i64 f) ∧ w'.cell? ⟨w.heap.size, 2, none⟩ = some (.int .i64 m) ∧ w'.cell? ⟨w.heap.size + 1, 0, none⟩ = some (.int .i64 ad) ∧ w'.cell? ⟨w.heap.size + 1, 3, none⟩ = some (.slice P ka cp) ∧ w'.cell? ⟨w.heap.size + 1 + 1, 3, none⟩ = some (.slice Q kb cq) ∧ w'.rangeAt (w.heap.size + 1) 0 [.int .i64 ad, .int .i64 as_, .bool false, .slice P ka cp] ∧ w'.rangeAt (w.heap.size + 1 + 1) 0 [.int .i64 ad, .int .i64 bs_, .bool true, .slice Q kb cq]) (by kernel_rfl) (by exact hSp.out _ HB) (fun hHeld => ?_)
    refine wpAnyH_take (i := 0) (oi := { dst := some 50, op := Op.fieldAddr 25 (Operand.tmp 3) 2, type := 0, pos := "seals.go:112", after := #[], guard := none }) (v := ?_) rfl (by kernel_rfl) (by kernel_rfl) (by kernel_rfl) (fun _ _ _ h => h) (Or.inl ⟨by rfl, ?hyaa0⟩) hHeld ?restaa0
    case hyaa0 =>
      intro w hSw
      try dsimp only at hSw
      go_simp
      try with_reducible rfl
    try simp only [Act.put, List.setIfInBounds_toArray, List.set_cons_zero, List.set_cons_succ]
    refine wpAnyH_take (i := 1) (oi := { dst := some 51, op := Op.load 3 (Operand.tmp 50), type := 3, pos := "seals.go:112", after := #[{ on := 0, ground := Ground.data }], guard := none }) (v := ?_) rfl (by kernel_rfl) (by kernel_rfl) (by kernel_rfl) (fun _ _ _ h => h) (Or.inl ⟨by rfl, ?hyaa1⟩) hHeld ?restaa1
    case hyaa1 =>
      intro w hSw
      try dsimp only at hSw
      go_simp
      try with_reducible rfl
    try simp only [Act.put, List.setIfInBounds_toArray, List.set_cons_zero, List.set_cons_succ]
    refine wpAnyH_take (i := 2) (oi := { dst := some 52, op := Op.fieldAddr 33 (Operand.tmp 4) 0, type := 0, pos := "seals.go:112", after := #[], guard := none }) (v := ?_) rfl (by kernel_rfl) (by kernel_rfl) (by kernel_rfl) (fun _ _ _ h => h) (Or.inl ⟨by rfl, ?hyaa2⟩) hHeld ?restaa2
    case hyaa2 =>
      intro w hSw
      try dsimp only at hSw
      go_simp
      try with_reducible rfl
    try simp only [Act.put, List.setIfInBounds_toArray, List.set_cons_zero, List.set_cons_succ]
    refine wpAnyH_take (i := 3) (oi := { dst := some 53, op := Op.load 3 (Operand.tmp 52), type := 3, pos := "seals.go:112", after := #[{ on := 2, ground := Ground.data }], guard := none }) (v := ?_) rfl (by kernel_rfl) (by kernel_rfl) (by kernel_rfl) (fun _ _ _ h => h) (Or.inl ⟨by rfl, ?hyaa3⟩) hHeld ?restaa3
    case hyaa3 =>
      intro w hSw
      try dsimp only at hSw
      go_simp
      try with_reducible rfl
    try simp only [Act.put, List.setIfInBounds_toArray, List.set_cons_zero, List.set_cons_succ]
    refine wpAnyH_take (i := 4) (oi := { dst := some 54, op := Op.fieldAddr 25 (Operand.tmp 3) 1, type := 0, pos := "seals.go:112", after := #[], guard := none }) (v := ?_) rfl (by kernel_rfl) (by kernel_rfl) (by kernel_rfl) (fun _ _ _ h => h) (Or.inl ⟨by rfl, ?hyaa4⟩) hHeld ?restaa4
    case hyaa4 =>
      intro w hSw
      try dsimp only at hSw
      go_simp
      try with_reducible rfl
    try simp only [Act.put, List.setIfInBounds_toArray, List.set_cons_zero, List.set_cons_succ]
    refine wpAnyH_take (i := 5) (oi := { dst := some 55, op := Op.load 3 (Operand.tmp 54), type := 3, pos := "seals.go:112", after := #[{ on := 4, ground := Ground.data }], guard := none }) (v := ?_) rfl (by kernel_rfl) (by kernel_rfl) (by kernel_rfl) (fun _ _ _ h => h) (Or.inl ⟨by rfl, ?hyaa5⟩) hHeld ?restaa5
    case hyaa5 =>
      intro w hSw
      try dsimp only at hSw
      go_simp
      try with_reducible rfl
    try simp only [Act.put, List.setIfInBounds_toArray, List.set_cons_zero, List.set_cons_succ]
    refine wpAnyH_take (i := 6) (oi := { dst := some 56, op := Op.binOp BinOp.sub 3 (Operand.tmp 53) (Operand.tmp 55) 3, type := 3, pos := "seals.go:112", after := #[{ on := 3, ground := Ground.data }, { on := 5, ground := Ground.data }], guard := none }) (v := ?_) rfl (by kernel_rfl) (by kernel_rfl) (by kernel_rfl) (fun _ _ _ h => h) (Or.inl ⟨by rfl, ?hyaa6⟩) hHeld ?restaa6
    case hyaa6 =>
      intro w hSw
      try dsimp only at hSw
      go_simp
      try with_reducible rfl
    try simp only [Act.put, List.setIfInBounds_toArray, List.set_cons_zero, List.set_cons_succ]
    refine wpAnyH_take (i := 7) (oi := { dst := some 57, op := Op.move (Operand.tmp 10), type := 84, pos := "seals.go:112", after := #[], guard := none }) (v := ?_) rfl (by kernel_rfl) (by kernel_rfl) (by kernel_rfl) (fun _ _ _ h => h) (Or.inl ⟨by rfl, ?hyaa7⟩) hHeld ?restaa7
    case hyaa7 =>
      intro w hSw
      try dsimp only at hSw
      go_simp
      try with_reducible rfl
    try simp only [Act.put, List.setIfInBounds_toArray, List.set_cons_zero, List.set_cons_succ]
    refine wpAnyH_take (i := 8) (oi := { dst := some 58, op := Op.load 33 (Operand.tmp 4), type := 33, pos := "seals.go:112", after := #[], guard := none }) (v := _) rfl (by kernel_rfl) (by kernel_rfl) (by kernel_rfl) (fun _ _ _ h => h) (yieldsIf_load_mid (by rfl) 33 (.tmp 4) rfl (w.heap.size + 1) 0 rfl [.int .i64 ad, .int .i64 as_, .bool false, .slice P ka cp] _ (fun _ h => h.2.2.2.2.2.1) Tryd.underlying33 rfl op_info4) hHeld ?_
    try simp only [Act.put, List.setIfInBounds_toArray, List.set_cons_zero, List.set_cons_succ]
    refine wpAnyH_take (i := 10) (oi := { dst := some 60, op := Op.move (Operand.tmp 10), type := 84, pos := "seals.go:112", after := #[], guard := none }) (v := ?_) rfl (by kernel_rfl) (by kernel_rfl) (by kernel_rfl) (fun _ _ _ h => h) (Or.inl ⟨by rfl, ?hyaa10⟩) hHeld ?restaa10
    case hyaa10 =>
      intro w hSw
      try dsimp only at hSw
      go_simp
      try with_reducible rfl
    try simp only [Act.put, List.setIfInBounds_toArray, List.set_cons_zero, List.set_cons_succ]
    refine wpAnyH_take (i := 11) (oi := { dst := some 61, op := Op.load 33 (Operand.tmp 5), type := 33, pos := "seals.go:112", after := #[], guard := none }) (v := _) rfl (by kernel_rfl) (by kernel_rfl) (by kernel_rfl) (fun _ _ _ h => h) (yieldsIf_load_mid (by rfl) 33 (.tmp 5) rfl (w.heap.size + 1 + 1) 0 rfl [.int .i64 ad, .int .i64 bs_, .bool true, .slice Q kb cq] _ (fun _ h => h.2.2.2.2.2.2) Tryd.underlying33 rfl op_info4) hHeld ?_
    try simp only [Act.put, List.setIfInBounds_toArray, List.set_cons_zero, List.set_cons_succ]
    refine wpAnyH_take (i := 13) (oi := { dst := some 63, op := Op.fieldAddr 33 (Operand.tmp 4) 3, type := 0, pos := "seals.go:112", after := #[], guard := none }) (v := ?_) rfl (by kernel_rfl) (by kernel_rfl) (by kernel_rfl) (fun _ _ _ h => h) (Or.inl ⟨by rfl, ?hyaa13⟩) hHeld ?restaa13
    case hyaa13 =>
      intro w hSw
      try dsimp only at hSw
      go_simp
      try with_reducible rfl
    try simp only [Act.put, List.setIfInBounds_toArray, List.set_cons_zero, List.set_cons_succ]
    refine wpAnyH_take (i := 14) (oi := { dst := some 64, op := Op.load 31 (Operand.tmp 63), type := 31, pos := "seals.go:112", after := #[{ on := 13, ground := Ground.data }], guard := none }) (v := ?_) rfl (by kernel_rfl) (by kernel_rfl) (by kernel_rfl) (fun _ _ _ h => h) (Or.inl ⟨by rfl, ?hyaa14⟩) hHeld ?restaa14
    case hyaa14 =>
      intro w hSw
      try dsimp only at hSw
      go_simp
      try with_reducible rfl
    try simp only [Act.put, List.setIfInBounds_toArray, List.set_cons_zero, List.set_cons_succ]
    refine wpAnyH_take (i := 15) (oi := { dst := some 65, op := Op.fieldAddr 33 (Operand.tmp 5) 3, type := 0, pos := "seals.go:112", after := #[], guard := none }) (v := ?_) rfl (by kernel_rfl) (by kernel_rfl) (by kernel_rfl) (fun _ _ _ h => h) (Or.inl ⟨by rfl, ?hyaa15⟩) hHeld ?restaa15
    case hyaa15 =>
      intro w hSw
      try dsimp only at hSw
      go_simp
      try with_reducible rfl
    try simp only [Act.put, List.setIfInBounds_toArray, List.set_cons_zero, List.set_cons_succ]
    refine wpAnyH_take (i := 16) (oi := { dst := some 66, op := Op.load 31 (Operand.tmp 65), type := 31, pos := "seals.go:112", after := #[{ on := 15, ground := Ground.data }], guard := none }) (v := ?_) rfl (by kernel_rfl) (by kernel_rfl) (by kernel_rfl) (fun _ _ _ h => h) (Or.inl ⟨by rfl, ?hyaa16⟩) hHeld ?restaa16
    case hyaa16 =>
      intro w hSw
      try dsimp only at hSw
      go_simp
      try with_reducible rfl
    try simp only [Act.put, List.setIfInBounds_toArray, List.set_cons_zero, List.set_cons_succ]
    refine wpAnyH_ready (rs := [9]) (by kernel_rfl) (by simp) (AllReadyH.cons (o := { dst := some 59, op := Op.call { callee := Callee.value (Operand.tmp 57), args := #[Operand.tmp 58], argTypes := #[33] }, type := 48, pos := "seals.go:112", after := #[{ on := 7, ground := Ground.data }, { on := 8, ground := Ground.data }], guard := none }) rfl (fun K hK => ?_) AllReadyH.nil)
    go_simp
    go_at_call 43
    refine (hCa.out _ _ (hdv.out _ HB)).mono ?_
    unfold JoinC
    rw [hna.out]
    rintro e w7 ⟨A7, c7, rfl, h71, h72, h73, hb7, -⟩
    replace h73 := Lib.hid h73
    clear h71 h72
    have HB2 := HB.trans (hb7.mono HB.size)
    clear HB hb7
    have HB := HB2
    clear HB2
    refine hK.out _ _ (by exact hSp.out _ HB) (fun hHeld' => ?_)
    clear hK K hHeld
    have hHeld := hHeld'
    clear hHeld'
    try simp only [Act.put, List.setIfInBounds_toArray, List.set_cons_zero, List.set_cons_succ]
    refine wpAnyH_ready (rs := [12]) (by kernel_rfl) (by simp) (AllReadyH.cons (o := { dst := some 62, op := Op.call { callee := Callee.value (Operand.tmp 60), args := #[Operand.tmp 61], argTypes := #[33] }, type := 48, pos := "seals.go:112", after := #[{ on := 10, ground := Ground.data }, { on := 11, ground := Ground.data }, { on := 9, ground := Ground.chain }], guard := none }) rfl (fun K hK => ?_) AllReadyH.nil)
    go_simp
    go_at_call 43
    refine (hCb.out _ _ (hdv.out _ HB)).mono ?_
    unfold JoinC
    rw [hnb.out]
    rintro e w8 ⟨A8, c8, rfl, h81, h82, h83, hb8, -⟩
    replace h73 := Lib.hid (h73.out.below hb8)
    replace h83 := Lib.hid h83
    clear h81 h82
    have HB2 := HB.trans (hb8.mono HB.size)
    clear HB hb8
    have HB := HB2
    clear HB2
    refine hK.out _ _ (by exact hSp.out _ HB) (fun hHeld' => ?_)
    clear hK K hHeld
    have hHeld := hHeld'
    clear hHeld'
    try simp only [Act.put, List.setIfInBounds_toArray, List.set_cons_zero, List.set_cons_succ]
    refine wpAnyH_ready (rs := [17]) (by kernel_rfl) (by simp) (AllReadyH.cons (o := { dst := some 67, op := Op.call { callee := Callee.value (Operand.func 45), args := #[Operand.tmp 51, Operand.tmp 56, Operand.tmp 59, Operand.tmp 62, Operand.tmp 64, Operand.tmp 66], argTypes := #[3, 3, 48, 48, 31, 31] }, type := 49, pos := "seals.go:112", after := #[{ on := 1, ground := Ground.data }, { on := 6, ground := Ground.data }, { on := 9, ground := Ground.data }, { on := 12, ground := Ground.data }, { on := 14, ground := Ground.data }, { on := 16, ground := Ground.data }, { on := 12, ground := Ground.chain }], guard := none }) rfl (fun K hK => ?_) AllReadyH.nil)
    go_simp
    go_at_call 45
    refine (hCo.out _ _ _ _ _ (hw6.out.trans (HB.mono hw6.out.size)) h73.out h83.out).mono ?_
    unfold CoC
    rintro e w9 ⟨A9, c9, B9, d9, rfl, h91, h92, hb9⟩
    replace h91 := Lib.hid h91
    replace h92 := Lib.hid h92
    have HB2 := HB.trans (hb9.mono HB.size)
    clear HB hb9
    have HB := HB2
    clear HB2
    refine hK.out _ _ (by exact hSp.out _ HB) (fun hHeld' => ?_)
    clear hK K hHeld
    have hHeld := hHeld'
    clear hHeld'
    try simp only [Act.put, List.setIfInBounds_toArray, List.set_cons_zero, List.set_cons_succ]
    refine wpAnyH_take (i := 18) (oi := { dst := some 68, op := Op.extract (Operand.tmp 67) 0, type := 48, pos := "seals.go:112", after := #[{ on := 17, ground := Ground.data }], guard := none }) (v := ?_) rfl (by kernel_rfl) (by kernel_rfl) (by kernel_rfl) (fun _ _ _ h => h) (Or.inl ⟨by rfl, ?hyaa18⟩) hHeld ?restaa18
    case hyaa18 =>
      intro w hSw
      try dsimp only at hSw
      go_simp
      try with_reducible rfl
    try simp only [Act.put, List.setIfInBounds_toArray, List.set_cons_zero, List.set_cons_succ]
    refine wpAnyH_take (i := 19) (oi := { dst := some 69, op := Op.extract (Operand.tmp 67) 1, type := 48, pos := "seals.go:112", after := #[{ on := 17, ground := Ground.data }], guard := none }) (v := ?_) rfl (by kernel_rfl) (by kernel_rfl) (by kernel_rfl) (fun _ _ _ h => h) (Or.inl ⟨by rfl, ?hyaa19⟩) hHeld ?restaa19
    case hyaa19 =>
      intro w hSw
      try dsimp only at hSw
      go_simp
      try with_reducible rfl
    try simp only [Act.put, List.setIfInBounds_toArray, List.set_cons_zero, List.set_cons_succ]
    refine wpAnyH_take (i := 20) (oi := { dst := some 70, op := Op.extract (Operand.tmp 67) 2, type := 4, pos := "seals.go:112", after := #[{ on := 17, ground := Ground.data }], guard := none }) (v := ?_) rfl (by kernel_rfl) (by kernel_rfl) (by kernel_rfl) (fun _ _ _ h => h) (Or.inl ⟨by rfl, ?hyaa20⟩) hHeld ?restaa20
    case hyaa20 =>
      intro w hSw
      try dsimp only at hSw
      go_simp
      try with_reducible rfl
    try simp only [Act.put, List.setIfInBounds_toArray, List.set_cons_zero, List.set_cons_succ]
    refine wpAnyH_take (i := 21) (oi := { dst := some 6, op := Op.assign (Operand.tmp 68), type := 48, pos := "seals.go:112", after := #[{ on := 18, ground := Ground.data }, { on := 17, ground := Ground.chain }, { on := 0, ground := Ground.phase }, { on := 1, ground := Ground.phase }, { on := 2, ground := Ground.phase }, { on := 3, ground := Ground.phase }, { on := 4, ground := Ground.phase }, { on := 5, ground := Ground.phase }, { on := 6, ground := Ground.phase }, { on := 7, ground := Ground.phase }, { on := 8, ground := Ground.phase }, { on := 9, ground := Ground.phase }, { on := 10, ground := Ground.phase }, { on := 11, ground := Ground.phase }, { on := 12, ground := Ground.phase }, { on := 13, ground := Ground.phase }, { on := 14, ground := Ground.phase }, { on := 15, ground := Ground.phase }, { on := 16, ground := Ground.phase }, { on := 17, ground := Ground.phase }, { on := 18, ground := Ground.phase }, { on := 19, ground := Ground.phase }, { on := 20, ground := Ground.phase }], guard := none }) (v := ?_) rfl (by kernel_rfl) (by kernel_rfl) (by kernel_rfl) (fun _ _ _ h => h) (Or.inl ⟨by rfl, ?hyaa21⟩) hHeld ?restaa21
    case hyaa21 =>
      intro w hSw
      try dsimp only at hSw
      go_simp
      try with_reducible rfl
    try simp only [Act.put, List.setIfInBounds_toArray, List.set_cons_zero, List.set_cons_succ]
    refine wpAnyH_take (i := 22) (oi := { dst := some 7, op := Op.assign (Operand.tmp 69), type := 48, pos := "seals.go:112", after := #[{ on := 19, ground := Ground.data }, { on := 21, ground := Ground.chain }, { on := 0, ground := Ground.phase }, { on := 1, ground := Ground.phase }, { on := 2, ground := Ground.phase }, { on := 3, ground := Ground.phase }, { on := 4, ground := Ground.phase }, { on := 5, ground := Ground.phase }, { on := 6, ground := Ground.phase }, { on := 7, ground := Ground.phase }, { on := 8, ground := Ground.phase }, { on := 9, ground := Ground.phase }, { on := 10, ground := Ground.phase }, { on := 11, ground := Ground.phase }, { on := 12, ground := Ground.phase }, { on := 13, ground := Ground.phase }, { on := 14, ground := Ground.phase }, { on := 15, ground := Ground.phase }, { on := 16, ground := Ground.phase }, { on := 17, ground := Ground.phase }, { on := 18, ground := Ground.phase }, { on := 19, ground := Ground.phase }, { on := 20, ground := Ground.phase }, { on := 21, ground := Ground.phase }], guard := none }) (v := ?_) rfl (by kernel_rfl) (by kernel_rfl) (by kernel_rfl) (fun _ _ _ h => h) (Or.inl ⟨by rfl, ?hyaa22⟩) hHeld ?restaa22
    case hyaa22 =>
      intro w hSw
      try dsimp only at hSw
      go_simp
      try with_reducible rfl
    try simp only [Act.put, List.setIfInBounds_toArray, List.set_cons_zero, List.set_cons_succ]
    refine wpAnyH_take (i := 23) (oi := { dst := some 8, op := Op.assign (Operand.tmp 70), type := 4, pos := "seals.go:112", after := #[{ on := 20, ground := Ground.data }, { on := 22, ground := Ground.chain }, { on := 0, ground := Ground.phase }, { on := 1, ground := Ground.phase }, { on := 2, ground := Ground.phase }, { on := 3, ground := Ground.phase }, { on := 4, ground := Ground.phase }, { on := 5, ground := Ground.phase }, { on := 6, ground := Ground.phase }, { on := 7, ground := Ground.phase }, { on := 8, ground := Ground.phase }, { on := 9, ground := Ground.phase }, { on := 10, ground := Ground.phase }, { on := 11, ground := Ground.phase }, { on := 12, ground := Ground.phase }, { on := 13, ground := Ground.phase }, { on := 14, ground := Ground.phase }, { on := 15, ground := Ground.phase }, { on := 16, ground := Ground.phase }, { on := 17, ground := Ground.phase }, { on := 18, ground := Ground.phase }, { on := 19, ground := Ground.phase }, { on := 20, ground := Ground.phase }, { on := 21, ground := Ground.phase }, { on := 22, ground := Ground.phase }], guard := none }) (v := ?_) rfl (by kernel_rfl) (by kernel_rfl) (by kernel_rfl) (fun _ _ _ h => h) (Or.inl ⟨by rfl, ?hyaa23⟩) hHeld ?restaa23
    case hyaa23 =>
      intro w hSw
      try dsimp only at hSw
      go_simp
      try with_reducible rfl
    try simp only [Act.put, List.setIfInBounds_toArray, List.set_cons_zero, List.set_cons_succ]
    refine wpAnyH_done (by kernel_rfl) ?_ _
    go_wp2_with fail
    refine bodyPost_ret (v := .tuple #[.slice A9 R.1.length c9, .slice B9 R.2.1.length d9, .bool R.2.2]) (by simp [results, Tryd.results21, go_sem]) rfl ⟨A9, c9, B9, d9, rfl, h91.out, h92.out, hw6.out.trans (HB.mono hw6.out.size)⟩
set_option maxRecDepth 100000 in
set_option maxHeartbeats 8000000 in
theorem sclash_any (s : Sl) (hs : SlI s) (a b : Op) (ha : OpI a) (hb : OpI b) (ka kb : Nat) (hka : a.path.length = ka) (hkb : b.path.length = kb) (P Q : Option Addr) (cp cq : Nat) (hcp : ka ≤ cp) (hcq : kb ≤ cq) (hksa : ka ≤ 65536) (hksb : kb ≤ 65536) (w : World) (hp : DsAt w P a.path) (hq : DsAt w Q b.path) (hL : Laid w) :
    Calls Tryd.prog 21 #[.agg (slA s), .agg #[.int .i64 a.day, .int .i64 a.salt, .bool a.bl, .slice P ka cp], .agg #[.int .i64 b.day, .int .i64 b.salt, .bool b.bl, .slice Q kb cq]] w (CoC (clS s a b) w) := by
  have pil : Hid ((Tryd.prog.info? 25).map (·.size) = some (slC s).length) := Lib.hid (by have := sl_info hs.root; simpa [slA] using this)
  have hA : Hid (∀ V, Below w.heap.size w V → Calls Tryd.prog 23 #[.agg (slC s).toArray, .agg #[.int .i64 a.day, .int .i64 a.salt, .bool a.bl, .slice P ka cp]] V fun e w' => e = .returned (.bool (chkS s a)) ∧ Below V.heap.size V w') := Lib.hid fun V hV => scheck_any s hs a ha ka hka P cp hcp (by omega) V (hp.below hV) (hL.below hV)
  have hB : Hid (∀ V, Below w.heap.size w V → Calls Tryd.prog 23 #[.agg (slC s).toArray, .agg #[.int .i64 b.day, .int .i64 b.salt, .bool b.bl, .slice Q kb cq]] V fun e w' => e = .returned (.bool (chkS s b)) ∧ Below V.heap.size V w') := Lib.hid fun V hV => scheck_any s hs b hb kb hkb Q cq hcq (by omega) V (hq.below hV) (hL.below hV)
  by_cases hg : clG s a b = true
  · obtain ⟨y1, y2, y3, y4⟩ := clG_yes hg
    obtain ⟨i1, i2, i3, i4, i5⟩ := chkS_in y1
    rw [clS, if_pos hg]
    rw [y1] at hA
    rw [y2, ← y3] at hB
    rw [← y3]
    have hwr : IntKind.i64.wrap (a.day - s.f) = a.day - s.f := IntWalk.i64_in _ (by omega)
    have hla := (leaf_sm (b := a.bl) hs.t ha.day ha.salt).2
    have hlb : (leafM s.t a.day b.bl b.salt).length ≤ 1000 := by rw [y3]; exact (leaf_sm (b := b.bl) hs.t hb.day hb.salt).2
    exact sclash_go w (slC s) s.t s.f s.m a.day a.salt b.salt a.bl b.bl P Q ka kb cp cq (leafM s.t a.day a.bl a.salt) (leafM s.t a.day b.bl b.salt) _ _ (Lib.hid rfl) (Lib.hid rfl) _ hA hB rfl rfl rfl pil (Lib.hid (fun V g hg => sclash1_any s.t s.f s.m a.day a.salt a.bl P ka cp g hs.t ha.day ha.salt V hg)) (Lib.hid (fun V g hg => by rw [y3]; exact sclash1_any s.t s.f s.m b.day b.salt b.bl Q kb cq g hs.t hb.day hb.salt V hg)) (Lib.hid fun V A cA B cB hV hA hB => mcoll_any s.m (a.day - s.f) (leafM s.t a.day a.bl a.salt) (leafM s.t a.day b.bl b.salt) _ _ rfl rfl (by omega) (by omega) A B cA cB a.path b.path ka kb hka hkb hksa hksb P Q cp cq hcp hcq V hA hB (hp.below hV) (hq.below hV) ha.path hb.path (hL.below hV)) hwr y4
  · rw [clS, if_neg hg]
    refine (sclash_no s hs a b ha hb ka kb hka hkb P Q cp cq hcp hcq (by omega) (by omega) w hp hq hL (by simpa using hg)).mono ?_
    rintro e w' ⟨rfl, hb⟩
    exact ⟨none, 0, none, 0, rfl, ato_nil _, ato_nil _, hb⟩
end Go.Proofs.YtnccbhndlnkboaaDoor
