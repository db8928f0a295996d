/- The walk of the reference's Collide where it answers nothing at once. -/
import Derived.Test.YtnccbhndlnkboaaDoorCollG
import Derived.Test.YtnccbhndlnkboaaDoorRefH
import Derived.WalkMore
import Derived.Test.YtnccbhndlnkboaaDoorMCollG
namespace Go.Proofs.YtnccbhndlnkboaaDoor
open Go.RowKit Go.Shelf Cdc Sha
set_option linter.unusedVariables false
set_option linter.unusedSimpArgs false

set_option maxRecDepth 100000 in
set_option maxHeartbeats 8000000 in
theorem rcoll_e1 (n i : Int) (la lb : List UInt8) (ma mb : Nat) (hma : la.length = ma) (hmb : lb.length = mb) (hmas : ma ≤ 1000000) (hmbs : mb ≤ 1000000) (A B : Option Addr) (ca cb : Nat) (pa pb : List (List UInt8)) (ka kb : Nat) (hka : pa.length = ka) (hkb : pb.length = kb) (hkas : ka ≤ 65536) (hkbs : kb ≤ 65536) (P Q : Option Addr) (cp cq : Nat) (hcp : ka ≤ cp) (hcq : kb ≤ cq) (w : World) (hA : AtO w A la) (hB : AtO w B lb) (hP : DsAt w P pa) (hQ : DsAt w Q pb) (pa32 : ∀ d ∈ pa, d.length = 32) (pb32 : ∀ d ∈ pb, d.length = 32) (hL : Laid w) (h1 : (clV n i la pa).2 ≠ 0) : Calls Tryd.prog 46 #[.int .i64 n, .int .i64 i, .slice A ma ca, .slice B mb cb, .slice P ka cp, .slice Q kb cq] w (CoC (colV n i la lb pa pb) w) := by
  have e0 : colV n i la lb pa pb = ([], [], false) := if_pos (.inl h1)
  rw [e0]
  clear e0
  have hC1 : Hid (Calls Tryd.prog 52 #[.int .i64 n, .int .i64 i, .slice A ma ca, .slice P ka cp] w fun e w' => e = .returned (.tuple #[.agg (dg (clV n i la pa).1), .int .i64 (clV n i la pa).2]) ∧ Below w.heap.size w w') := Lib.hid (rclimb7_any n i la ma hma hmas A ca pa ka hka P cp hcp w hA hP pa32)
  have hC2 : Hid (∀ V, Below w.heap.size w V → Calls Tryd.prog 52 #[.int .i64 n, .int .i64 i, .slice B mb cb, .slice Q kb cq] V fun e w' => e = .returned (.tuple #[.agg (dg (clV n i lb pb).1), .int .i64 (clV n i lb pb).2]) ∧ Below V.heap.size V w') := Lib.hid fun V hV => rclimb7_any n i lb mb hmb hmbs B cb pb kb hkb Q cq hcq V (hB.below hV) (hQ.below hV) pb32
  obtain ⟨D1, hD1⟩ : ∃ D1, (clV n i la pa).1 = D1 := ⟨_, rfl⟩
  obtain ⟨E1, hE1⟩ : ∃ E1, (clV n i la pa).2 = E1 := ⟨_, rfl⟩
  obtain ⟨D2, hD2⟩ : ∃ D2, (clV n i lb pb).1 = D2 := ⟨_, rfl⟩
  obtain ⟨E2, hE2⟩ : ∃ E2, (clV n i lb pb).2 = E2 := ⟨_, rfl⟩
  have l1 : D1.length = 32 := hD1 ▸ clV_32 _ _ _ _
  have l2 : D2.length = 32 := hD2 ▸ clV_32 _ _ _ _
  rw [hD1, hE1] at hC1
  rw [hD2, hE2] at hC2
  have p1 := Lib.hid (dg_info D1 l1)
  have p2 := Lib.hid (dg_info D2 l2)
  have j1 := Lib.hid (dc_info l1)
  have j2 := Lib.hid (dc_info l2)
  have o1 := Lib.hid (dg_one D1)
  have o2 := Lib.hid (dg_one D2)
  have s1 : Hid (32 = (dg D1).size) := Lib.hid (by rw [dg_size, l1])
  have s2 : Hid (32 = (dg D2).size) := Lib.hid (by rw [dg_size, l2])
  rw [hE1] at h1
  have z1 : (E1 != 0) = true := by simpa using h1
  clear h1  hD1 hE1 hD2 hE2 l1 l2 hA hB hP hQ hL pa32 pb32 hma hmb hka hkb
  go_enter Tryd.func46, Tryd.ntmps46
  go_wp2_with fail
  refine hC1.out.mono ?_
  rintro e w3 ⟨rfl, hb3⟩
  go_wp2_with (refine wpList_new_row (by rfl) 23 (.tmp 15) (.tmp 30) (by rfl) (by rfl) (dg D1) (by rfl) (by rfl) 23 _ p1.out s1.out o1.out ?_; intro w4 hd4 hz4 hB4; have HB4 := Lib.hid (hb3.trans (hB4.mono hb3.size)); clear hB4 hb3; replace hd4 := Lib.hid hd4; replace hz4 := Lib.hid hz4)
  refine (hC2.out _ HB4.out).mono ?_
  rintro e w5 ⟨rfl, hb5⟩
  have HB5 := Lib.hid (HB4.out.trans (hb5.mono HB4.out.size))
  have hd5 := Lib.hid ((hb5.block _ (Array.getElem?_eq_some_iff.1 hd4.out).1).trans hd4.out)
  clear hb5 hd4 hz4
  go_wp2_with (first
    | (refine wpList_new_row (by rfl) 23 (.tmp 17) (.tmp 38) (by rfl) (by rfl) (dg D2) (by rfl) (by rfl) 23 _ p2.out s2.out o2.out ?_; intro w6 hd6 hz6 hB6; have HB6 := Lib.hid (HB5.out.trans (hB6.mono HB5.out.size)); have hr15 := Lib.hid (row_range7 (cs := dc D1) ((hB6.block _ (Array.getElem?_eq_some_iff.1 hd5.out).1).trans hd5.out)); have hr17 := Lib.hid (row_range7 (cs := dc D2) hd6); clear hB6 hd6 hz6 hd5)
    | (refine wpList_load_midG (by rfl) 23 (.tmp 15) (by rfl) w3.heap.size 0 (by rfl) (dc D1) _ hr15.out Tryd.underlying23 (by rfl) j1.out ?_)
    | (refine wpList_load_midG (by rfl) 23 (.tmp 17) (by rfl) w5.heap.size 0 (by rfl) (dc D2) _ hr17.out Tryd.underlying23 (by rfl) j2.out ?_))
  refine bodyPost_ret (v := .tuple #[.slice none 0 0, .slice none 0 0, .bool false]) (by simp [results, Tryd.results46, go_sem]) rfl ⟨none, 0, none, 0, rfl, ato_nil _, ato_nil _, HB6.out⟩
set_option maxRecDepth 100000 in
set_option maxHeartbeats 8000000 in
theorem rcoll_e2 (n i : Int) (la lb : List UInt8) (ma mb : Nat) (hma : la.length = ma) (hmb : lb.length = mb) (hmas : ma ≤ 1000000) (hmbs : mb ≤ 1000000) (A B : Option Addr) (ca cb : Nat) (pa pb : List (List UInt8)) (ka kb : Nat) (hka : pa.length = ka) (hkb : pb.length = kb) (hkas : ka ≤ 65536) (hkbs : kb ≤ 65536) (P Q : Option Addr) (cp cq : Nat) (hcp : ka ≤ cp) (hcq : kb ≤ cq) (w : World) (hA : AtO w A la) (hB : AtO w B lb) (hP : DsAt w P pa) (hQ : DsAt w Q pb) (pa32 : ∀ d ∈ pa, d.length = 32) (pb32 : ∀ d ∈ pb, d.length = 32) (hL : Laid w) (h1 : (clV n i la pa).2 = 0) (h2 : (clV n i lb pb).2 ≠ 0) : Calls Tryd.prog 46 #[.int .i64 n, .int .i64 i, .slice A ma ca, .slice B mb cb, .slice P ka cp, .slice Q kb cq] w (CoC (colV n i la lb pa pb) w) := by
  have e0 : colV n i la lb pa pb = ([], [], false) := if_pos (.inr (.inl h2))
  rw [e0]
  clear e0
  have hC1 : Hid (Calls Tryd.prog 52 #[.int .i64 n, .int .i64 i, .slice A ma ca, .slice P ka cp] w fun e w' => e = .returned (.tuple #[.agg (dg (clV n i la pa).1), .int .i64 (clV n i la pa).2]) ∧ Below w.heap.size w w') := Lib.hid (rclimb7_any n i la ma hma hmas A ca pa ka hka P cp hcp w hA hP pa32)
  have hC2 : Hid (∀ V, Below w.heap.size w V → Calls Tryd.prog 52 #[.int .i64 n, .int .i64 i, .slice B mb cb, .slice Q kb cq] V fun e w' => e = .returned (.tuple #[.agg (dg (clV n i lb pb).1), .int .i64 (clV n i lb pb).2]) ∧ Below V.heap.size V w') := Lib.hid fun V hV => rclimb7_any n i lb mb hmb hmbs B cb pb kb hkb Q cq hcq V (hB.below hV) (hQ.below hV) pb32
  obtain ⟨D1, hD1⟩ : ∃ D1, (clV n i la pa).1 = D1 := ⟨_, rfl⟩
  obtain ⟨E1, hE1⟩ : ∃ E1, (clV n i la pa).2 = E1 := ⟨_, rfl⟩
  obtain ⟨D2, hD2⟩ : ∃ D2, (clV n i lb pb).1 = D2 := ⟨_, rfl⟩
  obtain ⟨E2, hE2⟩ : ∃ E2, (clV n i lb pb).2 = E2 := ⟨_, rfl⟩
  have l1 : D1.length = 32 := hD1 ▸ clV_32 _ _ _ _
  have l2 : D2.length = 32 := hD2 ▸ clV_32 _ _ _ _
  rw [hD1, hE1] at hC1
  rw [hD2, hE2] at hC2
  have p1 := Lib.hid (dg_info D1 l1)
  have p2 := Lib.hid (dg_info D2 l2)
  have j1 := Lib.hid (dc_info l1)
  have j2 := Lib.hid (dc_info l2)
  have o1 := Lib.hid (dg_one D1)
  have o2 := Lib.hid (dg_one D2)
  have s1 : Hid (32 = (dg D1).size) := Lib.hid (by rw [dg_size, l1])
  have s2 : Hid (32 = (dg D2).size) := Lib.hid (by rw [dg_size, l2])
  rw [hE1] at h1
  rw [hE2] at h2
  have z1 : (E1 != 0) = false := by rw [h1]; rfl
  have z2 : (E2 != 0) = true := by simpa using h2
  clear h1 h2 hD1 hE1 hD2 hE2 l1 l2 hA hB hP hQ hL pa32 pb32 hma hmb hka hkb
  go_enter Tryd.func46, Tryd.ntmps46
  go_wp2_with fail
  refine hC1.out.mono ?_
  rintro e w3 ⟨rfl, hb3⟩
  go_wp2_with (refine wpList_new_row (by rfl) 23 (.tmp 15) (.tmp 30) (by rfl) (by rfl) (dg D1) (by rfl) (by rfl) 23 _ p1.out s1.out o1.out ?_; intro w4 hd4 hz4 hB4; have HB4 := Lib.hid (hb3.trans (hB4.mono hb3.size)); clear hB4 hb3; replace hd4 := Lib.hid hd4; replace hz4 := Lib.hid hz4)
  refine (hC2.out _ HB4.out).mono ?_
  rintro e w5 ⟨rfl, hb5⟩
  have HB5 := Lib.hid (HB4.out.trans (hb5.mono HB4.out.size))
  have hd5 := Lib.hid ((hb5.block _ (Array.getElem?_eq_some_iff.1 hd4.out).1).trans hd4.out)
  clear hb5 hd4 hz4
  go_wp2_with (first
    | (refine wpList_new_row (by rfl) 23 (.tmp 17) (.tmp 38) (by rfl) (by rfl) (dg D2) (by rfl) (by rfl) 23 _ p2.out s2.out o2.out ?_; intro w6 hd6 hz6 hB6; have HB6 := Lib.hid (HB5.out.trans (hB6.mono HB5.out.size)); have hr15 := Lib.hid (row_range7 (cs := dc D1) ((hB6.block _ (Array.getElem?_eq_some_iff.1 hd5.out).1).trans hd5.out)); have hr17 := Lib.hid (row_range7 (cs := dc D2) hd6); clear hB6 hd6 hz6 hd5)
    | (refine wpList_load_midG (by rfl) 23 (.tmp 15) (by rfl) w3.heap.size 0 (by rfl) (dc D1) _ hr15.out Tryd.underlying23 (by rfl) j1.out ?_)
    | (refine wpList_load_midG (by rfl) 23 (.tmp 17) (by rfl) w5.heap.size 0 (by rfl) (dc D2) _ hr17.out Tryd.underlying23 (by rfl) j2.out ?_))
  refine bodyPost_ret (v := .tuple #[.slice none 0 0, .slice none 0 0, .bool false]) (by simp [results, Tryd.results46, go_sem]) rfl ⟨none, 0, none, 0, rfl, ato_nil _, ato_nil _, HB6.out⟩
set_option maxRecDepth 100000 in
set_option maxHeartbeats 8000000 in
theorem rcoll_e3 (n i : Int) (la lb : List UInt8) (ma mb : Nat) (hma : la.length = ma) (hmb : lb.length = mb) (hmas : ma ≤ 1000000) (hmbs : mb ≤ 1000000) (A B : Option Addr) (ca cb : Nat) (pa pb : List (List UInt8)) (ka kb : Nat) (hka : pa.length = ka) (hkb : pb.length = kb) (hkas : ka ≤ 65536) (hkbs : kb ≤ 65536) (P Q : Option Addr) (cp cq : Nat) (hcp : ka ≤ cp) (hcq : kb ≤ cq) (w : World) (hA : AtO w A la) (hB : AtO w B lb) (hP : DsAt w P pa) (hQ : DsAt w Q pb) (pa32 : ∀ d ∈ pa, d.length = 32) (pb32 : ∀ d ∈ pb, d.length = 32) (hL : Laid w) (h1 : (clV n i la pa).2 = 0) (h2 : (clV n i lb pb).2 = 0) (h3 : (clV n i la pa).1 ≠ (clV n i lb pb).1) : Calls Tryd.prog 46 #[.int .i64 n, .int .i64 i, .slice A ma ca, .slice B mb cb, .slice P ka cp, .slice Q kb cq] w (CoC (colV n i la lb pa pb) w) := by
  have e0 : colV n i la lb pa pb = ([], [], false) := if_pos (.inr (.inr (.inl h3)))
  rw [e0]
  clear e0
  have hC1 : Hid (Calls Tryd.prog 52 #[.int .i64 n, .int .i64 i, .slice A ma ca, .slice P ka cp] w fun e w' => e = .returned (.tuple #[.agg (dg (clV n i la pa).1), .int .i64 (clV n i la pa).2]) ∧ Below w.heap.size w w') := Lib.hid (rclimb7_any n i la ma hma hmas A ca pa ka hka P cp hcp w hA hP pa32)
  have hC2 : Hid (∀ V, Below w.heap.size w V → Calls Tryd.prog 52 #[.int .i64 n, .int .i64 i, .slice B mb cb, .slice Q kb cq] V fun e w' => e = .returned (.tuple #[.agg (dg (clV n i lb pb).1), .int .i64 (clV n i lb pb).2]) ∧ Below V.heap.size V w') := Lib.hid fun V hV => rclimb7_any n i lb mb hmb hmbs B cb pb kb hkb Q cq hcq V (hB.below hV) (hQ.below hV) pb32
  obtain ⟨D1, hD1⟩ : ∃ D1, (clV n i la pa).1 = D1 := ⟨_, rfl⟩
  obtain ⟨E1, hE1⟩ : ∃ E1, (clV n i la pa).2 = E1 := ⟨_, rfl⟩
  obtain ⟨D2, hD2⟩ : ∃ D2, (clV n i lb pb).1 = D2 := ⟨_, rfl⟩
  obtain ⟨E2, hE2⟩ : ∃ E2, (clV n i lb pb).2 = E2 := ⟨_, rfl⟩
  have l1 : D1.length = 32 := hD1 ▸ clV_32 _ _ _ _
  have l2 : D2.length = 32 := hD2 ▸ clV_32 _ _ _ _
  rw [hD1, hE1] at hC1
  rw [hD2, hE2] at hC2
  have p1 := Lib.hid (dg_info D1 l1)
  have p2 := Lib.hid (dg_info D2 l2)
  have j1 := Lib.hid (dc_info l1)
  have j2 := Lib.hid (dc_info l2)
  have o1 := Lib.hid (dg_one D1)
  have o2 := Lib.hid (dg_one D2)
  have s1 : Hid (32 = (dg D1).size) := Lib.hid (by rw [dg_size, l1])
  have s2 : Hid (32 = (dg D2).size) := Lib.hid (by rw [dg_size, l2])
  rw [hE1] at h1
  rw [hE2] at h2
  have z1 : (E1 != 0) = false := by rw [h1]; rfl
  have z2 : (E2 != 0) = false := by rw [h2]; rfl
  rw [hD1, hD2] at h3
  have hEq : ∀ V, (Op.equalIn 10000 23 (.agg (dc D1).toArray) (.agg (dc D2).toArray)).run Tryd.prog V = .ok false V := fun V => by have := eq_dg D1 D2 l1 l2 V; rw [decide_eq_false h3] at this; exact this
  clear h1 h2 h3 hD1 hE1 hD2 hE2 l1 l2 hA hB hP hQ hL pa32 pb32 hma hmb hka hkb
  go_enter Tryd.func46, Tryd.ntmps46
  go_wp2_with fail
  refine hC1.out.mono ?_
  rintro e w3 ⟨rfl, hb3⟩
  go_wp2_with (refine wpList_new_row (by rfl) 23 (.tmp 15) (.tmp 30) (by rfl) (by rfl) (dg D1) (by rfl) (by rfl) 23 _ p1.out s1.out o1.out ?_; intro w4 hd4 hz4 hB4; have HB4 := Lib.hid (hb3.trans (hB4.mono hb3.size)); clear hB4 hb3; replace hd4 := Lib.hid hd4; replace hz4 := Lib.hid hz4)
  refine (hC2.out _ HB4.out).mono ?_
  rintro e w5 ⟨rfl, hb5⟩
  have HB5 := Lib.hid (HB4.out.trans (hb5.mono HB4.out.size))
  have hd5 := Lib.hid ((hb5.block _ (Array.getElem?_eq_some_iff.1 hd4.out).1).trans hd4.out)
  clear hb5 hd4 hz4
  go_wp2_with (first
    | (refine wpList_new_row (by rfl) 23 (.tmp 17) (.tmp 38) (by rfl) (by rfl) (dg D2) (by rfl) (by rfl) 23 _ p2.out s2.out o2.out ?_; intro w6 hd6 hz6 hB6; have HB6 := Lib.hid (HB5.out.trans (hB6.mono HB5.out.size)); have hr15 := Lib.hid (row_range7 (cs := dc D1) ((hB6.block _ (Array.getElem?_eq_some_iff.1 hd5.out).1).trans hd5.out)); have hr17 := Lib.hid (row_range7 (cs := dc D2) hd6); clear hB6 hd6 hz6 hd5)
    | (refine wpList_load_midG (by rfl) 23 (.tmp 15) (by rfl) w3.heap.size 0 (by rfl) (dc D1) _ hr15.out Tryd.underlying23 (by rfl) j1.out ?_)
    | (refine wpList_load_midG (by rfl) 23 (.tmp 17) (by rfl) w5.heap.size 0 (by rfl) (dc D2) _ hr17.out Tryd.underlying23 (by rfl) j2.out ?_))
  refine bodyPost_ret (v := .tuple #[.slice none 0 0, .slice none 0 0, .bool false]) (by simp [results, Tryd.results46, go_sem]) rfl ⟨none, 0, none, 0, rfl, ato_nil _, ato_nil _, HB6.out⟩
set_option maxRecDepth 100000 in
set_option maxHeartbeats 8000000 in
theorem rcoll_e4 (n i : Int) (la lb : List UInt8) (ma mb : Nat) (hma : la.length = ma) (hmb : lb.length = mb) (hmas : ma ≤ 1000000) (hmbs : mb ≤ 1000000) (A B : Option Addr) (ca cb : Nat) (pa pb : List (List UInt8)) (ka kb : Nat) (hka : pa.length = ka) (hkb : pb.length = kb) (hkas : ka ≤ 65536) (hkbs : kb ≤ 65536) (P Q : Option Addr) (cp cq : Nat) (hcp : ka ≤ cp) (hcq : kb ≤ cq) (w : World) (hA : AtO w A la) (hB : AtO w B lb) (hP : DsAt w P pa) (hQ : DsAt w Q pb) (pa32 : ∀ d ∈ pa, d.length = 32) (pb32 : ∀ d ∈ pb, d.length = 32) (hL : Laid w) (h1 : (clV n i la pa).2 = 0) (h2 : (clV n i lb pb).2 = 0) (h3 : (clV n i la pa).1 = (clV n i lb pb).1) (h4 : la = lb) : Calls Tryd.prog 46 #[.int .i64 n, .int .i64 i, .slice A ma ca, .slice B mb cb, .slice P ka cp, .slice Q kb cq] w (CoC (colV n i la lb pa pb) w) := by
  have e0 : colV n i la lb pa pb = ([], [], false) := if_pos (.inr (.inr (.inr h4)))
  rw [e0]
  clear e0
  have hC1 : Hid (Calls Tryd.prog 52 #[.int .i64 n, .int .i64 i, .slice A ma ca, .slice P ka cp] w fun e w' => e = .returned (.tuple #[.agg (dg (clV n i la pa).1), .int .i64 (clV n i la pa).2]) ∧ Below w.heap.size w w') := Lib.hid (rclimb7_any n i la ma hma hmas A ca pa ka hka P cp hcp w hA hP pa32)
  have hC2 : Hid (∀ V, Below w.heap.size w V → Calls Tryd.prog 52 #[.int .i64 n, .int .i64 i, .slice B mb cb, .slice Q kb cq] V fun e w' => e = .returned (.tuple #[.agg (dg (clV n i lb pb).1), .int .i64 (clV n i lb pb).2]) ∧ Below V.heap.size V w') := Lib.hid fun V hV => rclimb7_any n i lb mb hmb hmbs B cb pb kb hkb Q cq hcq V (hB.below hV) (hQ.below hV) pb32
  have hv0 : Hid (∀ V, Below w.heap.size w V → (convert 48 9 (.slice A ma ca)).run Tryd.prog V = .ok (.string ⟨la.toArray⟩) V) := Lib.hid fun V hV => (hA.below hV).conv ma ca hma
  have hv1 : Hid (∀ V, Below w.heap.size w V → (convert 48 9 (.slice B mb cb)).run Tryd.prog V = .ok (.string ⟨la.toArray⟩) V) := Lib.hid fun V hV => by have := (hB.below hV).conv mb cb hmb; rw [← h4] at this; exact this
  obtain ⟨D1, hD1⟩ : ∃ D1, (clV n i la pa).1 = D1 := ⟨_, rfl⟩
  obtain ⟨E1, hE1⟩ : ∃ E1, (clV n i la pa).2 = E1 := ⟨_, rfl⟩
  obtain ⟨D2, hD2⟩ : ∃ D2, (clV n i lb pb).1 = D2 := ⟨_, rfl⟩
  obtain ⟨E2, hE2⟩ : ∃ E2, (clV n i lb pb).2 = E2 := ⟨_, rfl⟩
  have l1 : D1.length = 32 := hD1 ▸ clV_32 _ _ _ _
  have l2 : D2.length = 32 := hD2 ▸ clV_32 _ _ _ _
  rw [hD1, hE1] at hC1
  rw [hD2, hE2] at hC2
  have p1 := Lib.hid (dg_info D1 l1)
  have p2 := Lib.hid (dg_info D2 l2)
  have j1 := Lib.hid (dc_info l1)
  have j2 := Lib.hid (dc_info l2)
  have o1 := Lib.hid (dg_one D1)
  have o2 := Lib.hid (dg_one D2)
  have s1 : Hid (32 = (dg D1).size) := Lib.hid (by rw [dg_size, l1])
  have s2 : Hid (32 = (dg D2).size) := Lib.hid (by rw [dg_size, l2])
  rw [hE1] at h1
  rw [hE2] at h2
  have z1 : (E1 != 0) = false := by rw [h1]; rfl
  have z2 : (E2 != 0) = false := by rw [h2]; rfl
  rw [hD1, hD2] at h3
  have hEq : ∀ V, (Op.equalIn 10000 23 (.agg (dc D1).toArray) (.agg (dc D2).toArray)).run Tryd.prog V = .ok true V := fun V => by have := eq_dg D1 D2 l1 l2 V; rw [decide_eq_true h3] at this; exact this
  clear h1 h2 h3 h4 hD1 hE1 hD2 hE2 l1 l2 hA hB hP hQ hL pa32 pb32 hma hmb hka hkb
  go_enter Tryd.func46, Tryd.ntmps46
  go_wp2_with fail
  refine hC1.out.mono ?_
  rintro e w3 ⟨rfl, hb3⟩
  go_wp2_with (refine wpList_new_row (by rfl) 23 (.tmp 15) (.tmp 30) (by rfl) (by rfl) (dg D1) (by rfl) (by rfl) 23 _ p1.out s1.out o1.out ?_; intro w4 hd4 hz4 hB4; have HB4 := Lib.hid (hb3.trans (hB4.mono hb3.size)); clear hB4 hb3; replace hd4 := Lib.hid hd4; replace hz4 := Lib.hid hz4)
  refine (hC2.out _ HB4.out).mono ?_
  rintro e w5 ⟨rfl, hb5⟩
  have HB5 := Lib.hid (HB4.out.trans (hb5.mono HB4.out.size))
  have hd5 := Lib.hid ((hb5.block _ (Array.getElem?_eq_some_iff.1 hd4.out).1).trans hd4.out)
  clear hb5 hd4 hz4
  go_wp2_with (first
    | (refine wpList_new_row (by rfl) 23 (.tmp 17) (.tmp 38) (by rfl) (by rfl) (dg D2) (by rfl) (by rfl) 23 _ p2.out s2.out o2.out ?_; intro w6 hd6 hz6 hB6; have HB6 := Lib.hid (HB5.out.trans (hB6.mono HB5.out.size)); have hr15 := Lib.hid (row_range7 (cs := dc D1) ((hB6.block _ (Array.getElem?_eq_some_iff.1 hd5.out).1).trans hd5.out)); have hr17 := Lib.hid (row_range7 (cs := dc D2) hd6); clear hB6 hd6 hz6 hd5; have v0 := hv0.out _ HB6.out; have v1 := hv1.out _ HB6.out)
    | (refine wpList_load_midG (by rfl) 23 (.tmp 15) (by rfl) w3.heap.size 0 (by rfl) (dc D1) _ hr15.out Tryd.underlying23 (by rfl) j1.out ?_)
    | (refine wpList_load_midG (by rfl) 23 (.tmp 17) (by rfl) w5.heap.size 0 (by rfl) (dc D2) _ hr17.out Tryd.underlying23 (by rfl) j2.out ?_))
  refine bodyPost_ret (v := .tuple #[.slice none 0 0, .slice none 0 0, .bool false]) (by simp [results, Tryd.results46, go_sem]) rfl ⟨none, 0, none, 0, rfl, ato_nil _, ato_nil _, HB6.out⟩
end Go.Proofs.YtnccbhndlnkboaaDoor
/- The walk of the reference's Collide. -/
namespace Go.Proofs.YtnccbhndlnkboaaDoor
open Go.RowKit Go.Shelf Cdc Sha
set_option linter.unusedVariables false
set_option linter.unusedSimpArgs false

set_option maxRecDepth 100000 in
set_option maxHeartbeats 8000000 in
theorem rcoll_main (n i : Nat) (hn : n ≤ 65536) (hi : i < n) (la lb : List UInt8) (ma mb : Nat) (hma : la.length = ma) (hmb : lb.length = mb) (hmas : ma ≤ 1000000) (hmbs : mb ≤ 1000000) (A B : Option Addr) (ca cb : Nat) (pa pb : List (List UInt8)) (ka kb : Nat) (hka : pa.length = ka) (hkb : pb.length = kb) (hkas : ka ≤ 65536) (hkbs : kb ≤ 65536) (P Q : Option Addr) (cp cq : Nat) (hcp : ka ≤ cp) (hcq : kb ≤ cq) (w : World) (hA : AtO w A la) (hB : AtO w B lb) (hP : DsAt w P pa) (hQ : DsAt w Q pb) (pa32 : ∀ d ∈ pa, d.length = 32) (pb32 : ∀ d ∈ pb, d.length = 32) (hL : Laid w) (h1 : (clV n i la pa).2 = 0) (h2 : (clV n i lb pb).2 = 0) (h3 : (clV n i la pa).1 = (clV n i lb pb).1) (h4 : la ≠ lb) (r1 r2 : List (List UInt8 × List UInt8)) (k1 : climbM n i la pa = some r1) (k2 : climbM n i lb pb = some r2) : Calls Tryd.prog 46 #[.int .i64 (n : Int), .int .i64 (i : Int), .slice A ma ca, .slice B mb cb, .slice P ka cp, .slice Q kb cq] w (CoC (colR (collL r1 r2)) w) := by
  have hC1 : Hid (Calls Tryd.prog 52 #[.int .i64 (n : Int), .int .i64 (i : Int), .slice A ma ca, .slice P ka cp] w fun e w' => e = .returned (.tuple #[.agg (dg (clV (n : Int) (i : Int) la pa).1), .int .i64 (clV (n : Int) (i : Int) la pa).2]) ∧ Below w.heap.size w w') := Lib.hid (rclimb7_any (n : Int) (i : Int) la ma hma hmas A ca pa ka hka P cp hcp w hA hP pa32)
  have hC2 : Hid (∀ V, Below w.heap.size w V → Calls Tryd.prog 52 #[.int .i64 (n : Int), .int .i64 (i : Int), .slice B mb cb, .slice Q kb cq] V fun e w' => e = .returned (.tuple #[.agg (dg (clV (n : Int) (i : Int) lb pb).1), .int .i64 (clV (n : Int) (i : Int) lb pb).2]) ∧ Below V.heap.size V w') := Lib.hid fun V hV => rclimb7_any (n : Int) (i : Int) lb mb hmb hmbs B cb pb kb hkb Q cq hcq V (hB.below hV) (hQ.below hV) pb32
  have hv0 : Hid (∀ V, Below w.heap.size w V → (convert 48 9 (.slice A ma ca)).run Tryd.prog V = .ok (.string ⟨la.toArray⟩) V) := Lib.hid fun V hV => (hA.below hV).conv ma ca hma
  have hv1 : Hid (∀ V, Below w.heap.size w V → (convert 48 9 (.slice B mb cb)).run Tryd.prog V = .ok (.string ⟨lb.toArray⟩) V) := Lib.hid fun V hV => (hB.below hV).conv mb cb hmb
  obtain ⟨N, hN1⟩ : ∃ N, r1.length = N := ⟨_, rfl⟩
  have hN2 : r2.length = N := by rw [← climbM_same k1 k2, hN1]
  have hW1 : Hid (∀ V, Below w.heap.size w V → Calls Tryd.prog 70 #[.int .i64 (n : Int), .int .i64 (i : Int), .slice A ma ca, .slice P ka cp] V fun e w' => ∃ (A1 : Option Addr) (c1 : Nat) (T1 : Option Addr) (ct1 : Nat), e = .returned (.tuple #[.slice A1 N c1, .slice T1 N ct1]) ∧ DsAt w' A1 (r1.map (·.1)) ∧ LvAt w' T1 (r1.map (·.2)) ∧ Below V.heap.size V w') := Lib.hid fun V hV => by
    obtain ⟨l9, h9, h8⟩ := Option.map_eq_some_iff.1 k1
    refine (rwayL_any n i hn hi la ma hma hmas A ca pa ka hka P cp hcp hkas (r1.map (·.1)) (r1.map (·.2)) ⟨l9, h9, by rw [← h8]; rfl, by rw [← h8]; rfl⟩ V (hA.below hV) (hP.below hV) pa32).mono ?_
    rintro e w' ⟨A1, L, c1, T1, ct1, rfl, e2, _, e3, e5, hb⟩
    rw [List.length_map, hN1] at e2
    subst e2
    exact ⟨A1, c1, T1, ct1, rfl, e3, e5, hb⟩
  have hW2 : Hid (∀ V, Below w.heap.size w V → Calls Tryd.prog 70 #[.int .i64 (n : Int), .int .i64 (i : Int), .slice B mb cb, .slice Q kb cq] V fun e w' => ∃ (A1 : Option Addr) (c1 : Nat) (T1 : Option Addr) (ct1 : Nat), e = .returned (.tuple #[.slice A1 N c1, .slice T1 N ct1]) ∧ DsAt w' A1 (r2.map (·.1)) ∧ LvAt w' T1 (r2.map (·.2)) ∧ Below V.heap.size V w') := Lib.hid fun V hV => by
    obtain ⟨l9, h9, h8⟩ := Option.map_eq_some_iff.1 k2
    refine (rwayL_any n i hn hi lb mb hmb hmbs B cb pb kb hkb Q cq hcq hkbs (r2.map (·.1)) (r2.map (·.2)) ⟨l9, h9, by rw [← h8]; rfl, by rw [← h8]; rfl⟩ V (hB.below hV) (hQ.below hV) pb32).mono ?_
    rintro e w' ⟨A1, L, c1, T1, ct1, rfl, e2, _, e3, e5, hb⟩
    rw [List.length_map, hN2] at e2
    subst e2
    exact ⟨A1, c1, T1, ct1, rfl, e3, e5, hb⟩
  have hq1 : Hid (∀ x ∈ r1, x.1.length = 32) := Lib.hid (climbM_32 k1)
  have hq2 : Hid (∀ x ∈ r2, x.1.length = 32) := Lib.hid (climbM_32 k2)
  have hN9 : N ≤ 65537 := by have := climbM_len k1; omega
  replace hN1 := Lib.hid hN1
  replace hN2 := Lib.hid hN2
  obtain ⟨R, hR⟩ : ∃ R, collL r1 r2 = R := ⟨_, rfl⟩
  rw [hR]
  replace hR := Lib.hid hR
  obtain ⟨D1, hD1⟩ : ∃ D1, (clV n i la pa).1 = D1 := ⟨_, rfl⟩
  obtain ⟨E1, hE1⟩ : ∃ E1, (clV n i la pa).2 = E1 := ⟨_, rfl⟩
  obtain ⟨D2, hD2⟩ : ∃ D2, (clV n i lb pb).1 = D2 := ⟨_, rfl⟩
  obtain ⟨E2, hE2⟩ : ∃ E2, (clV n i lb pb).2 = E2 := ⟨_, rfl⟩
  have l1 : D1.length = 32 := hD1 ▸ clV_32 _ _ _ _
  have l2 : D2.length = 32 := hD2 ▸ clV_32 _ _ _ _
  rw [hD1, hE1] at hC1
  rw [hD2, hE2] at hC2
  have p1 := Lib.hid (dg_info D1 l1)
  have p2 := Lib.hid (dg_info D2 l2)
  have j1 := Lib.hid (dc_info l1)
  have j2 := Lib.hid (dc_info l2)
  have o1 := Lib.hid (dg_one D1)
  have o2 := Lib.hid (dg_one D2)
  have s1 : Hid (32 = (dg D1).size) := Lib.hid (by rw [dg_size, l1])
  have s2 : Hid (32 = (dg D2).size) := Lib.hid (by rw [dg_size, l2])
  rw [hE1] at h1
  rw [hE2] at h2
  rw [hD1, hD2] at h3
  have z1 : (E1 != 0) = false := by rw [h1]; rfl
  have z2 : (E2 != 0) = false := by rw [h2]; rfl
  have hEq : ∀ V, (Op.equalIn 10000 23 (.agg (dc D1).toArray) (.agg (dc D2).toArray)).run Tryd.prog V = .ok true V := fun V => by have := eq_dg D1 D2 l1 l2 V; rw [decide_eq_true h3] at this; exact this
  have hh : (la == lb) = false := by simpa using h4
  clear h1 h2 h3 h4 hD1 hE1 hD2 hE2 l1 l2 hA hB hP hQ hL pa32 pb32 hma hmb hka hkb k1 k2 hi
  go_enter Tryd.func46, Tryd.ntmps46
  go_wp2_with fail
  refine hC1.out.mono ?_
  rintro e w3 ⟨rfl, hb3⟩
  go_wp2_with (refine wpList_new_row (by rfl) 23 (.tmp 15) (.tmp 30) (by rfl) (by rfl) (dg D1) (by rfl) (by rfl) 23 _ p1.out s1.out o1.out ?_; intro w4 hd4 hz4 hB4; have HB4 := Lib.hid (hb3.trans (hB4.mono hb3.size)); clear hB4 hb3; replace hd4 := Lib.hid hd4; replace hz4 := Lib.hid hz4)
  refine (hC2.out _ HB4.out).mono ?_
  rintro e w5 ⟨rfl, hb5⟩
  have HB5 := Lib.hid (HB4.out.trans (hb5.mono HB4.out.size))
  have hd5 := Lib.hid ((hb5.block _ (Array.getElem?_eq_some_iff.1 hd4.out).1).trans hd4.out)
  clear hb5 hd4 hz4
  go_wp2_with (first
    | (refine wpList_new_row (by rfl) 23 (.tmp 17) (.tmp 38) (by rfl) (by rfl) (dg D2) (by rfl) (by rfl) 23 _ p2.out s2.out o2.out ?_; intro w6 hd6 hz6 hB6; have HB6 := Lib.hid (HB5.out.trans (hB6.mono HB5.out.size)); have hr15 := Lib.hid (row_range7 (cs := dc D1) ((hB6.block _ (Array.getElem?_eq_some_iff.1 hd5.out).1).trans hd5.out)); have hr17 := Lib.hid (row_range7 (cs := dc D2) hd6); clear hB6 hd6 hz6 hd5; have v0 := hv0.out _ HB6.out; have v1 := hv1.out _ HB6.out)
    | (refine wpList_load_midG (by rfl) 23 (.tmp 15) (by rfl) w3.heap.size 0 (by rfl) (dc D1) _ hr15.out Tryd.underlying23 (by rfl) j1.out ?_)
    | (refine wpList_load_midG (by rfl) 23 (.tmp 17) (by rfl) w5.heap.size 0 (by rfl) (dc D2) _ hr17.out Tryd.underlying23 (by rfl) j2.out ?_))
  clear v0 v1 hh
  clear hEq z1 z2 hr15 hr17
  refine (hW1.out _ HB6.out).mono ?_
  rintro e w8 ⟨A1, c1, T1, ct1, rfl, ds1, tl1, hb8⟩
  have HB8 := Lib.hid (HB6.out.trans (hb8.mono HB6.out.size))
  clear hb8
  go_wp2_with fail
  refine (hW2.out _ HB8.out).mono ?_
  rintro e w11 ⟨A2, c2, T2, ct2, rfl, ds2, tl2, hb10⟩
  have HB11 := Lib.hid (HB8.out.trans (hb10.mono HB8.out.size))
  have hDS1 := Lib.hid (ds1.below hb10)
  have hTS1 := Lib.hid (tl1.below hb10)
  have hDS2 := Lib.hid ds2
  have hTS2 := Lib.hid tl2
  clear hb10 ds1 tl1 ds2 tl2
  go_wp2_with fail
  go_loopw [23] (fun s23 wr => ∃ (k : Nat), s23 = .int .i64 (k : Int) ∧ k ≤ N ∧ Hid (collL (r1.drop k) (r2.drop k) = R) ∧ Hid (Below w11.heap.size w11 wr)) (fun s23 _ => N - (intOf s23).toNat)
  case atStart => exact ⟨0, rfl, Nat.zero_le _, Lib.hid (by rw [List.drop_zero, List.drop_zero]; exact hR.out), Lib.hid (Below.refl _ _)⟩
  case round =>
    obtain ⟨k, rfl, hk, hcol, hBr⟩ := hrel
    clear hC1 hC2 hW1 hW2 HB4 HB5 HB6
    by_cases hlt : k < N
    · obtain ⟨⟨dx, tx⟩, hx⟩ : ∃ x, r1[k]? = some x := ⟨_, List.getElem?_eq_getElem (by rw [hN1.out]; exact hlt)⟩
      obtain ⟨⟨dy, ty⟩, hy⟩ : ∃ x, r2[k]? = some x := ⟨_, List.getElem?_eq_getElem (by rw [hN2.out]; exact hlt)⟩
      obtain ⟨a1, q1, rfl, ha1, hr1⟩ := hDS1.out k dx (by rw [List.getElem?_map, hx]; rfl)
      obtain ⟨a2, q2, rfl, ha2, hr2⟩ := hDS2.out k dy (by rw [List.getElem?_map, hy]; rfl)
      obtain ⟨b1, t1, Ax, cx, rfl, hcx, -, -, hatx⟩ := hTS1.out k tx (by rw [List.getElem?_map, hx]; rfl)
      obtain ⟨b2, t2, Ay, cy, rfl, hcy, -, -, haty⟩ := hTS2.out k ty (by rw [List.getElem?_map, hy]; rfl)
      have hdx := hq1.out _ (List.mem_of_getElem? hx)
      have hdy := hq2.out _ (List.mem_of_getElem? hy)
      dsimp only at hdx hdy
      have hS : Hid (∀ V, Below w11.heap.size w11 V → V.rangeAt a1 (q1 + k * 32) (dc dx) ∧ V.rangeAt a2 (q2 + k * 32) (dc dy)) := Lib.hid fun V hV => ⟨range_belowB hr1 ha1 hV, range_belowB hr2 ha2 hV⟩
      have hST : Hid (∀ V, Below w11.heap.size w11 V → V.cell? ⟨b1, t1 + k, none⟩ = some (.slice Ax tx.length cx) ∧ V.cell? ⟨b2, t2 + k, none⟩ = some (.slice Ay ty.length cy)) := Lib.hid fun V hV => ⟨(hV.cell (p := ⟨b1, t1 + k, none⟩) (World.block_lt_of_cell? w11 _ hcx)).trans hcx, (hV.cell (p := ⟨b2, t2 + k, none⟩) (World.block_lt_of_cell? w11 _ hcy)).trans hcy⟩
      have i1 := Lib.hid (dc_info hdx)
      have i2 := Lib.hid (dc_info hdy)
      have hEqs := eq_dg dx dy hdx hdy
      have hstep := collL_at hx hy
      rw [hcol.out] at hstep
      dsimp only at hstep
      have HB := hBr.out.drew
      have i3 : (0 : Int) ≤ (k : Int) := by omega
      have i4 : (k : Int) < (N : Int) := by omega
      have i5 : IntKind.i64.wrap ((k : Int) + 1) = (k : Int) + 1 := IntWalk.i64_in _ (by omega)
      have hat : Hid (∀ V, Below w11.heap.size w11 V → AtO V Ax tx ∧ AtO V Ay ty) := Lib.hid fun V hV => ⟨hatx.below hV, haty.below hV⟩
      clear hx hy hr1 ha1 hr2 ha2 hcx hcy hdx hdy hatx haty hDS1 hDS2 hTS1 hTS2 hcol
      by_cases hxy : dx = dy
      · rw [if_pos hxy] at hstep
        subst hstep
        have hEq2 : ∀ V, (Op.equalIn 10000 23 (.agg (dc dx).toArray) (.agg (dc dy).toArray)).run Tryd.prog V = .ok true V := fun V => by have := hEqs V; rw [decide_eq_true hxy] at this; exact this
        clear hEqs hxy
        go_wp2_with fail
        refine wp_region_held_drew (S := fun w' => w'.rangeAt a1 (q1 + k * 32) (dc dx) ∧ w'.rangeAt a2 (q2 + k * 32) (dc dy)) (by kernel_rfl) (by exact hS.out _ HB) (fun hHeld => ?_)
        refine wpAnyH_take (i := 0) (oi := { dst := some 80, op := Op.move (Operand.tmp 19), type := 31, pos := "ref.go:135", after := #[], guard := none }) (v := ?_) rfl (by kernel_rfl) (by kernel_rfl) (by kernel_rfl) (fun _ _ _ h => h) (Or.inl ⟨by rfl, ?hyaaa0⟩) hHeld ?restaaa0
        case hyaaa0 =>
          intro w hSw
          try dsimp only at hSw
          go_simp
          try with_reducible rfl
        try simp only [Act.put, List.setIfInBounds_toArray, List.set_cons_zero, List.set_cons_succ]
        refine wpAnyH_take (i := 1) (oi := { dst := some 81, op := Op.move (Operand.tmp 23), type := 3, pos := "ref.go:135", after := #[], guard := none }) (v := ?_) rfl (by kernel_rfl) (by kernel_rfl) (by kernel_rfl) (fun _ _ _ h => h) (Or.inl ⟨by rfl, ?hyaaa1⟩) hHeld ?restaaa1
        case hyaaa1 =>
          intro w hSw
          try dsimp only at hSw
          go_simp
          try with_reducible rfl
        try simp only [Act.put, List.setIfInBounds_toArray, List.set_cons_zero, List.set_cons_succ]
        refine wpAnyH_take (i := 2) (oi := { dst := some 82, op := Op.indexAddr 31 (Operand.tmp 80) (Operand.tmp 81), type := 0, pos := "ref.go:135", after := #[{ on := 0, ground := Ground.data }, { on := 1, ground := Ground.data }], guard := none }) (v := ?_) rfl (by kernel_rfl) (by kernel_rfl) (by kernel_rfl) (fun _ _ _ h => h) (Or.inl ⟨by rfl, ?hyaaa2⟩) hHeld ?restaaa2
        case hyaaa2 =>
          intro w hSw
          try dsimp only at hSw
          go_simp
          try with_reducible rfl
        try simp only [Act.put, List.setIfInBounds_toArray, List.set_cons_zero, List.set_cons_succ]
        refine wpAnyH_take (i := 3) (oi := { dst := some 83, op := Op.load 23 (Operand.tmp 82), type := 23, pos := "ref.go:135", after := #[{ on := 2, ground := Ground.data }], guard := none }) (v := _) rfl (by kernel_rfl) (by kernel_rfl) (by kernel_rfl) (fun _ _ _ h => h) (yieldsIf_load_mid (by rfl) 23 (.tmp 82) rfl a1 (q1 + k * 32) rfl (dc dx) _ (fun _ h => h.1) Tryd.underlying23 rfl i1.out) hHeld ?_
        try simp only [Act.put, List.setIfInBounds_toArray, List.set_cons_zero, List.set_cons_succ]
        refine wpAnyH_take (i := 4) (oi := { dst := some 84, op := Op.move (Operand.tmp 21), type := 31, pos := "ref.go:135", after := #[], guard := none }) (v := ?_) rfl (by kernel_rfl) (by kernel_rfl) (by kernel_rfl) (fun _ _ _ h => h) (Or.inl ⟨by rfl, ?hyaaa4⟩) hHeld ?restaaa4
        case hyaaa4 =>
          intro w hSw
          try dsimp only at hSw
          go_simp
          try with_reducible rfl
        try simp only [Act.put, List.setIfInBounds_toArray, List.set_cons_zero, List.set_cons_succ]
        refine wpAnyH_take (i := 5) (oi := { dst := some 85, op := Op.move (Operand.tmp 23), type := 3, pos := "ref.go:135", after := #[], guard := none }) (v := ?_) rfl (by kernel_rfl) (by kernel_rfl) (by kernel_rfl) (fun _ _ _ h => h) (Or.inl ⟨by rfl, ?hyaaa5⟩) hHeld ?restaaa5
        case hyaaa5 =>
          intro w hSw
          try dsimp only at hSw
          go_simp
          try with_reducible rfl
        try simp only [Act.put, List.setIfInBounds_toArray, List.set_cons_zero, List.set_cons_succ]
        refine wpAnyH_take (i := 6) (oi := { dst := some 86, op := Op.indexAddr 31 (Operand.tmp 84) (Operand.tmp 85), type := 0, pos := "ref.go:135", after := #[{ on := 4, ground := Ground.data }, { on := 5, ground := Ground.data }], guard := none }) (v := ?_) rfl (by kernel_rfl) (by kernel_rfl) (by kernel_rfl) (fun _ _ _ h => h) (Or.inl ⟨by rfl, ?hyaaa6⟩) hHeld ?restaaa6
        case hyaaa6 =>
          intro w hSw
          try dsimp only at hSw
          go_simp
          try with_reducible rfl
        try simp only [Act.put, List.setIfInBounds_toArray, List.set_cons_zero, List.set_cons_succ]
        refine wpAnyH_take (i := 7) (oi := { dst := some 87, op := Op.load 23 (Operand.tmp 86), type := 23, pos := "ref.go:135", after := #[{ on := 6, ground := Ground.data }], guard := none }) (v := _) rfl (by kernel_rfl) (by kernel_rfl) (by kernel_rfl) (fun _ _ _ h => h) (yieldsIf_load_mid (by rfl) 23 (.tmp 86) rfl a2 (q2 + k * 32) rfl (dc dy) _ (fun _ h => h.2) Tryd.underlying23 rfl i2.out) hHeld ?_
        try simp only [Act.put, List.setIfInBounds_toArray, List.set_cons_zero, List.set_cons_succ]
        refine wpAnyH_take (i := 8) (oi := { dst := some 88, op := Op.binOp BinOp.eql 23 (Operand.tmp 83) (Operand.tmp 87) 23, type := 4, pos := "ref.go:135", after := #[{ on := 3, ground := Ground.data }, { on := 7, ground := Ground.data }], guard := none }) (v := ?_) rfl (by kernel_rfl) (by kernel_rfl) (by kernel_rfl) (fun _ _ _ h => h) (Or.inl ⟨by rfl, ?hyaaa8⟩) hHeld ?restaaa8
        case hyaaa8 =>
          intro w hSw
          try dsimp only at hSw
          go_simp
          try with_reducible rfl
        try simp only [Act.put, List.setIfInBounds_toArray, List.set_cons_zero, List.set_cons_succ]
        refine wpAnyH_done (by kernel_rfl) ?_ _
        have HB2 := HB.drew
        clear HB
        go_wp2_with fail
        refine wp_region_held_drew (S := fun w' => w'.cell? ⟨b1, t1 + k, none⟩ = some (.slice Ax tx.length cx) ∧ w'.cell? ⟨b2, t2 + k, none⟩ = some (.slice Ay ty.length cy)) (by kernel_rfl) (by exact hST.out _ HB2) (fun hHeld => ?_)
        refine wpAnyH_take (i := 0) (oi := { dst := some 89, op := Op.move (Operand.tmp 20), type := 75, pos := "ref.go:136", after := #[], guard := none }) (v := ?_) rfl (by kernel_rfl) (by kernel_rfl) (by kernel_rfl) (fun _ _ _ h => h) (Or.inl ⟨by rfl, ?hyaaaaa0⟩) hHeld ?restaaaaa0
        case hyaaaaa0 =>
          intro w hSw
          try dsimp only at hSw
          go_simp
          try with_reducible rfl
        try simp only [Act.put, List.setIfInBounds_toArray, List.set_cons_zero, List.set_cons_succ]
        refine wpAnyH_take (i := 1) (oi := { dst := some 90, op := Op.move (Operand.tmp 23), type := 3, pos := "ref.go:136", after := #[], guard := none }) (v := ?_) rfl (by kernel_rfl) (by kernel_rfl) (by kernel_rfl) (fun _ _ _ h => h) (Or.inl ⟨by rfl, ?hyaaaaa1⟩) hHeld ?restaaaaa1
        case hyaaaaa1 =>
          intro w hSw
          try dsimp only at hSw
          go_simp
          try with_reducible rfl
        try simp only [Act.put, List.setIfInBounds_toArray, List.set_cons_zero, List.set_cons_succ]
        refine wpAnyH_take (i := 2) (oi := { dst := some 91, op := Op.indexAddr 75 (Operand.tmp 89) (Operand.tmp 90), type := 0, pos := "ref.go:136", after := #[{ on := 0, ground := Ground.data }, { on := 1, ground := Ground.data }], guard := none }) (v := ?_) rfl (by kernel_rfl) (by kernel_rfl) (by kernel_rfl) (fun _ _ _ h => h) (Or.inl ⟨by rfl, ?hyaaaaa2⟩) hHeld ?restaaaaa2
        case hyaaaaa2 =>
          intro w hSw
          try dsimp only at hSw
          go_simp
          try with_reducible rfl
        try simp only [Act.put, List.setIfInBounds_toArray, List.set_cons_zero, List.set_cons_succ]
        refine wpAnyH_take (i := 3) (oi := { dst := some 92, op := Op.load 48 (Operand.tmp 91), type := 48, pos := "ref.go:136", after := #[{ on := 2, ground := Ground.data }], guard := none }) (v := ?_) rfl (by kernel_rfl) (by kernel_rfl) (by kernel_rfl) (fun _ _ _ h => h) (Or.inl ⟨by rfl, ?hyaaaaa3⟩) hHeld ?restaaaaa3
        case hyaaaaa3 =>
          intro w hSw
          try dsimp only at hSw
          go_simp
          try with_reducible rfl
        try simp only [Act.put, List.setIfInBounds_toArray, List.set_cons_zero, List.set_cons_succ]
        refine wpAnyH_take (i := 4) (oi := { dst := some 93, op := Op.move (Operand.tmp 22), type := 75, pos := "ref.go:136", after := #[{ on := 8, ground := Ground.gcOnly Departure.lateStores }], guard := none }) (v := ?_) rfl (by kernel_rfl) (by kernel_rfl) (by kernel_rfl) (fun _ _ _ h => h) (Or.inl ⟨by rfl, ?hyaaaaa4⟩) hHeld ?restaaaaa4
        case hyaaaaa4 =>
          intro w hSw
          try dsimp only at hSw
          go_simp
          try with_reducible rfl
        try simp only [Act.put, List.setIfInBounds_toArray, List.set_cons_zero, List.set_cons_succ]
        refine wpAnyH_take (i := 5) (oi := { dst := some 94, op := Op.move (Operand.tmp 23), type := 3, pos := "ref.go:136", after := #[{ on := 8, ground := Ground.gcOnly Departure.lateStores }], guard := none }) (v := ?_) rfl (by kernel_rfl) (by kernel_rfl) (by kernel_rfl) (fun _ _ _ h => h) (Or.inl ⟨by rfl, ?hyaaaaa5⟩) hHeld ?restaaaaa5
        case hyaaaaa5 =>
          intro w hSw
          try dsimp only at hSw
          go_simp
          try with_reducible rfl
        try simp only [Act.put, List.setIfInBounds_toArray, List.set_cons_zero, List.set_cons_succ]
        refine wpAnyH_take (i := 6) (oi := { dst := some 95, op := Op.indexAddr 75 (Operand.tmp 93) (Operand.tmp 94), type := 0, pos := "ref.go:136", after := #[{ on := 4, ground := Ground.data }, { on := 5, ground := Ground.data }, { on := 8, ground := Ground.gcOnly Departure.lateStores }], guard := none }) (v := ?_) rfl (by kernel_rfl) (by kernel_rfl) (by kernel_rfl) (fun _ _ _ h => h) (Or.inl ⟨by rfl, ?hyaaaaa6⟩) hHeld ?restaaaaa6
        case hyaaaaa6 =>
          intro w hSw
          try dsimp only at hSw
          go_simp
          try with_reducible rfl
        try simp only [Act.put, List.setIfInBounds_toArray, List.set_cons_zero, List.set_cons_succ]
        refine wpAnyH_take (i := 7) (oi := { dst := some 96, op := Op.load 48 (Operand.tmp 95), type := 48, pos := "ref.go:136", after := #[{ on := 6, ground := Ground.data }, { on := 8, ground := Ground.gcOnly Departure.lateStores }], guard := none }) (v := ?_) rfl (by kernel_rfl) (by kernel_rfl) (by kernel_rfl) (fun _ _ _ h => h) (Or.inl ⟨by rfl, ?hyaaaaa7⟩) hHeld ?restaaaaa7
        case hyaaaaa7 =>
          intro w hSw
          try dsimp only at hSw
          go_simp
          try with_reducible rfl
        try simp only [Act.put, List.setIfInBounds_toArray, List.set_cons_zero, List.set_cons_succ]
        refine wpAnyH_take (i := 8) (oi := { dst := some 12, op := Op.assign (Operand.tmp 92), type := 48, pos := "ref.go:136", after := #[{ on := 3, ground := Ground.data }, { on := 0, ground := Ground.phase }, { on := 1, ground := Ground.phase }, { on := 2, ground := Ground.phase }, { on := 3, ground := Ground.phase }, { on := 4, ground := Ground.textOnly Departure.lateStores }, { on := 5, ground := Ground.textOnly Departure.lateStores }, { on := 6, ground := Ground.textOnly Departure.lateStores }, { on := 7, ground := Ground.textOnly Departure.lateStores }], guard := none }) (v := ?_) rfl (by kernel_rfl) (by kernel_rfl) (by kernel_rfl) (fun _ _ _ h => h) (Or.inl ⟨by rfl, ?hyaaaaa8⟩) hHeld ?restaaaaa8
        case hyaaaaa8 =>
          intro w hSw
          try dsimp only at hSw
          go_simp
          try with_reducible rfl
        try simp only [Act.put, List.setIfInBounds_toArray, List.set_cons_zero, List.set_cons_succ]
        refine wpAnyH_take (i := 9) (oi := { dst := some 13, op := Op.assign (Operand.tmp 96), type := 48, pos := "ref.go:136", after := #[{ on := 7, ground := Ground.data }, { on := 8, ground := Ground.chain }, { on := 0, ground := Ground.phase }, { on := 1, ground := Ground.phase }, { on := 2, ground := Ground.phase }, { on := 3, ground := Ground.phase }, { on := 4, ground := Ground.phase }, { on := 5, ground := Ground.phase }, { on := 6, ground := Ground.phase }, { on := 7, ground := Ground.phase }, { on := 8, ground := Ground.phase }], guard := none }) (v := ?_) rfl (by kernel_rfl) (by kernel_rfl) (by kernel_rfl) (fun _ _ _ h => h) (Or.inl ⟨by rfl, ?hyaaaaa9⟩) hHeld ?restaaaaa9
        case hyaaaaa9 =>
          intro w hSw
          try dsimp only at hSw
          go_simp
          try with_reducible rfl
        try simp only [Act.put, List.setIfInBounds_toArray, List.set_cons_zero, List.set_cons_succ]
        refine wpAnyH_take (i := 10) (oi := { dst := some 14, op := Op.assign (Operand.const (Value.bool true)), type := 4, pos := "ref.go:136", after := #[{ on := 9, ground := Ground.chain }, { on := 0, ground := Ground.phase }, { on := 1, ground := Ground.phase }, { on := 2, ground := Ground.phase }, { on := 3, ground := Ground.phase }, { on := 4, ground := Ground.phase }, { on := 5, ground := Ground.phase }, { on := 6, ground := Ground.phase }, { on := 7, ground := Ground.phase }, { on := 8, ground := Ground.phase }, { on := 9, ground := Ground.phase }], guard := none }) (v := ?_) rfl (by kernel_rfl) (by kernel_rfl) (by kernel_rfl) (fun _ _ _ h => h) (Or.inl ⟨by rfl, ?hyaaaaa10⟩) hHeld ?restaaaaa10
        case hyaaaaa10 =>
          intro w hSw
          try dsimp only at hSw
          go_simp
          try with_reducible rfl
        try simp only [Act.put, List.setIfInBounds_toArray, List.set_cons_zero, List.set_cons_succ]
        refine wpAnyH_done (by kernel_rfl) ?_ _
        go_wp2_with fail
        refine bodyPost_ret (v := .tuple #[.slice Ax tx.length cx, .slice Ay ty.length cy, .bool true]) (by simp [results, Tryd.results46, go_sem]) rfl ⟨Ax, cx, Ay, cy, rfl, (hat.out _ HB2).1, (hat.out _ HB2).2, HB11.out.trans (HB2.mono HB11.out.size)⟩
      · rw [if_neg hxy] at hstep
        have hcol2 := Lib.hid hstep.symm
        have hEq2 : ∀ V, (Op.equalIn 10000 23 (.agg (dc dx).toArray) (.agg (dc dy).toArray)).run Tryd.prog V = .ok false V := fun V => by have := hEqs V; rw [decide_eq_false hxy] at this; exact this
        clear hEqs hxy hstep hST hat
        go_wp2_with fail
        refine wp_region_held_drew (S := fun w' => w'.rangeAt a1 (q1 + k * 32) (dc dx) ∧ w'.rangeAt a2 (q2 + k * 32) (dc dy)) (by kernel_rfl) (by exact hS.out _ HB) (fun hHeld => ?_)
        refine wpAnyH_take (i := 0) (oi := { dst := some 80, op := Op.move (Operand.tmp 19), type := 31, pos := "ref.go:135", after := #[], guard := none }) (v := ?_) rfl (by kernel_rfl) (by kernel_rfl) (by kernel_rfl) (fun _ _ _ h => h) (Or.inl ⟨by rfl, ?hyaaaa0⟩) hHeld ?restaaaa0
        case hyaaaa0 =>
          intro w hSw
          try dsimp only at hSw
          go_simp
          try with_reducible rfl
        try simp only [Act.put, List.setIfInBounds_toArray, List.set_cons_zero, List.set_cons_succ]
        refine wpAnyH_take (i := 1) (oi := { dst := some 81, op := Op.move (Operand.tmp 23), type := 3, pos := "ref.go:135", after := #[], guard := none }) (v := ?_) rfl (by kernel_rfl) (by kernel_rfl) (by kernel_rfl) (fun _ _ _ h => h) (Or.inl ⟨by rfl, ?hyaaaa1⟩) hHeld ?restaaaa1
        case hyaaaa1 =>
          intro w hSw
          try dsimp only at hSw
          go_simp
          try with_reducible rfl
        try simp only [Act.put, List.setIfInBounds_toArray, List.set_cons_zero, List.set_cons_succ]
        refine wpAnyH_take (i := 2) (oi := { dst := some 82, op := Op.indexAddr 31 (Operand.tmp 80) (Operand.tmp 81), type := 0, pos := "ref.go:135", after := #[{ on := 0, ground := Ground.data }, { on := 1, ground := Ground.data }], guard := none }) (v := ?_) rfl (by kernel_rfl) (by kernel_rfl) (by kernel_rfl) (fun _ _ _ h => h) (Or.inl ⟨by rfl, ?hyaaaa2⟩) hHeld ?restaaaa2
        case hyaaaa2 =>
          intro w hSw
          try dsimp only at hSw
          go_simp
          try with_reducible rfl
        try simp only [Act.put, List.setIfInBounds_toArray, List.set_cons_zero, List.set_cons_succ]
        refine wpAnyH_take (i := 3) (oi := { dst := some 83, op := Op.load 23 (Operand.tmp 82), type := 23, pos := "ref.go:135", after := #[{ on := 2, ground := Ground.data }], guard := none }) (v := _) rfl (by kernel_rfl) (by kernel_rfl) (by kernel_rfl) (fun _ _ _ h => h) (yieldsIf_load_mid (by rfl) 23 (.tmp 82) rfl a1 (q1 + k * 32) rfl (dc dx) _ (fun _ h => h.1) Tryd.underlying23 rfl i1.out) hHeld ?_
        try simp only [Act.put, List.setIfInBounds_toArray, List.set_cons_zero, List.set_cons_succ]
        refine wpAnyH_take (i := 4) (oi := { dst := some 84, op := Op.move (Operand.tmp 21), type := 31, pos := "ref.go:135", after := #[], guard := none }) (v := ?_) rfl (by kernel_rfl) (by kernel_rfl) (by kernel_rfl) (fun _ _ _ h => h) (Or.inl ⟨by rfl, ?hyaaaa4⟩) hHeld ?restaaaa4
        case hyaaaa4 =>
          intro w hSw
          try dsimp only at hSw
          go_simp
          try with_reducible rfl
        try simp only [Act.put, List.setIfInBounds_toArray, List.set_cons_zero, List.set_cons_succ]
        refine wpAnyH_take (i := 5) (oi := { dst := some 85, op := Op.move (Operand.tmp 23), type := 3, pos := "ref.go:135", after := #[], guard := none }) (v := ?_) rfl (by kernel_rfl) (by kernel_rfl) (by kernel_rfl) (fun _ _ _ h => h) (Or.inl ⟨by rfl, ?hyaaaa5⟩) hHeld ?restaaaa5
        case hyaaaa5 =>
          intro w hSw
          try dsimp only at hSw
          go_simp
          try with_reducible rfl
        try simp only [Act.put, List.setIfInBounds_toArray, List.set_cons_zero, List.set_cons_succ]
        refine wpAnyH_take (i := 6) (oi := { dst := some 86, op := Op.indexAddr 31 (Operand.tmp 84) (Operand.tmp 85), type := 0, pos := "ref.go:135", after := #[{ on := 4, ground := Ground.data }, { on := 5, ground := Ground.data }], guard := none }) (v := ?_) rfl (by kernel_rfl) (by kernel_rfl) (by kernel_rfl) (fun _ _ _ h => h) (Or.inl ⟨by rfl, ?hyaaaa6⟩) hHeld ?restaaaa6
        case hyaaaa6 =>
          intro w hSw
          try dsimp only at hSw
          go_simp
          try with_reducible rfl
        try simp only [Act.put, List.setIfInBounds_toArray, List.set_cons_zero, List.set_cons_succ]
        refine wpAnyH_take (i := 7) (oi := { dst := some 87, op := Op.load 23 (Operand.tmp 86), type := 23, pos := "ref.go:135", after := #[{ on := 6, ground := Ground.data }], guard := none }) (v := _) rfl (by kernel_rfl) (by kernel_rfl) (by kernel_rfl) (fun _ _ _ h => h) (yieldsIf_load_mid (by rfl) 23 (.tmp 86) rfl a2 (q2 + k * 32) rfl (dc dy) _ (fun _ h => h.2) Tryd.underlying23 rfl i2.out) hHeld ?_
        try simp only [Act.put, List.setIfInBounds_toArray, List.set_cons_zero, List.set_cons_succ]
        refine wpAnyH_take (i := 8) (oi := { dst := some 88, op := Op.binOp BinOp.eql 23 (Operand.tmp 83) (Operand.tmp 87) 23, type := 4, pos := "ref.go:135", after := #[{ on := 3, ground := Ground.data }, { on := 7, ground := Ground.data }], guard := none }) (v := ?_) rfl (by kernel_rfl) (by kernel_rfl) (by kernel_rfl) (fun _ _ _ h => h) (Or.inl ⟨by rfl, ?hyaaaa8⟩) hHeld ?restaaaa8
        case hyaaaa8 =>
          intro w hSw
          try dsimp only at hSw
          go_simp
          try with_reducible rfl
        try simp only [Act.put, List.setIfInBounds_toArray, List.set_cons_zero, List.set_cons_succ]
        refine wpAnyH_done (by kernel_rfl) ?_ _
        go_wp2_with fail
        go_roundw
        case rel => exact ⟨k + 1, by go_num, by omega, hcol2, Lib.hid HB⟩
        case measure => simp [intOf]; omega
    · have hRn : R = none := by rw [← hcol.out, collL_end (by rw [hN1.out]; omega)]
      subst hRn
      have dl : decide ((k : Int) < (N : Int)) = false := decide_eq_false (by omega)
      clear hcol
      go_wp2_with fail
      refine bodyPost_ret (v := .tuple #[.slice none 0 0, .slice none 0 0, .bool false]) (by simp [results, Tryd.results46, go_sem]) rfl ⟨none, 0, none, 0, rfl, ato_nil _, ato_nil _, HB11.out.trans (hBr.out.mono HB11.out.size)⟩
theorem rcoll_any (n i : Int) (la lb : List UInt8) (ma mb : Nat) (hma : la.length = ma) (hmb : lb.length = mb) (hmas : ma ≤ 1000000) (hmbs : mb ≤ 1000000) (A B : Option Addr) (ca cb : Nat) (pa pb : List (List UInt8)) (ka kb : Nat) (hka : pa.length = ka) (hkb : pb.length = kb) (hkas : ka ≤ 65536) (hkbs : kb ≤ 65536) (P Q : Option Addr) (cp cq : Nat) (hcp : ka ≤ cp) (hcq : kb ≤ cq) (w : World) (hA : AtO w A la) (hB : AtO w B lb) (hP : DsAt w P pa) (hQ : DsAt w Q pb) (pa32 : ∀ d ∈ pa, d.length = 32) (pb32 : ∀ d ∈ pb, d.length = 32) (hL : Laid w) : Calls Tryd.prog 46 #[.int .i64 n, .int .i64 i, .slice A ma ca, .slice B mb cb, .slice P ka cp, .slice Q kb cq] w (CoC (colV n i la lb pa pb) w) := by
  by_cases h1 : (clV n i la pa).2 = 0
  · by_cases h2 : (clV n i lb pb).2 = 0
    · by_cases h3 : (clV n i la pa).1 = (clV n i lb pb).1
      · by_cases h4 : la = lb
        · exact rcoll_e4 n i la lb ma mb hma hmb hmas hmbs A B ca cb pa pb ka kb hka hkb hkas hkbs P Q cp cq hcp hcq w hA hB hP hQ pa32 pb32 hL h1 h2 h3 h4
        · obtain ⟨n', i', rfl, rfl, hi, hn, r1, k1, e1⟩ := clV_ok h1
          obtain ⟨n2, i2, e5, e6, _, _, r2, k2, e2⟩ := clV_ok h2
          obtain rfl : n' = n2 := Int.ofNat.inj e5
          obtain rfl : i' = i2 := Int.ofNat.inj e6
          rw [colV_in hn hi k1 k2 (by rw [← e1, ← e2, h3]) h4]
          exact rcoll_main n' i' hn hi la lb ma mb hma hmb hmas hmbs A B ca cb pa pb ka kb hka hkb hkas hkbs P Q cp cq hcp hcq w hA hB hP hQ pa32 pb32 hL h1 h2 h3 h4 r1 r2 k1 k2
      · exact rcoll_e3 n i la lb ma mb hma hmb hmas hmbs A B ca cb pa pb ka kb hka hkb hkas hkbs P Q cp cq hcp hcq w hA hB hP hQ pa32 pb32 hL h1 h2 h3
    · exact rcoll_e2 n i la lb ma mb hma hmb hmas hmbs A B ca cb pa pb ka kb hka hkb hkas hkbs P Q cp cq hcp hcq w hA hB hP hQ pa32 pb32 hL h1 h2
  · exact rcoll_e1 n i la lb ma mb hma hmb hmas hmbs A B ca cb pa pb ka kb hka hkb hkas hkbs P Q cp cq hcp hcq w hA hB hP hQ pa32 pb32 hL h1
end Go.Proofs.YtnccbhndlnkboaaDoor
/- The walk of the reference's Clash. -/
namespace Go.Proofs.YtnccbhndlnkboaaDoor
open Go.RowKit Go.Shelf Cdc Sha
set_option linter.unusedVariables false
set_option linter.unusedSimpArgs false

set_option maxRecDepth 100000 in
set_option maxHeartbeats 8000000 in
theorem rclash_go (w : World) (S : List Value) (t f m ad as_ bs_ : Int) (ab bb : Bool) (P Q : Option Addr) (ka kb cp cq : Nat) (la lb : List UInt8) (na nb : Nat) (hna : Hid (la.length = na)) (hnb : Hid (lb.length = nb)) (R : List UInt8 × List UInt8 × Bool) (hA : Hid (∀ V, Below w.heap.size w V → Calls Tryd.prog 24 #[.agg S.toArray, .agg #[.int .i64 ad, .int .i64 as_, .bool ab, .slice P ka cp]] V fun e w' => e = .returned (.bool true) ∧ Below V.heap.size V w')) (hB : Hid (∀ V, Below w.heap.size w V → Calls Tryd.prog 24 #[.agg S.toArray, .agg #[.int .i64 ad, .int .i64 bs_, .bool bb, .slice Q kb cq]] V fun e w' => e = .returned (.bool true) ∧ Below V.heap.size V w')) (hS0 : S[0]? = some (.int .i64 t)) (hS1 : S[1]? = some (.int .i64 f)) (hS2 : S[2]? = some (.int .i64 m)) (pil : Hid ((Tryd.prog.info? 25).map (·.size) = some S.length)) (hCa : Hid (∀ V, Calls Tryd.prog 47 #[.int .i64 t, .int .i64 ad, .bool ab, .int .i64 as_] V (JoinC la V))) (hCb : Hid (∀ V, Calls Tryd.prog 47 #[.int .i64 t, .int .i64 ad, .bool bb, .int .i64 bs_] V (JoinC lb V))) (hCo : Hid (∀ V A cA B cB, Below w.heap.size w V → AtO V A la → AtO V B lb → Calls Tryd.prog 46 #[.int .i64 m, .int .i64 (ad - f), .slice A na cA, .slice B nb cB, .slice P ka cp, .slice Q kb cq] V (CoC R V))) (hwr : IntKind.i64.wrap (ad - f) = ad - f) (hc : (ab == bb && decide (as_ = bs_)) = false) :
    Calls Tryd.prog 22 #[.agg S.toArray, .agg #[.int .i64 ad, .int .i64 as_, .bool ab, .slice P ka cp], .agg #[.int .i64 ad, .int .i64 bs_, .bool bb, .slice Q kb cq]] w (CoC (R) w) := by
  have hc3 := clash_three hc
  clear hc
  obtain ⟨W3, hW3⟩ : ∃ W3, W3 = (((w.alloc (.cells S.toArray 25)).alloc (.cells #[.int .i64 ad, .int .i64 as_, .bool ab, .slice P ka cp] 33)).alloc (.cells #[.int .i64 ad, .int .i64 bs_, .bool bb, .slice Q kb cq] 33)) := ⟨_, rfl⟩
  have hB1 : Below w.heap.size w (((w.alloc (.cells S.toArray 25)).alloc (.cells #[.int .i64 ad, .int .i64 as_, .bool ab, .slice P ka cp] 33)).alloc (.cells #[.int .i64 ad, .int .i64 bs_, .bool bb, .slice Q kb cq] 33)) := (((Below.refl _ _).alloc (Nat.le_refl _) _).alloc (by simp) _).alloc (by simp; omega) _
  have hcells : Hid (∀ V, Below W3.heap.size W3 V → (V.rangeAt w.heap.size 0 S) ∧ (V.cell? ⟨w.heap.size + 1, 0, none⟩ = some (.int .i64 ad) ∧ V.cell? ⟨w.heap.size + 1, 1, none⟩ = some (.int .i64 as_) ∧ V.cell? ⟨w.heap.size + 1, 2, none⟩ = some (.bool ab) ∧ V.cell? ⟨w.heap.size + 1, 3, none⟩ = some (.slice P ka cp)) ∧ (V.cell? ⟨w.heap.size + 1 + 1, 0, none⟩ = some (.int .i64 ad) ∧ V.cell? ⟨w.heap.size + 1 + 1, 1, none⟩ = some (.int .i64 bs_) ∧ V.cell? ⟨w.heap.size + 1 + 1, 2, none⟩ = some (.bool bb) ∧ V.cell? ⟨w.heap.size + 1 + 1, 3, none⟩ = some (.slice Q kb cq)) ∧ (V.cell? ⟨w.heap.size, 0, none⟩ = some (.int .i64 t) ∧ V.cell? ⟨w.heap.size, 1, none⟩ = some (.int .i64 f) ∧ V.cell? ⟨w.heap.size, 2, none⟩ = some (.int .i64 m)) ∧ V.rangeAt (w.heap.size + 1) 0 [.int .i64 ad, .int .i64 as_, .bool ab, .slice P ka cp] ∧ V.rangeAt (w.heap.size + 1 + 1) 0 [.int .i64 ad, .int .i64 bs_, .bool bb, .slice Q kb cq]) := Lib.hid fun V hV => by
    subst hW3
    exact clash_cells w S t f m ad as_ ad bs_ ab bb P Q ka kb cp cq hS0 hS1 hS2 V hV
  have hl0 := (hcells.out _ (Below.refl _ _)).1
  rw [← hW3] at hB1
  replace hl0 := Lib.hid hl0
  clear hS0 hS1 hS2
  have hmf : ∀ (fn : Fn) (first cap : Array Value) (w : World), (Instr.makeFunc fn first cap).run Tryd.prog w = .ok (.func fn first cap) w := fun _ _ _ _ => rfl
  rcases hc3 with ⟨rfl, d4⟩ | ⟨rfl, rfl⟩ | ⟨rfl, rfl⟩
  · rw [hW3] at hl0
    go_enter Tryd.func22, Tryd.ntmps22
    go_wp2_with (refine wpList_load_midG (by rfl) 25 (.tmp 3) (by rfl) w.heap.size 0 (by rfl) S _ hl0.out Tryd.underlying25 (by rfl) pil.out ?_)
    rw [← hW3]
    refine (hA.out _ hB1).mono ?_
    rintro e w4 ⟨rfl, hb4⟩
    obtain ⟨hl4, ⟨y0, y1, y2, y3⟩, ⟨z0, z1, z2, z3⟩, -, -, -⟩ := hcells.out w4 hb4
    replace hl4 := Lib.hid hl4
    have hB4 := hB1.trans (hb4.mono hB1.size)
    go_wp2_with (refine wpList_load_midG (by rfl) 25 (.tmp 3) (by rfl) w.heap.size 0 (by rfl) S _ hl4.out Tryd.underlying25 (by rfl) pil.out ?_)
    refine (hB.out _ hB4).mono ?_
    rintro e w5 ⟨rfl, hb5⟩
    clear hl4 y0 y1 y2 y3 z0 z1 z2 z3
    obtain ⟨-, ⟨y0, y1, y2, y3⟩, ⟨z0, z1, z2, z3⟩, ⟨x0, x1, x2⟩, -, -⟩ := hcells.out w5 (hb4.trans (hb5.mono hb4.size))
    have hB5 := hB4.trans (hb5.mono hB4.size)
    go_wp2_with fail
    have hw6 := Lib.hid hB5
    have hb36 := hb4.trans (hb5.mono hb4.size)
    have hSp : Hid (∀ V, Below w5.heap.size w5 V → V.cell? ⟨w.heap.size, 0, none⟩ = some (.int .i64 t) ∧ V.cell? ⟨w.heap.size, 1, none⟩ = some (.int .i64 f) ∧ V.cell? ⟨w.heap.size, 2, none⟩ = some (.int .i64 m) ∧ V.cell? ⟨w.heap.size + 1, 0, none⟩ = some (.int .i64 ad) ∧ V.cell? ⟨w.heap.size + 1, 1, none⟩ = some (.int .i64 as_) ∧ V.cell? ⟨w.heap.size + 1, 2, none⟩ = some (.bool ab) ∧ V.cell? ⟨w.heap.size + 1, 3, none⟩ = some (.slice P ka cp) ∧ V.cell? ⟨w.heap.size + 1 + 1, 0, none⟩ = some (.int .i64 ad) ∧ V.cell? ⟨w.heap.size + 1 + 1, 1, none⟩ = some (.int .i64 bs_) ∧ V.cell? ⟨w.heap.size + 1 + 1, 2, none⟩ = some (.bool ab) ∧ V.cell? ⟨w.heap.size + 1 + 1, 3, none⟩ = some (.slice Q kb cq)) := Lib.hid fun V hV => by
      have h := hcells.out V (hb36.trans (hV.mono hb36.size))
      exact ⟨h.2.2.2.1.1, h.2.2.2.1.2.1, h.2.2.2.1.2.2, h.2.1.1, h.2.1.2.1, h.2.1.2.2.1, h.2.1.2.2.2, h.2.2.1.1, h.2.2.1.2.1, h.2.2.1.2.2.1, h.2.2.1.2.2.2⟩
    have HB : Below w5.heap.size w5 w5.drew := (Below.refl _ _).drew
    clear hb4 hb5 hb36 hB4 hB5 hB1 hl0 y0 y1 y2 y3 z0 z1 z2 z3 x0 x1 x2 hA hB hcells pil hmf
    refine wp_region_held_drew (S := fun w' => w'.cell? ⟨w.heap.size, 0, none⟩ = some (.int .i64 t) ∧ w'.cell? ⟨w.heap.size, 1, none⟩ = some (.int .i64 f) ∧ w'.cell? ⟨w.heap.size, 2, none⟩ = some (.int .i64 m) ∧ w'.cell? ⟨w.heap.size + 1, 0, none⟩ = some (.int .i64 ad) ∧ w'.cell? ⟨w.heap.size + 1, 1, none⟩ = some (.int .i64 as_) ∧ w'.cell? ⟨w.heap.size + 1, 2, none⟩ = some (.bool ab) ∧ w'.cell? ⟨w.heap.size + 1, 3, none⟩ = some (.slice P ka cp) ∧ w'.cell? ⟨w.heap.size + 1 + 1, 0, none⟩ = some (.int .i64 ad) ∧ w'.cell? ⟨w.heap.size + 1 + 1, 1, none⟩ = some (.int .i64 bs_) ∧ w'.cell? ⟨w.heap.size + 1 + 1, 2, none⟩ = some (.bool ab) ∧ w'.cell? ⟨w.heap.size + 1 + 1, 3, none⟩ = some (.slice Q kb cq)) (by kernel_rfl) (by exact hSp.out _ HB) (fun hHeld => ?_)
    refine wpAnyH_take (i := 0) (oi := { dst := some 44, op := Op.fieldAddr 25 (Operand.tmp 3) 2, type := 0, pos := "ref.go:92", after := #[], guard := none }) (v := ?_) rfl (by kernel_rfl) (by kernel_rfl) (by kernel_rfl) (fun _ _ _ h => h) (Or.inl ⟨by rfl, ?hyaaa0⟩) hHeld ?restaaa0
    case hyaaa0 =>
      intro w hSw
      try dsimp only at hSw
      go_simp
      try with_reducible rfl
    try simp only [Act.put, List.setIfInBounds_toArray, List.set_cons_zero, List.set_cons_succ]
    refine wpAnyH_take (i := 1) (oi := { dst := some 45, op := Op.load 3 (Operand.tmp 44), type := 3, pos := "ref.go:92", after := #[{ on := 0, ground := Ground.data }], guard := none }) (v := ?_) rfl (by kernel_rfl) (by kernel_rfl) (by kernel_rfl) (fun _ _ _ h => h) (Or.inl ⟨by rfl, ?hyaaa1⟩) hHeld ?restaaa1
    case hyaaa1 =>
      intro w hSw
      try dsimp only at hSw
      go_simp
      try with_reducible rfl
    try simp only [Act.put, List.setIfInBounds_toArray, List.set_cons_zero, List.set_cons_succ]
    refine wpAnyH_take (i := 2) (oi := { dst := some 46, op := Op.fieldAddr 33 (Operand.tmp 4) 0, type := 0, pos := "ref.go:92", after := #[], guard := none }) (v := ?_) rfl (by kernel_rfl) (by kernel_rfl) (by kernel_rfl) (fun _ _ _ h => h) (Or.inl ⟨by rfl, ?hyaaa2⟩) hHeld ?restaaa2
    case hyaaa2 =>
      intro w hSw
      try dsimp only at hSw
      go_simp
      try with_reducible rfl
    try simp only [Act.put, List.setIfInBounds_toArray, List.set_cons_zero, List.set_cons_succ]
    refine wpAnyH_take (i := 3) (oi := { dst := some 47, op := Op.load 3 (Operand.tmp 46), type := 3, pos := "ref.go:92", after := #[{ on := 2, ground := Ground.data }], guard := none }) (v := ?_) rfl (by kernel_rfl) (by kernel_rfl) (by kernel_rfl) (fun _ _ _ h => h) (Or.inl ⟨by rfl, ?hyaaa3⟩) hHeld ?restaaa3
    case hyaaa3 =>
      intro w hSw
      try dsimp only at hSw
      go_simp
      try with_reducible rfl
    try simp only [Act.put, List.setIfInBounds_toArray, List.set_cons_zero, List.set_cons_succ]
    refine wpAnyH_take (i := 4) (oi := { dst := some 48, op := Op.fieldAddr 25 (Operand.tmp 3) 1, type := 0, pos := "ref.go:92", after := #[], guard := none }) (v := ?_) rfl (by kernel_rfl) (by kernel_rfl) (by kernel_rfl) (fun _ _ _ h => h) (Or.inl ⟨by rfl, ?hyaaa4⟩) hHeld ?restaaa4
    case hyaaa4 =>
      intro w hSw
      try dsimp only at hSw
      go_simp
      try with_reducible rfl
    try simp only [Act.put, List.setIfInBounds_toArray, List.set_cons_zero, List.set_cons_succ]
    refine wpAnyH_take (i := 5) (oi := { dst := some 49, op := Op.load 3 (Operand.tmp 48), type := 3, pos := "ref.go:92", after := #[{ on := 4, ground := Ground.data }], guard := none }) (v := ?_) rfl (by kernel_rfl) (by kernel_rfl) (by kernel_rfl) (fun _ _ _ h => h) (Or.inl ⟨by rfl, ?hyaaa5⟩) hHeld ?restaaa5
    case hyaaa5 =>
      intro w hSw
      try dsimp only at hSw
      go_simp
      try with_reducible rfl
    try simp only [Act.put, List.setIfInBounds_toArray, List.set_cons_zero, List.set_cons_succ]
    refine wpAnyH_take (i := 6) (oi := { dst := some 50, op := Op.binOp BinOp.sub 3 (Operand.tmp 47) (Operand.tmp 49) 3, type := 3, pos := "ref.go:92", after := #[{ on := 3, ground := Ground.data }, { on := 5, ground := Ground.data }], guard := none }) (v := ?_) rfl (by kernel_rfl) (by kernel_rfl) (by kernel_rfl) (fun _ _ _ h => h) (Or.inl ⟨by rfl, ?hyaaa6⟩) hHeld ?restaaa6
    case hyaaa6 =>
      intro w hSw
      try dsimp only at hSw
      go_simp
      try with_reducible rfl
    try simp only [Act.put, List.setIfInBounds_toArray, List.set_cons_zero, List.set_cons_succ]
    refine wpAnyH_take (i := 7) (oi := { dst := some 51, op := Op.fieldAddr 25 (Operand.tmp 3) 0, type := 0, pos := "ref.go:92", after := #[], guard := none }) (v := ?_) rfl (by kernel_rfl) (by kernel_rfl) (by kernel_rfl) (fun _ _ _ h => h) (Or.inl ⟨by rfl, ?hyaaa7⟩) hHeld ?restaaa7
    case hyaaa7 =>
      intro w hSw
      try dsimp only at hSw
      go_simp
      try with_reducible rfl
    try simp only [Act.put, List.setIfInBounds_toArray, List.set_cons_zero, List.set_cons_succ]
    refine wpAnyH_take (i := 8) (oi := { dst := some 52, op := Op.load 3 (Operand.tmp 51), type := 3, pos := "ref.go:92", after := #[{ on := 7, ground := Ground.data }], guard := none }) (v := ?_) rfl (by kernel_rfl) (by kernel_rfl) (by kernel_rfl) (fun _ _ _ h => h) (Or.inl ⟨by rfl, ?hyaaa8⟩) hHeld ?restaaa8
    case hyaaa8 =>
      intro w hSw
      try dsimp only at hSw
      go_simp
      try with_reducible rfl
    try simp only [Act.put, List.setIfInBounds_toArray, List.set_cons_zero, List.set_cons_succ]
    refine wpAnyH_take (i := 9) (oi := { dst := some 53, op := Op.fieldAddr 33 (Operand.tmp 4) 0, type := 0, pos := "ref.go:92", after := #[], guard := none }) (v := ?_) rfl (by kernel_rfl) (by kernel_rfl) (by kernel_rfl) (fun _ _ _ h => h) (Or.inl ⟨by rfl, ?hyaaa9⟩) hHeld ?restaaa9
    case hyaaa9 =>
      intro w hSw
      try dsimp only at hSw
      go_simp
      try with_reducible rfl
    try simp only [Act.put, List.setIfInBounds_toArray, List.set_cons_zero, List.set_cons_succ]
    refine wpAnyH_take (i := 10) (oi := { dst := some 54, op := Op.load 3 (Operand.tmp 53), type := 3, pos := "ref.go:92", after := #[{ on := 9, ground := Ground.data }], guard := none }) (v := ?_) rfl (by kernel_rfl) (by kernel_rfl) (by kernel_rfl) (fun _ _ _ h => h) (Or.inl ⟨by rfl, ?hyaaa10⟩) hHeld ?restaaa10
    case hyaaa10 =>
      intro w hSw
      try dsimp only at hSw
      go_simp
      try with_reducible rfl
    try simp only [Act.put, List.setIfInBounds_toArray, List.set_cons_zero, List.set_cons_succ]
    refine wpAnyH_take (i := 11) (oi := { dst := some 55, op := Op.fieldAddr 33 (Operand.tmp 4) 2, type := 0, pos := "ref.go:92", after := #[], guard := none }) (v := ?_) rfl (by kernel_rfl) (by kernel_rfl) (by kernel_rfl) (fun _ _ _ h => h) (Or.inl ⟨by rfl, ?hyaaa11⟩) hHeld ?restaaa11
    case hyaaa11 =>
      intro w hSw
      try dsimp only at hSw
      go_simp
      try with_reducible rfl
    try simp only [Act.put, List.setIfInBounds_toArray, List.set_cons_zero, List.set_cons_succ]
    refine wpAnyH_take (i := 12) (oi := { dst := some 56, op := Op.load 4 (Operand.tmp 55), type := 4, pos := "ref.go:92", after := #[{ on := 11, ground := Ground.data }], guard := none }) (v := ?_) rfl (by kernel_rfl) (by kernel_rfl) (by kernel_rfl) (fun _ _ _ h => h) (Or.inl ⟨by rfl, ?hyaaa12⟩) hHeld ?restaaa12
    case hyaaa12 =>
      intro w hSw
      try dsimp only at hSw
      go_simp
      try with_reducible rfl
    try simp only [Act.put, List.setIfInBounds_toArray, List.set_cons_zero, List.set_cons_succ]
    refine wpAnyH_take (i := 13) (oi := { dst := some 57, op := Op.fieldAddr 33 (Operand.tmp 4) 1, type := 0, pos := "ref.go:92", after := #[], guard := none }) (v := ?_) rfl (by kernel_rfl) (by kernel_rfl) (by kernel_rfl) (fun _ _ _ h => h) (Or.inl ⟨by rfl, ?hyaaa13⟩) hHeld ?restaaa13
    case hyaaa13 =>
      intro w hSw
      try dsimp only at hSw
      go_simp
      try with_reducible rfl
    try simp only [Act.put, List.setIfInBounds_toArray, List.set_cons_zero, List.set_cons_succ]
    refine wpAnyH_take (i := 14) (oi := { dst := some 58, op := Op.load 3 (Operand.tmp 57), type := 3, pos := "ref.go:92", after := #[{ on := 13, ground := Ground.data }], guard := none }) (v := ?_) rfl (by kernel_rfl) (by kernel_rfl) (by kernel_rfl) (fun _ _ _ h => h) (Or.inl ⟨by rfl, ?hyaaa14⟩) hHeld ?restaaa14
    case hyaaa14 =>
      intro w hSw
      try dsimp only at hSw
      go_simp
      try with_reducible rfl
    try simp only [Act.put, List.setIfInBounds_toArray, List.set_cons_zero, List.set_cons_succ]
    refine wpAnyH_take (i := 16) (oi := { dst := some 60, op := Op.fieldAddr 25 (Operand.tmp 3) 0, type := 0, pos := "ref.go:92", after := #[], guard := none }) (v := ?_) rfl (by kernel_rfl) (by kernel_rfl) (by kernel_rfl) (fun _ _ _ h => h) (Or.inl ⟨by rfl, ?hyaaa16⟩) hHeld ?restaaa16
    case hyaaa16 =>
      intro w hSw
      try dsimp only at hSw
      go_simp
      try with_reducible rfl
    try simp only [Act.put, List.setIfInBounds_toArray, List.set_cons_zero, List.set_cons_succ]
    refine wpAnyH_take (i := 17) (oi := { dst := some 61, op := Op.load 3 (Operand.tmp 60), type := 3, pos := "ref.go:92", after := #[{ on := 16, ground := Ground.data }], guard := none }) (v := ?_) rfl (by kernel_rfl) (by kernel_rfl) (by kernel_rfl) (fun _ _ _ h => h) (Or.inl ⟨by rfl, ?hyaaa17⟩) hHeld ?restaaa17
    case hyaaa17 =>
      intro w hSw
      try dsimp only at hSw
      go_simp
      try with_reducible rfl
    try simp only [Act.put, List.setIfInBounds_toArray, List.set_cons_zero, List.set_cons_succ]
    refine wpAnyH_take (i := 18) (oi := { dst := some 62, op := Op.fieldAddr 33 (Operand.tmp 5) 0, type := 0, pos := "ref.go:92", after := #[], guard := none }) (v := ?_) rfl (by kernel_rfl) (by kernel_rfl) (by kernel_rfl) (fun _ _ _ h => h) (Or.inl ⟨by rfl, ?hyaaa18⟩) hHeld ?restaaa18
    case hyaaa18 =>
      intro w hSw
      try dsimp only at hSw
      go_simp
      try with_reducible rfl
    try simp only [Act.put, List.setIfInBounds_toArray, List.set_cons_zero, List.set_cons_succ]
    refine wpAnyH_take (i := 19) (oi := { dst := some 63, op := Op.load 3 (Operand.tmp 62), type := 3, pos := "ref.go:92", after := #[{ on := 18, ground := Ground.data }], guard := none }) (v := ?_) rfl (by kernel_rfl) (by kernel_rfl) (by kernel_rfl) (fun _ _ _ h => h) (Or.inl ⟨by rfl, ?hyaaa19⟩) hHeld ?restaaa19
    case hyaaa19 =>
      intro w hSw
      try dsimp only at hSw
      go_simp
      try with_reducible rfl
    try simp only [Act.put, List.setIfInBounds_toArray, List.set_cons_zero, List.set_cons_succ]
    refine wpAnyH_take (i := 20) (oi := { dst := some 64, op := Op.fieldAddr 33 (Operand.tmp 5) 2, type := 0, pos := "ref.go:92", after := #[], guard := none }) (v := ?_) rfl (by kernel_rfl) (by kernel_rfl) (by kernel_rfl) (fun _ _ _ h => h) (Or.inl ⟨by rfl, ?hyaaa20⟩) hHeld ?restaaa20
    case hyaaa20 =>
      intro w hSw
      try dsimp only at hSw
      go_simp
      try with_reducible rfl
    try simp only [Act.put, List.setIfInBounds_toArray, List.set_cons_zero, List.set_cons_succ]
    refine wpAnyH_take (i := 21) (oi := { dst := some 65, op := Op.load 4 (Operand.tmp 64), type := 4, pos := "ref.go:92", after := #[{ on := 20, ground := Ground.data }], guard := none }) (v := ?_) rfl (by kernel_rfl) (by kernel_rfl) (by kernel_rfl) (fun _ _ _ h => h) (Or.inl ⟨by rfl, ?hyaaa21⟩) hHeld ?restaaa21
    case hyaaa21 =>
      intro w hSw
      try dsimp only at hSw
      go_simp
      try with_reducible rfl
    try simp only [Act.put, List.setIfInBounds_toArray, List.set_cons_zero, List.set_cons_succ]
    refine wpAnyH_take (i := 22) (oi := { dst := some 66, op := Op.fieldAddr 33 (Operand.tmp 5) 1, type := 0, pos := "ref.go:92", after := #[], guard := none }) (v := ?_) rfl (by kernel_rfl) (by kernel_rfl) (by kernel_rfl) (fun _ _ _ h => h) (Or.inl ⟨by rfl, ?hyaaa22⟩) hHeld ?restaaa22
    case hyaaa22 =>
      intro w hSw
      try dsimp only at hSw
      go_simp
      try with_reducible rfl
    try simp only [Act.put, List.setIfInBounds_toArray, List.set_cons_zero, List.set_cons_succ]
    refine wpAnyH_take (i := 23) (oi := { dst := some 67, op := Op.load 3 (Operand.tmp 66), type := 3, pos := "ref.go:92", after := #[{ on := 22, ground := Ground.data }], guard := none }) (v := ?_) rfl (by kernel_rfl) (by kernel_rfl) (by kernel_rfl) (fun _ _ _ h => h) (Or.inl ⟨by rfl, ?hyaaa23⟩) hHeld ?restaaa23
    case hyaaa23 =>
      intro w hSw
      try dsimp only at hSw
      go_simp
      try with_reducible rfl
    try simp only [Act.put, List.setIfInBounds_toArray, List.set_cons_zero, List.set_cons_succ]
    refine wpAnyH_take (i := 25) (oi := { dst := some 69, op := Op.fieldAddr 33 (Operand.tmp 4) 3, type := 0, pos := "ref.go:92", after := #[], guard := none }) (v := ?_) rfl (by kernel_rfl) (by kernel_rfl) (by kernel_rfl) (fun _ _ _ h => h) (Or.inl ⟨by rfl, ?hyaaa25⟩) hHeld ?restaaa25
    case hyaaa25 =>
      intro w hSw
      try dsimp only at hSw
      go_simp
      try with_reducible rfl
    try simp only [Act.put, List.setIfInBounds_toArray, List.set_cons_zero, List.set_cons_succ]
    refine wpAnyH_take (i := 26) (oi := { dst := some 70, op := Op.load 31 (Operand.tmp 69), type := 31, pos := "ref.go:92", after := #[{ on := 25, ground := Ground.data }], guard := none }) (v := ?_) rfl (by kernel_rfl) (by kernel_rfl) (by kernel_rfl) (fun _ _ _ h => h) (Or.inl ⟨by rfl, ?hyaaa26⟩) hHeld ?restaaa26
    case hyaaa26 =>
      intro w hSw
      try dsimp only at hSw
      go_simp
      try with_reducible rfl
    try simp only [Act.put, List.setIfInBounds_toArray, List.set_cons_zero, List.set_cons_succ]
    refine wpAnyH_take (i := 27) (oi := { dst := some 71, op := Op.fieldAddr 33 (Operand.tmp 5) 3, type := 0, pos := "ref.go:92", after := #[], guard := none }) (v := ?_) rfl (by kernel_rfl) (by kernel_rfl) (by kernel_rfl) (fun _ _ _ h => h) (Or.inl ⟨by rfl, ?hyaaa27⟩) hHeld ?restaaa27
    case hyaaa27 =>
      intro w hSw
      try dsimp only at hSw
      go_simp
      try with_reducible rfl
    try simp only [Act.put, List.setIfInBounds_toArray, List.set_cons_zero, List.set_cons_succ]
    refine wpAnyH_take (i := 28) (oi := { dst := some 72, op := Op.load 31 (Operand.tmp 71), type := 31, pos := "ref.go:92", after := #[{ on := 27, ground := Ground.data }], guard := none }) (v := ?_) rfl (by kernel_rfl) (by kernel_rfl) (by kernel_rfl) (fun _ _ _ h => h) (Or.inl ⟨by rfl, ?hyaaa28⟩) hHeld ?restaaa28
    case hyaaa28 =>
      intro w hSw
      try dsimp only at hSw
      go_simp
      try with_reducible rfl
    try simp only [Act.put, List.setIfInBounds_toArray, List.set_cons_zero, List.set_cons_succ]
    refine wpAnyH_ready (rs := [15]) (by kernel_rfl) (by simp) (AllReadyH.cons (o := { dst := some 59, op := Op.call { callee := Callee.value (Operand.func 47), args := #[Operand.tmp 52, Operand.tmp 54, Operand.tmp 56, Operand.tmp 58], argTypes := #[3, 3, 4, 3] }, type := 48, pos := "ref.go:92", after := #[{ on := 8, ground := Ground.data }, { on := 10, ground := Ground.data }, { on := 12, ground := Ground.data }, { on := 14, ground := Ground.data }], guard := none }) rfl (fun K hK => ?_) AllReadyH.nil)
    go_simp
    go_at_call 47
    refine (hCa.out _).mono ?_
    unfold JoinC
    rw [hna.out]
    rintro e w7 ⟨A7, c7, rfl, h71, h72, h73, hb7, -⟩
    replace h73 := Lib.hid h73
    clear h71 h72
    have HB2 := HB.trans (hb7.mono HB.size)
    clear HB hb7
    have HB := HB2
    clear HB2
    refine hK.out _ _ (by exact hSp.out _ HB) (fun hHeld' => ?_)
    clear hK K hHeld
    have hHeld := hHeld'
    clear hHeld'
    try simp only [Act.put, List.setIfInBounds_toArray, List.set_cons_zero, List.set_cons_succ]
    refine wpAnyH_ready (rs := [24]) (by kernel_rfl) (by simp) (AllReadyH.cons (o := { dst := some 68, op := Op.call { callee := Callee.value (Operand.func 47), args := #[Operand.tmp 61, Operand.tmp 63, Operand.tmp 65, Operand.tmp 67], argTypes := #[3, 3, 4, 3] }, type := 48, pos := "ref.go:92", after := #[{ on := 17, ground := Ground.data }, { on := 19, ground := Ground.data }, { on := 21, ground := Ground.data }, { on := 23, ground := Ground.data }, { on := 15, ground := Ground.chain }], guard := none }) rfl (fun K hK => ?_) AllReadyH.nil)
    go_simp
    go_at_call 47
    refine (hCb.out _).mono ?_
    unfold JoinC
    rw [hnb.out]
    rintro e w8 ⟨A8, c8, rfl, h81, h82, h83, hb8, -⟩
    replace h73 := Lib.hid (h73.out.below hb8)
    replace h83 := Lib.hid h83
    clear h81 h82
    have HB2 := HB.trans (hb8.mono HB.size)
    clear HB hb8
    have HB := HB2
    clear HB2
    refine hK.out _ _ (by exact hSp.out _ HB) (fun hHeld' => ?_)
    clear hK K hHeld
    have hHeld := hHeld'
    clear hHeld'
    try simp only [Act.put, List.setIfInBounds_toArray, List.set_cons_zero, List.set_cons_succ]
    refine wpAnyH_ready (rs := [29]) (by kernel_rfl) (by simp) (AllReadyH.cons (o := { dst := some 73, op := Op.call { callee := Callee.value (Operand.func 46), args := #[Operand.tmp 45, Operand.tmp 50, Operand.tmp 59, Operand.tmp 68, Operand.tmp 70, Operand.tmp 72], argTypes := #[3, 3, 48, 48, 31, 31] }, type := 49, pos := "ref.go:92", after := #[{ on := 1, ground := Ground.data }, { on := 6, ground := Ground.data }, { on := 15, ground := Ground.data }, { on := 24, ground := Ground.data }, { on := 26, ground := Ground.data }, { on := 28, ground := Ground.data }, { on := 24, ground := Ground.chain }], guard := none }) rfl (fun K hK => ?_) AllReadyH.nil)
    go_simp
    go_at_call 46
    refine (hCo.out _ _ _ _ _ (hw6.out.trans (HB.mono hw6.out.size)) h73.out h83.out).mono ?_
    unfold CoC
    rintro e w9 ⟨A9, c9, B9, d9, rfl, h91, h92, hb9⟩
    replace h91 := Lib.hid h91
    replace h92 := Lib.hid h92
    have HB2 := HB.trans (hb9.mono HB.size)
    clear HB hb9
    have HB := HB2
    clear HB2
    refine hK.out _ _ (by exact hSp.out _ HB) (fun hHeld' => ?_)
    clear hK K hHeld
    have hHeld := hHeld'
    clear hHeld'
    try simp only [Act.put, List.setIfInBounds_toArray, List.set_cons_zero, List.set_cons_succ]
    refine wpAnyH_take (i := 30) (oi := { dst := some 74, op := Op.extract (Operand.tmp 73) 0, type := 48, pos := "ref.go:92", after := #[{ on := 29, ground := Ground.data }], guard := none }) (v := ?_) rfl (by kernel_rfl) (by kernel_rfl) (by kernel_rfl) (fun _ _ _ h => h) (Or.inl ⟨by rfl, ?hyaaa30⟩) hHeld ?restaaa30
    case hyaaa30 =>
      intro w hSw
      try dsimp only at hSw
      go_simp
      try with_reducible rfl
    try simp only [Act.put, List.setIfInBounds_toArray, List.set_cons_zero, List.set_cons_succ]
    refine wpAnyH_take (i := 31) (oi := { dst := some 75, op := Op.extract (Operand.tmp 73) 1, type := 48, pos := "ref.go:92", after := #[{ on := 29, ground := Ground.data }], guard := none }) (v := ?_) rfl (by kernel_rfl) (by kernel_rfl) (by kernel_rfl) (fun _ _ _ h => h) (Or.inl ⟨by rfl, ?hyaaa31⟩) hHeld ?restaaa31
    case hyaaa31 =>
      intro w hSw
      try dsimp only at hSw
      go_simp
      try with_reducible rfl
    try simp only [Act.put, List.setIfInBounds_toArray, List.set_cons_zero, List.set_cons_succ]
    refine wpAnyH_take (i := 32) (oi := { dst := some 76, op := Op.extract (Operand.tmp 73) 2, type := 4, pos := "ref.go:92", after := #[{ on := 29, ground := Ground.data }], guard := none }) (v := ?_) rfl (by kernel_rfl) (by kernel_rfl) (by kernel_rfl) (fun _ _ _ h => h) (Or.inl ⟨by rfl, ?hyaaa32⟩) hHeld ?restaaa32
    case hyaaa32 =>
      intro w hSw
      try dsimp only at hSw
      go_simp
      try with_reducible rfl
    try simp only [Act.put, List.setIfInBounds_toArray, List.set_cons_zero, List.set_cons_succ]
    refine wpAnyH_take (i := 33) (oi := { dst := some 6, op := Op.assign (Operand.tmp 74), type := 48, pos := "ref.go:92", after := #[{ on := 30, ground := Ground.data }, { on := 29, ground := Ground.chain }, { on := 0, ground := Ground.phase }, { on := 1, ground := Ground.phase }, { on := 2, ground := Ground.phase }, { on := 3, ground := Ground.phase }, { on := 4, ground := Ground.phase }, { on := 5, ground := Ground.phase }, { on := 6, ground := Ground.phase }, { on := 7, ground := Ground.phase }, { on := 8, ground := Ground.phase }, { on := 9, ground := Ground.phase }, { on := 10, ground := Ground.phase }, { on := 11, ground := Ground.phase }, { on := 12, ground := Ground.phase }, { on := 13, ground := Ground.phase }, { on := 14, ground := Ground.phase }, { on := 15, ground := Ground.phase }, { on := 16, ground := Ground.phase }, { on := 17, ground := Ground.phase }, { on := 18, ground := Ground.phase }, { on := 19, ground := Ground.phase }, { on := 20, ground := Ground.phase }, { on := 21, ground := Ground.phase }, { on := 22, ground := Ground.phase }, { on := 23, ground := Ground.phase }, { on := 24, ground := Ground.phase }, { on := 25, ground := Ground.phase }, { on := 26, ground := Ground.phase }, { on := 27, ground := Ground.phase }, { on := 28, ground := Ground.phase }, { on := 29, ground := Ground.phase }, { on := 30, ground := Ground.phase }, { on := 31, ground := Ground.phase }, { on := 32, ground := Ground.phase }], guard := none }) (v := ?_) rfl (by kernel_rfl) (by kernel_rfl) (by kernel_rfl) (fun _ _ _ h => h) (Or.inl ⟨by rfl, ?hyaaa33⟩) hHeld ?restaaa33
    case hyaaa33 =>
      intro w hSw
      try dsimp only at hSw
      go_simp
      try with_reducible rfl
    try simp only [Act.put, List.setIfInBounds_toArray, List.set_cons_zero, List.set_cons_succ]
    refine wpAnyH_take (i := 34) (oi := { dst := some 7, op := Op.assign (Operand.tmp 75), type := 48, pos := "ref.go:92", after := #[{ on := 31, ground := Ground.data }, { on := 33, ground := Ground.chain }, { on := 0, ground := Ground.phase }, { on := 1, ground := Ground.phase }, { on := 2, ground := Ground.phase }, { on := 3, ground := Ground.phase }, { on := 4, ground := Ground.phase }, { on := 5, ground := Ground.phase }, { on := 6, ground := Ground.phase }, { on := 7, ground := Ground.phase }, { on := 8, ground := Ground.phase }, { on := 9, ground := Ground.phase }, { on := 10, ground := Ground.phase }, { on := 11, ground := Ground.phase }, { on := 12, ground := Ground.phase }, { on := 13, ground := Ground.phase }, { on := 14, ground := Ground.phase }, { on := 15, ground := Ground.phase }, { on := 16, ground := Ground.phase }, { on := 17, ground := Ground.phase }, { on := 18, ground := Ground.phase }, { on := 19, ground := Ground.phase }, { on := 20, ground := Ground.phase }, { on := 21, ground := Ground.phase }, { on := 22, ground := Ground.phase }, { on := 23, ground := Ground.phase }, { on := 24, ground := Ground.phase }, { on := 25, ground := Ground.phase }, { on := 26, ground := Ground.phase }, { on := 27, ground := Ground.phase }, { on := 28, ground := Ground.phase }, { on := 29, ground := Ground.phase }, { on := 30, ground := Ground.phase }, { on := 31, ground := Ground.phase }, { on := 32, ground := Ground.phase }, { on := 33, ground := Ground.phase }], guard := none }) (v := ?_) rfl (by kernel_rfl) (by kernel_rfl) (by kernel_rfl) (fun _ _ _ h => h) (Or.inl ⟨by rfl, ?hyaaa34⟩) hHeld ?restaaa34
    case hyaaa34 =>
      intro w hSw
      try dsimp only at hSw
      go_simp
      try with_reducible rfl
    try simp only [Act.put, List.setIfInBounds_toArray, List.set_cons_zero, List.set_cons_succ]
    refine wpAnyH_take (i := 35) (oi := { dst := some 8, op := Op.assign (Operand.tmp 76), type := 4, pos := "ref.go:92", after := #[{ on := 32, ground := Ground.data }, { on := 34, ground := Ground.chain }, { on := 0, ground := Ground.phase }, { on := 1, ground := Ground.phase }, { on := 2, ground := Ground.phase }, { on := 3, ground := Ground.phase }, { on := 4, ground := Ground.phase }, { on := 5, ground := Ground.phase }, { on := 6, ground := Ground.phase }, { on := 7, ground := Ground.phase }, { on := 8, ground := Ground.phase }, { on := 9, ground := Ground.phase }, { on := 10, ground := Ground.phase }, { on := 11, ground := Ground.phase }, { on := 12, ground := Ground.phase }, { on := 13, ground := Ground.phase }, { on := 14, ground := Ground.phase }, { on := 15, ground := Ground.phase }, { on := 16, ground := Ground.phase }, { on := 17, ground := Ground.phase }, { on := 18, ground := Ground.phase }, { on := 19, ground := Ground.phase }, { on := 20, ground := Ground.phase }, { on := 21, ground := Ground.phase }, { on := 22, ground := Ground.phase }, { on := 23, ground := Ground.phase }, { on := 24, ground := Ground.phase }, { on := 25, ground := Ground.phase }, { on := 26, ground := Ground.phase }, { on := 27, ground := Ground.phase }, { on := 28, ground := Ground.phase }, { on := 29, ground := Ground.phase }, { on := 30, ground := Ground.phase }, { on := 31, ground := Ground.phase }, { on := 32, ground := Ground.phase }, { on := 33, ground := Ground.phase }, { on := 34, ground := Ground.phase }], guard := none }) (v := ?_) rfl (by kernel_rfl) (by kernel_rfl) (by kernel_rfl) (fun _ _ _ h => h) (Or.inl ⟨by rfl, ?hyaaa35⟩) hHeld ?restaaa35
    case hyaaa35 =>
      intro w hSw
      try dsimp only at hSw
      go_simp
      try with_reducible rfl
    try simp only [Act.put, List.setIfInBounds_toArray, List.set_cons_zero, List.set_cons_succ]
    refine wpAnyH_done (by kernel_rfl) ?_ _
    go_wp2_with fail
    refine bodyPost_ret (v := .tuple #[.slice A9 R.1.length c9, .slice B9 R.2.1.length d9, .bool R.2.2]) (by simp [results, Tryd.results22, go_sem]) rfl ⟨A9, c9, B9, d9, rfl, h91.out, h92.out, hw6.out.trans (HB.mono hw6.out.size)⟩
  · rw [hW3] at hl0
    go_enter Tryd.func22, Tryd.ntmps22
    go_wp2_with (refine wpList_load_midG (by rfl) 25 (.tmp 3) (by rfl) w.heap.size 0 (by rfl) S _ hl0.out Tryd.underlying25 (by rfl) pil.out ?_)
    rw [← hW3]
    refine (hA.out _ hB1).mono ?_
    rintro e w4 ⟨rfl, hb4⟩
    obtain ⟨hl4, ⟨y0, y1, y2, y3⟩, ⟨z0, z1, z2, z3⟩, -, -, -⟩ := hcells.out w4 hb4
    replace hl4 := Lib.hid hl4
    have hB4 := hB1.trans (hb4.mono hB1.size)
    go_wp2_with (refine wpList_load_midG (by rfl) 25 (.tmp 3) (by rfl) w.heap.size 0 (by rfl) S _ hl4.out Tryd.underlying25 (by rfl) pil.out ?_)
    refine (hB.out _ hB4).mono ?_
    rintro e w5 ⟨rfl, hb5⟩
    clear hl4 y0 y1 y2 y3 z0 z1 z2 z3
    obtain ⟨-, ⟨y0, y1, y2, y3⟩, ⟨z0, z1, z2, z3⟩, ⟨x0, x1, x2⟩, -, -⟩ := hcells.out w5 (hb4.trans (hb5.mono hb4.size))
    have hB5 := hB4.trans (hb5.mono hB4.size)
    go_wp2_with fail
    have hw6 := Lib.hid hB5
    have hb36 := hb4.trans (hb5.mono hb4.size)
    have hSp : Hid (∀ V, Below w5.heap.size w5 V → V.cell? ⟨w.heap.size, 0, none⟩ = some (.int .i64 t) ∧ V.cell? ⟨w.heap.size, 1, none⟩ = some (.int .i64 f) ∧ V.cell? ⟨w.heap.size, 2, none⟩ = some (.int .i64 m) ∧ V.cell? ⟨w.heap.size + 1, 0, none⟩ = some (.int .i64 ad) ∧ V.cell? ⟨w.heap.size + 1, 1, none⟩ = some (.int .i64 as_) ∧ V.cell? ⟨w.heap.size + 1, 2, none⟩ = some (.bool true) ∧ V.cell? ⟨w.heap.size + 1, 3, none⟩ = some (.slice P ka cp) ∧ V.cell? ⟨w.heap.size + 1 + 1, 0, none⟩ = some (.int .i64 ad) ∧ V.cell? ⟨w.heap.size + 1 + 1, 1, none⟩ = some (.int .i64 bs_) ∧ V.cell? ⟨w.heap.size + 1 + 1, 2, none⟩ = some (.bool false) ∧ V.cell? ⟨w.heap.size + 1 + 1, 3, none⟩ = some (.slice Q kb cq)) := Lib.hid fun V hV => by
      have h := hcells.out V (hb36.trans (hV.mono hb36.size))
      exact ⟨h.2.2.2.1.1, h.2.2.2.1.2.1, h.2.2.2.1.2.2, h.2.1.1, h.2.1.2.1, h.2.1.2.2.1, h.2.1.2.2.2, h.2.2.1.1, h.2.2.1.2.1, h.2.2.1.2.2.1, h.2.2.1.2.2.2⟩
    have HB : Below w5.heap.size w5 w5.drew := (Below.refl _ _).drew
    clear hb4 hb5 hb36 hB4 hB5 hB1 hl0 y0 y1 y2 y3 z0 z1 z2 z3 x0 x1 x2 hA hB hcells pil hmf
    refine wp_region_held_drew (S := fun w' => w'.cell? ⟨w.heap.size, 0, none⟩ = some (.int .i64 t) ∧ w'.cell? ⟨w.heap.size, 1, none⟩ = some (.int .i64 f) ∧ w'.cell? ⟨w.heap.size, 2, none⟩ = some (.int .i64 m) ∧ w'.cell? ⟨w.heap.size + 1, 0, none⟩ = some (.int .i64 ad) ∧ w'.cell? ⟨w.heap.size + 1, 1, none⟩ = some (.int .i64 as_) ∧ w'.cell? ⟨w.heap.size + 1, 2, none⟩ = some (.bool true) ∧ w'.cell? ⟨w.heap.size + 1, 3, none⟩ = some (.slice P ka cp) ∧ w'.cell? ⟨w.heap.size + 1 + 1, 0, none⟩ = some (.int .i64 ad) ∧ w'.cell? ⟨w.heap.size + 1 + 1, 1, none⟩ = some (.int .i64 bs_) ∧ w'.cell? ⟨w.heap.size + 1 + 1, 2, none⟩ = some (.bool false) ∧ w'.cell? ⟨w.heap.size + 1 + 1, 3, none⟩ = some (.slice Q kb cq)) (by kernel_rfl) (by exact hSp.out _ HB) (fun hHeld => ?_)
    refine wpAnyH_take (i := 0) (oi := { dst := some 44, op := Op.fieldAddr 25 (Operand.tmp 3) 2, type := 0, pos := "ref.go:92", after := #[], guard := none }) (v := ?_) rfl (by kernel_rfl) (by kernel_rfl) (by kernel_rfl) (fun _ _ _ h => h) (Or.inl ⟨by rfl, ?hyaaaa0⟩) hHeld ?restaaaa0
    case hyaaaa0 =>
      intro w hSw
      try dsimp only at hSw
      go_simp
      try with_reducible rfl
    try simp only [Act.put, List.setIfInBounds_toArray, List.set_cons_zero, List.set_cons_succ]
    refine wpAnyH_take (i := 1) (oi := { dst := some 45, op := Op.load 3 (Operand.tmp 44), type := 3, pos := "ref.go:92", after := #[{ on := 0, ground := Ground.data }], guard := none }) (v := ?_) rfl (by kernel_rfl) (by kernel_rfl) (by kernel_rfl) (fun _ _ _ h => h) (Or.inl ⟨by rfl, ?hyaaaa1⟩) hHeld ?restaaaa1
    case hyaaaa1 =>
      intro w hSw
      try dsimp only at hSw
      go_simp
      try with_reducible rfl
    try simp only [Act.put, List.setIfInBounds_toArray, List.set_cons_zero, List.set_cons_succ]
    refine wpAnyH_take (i := 2) (oi := { dst := some 46, op := Op.fieldAddr 33 (Operand.tmp 4) 0, type := 0, pos := "ref.go:92", after := #[], guard := none }) (v := ?_) rfl (by kernel_rfl) (by kernel_rfl) (by kernel_rfl) (fun _ _ _ h => h) (Or.inl ⟨by rfl, ?hyaaaa2⟩) hHeld ?restaaaa2
    case hyaaaa2 =>
      intro w hSw
      try dsimp only at hSw
      go_simp
      try with_reducible rfl
    try simp only [Act.put, List.setIfInBounds_toArray, List.set_cons_zero, List.set_cons_succ]
    refine wpAnyH_take (i := 3) (oi := { dst := some 47, op := Op.load 3 (Operand.tmp 46), type := 3, pos := "ref.go:92", after := #[{ on := 2, ground := Ground.data }], guard := none }) (v := ?_) rfl (by kernel_rfl) (by kernel_rfl) (by kernel_rfl) (fun _ _ _ h => h) (Or.inl ⟨by rfl, ?hyaaaa3⟩) hHeld ?restaaaa3
    case hyaaaa3 =>
      intro w hSw
      try dsimp only at hSw
      go_simp
      try with_reducible rfl
    try simp only [Act.put, List.setIfInBounds_toArray, List.set_cons_zero, List.set_cons_succ]
    refine wpAnyH_take (i := 4) (oi := { dst := some 48, op := Op.fieldAddr 25 (Operand.tmp 3) 1, type := 0, pos := "ref.go:92", after := #[], guard := none }) (v := ?_) rfl (by kernel_rfl) (by kernel_rfl) (by kernel_rfl) (fun _ _ _ h => h) (Or.inl ⟨by rfl, ?hyaaaa4⟩) hHeld ?restaaaa4
    case hyaaaa4 =>
      intro w hSw
      try dsimp only at hSw
      go_simp
      try with_reducible rfl
    try simp only [Act.put, List.setIfInBounds_toArray, List.set_cons_zero, List.set_cons_succ]
    refine wpAnyH_take (i := 5) (oi := { dst := some 49, op := Op.load 3 (Operand.tmp 48), type := 3, pos := "ref.go:92", after := #[{ on := 4, ground := Ground.data }], guard := none }) (v := ?_) rfl (by kernel_rfl) (by kernel_rfl) (by kernel_rfl) (fun _ _ _ h => h) (Or.inl ⟨by rfl, ?hyaaaa5⟩) hHeld ?restaaaa5
    case hyaaaa5 =>
      intro w hSw
      try dsimp only at hSw
      go_simp
      try with_reducible rfl
    try simp only [Act.put, List.setIfInBounds_toArray, List.set_cons_zero, List.set_cons_succ]
    refine wpAnyH_take (i := 6) (oi := { dst := some 50, op := Op.binOp BinOp.sub 3 (Operand.tmp 47) (Operand.tmp 49) 3, type := 3, pos := "ref.go:92", after := #[{ on := 3, ground := Ground.data }, { on := 5, ground := Ground.data }], guard := none }) (v := ?_) rfl (by kernel_rfl) (by kernel_rfl) (by kernel_rfl) (fun _ _ _ h => h) (Or.inl ⟨by rfl, ?hyaaaa6⟩) hHeld ?restaaaa6
    case hyaaaa6 =>
      intro w hSw
      try dsimp only at hSw
      go_simp
      try with_reducible rfl
    try simp only [Act.put, List.setIfInBounds_toArray, List.set_cons_zero, List.set_cons_succ]
    refine wpAnyH_take (i := 7) (oi := { dst := some 51, op := Op.fieldAddr 25 (Operand.tmp 3) 0, type := 0, pos := "ref.go:92", after := #[], guard := none }) (v := ?_) rfl (by kernel_rfl) (by kernel_rfl) (by kernel_rfl) (fun _ _ _ h => h) (Or.inl ⟨by rfl, ?hyaaaa7⟩) hHeld ?restaaaa7
    case hyaaaa7 =>
      intro w hSw
      try dsimp only at hSw
      go_simp
      try with_reducible rfl
    try simp only [Act.put, List.setIfInBounds_toArray, List.set_cons_zero, List.set_cons_succ]
    refine wpAnyH_take (i := 8) (oi := { dst := some 52, op := Op.load 3 (Operand.tmp 51), type := 3, pos := "ref.go:92", after := #[{ on := 7, ground := Ground.data }], guard := none }) (v := ?_) rfl (by kernel_rfl) (by kernel_rfl) (by kernel_rfl) (fun _ _ _ h => h) (Or.inl ⟨by rfl, ?hyaaaa8⟩) hHeld ?restaaaa8
    case hyaaaa8 =>
      intro w hSw
      try dsimp only at hSw
      go_simp
      try with_reducible rfl
    try simp only [Act.put, List.setIfInBounds_toArray, List.set_cons_zero, List.set_cons_succ]
    refine wpAnyH_take (i := 9) (oi := { dst := some 53, op := Op.fieldAddr 33 (Operand.tmp 4) 0, type := 0, pos := "ref.go:92", after := #[], guard := none }) (v := ?_) rfl (by kernel_rfl) (by kernel_rfl) (by kernel_rfl) (fun _ _ _ h => h) (Or.inl ⟨by rfl, ?hyaaaa9⟩) hHeld ?restaaaa9
    case hyaaaa9 =>
      intro w hSw
      try dsimp only at hSw
      go_simp
      try with_reducible rfl
    try simp only [Act.put, List.setIfInBounds_toArray, List.set_cons_zero, List.set_cons_succ]
    refine wpAnyH_take (i := 10) (oi := { dst := some 54, op := Op.load 3 (Operand.tmp 53), type := 3, pos := "ref.go:92", after := #[{ on := 9, ground := Ground.data }], guard := none }) (v := ?_) rfl (by kernel_rfl) (by kernel_rfl) (by kernel_rfl) (fun _ _ _ h => h) (Or.inl ⟨by rfl, ?hyaaaa10⟩) hHeld ?restaaaa10
    case hyaaaa10 =>
      intro w hSw
      try dsimp only at hSw
      go_simp
      try with_reducible rfl
    try simp only [Act.put, List.setIfInBounds_toArray, List.set_cons_zero, List.set_cons_succ]
    refine wpAnyH_take (i := 11) (oi := { dst := some 55, op := Op.fieldAddr 33 (Operand.tmp 4) 2, type := 0, pos := "ref.go:92", after := #[], guard := none }) (v := ?_) rfl (by kernel_rfl) (by kernel_rfl) (by kernel_rfl) (fun _ _ _ h => h) (Or.inl ⟨by rfl, ?hyaaaa11⟩) hHeld ?restaaaa11
    case hyaaaa11 =>
      intro w hSw
      try dsimp only at hSw
      go_simp
      try with_reducible rfl
    try simp only [Act.put, List.setIfInBounds_toArray, List.set_cons_zero, List.set_cons_succ]
    refine wpAnyH_take (i := 12) (oi := { dst := some 56, op := Op.load 4 (Operand.tmp 55), type := 4, pos := "ref.go:92", after := #[{ on := 11, ground := Ground.data }], guard := none }) (v := ?_) rfl (by kernel_rfl) (by kernel_rfl) (by kernel_rfl) (fun _ _ _ h => h) (Or.inl ⟨by rfl, ?hyaaaa12⟩) hHeld ?restaaaa12
    case hyaaaa12 =>
      intro w hSw
      try dsimp only at hSw
      go_simp
      try with_reducible rfl
    try simp only [Act.put, List.setIfInBounds_toArray, List.set_cons_zero, List.set_cons_succ]
    refine wpAnyH_take (i := 13) (oi := { dst := some 57, op := Op.fieldAddr 33 (Operand.tmp 4) 1, type := 0, pos := "ref.go:92", after := #[], guard := none }) (v := ?_) rfl (by kernel_rfl) (by kernel_rfl) (by kernel_rfl) (fun _ _ _ h => h) (Or.inl ⟨by rfl, ?hyaaaa13⟩) hHeld ?restaaaa13
    case hyaaaa13 =>
      intro w hSw
      try dsimp only at hSw
      go_simp
      try with_reducible rfl
    try simp only [Act.put, List.setIfInBounds_toArray, List.set_cons_zero, List.set_cons_succ]
    refine wpAnyH_take (i := 14) (oi := { dst := some 58, op := Op.load 3 (Operand.tmp 57), type := 3, pos := "ref.go:92", after := #[{ on := 13, ground := Ground.data }], guard := none }) (v := ?_) rfl (by kernel_rfl) (by kernel_rfl) (by kernel_rfl) (fun _ _ _ h => h) (Or.inl ⟨by rfl, ?hyaaaa14⟩) hHeld ?restaaaa14
    case hyaaaa14 =>
      intro w hSw
      try dsimp only at hSw
      go_simp
      try with_reducible rfl
    try simp only [Act.put, List.setIfInBounds_toArray, List.set_cons_zero, List.set_cons_succ]
    refine wpAnyH_take (i := 16) (oi := { dst := some 60, op := Op.fieldAddr 25 (Operand.tmp 3) 0, type := 0, pos := "ref.go:92", after := #[], guard := none }) (v := ?_) rfl (by kernel_rfl) (by kernel_rfl) (by kernel_rfl) (fun _ _ _ h => h) (Or.inl ⟨by rfl, ?hyaaaa16⟩) hHeld ?restaaaa16
    case hyaaaa16 =>
      intro w hSw
      try dsimp only at hSw
      go_simp
      try with_reducible rfl
    try simp only [Act.put, List.setIfInBounds_toArray, List.set_cons_zero, List.set_cons_succ]
    refine wpAnyH_take (i := 17) (oi := { dst := some 61, op := Op.load 3 (Operand.tmp 60), type := 3, pos := "ref.go:92", after := #[{ on := 16, ground := Ground.data }], guard := none }) (v := ?_) rfl (by kernel_rfl) (by kernel_rfl) (by kernel_rfl) (fun _ _ _ h => h) (Or.inl ⟨by rfl, ?hyaaaa17⟩) hHeld ?restaaaa17
    case hyaaaa17 =>
      intro w hSw
      try dsimp only at hSw
      go_simp
      try with_reducible rfl
    try simp only [Act.put, List.setIfInBounds_toArray, List.set_cons_zero, List.set_cons_succ]
    refine wpAnyH_take (i := 18) (oi := { dst := some 62, op := Op.fieldAddr 33 (Operand.tmp 5) 0, type := 0, pos := "ref.go:92", after := #[], guard := none }) (v := ?_) rfl (by kernel_rfl) (by kernel_rfl) (by kernel_rfl) (fun _ _ _ h => h) (Or.inl ⟨by rfl, ?hyaaaa18⟩) hHeld ?restaaaa18
    case hyaaaa18 =>
      intro w hSw
      try dsimp only at hSw
      go_simp
      try with_reducible rfl
    try simp only [Act.put, List.setIfInBounds_toArray, List.set_cons_zero, List.set_cons_succ]
    refine wpAnyH_take (i := 19) (oi := { dst := some 63, op := Op.load 3 (Operand.tmp 62), type := 3, pos := "ref.go:92", after := #[{ on := 18, ground := Ground.data }], guard := none }) (v := ?_) rfl (by kernel_rfl) (by kernel_rfl) (by kernel_rfl) (fun _ _ _ h => h) (Or.inl ⟨by rfl, ?hyaaaa19⟩) hHeld ?restaaaa19
    case hyaaaa19 =>
      intro w hSw
      try dsimp only at hSw
      go_simp
      try with_reducible rfl
    try simp only [Act.put, List.setIfInBounds_toArray, List.set_cons_zero, List.set_cons_succ]
    refine wpAnyH_take (i := 20) (oi := { dst := some 64, op := Op.fieldAddr 33 (Operand.tmp 5) 2, type := 0, pos := "ref.go:92", after := #[], guard := none }) (v := ?_) rfl (by kernel_rfl) (by kernel_rfl) (by kernel_rfl) (fun _ _ _ h => h) (Or.inl ⟨by rfl, ?hyaaaa20⟩) hHeld ?restaaaa20
    case hyaaaa20 =>
      intro w hSw
      try dsimp only at hSw
      go_simp
      try with_reducible rfl
    try simp only [Act.put, List.setIfInBounds_toArray, List.set_cons_zero, List.set_cons_succ]
    refine wpAnyH_take (i := 21) (oi := { dst := some 65, op := Op.load 4 (Operand.tmp 64), type := 4, pos := "ref.go:92", after := #[{ on := 20, ground := Ground.data }], guard := none }) (v := ?_) rfl (by kernel_rfl) (by kernel_rfl) (by kernel_rfl) (fun _ _ _ h => h) (Or.inl ⟨by rfl, ?hyaaaa21⟩) hHeld ?restaaaa21
    case hyaaaa21 =>
      intro w hSw
      try dsimp only at hSw
      go_simp
      try with_reducible rfl
    try simp only [Act.put, List.setIfInBounds_toArray, List.set_cons_zero, List.set_cons_succ]
    refine wpAnyH_take (i := 22) (oi := { dst := some 66, op := Op.fieldAddr 33 (Operand.tmp 5) 1, type := 0, pos := "ref.go:92", after := #[], guard := none }) (v := ?_) rfl (by kernel_rfl) (by kernel_rfl) (by kernel_rfl) (fun _ _ _ h => h) (Or.inl ⟨by rfl, ?hyaaaa22⟩) hHeld ?restaaaa22
    case hyaaaa22 =>
      intro w hSw
      try dsimp only at hSw
      go_simp
      try with_reducible rfl
    try simp only [Act.put, List.setIfInBounds_toArray, List.set_cons_zero, List.set_cons_succ]
    refine wpAnyH_take (i := 23) (oi := { dst := some 67, op := Op.load 3 (Operand.tmp 66), type := 3, pos := "ref.go:92", after := #[{ on := 22, ground := Ground.data }], guard := none }) (v := ?_) rfl (by kernel_rfl) (by kernel_rfl) (by kernel_rfl) (fun _ _ _ h => h) (Or.inl ⟨by rfl, ?hyaaaa23⟩) hHeld ?restaaaa23
    case hyaaaa23 =>
      intro w hSw
      try dsimp only at hSw
      go_simp
      try with_reducible rfl
    try simp only [Act.put, List.setIfInBounds_toArray, List.set_cons_zero, List.set_cons_succ]
    refine wpAnyH_take (i := 25) (oi := { dst := some 69, op := Op.fieldAddr 33 (Operand.tmp 4) 3, type := 0, pos := "ref.go:92", after := #[], guard := none }) (v := ?_) rfl (by kernel_rfl) (by kernel_rfl) (by kernel_rfl) (fun _ _ _ h => h) (Or.inl ⟨by rfl, ?hyaaaa25⟩) hHeld ?restaaaa25
    case hyaaaa25 =>
      intro w hSw
      try dsimp only at hSw
      go_simp
      try with_reducible rfl
    try simp only [Act.put, List.setIfInBounds_toArray, List.set_cons_zero, List.set_cons_succ]
    refine wpAnyH_take (i := 26) (oi := { dst := some 70, op := Op.load 31 (Operand.tmp 69), type := 31, pos := "ref.go:92", after := #[{ on := 25, ground := Ground.data }], guard := none }) (v := ?_) rfl (by kernel_rfl) (by kernel_rfl) (by kernel_rfl) (fun _ _ _ h => h) (Or.inl ⟨by rfl, ?hyaaaa26⟩) hHeld ?restaaaa26
    case hyaaaa26 =>
      intro w hSw
      try dsimp only at hSw
      go_simp
      try with_reducible rfl
    try simp only [Act.put, List.setIfInBounds_toArray, List.set_cons_zero, List.set_cons_succ]
    refine wpAnyH_take (i := 27) (oi := { dst := some 71, op := Op.fieldAddr 33 (Operand.tmp 5) 3, type := 0, pos := "ref.go:92", after := #[], guard := none }) (v := ?_) rfl (by kernel_rfl) (by kernel_rfl) (by kernel_rfl) (fun _ _ _ h => h) (Or.inl ⟨by rfl, ?hyaaaa27⟩) hHeld ?restaaaa27
    case hyaaaa27 =>
      intro w hSw
      try dsimp only at hSw
      go_simp
      try with_reducible rfl
    try simp only [Act.put, List.setIfInBounds_toArray, List.set_cons_zero, List.set_cons_succ]
    refine wpAnyH_take (i := 28) (oi := { dst := some 72, op := Op.load 31 (Operand.tmp 71), type := 31, pos := "ref.go:92", after := #[{ on := 27, ground := Ground.data }], guard := none }) (v := ?_) rfl (by kernel_rfl) (by kernel_rfl) (by kernel_rfl) (fun _ _ _ h => h) (Or.inl ⟨by rfl, ?hyaaaa28⟩) hHeld ?restaaaa28
    case hyaaaa28 =>
      intro w hSw
      try dsimp only at hSw
      go_simp
      try with_reducible rfl
    try simp only [Act.put, List.setIfInBounds_toArray, List.set_cons_zero, List.set_cons_succ]
    refine wpAnyH_ready (rs := [15]) (by kernel_rfl) (by simp) (AllReadyH.cons (o := { dst := some 59, op := Op.call { callee := Callee.value (Operand.func 47), args := #[Operand.tmp 52, Operand.tmp 54, Operand.tmp 56, Operand.tmp 58], argTypes := #[3, 3, 4, 3] }, type := 48, pos := "ref.go:92", after := #[{ on := 8, ground := Ground.data }, { on := 10, ground := Ground.data }, { on := 12, ground := Ground.data }, { on := 14, ground := Ground.data }], guard := none }) rfl (fun K hK => ?_) AllReadyH.nil)
    go_simp
    go_at_call 47
    refine (hCa.out _).mono ?_
    unfold JoinC
    rw [hna.out]
    rintro e w7 ⟨A7, c7, rfl, h71, h72, h73, hb7, -⟩
    replace h73 := Lib.hid h73
    clear h71 h72
    have HB2 := HB.trans (hb7.mono HB.size)
    clear HB hb7
    have HB := HB2
    clear HB2
    refine hK.out _ _ (by exact hSp.out _ HB) (fun hHeld' => ?_)
    clear hK K hHeld
    have hHeld := hHeld'
    clear hHeld'
    try simp only [Act.put, List.setIfInBounds_toArray, List.set_cons_zero, List.set_cons_succ]
    refine wpAnyH_ready (rs := [24]) (by kernel_rfl) (by simp) (AllReadyH.cons (o := { dst := some 68, op := Op.call { callee := Callee.value (Operand.func 47), args := #[Operand.tmp 61, Operand.tmp 63, Operand.tmp 65, Operand.tmp 67], argTypes := #[3, 3, 4, 3] }, type := 48, pos := "ref.go:92", after := #[{ on := 17, ground := Ground.data }, { on := 19, ground := Ground.data }, { on := 21, ground := Ground.data }, { on := 23, ground := Ground.data }, { on := 15, ground := Ground.chain }], guard := none }) rfl (fun K hK => ?_) AllReadyH.nil)
    go_simp
    go_at_call 47
    refine (hCb.out _).mono ?_
    unfold JoinC
    rw [hnb.out]
    rintro e w8 ⟨A8, c8, rfl, h81, h82, h83, hb8, -⟩
    replace h73 := Lib.hid (h73.out.below hb8)
    replace h83 := Lib.hid h83
    clear h81 h82
    have HB2 := HB.trans (hb8.mono HB.size)
    clear HB hb8
    have HB := HB2
    clear HB2
    refine hK.out _ _ (by exact hSp.out _ HB) (fun hHeld' => ?_)
    clear hK K hHeld
    have hHeld := hHeld'
    clear hHeld'
    try simp only [Act.put, List.setIfInBounds_toArray, List.set_cons_zero, List.set_cons_succ]
    refine wpAnyH_ready (rs := [29]) (by kernel_rfl) (by simp) (AllReadyH.cons (o := { dst := some 73, op := Op.call { callee := Callee.value (Operand.func 46), args := #[Operand.tmp 45, Operand.tmp 50, Operand.tmp 59, Operand.tmp 68, Operand.tmp 70, Operand.tmp 72], argTypes := #[3, 3, 48, 48, 31, 31] }, type := 49, pos := "ref.go:92", after := #[{ on := 1, ground := Ground.data }, { on := 6, ground := Ground.data }, { on := 15, ground := Ground.data }, { on := 24, ground := Ground.data }, { on := 26, ground := Ground.data }, { on := 28, ground := Ground.data }, { on := 24, ground := Ground.chain }], guard := none }) rfl (fun K hK => ?_) AllReadyH.nil)
    go_simp
    go_at_call 46
    refine (hCo.out _ _ _ _ _ (hw6.out.trans (HB.mono hw6.out.size)) h73.out h83.out).mono ?_
    unfold CoC
    rintro e w9 ⟨A9, c9, B9, d9, rfl, h91, h92, hb9⟩
    replace h91 := Lib.hid h91
    replace h92 := Lib.hid h92
    have HB2 := HB.trans (hb9.mono HB.size)
    clear HB hb9
    have HB := HB2
    clear HB2
    refine hK.out _ _ (by exact hSp.out _ HB) (fun hHeld' => ?_)
    clear hK K hHeld
    have hHeld := hHeld'
    clear hHeld'
    try simp only [Act.put, List.setIfInBounds_toArray, List.set_cons_zero, List.set_cons_succ]
    refine wpAnyH_take (i := 30) (oi := { dst := some 74, op := Op.extract (Operand.tmp 73) 0, type := 48, pos := "ref.go:92", after := #[{ on := 29, ground := Ground.data }], guard := none }) (v := ?_) rfl (by kernel_rfl) (by kernel_rfl) (by kernel_rfl) (fun _ _ _ h => h) (Or.inl ⟨by rfl, ?hyaaaa30⟩) hHeld ?restaaaa30
    case hyaaaa30 =>
      intro w hSw
      try dsimp only at hSw
      go_simp
      try with_reducible rfl
    try simp only [Act.put, List.setIfInBounds_toArray, List.set_cons_zero, List.set_cons_succ]
    refine wpAnyH_take (i := 31) (oi := { dst := some 75, op := Op.extract (Operand.tmp 73) 1, type := 48, pos := "ref.go:92", after := #[{ on := 29, ground := Ground.data }], guard := none }) (v := ?_) rfl (by kernel_rfl) (by kernel_rfl) (by kernel_rfl) (fun _ _ _ h => h) (Or.inl ⟨by rfl, ?hyaaaa31⟩) hHeld ?restaaaa31
    case hyaaaa31 =>
      intro w hSw
      try dsimp only at hSw
      go_simp
      try with_reducible rfl
    try simp only [Act.put, List.setIfInBounds_toArray, List.set_cons_zero, List.set_cons_succ]
    refine wpAnyH_take (i := 32) (oi := { dst := some 76, op := Op.extract (Operand.tmp 73) 2, type := 4, pos := "ref.go:92", after := #[{ on := 29, ground := Ground.data }], guard := none }) (v := ?_) rfl (by kernel_rfl) (by kernel_rfl) (by kernel_rfl) (fun _ _ _ h => h) (Or.inl ⟨by rfl, ?hyaaaa32⟩) hHeld ?restaaaa32
    case hyaaaa32 =>
      intro w hSw
      try dsimp only at hSw
      go_simp
      try with_reducible rfl
    try simp only [Act.put, List.setIfInBounds_toArray, List.set_cons_zero, List.set_cons_succ]
    refine wpAnyH_take (i := 33) (oi := { dst := some 6, op := Op.assign (Operand.tmp 74), type := 48, pos := "ref.go:92", after := #[{ on := 30, ground := Ground.data }, { on := 29, ground := Ground.chain }, { on := 0, ground := Ground.phase }, { on := 1, ground := Ground.phase }, { on := 2, ground := Ground.phase }, { on := 3, ground := Ground.phase }, { on := 4, ground := Ground.phase }, { on := 5, ground := Ground.phase }, { on := 6, ground := Ground.phase }, { on := 7, ground := Ground.phase }, { on := 8, ground := Ground.phase }, { on := 9, ground := Ground.phase }, { on := 10, ground := Ground.phase }, { on := 11, ground := Ground.phase }, { on := 12, ground := Ground.phase }, { on := 13, ground := Ground.phase }, { on := 14, ground := Ground.phase }, { on := 15, ground := Ground.phase }, { on := 16, ground := Ground.phase }, { on := 17, ground := Ground.phase }, { on := 18, ground := Ground.phase }, { on := 19, ground := Ground.phase }, { on := 20, ground := Ground.phase }, { on := 21, ground := Ground.phase }, { on := 22, ground := Ground.phase }, { on := 23, ground := Ground.phase }, { on := 24, ground := Ground.phase }, { on := 25, ground := Ground.phase }, { on := 26, ground := Ground.phase }, { on := 27, ground := Ground.phase }, { on := 28, ground := Ground.phase }, { on := 29, ground := Ground.phase }, { on := 30, ground := Ground.phase }, { on := 31, ground := Ground.phase }, { on := 32, ground := Ground.phase }], guard := none }) (v := ?_) rfl (by kernel_rfl) (by kernel_rfl) (by kernel_rfl) (fun _ _ _ h => h) (Or.inl ⟨by rfl, ?hyaaaa33⟩) hHeld ?restaaaa33
    case hyaaaa33 =>
      intro w hSw
      try dsimp only at hSw
      go_simp
      try with_reducible rfl
    try simp only [Act.put, List.setIfInBounds_toArray, List.set_cons_zero, List.set_cons_succ]
    refine wpAnyH_take (i := 34) (oi := { dst := some 7, op := Op.assign (Operand.tmp 75), type := 48, pos := "ref.go:92", after := #[{ on := 31, ground := Ground.data }, { on := 33, ground := Ground.chain }, { on := 0, ground := Ground.phase }, { on := 1, ground := Ground.phase }, { on := 2, ground := Ground.phase }, { on := 3, ground := Ground.phase }, { on := 4, ground := Ground.phase }, { on := 5, ground := Ground.phase }, { on := 6, ground := Ground.phase }, { on := 7, ground := Ground.phase }, { on := 8, ground := Ground.phase }, { on := 9, ground := Ground.phase }, { on := 10, ground := Ground.phase }, { on := 11, ground := Ground.phase }, { on := 12, ground := Ground.phase }, { on := 13, ground := Ground.phase }, { on := 14, ground := Ground.phase }, { on := 15, ground := Ground.phase }, { on := 16, ground := Ground.phase }, { on := 17, ground := Ground.phase }, { on := 18, ground := Ground.phase }, { on := 19, ground := Ground.phase }, { on := 20, ground := Ground.phase }, { on := 21, ground := Ground.phase }, { on := 22, ground := Ground.phase }, { on := 23, ground := Ground.phase }, { on := 24, ground := Ground.phase }, { on := 25, ground := Ground.phase }, { on := 26, ground := Ground.phase }, { on := 27, ground := Ground.phase }, { on := 28, ground := Ground.phase }, { on := 29, ground := Ground.phase }, { on := 30, ground := Ground.phase }, { on := 31, ground := Ground.phase }, { on := 32, ground := Ground.phase }, { on := 33, ground := Ground.phase }], guard := none }) (v := ?_) rfl (by kernel_rfl) (by kernel_rfl) (by kernel_rfl) (fun _ _ _ h => h) (Or.inl ⟨by rfl, ?hyaaaa34⟩) hHeld ?restaaaa34
    case hyaaaa34 =>
      intro w hSw
      try dsimp only at hSw
      go_simp
      try with_reducible rfl
    try simp only [Act.put, List.setIfInBounds_toArray, List.set_cons_zero, List.set_cons_succ]
    refine wpAnyH_take (i := 35) (oi := { dst := some 8, op := Op.assign (Operand.tmp 76), type := 4, pos := "ref.go:92", after := #[{ on := 32, ground := Ground.data }, { on := 34, ground := Ground.chain }, { on := 0, ground := Ground.phase }, { on := 1, ground := Ground.phase }, { on := 2, ground := Ground.phase }, { on := 3, ground := Ground.phase }, { on := 4, ground := Ground.phase }, { on := 5, ground := Ground.phase }, { on := 6, ground := Ground.phase }, { on := 7, ground := Ground.phase }, { on := 8, ground := Ground.phase }, { on := 9, ground := Ground.phase }, { on := 10, ground := Ground.phase }, { on := 11, ground := Ground.phase }, { on := 12, ground := Ground.phase }, { on := 13, ground := Ground.phase }, { on := 14, ground := Ground.phase }, { on := 15, ground := Ground.phase }, { on := 16, ground := Ground.phase }, { on := 17, ground := Ground.phase }, { on := 18, ground := Ground.phase }, { on := 19, ground := Ground.phase }, { on := 20, ground := Ground.phase }, { on := 21, ground := Ground.phase }, { on := 22, ground := Ground.phase }, { on := 23, ground := Ground.phase }, { on := 24, ground := Ground.phase }, { on := 25, ground := Ground.phase }, { on := 26, ground := Ground.phase }, { on := 27, ground := Ground.phase }, { on := 28, ground := Ground.phase }, { on := 29, ground := Ground.phase }, { on := 30, ground := Ground.phase }, { on := 31, ground := Ground.phase }, { on := 32, ground := Ground.phase }, { on := 33, ground := Ground.phase }, { on := 34, ground := Ground.phase }], guard := none }) (v := ?_) rfl (by kernel_rfl) (by kernel_rfl) (by kernel_rfl) (fun _ _ _ h => h) (Or.inl ⟨by rfl, ?hyaaaa35⟩) hHeld ?restaaaa35
    case hyaaaa35 =>
      intro w hSw
      try dsimp only at hSw
      go_simp
      try with_reducible rfl
    try simp only [Act.put, List.setIfInBounds_toArray, List.set_cons_zero, List.set_cons_succ]
    refine wpAnyH_done (by kernel_rfl) ?_ _
    go_wp2_with fail
    refine bodyPost_ret (v := .tuple #[.slice A9 R.1.length c9, .slice B9 R.2.1.length d9, .bool R.2.2]) (by simp [results, Tryd.results22, go_sem]) rfl ⟨A9, c9, B9, d9, rfl, h91.out, h92.out, hw6.out.trans (HB.mono hw6.out.size)⟩
  · rw [hW3] at hl0
    go_enter Tryd.func22, Tryd.ntmps22
    go_wp2_with (refine wpList_load_midG (by rfl) 25 (.tmp 3) (by rfl) w.heap.size 0 (by rfl) S _ hl0.out Tryd.underlying25 (by rfl) pil.out ?_)
    rw [← hW3]
    refine (hA.out _ hB1).mono ?_
    rintro e w4 ⟨rfl, hb4⟩
    obtain ⟨hl4, ⟨y0, y1, y2, y3⟩, ⟨z0, z1, z2, z3⟩, -, -, -⟩ := hcells.out w4 hb4
    replace hl4 := Lib.hid hl4
    have hB4 := hB1.trans (hb4.mono hB1.size)
    go_wp2_with (refine wpList_load_midG (by rfl) 25 (.tmp 3) (by rfl) w.heap.size 0 (by rfl) S _ hl4.out Tryd.underlying25 (by rfl) pil.out ?_)
    refine (hB.out _ hB4).mono ?_
    rintro e w5 ⟨rfl, hb5⟩
    clear hl4 y0 y1 y2 y3 z0 z1 z2 z3
    obtain ⟨-, ⟨y0, y1, y2, y3⟩, ⟨z0, z1, z2, z3⟩, ⟨x0, x1, x2⟩, -, -⟩ := hcells.out w5 (hb4.trans (hb5.mono hb4.size))
    have hB5 := hB4.trans (hb5.mono hB4.size)
    go_wp2_with fail
    have hw6 := Lib.hid hB5
    have hb36 := hb4.trans (hb5.mono hb4.size)
    have hSp : Hid (∀ V, Below w5.heap.size w5 V → V.cell? ⟨w.heap.size, 0, none⟩ = some (.int .i64 t) ∧ V.cell? ⟨w.heap.size, 1, none⟩ = some (.int .i64 f) ∧ V.cell? ⟨w.heap.size, 2, none⟩ = some (.int .i64 m) ∧ V.cell? ⟨w.heap.size + 1, 0, none⟩ = some (.int .i64 ad) ∧ V.cell? ⟨w.heap.size + 1, 1, none⟩ = some (.int .i64 as_) ∧ V.cell? ⟨w.heap.size + 1, 2, none⟩ = some (.bool false) ∧ V.cell? ⟨w.heap.size + 1, 3, none⟩ = some (.slice P ka cp) ∧ V.cell? ⟨w.heap.size + 1 + 1, 0, none⟩ = some (.int .i64 ad) ∧ V.cell? ⟨w.heap.size + 1 + 1, 1, none⟩ = some (.int .i64 bs_) ∧ V.cell? ⟨w.heap.size + 1 + 1, 2, none⟩ = some (.bool true) ∧ V.cell? ⟨w.heap.size + 1 + 1, 3, none⟩ = some (.slice Q kb cq)) := Lib.hid fun V hV => by
      have h := hcells.out V (hb36.trans (hV.mono hb36.size))
      exact ⟨h.2.2.2.1.1, h.2.2.2.1.2.1, h.2.2.2.1.2.2, h.2.1.1, h.2.1.2.1, h.2.1.2.2.1, h.2.1.2.2.2, h.2.2.1.1, h.2.2.1.2.1, h.2.2.1.2.2.1, h.2.2.1.2.2.2⟩
    have HB : Below w5.heap.size w5 w5.drew := (Below.refl _ _).drew
    clear hb4 hb5 hb36 hB4 hB5 hB1 hl0 y0 y1 y2 y3 z0 z1 z2 z3 x0 x1 x2 hA hB hcells pil hmf
    refine wp_region_held_drew (S := fun w' => w'.cell? ⟨w.heap.size, 0, none⟩ = some (.int .i64 t) ∧ w'.cell? ⟨w.heap.size, 1, none⟩ = some (.int .i64 f) ∧ w'.cell? ⟨w.heap.size, 2, none⟩ = some (.int .i64 m) ∧ w'.cell? ⟨w.heap.size + 1, 0, none⟩ = some (.int .i64 ad) ∧ w'.cell? ⟨w.heap.size + 1, 1, none⟩ = some (.int .i64 as_) ∧ w'.cell? ⟨w.heap.size + 1, 2, none⟩ = some (.bool false) ∧ w'.cell? ⟨w.heap.size + 1, 3, none⟩ = some (.slice P ka cp) ∧ w'.cell? ⟨w.heap.size + 1 + 1, 0, none⟩ = some (.int .i64 ad) ∧ w'.cell? ⟨w.heap.size + 1 + 1, 1, none⟩ = some (.int .i64 bs_) ∧ w'.cell? ⟨w.heap.size + 1 + 1, 2, none⟩ = some (.bool true) ∧ w'.cell? ⟨w.heap.size + 1 + 1, 3, none⟩ = some (.slice Q kb cq)) (by kernel_rfl) (by exact hSp.out _ HB) (fun hHeld => ?_)
    refine wpAnyH_take (i := 0) (oi := { dst := some 44, op := Op.fieldAddr 25 (Operand.tmp 3) 2, type := 0, pos := "ref.go:92", after := #[], guard := none }) (v := ?_) rfl (by kernel_rfl) (by kernel_rfl) (by kernel_rfl) (fun _ _ _ h => h) (Or.inl ⟨by rfl, ?hyaaaaa0⟩) hHeld ?restaaaaa0
    case hyaaaaa0 =>
      intro w hSw
      try dsimp only at hSw
      go_simp
      try with_reducible rfl
    try simp only [Act.put, List.setIfInBounds_toArray, List.set_cons_zero, List.set_cons_succ]
    refine wpAnyH_take (i := 1) (oi := { dst := some 45, op := Op.load 3 (Operand.tmp 44), type := 3, pos := "ref.go:92", after := #[{ on := 0, ground := Ground.data }], guard := none }) (v := ?_) rfl (by kernel_rfl) (by kernel_rfl) (by kernel_rfl) (fun _ _ _ h => h) (Or.inl ⟨by rfl, ?hyaaaaa1⟩) hHeld ?restaaaaa1
    case hyaaaaa1 =>
      intro w hSw
      try dsimp only at hSw
      go_simp
      try with_reducible rfl
    try simp only [Act.put, List.setIfInBounds_toArray, List.set_cons_zero, List.set_cons_succ]
    refine wpAnyH_take (i := 2) (oi := { dst := some 46, op := Op.fieldAddr 33 (Operand.tmp 4) 0, type := 0, pos := "ref.go:92", after := #[], guard := none }) (v := ?_) rfl (by kernel_rfl) (by kernel_rfl) (by kernel_rfl) (fun _ _ _ h => h) (Or.inl ⟨by rfl, ?hyaaaaa2⟩) hHeld ?restaaaaa2
    case hyaaaaa2 =>
      intro w hSw
      try dsimp only at hSw
      go_simp
      try with_reducible rfl
    try simp only [Act.put, List.setIfInBounds_toArray, List.set_cons_zero, List.set_cons_succ]
    refine wpAnyH_take (i := 3) (oi := { dst := some 47, op := Op.load 3 (Operand.tmp 46), type := 3, pos := "ref.go:92", after := #[{ on := 2, ground := Ground.data }], guard := none }) (v := ?_) rfl (by kernel_rfl) (by kernel_rfl) (by kernel_rfl) (fun _ _ _ h => h) (Or.inl ⟨by rfl, ?hyaaaaa3⟩) hHeld ?restaaaaa3
    case hyaaaaa3 =>
      intro w hSw
      try dsimp only at hSw
      go_simp
      try with_reducible rfl
    try simp only [Act.put, List.setIfInBounds_toArray, List.set_cons_zero, List.set_cons_succ]
    refine wpAnyH_take (i := 4) (oi := { dst := some 48, op := Op.fieldAddr 25 (Operand.tmp 3) 1, type := 0, pos := "ref.go:92", after := #[], guard := none }) (v := ?_) rfl (by kernel_rfl) (by kernel_rfl) (by kernel_rfl) (fun _ _ _ h => h) (Or.inl ⟨by rfl, ?hyaaaaa4⟩) hHeld ?restaaaaa4
    case hyaaaaa4 =>
      intro w hSw
      try dsimp only at hSw
      go_simp
      try with_reducible rfl
    try simp only [Act.put, List.setIfInBounds_toArray, List.set_cons_zero, List.set_cons_succ]
    refine wpAnyH_take (i := 5) (oi := { dst := some 49, op := Op.load 3 (Operand.tmp 48), type := 3, pos := "ref.go:92", after := #[{ on := 4, ground := Ground.data }], guard := none }) (v := ?_) rfl (by kernel_rfl) (by kernel_rfl) (by kernel_rfl) (fun _ _ _ h => h) (Or.inl ⟨by rfl, ?hyaaaaa5⟩) hHeld ?restaaaaa5
    case hyaaaaa5 =>
      intro w hSw
      try dsimp only at hSw
      go_simp
      try with_reducible rfl
    try simp only [Act.put, List.setIfInBounds_toArray, List.set_cons_zero, List.set_cons_succ]
    refine wpAnyH_take (i := 6) (oi := { dst := some 50, op := Op.binOp BinOp.sub 3 (Operand.tmp 47) (Operand.tmp 49) 3, type := 3, pos := "ref.go:92", after := #[{ on := 3, ground := Ground.data }, { on := 5, ground := Ground.data }], guard := none }) (v := ?_) rfl (by kernel_rfl) (by kernel_rfl) (by kernel_rfl) (fun _ _ _ h => h) (Or.inl ⟨by rfl, ?hyaaaaa6⟩) hHeld ?restaaaaa6
    case hyaaaaa6 =>
      intro w hSw
      try dsimp only at hSw
      go_simp
      try with_reducible rfl
    try simp only [Act.put, List.setIfInBounds_toArray, List.set_cons_zero, List.set_cons_succ]
    refine wpAnyH_take (i := 7) (oi := { dst := some 51, op := Op.fieldAddr 25 (Operand.tmp 3) 0, type := 0, pos := "ref.go:92", after := #[], guard := none }) (v := ?_) rfl (by kernel_rfl) (by kernel_rfl) (by kernel_rfl) (fun _ _ _ h => h) (Or.inl ⟨by rfl, ?hyaaaaa7⟩) hHeld ?restaaaaa7
    case hyaaaaa7 =>
      intro w hSw
      try dsimp only at hSw
      go_simp
      try with_reducible rfl
    try simp only [Act.put, List.setIfInBounds_toArray, List.set_cons_zero, List.set_cons_succ]
    refine wpAnyH_take (i := 8) (oi := { dst := some 52, op := Op.load 3 (Operand.tmp 51), type := 3, pos := "ref.go:92", after := #[{ on := 7, ground := Ground.data }], guard := none }) (v := ?_) rfl (by kernel_rfl) (by kernel_rfl) (by kernel_rfl) (fun _ _ _ h => h) (Or.inl ⟨by rfl, ?hyaaaaa8⟩) hHeld ?restaaaaa8
    case hyaaaaa8 =>
      intro w hSw
      try dsimp only at hSw
      go_simp
      try with_reducible rfl
    try simp only [Act.put, List.setIfInBounds_toArray, List.set_cons_zero, List.set_cons_succ]
    refine wpAnyH_take (i := 9) (oi := { dst := some 53, op := Op.fieldAddr 33 (Operand.tmp 4) 0, type := 0, pos := "ref.go:92", after := #[], guard := none }) (v := ?_) rfl (by kernel_rfl) (by kernel_rfl) (by kernel_rfl) (fun _ _ _ h => h) (Or.inl ⟨by rfl, ?hyaaaaa9⟩) hHeld ?restaaaaa9
    case hyaaaaa9 =>
      intro w hSw
      try dsimp only at hSw
      go_simp
      try with_reducible rfl
    try simp only [Act.put, List.setIfInBounds_toArray, List.set_cons_zero, List.set_cons_succ]
    refine wpAnyH_take (i := 10) (oi := { dst := some 54, op := Op.load 3 (Operand.tmp 53), type := 3, pos := "ref.go:92", after := #[{ on := 9, ground := Ground.data }], guard := none }) (v := ?_) rfl (by kernel_rfl) (by kernel_rfl) (by kernel_rfl) (fun _ _ _ h => h) (Or.inl ⟨by rfl, ?hyaaaaa10⟩) hHeld ?restaaaaa10
    case hyaaaaa10 =>
      intro w hSw
      try dsimp only at hSw
      go_simp
      try with_reducible rfl
    try simp only [Act.put, List.setIfInBounds_toArray, List.set_cons_zero, List.set_cons_succ]
    refine wpAnyH_take (i := 11) (oi := { dst := some 55, op := Op.fieldAddr 33 (Operand.tmp 4) 2, type := 0, pos := "ref.go:92", after := #[], guard := none }) (v := ?_) rfl (by kernel_rfl) (by kernel_rfl) (by kernel_rfl) (fun _ _ _ h => h) (Or.inl ⟨by rfl, ?hyaaaaa11⟩) hHeld ?restaaaaa11
    case hyaaaaa11 =>
      intro w hSw
      try dsimp only at hSw
      go_simp
      try with_reducible rfl
    try simp only [Act.put, List.setIfInBounds_toArray, List.set_cons_zero, List.set_cons_succ]
    refine wpAnyH_take (i := 12) (oi := { dst := some 56, op := Op.load 4 (Operand.tmp 55), type := 4, pos := "ref.go:92", after := #[{ on := 11, ground := Ground.data }], guard := none }) (v := ?_) rfl (by kernel_rfl) (by kernel_rfl) (by kernel_rfl) (fun _ _ _ h => h) (Or.inl ⟨by rfl, ?hyaaaaa12⟩) hHeld ?restaaaaa12
    case hyaaaaa12 =>
      intro w hSw
      try dsimp only at hSw
      go_simp
      try with_reducible rfl
    try simp only [Act.put, List.setIfInBounds_toArray, List.set_cons_zero, List.set_cons_succ]
    refine wpAnyH_take (i := 13) (oi := { dst := some 57, op := Op.fieldAddr 33 (Operand.tmp 4) 1, type := 0, pos := "ref.go:92", after := #[], guard := none }) (v := ?_) rfl (by kernel_rfl) (by kernel_rfl) (by kernel_rfl) (fun _ _ _ h => h) (Or.inl ⟨by rfl, ?hyaaaaa13⟩) hHeld ?restaaaaa13
    case hyaaaaa13 =>
      intro w hSw
      try dsimp only at hSw
      go_simp
      try with_reducible rfl
    try simp only [Act.put, List.setIfInBounds_toArray, List.set_cons_zero, List.set_cons_succ]
    refine wpAnyH_take (i := 14) (oi := { dst := some 58, op := Op.load 3 (Operand.tmp 57), type := 3, pos := "ref.go:92", after := #[{ on := 13, ground := Ground.data }], guard := none }) (v := ?_) rfl (by kernel_rfl) (by kernel_rfl) (by kernel_rfl) (fun _ _ _ h => h) (Or.inl ⟨by rfl, ?hyaaaaa14⟩) hHeld ?restaaaaa14
    case hyaaaaa14 =>
      intro w hSw
      try dsimp only at hSw
      go_simp
      try with_reducible rfl
    try simp only [Act.put, List.setIfInBounds_toArray, List.set_cons_zero, List.set_cons_succ]
    refine wpAnyH_take (i := 16) (oi := { dst := some 60, op := Op.fieldAddr 25 (Operand.tmp 3) 0, type := 0, pos := "ref.go:92", after := #[], guard := none }) (v := ?_) rfl (by kernel_rfl) (by kernel_rfl) (by kernel_rfl) (fun _ _ _ h => h) (Or.inl ⟨by rfl, ?hyaaaaa16⟩) hHeld ?restaaaaa16
    case hyaaaaa16 =>
      intro w hSw
      try dsimp only at hSw
      go_simp
      try with_reducible rfl
    try simp only [Act.put, List.setIfInBounds_toArray, List.set_cons_zero, List.set_cons_succ]
    refine wpAnyH_take (i := 17) (oi := { dst := some 61, op := Op.load 3 (Operand.tmp 60), type := 3, pos := "ref.go:92", after := #[{ on := 16, ground := Ground.data }], guard := none }) (v := ?_) rfl (by kernel_rfl) (by kernel_rfl) (by kernel_rfl) (fun _ _ _ h => h) (Or.inl ⟨by rfl, ?hyaaaaa17⟩) hHeld ?restaaaaa17
    case hyaaaaa17 =>
      intro w hSw
      try dsimp only at hSw
      go_simp
      try with_reducible rfl
    try simp only [Act.put, List.setIfInBounds_toArray, List.set_cons_zero, List.set_cons_succ]
    refine wpAnyH_take (i := 18) (oi := { dst := some 62, op := Op.fieldAddr 33 (Operand.tmp 5) 0, type := 0, pos := "ref.go:92", after := #[], guard := none }) (v := ?_) rfl (by kernel_rfl) (by kernel_rfl) (by kernel_rfl) (fun _ _ _ h => h) (Or.inl ⟨by rfl, ?hyaaaaa18⟩) hHeld ?restaaaaa18
    case hyaaaaa18 =>
      intro w hSw
      try dsimp only at hSw
      go_simp
      try with_reducible rfl
    try simp only [Act.put, List.setIfInBounds_toArray, List.set_cons_zero, List.set_cons_succ]
    refine wpAnyH_take (i := 19) (oi := { dst := some 63, op := Op.load 3 (Operand.tmp 62), type := 3, pos := "ref.go:92", after := #[{ on := 18, ground := Ground.data }], guard := none }) (v := ?_) rfl (by kernel_rfl) (by kernel_rfl) (by kernel_rfl) (fun _ _ _ h => h) (Or.inl ⟨by rfl, ?hyaaaaa19⟩) hHeld ?restaaaaa19
    case hyaaaaa19 =>
      intro w hSw
      try dsimp only at hSw
      go_simp
      try with_reducible rfl
    try simp only [Act.put, List.setIfInBounds_toArray, List.set_cons_zero, List.set_cons_succ]
    refine wpAnyH_take (i := 20) (oi := { dst := some 64, op := Op.fieldAddr 33 (Operand.tmp 5) 2, type := 0, pos := "ref.go:92", after := #[], guard := none }) (v := ?_) rfl (by kernel_rfl) (by kernel_rfl) (by kernel_rfl) (fun _ _ _ h => h) (Or.inl ⟨by rfl, ?hyaaaaa20⟩) hHeld ?restaaaaa20
    case hyaaaaa20 =>
      intro w hSw
      try dsimp only at hSw
      go_simp
      try with_reducible rfl
    try simp only [Act.put, List.setIfInBounds_toArray, List.set_cons_zero, List.set_cons_succ]
    refine wpAnyH_take (i := 21) (oi := { dst := some 65, op := Op.load 4 (Operand.tmp 64), type := 4, pos := "ref.go:92", after := #[{ on := 20, ground := Ground.data }], guard := none }) (v := ?_) rfl (by kernel_rfl) (by kernel_rfl) (by kernel_rfl) (fun _ _ _ h => h) (Or.inl ⟨by rfl, ?hyaaaaa21⟩) hHeld ?restaaaaa21
    case hyaaaaa21 =>
      intro w hSw
      try dsimp only at hSw
      go_simp
      try with_reducible rfl
    try simp only [Act.put, List.setIfInBounds_toArray, List.set_cons_zero, List.set_cons_succ]
    refine wpAnyH_take (i := 22) (oi := { dst := some 66, op := Op.fieldAddr 33 (Operand.tmp 5) 1, type := 0, pos := "ref.go:92", after := #[], guard := none }) (v := ?_) rfl (by kernel_rfl) (by kernel_rfl) (by kernel_rfl) (fun _ _ _ h => h) (Or.inl ⟨by rfl, ?hyaaaaa22⟩) hHeld ?restaaaaa22
    case hyaaaaa22 =>
      intro w hSw
      try dsimp only at hSw
      go_simp
      try with_reducible rfl
    try simp only [Act.put, List.setIfInBounds_toArray, List.set_cons_zero, List.set_cons_succ]
    refine wpAnyH_take (i := 23) (oi := { dst := some 67, op := Op.load 3 (Operand.tmp 66), type := 3, pos := "ref.go:92", after := #[{ on := 22, ground := Ground.data }], guard := none }) (v := ?_) rfl (by kernel_rfl) (by kernel_rfl) (by kernel_rfl) (fun _ _ _ h => h) (Or.inl ⟨by rfl, ?hyaaaaa23⟩) hHeld ?restaaaaa23
    case hyaaaaa23 =>
      intro w hSw
      try dsimp only at hSw
      go_simp
      try with_reducible rfl
    try simp only [Act.put, List.setIfInBounds_toArray, List.set_cons_zero, List.set_cons_succ]
    refine wpAnyH_take (i := 25) (oi := { dst := some 69, op := Op.fieldAddr 33 (Operand.tmp 4) 3, type := 0, pos := "ref.go:92", after := #[], guard := none }) (v := ?_) rfl (by kernel_rfl) (by kernel_rfl) (by kernel_rfl) (fun _ _ _ h => h) (Or.inl ⟨by rfl, ?hyaaaaa25⟩) hHeld ?restaaaaa25
    case hyaaaaa25 =>
      intro w hSw
      try dsimp only at hSw
      go_simp
      try with_reducible rfl
    try simp only [Act.put, List.setIfInBounds_toArray, List.set_cons_zero, List.set_cons_succ]
    refine wpAnyH_take (i := 26) (oi := { dst := some 70, op := Op.load 31 (Operand.tmp 69), type := 31, pos := "ref.go:92", after := #[{ on := 25, ground := Ground.data }], guard := none }) (v := ?_) rfl (by kernel_rfl) (by kernel_rfl) (by kernel_rfl) (fun _ _ _ h => h) (Or.inl ⟨by rfl, ?hyaaaaa26⟩) hHeld ?restaaaaa26
    case hyaaaaa26 =>
      intro w hSw
      try dsimp only at hSw
      go_simp
      try with_reducible rfl
    try simp only [Act.put, List.setIfInBounds_toArray, List.set_cons_zero, List.set_cons_succ]
    refine wpAnyH_take (i := 27) (oi := { dst := some 71, op := Op.fieldAddr 33 (Operand.tmp 5) 3, type := 0, pos := "ref.go:92", after := #[], guard := none }) (v := ?_) rfl (by kernel_rfl) (by kernel_rfl) (by kernel_rfl) (fun _ _ _ h => h) (Or.inl ⟨by rfl, ?hyaaaaa27⟩) hHeld ?restaaaaa27
    case hyaaaaa27 =>
      intro w hSw
      try dsimp only at hSw
      go_simp
      try with_reducible rfl
    try simp only [Act.put, List.setIfInBounds_toArray, List.set_cons_zero, List.set_cons_succ]
    refine wpAnyH_take (i := 28) (oi := { dst := some 72, op := Op.load 31 (Operand.tmp 71), type := 31, pos := "ref.go:92", after := #[{ on := 27, ground := Ground.data }], guard := none }) (v := ?_) rfl (by kernel_rfl) (by kernel_rfl) (by kernel_rfl) (fun _ _ _ h => h) (Or.inl ⟨by rfl, ?hyaaaaa28⟩) hHeld ?restaaaaa28
    case hyaaaaa28 =>
      intro w hSw
      try dsimp only at hSw
      go_simp
      try with_reducible rfl
    try simp only [Act.put, List.setIfInBounds_toArray, List.set_cons_zero, List.set_cons_succ]
    refine wpAnyH_ready (rs := [15]) (by kernel_rfl) (by simp) (AllReadyH.cons (o := { dst := some 59, op := Op.call { callee := Callee.value (Operand.func 47), args := #[Operand.tmp 52, Operand.tmp 54, Operand.tmp 56, Operand.tmp 58], argTypes := #[3, 3, 4, 3] }, type := 48, pos := "ref.go:92", after := #[{ on := 8, ground := Ground.data }, { on := 10, ground := Ground.data }, { on := 12, ground := Ground.data }, { on := 14, ground := Ground.data }], guard := none }) rfl (fun K hK => ?_) AllReadyH.nil)
    go_simp
    go_at_call 47
    refine (hCa.out _).mono ?_
    unfold JoinC
    rw [hna.out]
    rintro e w7 ⟨A7, c7, rfl, h71, h72, h73, hb7, -⟩
    replace h73 := Lib.hid h73
    clear h71 h72
    have HB2 := HB.trans (hb7.mono HB.size)
    clear HB hb7
    have HB := HB2
    clear HB2
    refine hK.out _ _ (by exact hSp.out _ HB) (fun hHeld' => ?_)
    clear hK K hHeld
    have hHeld := hHeld'
    clear hHeld'
    try simp only [Act.put, List.setIfInBounds_toArray, List.set_cons_zero, List.set_cons_succ]
    refine wpAnyH_ready (rs := [24]) (by kernel_rfl) (by simp) (AllReadyH.cons (o := { dst := some 68, op := Op.call { callee := Callee.value (Operand.func 47), args := #[Operand.tmp 61, Operand.tmp 63, Operand.tmp 65, Operand.tmp 67], argTypes := #[3, 3, 4, 3] }, type := 48, pos := "ref.go:92", after := #[{ on := 17, ground := Ground.data }, { on := 19, ground := Ground.data }, { on := 21, ground := Ground.data }, { on := 23, ground := Ground.data }, { on := 15, ground := Ground.chain }], guard := none }) rfl (fun K hK => ?_) AllReadyH.nil)
    go_simp
    go_at_call 47
    refine (hCb.out _).mono ?_
    unfold JoinC
    rw [hnb.out]
    rintro e w8 ⟨A8, c8, rfl, h81, h82, h83, hb8, -⟩
    replace h73 := Lib.hid (h73.out.below hb8)
    replace h83 := Lib.hid h83
    clear h81 h82
    have HB2 := HB.trans (hb8.mono HB.size)
    clear HB hb8
    have HB := HB2
    clear HB2
    refine hK.out _ _ (by exact hSp.out _ HB) (fun hHeld' => ?_)
    clear hK K hHeld
    have hHeld := hHeld'
    clear hHeld'
    try simp only [Act.put, List.setIfInBounds_toArray, List.set_cons_zero, List.set_cons_succ]
    refine wpAnyH_ready (rs := [29]) (by kernel_rfl) (by simp) (AllReadyH.cons (o := { dst := some 73, op := Op.call { callee := Callee.value (Operand.func 46), args := #[Operand.tmp 45, Operand.tmp 50, Operand.tmp 59, Operand.tmp 68, Operand.tmp 70, Operand.tmp 72], argTypes := #[3, 3, 48, 48, 31, 31] }, type := 49, pos := "ref.go:92", after := #[{ on := 1, ground := Ground.data }, { on := 6, ground := Ground.data }, { on := 15, ground := Ground.data }, { on := 24, ground := Ground.data }, { on := 26, ground := Ground.data }, { on := 28, ground := Ground.data }, { on := 24, ground := Ground.chain }], guard := none }) rfl (fun K hK => ?_) AllReadyH.nil)
    go_simp
    go_at_call 46
    refine (hCo.out _ _ _ _ _ (hw6.out.trans (HB.mono hw6.out.size)) h73.out h83.out).mono ?_
    unfold CoC
    rintro e w9 ⟨A9, c9, B9, d9, rfl, h91, h92, hb9⟩
    replace h91 := Lib.hid h91
    replace h92 := Lib.hid h92
    have HB2 := HB.trans (hb9.mono HB.size)
    clear HB hb9
    have HB := HB2
    clear HB2
    refine hK.out _ _ (by exact hSp.out _ HB) (fun hHeld' => ?_)
    clear hK K hHeld
    have hHeld := hHeld'
    clear hHeld'
    try simp only [Act.put, List.setIfInBounds_toArray, List.set_cons_zero, List.set_cons_succ]
    refine wpAnyH_take (i := 30) (oi := { dst := some 74, op := Op.extract (Operand.tmp 73) 0, type := 48, pos := "ref.go:92", after := #[{ on := 29, ground := Ground.data }], guard := none }) (v := ?_) rfl (by kernel_rfl) (by kernel_rfl) (by kernel_rfl) (fun _ _ _ h => h) (Or.inl ⟨by rfl, ?hyaaaaa30⟩) hHeld ?restaaaaa30
    case hyaaaaa30 =>
      intro w hSw
      try dsimp only at hSw
      go_simp
      try with_reducible rfl
    try simp only [Act.put, List.setIfInBounds_toArray, List.set_cons_zero, List.set_cons_succ]
    refine wpAnyH_take (i := 31) (oi := { dst := some 75, op := Op.extract (Operand.tmp 73) 1, type := 48, pos := "ref.go:92", after := #[{ on := 29, ground := Ground.data }], guard := none }) (v := ?_) rfl (by kernel_rfl) (by kernel_rfl) (by kernel_rfl) (fun _ _ _ h => h) (Or.inl ⟨by rfl, ?hyaaaaa31⟩) hHeld ?restaaaaa31
    case hyaaaaa31 =>
      intro w hSw
      try dsimp only at hSw
      go_simp
      try with_reducible rfl
    try simp only [Act.put, List.setIfInBounds_toArray, List.set_cons_zero, List.set_cons_succ]
    refine wpAnyH_take (i := 32) (oi := { dst := some 76, op := Op.extract (Operand.tmp 73) 2, type := 4, pos := "ref.go:92", after := #[{ on := 29, ground := Ground.data }], guard := none }) (v := ?_) rfl (by kernel_rfl) (by kernel_rfl) (by kernel_rfl) (fun _ _ _ h => h) (Or.inl ⟨by rfl, ?hyaaaaa32⟩) hHeld ?restaaaaa32
    case hyaaaaa32 =>
      intro w hSw
      try dsimp only at hSw
      go_simp
      try with_reducible rfl
    try simp only [Act.put, List.setIfInBounds_toArray, List.set_cons_zero, List.set_cons_succ]
    refine wpAnyH_take (i := 33) (oi := { dst := some 6, op := Op.assign (Operand.tmp 74), type := 48, pos := "ref.go:92", after := #[{ on := 30, ground := Ground.data }, { on := 29, ground := Ground.chain }, { on := 0, ground := Ground.phase }, { on := 1, ground := Ground.phase }, { on := 2, ground := Ground.phase }, { on := 3, ground := Ground.phase }, { on := 4, ground := Ground.phase }, { on := 5, ground := Ground.phase }, { on := 6, ground := Ground.phase }, { on := 7, ground := Ground.phase }, { on := 8, ground := Ground.phase }, { on := 9, ground := Ground.phase }, { on := 10, ground := Ground.phase }, { on := 11, ground := Ground.phase }, { on := 12, ground := Ground.phase }, { on := 13, ground := Ground.phase }, { on := 14, ground := Ground.phase }, { on := 15, ground := Ground.phase }, { on := 16, ground := Ground.phase }, { on := 17, ground := Ground.phase }, { on := 18, ground := Ground.phase }, { on := 19, ground := Ground.phase }, { on := 20, ground := Ground.phase }, { on := 21, ground := Ground.phase }, { on := 22, ground := Ground.phase }, { on := 23, ground := Ground.phase }, { on := 24, ground := Ground.phase }, { on := 25, ground := Ground.phase }, { on := 26, ground := Ground.phase }, { on := 27, ground := Ground.phase }, { on := 28, ground := Ground.phase }, { on := 29, ground := Ground.phase }, { on := 30, ground := Ground.phase }, { on := 31, ground := Ground.phase }, { on := 32, ground := Ground.phase }], guard := none }) (v := ?_) rfl (by kernel_rfl) (by kernel_rfl) (by kernel_rfl) (fun _ _ _ h => h) (Or.inl ⟨by rfl, ?hyaaaaa33⟩) hHeld ?restaaaaa33
    case hyaaaaa33 =>
      intro w hSw
      try dsimp only at hSw
      go_simp
      try with_reducible rfl
    try simp only [Act.put, List.setIfInBounds_toArray, List.set_cons_zero, List.set_cons_succ]
    refine wpAnyH_take (i := 34) (oi := { dst := some 7, op := Op.assign (Operand.tmp 75), type := 48, pos := "ref.go:92", after := #[{ on := 31, ground := Ground.data }, { on := 33, ground := Ground.chain }, { on := 0, ground := Ground.phase }, { on := 1, ground := Ground.phase }, { on := 2, ground := Ground.phase }, { on := 3, ground := Ground.phase }, { on := 4, ground := Ground.phase }, { on := 5, ground := Ground.phase }, { on := 6, ground := Ground.phase }, { on := 7, ground := Ground.phase }, { on := 8, ground := Ground.phase }, { on := 9, ground := Ground.phase }, { on := 10, ground := Ground.phase }, { on := 11, ground := Ground.phase }, { on := 12, ground := Ground.phase }, { on := 13, ground := Ground.phase }, { on := 14, ground := Ground.phase }, { on := 15, ground := Ground.phase }, { on := 16, ground := Ground.phase }, { on := 17, ground := Ground.phase }, { on := 18, ground := Ground.phase }, { on := 19, ground := Ground.phase }, { on := 20, ground := Ground.phase }, { on := 21, ground := Ground.phase }, { on := 22, ground := Ground.phase }, { on := 23, ground := Ground.phase }, { on := 24, ground := Ground.phase }, { on := 25, ground := Ground.phase }, { on := 26, ground := Ground.phase }, { on := 27, ground := Ground.phase }, { on := 28, ground := Ground.phase }, { on := 29, ground := Ground.phase }, { on := 30, ground := Ground.phase }, { on := 31, ground := Ground.phase }, { on := 32, ground := Ground.phase }, { on := 33, ground := Ground.phase }], guard := none }) (v := ?_) rfl (by kernel_rfl) (by kernel_rfl) (by kernel_rfl) (fun _ _ _ h => h) (Or.inl ⟨by rfl, ?hyaaaaa34⟩) hHeld ?restaaaaa34
    case hyaaaaa34 =>
      intro w hSw
      try dsimp only at hSw
      go_simp
      try with_reducible rfl
    try simp only [Act.put, List.setIfInBounds_toArray, List.set_cons_zero, List.set_cons_succ]
    refine wpAnyH_take (i := 35) (oi := { dst := some 8, op := Op.assign (Operand.tmp 76), type := 4, pos := "ref.go:92", after := #[{ on := 32, ground := Ground.data }, { on := 34, ground := Ground.chain }, { on := 0, ground := Ground.phase }, { on := 1, ground := Ground.phase }, { on := 2, ground := Ground.phase }, { on := 3, ground := Ground.phase }, { on := 4, ground := Ground.phase }, { on := 5, ground := Ground.phase }, { on := 6, ground := Ground.phase }, { on := 7, ground := Ground.phase }, { on := 8, ground := Ground.phase }, { on := 9, ground := Ground.phase }, { on := 10, ground := Ground.phase }, { on := 11, ground := Ground.phase }, { on := 12, ground := Ground.phase }, { on := 13, ground := Ground.phase }, { on := 14, ground := Ground.phase }, { on := 15, ground := Ground.phase }, { on := 16, ground := Ground.phase }, { on := 17, ground := Ground.phase }, { on := 18, ground := Ground.phase }, { on := 19, ground := Ground.phase }, { on := 20, ground := Ground.phase }, { on := 21, ground := Ground.phase }, { on := 22, ground := Ground.phase }, { on := 23, ground := Ground.phase }, { on := 24, ground := Ground.phase }, { on := 25, ground := Ground.phase }, { on := 26, ground := Ground.phase }, { on := 27, ground := Ground.phase }, { on := 28, ground := Ground.phase }, { on := 29, ground := Ground.phase }, { on := 30, ground := Ground.phase }, { on := 31, ground := Ground.phase }, { on := 32, ground := Ground.phase }, { on := 33, ground := Ground.phase }, { on := 34, ground := Ground.phase }], guard := none }) (v := ?_) rfl (by kernel_rfl) (by kernel_rfl) (by kernel_rfl) (fun _ _ _ h => h) (Or.inl ⟨by rfl, ?hyaaaaa35⟩) hHeld ?restaaaaa35
    case hyaaaaa35 =>
      intro w hSw
      try dsimp only at hSw
      go_simp
      try with_reducible rfl
    try simp only [Act.put, List.setIfInBounds_toArray, List.set_cons_zero, List.set_cons_succ]
    refine wpAnyH_done (by kernel_rfl) ?_ _
    go_wp2_with fail
    refine bodyPost_ret (v := .tuple #[.slice A9 R.1.length c9, .slice B9 R.2.1.length d9, .bool R.2.2]) (by simp [results, Tryd.results22, go_sem]) rfl ⟨A9, c9, B9, d9, rfl, h91.out, h92.out, hw6.out.trans (HB.mono hw6.out.size)⟩
set_option maxRecDepth 100000 in
set_option maxHeartbeats 8000000 in
theorem rclash_no (w : World) (S : List Value) (t f m ad as_ bd bs_ : Int) (ab bb : Bool) (P Q : Option Addr) (ka kb cp cq : Nat) (c1 c2 : Bool) (hA : Hid (∀ V, Below w.heap.size w V → Calls Tryd.prog 24 #[.agg S.toArray, .agg #[.int .i64 ad, .int .i64 as_, .bool ab, .slice P ka cp]] V fun e w' => e = .returned (.bool c1) ∧ Below V.heap.size V w')) (hB : Hid (∀ V, Below w.heap.size w V → Calls Tryd.prog 24 #[.agg S.toArray, .agg #[.int .i64 bd, .int .i64 bs_, .bool bb, .slice Q kb cq]] V fun e w' => e = .returned (.bool c2) ∧ Below V.heap.size V w')) (hS0 : S[0]? = some (.int .i64 t)) (hS1 : S[1]? = some (.int .i64 f)) (hS2 : S[2]? = some (.int .i64 m)) (pil : Hid ((Tryd.prog.info? 25).map (·.size) = some S.length)) (hno : (c1 && (c2 && (decide (ad = bd) && !(ab == bb && decide (as_ = bs_))))) = false) :
    Calls Tryd.prog 22 #[.agg S.toArray, .agg #[.int .i64 ad, .int .i64 as_, .bool ab, .slice P ka cp], .agg #[.int .i64 bd, .int .i64 bs_, .bool bb, .slice Q kb cq]] w (CoC ([], [], false) w) := by
  obtain ⟨W3, hW3⟩ : ∃ W3, W3 = (((w.alloc (.cells S.toArray 25)).alloc (.cells #[.int .i64 ad, .int .i64 as_, .bool ab, .slice P ka cp] 33)).alloc (.cells #[.int .i64 bd, .int .i64 bs_, .bool bb, .slice Q kb cq] 33)) := ⟨_, rfl⟩
  have hB1 : Below w.heap.size w (((w.alloc (.cells S.toArray 25)).alloc (.cells #[.int .i64 ad, .int .i64 as_, .bool ab, .slice P ka cp] 33)).alloc (.cells #[.int .i64 bd, .int .i64 bs_, .bool bb, .slice Q kb cq] 33)) := (((Below.refl _ _).alloc (Nat.le_refl _) _).alloc (by simp) _).alloc (by simp; omega) _
  have hcells : Hid (∀ V, Below W3.heap.size W3 V → (V.rangeAt w.heap.size 0 S) ∧ (V.cell? ⟨w.heap.size + 1, 0, none⟩ = some (.int .i64 ad) ∧ V.cell? ⟨w.heap.size + 1, 1, none⟩ = some (.int .i64 as_) ∧ V.cell? ⟨w.heap.size + 1, 2, none⟩ = some (.bool ab) ∧ V.cell? ⟨w.heap.size + 1, 3, none⟩ = some (.slice P ka cp)) ∧ (V.cell? ⟨w.heap.size + 1 + 1, 0, none⟩ = some (.int .i64 bd) ∧ V.cell? ⟨w.heap.size + 1 + 1, 1, none⟩ = some (.int .i64 bs_) ∧ V.cell? ⟨w.heap.size + 1 + 1, 2, none⟩ = some (.bool bb) ∧ V.cell? ⟨w.heap.size + 1 + 1, 3, none⟩ = some (.slice Q kb cq)) ∧ (V.cell? ⟨w.heap.size, 0, none⟩ = some (.int .i64 t) ∧ V.cell? ⟨w.heap.size, 1, none⟩ = some (.int .i64 f) ∧ V.cell? ⟨w.heap.size, 2, none⟩ = some (.int .i64 m)) ∧ V.rangeAt (w.heap.size + 1) 0 [.int .i64 ad, .int .i64 as_, .bool ab, .slice P ka cp] ∧ V.rangeAt (w.heap.size + 1 + 1) 0 [.int .i64 bd, .int .i64 bs_, .bool bb, .slice Q kb cq]) := Lib.hid fun V hV => by
    subst hW3
    exact clash_cells w S t f m ad as_ bd bs_ ab bb P Q ka kb cp cq hS0 hS1 hS2 V hV
  have hl0 := (hcells.out _ (Below.refl _ _)).1
  rw [← hW3] at hB1
  replace hl0 := Lib.hid hl0
  clear hS0 hS1 hS2
  cases c1 with
  | false =>
    clear hno
    rw [hW3] at hl0
    go_enter Tryd.func22, Tryd.ntmps22
    go_wp2_with (refine wpList_load_midG (by rfl) 25 (.tmp 3) (by rfl) w.heap.size 0 (by rfl) S _ hl0.out Tryd.underlying25 (by rfl) pil.out ?_)
    rw [← hW3]
    refine (hA.out _ hB1).mono ?_
    rintro e w4 ⟨rfl, hb4⟩
    obtain ⟨hl4, ⟨y0, y1, y2, y3⟩, ⟨z0, z1, z2, z3⟩, -, -, -⟩ := hcells.out w4 hb4
    replace hl4 := Lib.hid hl4
    have hB4 := hB1.trans (hb4.mono hB1.size)
    go_wp2_with (refine wpList_load_midG (by rfl) 25 (.tmp 3) (by rfl) w.heap.size 0 (by rfl) S _ hl4.out Tryd.underlying25 (by rfl) pil.out ?_)
    refine (hB.out _ hB4).mono ?_
    rintro e w5 ⟨rfl, hb5⟩
    clear hl4 y0 y1 y2 y3 z0 z1 z2 z3
    obtain ⟨-, ⟨y0, y1, y2, y3⟩, ⟨z0, z1, z2, z3⟩, ⟨x0, x1, x2⟩, -, -⟩ := hcells.out w5 (hb4.trans (hb5.mono hb4.size))
    have hB5 := hB4.trans (hb5.mono hB4.size)
    go_wp2_with fail
    refine bodyPost_ret (v := .tuple #[.slice none 0 0, .slice none 0 0, .bool false]) (by simp [results, Tryd.results22, go_sem]) rfl ⟨none, 0, none, 0, rfl, ato_nil _, ato_nil _, hB5⟩
  | true =>
    cases c2 with
    | false =>
      clear hno
      rw [hW3] at hl0
      go_enter Tryd.func22, Tryd.ntmps22
      go_wp2_with (refine wpList_load_midG (by rfl) 25 (.tmp 3) (by rfl) w.heap.size 0 (by rfl) S _ hl0.out Tryd.underlying25 (by rfl) pil.out ?_)
      rw [← hW3]
      refine (hA.out _ hB1).mono ?_
      rintro e w4 ⟨rfl, hb4⟩
      obtain ⟨hl4, ⟨y0, y1, y2, y3⟩, ⟨z0, z1, z2, z3⟩, -, -, -⟩ := hcells.out w4 hb4
      replace hl4 := Lib.hid hl4
      have hB4 := hB1.trans (hb4.mono hB1.size)
      go_wp2_with (refine wpList_load_midG (by rfl) 25 (.tmp 3) (by rfl) w.heap.size 0 (by rfl) S _ hl4.out Tryd.underlying25 (by rfl) pil.out ?_)
      refine (hB.out _ hB4).mono ?_
      rintro e w5 ⟨rfl, hb5⟩
      clear hl4 y0 y1 y2 y3 z0 z1 z2 z3
      obtain ⟨-, ⟨y0, y1, y2, y3⟩, ⟨z0, z1, z2, z3⟩, ⟨x0, x1, x2⟩, -, -⟩ := hcells.out w5 (hb4.trans (hb5.mono hb4.size))
      have hB5 := hB4.trans (hb5.mono hB4.size)
      go_wp2_with fail
      refine bodyPost_ret (v := .tuple #[.slice none 0 0, .slice none 0 0, .bool false]) (by simp [results, Tryd.results22, go_sem]) rfl ⟨none, 0, none, 0, rfl, ato_nil _, ato_nil _, hB5⟩
    | true =>
      by_cases c3 : ad = bd
      · subst c3
        have hno2 : (ab == bb && decide (as_ = bs_)) = true := by simpa using hno
        rw [Bool.and_eq_true] at hno2
        obtain ⟨c4, c5⟩ := hno2
        obtain rfl : ab = bb := by simpa using c4
        obtain rfl : as_ = bs_ := of_decide_eq_true c5
        clear c4 c5 hno
        rw [hW3] at hl0
        go_enter Tryd.func22, Tryd.ntmps22
        go_wp2_with (refine wpList_load_midG (by rfl) 25 (.tmp 3) (by rfl) w.heap.size 0 (by rfl) S _ hl0.out Tryd.underlying25 (by rfl) pil.out ?_)
        rw [← hW3]
        refine (hA.out _ hB1).mono ?_
        rintro e w4 ⟨rfl, hb4⟩
        obtain ⟨hl4, ⟨y0, y1, y2, y3⟩, ⟨z0, z1, z2, z3⟩, -, -, -⟩ := hcells.out w4 hb4
        replace hl4 := Lib.hid hl4
        have hB4 := hB1.trans (hb4.mono hB1.size)
        go_wp2_with (refine wpList_load_midG (by rfl) 25 (.tmp 3) (by rfl) w.heap.size 0 (by rfl) S _ hl4.out Tryd.underlying25 (by rfl) pil.out ?_)
        refine (hB.out _ hB4).mono ?_
        rintro e w5 ⟨rfl, hb5⟩
        clear hl4 y0 y1 y2 y3 z0 z1 z2 z3
        obtain ⟨-, ⟨y0, y1, y2, y3⟩, ⟨z0, z1, z2, z3⟩, ⟨x0, x1, x2⟩, -, -⟩ := hcells.out w5 (hb4.trans (hb5.mono hb4.size))
        have hB5 := hB4.trans (hb5.mono hB4.size)
        go_wp2_with fail
        refine bodyPost_ret (v := .tuple #[.slice none 0 0, .slice none 0 0, .bool false]) (by simp [results, Tryd.results22, go_sem]) rfl ⟨none, 0, none, 0, rfl, ato_nil _, ato_nil _, hB5⟩
      · have d3 : (ad == bd) = false := by simpa using c3
        clear hno
        rw [hW3] at hl0
        go_enter Tryd.func22, Tryd.ntmps22
        go_wp2_with (refine wpList_load_midG (by rfl) 25 (.tmp 3) (by rfl) w.heap.size 0 (by rfl) S _ hl0.out Tryd.underlying25 (by rfl) pil.out ?_)
        rw [← hW3]
        refine (hA.out _ hB1).mono ?_
        rintro e w4 ⟨rfl, hb4⟩
        obtain ⟨hl4, ⟨y0, y1, y2, y3⟩, ⟨z0, z1, z2, z3⟩, -, -, -⟩ := hcells.out w4 hb4
        replace hl4 := Lib.hid hl4
        have hB4 := hB1.trans (hb4.mono hB1.size)
        go_wp2_with (refine wpList_load_midG (by rfl) 25 (.tmp 3) (by rfl) w.heap.size 0 (by rfl) S _ hl4.out Tryd.underlying25 (by rfl) pil.out ?_)
        refine (hB.out _ hB4).mono ?_
        rintro e w5 ⟨rfl, hb5⟩
        clear hl4 y0 y1 y2 y3 z0 z1 z2 z3
        obtain ⟨-, ⟨y0, y1, y2, y3⟩, ⟨z0, z1, z2, z3⟩, ⟨x0, x1, x2⟩, -, -⟩ := hcells.out w5 (hb4.trans (hb5.mono hb4.size))
        have hB5 := hB4.trans (hb5.mono hB4.size)
        go_wp2_with fail
        refine bodyPost_ret (v := .tuple #[.slice none 0 0, .slice none 0 0, .bool false]) (by simp [results, Tryd.results22, go_sem]) rfl ⟨none, 0, none, 0, rfl, ato_nil _, ato_nil _, hB5⟩
set_option maxRecDepth 100000 in
set_option maxHeartbeats 8000000 in
theorem rclash_any (s : Sl) (hs : SlI s) (a b : Op) (ha : OpI a) (hb : OpI b) (ka kb : Nat) (hka : a.path.length = ka) (hkb : b.path.length = kb) (P Q : Option Addr) (cp cq : Nat) (hcp : ka ≤ cp) (hcq : kb ≤ cq) (hksa : ka ≤ 65536) (hksb : kb ≤ 65536) (w : World) (hp : DsAt w P a.path) (hq : DsAt w Q b.path) (hL : Laid w) :
    Calls Tryd.prog 22 #[.agg (slA s), .agg #[.int .i64 a.day, .int .i64 a.salt, .bool a.bl, .slice P ka cp], .agg #[.int .i64 b.day, .int .i64 b.salt, .bool b.bl, .slice Q kb cq]] w (CoC (clS s a b) w) := by
  have pil : Hid ((Tryd.prog.info? 25).map (·.size) = some (slC s).length) := Lib.hid (by have := sl_info hs.root; simpa [slA] using this)
  have hA : Hid (∀ V, Below w.heap.size w V → Calls Tryd.prog 24 #[.agg (slC s).toArray, .agg #[.int .i64 a.day, .int .i64 a.salt, .bool a.bl, .slice P ka cp]] V fun e w' => e = .returned (.bool (chkS s a)) ∧ Below V.heap.size V w') := Lib.hid fun V hV => rchk_any s hs a.day a.salt a.bl a.path ha ka hka P cp hcp V (hp.below hV)
  have hB : Hid (∀ V, Below w.heap.size w V → Calls Tryd.prog 24 #[.agg (slC s).toArray, .agg #[.int .i64 b.day, .int .i64 b.salt, .bool b.bl, .slice Q kb cq]] V fun e w' => e = .returned (.bool (chkS s b)) ∧ Below V.heap.size V w') := Lib.hid fun V hV => rchk_any s hs b.day b.salt b.bl b.path hb kb hkb Q cq hcq V (hq.below hV)
  by_cases hg : clG s a b = true
  · obtain ⟨y1, y2, y3, y4⟩ := clG_yes hg
    obtain ⟨i1, i2, i3, i4, i5⟩ := chkS_in y1
    rw [clS, if_pos hg]
    rw [y1] at hA
    rw [y2, ← y3] at hB
    rw [← y3]
    have hwr : IntKind.i64.wrap (a.day - s.f) = a.day - s.f := IntWalk.i64_in _ (by omega)
    have hla := (leaf_sm (b := a.bl) hs.t ha.day ha.salt).2
    have hlb : (leafM s.t a.day b.bl b.salt).length ≤ 1000 := by rw [y3]; exact (leaf_sm (b := b.bl) hs.t hb.day hb.salt).2
    exact rclash_go w (slC s) s.t s.f s.m a.day a.salt b.salt a.bl b.bl P Q ka kb cp cq (leafM s.t a.day a.bl a.salt) (leafM s.t a.day b.bl b.salt) _ _ (Lib.hid rfl) (Lib.hid rfl) _ hA hB rfl rfl rfl pil (Lib.hid (fun V => rleaf_any s.t a.day a.salt a.bl hs.t ha.day ha.salt V)) (Lib.hid (fun V => by rw [y3]; exact rleaf_any s.t b.day b.salt b.bl hs.t hb.day hb.salt V)) (Lib.hid fun V A cA B cB hV hA hB => rcoll_any s.m (a.day - s.f) (leafM s.t a.day a.bl a.salt) (leafM s.t a.day b.bl b.salt) _ _ rfl rfl (by omega) (by omega) A B cA cB a.path b.path ka kb hka hkb hksa hksb P Q cp cq hcp hcq V hA hB (hp.below hV) (hq.below hV) ha.path hb.path (hL.below hV)) hwr y4
  · rw [clS, if_neg hg]
    exact rclash_no w (slC s) s.t s.f s.m a.day a.salt b.day b.salt a.bl b.bl P Q ka kb cp cq (chkS s a) (chkS s b) hA hB rfl rfl rfl pil (by simpa [clG] using hg)
end Go.Proofs.YtnccbhndlnkboaaDoor
