/- The walks of the reference of offices (Text, Check, Convict, Find, Announce, Shows). -/
import Derived.Test.YthokpfegfnpmhaaDoorRefCal
import Derived.Test.YthokpfegfnpmhaaDoorOffAnn
import Derived.Test.YthokpfegfnpmhaaDoorOffFind
import Derived.Test.YthokpfegfnpmhaaDoorOffShows
import Derived.Deep.RegionHeld3
namespace Go.Proofs.YthokpfegfnpmhaaDoor
open Go.RowKit Go.Shelf Jac Cdc Sha
set_option linter.unusedVariables false
set_option linter.unusedSimpArgs false

set_option maxRecDepth 100000 in
set_option maxHeartbeats 4000000 in
theorem rtextP_any (p : Po) (hp : p.root.length = 32) (hno : I64 p.no) (w : World) :
    Calls Tryd.prog 60 #[.agg (poA p)] w (TxC (poT p) w) := by
  have hsm := po_sm p hp hno
  have hrow := heap_alloc_new w (.cells (poA p) 49)
  have hB := (Below.refl w.heap.size w).alloc (Nat.le_refl _) (.cells (poA p) 49)
  have hlt := (Array.getElem?_eq_some_iff.1 hrow).1
  obtain ⟨W, hW⟩ : ∃ W, w.alloc (.cells (poA p) 49) = W := ⟨_, rfl⟩
  rw [hW] at hrow hB hlt
  have hS : Hid (∀ V, Below W.heap.size W V → V.cell? ⟨w.heap.size, 0, none⟩ = some (.int .i64 p.no) ∧ (convert 23 9 (.slice (some ⟨w.heap.size, 1, none⟩) 32 32)).run Tryd.prog V = .ok (.string ⟨p.root.toArray⟩) V) := Lib.hid fun V hV => by
    have h := (hV.block w.heap.size hlt).trans hrow
    exact ⟨(po_cells hp h).1, (po_at h).conv 32 32 hp⟩
  have henc : Hid (∀ (V : World) (k : Nat), k = V.heap.size → ∀ V2, Below (V.alloc (.cells #[.int .i64 2, .int .i64 0, .string postB, .slice none 0 0, .int .i64 1, .int .i64 p.no, .string ⟨#[]⟩, .slice none 0 0, .int .i64 2, .int .i64 0, .string ⟨p.root.toArray⟩, .slice none 0 0] 80)).heap.size (V.alloc (.cells #[.int .i64 2, .int .i64 0, .string postB, .slice none 0 0, .int .i64 1, .int .i64 p.no, .string ⟨#[]⟩, .slice none 0 0, .int .i64 2, .int .i64 0, .string ⟨p.root.toArray⟩, .slice none 0 0] 80)) V2 →
      Calls Tryd.prog 67 #[.agg #[.int .i64 3, .int .i64 0, .string ⟨#[]⟩, .slice (some ⟨k, 0, none⟩) 3 3]] V2 (EncC (poT p) V2)) := Lib.hid fun V k hk V2 hB2 =>
    rencode_fit 1 (lV (poL p)) (.slice (some ⟨k, 0, none⟩) 3 3) V2 ((flat_rs V (poL p) _ rfl k 3 3 hk rfl (by omega) (by simp [poL, sV, iV, tV])).below hB2) hsm.1 (by simp [lV, poL, sV, iV, tV, dp, dpL]) (Nat.le_trans hsm.2.1 (by decide)) hsm.2.2
  have hpT : Hid ((poT p).length ≤ 1000) := Lib.hid hsm.2.1
  have HB : Below W.heap.size W W.drew := (Below.refl _ _).drew
  replace hB := Lib.hid hB
  unfold TxC
  clear hrow hlt hsm
  go_enter Tryd.func60, Tryd.ntmps60
  go_wp2_with fail
  try rw [hW]
  clear hW
  go_region_held3 (fun w' => w'.cell? ⟨w.heap.size, 0, none⟩ = some (.int .i64 p.no) ∧ (convert 23 9 (.slice (some ⟨w.heap.size, 1, none⟩) 32 32)).run Tryd.prog w' = .ok (.string ⟨p.root.toArray⟩) w')
    (first
      | exact hS.out _ HB
      | exact hS.out _ (HB.alloc HB.size _)
      | exact hS.out _ (Below.refl _ _)
      | go_keep)
    (first
      | (go_at_call 68; refine (mint_any _ _).mono ?_; rintro e w1 ⟨rfl, hb⟩; replace HB := HB.trans (hb.mono HB.size); clear hb)
      | (go_at_call 86; refine (mtext_any _ _).mono ?_; rintro e w2 ⟨rfl, hb⟩; replace HB := HB.trans (hb.mono HB.size); clear hb)
      | (go_at_call 65; refine (mlist_any _ _ _ _).mono ?_; rintro e w4 ⟨rfl, hb4⟩; replace HB := (HB.alloc HB.size _).trans (hb4.mono (HB.alloc HB.size _).size))
      | (go_at_call 67; refine (henc.out _ _ rfl _ hb4).mono ?_; unfold EncC; rintro e w5 ⟨A5, m5, c5, rfl, hm5, hc5, hcm5, hat5, hb5⟩; replace HB := HB.trans (hb5.mono HB.size)))
  replace hm5 := Lib.hid hm5
  replace hat5 := Lib.hid hat5
  have hBB := Lib.hid (hB.out.trans (HB.mono hB.out.size))
  clear hS henc hb4 hb5 HB
  go_wp2_with fail
  go_ret
  exact ⟨A5, m5, c5, rfl, hm5.out, hc5, hcm5, hat5.out, hBB.out⟩

set_option maxRecDepth 100000 in
set_option maxHeartbeats 4000000 in
theorem rocheck_lo (key : Int) (p : Po) (hp : p.root.length = 32) (w : World) (h : p.no < 0) :
    Calls Tryd.prog 31 #[.int .i64 key, .agg (poA p)] w fun e w' => e = .returned (.bool false) ∧ Below w.heap.size w w' := by
  have hrow := heap_alloc_new w (.cells (poA p) 49)
  have hB := (Below.refl w.heap.size w).alloc (Nat.le_refl _) (.cells (poA p) 49)
  have hlt := (Array.getElem?_eq_some_iff.1 hrow).1
  have hS : Hid (∀ V, Below (w.alloc (.cells (poA p) 49)).heap.size (w.alloc (.cells (poA p) 49)) V → V.cell? ⟨w.heap.size, 0, none⟩ = some (.int .i64 p.no) ∧ V.cell? ⟨w.heap.size, 33, none⟩ = some (.int .i64 p.e) ∧ V.cell? ⟨w.heap.size, 34, none⟩ = some (.int .i64 p.s) ∧ V.rangeAt w.heap.size 0 (poC p)) := Lib.hid fun V hV => by
    have h := (hV.block w.heap.size hlt).trans hrow
    obtain ⟨c0, c1, c2⟩ := po_cells hp h
    exact ⟨c0, c1, c2, po_row h⟩
  have HB : Below (w.alloc (.cells (poA p) 49)).heap.size (w.alloc (.cells (poA p) 49)) (w.alloc (.cells (poA p) 49)).drew := (Below.refl _ _).drew
  have hi := Lib.hid (po_info' hp)
  have h9 : decide (0 ≤ p.no) = false := by simp; omega
  replace hp := Lib.hid hp
  clear hrow hlt
  go_enter Tryd.func31, Tryd.ntmps31
  go_wp2_with fail
  refine wp_region_held_drew (S := fun w' => w'.cell? ⟨w.heap.size, 0, none⟩ = some (.int .i64 p.no) ∧ w'.cell? ⟨w.heap.size, 33, none⟩ = some (.int .i64 p.e) ∧ w'.cell? ⟨w.heap.size, 34, none⟩ = some (.int .i64 p.s) ∧ w'.rangeAt w.heap.size 0 (poC p)) (by kernel_rfl) (by exact hS.out _ HB) (fun hHeld => ?_)
  refine wpAnyH_take (i := 0) (oi := { dst := some 5, op := Op.fieldAddr 49 (Operand.tmp 3) 0, type := 0, pos := "ref.go:34", after := #[], guard := none }) (v := ?_) rfl (by kernel_rfl) (by kernel_rfl) (by kernel_rfl) (fun _ _ _ h => h) (Or.inl ⟨by rfl, ?hy0⟩) hHeld ?rest0
  case hy0 =>
    intro w hSw
    try dsimp only at hSw
    go_simp
    try with_reducible rfl
  try simp only [Act.put, List.setIfInBounds_toArray, List.set_cons_zero, List.set_cons_succ]
  refine wpAnyH_take (i := 1) (oi := { dst := some 6, op := Op.load 3 (Operand.tmp 5), type := 3, pos := "ref.go:34", after := #[{ on := 0, ground := Ground.data }], guard := none }) (v := ?_) rfl (by kernel_rfl) (by kernel_rfl) (by kernel_rfl) (fun _ _ _ h => h) (Or.inl ⟨by rfl, ?hy1⟩) hHeld ?rest1
  case hy1 =>
    intro w hSw
    try dsimp only at hSw
    go_simp
    try with_reducible rfl
  try simp only [Act.put, List.setIfInBounds_toArray, List.set_cons_zero, List.set_cons_succ]
  refine wpAnyH_take (i := 2) (oi := { dst := some 7, op := Op.binOp BinOp.geq 3 (Operand.tmp 6) (Operand.const (Value.int IntKind.i64 0)) 3, type := 4, pos := "ref.go:34", after := #[{ on := 1, ground := Ground.data }], guard := none }) (v := ?_) rfl (by kernel_rfl) (by kernel_rfl) (by kernel_rfl) (fun _ _ _ h => h) (Or.inl ⟨by rfl, ?hy2⟩) hHeld ?rest2
  case hy2 =>
    intro w hSw
    try dsimp only at hSw
    go_simp
    try with_reducible rfl
  try simp only [Act.put, List.setIfInBounds_toArray, List.set_cons_zero, List.set_cons_succ]
  refine wpAnyH_take (i := 3) (oi := { dst := some 8, op := Op.move (Operand.tmp 7), type := 4, pos := "ref.go:34", after := #[{ on := 2, ground := Ground.data }], guard := none }) (v := ?_) rfl (by kernel_rfl) (by kernel_rfl) (by kernel_rfl) (fun _ _ _ h => h) (Or.inl ⟨by rfl, ?hy3⟩) hHeld ?rest3
  case hy3 =>
    intro w hSw
    try dsimp only at hSw
    go_simp
    try with_reducible rfl
  try simp only [Act.put, List.setIfInBounds_toArray, List.set_cons_zero, List.set_cons_succ]
  refine wpAnyH_take (i := 4) (oi := { dst := some 9, op := Op.fieldAddr 49 (Operand.tmp 3) 0, type := 0, pos := "ref.go:34", after := #[{ on := 3, ground := Ground.guard }], guard := some (3, true) }) (v := undef) rfl (by kernel_rfl) (by kernel_rfl) (by kernel_rfl) (fun _ _ _ h => h) (Or.inr ⟨by rfl, rfl⟩) hHeld ?_
  try simp only [Act.put, List.setIfInBounds_toArray, List.set_cons_zero, List.set_cons_succ]
  refine wpAnyH_take (i := 5) (oi := { dst := some 10, op := Op.load 3 (Operand.tmp 9), type := 3, pos := "ref.go:34", after := #[{ on := 4, ground := Ground.data }, { on := 3, ground := Ground.guard }], guard := some (3, true) }) (v := undef) rfl (by kernel_rfl) (by kernel_rfl) (by kernel_rfl) (fun _ _ _ h => h) (Or.inr ⟨by rfl, rfl⟩) hHeld ?_
  try simp only [Act.put, List.setIfInBounds_toArray, List.set_cons_zero, List.set_cons_succ]
  refine wpAnyH_take (i := 6) (oi := { dst := some 11, op := Op.binOp BinOp.leq 3 (Operand.tmp 10) (Operand.const (Value.int IntKind.i64 1048576)) 3, type := 4, pos := "ref.go:34", after := #[{ on := 5, ground := Ground.data }, { on := 3, ground := Ground.guard }], guard := some (3, true) }) (v := undef) rfl (by kernel_rfl) (by kernel_rfl) (by kernel_rfl) (fun _ _ _ h => h) (Or.inr ⟨by rfl, rfl⟩) hHeld ?_
  try simp only [Act.put, List.setIfInBounds_toArray, List.set_cons_zero, List.set_cons_succ]
  refine wpAnyH_take (i := 7) (oi := { dst := some 12, op := Op.pick (Operand.tmp 8) (Operand.tmp 11) (Operand.const (Value.bool false)), type := 4, pos := "ref.go:34", after := #[{ on := 3, ground := Ground.data }, { on := 6, ground := Ground.data }], guard := none }) (v := ?_) rfl (by kernel_rfl) (by kernel_rfl) (by kernel_rfl) (fun _ _ _ h => h) (Or.inl ⟨by rfl, ?hy7⟩) hHeld ?rest7
  case hy7 =>
    intro w hSw
    try dsimp only at hSw
    go_simp
    try with_reducible rfl
  try simp only [Act.put, List.setIfInBounds_toArray, List.set_cons_zero, List.set_cons_succ]
  refine wpAnyH_take (i := 8) (oi := { dst := some 13, op := Op.move (Operand.tmp 12), type := 4, pos := "ref.go:34", after := #[{ on := 7, ground := Ground.data }, { on := 3, ground := Ground.chain }], guard := none }) (v := ?_) rfl (by kernel_rfl) (by kernel_rfl) (by kernel_rfl) (fun _ _ _ h => h) (Or.inl ⟨by rfl, ?hy8⟩) hHeld ?rest8
  case hy8 =>
    intro w hSw
    try dsimp only at hSw
    go_simp
    try with_reducible rfl
  try simp only [Act.put, List.setIfInBounds_toArray, List.set_cons_zero, List.set_cons_succ]
  refine wpAnyH_take (i := 9) (oi := { dst := some 14, op := Op.move (Operand.tmp 0), type := 3, pos := "ref.go:34", after := #[{ on := 8, ground := Ground.guard }], guard := some (8, true) }) (v := undef) rfl (by kernel_rfl) (by kernel_rfl) (by kernel_rfl) (fun _ _ _ h => h) (Or.inr ⟨by rfl, rfl⟩) hHeld ?_
  try simp only [Act.put, List.setIfInBounds_toArray, List.set_cons_zero, List.set_cons_succ]
  refine wpAnyH_take (i := 10) (oi := { dst := some 15, op := Op.load 49 (Operand.tmp 3), type := 49, pos := "ref.go:34", after := #[{ on := 8, ground := Ground.guard }], guard := some (8, true) }) (v := undef) rfl (by kernel_rfl) (by kernel_rfl) (by kernel_rfl) (fun _ _ _ h => h) (Or.inr ⟨by rfl, rfl⟩) hHeld ?_
  try simp only [Act.put, List.setIfInBounds_toArray, List.set_cons_zero, List.set_cons_succ]
  refine wpAnyH_take (i := 11) (oi := { dst := some 16, op := Op.call { callee := Callee.value (Operand.func 60), args := #[Operand.tmp 15], argTypes := #[49] }, type := 23, pos := "ref.go:34", after := #[{ on := 10, ground := Ground.data }, { on := 8, ground := Ground.chain }, { on := 8, ground := Ground.guard }], guard := some (8, true) }) (v := undef) rfl (by kernel_rfl) (by kernel_rfl) (by kernel_rfl) (fun _ _ _ h => h) (Or.inr ⟨by rfl, rfl⟩) hHeld ?_
  try simp only [Act.put, List.setIfInBounds_toArray, List.set_cons_zero, List.set_cons_succ]
  refine wpAnyH_take (i := 12) (oi := { dst := some 17, op := Op.fieldAddr 49 (Operand.tmp 3) 2, type := 0, pos := "ref.go:34", after := #[{ on := 8, ground := Ground.guard }], guard := some (8, true) }) (v := undef) rfl (by kernel_rfl) (by kernel_rfl) (by kernel_rfl) (fun _ _ _ h => h) (Or.inr ⟨by rfl, rfl⟩) hHeld ?_
  try simp only [Act.put, List.setIfInBounds_toArray, List.set_cons_zero, List.set_cons_succ]
  refine wpAnyH_take (i := 13) (oi := { dst := some 18, op := Op.load 47 (Operand.tmp 17), type := 47, pos := "ref.go:34", after := #[{ on := 12, ground := Ground.data }, { on := 8, ground := Ground.guard }], guard := some (8, true) }) (v := undef) rfl (by kernel_rfl) (by kernel_rfl) (by kernel_rfl) (fun _ _ _ h => h) (Or.inr ⟨by rfl, rfl⟩) hHeld ?_
  try simp only [Act.put, List.setIfInBounds_toArray, List.set_cons_zero, List.set_cons_succ]
  refine wpAnyH_take (i := 14) (oi := { dst := some 19, op := Op.call { callee := Callee.value (Operand.func 62), args := #[Operand.tmp 14, Operand.tmp 16, Operand.tmp 18], argTypes := #[3, 23, 47] }, type := 4, pos := "ref.go:34", after := #[{ on := 9, ground := Ground.data }, { on := 11, ground := Ground.data }, { on := 13, ground := Ground.data }, { on := 11, ground := Ground.chain }, { on := 8, ground := Ground.guard }], guard := some (8, true) }) (v := undef) rfl (by kernel_rfl) (by kernel_rfl) (by kernel_rfl) (fun _ _ _ h => h) (Or.inr ⟨by rfl, rfl⟩) hHeld ?_
  try simp only [Act.put, List.setIfInBounds_toArray, List.set_cons_zero, List.set_cons_succ]
  refine wpAnyH_take (i := 15) (oi := { dst := some 20, op := Op.pick (Operand.tmp 13) (Operand.tmp 19) (Operand.const (Value.bool false)), type := 4, pos := "ref.go:34", after := #[{ on := 8, ground := Ground.data }, { on := 14, ground := Ground.data }], guard := none }) (v := ?_) rfl (by kernel_rfl) (by kernel_rfl) (by kernel_rfl) (fun _ _ _ h => h) (Or.inl ⟨by rfl, ?hy15⟩) hHeld ?rest15
  case hy15 =>
    intro w hSw
    try dsimp only at hSw
    go_simp
    try with_reducible rfl
  try simp only [Act.put, List.setIfInBounds_toArray, List.set_cons_zero, List.set_cons_succ]
  refine wpAnyH_take (i := 16) (oi := { dst := some 4, op := Op.assign (Operand.tmp 20), type := 4, pos := "ref.go:34", after := #[{ on := 15, ground := Ground.data }, { on := 14, ground := Ground.chain }, { on := 0, ground := Ground.phase }, { on := 1, ground := Ground.phase }, { on := 2, ground := Ground.phase }, { on := 3, ground := Ground.phase }, { on := 4, ground := Ground.phase }, { on := 5, ground := Ground.phase }, { on := 6, ground := Ground.phase }, { on := 7, ground := Ground.phase }, { on := 8, ground := Ground.phase }, { on := 9, ground := Ground.phase }, { on := 10, ground := Ground.phase }, { on := 11, ground := Ground.phase }, { on := 12, ground := Ground.phase }, { on := 13, ground := Ground.phase }, { on := 14, ground := Ground.phase }, { on := 15, ground := Ground.phase }], guard := none }) (v := ?_) rfl (by kernel_rfl) (by kernel_rfl) (by kernel_rfl) (fun _ _ _ h => h) (Or.inl ⟨by rfl, ?hy16⟩) hHeld ?rest16
  case hy16 =>
    intro w hSw
    try dsimp only at hSw
    go_simp
    try with_reducible rfl
  try simp only [Act.put, List.setIfInBounds_toArray, List.set_cons_zero, List.set_cons_succ]
  refine wpAnyH_done (by kernel_rfl) ?_ _
  go_wp2_with fail
  go_ret
  exact ⟨rfl, hB.trans (HB.mono hB.size)⟩

set_option maxRecDepth 100000 in
set_option maxHeartbeats 4000000 in
theorem rocheck_hi (key : Int) (p : Po) (hp : p.root.length = 32) (w : World) (h0 : 0 ≤ p.no) (h : 1048576 < p.no) :
    Calls Tryd.prog 31 #[.int .i64 key, .agg (poA p)] w fun e w' => e = .returned (.bool false) ∧ Below w.heap.size w w' := by
  have hrow := heap_alloc_new w (.cells (poA p) 49)
  have hB := (Below.refl w.heap.size w).alloc (Nat.le_refl _) (.cells (poA p) 49)
  have hlt := (Array.getElem?_eq_some_iff.1 hrow).1
  have hS : Hid (∀ V, Below (w.alloc (.cells (poA p) 49)).heap.size (w.alloc (.cells (poA p) 49)) V → V.cell? ⟨w.heap.size, 0, none⟩ = some (.int .i64 p.no) ∧ V.cell? ⟨w.heap.size, 33, none⟩ = some (.int .i64 p.e) ∧ V.cell? ⟨w.heap.size, 34, none⟩ = some (.int .i64 p.s) ∧ V.rangeAt w.heap.size 0 (poC p)) := Lib.hid fun V hV => by
    have h := (hV.block w.heap.size hlt).trans hrow
    obtain ⟨c0, c1, c2⟩ := po_cells hp h
    exact ⟨c0, c1, c2, po_row h⟩
  have HB : Below (w.alloc (.cells (poA p) 49)).heap.size (w.alloc (.cells (poA p) 49)) (w.alloc (.cells (poA p) 49)).drew := (Below.refl _ _).drew
  have hi := Lib.hid (po_info' hp)
  have h9 : decide (p.no ≤ 1048576) = false := by simp; omega
  replace hp := Lib.hid hp
  clear hrow hlt
  go_enter Tryd.func31, Tryd.ntmps31
  go_wp2_with fail
  refine wp_region_held_drew (S := fun w' => w'.cell? ⟨w.heap.size, 0, none⟩ = some (.int .i64 p.no) ∧ w'.cell? ⟨w.heap.size, 33, none⟩ = some (.int .i64 p.e) ∧ w'.cell? ⟨w.heap.size, 34, none⟩ = some (.int .i64 p.s) ∧ w'.rangeAt w.heap.size 0 (poC p)) (by kernel_rfl) (by exact hS.out _ HB) (fun hHeld => ?_)
  refine wpAnyH_take (i := 0) (oi := { dst := some 5, op := Op.fieldAddr 49 (Operand.tmp 3) 0, type := 0, pos := "ref.go:34", after := #[], guard := none }) (v := ?_) rfl (by kernel_rfl) (by kernel_rfl) (by kernel_rfl) (fun _ _ _ h => h) (Or.inl ⟨by rfl, ?hya0⟩) hHeld ?resta0
  case hya0 =>
    intro w hSw
    try dsimp only at hSw
    go_simp
    try with_reducible rfl
  try simp only [Act.put, List.setIfInBounds_toArray, List.set_cons_zero, List.set_cons_succ]
  refine wpAnyH_take (i := 1) (oi := { dst := some 6, op := Op.load 3 (Operand.tmp 5), type := 3, pos := "ref.go:34", after := #[{ on := 0, ground := Ground.data }], guard := none }) (v := ?_) rfl (by kernel_rfl) (by kernel_rfl) (by kernel_rfl) (fun _ _ _ h => h) (Or.inl ⟨by rfl, ?hya1⟩) hHeld ?resta1
  case hya1 =>
    intro w hSw
    try dsimp only at hSw
    go_simp
    try with_reducible rfl
  try simp only [Act.put, List.setIfInBounds_toArray, List.set_cons_zero, List.set_cons_succ]
  refine wpAnyH_take (i := 2) (oi := { dst := some 7, op := Op.binOp BinOp.geq 3 (Operand.tmp 6) (Operand.const (Value.int IntKind.i64 0)) 3, type := 4, pos := "ref.go:34", after := #[{ on := 1, ground := Ground.data }], guard := none }) (v := ?_) rfl (by kernel_rfl) (by kernel_rfl) (by kernel_rfl) (fun _ _ _ h => h) (Or.inl ⟨by rfl, ?hya2⟩) hHeld ?resta2
  case hya2 =>
    intro w hSw
    try dsimp only at hSw
    go_simp
    try with_reducible rfl
  try simp only [Act.put, List.setIfInBounds_toArray, List.set_cons_zero, List.set_cons_succ]
  refine wpAnyH_take (i := 3) (oi := { dst := some 8, op := Op.move (Operand.tmp 7), type := 4, pos := "ref.go:34", after := #[{ on := 2, ground := Ground.data }], guard := none }) (v := ?_) rfl (by kernel_rfl) (by kernel_rfl) (by kernel_rfl) (fun _ _ _ h => h) (Or.inl ⟨by rfl, ?hya3⟩) hHeld ?resta3
  case hya3 =>
    intro w hSw
    try dsimp only at hSw
    go_simp
    try with_reducible rfl
  try simp only [Act.put, List.setIfInBounds_toArray, List.set_cons_zero, List.set_cons_succ]
  refine wpAnyH_take (i := 4) (oi := { dst := some 9, op := Op.fieldAddr 49 (Operand.tmp 3) 0, type := 0, pos := "ref.go:34", after := #[{ on := 3, ground := Ground.guard }], guard := some (3, true) }) (v := ?_) rfl (by kernel_rfl) (by kernel_rfl) (by kernel_rfl) (fun _ _ _ h => h) (Or.inl ⟨by rfl, ?hya4⟩) hHeld ?resta4
  case hya4 =>
    intro w hSw
    try dsimp only at hSw
    go_simp
    try with_reducible rfl
  try simp only [Act.put, List.setIfInBounds_toArray, List.set_cons_zero, List.set_cons_succ]
  refine wpAnyH_take (i := 5) (oi := { dst := some 10, op := Op.load 3 (Operand.tmp 9), type := 3, pos := "ref.go:34", after := #[{ on := 4, ground := Ground.data }, { on := 3, ground := Ground.guard }], guard := some (3, true) }) (v := ?_) rfl (by kernel_rfl) (by kernel_rfl) (by kernel_rfl) (fun _ _ _ h => h) (Or.inl ⟨by rfl, ?hya5⟩) hHeld ?resta5
  case hya5 =>
    intro w hSw
    try dsimp only at hSw
    go_simp
    try with_reducible rfl
  try simp only [Act.put, List.setIfInBounds_toArray, List.set_cons_zero, List.set_cons_succ]
  refine wpAnyH_take (i := 6) (oi := { dst := some 11, op := Op.binOp BinOp.leq 3 (Operand.tmp 10) (Operand.const (Value.int IntKind.i64 1048576)) 3, type := 4, pos := "ref.go:34", after := #[{ on := 5, ground := Ground.data }, { on := 3, ground := Ground.guard }], guard := some (3, true) }) (v := ?_) rfl (by kernel_rfl) (by kernel_rfl) (by kernel_rfl) (fun _ _ _ h => h) (Or.inl ⟨by rfl, ?hya6⟩) hHeld ?resta6
  case hya6 =>
    intro w hSw
    try dsimp only at hSw
    go_simp
    try with_reducible rfl
  try simp only [Act.put, List.setIfInBounds_toArray, List.set_cons_zero, List.set_cons_succ]
  refine wpAnyH_take (i := 7) (oi := { dst := some 12, op := Op.pick (Operand.tmp 8) (Operand.tmp 11) (Operand.const (Value.bool false)), type := 4, pos := "ref.go:34", after := #[{ on := 3, ground := Ground.data }, { on := 6, ground := Ground.data }], guard := none }) (v := ?_) rfl (by kernel_rfl) (by kernel_rfl) (by kernel_rfl) (fun _ _ _ h => h) (Or.inl ⟨by rfl, ?hya7⟩) hHeld ?resta7
  case hya7 =>
    intro w hSw
    try dsimp only at hSw
    go_simp
    try with_reducible rfl
  try simp only [Act.put, List.setIfInBounds_toArray, List.set_cons_zero, List.set_cons_succ]
  refine wpAnyH_take (i := 8) (oi := { dst := some 13, op := Op.move (Operand.tmp 12), type := 4, pos := "ref.go:34", after := #[{ on := 7, ground := Ground.data }, { on := 3, ground := Ground.chain }], guard := none }) (v := ?_) rfl (by kernel_rfl) (by kernel_rfl) (by kernel_rfl) (fun _ _ _ h => h) (Or.inl ⟨by rfl, ?hya8⟩) hHeld ?resta8
  case hya8 =>
    intro w hSw
    try dsimp only at hSw
    go_simp
    try with_reducible rfl
  try simp only [Act.put, List.setIfInBounds_toArray, List.set_cons_zero, List.set_cons_succ]
  refine wpAnyH_take (i := 9) (oi := { dst := some 14, op := Op.move (Operand.tmp 0), type := 3, pos := "ref.go:34", after := #[{ on := 8, ground := Ground.guard }], guard := some (8, true) }) (v := undef) rfl (by kernel_rfl) (by kernel_rfl) (by kernel_rfl) (fun _ _ _ h => h) (Or.inr ⟨by rfl, rfl⟩) hHeld ?_
  try simp only [Act.put, List.setIfInBounds_toArray, List.set_cons_zero, List.set_cons_succ]
  refine wpAnyH_take (i := 10) (oi := { dst := some 15, op := Op.load 49 (Operand.tmp 3), type := 49, pos := "ref.go:34", after := #[{ on := 8, ground := Ground.guard }], guard := some (8, true) }) (v := undef) rfl (by kernel_rfl) (by kernel_rfl) (by kernel_rfl) (fun _ _ _ h => h) (Or.inr ⟨by rfl, rfl⟩) hHeld ?_
  try simp only [Act.put, List.setIfInBounds_toArray, List.set_cons_zero, List.set_cons_succ]
  refine wpAnyH_take (i := 11) (oi := { dst := some 16, op := Op.call { callee := Callee.value (Operand.func 60), args := #[Operand.tmp 15], argTypes := #[49] }, type := 23, pos := "ref.go:34", after := #[{ on := 10, ground := Ground.data }, { on := 8, ground := Ground.chain }, { on := 8, ground := Ground.guard }], guard := some (8, true) }) (v := undef) rfl (by kernel_rfl) (by kernel_rfl) (by kernel_rfl) (fun _ _ _ h => h) (Or.inr ⟨by rfl, rfl⟩) hHeld ?_
  try simp only [Act.put, List.setIfInBounds_toArray, List.set_cons_zero, List.set_cons_succ]
  refine wpAnyH_take (i := 12) (oi := { dst := some 17, op := Op.fieldAddr 49 (Operand.tmp 3) 2, type := 0, pos := "ref.go:34", after := #[{ on := 8, ground := Ground.guard }], guard := some (8, true) }) (v := undef) rfl (by kernel_rfl) (by kernel_rfl) (by kernel_rfl) (fun _ _ _ h => h) (Or.inr ⟨by rfl, rfl⟩) hHeld ?_
  try simp only [Act.put, List.setIfInBounds_toArray, List.set_cons_zero, List.set_cons_succ]
  refine wpAnyH_take (i := 13) (oi := { dst := some 18, op := Op.load 47 (Operand.tmp 17), type := 47, pos := "ref.go:34", after := #[{ on := 12, ground := Ground.data }, { on := 8, ground := Ground.guard }], guard := some (8, true) }) (v := undef) rfl (by kernel_rfl) (by kernel_rfl) (by kernel_rfl) (fun _ _ _ h => h) (Or.inr ⟨by rfl, rfl⟩) hHeld ?_
  try simp only [Act.put, List.setIfInBounds_toArray, List.set_cons_zero, List.set_cons_succ]
  refine wpAnyH_take (i := 14) (oi := { dst := some 19, op := Op.call { callee := Callee.value (Operand.func 62), args := #[Operand.tmp 14, Operand.tmp 16, Operand.tmp 18], argTypes := #[3, 23, 47] }, type := 4, pos := "ref.go:34", after := #[{ on := 9, ground := Ground.data }, { on := 11, ground := Ground.data }, { on := 13, ground := Ground.data }, { on := 11, ground := Ground.chain }, { on := 8, ground := Ground.guard }], guard := some (8, true) }) (v := undef) rfl (by kernel_rfl) (by kernel_rfl) (by kernel_rfl) (fun _ _ _ h => h) (Or.inr ⟨by rfl, rfl⟩) hHeld ?_
  try simp only [Act.put, List.setIfInBounds_toArray, List.set_cons_zero, List.set_cons_succ]
  refine wpAnyH_take (i := 15) (oi := { dst := some 20, op := Op.pick (Operand.tmp 13) (Operand.tmp 19) (Operand.const (Value.bool false)), type := 4, pos := "ref.go:34", after := #[{ on := 8, ground := Ground.data }, { on := 14, ground := Ground.data }], guard := none }) (v := ?_) rfl (by kernel_rfl) (by kernel_rfl) (by kernel_rfl) (fun _ _ _ h => h) (Or.inl ⟨by rfl, ?hya15⟩) hHeld ?resta15
  case hya15 =>
    intro w hSw
    try dsimp only at hSw
    go_simp
    try with_reducible rfl
  try simp only [Act.put, List.setIfInBounds_toArray, List.set_cons_zero, List.set_cons_succ]
  refine wpAnyH_take (i := 16) (oi := { dst := some 4, op := Op.assign (Operand.tmp 20), type := 4, pos := "ref.go:34", after := #[{ on := 15, ground := Ground.data }, { on := 14, ground := Ground.chain }, { on := 0, ground := Ground.phase }, { on := 1, ground := Ground.phase }, { on := 2, ground := Ground.phase }, { on := 3, ground := Ground.phase }, { on := 4, ground := Ground.phase }, { on := 5, ground := Ground.phase }, { on := 6, ground := Ground.phase }, { on := 7, ground := Ground.phase }, { on := 8, ground := Ground.phase }, { on := 9, ground := Ground.phase }, { on := 10, ground := Ground.phase }, { on := 11, ground := Ground.phase }, { on := 12, ground := Ground.phase }, { on := 13, ground := Ground.phase }, { on := 14, ground := Ground.phase }, { on := 15, ground := Ground.phase }], guard := none }) (v := ?_) rfl (by kernel_rfl) (by kernel_rfl) (by kernel_rfl) (fun _ _ _ h => h) (Or.inl ⟨by rfl, ?hya16⟩) hHeld ?resta16
  case hya16 =>
    intro w hSw
    try dsimp only at hSw
    go_simp
    try with_reducible rfl
  try simp only [Act.put, List.setIfInBounds_toArray, List.set_cons_zero, List.set_cons_succ]
  refine wpAnyH_done (by kernel_rfl) ?_ _
  go_wp2_with fail
  go_ret
  exact ⟨rfl, hB.trans (HB.mono hB.size)⟩

set_option maxRecDepth 100000 in
set_option maxHeartbeats 4000000 in
theorem rocheck_in (key : Int) (p : Po) (hp : p.root.length = 32) (w : World) (h0 : 0 ≤ p.no) (h1 : p.no ≤ 1048576) :
    Calls Tryd.prog 31 #[.int .i64 key, .agg (poA p)] w fun e w' => e = .returned (.bool (vfB key (poT p) p.e p.s)) ∧ Below w.heap.size w w' := by
  have hrow := heap_alloc_new w (.cells (poA p) 49)
  have hB := (Below.refl w.heap.size w).alloc (Nat.le_refl _) (.cells (poA p) 49)
  have hlt := (Array.getElem?_eq_some_iff.1 hrow).1
  have hS : Hid (∀ V, Below (w.alloc (.cells (poA p) 49)).heap.size (w.alloc (.cells (poA p) 49)) V → V.cell? ⟨w.heap.size, 0, none⟩ = some (.int .i64 p.no) ∧ V.cell? ⟨w.heap.size, 33, none⟩ = some (.int .i64 p.e) ∧ V.cell? ⟨w.heap.size, 34, none⟩ = some (.int .i64 p.s) ∧ V.rangeAt w.heap.size 0 (poC p)) := Lib.hid fun V hV => by
    have h := (hV.block w.heap.size hlt).trans hrow
    obtain ⟨c0, c1, c2⟩ := po_cells hp h
    exact ⟨c0, c1, c2, po_row h⟩
  have HB : Below (w.alloc (.cells (poA p) 49)).heap.size (w.alloc (.cells (poA p) 49)) (w.alloc (.cells (poA p) 49)).drew := (Below.refl _ _).drew
  have hi := Lib.hid (po_info' hp)
  have hT : Hid (∀ W : World, Calls Tryd.prog 60 #[.agg (poA p)] W (TxC (poT p) W)) := Lib.hid fun W => rtextP_any p hp ⟨by omega, by omega⟩ W
  have hlen : Hid ((poT p).length ≤ 1000) := Lib.hid (po_sm p hp ⟨by omega, by omega⟩).2.1
  replace hp := Lib.hid hp
  clear hrow hlt
  go_enter Tryd.func31, Tryd.ntmps31
  go_wp2_with fail
  refine wp_region_held_drew (S := fun w' => w'.cell? ⟨w.heap.size, 0, none⟩ = some (.int .i64 p.no) ∧ w'.cell? ⟨w.heap.size, 33, none⟩ = some (.int .i64 p.e) ∧ w'.cell? ⟨w.heap.size, 34, none⟩ = some (.int .i64 p.s) ∧ w'.rangeAt w.heap.size 0 (poC p)) (by kernel_rfl) (by exact hS.out _ HB) (fun hHeld => ?_)
  refine wpAnyH_take (i := 0) (oi := { dst := some 5, op := Op.fieldAddr 49 (Operand.tmp 3) 0, type := 0, pos := "ref.go:34", after := #[], guard := none }) (v := ?_) rfl (by kernel_rfl) (by kernel_rfl) (by kernel_rfl) (fun _ _ _ h => h) (Or.inl ⟨by rfl, ?hyaa0⟩) hHeld ?restaa0
  case hyaa0 =>
    intro w hSw
    try dsimp only at hSw
    go_simp
    try with_reducible rfl
  try simp only [Act.put, List.setIfInBounds_toArray, List.set_cons_zero, List.set_cons_succ]
  refine wpAnyH_take (i := 1) (oi := { dst := some 6, op := Op.load 3 (Operand.tmp 5), type := 3, pos := "ref.go:34", after := #[{ on := 0, ground := Ground.data }], guard := none }) (v := ?_) rfl (by kernel_rfl) (by kernel_rfl) (by kernel_rfl) (fun _ _ _ h => h) (Or.inl ⟨by rfl, ?hyaa1⟩) hHeld ?restaa1
  case hyaa1 =>
    intro w hSw
    try dsimp only at hSw
    go_simp
    try with_reducible rfl
  try simp only [Act.put, List.setIfInBounds_toArray, List.set_cons_zero, List.set_cons_succ]
  refine wpAnyH_take (i := 2) (oi := { dst := some 7, op := Op.binOp BinOp.geq 3 (Operand.tmp 6) (Operand.const (Value.int IntKind.i64 0)) 3, type := 4, pos := "ref.go:34", after := #[{ on := 1, ground := Ground.data }], guard := none }) (v := ?_) rfl (by kernel_rfl) (by kernel_rfl) (by kernel_rfl) (fun _ _ _ h => h) (Or.inl ⟨by rfl, ?hyaa2⟩) hHeld ?restaa2
  case hyaa2 =>
    intro w hSw
    try dsimp only at hSw
    go_simp
    try with_reducible rfl
  try simp only [Act.put, List.setIfInBounds_toArray, List.set_cons_zero, List.set_cons_succ]
  refine wpAnyH_take (i := 3) (oi := { dst := some 8, op := Op.move (Operand.tmp 7), type := 4, pos := "ref.go:34", after := #[{ on := 2, ground := Ground.data }], guard := none }) (v := ?_) rfl (by kernel_rfl) (by kernel_rfl) (by kernel_rfl) (fun _ _ _ h => h) (Or.inl ⟨by rfl, ?hyaa3⟩) hHeld ?restaa3
  case hyaa3 =>
    intro w hSw
    try dsimp only at hSw
    go_simp
    try with_reducible rfl
  try simp only [Act.put, List.setIfInBounds_toArray, List.set_cons_zero, List.set_cons_succ]
  refine wpAnyH_take (i := 4) (oi := { dst := some 9, op := Op.fieldAddr 49 (Operand.tmp 3) 0, type := 0, pos := "ref.go:34", after := #[{ on := 3, ground := Ground.guard }], guard := some (3, true) }) (v := ?_) rfl (by kernel_rfl) (by kernel_rfl) (by kernel_rfl) (fun _ _ _ h => h) (Or.inl ⟨by rfl, ?hyaa4⟩) hHeld ?restaa4
  case hyaa4 =>
    intro w hSw
    try dsimp only at hSw
    go_simp
    try with_reducible rfl
  try simp only [Act.put, List.setIfInBounds_toArray, List.set_cons_zero, List.set_cons_succ]
  refine wpAnyH_take (i := 5) (oi := { dst := some 10, op := Op.load 3 (Operand.tmp 9), type := 3, pos := "ref.go:34", after := #[{ on := 4, ground := Ground.data }, { on := 3, ground := Ground.guard }], guard := some (3, true) }) (v := ?_) rfl (by kernel_rfl) (by kernel_rfl) (by kernel_rfl) (fun _ _ _ h => h) (Or.inl ⟨by rfl, ?hyaa5⟩) hHeld ?restaa5
  case hyaa5 =>
    intro w hSw
    try dsimp only at hSw
    go_simp
    try with_reducible rfl
  try simp only [Act.put, List.setIfInBounds_toArray, List.set_cons_zero, List.set_cons_succ]
  refine wpAnyH_take (i := 6) (oi := { dst := some 11, op := Op.binOp BinOp.leq 3 (Operand.tmp 10) (Operand.const (Value.int IntKind.i64 1048576)) 3, type := 4, pos := "ref.go:34", after := #[{ on := 5, ground := Ground.data }, { on := 3, ground := Ground.guard }], guard := some (3, true) }) (v := ?_) rfl (by kernel_rfl) (by kernel_rfl) (by kernel_rfl) (fun _ _ _ h => h) (Or.inl ⟨by rfl, ?hyaa6⟩) hHeld ?restaa6
  case hyaa6 =>
    intro w hSw
    try dsimp only at hSw
    go_simp
    try with_reducible rfl
  try simp only [Act.put, List.setIfInBounds_toArray, List.set_cons_zero, List.set_cons_succ]
  refine wpAnyH_take (i := 7) (oi := { dst := some 12, op := Op.pick (Operand.tmp 8) (Operand.tmp 11) (Operand.const (Value.bool false)), type := 4, pos := "ref.go:34", after := #[{ on := 3, ground := Ground.data }, { on := 6, ground := Ground.data }], guard := none }) (v := ?_) rfl (by kernel_rfl) (by kernel_rfl) (by kernel_rfl) (fun _ _ _ h => h) (Or.inl ⟨by rfl, ?hyaa7⟩) hHeld ?restaa7
  case hyaa7 =>
    intro w hSw
    try dsimp only at hSw
    go_simp
    try with_reducible rfl
  try simp only [Act.put, List.setIfInBounds_toArray, List.set_cons_zero, List.set_cons_succ]
  refine wpAnyH_take (i := 8) (oi := { dst := some 13, op := Op.move (Operand.tmp 12), type := 4, pos := "ref.go:34", after := #[{ on := 7, ground := Ground.data }, { on := 3, ground := Ground.chain }], guard := none }) (v := ?_) rfl (by kernel_rfl) (by kernel_rfl) (by kernel_rfl) (fun _ _ _ h => h) (Or.inl ⟨by rfl, ?hyaa8⟩) hHeld ?restaa8
  case hyaa8 =>
    intro w hSw
    try dsimp only at hSw
    go_simp
    try with_reducible rfl
  try simp only [Act.put, List.setIfInBounds_toArray, List.set_cons_zero, List.set_cons_succ]
  refine wpAnyH_take (i := 9) (oi := { dst := some 14, op := Op.move (Operand.tmp 0), type := 3, pos := "ref.go:34", after := #[{ on := 8, ground := Ground.guard }], guard := some (8, true) }) (v := ?_) rfl (by kernel_rfl) (by kernel_rfl) (by kernel_rfl) (fun _ _ _ h => h) (Or.inl ⟨by rfl, ?hyaa9⟩) hHeld ?restaa9
  case hyaa9 =>
    intro w hSw
    try dsimp only at hSw
    go_simp
    try with_reducible rfl
  try simp only [Act.put, List.setIfInBounds_toArray, List.set_cons_zero, List.set_cons_succ]
  refine wpAnyH_take (i := 10) (oi := { dst := some 15, op := Op.load 49 (Operand.tmp 3), type := 49, pos := "ref.go:34", after := #[{ on := 8, ground := Ground.guard }], guard := some (8, true) }) (v := _) rfl (by kernel_rfl) (by kernel_rfl) (by kernel_rfl) (fun _ _ _ h => h) (yieldsIf_load_mid (by rfl) 49 (.tmp 3) rfl w.heap.size 0 rfl (poC p) _ (fun _ h => h.2.2.2) Tryd.underlying49 rfl hi.out) hHeld ?_
  try simp only [Act.put, List.setIfInBounds_toArray, List.set_cons_zero, List.set_cons_succ]
  refine wpAnyH_take (i := 12) (oi := { dst := some 17, op := Op.fieldAddr 49 (Operand.tmp 3) 2, type := 0, pos := "ref.go:34", after := #[{ on := 8, ground := Ground.guard }], guard := some (8, true) }) (v := ?_) rfl (by kernel_rfl) (by kernel_rfl) (by kernel_rfl) (fun _ _ _ h => h) (Or.inl ⟨by rfl, ?hyaa12⟩) hHeld ?restaa12
  case hyaa12 =>
    intro w hSw
    try dsimp only at hSw
    go_simp
    try with_reducible rfl
  try simp only [Act.put, List.setIfInBounds_toArray, List.set_cons_zero, List.set_cons_succ]
  refine wpAnyH_take (i := 13) (oi := { dst := some 18, op := Op.load 47 (Operand.tmp 17), type := 47, pos := "ref.go:34", after := #[{ on := 12, ground := Ground.data }, { on := 8, ground := Ground.guard }], guard := some (8, true) }) (v := ?_) rfl (by kernel_rfl) (by kernel_rfl) (by kernel_rfl) (fun _ _ _ h => h) (Or.inl ⟨by rfl, ?hyaa13⟩) hHeld ?restaa13
  case hyaa13 =>
    intro w hSw
    try dsimp only at hSw
    go_simp
    try with_reducible rfl
  try simp only [Act.put, List.setIfInBounds_toArray, List.set_cons_zero, List.set_cons_succ]
  refine wpAnyH_ready (rs := [11]) (by kernel_rfl) (by simp) (AllReadyH.cons (o := { dst := some 16, op := Op.call { callee := Callee.value (Operand.func 60), args := #[Operand.tmp 15], argTypes := #[49] }, type := 23, pos := "ref.go:34", after := #[{ on := 10, ground := Ground.data }, { on := 8, ground := Ground.chain }, { on := 8, ground := Ground.guard }], guard := some (8, true) }) rfl (fun K hK => ?_) AllReadyH.nil)
  go_simp
  go_at_call 60
  refine (hT.out _).mono ?_
  unfold TxC
  rintro e w3 ⟨A9, m9, c9, rfl, hm9, _, _, hat9, hb⟩
  replace hm9 := Lib.hid hm9
  replace hat9 := Lib.hid hat9
  replace HB := HB.trans (hb.mono HB.size)
  clear hb
  refine hK.out _ _ (by exact hS.out _ HB) (fun hHeld' => ?_)
  clear hK K hHeld
  have hHeld := hHeld'
  clear hHeld'
  try simp only [Act.put, List.setIfInBounds_toArray, List.set_cons_zero, List.set_cons_succ]
  refine wpAnyH_ready (rs := [14]) (by kernel_rfl) (by simp) (AllReadyH.cons (o := { dst := some 19, op := Op.call { callee := Callee.value (Operand.func 62), args := #[Operand.tmp 14, Operand.tmp 16, Operand.tmp 18], argTypes := #[3, 23, 47] }, type := 4, pos := "ref.go:34", after := #[{ on := 9, ground := Ground.data }, { on := 11, ground := Ground.data }, { on := 13, ground := Ground.data }, { on := 11, ground := Ground.chain }, { on := 8, ground := Ground.guard }], guard := some (8, true) }) rfl (fun K hK => ?_) AllReadyH.nil)
  go_simp
  go_at_call 62
  refine (rverify_any key (poT p) p.e p.s A9 m9 c9 _ hm9.out (by have := hlen.out; have := hm9.out; omega) hat9.out).mono ?_
  rintro e w4 ⟨rfl, hb⟩
  replace HB := HB.trans (hb.mono HB.size)
  clear hb
  refine hK.out _ _ (by exact hS.out _ HB) (fun hHeld' => ?_)
  clear hK K hHeld
  have hHeld := hHeld'
  clear hHeld'
  try simp only [Act.put, List.setIfInBounds_toArray, List.set_cons_zero, List.set_cons_succ]
  refine wpAnyH_take (i := 15) (oi := { dst := some 20, op := Op.pick (Operand.tmp 13) (Operand.tmp 19) (Operand.const (Value.bool false)), type := 4, pos := "ref.go:34", after := #[{ on := 8, ground := Ground.data }, { on := 14, ground := Ground.data }], guard := none }) (v := ?_) rfl (by kernel_rfl) (by kernel_rfl) (by kernel_rfl) (fun _ _ _ h => h) (Or.inl ⟨by rfl, ?hyaa15⟩) hHeld ?restaa15
  case hyaa15 =>
    intro w hSw
    try dsimp only at hSw
    go_simp
    try with_reducible rfl
  try simp only [Act.put, List.setIfInBounds_toArray, List.set_cons_zero, List.set_cons_succ]
  refine wpAnyH_take (i := 16) (oi := { dst := some 4, op := Op.assign (Operand.tmp 20), type := 4, pos := "ref.go:34", after := #[{ on := 15, ground := Ground.data }, { on := 14, ground := Ground.chain }, { on := 0, ground := Ground.phase }, { on := 1, ground := Ground.phase }, { on := 2, ground := Ground.phase }, { on := 3, ground := Ground.phase }, { on := 4, ground := Ground.phase }, { on := 5, ground := Ground.phase }, { on := 6, ground := Ground.phase }, { on := 7, ground := Ground.phase }, { on := 8, ground := Ground.phase }, { on := 9, ground := Ground.phase }, { on := 10, ground := Ground.phase }, { on := 11, ground := Ground.phase }, { on := 12, ground := Ground.phase }, { on := 13, ground := Ground.phase }, { on := 14, ground := Ground.phase }, { on := 15, ground := Ground.phase }], guard := none }) (v := ?_) rfl (by kernel_rfl) (by kernel_rfl) (by kernel_rfl) (fun _ _ _ h => h) (Or.inl ⟨by rfl, ?hyaa16⟩) hHeld ?restaa16
  case hyaa16 =>
    intro w hSw
    try dsimp only at hSw
    go_simp
    try with_reducible rfl
  try simp only [Act.put, List.setIfInBounds_toArray, List.set_cons_zero, List.set_cons_succ]
  refine wpAnyH_done (by kernel_rfl) ?_ _
  go_wp2_with fail
  go_ret
  exact ⟨rfl, hB.trans (HB.mono hB.size)⟩

theorem rocheck_any (key : Int) (p : Po) (hp : p.root.length = 32) (w : World) :
    Calls Tryd.prog 31 #[.int .i64 key, .agg (poA p)] w fun e w' => e = .returned (.bool (ckP key p)) ∧ Below w.heap.size w w' := by
  by_cases h0 : 0 ≤ p.no
  · by_cases h1 : p.no ≤ 1048576
    · have e : ckP key p = vfB key (poT p) p.e p.s := by unfold ckP; rw [decide_eq_true ⟨h0, h1⟩, Bool.true_and]
      rw [e]
      exact rocheck_in key p hp w h0 h1
    · have e : ckP key p = false := by unfold ckP; rw [decide_eq_false (fun h => h1 h.2), Bool.false_and]
      rw [e]
      exact rocheck_hi key p hp w h0 (by omega)
  · have e : ckP key p = false := by unfold ckP; rw [decide_eq_false (fun h => h0 h.1), Bool.false_and]
    rw [e]
    exact rocheck_lo key p hp w (by omega)

set_option maxRecDepth 100000 in
set_option maxHeartbeats 4000000 in
theorem rocv_ff (key : Int) (a b : Po) (ha : a.root.length = 32) (hb : b.root.length = 32) (w : World) (h1 : ckP key a = false) (h2 : ckP key b = false)  :
    Calls Tryd.prog 33 #[.int .i64 key, .agg (poA a), .agg (poA b)] w fun e w' => e = .returned (.bool false) ∧ Below w.heap.size w w' := by
  have hB : Below w.heap.size w ((w.alloc (.cells (poA a) 49)).alloc (.cells (poA b) 49)) := ((Below.refl _ _).alloc (Nat.le_refl _) _).alloc (by simp) _
  have hra := heap_alloc2_old w (.cells (poA a) 49) (.cells (poA b) 49)
  have hrb := heap_alloc2_new w (.cells (poA a) 49) (.cells (poA b) 49)
  have hla := (Array.getElem?_eq_some_iff.1 hra).1
  have hlb := (Array.getElem?_eq_some_iff.1 hrb).1
  obtain ⟨W, hW⟩ : ∃ W, ((w.alloc (.cells (poA a) 49)).alloc (.cells (poA b) 49)) = W := ⟨_, rfl⟩
  rw [hW] at hB hra hrb hla hlb
  have hSa : Hid (∀ V, Below W.heap.size W V → V.rangeAt w.heap.size 0 (poC a)) := Lib.hid fun V hV => po_row ((hV.block w.heap.size hla).trans hra)
  have hSb : Hid (∀ V, Below W.heap.size W V → V.rangeAt (w.heap.size + 1) 0 (poC b)) := Lib.hid fun V hV => po_row ((hV.block (w.heap.size + 1) hlb).trans hrb)
  have hTa : Hid (∀ V, Below W.heap.size W V → V.rangeAt w.heap.size 1 (a.root.map by1)) := Lib.hid fun V hV => po_root_at ((hV.block w.heap.size hla).trans hra)
  have hTb : Hid (∀ V, Below W.heap.size W V → V.rangeAt (w.heap.size + 1) 1 (b.root.map by1)) := Lib.hid fun V hV => po_root_at ((hV.block (w.heap.size + 1) hlb).trans hrb)
  have hNo : Hid (∀ V, Below W.heap.size W V → V.cell? ⟨w.heap.size, 0, none⟩ = some (.int .i64 a.no) ∧ V.cell? ⟨w.heap.size + 1, 0, none⟩ = some (.int .i64 b.no)) := Lib.hid fun V hV => ⟨(po_cells ha ((hV.block w.heap.size hla).trans hra)).1, (po_cells hb ((hV.block (w.heap.size + 1) hlb).trans hrb)).1⟩
  have ja := Lib.hid (po_info' ha)
  have jb := Lib.hid (po_info' hb)
  have ia := Lib.hid (dg_info' a.root ha)
  have ib := Lib.hid (dg_info' b.root hb)
  have kA : Hid (∀ V, Calls Tryd.prog 31 #[.int .i64 key, .agg (poC a).toArray] V fun e w' => e = .returned (.bool false) ∧ Below V.heap.size V w') := Lib.hid fun V => h1 ▸ rocheck_any key a ha V
  have kB : Hid (∀ V, Calls Tryd.prog 31 #[.int .i64 key, .agg (poC b).toArray] V fun e w' => e = .returned (.bool false) ∧ Below V.heap.size V w') := Lib.hid fun V => h2 ▸ rocheck_any key b hb V
  have HB := Below.refl W.heap.size W
  replace hB := Lib.hid hB
  replace h1 := Lib.hid h1
  replace h2 := Lib.hid h2
  clear hra hrb hla hlb ha hb
  go_enter Tryd.func33, Tryd.ntmps33
  go_wp2_with (refine wpList_load_mid (by rfl) 49 (.tmp 4) (by rfl) w.heap.size 0 (by rfl) (poC a) _ (hSa.out _ HB) Tryd.underlying49 (by rfl) ja.out ?_)
  refine (kA.out _).mono ?_
  rintro e w1 ⟨rfl, hb⟩
  replace HB := HB.trans (hb.mono HB.size)
  clear hb
  go_wp2_with (refine wpList_load_mid (by rfl) 49 (.tmp 5) (by rfl) (w.heap.size + 1) 0 (by rfl) (poC b) _ (hSb.out _ HB) Tryd.underlying49 (by rfl) jb.out ?_)
  refine (kB.out _).mono ?_
  rintro e w2 ⟨rfl, hb⟩
  replace HB := HB.trans (hb.mono HB.size)
  clear hb
  obtain ⟨a0, b0⟩ := hNo.out _ HB
  go_wp2_with (first
    | (refine wpList_load_midG (by rfl) 35 (.tmp 27) (by rfl) w.heap.size 1 (by rfl) (a.root.map by1) _ (hTa.out _ HB) Tryd.underlying35 (by rfl) ia.out ?_)
    | (refine wpList_load_midG (by rfl) 35 (.tmp 29) (by rfl) (w.heap.size + 1) 1 (by rfl) (b.root.map by1) _ (hTb.out _ HB) Tryd.underlying35 (by rfl) ib.out ?_))
  go_ret
  exact ⟨rfl, hB.out.trans (HB.mono hB.out.size)⟩

set_option maxRecDepth 100000 in
set_option maxHeartbeats 4000000 in
theorem rocv_ft (key : Int) (a b : Po) (ha : a.root.length = 32) (hb : b.root.length = 32) (w : World) (h1 : ckP key a = false) (h2 : ckP key b = true)  :
    Calls Tryd.prog 33 #[.int .i64 key, .agg (poA a), .agg (poA b)] w fun e w' => e = .returned (.bool false) ∧ Below w.heap.size w w' := by
  have hB : Below w.heap.size w ((w.alloc (.cells (poA a) 49)).alloc (.cells (poA b) 49)) := ((Below.refl _ _).alloc (Nat.le_refl _) _).alloc (by simp) _
  have hra := heap_alloc2_old w (.cells (poA a) 49) (.cells (poA b) 49)
  have hrb := heap_alloc2_new w (.cells (poA a) 49) (.cells (poA b) 49)
  have hla := (Array.getElem?_eq_some_iff.1 hra).1
  have hlb := (Array.getElem?_eq_some_iff.1 hrb).1
  obtain ⟨W, hW⟩ : ∃ W, ((w.alloc (.cells (poA a) 49)).alloc (.cells (poA b) 49)) = W := ⟨_, rfl⟩
  rw [hW] at hB hra hrb hla hlb
  have hSa : Hid (∀ V, Below W.heap.size W V → V.rangeAt w.heap.size 0 (poC a)) := Lib.hid fun V hV => po_row ((hV.block w.heap.size hla).trans hra)
  have hSb : Hid (∀ V, Below W.heap.size W V → V.rangeAt (w.heap.size + 1) 0 (poC b)) := Lib.hid fun V hV => po_row ((hV.block (w.heap.size + 1) hlb).trans hrb)
  have hTa : Hid (∀ V, Below W.heap.size W V → V.rangeAt w.heap.size 1 (a.root.map by1)) := Lib.hid fun V hV => po_root_at ((hV.block w.heap.size hla).trans hra)
  have hTb : Hid (∀ V, Below W.heap.size W V → V.rangeAt (w.heap.size + 1) 1 (b.root.map by1)) := Lib.hid fun V hV => po_root_at ((hV.block (w.heap.size + 1) hlb).trans hrb)
  have hNo : Hid (∀ V, Below W.heap.size W V → V.cell? ⟨w.heap.size, 0, none⟩ = some (.int .i64 a.no) ∧ V.cell? ⟨w.heap.size + 1, 0, none⟩ = some (.int .i64 b.no)) := Lib.hid fun V hV => ⟨(po_cells ha ((hV.block w.heap.size hla).trans hra)).1, (po_cells hb ((hV.block (w.heap.size + 1) hlb).trans hrb)).1⟩
  have ja := Lib.hid (po_info' ha)
  have jb := Lib.hid (po_info' hb)
  have ia := Lib.hid (dg_info' a.root ha)
  have ib := Lib.hid (dg_info' b.root hb)
  have kA : Hid (∀ V, Calls Tryd.prog 31 #[.int .i64 key, .agg (poC a).toArray] V fun e w' => e = .returned (.bool false) ∧ Below V.heap.size V w') := Lib.hid fun V => h1 ▸ rocheck_any key a ha V
  have kB : Hid (∀ V, Calls Tryd.prog 31 #[.int .i64 key, .agg (poC b).toArray] V fun e w' => e = .returned (.bool true) ∧ Below V.heap.size V w') := Lib.hid fun V => h2 ▸ rocheck_any key b hb V
  have HB := Below.refl W.heap.size W
  replace hB := Lib.hid hB
  replace h1 := Lib.hid h1
  replace h2 := Lib.hid h2
  clear hra hrb hla hlb ha hb
  go_enter Tryd.func33, Tryd.ntmps33
  go_wp2_with (refine wpList_load_mid (by rfl) 49 (.tmp 4) (by rfl) w.heap.size 0 (by rfl) (poC a) _ (hSa.out _ HB) Tryd.underlying49 (by rfl) ja.out ?_)
  refine (kA.out _).mono ?_
  rintro e w1 ⟨rfl, hb⟩
  replace HB := HB.trans (hb.mono HB.size)
  clear hb
  go_wp2_with (refine wpList_load_mid (by rfl) 49 (.tmp 5) (by rfl) (w.heap.size + 1) 0 (by rfl) (poC b) _ (hSb.out _ HB) Tryd.underlying49 (by rfl) jb.out ?_)
  refine (kB.out _).mono ?_
  rintro e w2 ⟨rfl, hb⟩
  replace HB := HB.trans (hb.mono HB.size)
  clear hb
  obtain ⟨a0, b0⟩ := hNo.out _ HB
  go_wp2_with (first
    | (refine wpList_load_midG (by rfl) 35 (.tmp 27) (by rfl) w.heap.size 1 (by rfl) (a.root.map by1) _ (hTa.out _ HB) Tryd.underlying35 (by rfl) ia.out ?_)
    | (refine wpList_load_midG (by rfl) 35 (.tmp 29) (by rfl) (w.heap.size + 1) 1 (by rfl) (b.root.map by1) _ (hTb.out _ HB) Tryd.underlying35 (by rfl) ib.out ?_))
  go_ret
  exact ⟨rfl, hB.out.trans (HB.mono hB.out.size)⟩

set_option maxRecDepth 100000 in
set_option maxHeartbeats 4000000 in
theorem rocv_tf (key : Int) (a b : Po) (ha : a.root.length = 32) (hb : b.root.length = 32) (w : World) (h1 : ckP key a = true) (h2 : ckP key b = false)  :
    Calls Tryd.prog 33 #[.int .i64 key, .agg (poA a), .agg (poA b)] w fun e w' => e = .returned (.bool false) ∧ Below w.heap.size w w' := by
  have hB : Below w.heap.size w ((w.alloc (.cells (poA a) 49)).alloc (.cells (poA b) 49)) := ((Below.refl _ _).alloc (Nat.le_refl _) _).alloc (by simp) _
  have hra := heap_alloc2_old w (.cells (poA a) 49) (.cells (poA b) 49)
  have hrb := heap_alloc2_new w (.cells (poA a) 49) (.cells (poA b) 49)
  have hla := (Array.getElem?_eq_some_iff.1 hra).1
  have hlb := (Array.getElem?_eq_some_iff.1 hrb).1
  obtain ⟨W, hW⟩ : ∃ W, ((w.alloc (.cells (poA a) 49)).alloc (.cells (poA b) 49)) = W := ⟨_, rfl⟩
  rw [hW] at hB hra hrb hla hlb
  have hSa : Hid (∀ V, Below W.heap.size W V → V.rangeAt w.heap.size 0 (poC a)) := Lib.hid fun V hV => po_row ((hV.block w.heap.size hla).trans hra)
  have hSb : Hid (∀ V, Below W.heap.size W V → V.rangeAt (w.heap.size + 1) 0 (poC b)) := Lib.hid fun V hV => po_row ((hV.block (w.heap.size + 1) hlb).trans hrb)
  have hTa : Hid (∀ V, Below W.heap.size W V → V.rangeAt w.heap.size 1 (a.root.map by1)) := Lib.hid fun V hV => po_root_at ((hV.block w.heap.size hla).trans hra)
  have hTb : Hid (∀ V, Below W.heap.size W V → V.rangeAt (w.heap.size + 1) 1 (b.root.map by1)) := Lib.hid fun V hV => po_root_at ((hV.block (w.heap.size + 1) hlb).trans hrb)
  have hNo : Hid (∀ V, Below W.heap.size W V → V.cell? ⟨w.heap.size, 0, none⟩ = some (.int .i64 a.no) ∧ V.cell? ⟨w.heap.size + 1, 0, none⟩ = some (.int .i64 b.no)) := Lib.hid fun V hV => ⟨(po_cells ha ((hV.block w.heap.size hla).trans hra)).1, (po_cells hb ((hV.block (w.heap.size + 1) hlb).trans hrb)).1⟩
  have ja := Lib.hid (po_info' ha)
  have jb := Lib.hid (po_info' hb)
  have ia := Lib.hid (dg_info' a.root ha)
  have ib := Lib.hid (dg_info' b.root hb)
  have kA : Hid (∀ V, Calls Tryd.prog 31 #[.int .i64 key, .agg (poC a).toArray] V fun e w' => e = .returned (.bool true) ∧ Below V.heap.size V w') := Lib.hid fun V => h1 ▸ rocheck_any key a ha V
  have kB : Hid (∀ V, Calls Tryd.prog 31 #[.int .i64 key, .agg (poC b).toArray] V fun e w' => e = .returned (.bool false) ∧ Below V.heap.size V w') := Lib.hid fun V => h2 ▸ rocheck_any key b hb V
  have HB := Below.refl W.heap.size W
  replace hB := Lib.hid hB
  replace h1 := Lib.hid h1
  replace h2 := Lib.hid h2
  clear hra hrb hla hlb ha hb
  go_enter Tryd.func33, Tryd.ntmps33
  go_wp2_with (refine wpList_load_mid (by rfl) 49 (.tmp 4) (by rfl) w.heap.size 0 (by rfl) (poC a) _ (hSa.out _ HB) Tryd.underlying49 (by rfl) ja.out ?_)
  refine (kA.out _).mono ?_
  rintro e w1 ⟨rfl, hb⟩
  replace HB := HB.trans (hb.mono HB.size)
  clear hb
  go_wp2_with (refine wpList_load_mid (by rfl) 49 (.tmp 5) (by rfl) (w.heap.size + 1) 0 (by rfl) (poC b) _ (hSb.out _ HB) Tryd.underlying49 (by rfl) jb.out ?_)
  refine (kB.out _).mono ?_
  rintro e w2 ⟨rfl, hb⟩
  replace HB := HB.trans (hb.mono HB.size)
  clear hb
  obtain ⟨a0, b0⟩ := hNo.out _ HB
  go_wp2_with (first
    | (refine wpList_load_midG (by rfl) 35 (.tmp 27) (by rfl) w.heap.size 1 (by rfl) (a.root.map by1) _ (hTa.out _ HB) Tryd.underlying35 (by rfl) ia.out ?_)
    | (refine wpList_load_midG (by rfl) 35 (.tmp 29) (by rfl) (w.heap.size + 1) 1 (by rfl) (b.root.map by1) _ (hTb.out _ HB) Tryd.underlying35 (by rfl) ib.out ?_))
  go_ret
  exact ⟨rfl, hB.out.trans (HB.mono hB.out.size)⟩

set_option maxRecDepth 100000 in
set_option maxHeartbeats 4000000 in
theorem rocv_no (key : Int) (a b : Po) (ha : a.root.length = 32) (hb : b.root.length = 32) (w : World) (h1 : ckP key a = true) (h2 : ckP key b = true) (h : ¬ a.no = b.no) :
    Calls Tryd.prog 33 #[.int .i64 key, .agg (poA a), .agg (poA b)] w fun e w' => e = .returned (.bool false) ∧ Below w.heap.size w w' := by
  have hB : Below w.heap.size w ((w.alloc (.cells (poA a) 49)).alloc (.cells (poA b) 49)) := ((Below.refl _ _).alloc (Nat.le_refl _) _).alloc (by simp) _
  have hra := heap_alloc2_old w (.cells (poA a) 49) (.cells (poA b) 49)
  have hrb := heap_alloc2_new w (.cells (poA a) 49) (.cells (poA b) 49)
  have hla := (Array.getElem?_eq_some_iff.1 hra).1
  have hlb := (Array.getElem?_eq_some_iff.1 hrb).1
  obtain ⟨W, hW⟩ : ∃ W, ((w.alloc (.cells (poA a) 49)).alloc (.cells (poA b) 49)) = W := ⟨_, rfl⟩
  rw [hW] at hB hra hrb hla hlb
  have hSa : Hid (∀ V, Below W.heap.size W V → V.rangeAt w.heap.size 0 (poC a)) := Lib.hid fun V hV => po_row ((hV.block w.heap.size hla).trans hra)
  have hSb : Hid (∀ V, Below W.heap.size W V → V.rangeAt (w.heap.size + 1) 0 (poC b)) := Lib.hid fun V hV => po_row ((hV.block (w.heap.size + 1) hlb).trans hrb)
  have hTa : Hid (∀ V, Below W.heap.size W V → V.rangeAt w.heap.size 1 (a.root.map by1)) := Lib.hid fun V hV => po_root_at ((hV.block w.heap.size hla).trans hra)
  have hTb : Hid (∀ V, Below W.heap.size W V → V.rangeAt (w.heap.size + 1) 1 (b.root.map by1)) := Lib.hid fun V hV => po_root_at ((hV.block (w.heap.size + 1) hlb).trans hrb)
  have hNo : Hid (∀ V, Below W.heap.size W V → V.cell? ⟨w.heap.size, 0, none⟩ = some (.int .i64 a.no) ∧ V.cell? ⟨w.heap.size + 1, 0, none⟩ = some (.int .i64 b.no)) := Lib.hid fun V hV => ⟨(po_cells ha ((hV.block w.heap.size hla).trans hra)).1, (po_cells hb ((hV.block (w.heap.size + 1) hlb).trans hrb)).1⟩
  have ja := Lib.hid (po_info' ha)
  have jb := Lib.hid (po_info' hb)
  have ia := Lib.hid (dg_info' a.root ha)
  have ib := Lib.hid (dg_info' b.root hb)
  have kA : Hid (∀ V, Calls Tryd.prog 31 #[.int .i64 key, .agg (poC a).toArray] V fun e w' => e = .returned (.bool true) ∧ Below V.heap.size V w') := Lib.hid fun V => h1 ▸ rocheck_any key a ha V
  have kB : Hid (∀ V, Calls Tryd.prog 31 #[.int .i64 key, .agg (poC b).toArray] V fun e w' => e = .returned (.bool true) ∧ Below V.heap.size V w') := Lib.hid fun V => h2 ▸ rocheck_any key b hb V
  have HB := Below.refl W.heap.size W
  replace h := Lib.hid h
  replace hB := Lib.hid hB
  replace h1 := Lib.hid h1
  replace h2 := Lib.hid h2
  clear hra hrb hla hlb ha hb
  go_enter Tryd.func33, Tryd.ntmps33
  go_wp2_with (refine wpList_load_mid (by rfl) 49 (.tmp 4) (by rfl) w.heap.size 0 (by rfl) (poC a) _ (hSa.out _ HB) Tryd.underlying49 (by rfl) ja.out ?_)
  refine (kA.out _).mono ?_
  rintro e w1 ⟨rfl, hb⟩
  replace HB := HB.trans (hb.mono HB.size)
  clear hb
  go_wp2_with (refine wpList_load_mid (by rfl) 49 (.tmp 5) (by rfl) (w.heap.size + 1) 0 (by rfl) (poC b) _ (hSb.out _ HB) Tryd.underlying49 (by rfl) jb.out ?_)
  refine (kB.out _).mono ?_
  rintro e w2 ⟨rfl, hb⟩
  replace HB := HB.trans (hb.mono HB.size)
  clear hb
  obtain ⟨a0, b0⟩ := hNo.out _ HB
  obtain ⟨na, hna⟩ : ∃ m, a.no = m := ⟨_, rfl⟩
  obtain ⟨nb, hnb⟩ : ∃ m, b.no = m := ⟨_, rfl⟩
  rw [hna] at a0
  rw [hnb] at b0
  have h9 := h.out
  rw [hna, hnb] at h9
  clear hna hnb
  go_wp2_with (first
    | (refine wpList_load_midG (by rfl) 35 (.tmp 27) (by rfl) w.heap.size 1 (by rfl) (a.root.map by1) _ (hTa.out _ HB) Tryd.underlying35 (by rfl) ia.out ?_)
    | (refine wpList_load_midG (by rfl) 35 (.tmp 29) (by rfl) (w.heap.size + 1) 1 (by rfl) (b.root.map by1) _ (hTb.out _ HB) Tryd.underlying35 (by rfl) ib.out ?_))
  go_ret
  exact ⟨rfl, hB.out.trans (HB.mono hB.out.size)⟩

set_option maxRecDepth 100000 in
set_option maxHeartbeats 4000000 in
theorem rocv_eq (key : Int) (a b : Po) (ha : a.root.length = 32) (hb : b.root.length = 32) (w : World) (h1 : ckP key a = true) (h2 : ckP key b = true) (h : a.no = b.no) (hr : a.root = b.root) :
    Calls Tryd.prog 33 #[.int .i64 key, .agg (poA a), .agg (poA b)] w fun e w' => e = .returned (.bool false) ∧ Below w.heap.size w w' := by
  have hB : Below w.heap.size w ((w.alloc (.cells (poA a) 49)).alloc (.cells (poA b) 49)) := ((Below.refl _ _).alloc (Nat.le_refl _) _).alloc (by simp) _
  have hra := heap_alloc2_old w (.cells (poA a) 49) (.cells (poA b) 49)
  have hrb := heap_alloc2_new w (.cells (poA a) 49) (.cells (poA b) 49)
  have hla := (Array.getElem?_eq_some_iff.1 hra).1
  have hlb := (Array.getElem?_eq_some_iff.1 hrb).1
  obtain ⟨W, hW⟩ : ∃ W, ((w.alloc (.cells (poA a) 49)).alloc (.cells (poA b) 49)) = W := ⟨_, rfl⟩
  rw [hW] at hB hra hrb hla hlb
  have hSa : Hid (∀ V, Below W.heap.size W V → V.rangeAt w.heap.size 0 (poC a)) := Lib.hid fun V hV => po_row ((hV.block w.heap.size hla).trans hra)
  have hSb : Hid (∀ V, Below W.heap.size W V → V.rangeAt (w.heap.size + 1) 0 (poC b)) := Lib.hid fun V hV => po_row ((hV.block (w.heap.size + 1) hlb).trans hrb)
  have hTa : Hid (∀ V, Below W.heap.size W V → V.rangeAt w.heap.size 1 (a.root.map by1)) := Lib.hid fun V hV => po_root_at ((hV.block w.heap.size hla).trans hra)
  have hTb : Hid (∀ V, Below W.heap.size W V → V.rangeAt (w.heap.size + 1) 1 (b.root.map by1)) := Lib.hid fun V hV => po_root_at ((hV.block (w.heap.size + 1) hlb).trans hrb)
  have hNo : Hid (∀ V, Below W.heap.size W V → V.cell? ⟨w.heap.size, 0, none⟩ = some (.int .i64 a.no) ∧ V.cell? ⟨w.heap.size + 1, 0, none⟩ = some (.int .i64 b.no)) := Lib.hid fun V hV => ⟨(po_cells ha ((hV.block w.heap.size hla).trans hra)).1, (po_cells hb ((hV.block (w.heap.size + 1) hlb).trans hrb)).1⟩
  have ja := Lib.hid (po_info' ha)
  have jb := Lib.hid (po_info' hb)
  have ia := Lib.hid (dg_info' a.root ha)
  have ib := Lib.hid (dg_info' b.root hb)
  have kA : Hid (∀ V, Calls Tryd.prog 31 #[.int .i64 key, .agg (poC a).toArray] V fun e w' => e = .returned (.bool true) ∧ Below V.heap.size V w') := Lib.hid fun V => h1 ▸ rocheck_any key a ha V
  have kB : Hid (∀ V, Calls Tryd.prog 31 #[.int .i64 key, .agg (poC b).toArray] V fun e w' => e = .returned (.bool true) ∧ Below V.heap.size V w') := Lib.hid fun V => h2 ▸ rocheck_any key b hb V
  have HB := Below.refl W.heap.size W
  have q0 : ∀ V, (Op.equalIn 10000 35 (.agg (a.root.map by1).toArray) (.agg (b.root.map by1).toArray)).run Tryd.prog V = .ok (decide (a.root = b.root)) V := eq_dg a.root b.root ha hb
  rw [decide_eq_true hr] at q0
  replace hr := Lib.hid hr
  replace h := Lib.hid h
  replace hB := Lib.hid hB
  replace h1 := Lib.hid h1
  replace h2 := Lib.hid h2
  clear hra hrb hla hlb ha hb
  go_enter Tryd.func33, Tryd.ntmps33
  go_wp2_with (refine wpList_load_mid (by rfl) 49 (.tmp 4) (by rfl) w.heap.size 0 (by rfl) (poC a) _ (hSa.out _ HB) Tryd.underlying49 (by rfl) ja.out ?_)
  refine (kA.out _).mono ?_
  rintro e w1 ⟨rfl, hb⟩
  replace HB := HB.trans (hb.mono HB.size)
  clear hb
  go_wp2_with (refine wpList_load_mid (by rfl) 49 (.tmp 5) (by rfl) (w.heap.size + 1) 0 (by rfl) (poC b) _ (hSb.out _ HB) Tryd.underlying49 (by rfl) jb.out ?_)
  refine (kB.out _).mono ?_
  rintro e w2 ⟨rfl, hb⟩
  replace HB := HB.trans (hb.mono HB.size)
  clear hb
  obtain ⟨a0, b0⟩ := hNo.out _ HB
  rw [h.out] at a0
  go_wp2_with (first
    | (refine wpList_load_midG (by rfl) 35 (.tmp 27) (by rfl) w.heap.size 1 (by rfl) (a.root.map by1) _ (hTa.out _ HB) Tryd.underlying35 (by rfl) ia.out ?_)
    | (refine wpList_load_midG (by rfl) 35 (.tmp 29) (by rfl) (w.heap.size + 1) 1 (by rfl) (b.root.map by1) _ (hTb.out _ HB) Tryd.underlying35 (by rfl) ib.out ?_))
  go_ret
  exact ⟨rfl, hB.out.trans (HB.mono hB.out.size)⟩

set_option maxRecDepth 100000 in
set_option maxHeartbeats 4000000 in
theorem rocv_ne (key : Int) (a b : Po) (ha : a.root.length = 32) (hb : b.root.length = 32) (w : World) (h1 : ckP key a = true) (h2 : ckP key b = true) (h : a.no = b.no) (hr : ¬ a.root = b.root) :
    Calls Tryd.prog 33 #[.int .i64 key, .agg (poA a), .agg (poA b)] w fun e w' => e = .returned (.bool true) ∧ Below w.heap.size w w' := by
  have hB : Below w.heap.size w ((w.alloc (.cells (poA a) 49)).alloc (.cells (poA b) 49)) := ((Below.refl _ _).alloc (Nat.le_refl _) _).alloc (by simp) _
  have hra := heap_alloc2_old w (.cells (poA a) 49) (.cells (poA b) 49)
  have hrb := heap_alloc2_new w (.cells (poA a) 49) (.cells (poA b) 49)
  have hla := (Array.getElem?_eq_some_iff.1 hra).1
  have hlb := (Array.getElem?_eq_some_iff.1 hrb).1
  obtain ⟨W, hW⟩ : ∃ W, ((w.alloc (.cells (poA a) 49)).alloc (.cells (poA b) 49)) = W := ⟨_, rfl⟩
  rw [hW] at hB hra hrb hla hlb
  have hSa : Hid (∀ V, Below W.heap.size W V → V.rangeAt w.heap.size 0 (poC a)) := Lib.hid fun V hV => po_row ((hV.block w.heap.size hla).trans hra)
  have hSb : Hid (∀ V, Below W.heap.size W V → V.rangeAt (w.heap.size + 1) 0 (poC b)) := Lib.hid fun V hV => po_row ((hV.block (w.heap.size + 1) hlb).trans hrb)
  have hTa : Hid (∀ V, Below W.heap.size W V → V.rangeAt w.heap.size 1 (a.root.map by1)) := Lib.hid fun V hV => po_root_at ((hV.block w.heap.size hla).trans hra)
  have hTb : Hid (∀ V, Below W.heap.size W V → V.rangeAt (w.heap.size + 1) 1 (b.root.map by1)) := Lib.hid fun V hV => po_root_at ((hV.block (w.heap.size + 1) hlb).trans hrb)
  have hNo : Hid (∀ V, Below W.heap.size W V → V.cell? ⟨w.heap.size, 0, none⟩ = some (.int .i64 a.no) ∧ V.cell? ⟨w.heap.size + 1, 0, none⟩ = some (.int .i64 b.no)) := Lib.hid fun V hV => ⟨(po_cells ha ((hV.block w.heap.size hla).trans hra)).1, (po_cells hb ((hV.block (w.heap.size + 1) hlb).trans hrb)).1⟩
  have ja := Lib.hid (po_info' ha)
  have jb := Lib.hid (po_info' hb)
  have ia := Lib.hid (dg_info' a.root ha)
  have ib := Lib.hid (dg_info' b.root hb)
  have kA : Hid (∀ V, Calls Tryd.prog 31 #[.int .i64 key, .agg (poC a).toArray] V fun e w' => e = .returned (.bool true) ∧ Below V.heap.size V w') := Lib.hid fun V => h1 ▸ rocheck_any key a ha V
  have kB : Hid (∀ V, Calls Tryd.prog 31 #[.int .i64 key, .agg (poC b).toArray] V fun e w' => e = .returned (.bool true) ∧ Below V.heap.size V w') := Lib.hid fun V => h2 ▸ rocheck_any key b hb V
  have HB := Below.refl W.heap.size W
  have q0 : ∀ V, (Op.equalIn 10000 35 (.agg (a.root.map by1).toArray) (.agg (b.root.map by1).toArray)).run Tryd.prog V = .ok (decide (a.root = b.root)) V := eq_dg a.root b.root ha hb
  rw [decide_eq_false hr] at q0
  replace hr := Lib.hid hr
  replace h := Lib.hid h
  replace hB := Lib.hid hB
  replace h1 := Lib.hid h1
  replace h2 := Lib.hid h2
  clear hra hrb hla hlb ha hb
  go_enter Tryd.func33, Tryd.ntmps33
  go_wp2_with (refine wpList_load_mid (by rfl) 49 (.tmp 4) (by rfl) w.heap.size 0 (by rfl) (poC a) _ (hSa.out _ HB) Tryd.underlying49 (by rfl) ja.out ?_)
  refine (kA.out _).mono ?_
  rintro e w1 ⟨rfl, hb⟩
  replace HB := HB.trans (hb.mono HB.size)
  clear hb
  go_wp2_with (refine wpList_load_mid (by rfl) 49 (.tmp 5) (by rfl) (w.heap.size + 1) 0 (by rfl) (poC b) _ (hSb.out _ HB) Tryd.underlying49 (by rfl) jb.out ?_)
  refine (kB.out _).mono ?_
  rintro e w2 ⟨rfl, hb⟩
  replace HB := HB.trans (hb.mono HB.size)
  clear hb
  obtain ⟨a0, b0⟩ := hNo.out _ HB
  rw [h.out] at a0
  go_wp2_with (first
    | (refine wpList_load_midG (by rfl) 35 (.tmp 27) (by rfl) w.heap.size 1 (by rfl) (a.root.map by1) _ (hTa.out _ HB) Tryd.underlying35 (by rfl) ia.out ?_)
    | (refine wpList_load_midG (by rfl) 35 (.tmp 29) (by rfl) (w.heap.size + 1) 1 (by rfl) (b.root.map by1) _ (hTb.out _ HB) Tryd.underlying35 (by rfl) ib.out ?_))
  go_ret
  exact ⟨rfl, hB.out.trans (HB.mono hB.out.size)⟩

theorem roconvict_any (key : Int) (a b : Po) (ha : a.root.length = 32) (hb : b.root.length = 32) (w : World) :
    Calls Tryd.prog 33 #[.int .i64 key, .agg (poA a), .agg (poA b)] w fun e w' => e = .returned (.bool (cvP key a b)) ∧ Below w.heap.size w w' := by
  unfold cvP
  cases h1 : ckP key a with
  | false =>
    rw [Bool.and_false, Bool.false_and]
    cases h2 : ckP key b with
    | false => exact rocv_ff key a b ha hb w h1 h2
    | true => exact rocv_ft key a b ha hb w h1 h2
  | true =>
    cases h2 : ckP key b with
    | false => rw [Bool.and_false]; exact rocv_tf key a b ha hb w h1 h2
    | true =>
      rw [Bool.and_true, Bool.and_true]
      by_cases h : a.no = b.no
      · rw [decide_eq_true h, Bool.true_and]
        by_cases hr : a.root = b.root
        · rw [decide_eq_true hr]; exact rocv_eq key a b ha hb w h1 h2 h hr
        · rw [decide_eq_false hr]; exact rocv_ne key a b ha hb w h1 h2 h hr
      · rw [decide_eq_false h, Bool.false_and]; exact rocv_no key a b ha hb w h1 h2 h

set_option maxRecDepth 100000 in
set_option maxHeartbeats 8000000 in
theorem roshows_err (p : Po) (hp : p.root.length = 32) (no : Int) (n cp : Nat) (A : Option Addr) (w : World) (E : Int) (D : List UInt8) (hlen : D.length = 32) (hD : Hid (Calls Tryd.prog 58 #[.agg #[.int .i64 no, .slice A n cp]] ((w.alloc (.cells (poA p) 49)).alloc (.cells #[.int .i64 no, .slice A n cp] 45)) fun e w' => e = .returned (.tuple #[.agg (dg D), .int .i64 E]) ∧ Below ((w.alloc (.cells (poA p) 49)).alloc (.cells #[.int .i64 no, .slice A n cp] 45)).heap.size ((w.alloc (.cells (poA p) 49)).alloc (.cells #[.int .i64 no, .slice A n cp] 45)) w')) (hE : E = 350) :
    Calls Tryd.prog 29 #[.agg (poA p), .agg #[.int .i64 no, .slice A n cp]] w fun e w' => e = .returned (.tuple #[.bool false, .int .i64 350]) ∧ Below w.heap.size w w' := by
  subst hE
  have hB : Below w.heap.size w ((w.alloc (.cells (poA p) 49)).alloc (.cells #[.int .i64 no, .slice A n cp] 45)) := ((Below.refl _ _).alloc (Nat.le_refl _) _).alloc (by simp) _
  have hra := heap_alloc2_old w (.cells (poA p) 49) (.cells #[.int .i64 no, .slice A n cp] 45)
  have hrb := heap_alloc2_new w (.cells (poA p) 49) (.cells #[.int .i64 no, .slice A n cp] 45)
  have hla := (Array.getElem?_eq_some_iff.1 hra).1
  have hlb := (Array.getElem?_eq_some_iff.1 hrb).1
  have hiD := Lib.hid (dg_info D hlen)
  have hoD := Lib.hid (dg_one D)
  have hsD : Hid (32 = (dg D).size) := Lib.hid (by rw [dg_size, hlen])
  have ip := Lib.hid (dg_info' p.root hp)
  have iD := Lib.hid (dg_info' D hlen)
  obtain ⟨pn, hpn⟩ : ∃ m, p.no = m := ⟨_, rfl⟩
  skip
  replace hpn := Lib.hid hpn
  replace hp := Lib.hid hp
  go_enter Tryd.func29, Tryd.ntmps29
  go_wp2_with fail
  refine hD.out.mono ?_
  rintro e w1 ⟨rfl, hb⟩
  have hB1 := Lib.hid (hB.trans (hb.mono hB.size))
  have hra1 := Lib.hid ((hb.block w.heap.size hla).trans hra)
  have hrb1 := Lib.hid ((hb.block (w.heap.size + 1) hlb).trans hrb)
  have hl1 := Lib.hid ((Array.getElem?_eq_some_iff.1 hrb1.out).1)
  clear hra hrb hla hlb hb hD hB
  go_wp2_with (first
    | (refine wpList_new_row' (by rfl) 35 (.tmp 6) (.tmp 11) (by rfl) (by rfl) (dg D) w1.heap.size (by rfl) rfl (by rfl) 35 _ hiD.out hsD.out hoD.out ?_; intro w2 hd2 hz2 hB2; have hB3 := Lib.hid (hB1.out.trans (hB2.mono hB1.out.size)); have hra2 := (hB2.block w.heap.size (by have := hl1.out; omega)).trans hra1.out; have hrb2 := (hB2.block (w.heap.size + 1) hl1.out).trans hrb1.out; obtain ⟨p0, _, _⟩ := po_cells hp.out hra2; rw [hpn.out] at p0; have rp := Lib.hid (po_root_at hra2); have rd : Hid (w2.rangeAt w1.heap.size 0 (D.map by1)) := Lib.hid (fun j v hj => by (rw [cell_of_row _ _ _ _ _ _ hd2, Nat.zero_add]; simpa [dg] using hj)); have c0 : w2.cell? ⟨w.heap.size + 1, 0, none⟩ = some (.int .i64 no) := by (rw [cell_of_row _ _ _ _ _ _ hrb2]; rfl)
       clear hd2 hz2 hB2 hra2 hrb2)
    | (refine wpList_load_midG (by rfl) 35 (.tmp 22) (by rfl) w.heap.size 1 (by rfl) (p.root.map by1) _ rp.out Tryd.underlying35 (by rfl) ip.out ?_)
    | (refine wpList_load_midG (by rfl) 35 (.tmp 6) (by rfl) w1.heap.size 0 (by rfl) (D.map by1) _ rd.out Tryd.underlying35 (by rfl) iD.out ?_))
  go_ret2
  exact ⟨rfl, hB3.out⟩
set_option maxRecDepth 100000 in
set_option maxHeartbeats 8000000 in
theorem roshows_no (p : Po) (hp : p.root.length = 32) (no : Int) (n cp : Nat) (A : Option Addr) (w : World) (E : Int) (D : List UInt8) (hlen : D.length = 32) (hD : Hid (Calls Tryd.prog 58 #[.agg #[.int .i64 no, .slice A n cp]] ((w.alloc (.cells (poA p) 49)).alloc (.cells #[.int .i64 no, .slice A n cp] 45)) fun e w' => e = .returned (.tuple #[.agg (dg D), .int .i64 E]) ∧ Below ((w.alloc (.cells (poA p) 49)).alloc (.cells #[.int .i64 no, .slice A n cp] 45)).heap.size ((w.alloc (.cells (poA p) 49)).alloc (.cells #[.int .i64 no, .slice A n cp] 45)) w')) (hE : E = 0) (hN : ¬ p.no = no) :
    Calls Tryd.prog 29 #[.agg (poA p), .agg #[.int .i64 no, .slice A n cp]] w fun e w' => e = .returned (.tuple #[.bool false, .int .i64 0]) ∧ Below w.heap.size w w' := by
  subst hE
  have hB : Below w.heap.size w ((w.alloc (.cells (poA p) 49)).alloc (.cells #[.int .i64 no, .slice A n cp] 45)) := ((Below.refl _ _).alloc (Nat.le_refl _) _).alloc (by simp) _
  have hra := heap_alloc2_old w (.cells (poA p) 49) (.cells #[.int .i64 no, .slice A n cp] 45)
  have hrb := heap_alloc2_new w (.cells (poA p) 49) (.cells #[.int .i64 no, .slice A n cp] 45)
  have hla := (Array.getElem?_eq_some_iff.1 hra).1
  have hlb := (Array.getElem?_eq_some_iff.1 hrb).1
  have hiD := Lib.hid (dg_info D hlen)
  have hoD := Lib.hid (dg_one D)
  have hsD : Hid (32 = (dg D).size) := Lib.hid (by rw [dg_size, hlen])
  have ip := Lib.hid (dg_info' p.root hp)
  have iD := Lib.hid (dg_info' D hlen)
  obtain ⟨pn, hpn⟩ : ∃ m, p.no = m := ⟨_, rfl⟩
  rw [hpn] at hN
  replace hpn := Lib.hid hpn
  replace hp := Lib.hid hp
  go_enter Tryd.func29, Tryd.ntmps29
  go_wp2_with fail
  refine hD.out.mono ?_
  rintro e w1 ⟨rfl, hb⟩
  have hB1 := Lib.hid (hB.trans (hb.mono hB.size))
  have hra1 := Lib.hid ((hb.block w.heap.size hla).trans hra)
  have hrb1 := Lib.hid ((hb.block (w.heap.size + 1) hlb).trans hrb)
  have hl1 := Lib.hid ((Array.getElem?_eq_some_iff.1 hrb1.out).1)
  clear hra hrb hla hlb hb hD hB
  go_wp2_with (first
    | (refine wpList_new_row' (by rfl) 35 (.tmp 6) (.tmp 11) (by rfl) (by rfl) (dg D) w1.heap.size (by rfl) rfl (by rfl) 35 _ hiD.out hsD.out hoD.out ?_; intro w2 hd2 hz2 hB2; have hB3 := Lib.hid (hB1.out.trans (hB2.mono hB1.out.size)); have hra2 := (hB2.block w.heap.size (by have := hl1.out; omega)).trans hra1.out; have hrb2 := (hB2.block (w.heap.size + 1) hl1.out).trans hrb1.out; obtain ⟨p0, _, _⟩ := po_cells hp.out hra2; rw [hpn.out] at p0; have rp := Lib.hid (po_root_at hra2); have rd : Hid (w2.rangeAt w1.heap.size 0 (D.map by1)) := Lib.hid (fun j v hj => by (rw [cell_of_row _ _ _ _ _ _ hd2, Nat.zero_add]; simpa [dg] using hj)); have c0 : w2.cell? ⟨w.heap.size + 1, 0, none⟩ = some (.int .i64 no) := by (rw [cell_of_row _ _ _ _ _ _ hrb2]; rfl)
       clear hd2 hz2 hB2 hra2 hrb2)
    | (refine wpList_load_midG (by rfl) 35 (.tmp 22) (by rfl) w.heap.size 1 (by rfl) (p.root.map by1) _ rp.out Tryd.underlying35 (by rfl) ip.out ?_)
    | (refine wpList_load_midG (by rfl) 35 (.tmp 6) (by rfl) w1.heap.size 0 (by rfl) (D.map by1) _ rd.out Tryd.underlying35 (by rfl) iD.out ?_))
  go_ret2
  exact ⟨rfl, hB3.out⟩
set_option maxRecDepth 100000 in
set_option maxHeartbeats 8000000 in
theorem roshows_dg (p : Po) (hp : p.root.length = 32) (no : Int) (n cp : Nat) (A : Option Addr) (w : World) (E : Int) (D : List UInt8) (hlen : D.length = 32) (hD : Hid (Calls Tryd.prog 58 #[.agg #[.int .i64 no, .slice A n cp]] ((w.alloc (.cells (poA p) 49)).alloc (.cells #[.int .i64 no, .slice A n cp] 45)) fun e w' => e = .returned (.tuple #[.agg (dg D), .int .i64 E]) ∧ Below ((w.alloc (.cells (poA p) 49)).alloc (.cells #[.int .i64 no, .slice A n cp] 45)).heap.size ((w.alloc (.cells (poA p) 49)).alloc (.cells #[.int .i64 no, .slice A n cp] 45)) w')) (hE : E = 0) (hN : p.no = no) (r : Bool) (hr : decide (p.root = D) = r) :
    Calls Tryd.prog 29 #[.agg (poA p), .agg #[.int .i64 no, .slice A n cp]] w fun e w' => e = .returned (.tuple #[.bool r, .int .i64 0]) ∧ Below w.heap.size w w' := by
  subst hE
  have q0 : ∀ V, (Op.equalIn 10000 35 (.agg (p.root.map by1).toArray) (.agg (D.map by1).toArray)).run Tryd.prog V = .ok r V := hr ▸ eq_dg p.root D hp hlen
  clear hr
  have hB : Below w.heap.size w ((w.alloc (.cells (poA p) 49)).alloc (.cells #[.int .i64 no, .slice A n cp] 45)) := ((Below.refl _ _).alloc (Nat.le_refl _) _).alloc (by simp) _
  have hra := heap_alloc2_old w (.cells (poA p) 49) (.cells #[.int .i64 no, .slice A n cp] 45)
  have hrb := heap_alloc2_new w (.cells (poA p) 49) (.cells #[.int .i64 no, .slice A n cp] 45)
  have hla := (Array.getElem?_eq_some_iff.1 hra).1
  have hlb := (Array.getElem?_eq_some_iff.1 hrb).1
  have hiD := Lib.hid (dg_info D hlen)
  have hoD := Lib.hid (dg_one D)
  have hsD : Hid (32 = (dg D).size) := Lib.hid (by rw [dg_size, hlen])
  have ip := Lib.hid (dg_info' p.root hp)
  have iD := Lib.hid (dg_info' D hlen)
  have hpn := Lib.hid hN
  clear hN
  replace hp := Lib.hid hp
  go_enter Tryd.func29, Tryd.ntmps29
  go_wp2_with fail
  refine hD.out.mono ?_
  rintro e w1 ⟨rfl, hb⟩
  have hB1 := Lib.hid (hB.trans (hb.mono hB.size))
  have hra1 := Lib.hid ((hb.block w.heap.size hla).trans hra)
  have hrb1 := Lib.hid ((hb.block (w.heap.size + 1) hlb).trans hrb)
  have hl1 := Lib.hid ((Array.getElem?_eq_some_iff.1 hrb1.out).1)
  clear hra hrb hla hlb hb hD hB
  go_wp2_with (first
    | (refine wpList_new_row' (by rfl) 35 (.tmp 6) (.tmp 11) (by rfl) (by rfl) (dg D) w1.heap.size (by rfl) rfl (by rfl) 35 _ hiD.out hsD.out hoD.out ?_; intro w2 hd2 hz2 hB2; have hB3 := Lib.hid (hB1.out.trans (hB2.mono hB1.out.size)); have hra2 := (hB2.block w.heap.size (by have := hl1.out; omega)).trans hra1.out; have hrb2 := (hB2.block (w.heap.size + 1) hl1.out).trans hrb1.out; obtain ⟨p0, _, _⟩ := po_cells hp.out hra2; rw [hpn.out] at p0; have rp := Lib.hid (po_root_at hra2); have rd : Hid (w2.rangeAt w1.heap.size 0 (D.map by1)) := Lib.hid (fun j v hj => by (rw [cell_of_row _ _ _ _ _ _ hd2, Nat.zero_add]; simpa [dg] using hj)); have c0 : w2.cell? ⟨w.heap.size + 1, 0, none⟩ = some (.int .i64 no) := by (rw [cell_of_row _ _ _ _ _ _ hrb2]; rfl)
       clear hd2 hz2 hB2 hra2 hrb2)
    | (refine wpList_load_midG (by rfl) 35 (.tmp 22) (by rfl) w.heap.size 1 (by rfl) (p.root.map by1) _ rp.out Tryd.underlying35 (by rfl) ip.out ?_)
    | (refine wpList_load_midG (by rfl) 35 (.tmp 6) (by rfl) w1.heap.size 0 (by rfl) (D.map by1) _ rd.out Tryd.underlying35 (by rfl) iD.out ?_))
  go_ret2
  exact ⟨rfl, hB3.out⟩
theorem roshows_any (p : Po) (hp : p.root.length = 32) (c : Cal) (n cp : Nat) (A : Option Addr) (w : World) (hn : c.fx.length = n) (hc : n ≤ cp) (hA : FxAt w A c.fx) (hI : ∀ f ∈ c.fx, FxI f) :
    Calls Tryd.prog 29 #[.agg (poA p), .agg #[.int .i64 c.no, .slice A n cp]] w fun e w' => e = .returned (.tuple #[.bool (shB p c), .int .i64 (calE c)]) ∧ Below w.heap.size w w' := by
  have hlen := calD_len c
  have hB : Below w.heap.size w ((w.alloc (.cells (poA p) 49)).alloc (.cells #[.int .i64 c.no, .slice A n cp] 45)) := ((Below.refl _ _).alloc (Nat.le_refl _) _).alloc (by simp) _
  have hD := Lib.hid (rcdig_any c n cp A _ hn hc (hA.below hB) hI)
  unfold shB
  by_cases hE : calE c = 0
  · rw [decide_eq_true hE, Bool.true_and]
    rw [hE] at hD ⊢
    by_cases hN : p.no = c.no
    · rw [decide_eq_true hN, Bool.true_and]
      exact roshows_dg p hp c.no n cp A w _ _ hlen hD rfl hN _ rfl
    · rw [decide_eq_false hN, Bool.false_and]
      exact roshows_no p hp c.no n cp A w _ _ hlen hD rfl hN
  · have hE' : calE c = 350 := by
      unfold calE at hE ⊢
      split
      · rename_i h; exact absurd (if_pos h) hE
      · rfl
    rw [decide_eq_false hE, Bool.false_and, Bool.false_and]
    rw [hE'] at hD ⊢
    exact roshows_err p hp c.no n cp A w _ _ hlen hD rfl

end Go.Proofs.YthokpfegfnpmhaaDoor
