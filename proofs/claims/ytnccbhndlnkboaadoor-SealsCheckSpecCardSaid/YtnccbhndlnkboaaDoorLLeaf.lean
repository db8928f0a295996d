/- The reference's makers of values; the walk of fastilaw39.leaf. -/
import Derived.Test.YtnccbhndlnkboaaDoorSealSane
namespace Go.Proofs.YtnccbhndlnkboaaDoor
open Go.RowKit Go.Shelf Cdc Sha
set_option linter.unusedVariables false
set_option linter.unusedSimpArgs false

set_option maxRecDepth 100000 in
set_option maxHeartbeats 1000000 in
theorem mint_any (n : Int) (w : World) :
    Calls Tryd.prog 57 #[.int .i64 n] w fun e w' => e = .returned (.agg #[.int .i64 1, .int .i64 n, .string ⟨#[]⟩, .slice none 0 0]) ∧ Below w.heap.size w w' := by
  go_enter Tryd.func57, Tryd.ntmps57
  go_wp2
  refine bodyPost_ret (v := .agg #[.int .i64 1, .int .i64 n, .string ⟨#[]⟩, .slice none 0 0]) ?_ rfl ⟨rfl, ?_⟩
  · simp [results, Tryd.results57, go_sem]
  · exact (Below.refl _ _).alloc (Nat.le_refl _) _

set_option maxRecDepth 100000 in
set_option maxHeartbeats 1000000 in
theorem mtext_any (s : ByteArray) (w : World) :
    Calls Tryd.prog 56 #[.string s] w fun e w' => e = .returned (.agg #[.int .i64 2, .int .i64 0, .string s, .slice none 0 0]) ∧ Below w.heap.size w w' := by
  go_enter Tryd.func56, Tryd.ntmps56
  go_wp2
  refine bodyPost_ret (v := .agg #[.int .i64 2, .int .i64 0, .string s, .slice none 0 0]) ?_ rfl ⟨rfl, ?_⟩
  · simp [results, Tryd.results56, go_sem]
  · exact (Below.refl _ _).alloc (Nat.le_refl _) _

set_option maxRecDepth 100000 in
set_option maxHeartbeats 1000000 in
theorem mlist_any (A : Option Addr) (n c : Nat) (w : World) :
    Calls Tryd.prog 55 #[.slice A n c] w fun e w' => e = .returned (.agg #[.int .i64 3, .int .i64 0, .string ⟨#[]⟩, .slice A n c]) ∧ Below w.heap.size w w' := by
  go_enter Tryd.func55, Tryd.ntmps55
  go_wp2
  refine bodyPost_ret (v := .agg #[.int .i64 3, .int .i64 0, .string ⟨#[]⟩, .slice A n c]) ?_ rfl ⟨rfl, ?_⟩
  · simp [results, Tryd.results55, go_sem]
  · exact (Below.refl _ _).alloc (Nat.le_refl _) _


theorem built_v5 (t d f n : Int) : Tryd.prog.builtSlice 96 5 [(0, .agg #[.int .i64 2, .int .i64 0, .string dayBs, .slice none 0 0]), (1, .agg #[.int .i64 1, .int .i64 t, .string ⟨#[]⟩, .slice none 0 0]), (2, .agg #[.int .i64 1, .int .i64 d, .string ⟨#[]⟩, .slice none 0 0]), (3, .agg #[.int .i64 1, .int .i64 f, .string ⟨#[]⟩, .slice none 0 0]), (4, .agg #[.int .i64 1, .int .i64 n, .string ⟨#[]⟩, .slice none 0 0])] = some #[.int .i64 2, .int .i64 0, .string dayBs, .slice none 0 0, .int .i64 1, .int .i64 t, .string ⟨#[]⟩, .slice none 0 0, .int .i64 1, .int .i64 d, .string ⟨#[]⟩, .slice none 0 0, .int .i64 1, .int .i64 f, .string ⟨#[]⟩, .slice none 0 0, .int .i64 1, .int .i64 n, .string ⟨#[]⟩, .slice none 0 0] := by kernel_rfl
set_option maxRecDepth 100000 in
set_option maxHeartbeats 4000000 in
theorem lleaf_any (t d n : Int) (b : Bool) (P : Option Addr) (k cp : Nat) (ht : I64 t) (hd : I64 d) (hn : I64 n) (w : World) : Calls Tryd.prog 26 #[.int .i64 t, .agg #[.int .i64 d, .int .i64 n, .bool b, .slice P k cp]] w (JoinC (leafM t d b n) w) := by
  obtain ⟨hsm, hlen⟩ := leaf_sm (b := b) ht hd hn
  have hE : Hid (∀ (V : World) (A : Option Addr) (m c : Nat), RS V 1 [sV dayBs, iV t, iV d, iV (if b then 1 else 0), iV n] (.slice A m c) → Calls Tryd.prog 54 #[.agg #[.int .i64 3, .int .i64 0, .string ⟨#[]⟩, .slice A m c]] V fun e w' => ∃ (A : Option Addr) (c : Nat), e = .returned (.tuple #[.slice A (leafM t d b n).length c, .int .i64 0]) ∧ (leafM t d b n).length ≤ c ∧ c ≤ 9223372036854775807 ∧ AtO w' A (leafM t d b n) ∧ Below V.heap.size V w' ∧ ∀ g o, A = some ⟨g, o, none⟩ → leafM t d b n ≠ [] → V.heap.size ≤ g ∧ g < w'.heap.size) := Lib.hid fun V A m c hR =>
    (encode_any 1 (leafV t d b n) (.slice A m c) V hR hsm (by simp [leafV, lV, sV, iV, dp, dpL]) (by have := hlen; unfold leafM at this; omega)).mono fun e w' h => h.join (leaf_ck t d b n)
  obtain ⟨L, hL⟩ : ∃ L, leafM t d b n = L := ⟨_, rfl⟩
  rw [hL] at hE ⊢
  have hr1 := heap_alloc_new w (.cells #[.int .i64 d, .int .i64 n, .bool b, .slice P k cp] 33)
  have hB1 : Below w.heap.size w (w.alloc (.cells #[.int .i64 d, .int .i64 n, .bool b, .slice P k cp] 33)) := (Below.refl _ _).alloc (Nat.le_refl _) _
  have hlt1 : w.heap.size < (w.alloc (.cells #[.int .i64 d, .int .i64 n, .bool b, .slice P k cp] 33)).heap.size := by simp
  clear hL hsm hlen ht hd hn
  obtain ⟨W1, hW1⟩ : ∃ W1, w.alloc (.cells #[.int .i64 d, .int .i64 n, .bool b, .slice P k cp] 33) = W1 := ⟨_, rfl⟩
  rw [hW1] at hr1 hB1 hlt1
  have hcl : Hid (∀ V, Below W1.heap.size W1 V →  V.cell? ⟨w.heap.size, 0, none⟩ = some (.int .i64 d) ∧ V.cell? ⟨w.heap.size, 1, none⟩ = some (.int .i64 n)) := Lib.hid fun V hV => by
    have h1 := (hV.block w.heap.size hlt1).trans hr1
    exact ⟨by rw [cell_of_row _ _ _ _ _ _ h1]; rfl, by rw [cell_of_row _ _ _ _ _ _ h1]; rfl⟩
  have x2 : W1.cell? ⟨w.heap.size, 2, none⟩ = some (.bool b) := by rw [cell_of_row _ _ _ _ _ _ hr1]; rfl
  replace hB1 := Lib.hid hB1
  clear hr1 hlt1
  cases b with
  | false =>
    simp only [Bool.false_eq_true, if_false] at hE
    have hbu := Lib.hid (built_v5 t d 0 n)
    go_enter Tryd.func26, Tryd.ntmps26
    go_wp2_with fail
    have HB : Below W1.heap.size W1 W1.drew := (Below.refl _ _).drew
    refine wp_region_held_drew (S := fun w' => w'.cell? ⟨w.heap.size, 0, none⟩ = some (.int .i64 d) ∧ w'.cell? ⟨w.heap.size, 1, none⟩ = some (.int .i64 n)) (by kernel_rfl) (by exact hcl.out _ HB) (fun hHeld => ?_)
    refine wpAnyH_take (i := 1) (oi := { dst := some 12, op := Op.move (Operand.tmp 0), type := 3, pos := "law.go:110", after := #[], guard := none }) (v := ?_) rfl (by kernel_rfl) (by kernel_rfl) (by kernel_rfl) (fun _ _ _ h => h) (Or.inl ⟨by rfl, ?hy1⟩) hHeld ?rest1
    case hy1 =>
      intro w hSw
      try dsimp only at hSw
      go_simp
      try with_reducible rfl
    try simp only [Act.put, List.setIfInBounds_toArray, List.set_cons_zero, List.set_cons_succ]
    refine wpAnyH_take (i := 3) (oi := { dst := some 14, op := Op.fieldAddr 33 (Operand.tmp 3) 0, type := 0, pos := "law.go:110", after := #[], guard := none }) (v := ?_) rfl (by kernel_rfl) (by kernel_rfl) (by kernel_rfl) (fun _ _ _ h => h) (Or.inl ⟨by rfl, ?hy3⟩) hHeld ?rest3
    case hy3 =>
      intro w hSw
      try dsimp only at hSw
      go_simp
      try with_reducible rfl
    try simp only [Act.put, List.setIfInBounds_toArray, List.set_cons_zero, List.set_cons_succ]
    refine wpAnyH_take (i := 4) (oi := { dst := some 15, op := Op.load 3 (Operand.tmp 14), type := 3, pos := "law.go:110", after := #[{ on := 3, ground := Ground.data }], guard := none }) (v := ?_) rfl (by kernel_rfl) (by kernel_rfl) (by kernel_rfl) (fun _ _ _ h => h) (Or.inl ⟨by rfl, ?hy4⟩) hHeld ?rest4
    case hy4 =>
      intro w hSw
      try dsimp only at hSw
      go_simp
      try with_reducible rfl
    try simp only [Act.put, List.setIfInBounds_toArray, List.set_cons_zero, List.set_cons_succ]
    refine wpAnyH_take (i := 6) (oi := { dst := some 17, op := Op.move (Operand.tmp 5), type := 3, pos := "law.go:110", after := #[], guard := none }) (v := ?_) rfl (by kernel_rfl) (by kernel_rfl) (by kernel_rfl) (fun _ _ _ h => h) (Or.inl ⟨by rfl, ?hy6⟩) hHeld ?rest6
    case hy6 =>
      intro w hSw
      try dsimp only at hSw
      go_simp
      try with_reducible rfl
    try simp only [Act.put, List.setIfInBounds_toArray, List.set_cons_zero, List.set_cons_succ]
    refine wpAnyH_take (i := 8) (oi := { dst := some 19, op := Op.fieldAddr 33 (Operand.tmp 3) 1, type := 0, pos := "law.go:110", after := #[], guard := none }) (v := ?_) rfl (by kernel_rfl) (by kernel_rfl) (by kernel_rfl) (fun _ _ _ h => h) (Or.inl ⟨by rfl, ?hy8⟩) hHeld ?rest8
    case hy8 =>
      intro w hSw
      try dsimp only at hSw
      go_simp
      try with_reducible rfl
    try simp only [Act.put, List.setIfInBounds_toArray, List.set_cons_zero, List.set_cons_succ]
    refine wpAnyH_take (i := 9) (oi := { dst := some 20, op := Op.load 3 (Operand.tmp 19), type := 3, pos := "law.go:110", after := #[{ on := 8, ground := Ground.data }], guard := none }) (v := ?_) rfl (by kernel_rfl) (by kernel_rfl) (by kernel_rfl) (fun _ _ _ h => h) (Or.inl ⟨by rfl, ?hy9⟩) hHeld ?rest9
    case hy9 =>
      intro w hSw
      try dsimp only at hSw
      go_simp
      try with_reducible rfl
    try simp only [Act.put, List.setIfInBounds_toArray, List.set_cons_zero, List.set_cons_succ]
    refine wpAnyH_ready (rs := [0]) (by kernel_rfl) (by simp) (AllReadyH.cons (o := { dst := some 11, op := Op.call { callee := Callee.value (Operand.func 56), args := #[Operand.const (Value.string { data := #[100, 97, 121] })], argTypes := #[9] }, type := 96, pos := "law.go:110", after := #[], guard := none }) rfl (fun K hK => ?_) AllReadyH.nil)
    go_simp
    go_at_call 56
    refine (mtext_any _ _).mono ?_
    rintro e v1 ⟨rfl, hb⟩
    replace HB := HB.trans (hb.mono HB.size)
    clear hb
    refine hK.out _ _ (by exact hcl.out _ HB) (fun hHeld' => ?_)
    clear hK K hHeld
    have hHeld := hHeld'
    clear hHeld'
    try simp only [Act.put, List.setIfInBounds_toArray, List.set_cons_zero, List.set_cons_succ]
    refine wpAnyH_ready (rs := [2]) (by kernel_rfl) (by simp) (AllReadyH.cons (o := { dst := some 13, op := Op.call { callee := Callee.value (Operand.func 57), args := #[Operand.tmp 12], argTypes := #[3] }, type := 96, pos := "law.go:110", after := #[{ on := 1, ground := Ground.data }, { on := 0, ground := Ground.chain }], guard := none }) rfl (fun K hK => ?_) AllReadyH.nil)
    go_simp
    go_at_call 57
    refine (mint_any _ _).mono ?_
    rintro e v2 ⟨rfl, hb⟩
    replace HB := HB.trans (hb.mono HB.size)
    clear hb
    refine hK.out _ _ (by exact hcl.out _ HB) (fun hHeld' => ?_)
    clear hK K hHeld
    have hHeld := hHeld'
    clear hHeld'
    try simp only [Act.put, List.setIfInBounds_toArray, List.set_cons_zero, List.set_cons_succ]
    refine wpAnyH_ready (rs := [5]) (by kernel_rfl) (by simp) (AllReadyH.cons (o := { dst := some 16, op := Op.call { callee := Callee.value (Operand.func 57), args := #[Operand.tmp 15], argTypes := #[3] }, type := 96, pos := "law.go:110", after := #[{ on := 4, ground := Ground.data }, { on := 2, ground := Ground.chain }], guard := none }) rfl (fun K hK => ?_) AllReadyH.nil)
    go_simp
    go_at_call 57
    refine (mint_any _ _).mono ?_
    rintro e v3 ⟨rfl, hb⟩
    replace HB := HB.trans (hb.mono HB.size)
    clear hb
    refine hK.out _ _ (by exact hcl.out _ HB) (fun hHeld' => ?_)
    clear hK K hHeld
    have hHeld := hHeld'
    clear hHeld'
    try simp only [Act.put, List.setIfInBounds_toArray, List.set_cons_zero, List.set_cons_succ]
    refine wpAnyH_ready (rs := [7]) (by kernel_rfl) (by simp) (AllReadyH.cons (o := { dst := some 18, op := Op.call { callee := Callee.value (Operand.func 57), args := #[Operand.tmp 17], argTypes := #[3] }, type := 96, pos := "law.go:110", after := #[{ on := 6, ground := Ground.data }, { on := 5, ground := Ground.chain }], guard := none }) rfl (fun K hK => ?_) AllReadyH.nil)
    go_simp
    go_at_call 57
    refine (mint_any _ _).mono ?_
    rintro e v4 ⟨rfl, hb⟩
    replace HB := HB.trans (hb.mono HB.size)
    clear hb
    refine hK.out _ _ (by exact hcl.out _ HB) (fun hHeld' => ?_)
    clear hK K hHeld
    have hHeld := hHeld'
    clear hHeld'
    try simp only [Act.put, List.setIfInBounds_toArray, List.set_cons_zero, List.set_cons_succ]
    refine wpAnyH_ready (rs := [10]) (by kernel_rfl) (by simp) (AllReadyH.cons (o := { dst := some 21, op := Op.call { callee := Callee.value (Operand.func 57), args := #[Operand.tmp 20], argTypes := #[3] }, type := 96, pos := "law.go:110", after := #[{ on := 9, ground := Ground.data }, { on := 7, ground := Ground.chain }], guard := none }) rfl (fun K hK => ?_) AllReadyH.nil)
    go_simp
    go_at_call 57
    refine (mint_any _ _).mono ?_
    rintro e v5 ⟨rfl, hb⟩
    replace HB := HB.trans (hb.mono HB.size)
    clear hb
    refine hK.out _ _ (by exact hcl.out _ HB) (fun hHeld' => ?_)
    clear hK K hHeld
    have hHeld := hHeld'
    clear hHeld'
    try simp only [Act.put, List.setIfInBounds_toArray, List.set_cons_zero, List.set_cons_succ]
    refine wpAnyH_ready (rs := [11]) (by kernel_rfl) (by simp) (AllReadyH.cons (o := { dst := some 22, op := Op.buildSlice 94 5 #[(0, Operand.tmp 11), (1, Operand.tmp 13), (2, Operand.tmp 16), (3, Operand.tmp 18), (4, Operand.tmp 21)], type := 94, pos := "law.go:110", after := #[{ on := 0, ground := Ground.data }, { on := 2, ground := Ground.data }, { on := 5, ground := Ground.data }, { on := 7, ground := Ground.data }, { on := 10, ground := Ground.data }], guard := none }) rfl (fun K hK => ?_) AllReadyH.nil)
    refine step_built (by rfl) 94 96 5 #[(0, .tmp 11), (1, .tmp 13), (2, .tmp 16), (3, .tmp 18), (4, .tmp 21)] (by rfl) Tryd.underlying94 #[.int .i64 2, .int .i64 0, .string dayBs, .slice none 0 0, .int .i64 1, .int .i64 t, .string ⟨#[]⟩, .slice none 0 0, .int .i64 1, .int .i64 d, .string ⟨#[]⟩, .slice none 0 0, .int .i64 1, .int .i64 0, .string ⟨#[]⟩, .slice none 0 0, .int .i64 1, .int .i64 n, .string ⟨#[]⟩, .slice none 0 0] (by simp only [List.map_toArray, List.map_cons, List.map_nil]; exact hbu.out) ?_
    have HB9 := HB.alloc HB.size (.cells #[.int .i64 2, .int .i64 0, .string dayBs, .slice none 0 0, .int .i64 1, .int .i64 t, .string ⟨#[]⟩, .slice none 0 0, .int .i64 1, .int .i64 d, .string ⟨#[]⟩, .slice none 0 0, .int .i64 1, .int .i64 0, .string ⟨#[]⟩, .slice none 0 0, .int .i64 1, .int .i64 n, .string ⟨#[]⟩, .slice none 0 0] 96)
    have hrs := Lib.hid (flat_rs v5 [sV dayBs, iV t, iV d, iV 0, iV n] #[.int .i64 2, .int .i64 0, .string dayBs, .slice none 0 0, .int .i64 1, .int .i64 t, .string ⟨#[]⟩, .slice none 0 0, .int .i64 1, .int .i64 d, .string ⟨#[]⟩, .slice none 0 0, .int .i64 1, .int .i64 0, .string ⟨#[]⟩, .slice none 0 0, .int .i64 1, .int .i64 n, .string ⟨#[]⟩, .slice none 0 0] (by simp [flatF, fl, sV, iV]) v5.heap.size 5 5 rfl rfl (by omega) (by simp [sV, iV]))
    refine hK.out _ _ (by exact hcl.out _ HB9) (fun hHeld' => ?_)
    clear hK K hHeld
    have hHeld := hHeld'
    clear hHeld'
    try simp only [Act.put, List.setIfInBounds_toArray, List.set_cons_zero, List.set_cons_succ]
    refine wpAnyH_ready (rs := [12]) (by kernel_rfl) (by simp) (AllReadyH.cons (o := { dst := some 23, op := Op.call { callee := Callee.value (Operand.func 55), args := #[Operand.tmp 22], argTypes := #[94] }, type := 96, pos := "law.go:110", after := #[{ on := 11, ground := Ground.data }, { on := 10, ground := Ground.chain }], guard := none }) rfl (fun K hK => ?_) AllReadyH.nil)
    go_simp
    go_at_call 55
    refine (mlist_any _ _ _ _).mono ?_
    rintro e v6 ⟨rfl, hb⟩
    have hrs6 := Lib.hid (hrs.out.below hb)
    replace HB := HB9.trans (hb.mono HB9.size)
    clear hb HB9
    refine hK.out _ _ (by exact hcl.out _ HB) (fun hHeld' => ?_)
    clear hK K hHeld
    have hHeld := hHeld'
    clear hHeld'
    try simp only [Act.put, List.setIfInBounds_toArray, List.set_cons_zero, List.set_cons_succ]
    refine wpAnyH_ready (rs := [13]) (by kernel_rfl) (by simp) (AllReadyH.cons (o := { dst := some 24, op := Op.call { callee := Callee.value (Operand.func 54), args := #[Operand.tmp 23], argTypes := #[96] }, type := 92, pos := "law.go:110", after := #[{ on := 12, ground := Ground.data }, { on := 12, ground := Ground.chain }], guard := none }) rfl (fun K hK => ?_) AllReadyH.nil)
    go_simp
    go_at_call 54
    refine (hE.out _ _ _ _ hrs6.out).mono ?_
    rintro e v7 ⟨A7, c7, rfl, h71, h72, h73, hb, h74⟩
    have h75 := HB.size
    replace HB := HB.trans (hb.mono HB.size)
    replace h73 := Lib.hid h73
    clear hb
    refine hK.out _ _ (by exact hcl.out _ HB) (fun hHeld' => ?_)
    clear hK K hHeld
    have hHeld := hHeld'
    clear hHeld'
    try simp only [Act.put, List.setIfInBounds_toArray, List.set_cons_zero, List.set_cons_succ]
    refine wpAnyH_take (i := 14) (oi := { dst := some 10, op := Op.move (Operand.tmp 24), type := 92, pos := "law.go:110", after := #[{ on := 13, ground := Ground.data }], guard := none }) (v := ?_) rfl (by kernel_rfl) (by kernel_rfl) (by kernel_rfl) (fun _ _ _ h => h) (Or.inl ⟨by rfl, ?hy14⟩) hHeld ?rest14
    case hy14 =>
      intro w hSw
      try dsimp only at hSw
      go_simp
      try with_reducible rfl
    try simp only [Act.put, List.setIfInBounds_toArray, List.set_cons_zero, List.set_cons_succ]
    refine wpAnyH_take (i := 15) (oi := { dst := some 25, op := Op.extract (Operand.tmp 10) 0, type := 48, pos := "law.go:110", after := #[{ on := 14, ground := Ground.data }], guard := none }) (v := ?_) rfl (by kernel_rfl) (by kernel_rfl) (by kernel_rfl) (fun _ _ _ h => h) (Or.inl ⟨by rfl, ?hy15⟩) hHeld ?rest15
    case hy15 =>
      intro w hSw
      try dsimp only at hSw
      go_simp
      try with_reducible rfl
    try simp only [Act.put, List.setIfInBounds_toArray, List.set_cons_zero, List.set_cons_succ]
    refine wpAnyH_take (i := 16) (oi := { dst := some 26, op := Op.extract (Operand.tmp 10) 1, type := 35, pos := "law.go:110", after := #[{ on := 14, ground := Ground.data }, { on := 17, ground := Ground.gcOnly Departure.lateStores }], guard := none }) (v := ?_) rfl (by kernel_rfl) (by kernel_rfl) (by kernel_rfl) (fun _ _ _ h => h) (Or.inl ⟨by rfl, ?hy16⟩) hHeld ?rest16
    case hy16 =>
      intro w hSw
      try dsimp only at hSw
      go_simp
      try with_reducible rfl
    try simp only [Act.put, List.setIfInBounds_toArray, List.set_cons_zero, List.set_cons_succ]
    refine wpAnyH_take (i := 17) (oi := { dst := some 6, op := Op.assign (Operand.tmp 25), type := 48, pos := "law.go:110", after := #[{ on := 15, ground := Ground.data }, { on := 13, ground := Ground.chain }, { on := 0, ground := Ground.phase }, { on := 1, ground := Ground.phase }, { on := 2, ground := Ground.phase }, { on := 3, ground := Ground.phase }, { on := 4, ground := Ground.phase }, { on := 5, ground := Ground.phase }, { on := 6, ground := Ground.phase }, { on := 7, ground := Ground.phase }, { on := 8, ground := Ground.phase }, { on := 9, ground := Ground.phase }, { on := 10, ground := Ground.phase }, { on := 11, ground := Ground.phase }, { on := 12, ground := Ground.phase }, { on := 13, ground := Ground.phase }, { on := 14, ground := Ground.phase }, { on := 15, ground := Ground.phase }, { on := 16, ground := Ground.textOnly Departure.lateStores }], guard := none }) (v := ?_) rfl (by kernel_rfl) (by kernel_rfl) (by kernel_rfl) (fun _ _ _ h => h) (Or.inl ⟨by rfl, ?hy17⟩) hHeld ?rest17
    case hy17 =>
      intro w hSw
      try dsimp only at hSw
      go_simp
      try with_reducible rfl
    try simp only [Act.put, List.setIfInBounds_toArray, List.set_cons_zero, List.set_cons_succ]
    refine wpAnyH_take (i := 18) (oi := { dst := some 7, op := Op.assign (Operand.tmp 26), type := 35, pos := "law.go:110", after := #[{ on := 16, ground := Ground.data }, { on := 17, ground := Ground.chain }, { on := 0, ground := Ground.phase }, { on := 1, ground := Ground.phase }, { on := 2, ground := Ground.phase }, { on := 3, ground := Ground.phase }, { on := 4, ground := Ground.phase }, { on := 5, ground := Ground.phase }, { on := 6, ground := Ground.phase }, { on := 7, ground := Ground.phase }, { on := 8, ground := Ground.phase }, { on := 9, ground := Ground.phase }, { on := 10, ground := Ground.phase }, { on := 11, ground := Ground.phase }, { on := 12, ground := Ground.phase }, { on := 13, ground := Ground.phase }, { on := 14, ground := Ground.phase }, { on := 15, ground := Ground.phase }, { on := 16, ground := Ground.phase }, { on := 17, ground := Ground.phase }], guard := none }) (v := ?_) rfl (by kernel_rfl) (by kernel_rfl) (by kernel_rfl) (fun _ _ _ h => h) (Or.inl ⟨by rfl, ?hy18⟩) hHeld ?rest18
    case hy18 =>
      intro w hSw
      try dsimp only at hSw
      go_simp
      try with_reducible rfl
    try simp only [Act.put, List.setIfInBounds_toArray, List.set_cons_zero, List.set_cons_succ]
    refine wpAnyH_done (by kernel_rfl) ?_ _
    go_wp2_with fail
    refine bodyPost_ret (v := .slice A7 L.length c7) (by simp [results, Tryd.results26, go_sem]) rfl ⟨A7, c7, rfl, h71, h72, h73.out, hB1.out.trans (HB.mono hB1.out.size), fun g o e hne => ⟨Nat.le_trans hB1.out.size (Nat.le_trans h75 (h74 g o e hne).1), (h74 g o e hne).2⟩⟩
  | true =>
    simp only [if_true] at hE
    have hbu := Lib.hid (built_v5 t d 1 n)
    go_enter Tryd.func26, Tryd.ntmps26
    go_wp2_with fail
    have HB : Below W1.heap.size W1 W1.drew := (Below.refl _ _).drew
    refine wp_region_held_drew (S := fun w' => w'.cell? ⟨w.heap.size, 0, none⟩ = some (.int .i64 d) ∧ w'.cell? ⟨w.heap.size, 1, none⟩ = some (.int .i64 n)) (by kernel_rfl) (by exact hcl.out _ HB) (fun hHeld => ?_)
    refine wpAnyH_take (i := 1) (oi := { dst := some 12, op := Op.move (Operand.tmp 0), type := 3, pos := "law.go:110", after := #[], guard := none }) (v := ?_) rfl (by kernel_rfl) (by kernel_rfl) (by kernel_rfl) (fun _ _ _ h => h) (Or.inl ⟨by rfl, ?hya1⟩) hHeld ?resta1
    case hya1 =>
      intro w hSw
      try dsimp only at hSw
      go_simp
      try with_reducible rfl
    try simp only [Act.put, List.setIfInBounds_toArray, List.set_cons_zero, List.set_cons_succ]
    refine wpAnyH_take (i := 3) (oi := { dst := some 14, op := Op.fieldAddr 33 (Operand.tmp 3) 0, type := 0, pos := "law.go:110", after := #[], guard := none }) (v := ?_) rfl (by kernel_rfl) (by kernel_rfl) (by kernel_rfl) (fun _ _ _ h => h) (Or.inl ⟨by rfl, ?hya3⟩) hHeld ?resta3
    case hya3 =>
      intro w hSw
      try dsimp only at hSw
      go_simp
      try with_reducible rfl
    try simp only [Act.put, List.setIfInBounds_toArray, List.set_cons_zero, List.set_cons_succ]
    refine wpAnyH_take (i := 4) (oi := { dst := some 15, op := Op.load 3 (Operand.tmp 14), type := 3, pos := "law.go:110", after := #[{ on := 3, ground := Ground.data }], guard := none }) (v := ?_) rfl (by kernel_rfl) (by kernel_rfl) (by kernel_rfl) (fun _ _ _ h => h) (Or.inl ⟨by rfl, ?hya4⟩) hHeld ?resta4
    case hya4 =>
      intro w hSw
      try dsimp only at hSw
      go_simp
      try with_reducible rfl
    try simp only [Act.put, List.setIfInBounds_toArray, List.set_cons_zero, List.set_cons_succ]
    refine wpAnyH_take (i := 6) (oi := { dst := some 17, op := Op.move (Operand.tmp 5), type := 3, pos := "law.go:110", after := #[], guard := none }) (v := ?_) rfl (by kernel_rfl) (by kernel_rfl) (by kernel_rfl) (fun _ _ _ h => h) (Or.inl ⟨by rfl, ?hya6⟩) hHeld ?resta6
    case hya6 =>
      intro w hSw
      try dsimp only at hSw
      go_simp
      try with_reducible rfl
    try simp only [Act.put, List.setIfInBounds_toArray, List.set_cons_zero, List.set_cons_succ]
    refine wpAnyH_take (i := 8) (oi := { dst := some 19, op := Op.fieldAddr 33 (Operand.tmp 3) 1, type := 0, pos := "law.go:110", after := #[], guard := none }) (v := ?_) rfl (by kernel_rfl) (by kernel_rfl) (by kernel_rfl) (fun _ _ _ h => h) (Or.inl ⟨by rfl, ?hya8⟩) hHeld ?resta8
    case hya8 =>
      intro w hSw
      try dsimp only at hSw
      go_simp
      try with_reducible rfl
    try simp only [Act.put, List.setIfInBounds_toArray, List.set_cons_zero, List.set_cons_succ]
    refine wpAnyH_take (i := 9) (oi := { dst := some 20, op := Op.load 3 (Operand.tmp 19), type := 3, pos := "law.go:110", after := #[{ on := 8, ground := Ground.data }], guard := none }) (v := ?_) rfl (by kernel_rfl) (by kernel_rfl) (by kernel_rfl) (fun _ _ _ h => h) (Or.inl ⟨by rfl, ?hya9⟩) hHeld ?resta9
    case hya9 =>
      intro w hSw
      try dsimp only at hSw
      go_simp
      try with_reducible rfl
    try simp only [Act.put, List.setIfInBounds_toArray, List.set_cons_zero, List.set_cons_succ]
    refine wpAnyH_ready (rs := [0]) (by kernel_rfl) (by simp) (AllReadyH.cons (o := { dst := some 11, op := Op.call { callee := Callee.value (Operand.func 56), args := #[Operand.const (Value.string { data := #[100, 97, 121] })], argTypes := #[9] }, type := 96, pos := "law.go:110", after := #[], guard := none }) rfl (fun K hK => ?_) AllReadyH.nil)
    go_simp
    go_at_call 56
    refine (mtext_any _ _).mono ?_
    rintro e v1 ⟨rfl, hb⟩
    replace HB := HB.trans (hb.mono HB.size)
    clear hb
    refine hK.out _ _ (by exact hcl.out _ HB) (fun hHeld' => ?_)
    clear hK K hHeld
    have hHeld := hHeld'
    clear hHeld'
    try simp only [Act.put, List.setIfInBounds_toArray, List.set_cons_zero, List.set_cons_succ]
    refine wpAnyH_ready (rs := [2]) (by kernel_rfl) (by simp) (AllReadyH.cons (o := { dst := some 13, op := Op.call { callee := Callee.value (Operand.func 57), args := #[Operand.tmp 12], argTypes := #[3] }, type := 96, pos := "law.go:110", after := #[{ on := 1, ground := Ground.data }, { on := 0, ground := Ground.chain }], guard := none }) rfl (fun K hK => ?_) AllReadyH.nil)
    go_simp
    go_at_call 57
    refine (mint_any _ _).mono ?_
    rintro e v2 ⟨rfl, hb⟩
    replace HB := HB.trans (hb.mono HB.size)
    clear hb
    refine hK.out _ _ (by exact hcl.out _ HB) (fun hHeld' => ?_)
    clear hK K hHeld
    have hHeld := hHeld'
    clear hHeld'
    try simp only [Act.put, List.setIfInBounds_toArray, List.set_cons_zero, List.set_cons_succ]
    refine wpAnyH_ready (rs := [5]) (by kernel_rfl) (by simp) (AllReadyH.cons (o := { dst := some 16, op := Op.call { callee := Callee.value (Operand.func 57), args := #[Operand.tmp 15], argTypes := #[3] }, type := 96, pos := "law.go:110", after := #[{ on := 4, ground := Ground.data }, { on := 2, ground := Ground.chain }], guard := none }) rfl (fun K hK => ?_) AllReadyH.nil)
    go_simp
    go_at_call 57
    refine (mint_any _ _).mono ?_
    rintro e v3 ⟨rfl, hb⟩
    replace HB := HB.trans (hb.mono HB.size)
    clear hb
    refine hK.out _ _ (by exact hcl.out _ HB) (fun hHeld' => ?_)
    clear hK K hHeld
    have hHeld := hHeld'
    clear hHeld'
    try simp only [Act.put, List.setIfInBounds_toArray, List.set_cons_zero, List.set_cons_succ]
    refine wpAnyH_ready (rs := [7]) (by kernel_rfl) (by simp) (AllReadyH.cons (o := { dst := some 18, op := Op.call { callee := Callee.value (Operand.func 57), args := #[Operand.tmp 17], argTypes := #[3] }, type := 96, pos := "law.go:110", after := #[{ on := 6, ground := Ground.data }, { on := 5, ground := Ground.chain }], guard := none }) rfl (fun K hK => ?_) AllReadyH.nil)
    go_simp
    go_at_call 57
    refine (mint_any _ _).mono ?_
    rintro e v4 ⟨rfl, hb⟩
    replace HB := HB.trans (hb.mono HB.size)
    clear hb
    refine hK.out _ _ (by exact hcl.out _ HB) (fun hHeld' => ?_)
    clear hK K hHeld
    have hHeld := hHeld'
    clear hHeld'
    try simp only [Act.put, List.setIfInBounds_toArray, List.set_cons_zero, List.set_cons_succ]
    refine wpAnyH_ready (rs := [10]) (by kernel_rfl) (by simp) (AllReadyH.cons (o := { dst := some 21, op := Op.call { callee := Callee.value (Operand.func 57), args := #[Operand.tmp 20], argTypes := #[3] }, type := 96, pos := "law.go:110", after := #[{ on := 9, ground := Ground.data }, { on := 7, ground := Ground.chain }], guard := none }) rfl (fun K hK => ?_) AllReadyH.nil)
    go_simp
    go_at_call 57
    refine (mint_any _ _).mono ?_
    rintro e v5 ⟨rfl, hb⟩
    replace HB := HB.trans (hb.mono HB.size)
    clear hb
    refine hK.out _ _ (by exact hcl.out _ HB) (fun hHeld' => ?_)
    clear hK K hHeld
    have hHeld := hHeld'
    clear hHeld'
    try simp only [Act.put, List.setIfInBounds_toArray, List.set_cons_zero, List.set_cons_succ]
    refine wpAnyH_ready (rs := [11]) (by kernel_rfl) (by simp) (AllReadyH.cons (o := { dst := some 22, op := Op.buildSlice 94 5 #[(0, Operand.tmp 11), (1, Operand.tmp 13), (2, Operand.tmp 16), (3, Operand.tmp 18), (4, Operand.tmp 21)], type := 94, pos := "law.go:110", after := #[{ on := 0, ground := Ground.data }, { on := 2, ground := Ground.data }, { on := 5, ground := Ground.data }, { on := 7, ground := Ground.data }, { on := 10, ground := Ground.data }], guard := none }) rfl (fun K hK => ?_) AllReadyH.nil)
    refine step_built (by rfl) 94 96 5 #[(0, .tmp 11), (1, .tmp 13), (2, .tmp 16), (3, .tmp 18), (4, .tmp 21)] (by rfl) Tryd.underlying94 #[.int .i64 2, .int .i64 0, .string dayBs, .slice none 0 0, .int .i64 1, .int .i64 t, .string ⟨#[]⟩, .slice none 0 0, .int .i64 1, .int .i64 d, .string ⟨#[]⟩, .slice none 0 0, .int .i64 1, .int .i64 1, .string ⟨#[]⟩, .slice none 0 0, .int .i64 1, .int .i64 n, .string ⟨#[]⟩, .slice none 0 0] (by simp only [List.map_toArray, List.map_cons, List.map_nil]; exact hbu.out) ?_
    have HB9 := HB.alloc HB.size (.cells #[.int .i64 2, .int .i64 0, .string dayBs, .slice none 0 0, .int .i64 1, .int .i64 t, .string ⟨#[]⟩, .slice none 0 0, .int .i64 1, .int .i64 d, .string ⟨#[]⟩, .slice none 0 0, .int .i64 1, .int .i64 1, .string ⟨#[]⟩, .slice none 0 0, .int .i64 1, .int .i64 n, .string ⟨#[]⟩, .slice none 0 0] 96)
    have hrs := Lib.hid (flat_rs v5 [sV dayBs, iV t, iV d, iV 1, iV n] #[.int .i64 2, .int .i64 0, .string dayBs, .slice none 0 0, .int .i64 1, .int .i64 t, .string ⟨#[]⟩, .slice none 0 0, .int .i64 1, .int .i64 d, .string ⟨#[]⟩, .slice none 0 0, .int .i64 1, .int .i64 1, .string ⟨#[]⟩, .slice none 0 0, .int .i64 1, .int .i64 n, .string ⟨#[]⟩, .slice none 0 0] (by simp [flatF, fl, sV, iV]) v5.heap.size 5 5 rfl rfl (by omega) (by simp [sV, iV]))
    refine hK.out _ _ (by exact hcl.out _ HB9) (fun hHeld' => ?_)
    clear hK K hHeld
    have hHeld := hHeld'
    clear hHeld'
    try simp only [Act.put, List.setIfInBounds_toArray, List.set_cons_zero, List.set_cons_succ]
    refine wpAnyH_ready (rs := [12]) (by kernel_rfl) (by simp) (AllReadyH.cons (o := { dst := some 23, op := Op.call { callee := Callee.value (Operand.func 55), args := #[Operand.tmp 22], argTypes := #[94] }, type := 96, pos := "law.go:110", after := #[{ on := 11, ground := Ground.data }, { on := 10, ground := Ground.chain }], guard := none }) rfl (fun K hK => ?_) AllReadyH.nil)
    go_simp
    go_at_call 55
    refine (mlist_any _ _ _ _).mono ?_
    rintro e v6 ⟨rfl, hb⟩
    have hrs6 := Lib.hid (hrs.out.below hb)
    replace HB := HB9.trans (hb.mono HB9.size)
    clear hb HB9
    refine hK.out _ _ (by exact hcl.out _ HB) (fun hHeld' => ?_)
    clear hK K hHeld
    have hHeld := hHeld'
    clear hHeld'
    try simp only [Act.put, List.setIfInBounds_toArray, List.set_cons_zero, List.set_cons_succ]
    refine wpAnyH_ready (rs := [13]) (by kernel_rfl) (by simp) (AllReadyH.cons (o := { dst := some 24, op := Op.call { callee := Callee.value (Operand.func 54), args := #[Operand.tmp 23], argTypes := #[96] }, type := 92, pos := "law.go:110", after := #[{ on := 12, ground := Ground.data }, { on := 12, ground := Ground.chain }], guard := none }) rfl (fun K hK => ?_) AllReadyH.nil)
    go_simp
    go_at_call 54
    refine (hE.out _ _ _ _ hrs6.out).mono ?_
    rintro e v7 ⟨A7, c7, rfl, h71, h72, h73, hb, h74⟩
    have h75 := HB.size
    replace HB := HB.trans (hb.mono HB.size)
    replace h73 := Lib.hid h73
    clear hb
    refine hK.out _ _ (by exact hcl.out _ HB) (fun hHeld' => ?_)
    clear hK K hHeld
    have hHeld := hHeld'
    clear hHeld'
    try simp only [Act.put, List.setIfInBounds_toArray, List.set_cons_zero, List.set_cons_succ]
    refine wpAnyH_take (i := 14) (oi := { dst := some 10, op := Op.move (Operand.tmp 24), type := 92, pos := "law.go:110", after := #[{ on := 13, ground := Ground.data }], guard := none }) (v := ?_) rfl (by kernel_rfl) (by kernel_rfl) (by kernel_rfl) (fun _ _ _ h => h) (Or.inl ⟨by rfl, ?hya14⟩) hHeld ?resta14
    case hya14 =>
      intro w hSw
      try dsimp only at hSw
      go_simp
      try with_reducible rfl
    try simp only [Act.put, List.setIfInBounds_toArray, List.set_cons_zero, List.set_cons_succ]
    refine wpAnyH_take (i := 15) (oi := { dst := some 25, op := Op.extract (Operand.tmp 10) 0, type := 48, pos := "law.go:110", after := #[{ on := 14, ground := Ground.data }], guard := none }) (v := ?_) rfl (by kernel_rfl) (by kernel_rfl) (by kernel_rfl) (fun _ _ _ h => h) (Or.inl ⟨by rfl, ?hya15⟩) hHeld ?resta15
    case hya15 =>
      intro w hSw
      try dsimp only at hSw
      go_simp
      try with_reducible rfl
    try simp only [Act.put, List.setIfInBounds_toArray, List.set_cons_zero, List.set_cons_succ]
    refine wpAnyH_take (i := 16) (oi := { dst := some 26, op := Op.extract (Operand.tmp 10) 1, type := 35, pos := "law.go:110", after := #[{ on := 14, ground := Ground.data }, { on := 17, ground := Ground.gcOnly Departure.lateStores }], guard := none }) (v := ?_) rfl (by kernel_rfl) (by kernel_rfl) (by kernel_rfl) (fun _ _ _ h => h) (Or.inl ⟨by rfl, ?hya16⟩) hHeld ?resta16
    case hya16 =>
      intro w hSw
      try dsimp only at hSw
      go_simp
      try with_reducible rfl
    try simp only [Act.put, List.setIfInBounds_toArray, List.set_cons_zero, List.set_cons_succ]
    refine wpAnyH_take (i := 17) (oi := { dst := some 6, op := Op.assign (Operand.tmp 25), type := 48, pos := "law.go:110", after := #[{ on := 15, ground := Ground.data }, { on := 13, ground := Ground.chain }, { on := 0, ground := Ground.phase }, { on := 1, ground := Ground.phase }, { on := 2, ground := Ground.phase }, { on := 3, ground := Ground.phase }, { on := 4, ground := Ground.phase }, { on := 5, ground := Ground.phase }, { on := 6, ground := Ground.phase }, { on := 7, ground := Ground.phase }, { on := 8, ground := Ground.phase }, { on := 9, ground := Ground.phase }, { on := 10, ground := Ground.phase }, { on := 11, ground := Ground.phase }, { on := 12, ground := Ground.phase }, { on := 13, ground := Ground.phase }, { on := 14, ground := Ground.phase }, { on := 15, ground := Ground.phase }, { on := 16, ground := Ground.textOnly Departure.lateStores }], guard := none }) (v := ?_) rfl (by kernel_rfl) (by kernel_rfl) (by kernel_rfl) (fun _ _ _ h => h) (Or.inl ⟨by rfl, ?hya17⟩) hHeld ?resta17
    case hya17 =>
      intro w hSw
      try dsimp only at hSw
      go_simp
      try with_reducible rfl
    try simp only [Act.put, List.setIfInBounds_toArray, List.set_cons_zero, List.set_cons_succ]
    refine wpAnyH_take (i := 18) (oi := { dst := some 7, op := Op.assign (Operand.tmp 26), type := 35, pos := "law.go:110", after := #[{ on := 16, ground := Ground.data }, { on := 17, ground := Ground.chain }, { on := 0, ground := Ground.phase }, { on := 1, ground := Ground.phase }, { on := 2, ground := Ground.phase }, { on := 3, ground := Ground.phase }, { on := 4, ground := Ground.phase }, { on := 5, ground := Ground.phase }, { on := 6, ground := Ground.phase }, { on := 7, ground := Ground.phase }, { on := 8, ground := Ground.phase }, { on := 9, ground := Ground.phase }, { on := 10, ground := Ground.phase }, { on := 11, ground := Ground.phase }, { on := 12, ground := Ground.phase }, { on := 13, ground := Ground.phase }, { on := 14, ground := Ground.phase }, { on := 15, ground := Ground.phase }, { on := 16, ground := Ground.phase }, { on := 17, ground := Ground.phase }], guard := none }) (v := ?_) rfl (by kernel_rfl) (by kernel_rfl) (by kernel_rfl) (fun _ _ _ h => h) (Or.inl ⟨by rfl, ?hya18⟩) hHeld ?resta18
    case hya18 =>
      intro w hSw
      try dsimp only at hSw
      go_simp
      try with_reducible rfl
    try simp only [Act.put, List.setIfInBounds_toArray, List.set_cons_zero, List.set_cons_succ]
    refine wpAnyH_done (by kernel_rfl) ?_ _
    go_wp2_with fail
    refine bodyPost_ret (v := .slice A7 L.length c7) (by simp [results, Tryd.results26, go_sem]) rfl ⟨A7, c7, rfl, h71, h72, h73.out, hB1.out.trans (HB.mono hB1.out.size), fun g o e hne => ⟨Nat.le_trans hB1.out.size (Nat.le_trans h75 (h74 g o e hne).1), (h74 g o e hne).2⟩⟩
end Go.Proofs.YtnccbhndlnkboaaDoor
