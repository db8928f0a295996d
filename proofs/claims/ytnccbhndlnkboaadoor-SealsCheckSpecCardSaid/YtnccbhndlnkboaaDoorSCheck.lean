/- The walk of seals.Check. -/
import Derived.Test.YtnccbhndlnkboaaDoorSeal2
import Derived.Test.YtnccbhndlnkboaaDoorMClimbF
namespace Go.Proofs.YtnccbhndlnkboaaDoor
open Go.RowKit Go.Shelf Cdc Sha
set_option linter.unusedVariables false
set_option linter.unusedSimpArgs false

/-- a seal; an opening -/
structure Sl where
  t : Int
  f : Int
  m : Int
  root : List UInt8
structure Op where
  day : Int
  salt : Int
  bl : Bool
  path : List (List UInt8)
def slC (s : Sl) : List Value := .int .i64 s.t :: .int .i64 s.f :: .int .i64 s.m :: dc s.root
structure SlI (s : Sl) : Prop where
  t : I64 s.t
  f : I64 s.f
  m : I64 s.m
  root : s.root.length = 32
structure OpI (o : Op) : Prop where
  day : I64 o.day
  salt : I64 o.salt
  path : ∀ d ∈ o.path, d.length = 32
/-- what Check answers -/
def chkS (s : Sl) (o : Op) : Bool := dayB s.t s.f s.m && (hasB s.f s.m o.day && (salB o.salt && (decide ((clV s.m (o.day - s.f) (leafM s.t o.day o.bl o.salt) o.path).2 = 0) && decide ((clV s.m (o.day - s.f) (leafM s.t o.day o.bl o.salt) o.path).1 = s.root))))
theorem clV_32 (n i : Int) (leaf : List UInt8) (path : List (List UInt8)) : (clV n i leaf path).1.length = 32 := by
  unfold clV
  split
  · exact zero32_len
  · split
    · exact zero32_len
    · rename_i l h
      obtain ⟨x, hx⟩ : ∃ x, l.getLast? = some x := ⟨_, List.getLast?_eq_some_getLast (climbM_ne h)⟩
      simp only [lastM, hx]
      exact climbM_32 h x (List.mem_of_getLast? hx)

theorem wpList_load_midG {P : Program} {ops : Array Oper} {rest : List Oper} {op : Oper} {a : Act} {w : World} {Q : Exit → Act → World → Prop} (hgd : Region.wanted op (yielded ops a.tmps) = true) (ty : TypeId) (x : Operand) (ho : op.op = .load ty x)
    (b o : Nat) (hx : a.eval x = .pointer (some ⟨b, o, none⟩)) (cs : List Value) (d : TypeDesc) (hc : w.rangeAt b o cs)
    (hu : P.underlying ty = some d) (hd : d.isRow = true) (hi : (P.info? ty).map (·.size) = some cs.length)
    (h : wpList P ops Q rest (a.put op.dst (.agg cs.toArray)) w) : wpList P ops Q (op :: rest) a w := by
  unfold wpList
  rw [if_pos hgd]
  exact .inl (wp_load_mid ty x ho b o hx cs d hc hu hd hi h)
theorem range_kept {w w' : World} {g o r : Nat} {cs : List Value} (h : w.rangeAt g o cs) (hg : w.grownBy w' (some r)) (hne : some g = some r → False) : w'.rangeAt g o cs := fun j v hj =>
  (World.cell?_of_block (w := w) (a := ⟨g, o + j, none⟩) (hg.block g (World.block_lt_of_cell? w _ (h j v hj)) hne)).trans (h j v hj)

set_option maxRecDepth 100000 in
set_option maxHeartbeats 8000000 in
theorem scheck_any (s : Sl) (hs : SlI s) (o : Op) (ho : OpI o) (k : Nat) (hk : o.path.length = k) (P : Option Addr) (cp : Nat) (hcp : k ≤ cp) (hks : k ≤ 1000000) (w : World) (hp : DsAt w P o.path) (hL : Laid w) :
    Calls Tryd.prog 23 #[.agg (slC s).toArray, .agg #[.int .i64 o.day, .int .i64 o.salt, .bool o.bl, .slice P k cp]] w fun e w' => e = .returned (.bool (chkS s o)) ∧ Below w.heap.size w w' := by
  obtain ⟨hst, hsf, hsm, hsr⟩ := hs
  obtain ⟨hod, hos, hop⟩ := ho
  have s1 := heap_alloc_new w (.cells (slC s).toArray 25)
  have s2 := (Below.heap_alloc (w.alloc (.cells (slC s).toArray 25)) (.cells #[.int .i64 o.day, .int .i64 o.salt, .bool o.bl, .slice P k cp] 33) w.heap.size (by simp)).trans s1
  have s3 := (Below.heap_alloc ((w.alloc (.cells (slC s).toArray 25)).alloc (.cells #[.int .i64 o.day, .int .i64 o.salt, .bool o.bl, .slice P k cp] 33)) (.cells #[.int .i64 s.t, .int .i64 s.f, .int .i64 s.m] 69) w.heap.size (by simp; omega)).trans s2
  have o2 := heap_alloc_new (w.alloc (.cells (slC s).toArray 25)) (.cells #[.int .i64 o.day, .int .i64 o.salt, .bool o.bl, .slice P k cp] 33)
  have o3 := (Below.heap_alloc ((w.alloc (.cells (slC s).toArray 25)).alloc (.cells #[.int .i64 o.day, .int .i64 o.salt, .bool o.bl, .slice P k cp] 33)) (.cells #[.int .i64 s.t, .int .i64 s.f, .int .i64 s.m] 69) (w.alloc (.cells (slC s).toArray 25)).heap.size (by simp)).trans o2
  have d3 := heap_alloc_new ((w.alloc (.cells (slC s).toArray 25)).alloc (.cells #[.int .i64 o.day, .int .i64 o.salt, .bool o.bl, .slice P k cp] 33)) (.cells #[.int .i64 s.t, .int .i64 s.f, .int .i64 s.m] 69)
  simp only [World.size_alloc] at o2 o3 d3
  have x1 : ((w.alloc (.cells (slC s).toArray 25)).alloc (.cells #[.int .i64 o.day, .int .i64 o.salt, .bool o.bl, .slice P k cp] 33)).cell? ⟨w.heap.size, 0, none⟩ = some (.int .i64 s.t) := by rw [cell_of_row _ _ _ _ _ _ s2]; rfl
  have x2 : ((w.alloc (.cells (slC s).toArray 25)).alloc (.cells #[.int .i64 o.day, .int .i64 o.salt, .bool o.bl, .slice P k cp] 33)).cell? ⟨w.heap.size, 1, none⟩ = some (.int .i64 s.f) := by rw [cell_of_row _ _ _ _ _ _ s2]; rfl
  have x3 : ((w.alloc (.cells (slC s).toArray 25)).alloc (.cells #[.int .i64 o.day, .int .i64 o.salt, .bool o.bl, .slice P k cp] 33)).cell? ⟨w.heap.size, 2, none⟩ = some (.int .i64 s.m) := by rw [cell_of_row _ _ _ _ _ _ s2]; rfl
  have hB3 : Below w.heap.size w (((w.alloc (.cells (slC s).toArray 25)).alloc (.cells #[.int .i64 o.day, .int .i64 o.salt, .bool o.bl, .slice P k cp] 33)).alloc (.cells #[.int .i64 s.t, .int .i64 s.f, .int .i64 s.m] 69)) := (((Below.refl _ _).alloc (Nat.le_refl _) _).alloc (by simp) _).alloc (by simp; omega) _
  have hsz3 : (((w.alloc (.cells (slC s).toArray 25)).alloc (.cells #[.int .i64 o.day, .int .i64 o.salt, .bool o.bl, .slice P k cp] 33)).alloc (.cells #[.int .i64 s.t, .int .i64 s.f, .int .i64 s.m] 69)).heap.size = w.heap.size + 3 := by simp
  have hA : Hid (∀ V, Below (((w.alloc (.cells (slC s).toArray 25)).alloc (.cells #[.int .i64 o.day, .int .i64 o.salt, .bool o.bl, .slice P k cp] 33)).alloc (.cells #[.int .i64 s.t, .int .i64 s.f, .int .i64 s.m] 69)).heap.size (((w.alloc (.cells (slC s).toArray 25)).alloc (.cells #[.int .i64 o.day, .int .i64 o.salt, .bool o.bl, .slice P k cp] 33)).alloc (.cells #[.int .i64 s.t, .int .i64 s.f, .int .i64 s.m] 69)) V → (V.cell? ⟨w.heap.size, 0, none⟩ = some (.int .i64 s.t) ∧ V.cell? ⟨w.heap.size, 1, none⟩ = some (.int .i64 s.f) ∧ V.cell? ⟨w.heap.size, 2, none⟩ = some (.int .i64 s.m) ∧ V.rangeAt w.heap.size 3 (dc s.root)) ∧
      (V.cell? ⟨w.heap.size + 1, 0, none⟩ = some (.int .i64 o.day) ∧ V.cell? ⟨w.heap.size + 1, 1, none⟩ = some (.int .i64 o.salt) ∧ V.cell? ⟨w.heap.size + 1, 2, none⟩ = some (.bool o.bl) ∧ V.cell? ⟨w.heap.size + 1, 3, none⟩ = some (.slice P k cp)) ∧
      (V.cell? ⟨w.heap.size + 1 + 1, 0, none⟩ = some (.int .i64 s.t) ∧ V.cell? ⟨w.heap.size + 1 + 1, 1, none⟩ = some (.int .i64 s.f) ∧ V.cell? ⟨w.heap.size + 1 + 1, 2, none⟩ = some (.int .i64 s.m))) := Lib.hid fun V hV => by
    have h1 := (hV.block w.heap.size (by rw [hsz3]; omega)).trans s3
    have h2 := (hV.block (w.heap.size + 1) (by rw [hsz3]; omega)).trans o3
    have h3 := (hV.block (w.heap.size + 1 + 1) (by rw [hsz3]; omega)).trans d3
    refine ⟨⟨by rw [cell_of_row _ _ _ _ _ _ h1]; rfl, by rw [cell_of_row _ _ _ _ _ _ h1]; rfl, by rw [cell_of_row _ _ _ _ _ _ h1]; rfl, fun j v hj => ?_⟩, ⟨by rw [cell_of_row _ _ _ _ _ _ h2]; rfl, by rw [cell_of_row _ _ _ _ _ _ h2]; rfl, by rw [cell_of_row _ _ _ _ _ _ h2]; rfl, by rw [cell_of_row _ _ _ _ _ _ h2]; rfl⟩, ⟨by rw [cell_of_row _ _ _ _ _ _ h3]; rfl, by rw [cell_of_row _ _ _ _ _ _ h3]; rfl, by rw [cell_of_row _ _ _ _ _ _ h3]; rfl⟩⟩
    rw [cell_of_row _ _ _ _ _ _ h1, show 3 + j = j + 1 + 1 + 1 by omega]
    simpa [slC] using hj
  have hchk : Hid (chkS s o = (dayB s.t s.f s.m && (hasB s.f s.m o.day && (salB o.salt && (decide ((clV s.m (o.day - s.f) (leafM s.t o.day o.bl o.salt) o.path).2 = 0) && decide ((clV s.m (o.day - s.f) (leafM s.t o.day o.bl o.salt) o.path).1 = s.root)))))) := Lib.hid rfl
  have hdayI : dayB s.t s.f s.m = true → 0 ≤ s.f ∧ 1 ≤ s.m ∧ s.m ≤ 512 ∧ s.f ≤ 73048 := fun h => by
    have := of_decide_eq_true h
    omega
  have hB39 := Lib.hid hB3
  replace hsz3 := Lib.hid hsz3
  clear s1 s2 s3 o2 o3 d3 hB3
  by_cases c1 : dayB s.t s.f s.m = true
  · obtain ⟨i1, i2, i3, i4⟩ := hdayI c1
    by_cases c2 : hasB s.f s.m o.day = true
    · by_cases c3 : salB o.salt = true
      · go_enter Tryd.func23, Tryd.ntmps23
        go_wp2_with fail
        generalize ((w.alloc (.cells (slC s).toArray 25)).alloc (.cells #[.int .i64 o.day, .int .i64 o.salt, .bool o.bl, .slice P k cp] 33)).alloc (.cells #[.int .i64 s.t, .int .i64 s.f, .int .i64 s.m] 69) = W3 at *
        refine (valid_any8 _ _ _ _).mono ?_
        rintro e w4 ⟨rfl, hb4⟩
        obtain ⟨⟨p1, p2, p3, p4⟩, ⟨q1, q2, q3, q4⟩, ⟨r1, r2, r3⟩⟩ := hA.out w4 hb4
        have hW4 := hB39.out.trans (hb4.mono hB39.out.size)
        rw [c1]
        go_wp2_with fail
        refine (has_any _ _ _ _ i1 hod.2 _).mono ?_
        rintro e w5 ⟨rfl, hb5⟩
        have hb5' := hb4.trans (hb5.mono hb4.size)
        clear p1 p2 p3 p4 q1 q2 q3 q4 r1 r2 r3
        obtain ⟨⟨p1, p2, p3, p4⟩, ⟨q1, q2, q3, q4⟩, ⟨r1, r2, r3⟩⟩ := hA.out w5 hb5'
        have hW5 := hW4.trans (hb5.mono hW4.size)
        rw [c2]
        go_wp2_with fail
        refine (salt_any _ _).mono ?_
        rintro e w6 ⟨rfl, hw6⟩
        have hw6b := hw6.symm
        clear hw6
        subst hw6b
        rw [c3]
        obtain ⟨L, hL5⟩ : ∃ L, leafM s.t o.day o.bl o.salt = L := ⟨_, rfl⟩
        obtain ⟨n5, hn5⟩ : ∃ n5, (leafM s.t o.day o.bl o.salt).length = n5 := ⟨_, rfl⟩
        have hln : n5 ≤ 1000 := hn5 ▸ (leaf_sm (b := o.bl) hst hod hos).2
        obtain ⟨rt, hrt⟩ : ∃ rt, (clV s.m (o.day - s.f) (leafM s.t o.day o.bl o.salt) o.path).1 = rt := ⟨_, rfl⟩
        obtain ⟨er, her⟩ : ∃ er, (clV s.m (o.day - s.f) (leafM s.t o.day o.bl o.salt) o.path).2 = er := ⟨_, rfl⟩
        have hrt32 : rt.length = 32 := hrt ▸ clV_32 _ _ _ _
        have pr1 := Lib.hid (dc_info hrt32)
        have pr2 := Lib.hid (dg_info rt hrt32)
        have por := Lib.hid (dg_one rt)
        have psr := Lib.hid (show (dg zero32).size = (dg rt).size by rw [dg_size, dg_size, hrt32, zero32_len])
        have psr1 := Lib.hid (dc_info hsr)
        have hEq : ∀ V, (Op.equalIn 10000 23 (.agg (dc rt).toArray) (.agg (dc s.root).toArray)).run Tryd.prog V = .ok (decide (rt = s.root)) V := eq_dg rt s.root hrt32 hsr
        have hday : hasB s.f s.m o.day = true → s.f ≤ o.day ∧ o.day - s.f < s.m := fun h => of_decide_eq_true h
        obtain ⟨j1, j2⟩ := hday c2
        have hwr : IntKind.i64.wrap (o.day - s.f) = o.day - s.f := IntWalk.i64_in _ (by omega)
        have hC : Hid (∀ V A c, Below w5.heap.size w5 V → AtO V A (leafM s.t o.day o.bl o.salt) → Calls Tryd.prog 25 #[.int .i64 s.m, .int .i64 (o.day - s.f), .slice A n5 c, .slice P k cp] V fun e w' => e = .returned (.tuple #[.agg (dg rt), .int .i64 er]) ∧ Below V.heap.size V w') := Lib.hid fun V A c hV hat => by
          have hWV := hW5.trans (hV.mono hW5.size)
          have := mClimb_any s.m (o.day - s.f) (leafM s.t o.day o.bl o.salt) n5 hn5 (by omega) A c o.path k hk P cp hcp hks V hat (hp.below hWV) hop (hL.below hWV)
          rw [hrt, her] at this
          exact this
        have hS : Hid (∀ V, Below w5.heap.size w5 V → (fun w' => (w'.cell? ⟨w.heap.size, 0, none⟩ = some (.int .i64 s.t) ∧ w'.cell? ⟨w.heap.size, 1, none⟩ = some (.int .i64 s.f) ∧ w'.cell? ⟨w.heap.size, 2, none⟩ = some (.int .i64 s.m) ∧ w'.rangeAt w.heap.size 3 (dc s.root)) ∧ (w'.cell? ⟨w.heap.size + 1, 0, none⟩ = some (.int .i64 o.day) ∧ w'.cell? ⟨w.heap.size + 1, 1, none⟩ = some (.int .i64 o.salt) ∧ w'.cell? ⟨w.heap.size + 1, 2, none⟩ = some (.bool o.bl) ∧ w'.cell? ⟨w.heap.size + 1, 3, none⟩ = some (.slice P k cp)) ∧ (w'.cell? ⟨w.heap.size + 1 + 1, 0, none⟩ = some (.int .i64 s.t) ∧ w'.cell? ⟨w.heap.size + 1 + 1, 1, none⟩ = some (.int .i64 s.f) ∧ w'.cell? ⟨w.heap.size + 1 + 1, 2, none⟩ = some (.int .i64 s.m))) V) := Lib.hid fun V hV => hA.out V (hb5'.trans (hV.mono hb5'.size))
        have HB : Below w5.heap.size w5 w5.drew := (Below.refl _ _).drew
        replace hn5 := Lib.hid hn5
        have hfin : Hid (chkS s o = (decide (er = 0) && decide (rt = s.root))) := Lib.hid (by rw [hchk.out, c1, c2, c3, hrt, her]; rfl)
        clear hrt her p1 p2 p3 p4 q1 q2 q3 q4 r1 r2 r3
        go_wp2_with fail
        refine wp_region_T 22 (fun w' => (w'.cell? ⟨w.heap.size, 0, none⟩ = some (.int .i64 s.t) ∧ w'.cell? ⟨w.heap.size, 1, none⟩ = some (.int .i64 s.f) ∧ w'.cell? ⟨w.heap.size, 2, none⟩ = some (.int .i64 s.m) ∧ w'.rangeAt w.heap.size 3 (dc s.root)) ∧ (w'.cell? ⟨w.heap.size + 1, 0, none⟩ = some (.int .i64 o.day) ∧ w'.cell? ⟨w.heap.size + 1, 1, none⟩ = some (.int .i64 o.salt) ∧ w'.cell? ⟨w.heap.size + 1, 2, none⟩ = some (.bool o.bl) ∧ w'.cell? ⟨w.heap.size + 1, 3, none⟩ = some (.slice P k cp)) ∧ (w'.cell? ⟨w.heap.size + 1 + 1, 0, none⟩ = some (.int .i64 s.t) ∧ w'.cell? ⟨w.heap.size + 1 + 1, 1, none⟩ = some (.int .i64 s.f) ∧ w'.cell? ⟨w.heap.size + 1 + 1, 2, none⟩ = some (.int .i64 s.m))) (by kernel_rfl) (by exact hS.out _ HB) (fun hHeld => ?_)
        refine wpAnyT_pure (i := 0) (oi := { dst := some 32, op := Op.fieldAddr 25 (Operand.tmp 2) 2, type := 0, pos := "seals.go:101", after := #[], guard := none }) (v := ?_) rfl (by kernel_rfl) (by kernel_rfl) (by kernel_rfl) (fun _ _ _ h => h) (Or.inl ⟨by rfl, ?hyb1⟩) ?restb1
        case hyb1 =>
          intro w hSw
          go_simp
          try with_reducible rfl
        try simp only [Act.put, List.setIfInBounds_toArray, List.set_cons_zero, List.set_cons_succ]
        refine wpAnyT_take (i := 1) (oi := { dst := some 33, op := Op.load 3 (Operand.tmp 32), type := 3, pos := "seals.go:101", after := #[{ on := 0, ground := Ground.data }], guard := none }) (v := ?_) rfl (by kernel_rfl) (by kernel_rfl) (by kernel_rfl) (by kernel_rfl) (fun _ _ _ h => h) (Or.inl ⟨by rfl, ?hyb2⟩) hHeld ?restb2
        case hyb2 =>
          intro w hSw
          try dsimp only at hSw
          go_simp
          try with_reducible rfl
        try simp only [Act.put, List.setIfInBounds_toArray, List.set_cons_zero, List.set_cons_succ]
        refine wpAnyT_pure (i := 2) (oi := { dst := some 34, op := Op.fieldAddr 33 (Operand.tmp 3) 0, type := 0, pos := "seals.go:101", after := #[], guard := none }) (v := ?_) rfl (by kernel_rfl) (by kernel_rfl) (by kernel_rfl) (fun _ _ _ h => h) (Or.inl ⟨by rfl, ?hyb3⟩) ?restb3
        case hyb3 =>
          intro w hSw
          go_simp
          try with_reducible rfl
        try simp only [Act.put, List.setIfInBounds_toArray, List.set_cons_zero, List.set_cons_succ]
        refine wpAnyT_take (i := 3) (oi := { dst := some 35, op := Op.load 3 (Operand.tmp 34), type := 3, pos := "seals.go:101", after := #[{ on := 2, ground := Ground.data }], guard := none }) (v := ?_) rfl (by kernel_rfl) (by kernel_rfl) (by kernel_rfl) (by kernel_rfl) (fun _ _ _ h => h) (Or.inl ⟨by rfl, ?hyb4⟩) hHeld ?restb4
        case hyb4 =>
          intro w hSw
          try dsimp only at hSw
          go_simp
          try with_reducible rfl
        try simp only [Act.put, List.setIfInBounds_toArray, List.set_cons_zero, List.set_cons_succ]
        refine wpAnyT_pure (i := 4) (oi := { dst := some 36, op := Op.fieldAddr 25 (Operand.tmp 2) 1, type := 0, pos := "seals.go:101", after := #[], guard := none }) (v := ?_) rfl (by kernel_rfl) (by kernel_rfl) (by kernel_rfl) (fun _ _ _ h => h) (Or.inl ⟨by rfl, ?hyb5⟩) ?restb5
        case hyb5 =>
          intro w hSw
          go_simp
          try with_reducible rfl
        try simp only [Act.put, List.setIfInBounds_toArray, List.set_cons_zero, List.set_cons_succ]
        refine wpAnyT_take (i := 5) (oi := { dst := some 37, op := Op.load 3 (Operand.tmp 36), type := 3, pos := "seals.go:101", after := #[{ on := 4, ground := Ground.data }], guard := none }) (v := ?_) rfl (by kernel_rfl) (by kernel_rfl) (by kernel_rfl) (by kernel_rfl) (fun _ _ _ h => h) (Or.inl ⟨by rfl, ?hyb6⟩) hHeld ?restb6
        case hyb6 =>
          intro w hSw
          try dsimp only at hSw
          go_simp
          try with_reducible rfl
        try simp only [Act.put, List.setIfInBounds_toArray, List.set_cons_zero, List.set_cons_succ]
        refine wpAnyT_pure (i := 6) (oi := { dst := some 38, op := Op.binOp BinOp.sub 3 (Operand.tmp 35) (Operand.tmp 37) 3, type := 3, pos := "seals.go:101", after := #[{ on := 3, ground := Ground.data }, { on := 5, ground := Ground.data }], guard := none }) (v := ?_) rfl (by kernel_rfl) (by kernel_rfl) (by kernel_rfl) (fun _ _ _ h => h) (Or.inl ⟨by rfl, ?hyb7⟩) ?restb7
        case hyb7 =>
          intro w hSw
          go_simp
          try with_reducible rfl
        try simp only [Act.put, List.setIfInBounds_toArray, List.set_cons_zero, List.set_cons_succ]
        refine wpAnyT_take (i := 7) (oi := { dst := some 39, op := Op.load 69 (Operand.tmp 5), type := 69, pos := "seals.go:101", after := #[], guard := none }) (v := ?_) rfl (by kernel_rfl) (by kernel_rfl) (by kernel_rfl) (by kernel_rfl) (fun _ _ _ h => h) (Or.inl ⟨by rfl, ?hyb8⟩) hHeld ?restb8
        case hyb8 =>
          intro w hSw
          try dsimp only at hSw
          go_simp
          try with_reducible rfl
        try simp only [Act.put, List.setIfInBounds_toArray, List.set_cons_zero, List.set_cons_succ]
        refine wpAnyT_pure (i := 8) (oi := { dst := some 40, op := Op.fieldAddr 33 (Operand.tmp 3) 0, type := 0, pos := "seals.go:101", after := #[], guard := none }) (v := ?_) rfl (by kernel_rfl) (by kernel_rfl) (by kernel_rfl) (fun _ _ _ h => h) (Or.inl ⟨by rfl, ?hyb9⟩) ?restb9
        case hyb9 =>
          intro w hSw
          go_simp
          try with_reducible rfl
        try simp only [Act.put, List.setIfInBounds_toArray, List.set_cons_zero, List.set_cons_succ]
        refine wpAnyT_take (i := 9) (oi := { dst := some 41, op := Op.load 3 (Operand.tmp 40), type := 3, pos := "seals.go:101", after := #[{ on := 8, ground := Ground.data }], guard := none }) (v := ?_) rfl (by kernel_rfl) (by kernel_rfl) (by kernel_rfl) (by kernel_rfl) (fun _ _ _ h => h) (Or.inl ⟨by rfl, ?hyb10⟩) hHeld ?restb10
        case hyb10 =>
          intro w hSw
          try dsimp only at hSw
          go_simp
          try with_reducible rfl
        try simp only [Act.put, List.setIfInBounds_toArray, List.set_cons_zero, List.set_cons_succ]
        refine wpAnyT_pure (i := 10) (oi := { dst := some 42, op := Op.fieldAddr 33 (Operand.tmp 3) 2, type := 0, pos := "seals.go:101", after := #[], guard := none }) (v := ?_) rfl (by kernel_rfl) (by kernel_rfl) (by kernel_rfl) (fun _ _ _ h => h) (Or.inl ⟨by rfl, ?hyb11⟩) ?restb11
        case hyb11 =>
          intro w hSw
          go_simp
          try with_reducible rfl
        try simp only [Act.put, List.setIfInBounds_toArray, List.set_cons_zero, List.set_cons_succ]
        refine wpAnyT_take (i := 11) (oi := { dst := some 43, op := Op.load 4 (Operand.tmp 42), type := 4, pos := "seals.go:101", after := #[{ on := 10, ground := Ground.data }], guard := none }) (v := ?_) rfl (by kernel_rfl) (by kernel_rfl) (by kernel_rfl) (by kernel_rfl) (fun _ _ _ h => h) (Or.inl ⟨by rfl, ?hyb12⟩) hHeld ?restb12
        case hyb12 =>
          intro w hSw
          try dsimp only at hSw
          go_simp
          try with_reducible rfl
        try simp only [Act.put, List.setIfInBounds_toArray, List.set_cons_zero, List.set_cons_succ]
        refine wpAnyT_pure (i := 12) (oi := { dst := some 44, op := Op.fieldAddr 33 (Operand.tmp 3) 1, type := 0, pos := "seals.go:101", after := #[], guard := none }) (v := ?_) rfl (by kernel_rfl) (by kernel_rfl) (by kernel_rfl) (fun _ _ _ h => h) (Or.inl ⟨by rfl, ?hyb13⟩) ?restb13
        case hyb13 =>
          intro w hSw
          go_simp
          try with_reducible rfl
        try simp only [Act.put, List.setIfInBounds_toArray, List.set_cons_zero, List.set_cons_succ]
        refine wpAnyT_take (i := 13) (oi := { dst := some 45, op := Op.load 3 (Operand.tmp 44), type := 3, pos := "seals.go:101", after := #[{ on := 12, ground := Ground.data }], guard := none }) (v := ?_) rfl (by kernel_rfl) (by kernel_rfl) (by kernel_rfl) (by kernel_rfl) (fun _ _ _ h => h) (Or.inl ⟨by rfl, ?hyb14⟩) hHeld ?restb14
        case hyb14 =>
          intro w hSw
          try dsimp only at hSw
          go_simp
          try with_reducible rfl
        try simp only [Act.put, List.setIfInBounds_toArray, List.set_cons_zero, List.set_cons_succ]
        refine wpAnyT_pure (i := 15) (oi := { dst := some 47, op := Op.fieldAddr 33 (Operand.tmp 3) 3, type := 0, pos := "seals.go:101", after := #[], guard := none }) (v := ?_) rfl (by kernel_rfl) (by kernel_rfl) (by kernel_rfl) (fun _ _ _ h => h) (Or.inl ⟨by rfl, ?hyb15⟩) ?restb15
        case hyb15 =>
          intro w hSw
          go_simp
          try with_reducible rfl
        try simp only [Act.put, List.setIfInBounds_toArray, List.set_cons_zero, List.set_cons_succ]
        refine wpAnyT_take (i := 16) (oi := { dst := some 48, op := Op.load 31 (Operand.tmp 47), type := 31, pos := "seals.go:101", after := #[{ on := 15, ground := Ground.data }], guard := none }) (v := ?_) rfl (by kernel_rfl) (by kernel_rfl) (by kernel_rfl) (by kernel_rfl) (fun _ _ _ h => h) (Or.inl ⟨by rfl, ?hyb16⟩) hHeld ?restb16
        case hyb16 =>
          intro w hSw
          try dsimp only at hSw
          go_simp
          try with_reducible rfl
        try simp only [Act.put, List.setIfInBounds_toArray, List.set_cons_zero, List.set_cons_succ]
        refine wpAnyT_two (i := 14) (j := 21) (o := { dst := some 46, op := Op.call { callee := Callee.value (Operand.func 44), args := #[Operand.tmp 39, Operand.tmp 41, Operand.tmp 43, Operand.tmp 45], argTypes := #[69, 3, 4, 3] }, type := 48, pos := "seals.go:101", after := #[{ on := 7, ground := Ground.data }, { on := 9, ground := Ground.data }, { on := 11, ground := Ground.data }, { on := 13, ground := Ground.data }], guard := none }) (o2 := { dst := some 6, op := Op.alloc 23, type := 0, pos := "seals.go:101", after := #[], guard := none }) (by kernel_rfl) rfl rfl (fun K hK => ?_) (fun K hK => ?_)
        · go_simp
          go_at_call 44
          refine (leaf_any8 s.t s.f s.m o.day o.salt o.bl hst hod hos _).mono ?_
          unfold JoinC
          rw [hn5.out]
          rintro e w7 ⟨A7, c7, rfl, h71, h72, h73, hbx, -⟩
          replace HB := HB.trans (hbx.mono HB.size)
          clear hbx
          refine hK.out _ _ (by exact hS.out _ HB) (fun hHeld' => ?_)
          clear hK K hHeld
          have hHeld := hHeld'
          clear hHeld'
          try simp only [Act.put, List.setIfInBounds_toArray, List.set_cons_zero, List.set_cons_succ]
          refine wpAnyT_two (i := 17) (j := 21) (o := { dst := some 49, op := Op.call { callee := Callee.value (Operand.func 25), args := #[Operand.tmp 33, Operand.tmp 38, Operand.tmp 46, Operand.tmp 48], argTypes := #[3, 3, 48, 31] }, type := 53, pos := "seals.go:101", after := #[{ on := 1, ground := Ground.data }, { on := 6, ground := Ground.data }, { on := 14, ground := Ground.data }, { on := 16, ground := Ground.data }, { on := 14, ground := Ground.chain }], guard := none }) (o2 := { dst := some 6, op := Op.alloc 23, type := 0, pos := "seals.go:101", after := #[], guard := none }) (by kernel_rfl) rfl rfl (fun K hK => ?_) (fun K hK => ?_)
          · go_simp
            go_at_call 25
            refine (hC.out _ A7 c7 HB h73).mono ?_
            rintro e w8 ⟨rfl, hbx⟩
            replace HB := HB.trans (hbx.mono HB.size)
            clear hbx
            refine hK.out _ _ (by exact hS.out _ HB) (fun hHeld' => ?_)
            clear hK K hHeld
            have hHeld := hHeld'
            clear hHeld'
            try simp only [Act.put, List.setIfInBounds_toArray, List.set_cons_zero, List.set_cons_succ]
            refine wpAnyT_pure (i := 18) (oi := { dst := some 31, op := Op.move (Operand.tmp 49), type := 53, pos := "seals.go:101", after := #[{ on := 17, ground := Ground.data }], guard := none }) (v := ?_) rfl (by kernel_rfl) (by kernel_rfl) (by kernel_rfl) (fun _ _ _ h => h) (Or.inl ⟨by rfl, ?hyb17⟩) ?restb17
            case hyb17 =>
              intro w hSw
              go_simp
              try with_reducible rfl
            try simp only [Act.put, List.setIfInBounds_toArray, List.set_cons_zero, List.set_cons_succ]
            refine wpAnyT_pure (i := 19) (oi := { dst := some 50, op := Op.extract (Operand.tmp 31) 0, type := 23, pos := "seals.go:101", after := #[{ on := 18, ground := Ground.data }], guard := none }) (v := ?_) rfl (by kernel_rfl) (by kernel_rfl) (by kernel_rfl) (fun _ _ _ h => h) (Or.inl ⟨by rfl, ?hyb18⟩) ?restb18
            case hyb18 =>
              intro w hSw
              go_simp
              try with_reducible rfl
            try simp only [Act.put, List.setIfInBounds_toArray, List.set_cons_zero, List.set_cons_succ]
            refine wpAnyT_pure (i := 20) (oi := { dst := some 51, op := Op.extract (Operand.tmp 31) 1, type := 35, pos := "seals.go:101", after := #[{ on := 18, ground := Ground.data }, { on := 22, ground := Ground.gcOnly Departure.lateStores }], guard := none }) (v := ?_) rfl (by kernel_rfl) (by kernel_rfl) (by kernel_rfl) (fun _ _ _ h => h) (Or.inl ⟨by rfl, ?hyb19⟩) ?restb19
            case hyb19 =>
              intro w hSw
              go_simp
              try with_reducible rfl
            try simp only [Act.put, List.setIfInBounds_toArray, List.set_cons_zero, List.set_cons_succ]
            refine wpAnyT_one (i := 21) (o := { dst := some 6, op := Op.alloc 23, type := 0, pos := "seals.go:101", after := #[], guard := none }) (by kernel_rfl) rfl (fun K hK => ?_)
            go_simp
            have hz := heap_alloc_new w8 (.cells ((List.replicate 32 (0 : UInt8)).map by1).toArray 23)
            have hs21 : w5.heap.size ≤ w8.heap.size := HB.size
            have HB2 := HB.alloc HB.size (.cells ((List.replicate 32 (0 : UInt8)).map by1).toArray 23)
            clear HB
            have HB := HB2
            clear HB2
            refine hK.out _ _ (by exact hS.out _ HB) (fun hHeld' => ?_)
            clear hK K hHeld
            have hHeld := hHeld'
            clear hHeld'
            try simp only [Act.put, List.setIfInBounds_toArray, List.set_cons_zero, List.set_cons_succ]
            refine wpAnyT_tail (i := 22) (o := { dst := none, op := Op.store 23 (Operand.tmp 6) (Operand.tmp 50), type := 0, pos := "seals.go:101", after := #[{ on := 21, ground := Ground.data }, { on := 19, ground := Ground.data }, { on := 17, ground := Ground.chain }, { on := 0, ground := Ground.phase }, { on := 1, ground := Ground.phase }, { on := 2, ground := Ground.phase }, { on := 3, ground := Ground.phase }, { on := 4, ground := Ground.phase }, { on := 5, ground := Ground.phase }, { on := 6, ground := Ground.phase }, { on := 7, ground := Ground.phase }, { on := 8, ground := Ground.phase }, { on := 9, ground := Ground.phase }, { on := 10, ground := Ground.phase }, { on := 11, ground := Ground.phase }, { on := 12, ground := Ground.phase }, { on := 13, ground := Ground.phase }, { on := 14, ground := Ground.phase }, { on := 15, ground := Ground.phase }, { on := 16, ground := Ground.phase }, { on := 17, ground := Ground.phase }, { on := 18, ground := Ground.phase }, { on := 19, ground := Ground.phase }, { on := 20, ground := Ground.textOnly Departure.lateStores }, { on := 21, ground := Ground.phase }], guard := none }) (by kernel_rfl) rfl (by rfl) (fun K hK => ?_)
            rw [if_pos (by rfl)]
            refine wp_set_row 23 (.tmp 6) (.tmp 50) (by rfl) (by rfl) w8.heap.size (dg rt) (by rfl) (by rfl) 23 _ hz pr2.out psr.out por.out ?_
            intro w9 hd9 hz9 hg9
            refine hK.out _ _ ?_
            clear hK K
            try simp only [Act.put, List.setIfInBounds_toArray, List.set_cons_zero, List.set_cons_succ]
            refine wpAnyT_pure (i := 23) (oi := { dst := some 7, op := Op.assign (Operand.tmp 51), type := 35, pos := "seals.go:101", after := #[{ on := 20, ground := Ground.data }, { on := 22, ground := Ground.chain }, { on := 0, ground := Ground.phase }, { on := 1, ground := Ground.phase }, { on := 2, ground := Ground.phase }, { on := 3, ground := Ground.phase }, { on := 4, ground := Ground.phase }, { on := 5, ground := Ground.phase }, { on := 6, ground := Ground.phase }, { on := 7, ground := Ground.phase }, { on := 8, ground := Ground.phase }, { on := 9, ground := Ground.phase }, { on := 10, ground := Ground.phase }, { on := 11, ground := Ground.phase }, { on := 12, ground := Ground.phase }, { on := 13, ground := Ground.phase }, { on := 14, ground := Ground.phase }, { on := 15, ground := Ground.phase }, { on := 16, ground := Ground.phase }, { on := 17, ground := Ground.phase }, { on := 18, ground := Ground.phase }, { on := 19, ground := Ground.phase }, { on := 20, ground := Ground.phase }, { on := 21, ground := Ground.phase }, { on := 22, ground := Ground.phase }], guard := none }) (v := ?_) rfl (by kernel_rfl) (by kernel_rfl) (by kernel_rfl) (fun _ _ _ h => h) (Or.inl ⟨by rfl, ?hyb20⟩) ?restb20
            case hyb20 =>
              intro w hSw
              go_simp
              try with_reducible rfl
            try simp only [Act.put, List.setIfInBounds_toArray, List.set_cons_zero, List.set_cons_succ]
            refine wpAnyT_done (by kernel_rfl) ?_ _
            have hg9b := Lib.hid hg9
            have hd9b := Lib.hid hd9
            have hr9 : w9.rangeAt w8.heap.size 0 (dc rt) := fun j v hj => by rw [Nat.zero_add, cell_of_row _ _ _ _ _ _ hd9]; simpa [dg] using hj
            have hB9 := (hW5.trans (HB.mono hW5.size)).grown hg9 (hW5.trans (HB.mono hW5.size)).size (fun j e => by have := Option.some.inj e; have := hW5.size; omega)
            have hR9 : w9.rangeAt w.heap.size 3 (dc s.root) := range_kept (hS.out _ HB).1.2.2.2 hg9 (fun e => by have := Option.some.inj e; have := hsz3.out; have := hb5'.size; omega)
            replace hr9 := Lib.hid hr9
            replace hR9 := Lib.hid hR9
            clear hd9 hg9 hz hz9
            cases hE : decide (er = 0) with
            | true =>
              have e0 : (er == 0) = true := by simpa using hE
              go_wp2_with (first
                | (refine wpList_load_midG (by rfl) 23 (.tmp 6) (by rfl) w8.heap.size 0 (by rfl) (dc rt) _ hr9.out Tryd.underlying23 (by rfl) pr1.out ?_)
                | (refine wpList_load_midG (by rfl) 23 (.tmp 56) (by rfl) w.heap.size 3 (by rfl) (dc s.root) _ hR9.out Tryd.underlying23 (by rfl) psr1.out ?_))
              go_ret
              exact ⟨by rw [hfin.out, hE, Bool.true_and]; rfl, hB9⟩
            | false =>
              have e0 : (er == 0) = false := by simpa using hE
              go_wp2_with fail
              go_ret
              exact ⟨by rw [hfin.out, hE, Bool.false_and]; rfl, hB9⟩
          · go_simp
            have hz := heap_alloc_new w7 (.cells ((List.replicate 32 (0 : UInt8)).map by1).toArray 23)
            have hs21 : w5.heap.size ≤ w7.heap.size := HB.size
            have h73b := h73.below ((Below.refl w7.heap.size w7).alloc (Nat.le_refl _) (.cells ((List.replicate 32 (0 : UInt8)).map by1).toArray 23))
            clear h73
            have h73 := h73b
            clear h73b
            have HB2 := HB.alloc HB.size (.cells ((List.replicate 32 (0 : UInt8)).map by1).toArray 23)
            clear HB
            have HB := HB2
            clear HB2
            refine hK.out _ _ (by exact hS.out _ HB) (fun hHeld' => ?_)
            clear hK K hHeld
            have hHeld := hHeld'
            clear hHeld'
            try simp only [Act.put, List.setIfInBounds_toArray, List.set_cons_zero, List.set_cons_succ]
            refine wpAnyT_one (i := 17) (o := { dst := some 49, op := Op.call { callee := Callee.value (Operand.func 25), args := #[Operand.tmp 33, Operand.tmp 38, Operand.tmp 46, Operand.tmp 48], argTypes := #[3, 3, 48, 31] }, type := 53, pos := "seals.go:101", after := #[{ on := 1, ground := Ground.data }, { on := 6, ground := Ground.data }, { on := 14, ground := Ground.data }, { on := 16, ground := Ground.data }, { on := 14, ground := Ground.chain }], guard := none }) (by kernel_rfl) rfl (fun K hK => ?_)
            go_simp
            go_at_call 25
            refine (hC.out _ A7 c7 HB h73).mono ?_
            rintro e w8 ⟨rfl, hbx⟩
            have hz2 := (hbx.block _ (Array.getElem?_eq_some_iff.1 hz).1).trans hz
            clear hz
            have hz := hz2
            clear hz2
            replace HB := HB.trans (hbx.mono HB.size)
            clear hbx
            refine hK.out _ _ (by exact hS.out _ HB) (fun hHeld' => ?_)
            clear hK K hHeld
            have hHeld := hHeld'
            clear hHeld'
            try simp only [Act.put, List.setIfInBounds_toArray, List.set_cons_zero, List.set_cons_succ]
            refine wpAnyT_pure (i := 18) (oi := { dst := some 31, op := Op.move (Operand.tmp 49), type := 53, pos := "seals.go:101", after := #[{ on := 17, ground := Ground.data }], guard := none }) (v := ?_) rfl (by kernel_rfl) (by kernel_rfl) (by kernel_rfl) (fun _ _ _ h => h) (Or.inl ⟨by rfl, ?hyb21⟩) ?restb21
            case hyb21 =>
              intro w hSw
              go_simp
              try with_reducible rfl
            try simp only [Act.put, List.setIfInBounds_toArray, List.set_cons_zero, List.set_cons_succ]
            refine wpAnyT_pure (i := 19) (oi := { dst := some 50, op := Op.extract (Operand.tmp 31) 0, type := 23, pos := "seals.go:101", after := #[{ on := 18, ground := Ground.data }], guard := none }) (v := ?_) rfl (by kernel_rfl) (by kernel_rfl) (by kernel_rfl) (fun _ _ _ h => h) (Or.inl ⟨by rfl, ?hyb22⟩) ?restb22
            case hyb22 =>
              intro w hSw
              go_simp
              try with_reducible rfl
            try simp only [Act.put, List.setIfInBounds_toArray, List.set_cons_zero, List.set_cons_succ]
            refine wpAnyT_pure (i := 20) (oi := { dst := some 51, op := Op.extract (Operand.tmp 31) 1, type := 35, pos := "seals.go:101", after := #[{ on := 18, ground := Ground.data }, { on := 22, ground := Ground.gcOnly Departure.lateStores }], guard := none }) (v := ?_) rfl (by kernel_rfl) (by kernel_rfl) (by kernel_rfl) (fun _ _ _ h => h) (Or.inl ⟨by rfl, ?hyb23⟩) ?restb23
            case hyb23 =>
              intro w hSw
              go_simp
              try with_reducible rfl
            try simp only [Act.put, List.setIfInBounds_toArray, List.set_cons_zero, List.set_cons_succ]
            refine wpAnyT_tail (i := 22) (o := { dst := none, op := Op.store 23 (Operand.tmp 6) (Operand.tmp 50), type := 0, pos := "seals.go:101", after := #[{ on := 21, ground := Ground.data }, { on := 19, ground := Ground.data }, { on := 17, ground := Ground.chain }, { on := 0, ground := Ground.phase }, { on := 1, ground := Ground.phase }, { on := 2, ground := Ground.phase }, { on := 3, ground := Ground.phase }, { on := 4, ground := Ground.phase }, { on := 5, ground := Ground.phase }, { on := 6, ground := Ground.phase }, { on := 7, ground := Ground.phase }, { on := 8, ground := Ground.phase }, { on := 9, ground := Ground.phase }, { on := 10, ground := Ground.phase }, { on := 11, ground := Ground.phase }, { on := 12, ground := Ground.phase }, { on := 13, ground := Ground.phase }, { on := 14, ground := Ground.phase }, { on := 15, ground := Ground.phase }, { on := 16, ground := Ground.phase }, { on := 17, ground := Ground.phase }, { on := 18, ground := Ground.phase }, { on := 19, ground := Ground.phase }, { on := 20, ground := Ground.textOnly Departure.lateStores }, { on := 21, ground := Ground.phase }], guard := none }) (by kernel_rfl) rfl (by rfl) (fun K hK => ?_)
            rw [if_pos (by rfl)]
            refine wp_set_row 23 (.tmp 6) (.tmp 50) (by rfl) (by rfl) w7.heap.size (dg rt) (by rfl) (by rfl) 23 _ hz pr2.out psr.out por.out ?_
            intro w9 hd9 hz9 hg9
            refine hK.out _ _ ?_
            clear hK K
            try simp only [Act.put, List.setIfInBounds_toArray, List.set_cons_zero, List.set_cons_succ]
            refine wpAnyT_pure (i := 23) (oi := { dst := some 7, op := Op.assign (Operand.tmp 51), type := 35, pos := "seals.go:101", after := #[{ on := 20, ground := Ground.data }, { on := 22, ground := Ground.chain }, { on := 0, ground := Ground.phase }, { on := 1, ground := Ground.phase }, { on := 2, ground := Ground.phase }, { on := 3, ground := Ground.phase }, { on := 4, ground := Ground.phase }, { on := 5, ground := Ground.phase }, { on := 6, ground := Ground.phase }, { on := 7, ground := Ground.phase }, { on := 8, ground := Ground.phase }, { on := 9, ground := Ground.phase }, { on := 10, ground := Ground.phase }, { on := 11, ground := Ground.phase }, { on := 12, ground := Ground.phase }, { on := 13, ground := Ground.phase }, { on := 14, ground := Ground.phase }, { on := 15, ground := Ground.phase }, { on := 16, ground := Ground.phase }, { on := 17, ground := Ground.phase }, { on := 18, ground := Ground.phase }, { on := 19, ground := Ground.phase }, { on := 20, ground := Ground.phase }, { on := 21, ground := Ground.phase }, { on := 22, ground := Ground.phase }], guard := none }) (v := ?_) rfl (by kernel_rfl) (by kernel_rfl) (by kernel_rfl) (fun _ _ _ h => h) (Or.inl ⟨by rfl, ?hyb24⟩) ?restb24
            case hyb24 =>
              intro w hSw
              go_simp
              try with_reducible rfl
            try simp only [Act.put, List.setIfInBounds_toArray, List.set_cons_zero, List.set_cons_succ]
            refine wpAnyT_done (by kernel_rfl) ?_ _
            have hg9b := Lib.hid hg9
            have hd9b := Lib.hid hd9
            have hr9 : w9.rangeAt w7.heap.size 0 (dc rt) := fun j v hj => by rw [Nat.zero_add, cell_of_row _ _ _ _ _ _ hd9]; simpa [dg] using hj
            have hB9 := (hW5.trans (HB.mono hW5.size)).grown hg9 (hW5.trans (HB.mono hW5.size)).size (fun j e => by have := Option.some.inj e; have := hW5.size; omega)
            have hR9 : w9.rangeAt w.heap.size 3 (dc s.root) := range_kept (hS.out _ HB).1.2.2.2 hg9 (fun e => by have := Option.some.inj e; have := hsz3.out; have := hb5'.size; omega)
            replace hr9 := Lib.hid hr9
            replace hR9 := Lib.hid hR9
            clear hd9 hg9 hz hz9
            cases hE : decide (er = 0) with
            | true =>
              have e0 : (er == 0) = true := by simpa using hE
              go_wp2_with (first
                | (refine wpList_load_midG (by rfl) 23 (.tmp 6) (by rfl) w7.heap.size 0 (by rfl) (dc rt) _ hr9.out Tryd.underlying23 (by rfl) pr1.out ?_)
                | (refine wpList_load_midG (by rfl) 23 (.tmp 56) (by rfl) w.heap.size 3 (by rfl) (dc s.root) _ hR9.out Tryd.underlying23 (by rfl) psr1.out ?_))
              go_ret
              exact ⟨by rw [hfin.out, hE, Bool.true_and]; rfl, hB9⟩
            | false =>
              have e0 : (er == 0) = false := by simpa using hE
              go_wp2_with fail
              go_ret
              exact ⟨by rw [hfin.out, hE, Bool.false_and]; rfl, hB9⟩
        · go_simp
          have hz := heap_alloc_new w5.drew (.cells ((List.replicate 32 (0 : UInt8)).map by1).toArray 23)
          have hs21 : w5.heap.size ≤ w5.heap.size := HB.size
          have HB2 := HB.alloc HB.size (.cells ((List.replicate 32 (0 : UInt8)).map by1).toArray 23)
          clear HB
          have HB := HB2
          clear HB2
          refine hK.out _ _ (by exact hS.out _ HB) (fun hHeld' => ?_)
          clear hK K hHeld
          have hHeld := hHeld'
          clear hHeld'
          try simp only [Act.put, List.setIfInBounds_toArray, List.set_cons_zero, List.set_cons_succ]
          refine wpAnyT_one (i := 14) (o := { dst := some 46, op := Op.call { callee := Callee.value (Operand.func 44), args := #[Operand.tmp 39, Operand.tmp 41, Operand.tmp 43, Operand.tmp 45], argTypes := #[69, 3, 4, 3] }, type := 48, pos := "seals.go:101", after := #[{ on := 7, ground := Ground.data }, { on := 9, ground := Ground.data }, { on := 11, ground := Ground.data }, { on := 13, ground := Ground.data }], guard := none }) (by kernel_rfl) rfl (fun K hK => ?_)
          go_simp
          go_at_call 44
          refine (leaf_any8 s.t s.f s.m o.day o.salt o.bl hst hod hos _).mono ?_
          unfold JoinC
          rw [hn5.out]
          rintro e w7 ⟨A7, c7, rfl, h71, h72, h73, hbx, -⟩
          have hz2 := (hbx.block _ (Array.getElem?_eq_some_iff.1 hz).1).trans hz
          clear hz
          have hz := hz2
          clear hz2
          replace HB := HB.trans (hbx.mono HB.size)
          clear hbx
          refine hK.out _ _ (by exact hS.out _ HB) (fun hHeld' => ?_)
          clear hK K hHeld
          have hHeld := hHeld'
          clear hHeld'
          try simp only [Act.put, List.setIfInBounds_toArray, List.set_cons_zero, List.set_cons_succ]
          refine wpAnyT_one (i := 17) (o := { dst := some 49, op := Op.call { callee := Callee.value (Operand.func 25), args := #[Operand.tmp 33, Operand.tmp 38, Operand.tmp 46, Operand.tmp 48], argTypes := #[3, 3, 48, 31] }, type := 53, pos := "seals.go:101", after := #[{ on := 1, ground := Ground.data }, { on := 6, ground := Ground.data }, { on := 14, ground := Ground.data }, { on := 16, ground := Ground.data }, { on := 14, ground := Ground.chain }], guard := none }) (by kernel_rfl) rfl (fun K hK => ?_)
          go_simp
          go_at_call 25
          refine (hC.out _ A7 c7 HB h73).mono ?_
          rintro e w8 ⟨rfl, hbx⟩
          have hz2 := (hbx.block _ (Array.getElem?_eq_some_iff.1 hz).1).trans hz
          clear hz
          have hz := hz2
          clear hz2
          replace HB := HB.trans (hbx.mono HB.size)
          clear hbx
          refine hK.out _ _ (by exact hS.out _ HB) (fun hHeld' => ?_)
          clear hK K hHeld
          have hHeld := hHeld'
          clear hHeld'
          try simp only [Act.put, List.setIfInBounds_toArray, List.set_cons_zero, List.set_cons_succ]
          refine wpAnyT_pure (i := 18) (oi := { dst := some 31, op := Op.move (Operand.tmp 49), type := 53, pos := "seals.go:101", after := #[{ on := 17, ground := Ground.data }], guard := none }) (v := ?_) rfl (by kernel_rfl) (by kernel_rfl) (by kernel_rfl) (fun _ _ _ h => h) (Or.inl ⟨by rfl, ?hyb25⟩) ?restb25
          case hyb25 =>
            intro w hSw
            go_simp
            try with_reducible rfl
          try simp only [Act.put, List.setIfInBounds_toArray, List.set_cons_zero, List.set_cons_succ]
          refine wpAnyT_pure (i := 19) (oi := { dst := some 50, op := Op.extract (Operand.tmp 31) 0, type := 23, pos := "seals.go:101", after := #[{ on := 18, ground := Ground.data }], guard := none }) (v := ?_) rfl (by kernel_rfl) (by kernel_rfl) (by kernel_rfl) (fun _ _ _ h => h) (Or.inl ⟨by rfl, ?hyb26⟩) ?restb26
          case hyb26 =>
            intro w hSw
            go_simp
            try with_reducible rfl
          try simp only [Act.put, List.setIfInBounds_toArray, List.set_cons_zero, List.set_cons_succ]
          refine wpAnyT_pure (i := 20) (oi := { dst := some 51, op := Op.extract (Operand.tmp 31) 1, type := 35, pos := "seals.go:101", after := #[{ on := 18, ground := Ground.data }, { on := 22, ground := Ground.gcOnly Departure.lateStores }], guard := none }) (v := ?_) rfl (by kernel_rfl) (by kernel_rfl) (by kernel_rfl) (fun _ _ _ h => h) (Or.inl ⟨by rfl, ?hyb27⟩) ?restb27
          case hyb27 =>
            intro w hSw
            go_simp
            try with_reducible rfl
          try simp only [Act.put, List.setIfInBounds_toArray, List.set_cons_zero, List.set_cons_succ]
          refine wpAnyT_tail (i := 22) (o := { dst := none, op := Op.store 23 (Operand.tmp 6) (Operand.tmp 50), type := 0, pos := "seals.go:101", after := #[{ on := 21, ground := Ground.data }, { on := 19, ground := Ground.data }, { on := 17, ground := Ground.chain }, { on := 0, ground := Ground.phase }, { on := 1, ground := Ground.phase }, { on := 2, ground := Ground.phase }, { on := 3, ground := Ground.phase }, { on := 4, ground := Ground.phase }, { on := 5, ground := Ground.phase }, { on := 6, ground := Ground.phase }, { on := 7, ground := Ground.phase }, { on := 8, ground := Ground.phase }, { on := 9, ground := Ground.phase }, { on := 10, ground := Ground.phase }, { on := 11, ground := Ground.phase }, { on := 12, ground := Ground.phase }, { on := 13, ground := Ground.phase }, { on := 14, ground := Ground.phase }, { on := 15, ground := Ground.phase }, { on := 16, ground := Ground.phase }, { on := 17, ground := Ground.phase }, { on := 18, ground := Ground.phase }, { on := 19, ground := Ground.phase }, { on := 20, ground := Ground.textOnly Departure.lateStores }, { on := 21, ground := Ground.phase }], guard := none }) (by kernel_rfl) rfl (by rfl) (fun K hK => ?_)
          rw [if_pos (by rfl)]
          refine wp_set_row 23 (.tmp 6) (.tmp 50) (by rfl) (by rfl) w5.heap.size (dg rt) (by rfl) (by rfl) 23 _ hz pr2.out psr.out por.out ?_
          intro w9 hd9 hz9 hg9
          refine hK.out _ _ ?_
          clear hK K
          try simp only [Act.put, List.setIfInBounds_toArray, List.set_cons_zero, List.set_cons_succ]
          refine wpAnyT_pure (i := 23) (oi := { dst := some 7, op := Op.assign (Operand.tmp 51), type := 35, pos := "seals.go:101", after := #[{ on := 20, ground := Ground.data }, { on := 22, ground := Ground.chain }, { on := 0, ground := Ground.phase }, { on := 1, ground := Ground.phase }, { on := 2, ground := Ground.phase }, { on := 3, ground := Ground.phase }, { on := 4, ground := Ground.phase }, { on := 5, ground := Ground.phase }, { on := 6, ground := Ground.phase }, { on := 7, ground := Ground.phase }, { on := 8, ground := Ground.phase }, { on := 9, ground := Ground.phase }, { on := 10, ground := Ground.phase }, { on := 11, ground := Ground.phase }, { on := 12, ground := Ground.phase }, { on := 13, ground := Ground.phase }, { on := 14, ground := Ground.phase }, { on := 15, ground := Ground.phase }, { on := 16, ground := Ground.phase }, { on := 17, ground := Ground.phase }, { on := 18, ground := Ground.phase }, { on := 19, ground := Ground.phase }, { on := 20, ground := Ground.phase }, { on := 21, ground := Ground.phase }, { on := 22, ground := Ground.phase }], guard := none }) (v := ?_) rfl (by kernel_rfl) (by kernel_rfl) (by kernel_rfl) (fun _ _ _ h => h) (Or.inl ⟨by rfl, ?hyb28⟩) ?restb28
          case hyb28 =>
            intro w hSw
            go_simp
            try with_reducible rfl
          try simp only [Act.put, List.setIfInBounds_toArray, List.set_cons_zero, List.set_cons_succ]
          refine wpAnyT_done (by kernel_rfl) ?_ _
          have hg9b := Lib.hid hg9
          have hd9b := Lib.hid hd9
          have hr9 : w9.rangeAt w5.heap.size 0 (dc rt) := fun j v hj => by rw [Nat.zero_add, cell_of_row _ _ _ _ _ _ hd9]; simpa [dg] using hj
          have hB9 := (hW5.trans (HB.mono hW5.size)).grown hg9 (hW5.trans (HB.mono hW5.size)).size (fun j e => by have := Option.some.inj e; have := hW5.size; omega)
          have hR9 : w9.rangeAt w.heap.size 3 (dc s.root) := range_kept (hS.out _ HB).1.2.2.2 hg9 (fun e => by have := Option.some.inj e; have := hsz3.out; have := hb5'.size; omega)
          replace hr9 := Lib.hid hr9
          replace hR9 := Lib.hid hR9
          clear hd9 hg9 hz hz9
          cases hE : decide (er = 0) with
          | true =>
            have e0 : (er == 0) = true := by simpa using hE
            go_wp2_with (first
              | (refine wpList_load_midG (by rfl) 23 (.tmp 6) (by rfl) w5.heap.size 0 (by rfl) (dc rt) _ hr9.out Tryd.underlying23 (by rfl) pr1.out ?_)
              | (refine wpList_load_midG (by rfl) 23 (.tmp 56) (by rfl) w.heap.size 3 (by rfl) (dc s.root) _ hR9.out Tryd.underlying23 (by rfl) psr1.out ?_))
            go_ret
            exact ⟨by rw [hfin.out, hE, Bool.true_and]; rfl, hB9⟩
          | false =>
            have e0 : (er == 0) = false := by simpa using hE
            go_wp2_with fail
            go_ret
            exact ⟨by rw [hfin.out, hE, Bool.false_and]; rfl, hB9⟩
      · have c3 : salB o.salt = false := by simpa using c3
        go_enter Tryd.func23, Tryd.ntmps23
        go_wp2_with fail
        generalize ((w.alloc (.cells (slC s).toArray 25)).alloc (.cells #[.int .i64 o.day, .int .i64 o.salt, .bool o.bl, .slice P k cp] 33)).alloc (.cells #[.int .i64 s.t, .int .i64 s.f, .int .i64 s.m] 69) = W3 at *
        refine (valid_any8 _ _ _ _).mono ?_
        rintro e w4 ⟨rfl, hb4⟩
        obtain ⟨⟨p1, p2, p3, p4⟩, ⟨q1, q2, q3, q4⟩, ⟨r1, r2, r3⟩⟩ := hA.out w4 hb4
        have hW4 := hB39.out.trans (hb4.mono hB39.out.size)
        rw [c1]
        go_wp2_with fail
        refine (has_any _ _ _ _ i1 hod.2 _).mono ?_
        rintro e w5 ⟨rfl, hb5⟩
        have hb5' := hb4.trans (hb5.mono hb4.size)
        clear p1 p2 p3 p4 q1 q2 q3 q4 r1 r2 r3
        obtain ⟨⟨p1, p2, p3, p4⟩, ⟨q1, q2, q3, q4⟩, ⟨r1, r2, r3⟩⟩ := hA.out w5 hb5'
        have hW5 := hW4.trans (hb5.mono hW4.size)
        rw [c2]
        go_wp2_with fail
        refine (salt_any _ _).mono ?_
        rintro e w6 ⟨rfl, hw6⟩
        have hw6b := hw6.symm
        clear hw6
        subst hw6b
        rw [c3]
        go_wp2_with fail
        go_ret
        exact ⟨by rw [hchk.out, c1, c2, c3]; rfl, hW5⟩
    · have c2 : hasB s.f s.m o.day = false := by simpa using c2
      go_enter Tryd.func23, Tryd.ntmps23
      go_wp2_with fail
      generalize ((w.alloc (.cells (slC s).toArray 25)).alloc (.cells #[.int .i64 o.day, .int .i64 o.salt, .bool o.bl, .slice P k cp] 33)).alloc (.cells #[.int .i64 s.t, .int .i64 s.f, .int .i64 s.m] 69) = W3 at *
      refine (valid_any8 _ _ _ _).mono ?_
      rintro e w4 ⟨rfl, hb4⟩
      obtain ⟨⟨p1, p2, p3, p4⟩, ⟨q1, q2, q3, q4⟩, ⟨r1, r2, r3⟩⟩ := hA.out w4 hb4
      have hW4 := hB39.out.trans (hb4.mono hB39.out.size)
      rw [c1]
      go_wp2_with fail
      refine (has_any _ _ _ _ i1 hod.2 _).mono ?_
      rintro e w5 ⟨rfl, hb5⟩
      have hb5' := hb4.trans (hb5.mono hb4.size)
      clear p1 p2 p3 p4 q1 q2 q3 q4 r1 r2 r3
      obtain ⟨⟨p1, p2, p3, p4⟩, ⟨q1, q2, q3, q4⟩, ⟨r1, r2, r3⟩⟩ := hA.out w5 hb5'
      have hW5 := hW4.trans (hb5.mono hW4.size)
      rw [c2]
      go_wp2_with fail
      go_ret
      exact ⟨by rw [hchk.out, c1, c2]; rfl, hW5⟩
  · have c1 : dayB s.t s.f s.m = false := by simpa using c1
    go_enter Tryd.func23, Tryd.ntmps23
    go_wp2_with fail
    generalize ((w.alloc (.cells (slC s).toArray 25)).alloc (.cells #[.int .i64 o.day, .int .i64 o.salt, .bool o.bl, .slice P k cp] 33)).alloc (.cells #[.int .i64 s.t, .int .i64 s.f, .int .i64 s.m] 69) = W3 at *
    refine (valid_any8 _ _ _ _).mono ?_
    rintro e w4 ⟨rfl, hb4⟩
    obtain ⟨⟨p1, p2, p3, p4⟩, ⟨q1, q2, q3, q4⟩, ⟨r1, r2, r3⟩⟩ := hA.out w4 hb4
    have hW4 := hB39.out.trans (hb4.mono hB39.out.size)
    rw [c1]
    go_wp2_with fail
    go_ret
    exact ⟨by rw [hchk.out, c1]; rfl, hW4⟩
end Go.Proofs.YtnccbhndlnkboaaDoor
