/- The walk of the closure of merkle.climb that adds a text. -/
import Derived.Test.YtnccbhndlnkboaaDoorMSteps
import Derived.Test.YtnccbhndlnkboaaDoorTs
import Derived.Test.YtnccbhndlnkboaaDoorMoreA
import Derived.Test.YtnccbhndlnkboaaDoorMProve
namespace Go.Proofs.YtnccbhndlnkboaaDoor
open Go.RowKit Go.Shelf Cdc Sha
set_option linter.unusedVariables false
set_option linter.unusedSimpArgs false

/-- a way in its cell: rows of digests and of texts -/
structure WayAt (w0 W : World) (B : Nat) (D T : Value) (ds xs : List (List UInt8)) (ts : List Value) (X : List (Option Nat)) : Prop where
  cell : W.heap[B]? = some (.cells #[D, T] 89 (0, 0))
  row : RowD W w0.heap.size D ds
  d32 : ∀ d ∈ ds, d.length = 32
  rowT : RowT W w0.heap.size T ts
  lt : ts.length = ds.length
  lx : xs.length = ds.length
  tx : ∀ (i : Nat) (v : Value) (x : List UInt8), ts[i]? = some v → xs[i]? = some x → TxA W (D.ownBlock :: T.ownBlock :: some B :: X) v x
def wyOwn (B : Nat) (D T : Value) (k : Nat) : Prop := k = B ∨ D.ownBlock = some k ∨ T.ownBlock = some k

theorem way_cells {W : World} {B : Nat} {D T : Value} (h : W.heap[B]? = some (.cells #[D, T] 89 (0, 0))) : W.cell? ⟨B, 0, none⟩ = some D ∧ W.cell? ⟨B, 1, none⟩ = some T ∧ W.frozen? ⟨B, 0, none⟩ = false ∧ W.frozen? ⟨B, 1, none⟩ = false := by
  refine ⟨?_, ?_, ?_, ?_⟩
  · rw [cell_of_row _ _ _ _ _ _ h]; rfl
  · rw [cell_of_row _ _ _ _ _ _ h]; rfl
  · simp [World.frozen?, h]
  · simp [World.frozen?, h]
theorem way_set0 {W : World} {B : Nat} {D T : Value} (v : Value) (h : W.heap[B]? = some (.cells #[D, T] 89 (0, 0))) : (W.setCell ⟨B, 0, none⟩ v).heap[B]? = some (.cells #[v, T] 89 (0, 0)) := heap_setCell_same W B 0 _ _ v h
theorem way_set1 {W : World} {B : Nat} {D T : Value} (v : Value) (h : W.heap[B]? = some (.cells #[D, T] 89 (0, 0))) : (W.setCell ⟨B, 1, none⟩ v).heap[B]? = some (.cells #[D, v] 89 (0, 0)) := heap_setCell_same W B 1 _ _ v h
theorem RowD.neT {W : World} {b b' g : Nat} {D : Value} {ds : List (List UInt8)} (h : RowD W b D ds) {cs : Array Value} {ty : TypeId} {fr : Nat × Nat} (hB : W.heap[g]? = some (.cells cs ty fr)) (hne : ty ≠ 23) : D.ownBlock ≠ some g := fun e => by
  obtain ⟨cs', h'⟩ := h.at e
  rw [hB] at h'
  injection Option.some.inj h' with h1 h2 h3
  exact hne h2
theorem RowT.neT {W : World} {b g : Nat} {D : Value} {ts : List Value} (h : RowT W b D ts) {cs : Array Value} {ty : TypeId} {fr : Nat × Nat} (hB : W.heap[g]? = some (.cells cs ty fr)) (hne : ty ≠ 48) : D.ownBlock ≠ some g := fun e => by
  obtain ⟨cs', h'⟩ := h.at e
  rw [hB] at h'
  injection Option.some.inj h' with h1 h2 h3
  exact hne h2

set_option maxRecDepth 100000 in
set_option maxHeartbeats 2000000 in
theorem add_any (w0 W : World) (B : Nat) (D T : Value) (ds xs : List (List UInt8)) (ts : List Value) (X : List (Option Nat)) (hX : ∀ k, some k ∈ X → k < W.heap.size) (t : List UInt8) (n : Nat) (A : Option Addr) (c : Nat) (hW : WayAt w0 W B D T ds xs ts X) (hn : t.length = n) (hsm : n ≤ 1000000000) (ht : TxA W (D.ownBlock :: T.ownBlock :: some B :: X) (.slice A n c) t) (hdl : ds.length ≤ 1000000) (hL : Laid w0) (hbW : Below w0.heap.size w0 W) (hB0 : w0.heap.size ≤ B) :
    Calls Tryd.prog 73 #[.slice A n c, .pointer (some ⟨B, 0, none⟩)] W fun e W' => e = .returned (.tuple #[]) ∧ ∃ D' T' : Value, WayAt w0 W' B D' T' (ds ++ [sha t]) (xs ++ [t]) (ts ++ [.slice A n c]) X ∧ Only (wyOwn B D T) W W' ∧ (∀ k, D'.ownBlock = some k → D.ownBlock = some k ∨ W.heap.size ≤ k) ∧ (∀ k, T'.ownBlock = some k → T.ownBlock = some k ∨ W.heap.size ≤ k) := by
  obtain ⟨hcell, hrow, h32, hrowT, hlt, hlx, htx⟩ := hW
  have hBlt : B < W.heap.size := (Array.getElem?_eq_some_iff.1 hcell).1
  have hneD : D.ownBlock ≠ some B := hrow.neT (b' := 0) hcell (by decide)
  have hneT : T.ownBlock ≠ some B := hrowT.neT hcell (by decide)
  have hDT : ∀ g, D.ownBlock = some g → T.ownBlock ≠ some g := fun g e => by
    obtain ⟨cs, h⟩ := hrow.at e
    exact hrowT.neT h (by decide)
  have hxlen : n ≤ c ∧ c ≤ 9223372036854775807 := by obtain ⟨A', c', e, h1, h2, _⟩ := ht; injection e with e1 e2 e3; subst e1 e3; exact ⟨by omega, h2⟩
  have hat : AtO W A t := by obtain ⟨A', c', e, h1, h2, h3, _⟩ := ht; injection e with e1 e2 e3; subst e1 e3; exact h3
  obtain ⟨c0, c1, f0, f1⟩ := way_cells hcell
  have hBa : Below W.heap.size W (W.alloc (.cells #[.slice A n c] 48)) := (Below.refl _ _).alloc (Nat.le_refl _) _
  have hca : (W.alloc (.cells #[.slice A n c] 48)).cell? ⟨W.heap.size, 0, none⟩ = some (.slice A n c) := by rw [cell_of_row _ _ _ _ _ _ (heap_alloc_new W _)]; rfl
  have htl : ts.length ≤ 1000000 := by omega
  have hbase : w0.heap.size ≤ W.heap.size := hbW.size
  have hs9 := sha_len t
  obtain ⟨N, hN⟩ : ∃ N, N = (D.ownBlock :: T.ownBlock :: some B :: X) := ⟨_, rfl⟩
  rw [← hN] at ht htx
  replace hn := Lib.hid hn
  replace htx := Lib.hid htx
  replace ht := Lib.hid ht
  replace hat := Lib.hid hat
  replace hL := Lib.hid hL
  replace h32 := Lib.hid h32
  go_enter Tryd.func73, Tryd.ntmps73
  go_wp2_with (refine wpList_appT _ (by rfl) (.tmp 4) (.tmp 6) (by rfl) w0.heap.size T ts W.heap.size n c A (by rfl) (by rfl) hca (hrowT.below hBa) htl (by simp; omega) ?_; intro rowT' W2 hrow2 hg2 hw2; obtain ⟨AT, cT, rfl, hcT, hoT, hreT⟩ := hrow2.form; have hcell2 := (hg2.block B (by simp; omega) (fun e => hneT e.symm)).trans ((Below.heap_alloc W _ B hBlt).trans hcell); obtain ⟨c20, c21, f20, f21⟩ := way_cells hcell2)
  have hlen2 : (ts ++ [Value.slice A n c]).length = ds.length + 1 := by simp [hlt]
  rw [hlen2] at hrow2 hcT hw2
  obtain ⟨T2, hT2⟩ : ∃ T2, Value.slice AT (ds.length + 1) cT = T2 := ⟨_, rfl⟩
  rw [hT2] at hrow2 hw2
  have hT2B : T2.ownBlock ≠ some B := hrow2.neT hcell2 (by decide)
  have hg3 : W2.grownBy (W2.setCell ⟨B, 1, none⟩ T2) (some B) := setCell_grown W2 B 1 T2
  have hcell3 := way_set1 T2 hcell2
  have hrowD2 : RowD W2 w0.heap.size D ds := (hrow.below hBa).keptG hg2 (fun g e h => hDT g e h)
  have hrow3 := hrowD2.keptG hg3 (fun g e h => by rw [← h] at e; exact hneD e)
  have hrowT3 : RowT (W2.setCell ⟨B, 1, none⟩ T2) w0.heap.size T2 (ts ++ [.slice A n c]) := hrow2.keptG hg3 (fun g e h => by rw [← h] at e; exact hT2B e)
  have hat3 : AtO (W2.setCell ⟨B, 1, none⟩ T2) A t ∧ ∀ N', (∀ g, some g ∈ N' → some g ∈ (D.ownBlock :: T2.ownBlock :: some B :: X) ∨ W2.heap.size ≤ g) → TxA (W2.setCell ⟨B, 1, none⟩ T2) N' (.slice A n c) t ∧ ∀ (i : Nat) (v : Value) (x : List UInt8), ts[i]? = some v → xs[i]? = some x → TxA (W2.setCell ⟨B, 1, none⟩ T2) N' v x := by
    have k1 : ∀ v x, TxA W N v x → TxA (W.alloc (.cells #[.slice A n c] 48)) N v x := fun v x h => h.kept (World.grownBy_alloc W _ none) (.inl rfl) (fun g h => .inl h)
    have k2 : ∀ v x, TxA W N v x → TxA W2 (D.ownBlock :: T2.ownBlock :: some B :: X) v x := fun v x h => (k1 v x h).kept hg2 (by rw [hN]; cases T.ownBlock <;> simp) (fun g hm => by
      rw [hN]
      simp only [List.mem_cons] at hm ⊢
      rcases hm with h | h | h | h
      · exact .inl (.inl h)
      · rcases hw2 with e | e
        · exact .inl (.inr (.inl (h.trans e)))
        · rw [e] at h; injection h with h; subst h; exact .inr (by simp)
      · exact .inl (.inr (.inr (.inl h)))
      · exact .inl (.inr (.inr (.inr h))))
    have k3 : ∀ v x, TxA W N v x → ∀ N', (∀ g, some g ∈ N' → some g ∈ (D.ownBlock :: T2.ownBlock :: some B :: X) ∨ W2.heap.size ≤ g) → TxA (W2.setCell ⟨B, 1, none⟩ T2) N' v x := fun v x h N' hN' => (k2 v x h).kept hg3 (by simp) hN'
    refine ⟨?_, fun N' hN' => ⟨k3 _ _ ht.out N' hN', fun i v x h1 h2 => k3 _ _ (htx.out i v x h1 h2) N' hN'⟩⟩
    obtain ⟨A', c', e, _, _, h3, _⟩ := k3 _ _ ht.out [] (fun g hm => by cases hm)
    injection e with e1 e2 e3
    subst e1
    exact h3
  have hon3 : Only (wyOwn B D T) W (W2.setCell ⟨B, 1, none⟩ T2) := by
    refine ⟨hg2.os, hg2.tape, hg2.output, by have := hg2.size; have := hg3.size; simp at *; omega, fun k hk hno => ?_⟩
    rw [heap_setCell_other W2 ⟨B, 1, none⟩ k _ (fun e => hno (.inl e))]
    refine (hg2.block k (by simp; omega) (fun e => hno (.inr (.inr e.symm)))).trans (Below.heap_alloc W _ k hk)
  have hs3 : W.heap.size ≤ (W2.setCell ⟨B, 1, none⟩ T2).heap.size := hon3.size
  have hs23 : (W2.setCell ⟨B, 1, none⟩ T2).heap.size = W2.heap.size := by simp [World.setCell]
  have hw2' : ∀ k, T2.ownBlock = some k → T.ownBlock = some k ∨ W.heap.size ≤ k := fun k e => by
    rcases hw2 with h | h
    · exact .inl (h ▸ e)
    · rw [h] at e; injection e with e; subst e; exact .inr (by simp)
  have hbW3 : Below w0.heap.size w0 (W2.setCell ⟨B, 1, none⟩ T2) := ((hbW.trans (hBa.mono hbase)).grown hg2 (by simp; omega) (fun k e => by have := (hrowT.high e).1; omega)).setCell (p := ⟨B, 1, none⟩) hB0 _
  rw [hT2]
  replace hT2 := Lib.hid hT2
  clear c20 c21 f20 f21 hcell2 hrow2 hg3 hg2 hrowD2 hoT hreT hca hBa hrow hrowT c0 c1 f0 f1 hcell htx ht hat
  rw [← hs23] at hat3
  generalize W2.setCell ⟨B, 1, none⟩ T2 = W3 at *
  have hlt3 : B < W3.heap.size := (Array.getElem?_eq_some_iff.1 hcell3).1
  have hB3 := Lib.hid hcell3
  have hS : Hid (∀ V, Below W3.heap.size W3 V → V.cell? ⟨B, 0, none⟩ = some D) := Lib.hid fun V hV => (way_cells ((hV.block B hlt3).trans hB3.out)).1
  have hZ : Hid (∀ V, Below W3.heap.size W3 V → Calls Tryd.prog 74 #[.slice A n c] V fun e w' => e = .returned (.agg (dc (sha t)).toArray) ∧ Below V.heap.size V w') := Lib.hid fun V hV => sum_dg t n hn.out (by omega) A c hxlen.1 hxlen.2 V (hat3.1.below hV) (hL.out.below (hbW3.trans (hV.mono hbW3.size)))
  have hbu := Lib.hid (builtSlice_d1 (sha t) hs9)
  have hD1 : Hid (∀ x ∈ [sha t], x.length = 32) := Lib.hid (fun x hx => by simp at hx; subst hx; exact hs9)
  have hall : Hid (∀ x ∈ ds ++ [sha t], x.length = 32) := Lib.hid (fun x hx => by
    rcases List.mem_append.1 hx with h | h
    · exact h32.out x h
    · exact hD1.out x h)
  have hn6 : Hid ((ds ++ [sha t]).length = ds.length + 1) := Lib.hid (by simp)
  obtain ⟨d, hd⟩ : ∃ d, sha t = d := ⟨_, rfl⟩
  rw [hd] at hZ hbu hD1 hall hn6 hs9
  have hd9 := Lib.hid hd
  have HB : Below W3.heap.size W3 W3.drew := (Below.refl _ _).drew
  have hs0 := hbW3.size
  replace hat3 := Lib.hid hat3
  replace hw2' := Lib.hid hw2'
  clear hd hw2 hcell3
  go_wp2_with fail
  refine wp_region_T 6 (fun w' => w'.cell? ⟨B, 0, none⟩ = some D) (by kernel_rfl) (by exact hS.out _ HB) (fun hHeld => ?_)
  refine wpAnyT_take (i := 0) (oi := { dst := some 9, op := Op.fieldAddr 89 (Operand.tmp 1) 0, type := 0, pos := "merkle.go:95", after := #[], guard := none }) (v := ?_) rfl (by kernel_rfl) (by kernel_rfl) (by kernel_rfl) (by kernel_rfl) (fun _ _ _ h => h) (Or.inl ⟨by rfl, ?hy0⟩) hHeld ?rest0
  case hy0 =>
    intro w hSw
    try dsimp only at hSw
    go_simp
    try with_reducible rfl
  try simp only [Act.put, List.setIfInBounds_toArray, List.set_cons_zero, List.set_cons_succ]
  refine wpAnyT_take (i := 1) (oi := { dst := some 10, op := Op.load 31 (Operand.tmp 9), type := 31, pos := "merkle.go:95", after := #[{ on := 0, ground := Ground.data }], guard := none }) (v := ?_) rfl (by kernel_rfl) (by kernel_rfl) (by kernel_rfl) (by kernel_rfl) (fun _ _ _ h => h) (Or.inl ⟨by rfl, ?hy1⟩) hHeld ?rest1
  case hy1 =>
    intro w hSw
    try dsimp only at hSw
    go_simp
    try with_reducible rfl
  try simp only [Act.put, List.setIfInBounds_toArray, List.set_cons_zero, List.set_cons_succ]
  refine wpAnyT_take (i := 2) (oi := { dst := some 11, op := Op.move (Operand.tmp 0), type := 48, pos := "merkle.go:95", after := #[], guard := none }) (v := ?_) rfl (by kernel_rfl) (by kernel_rfl) (by kernel_rfl) (by kernel_rfl) (fun _ _ _ h => h) (Or.inl ⟨by rfl, ?hy2⟩) hHeld ?rest2
  case hy2 =>
    intro w hSw
    try dsimp only at hSw
    go_simp
    try with_reducible rfl
  try simp only [Act.put, List.setIfInBounds_toArray, List.set_cons_zero, List.set_cons_succ]
  refine wpAnyT_one (i := 3) (o := { dst := some 12, op := Op.call { callee := Callee.value (Operand.func 74), args := #[Operand.tmp 11], argTypes := #[48] }, type := 23, pos := "merkle.go:95", after := #[{ on := 2, ground := Ground.data }], guard := none }) (by kernel_rfl) rfl (fun K hK => ?_)
  go_simp
  go_at_call 74
  refine (hZ.out _ HB).mono ?_
  rintro e w4 ⟨rfl, hb⟩
  replace HB := HB.trans (hb.mono HB.size)
  clear hb
  refine hK.out _ _ (by exact hS.out _ HB) (fun hHeld' => ?_)
  clear hK K hHeld
  have hHeld := hHeld'
  clear hHeld'
  try simp only [Act.put, List.setIfInBounds_toArray, List.set_cons_zero, List.set_cons_succ]
  refine wpAnyT_one (i := 4) (o := { dst := some 13, op := Op.buildSlice 31 1 #[(0, Operand.tmp 12)], type := 31, pos := "merkle.go:95", after := #[{ on := 3, ground := Ground.data }], guard := none }) (by kernel_rfl) rfl (fun K hK => ?_)
  refine step_built (by rfl) 31 23 1 #[(0, .tmp 12)] (by rfl) Tryd.underlying31 (dc d).toArray (by simp only [List.map_toArray, List.map_cons, List.map_nil]; exact hbu.out) ?_
  have HB9 := HB.alloc HB.size (.cells (dc d).toArray 23)
  have hrow9 := hrow3.below HB9
  have hat9 := dsAt_row (l := [d]) hD1.out (heap_alloc_new w4 (.cells (dc d).toArray 23)) (by simp [dsC])
  refine hK.out _ _ (by exact hS.out _ HB9) (fun hHeld' => ?_)
  clear hK K hHeld
  have hHeld := hHeld'
  clear hHeld'
  try simp only [Act.put, List.setIfInBounds_toArray, List.set_cons_zero, List.set_cons_succ]
  refine wpAnyT_one (i := 5) (o := { dst := some 14, op := Op.call { callee := Callee.builtin Builtin.append, args := #[Operand.tmp 10, Operand.tmp 13], argTypes := #[31, 31] }, type := 31, pos := "merkle.go:95", after := #[{ on := 1, ground := Ground.data }, { on := 4, ground := Ground.data }, { on := 3, ground := Ground.chain }], guard := none }) (by kernel_rfl) rfl (fun K hK => ?_)
  refine step_appD5 _ (by rfl) (.tmp 10) (.tmp 13) (by rfl) w0.heap.size D ds [d] (some ⟨w4.heap.size, 0, none⟩) 1 1 (by rfl) (by rfl) (by rfl) hat9 hrow9 hD1.out hdl (by decide) (by have := HB9.size; omega) ?_
  intro row' w6 hrow6 hg6 hw6
  obtain ⟨A6, c6, rfl, hcl6, hds6⟩ := hrow6.ds hall.out
  rw [hn6.out] at hrow6 hcl6 hw6
  have hb6 := (hg6.block B (by have := HB9.size; omega) (fun e => hneD e.symm)).trans ((HB9.block B hlt3).trans hB3.out)
  have hc6 := way_cells hb6
  refine hK.out _ _ (by exact hc6.1) (fun hHeld' => ?_)
  clear hK K hHeld
  have hHeld := hHeld'
  clear hHeld'
  try simp only [Act.put, List.setIfInBounds_toArray, List.set_cons_zero, List.set_cons_succ]
  refine wpAnyT_tail (i := 6) (o := { dst := some 15, op := Op.fieldAddr 89 (Operand.tmp 1) 0, type := 0, pos := "merkle.go:95", after := #[{ on := 0, ground := Ground.phase }, { on := 1, ground := Ground.phase }, { on := 2, ground := Ground.phase }, { on := 3, ground := Ground.phase }, { on := 4, ground := Ground.phase }, { on := 5, ground := Ground.phase }], guard := none }) (by kernel_rfl) rfl (by rfl) (fun K hK => ?_)
  go_simp
  refine hK.out _ _ ?_
  clear hK K
  try simp only [Act.put, List.setIfInBounds_toArray, List.set_cons_zero, List.set_cons_succ]
  refine wpAnyT_tail (i := 7) (o := { dst := none, op := Op.store 31 (Operand.tmp 15) (Operand.tmp 14), type := 0, pos := "merkle.go:95", after := #[{ on := 6, ground := Ground.data }, { on := 5, ground := Ground.data }, { on := 5, ground := Ground.chain }, { on := 0, ground := Ground.phase }, { on := 1, ground := Ground.phase }, { on := 2, ground := Ground.phase }, { on := 3, ground := Ground.phase }, { on := 4, ground := Ground.phase }, { on := 5, ground := Ground.phase }], guard := none }) (by kernel_rfl) rfl (by rfl) (fun K hK => ?_)
  obtain ⟨hc60, hc61, hf60, hf61⟩ := hc6
  go_simp
  refine hK.out _ _ ?_
  clear hK K
  try simp only [Act.put, List.setIfInBounds_toArray, List.set_cons_zero, List.set_cons_succ]
  refine wpAnyT_done (by kernel_rfl) ?_ _
  go_wp2_with fail
  go_end0
  obtain ⟨D6, hD6⟩ : ∃ D6, Value.slice A6 (ds.length + 1) c6 = D6 := ⟨_, rfl⟩
  rw [hD6] at hrow6 hw6 ⊢
  have hg7 : w6.grownBy (w6.setCell ⟨B, 0, none⟩ D6) (some B) := setCell_grown w6 B 0 D6
  have hD6B : D6.ownBlock ≠ some B := hrow6.neT (b' := 0) hb6 (by decide)
  have hTD : ∀ g, T2.ownBlock = some g → D.ownBlock ≠ some g := fun g e => by
    obtain ⟨cs, h⟩ := hrowT3.at e
    exact hrow3.neT (b' := 0) h (by decide)
  have hs6 := hg6.size
  have hs9' := HB9.size
  have hrT6 : RowT w6 w0.heap.size T2 (ts ++ [.slice A n c]) := (hrowT3.below HB9).keptG hg6 (fun g e h => hTD g e h)
  have hwD : ∀ k, D6.ownBlock = some k → D.ownBlock = some k ∨ W3.heap.size ≤ k := fun k e => by
    rcases hw6 with h | h
    · exact .inl (h ▸ e)
    · rw [h] at e; injection e with e; subst e; exact .inr hs9'
  have htx7 : ∀ v x, (∀ N', (∀ g, some g ∈ N' → some g ∈ (D.ownBlock :: T2.ownBlock :: some B :: X) ∨ W3.heap.size ≤ g) → TxA W3 N' v x) → TxA (w6.setCell ⟨B, 0, none⟩ D6) (D6.ownBlock :: T2.ownBlock :: some B :: X) v x := fun v x h => by
    have k1 : TxA (w4.alloc (.cells (dc d).toArray 23)) (D.ownBlock :: T2.ownBlock :: some B :: X) v x := (h (D.ownBlock :: T2.ownBlock :: some B :: X) (fun g hm => .inl hm)).kept (grown_below HB9) (.inl rfl) (fun g hm => .inl hm)
    have k2 : TxA w6 (D6.ownBlock :: T2.ownBlock :: some B :: X) v x := k1.kept hg6 (by cases D.ownBlock <;> simp) (fun g hm => by
      simp only [List.mem_cons] at hm ⊢
      rcases hm with h | h | h | h
      · rcases hw6 with e | e
        · exact .inl (.inl (h.trans e))
        · rw [e] at h; injection h with h; subst h; exact .inr (Nat.le_refl _)
      · exact .inl (.inr (.inl h))
      · exact .inl (.inr (.inr (.inl h)))
      · exact .inl (.inr (.inr (.inr h))))
    exact k2.kept hg7 (by simp) (fun g hm => .inl hm)
  refine ⟨rfl, D6, T2, ⟨way_set0 D6 hb6, (by rw [hd9.out]; exact hrow6.keptG hg7 (fun g e h => by rw [← h] at e; exact hD6B e)), ?_, hrT6.keptG hg7 (fun g e h => by rw [← h] at e; exact hT2B e), by simp [hlt], by simp [hlx], ?_⟩, ?_, ?_, ?_⟩
  · rw [hd9.out]; exact hall.out
  · intro i v x hv hx
    by_cases hi : i < ts.length
    · rw [List.getElem?_append_left hi] at hv
      rw [List.getElem?_append_left (by omega)] at hx
      exact htx7 v x fun N' hN' => (hat3.out.2 N' hN').2 i v x hv hx
    · have hi2 : i = ts.length := by
        have := (List.getElem?_eq_some_iff.1 hv).1
        simp at this; omega
      subst hi2
      rw [List.getElem?_append_right (Nat.le_refl _), Nat.sub_self] at hv
      rw [List.getElem?_append_right (by omega), show ts.length - xs.length = 0 by omega] at hx
      obtain rfl := Option.some.inj hv
      obtain rfl := Option.some.inj hx
      exact htx7 _ _ fun N' hN' => (hat3.out.2 N' hN').1
  · refine ⟨(hg6.os.trans HB9.os).trans hon3.os, (hg6.tape.trans HB9.tape).trans hon3.tape, (hg6.output.trans HB9.output).trans hon3.output, by simp [World.setCell]; omega, fun k hk hno => ?_⟩
    rw [heap_setCell_other w6 ⟨B, 0, none⟩ k _ (fun e => hno (.inl e))]
    exact (hg6.block k (by omega) (fun e => hno (.inr (.inl e.symm)))).trans ((HB9.block k (by omega)).trans (hon3.block k hk hno))
  · exact fun k e => by
      rcases hwD k e with h | h
      · exact .inl h
      · exact .inr (by omega)
  · exact hw2'.out
end Go.Proofs.YtnccbhndlnkboaaDoor
