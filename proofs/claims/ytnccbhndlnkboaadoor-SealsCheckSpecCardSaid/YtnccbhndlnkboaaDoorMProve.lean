/- The walk of merkle.Prove. -/
import Derived.Test.YtnccbhndlnkboaaDoorMRoot
import Derived.Test.YtnccbhndlnkboaaDoorRoundH
import Derived.Test.YtnccbhndlnkboaaDoorMoreA
namespace Go.Proofs.YtnccbhndlnkboaaDoor
open Go.RowKit Go.Shelf Cdc Sha
set_option linter.unusedVariables false
set_option linter.unusedSimpArgs false
attribute [local go_sem] Oper.semAt_some

theorem pathF_snoc : ∀ (xs : List (List (List UInt8))) (x : List (List UInt8)) (i : Nat), pathF (xs ++ [x]) i = pathF xs i ++ x[xr (i / 2 ^ xs.length)]?.toList
  | [], x, i => by simp [pathF]
  | r :: xs, x, i => by
    rw [List.cons_append, pathF, pathF, pathF_snoc xs x (i / 2), List.append_assoc, List.length_cons, Nat.pow_succ', Nat.div_div_eq_div_mul]
theorem pathF_all (xs : List (List (List UInt8))) (h : ∀ r ∈ xs, ∀ d ∈ r, d.length = 32) (i : Nat) : ∀ d ∈ pathF xs i, d.length = 32 := by
  induction xs generalizing i with
  | nil => intro d hd; cases hd
  | cons r xs ih =>
    intro d hd
    rcases List.mem_append.1 hd with hd | hd
    · cases hx : r[xr i]? with
      | none => rw [hx] at hd; simp at hd
      | some x => rw [hx] at hd; simp at hd; subst hd; exact h r (by simp) _ (List.mem_of_getElem? hx)
    · exact ih (fun r hr => h r (by simp [hr])) (i / 2) d hd
theorem pathF_len (xs : List (List (List UInt8))) (i : Nat) : (pathF xs i).length ≤ xs.length := by
  induction xs generalizing i with
  | nil => simp [pathF]
  | cons r xs ih =>
    rw [pathF, List.length_append, List.length_cons]
    have := ih (i / 2)
    have : (r[xr i]?.toList).length ≤ 1 := by cases r[xr i]? <;> simp
    omega
theorem rows_len : ∀ (n : Nat) (r : List (List UInt8)), r.length = n → (rowsM r).length ≤ n + 1 := by
  intro n
  induction n using Nat.strongRecOn with
  | ind n ih =>
    intro r hn
    by_cases h : 1 < r.length
    · rw [rowsM_big h, List.length_cons]
      have := ih (up r).length (by rw [up_len]; omega) (up r) rfl
      have := up_len r
      omega
    · rw [rowsM_one h]; simp

/-- what holds ahead of a round of Prove -/
def PvI (w : World) (i m : Nat) (pre : List Rw) (W : World) : Prop :=
  ∃ (row : Value), Boxed W w.heap.size 3 (.int .i64 ((i / 2 ^ pre.length : Nat) : Int)) ∧ Boxed W (w.heap.size + 1) 31 row ∧ RowD W (w.heap.size + 3) row (pathF (pre.map (·.1)) i) ∧ (∀ r ∈ pre.map (·.1), ∀ d ∈ r, d.length = 32) ∧ pre.length ≤ m + 1 ∧ Below w.heap.size w W ∧ w.heap.size + 3 ≤ W.heap.size
theorem boxed_below {W W' : World} {B : Nat} {t : TypeId} {v : Value} (h : Boxed W B t v) (hb : Below W.heap.size W W') : Boxed W' B t v := (hb.block B h.lt).trans h
theorem RowD.keptG {w w' : World} {b : Nat} {row : Value} {l : List (List UInt8)} {r : Option Nat} (h : RowD w b row l) (hg : w.grownBy w' r) (hne : ∀ g, row.ownBlock = some g → r ≠ some g) : RowD w' b row l := by
  rcases h.2 with h0 | ⟨g, cap, cur, rfl, hb, hh, h3, h4, h5, h6⟩
  · exact ⟨h.1, .inl h0⟩
  · exact ⟨h.1, .inr ⟨g, cap, cur, rfl, hb, (hg.block g (Array.getElem?_eq_some_iff.1 hh).1 (fun e => hne g rfl e.symm)).trans hh, h3, h4, h5, h6⟩⟩
theorem PvI.grown {w W W' : World} {i m : Nat} {pre : List Rw} {r : Option Nat} (h : PvI w i m pre W) (hg : W.grownBy W' r) (hr : ∀ k, r = some k → w.heap.size ≤ k ∧ ∃ o : Obj, W.heap[k]? = some o ∧ o.isCells = false) : PvI w i m pre W' := by
  obtain ⟨row, h1, h2, h3, h4, h5, h6, h7⟩ := h
  have ne : ∀ (k : Nat) (cs : Array Value) (t : TypeId) (fr : Nat × Nat), W.heap[k]? = some (.cells cs t fr) → r ≠ some k := fun k cs t fr hk e => by
    obtain ⟨_, o, ho, hc⟩ := hr k e
    rw [hk] at ho
    obtain rfl := Option.some.inj ho
    cases hc
  refine ⟨row, h1.kept hg (ne _ _ _ _ h1).symm, h2.kept hg (ne _ _ _ _ h2).symm, h3.keptG hg (fun g e => ?_), h4, h5, h6.grown hg h6.size (fun k e => (hr k e).1), Nat.le_trans h7 hg.size⟩
  rcases h3.2 with ⟨rfl, _⟩ | ⟨g', cap, cur, rfl, hb, hh, _⟩
  · cases e
  · obtain rfl : g' = g := by injection e
    exact ne _ _ _ _ hh
theorem PvI.below {w W W' : World} {i m : Nat} {pre : List Rw} (h : PvI w i m pre W) (hb : Below W.heap.size W W') : PvI w i m pre W' := by
  obtain ⟨row, h1, h2, h3, h4, h5, h6, h7⟩ := h
  exact ⟨row, boxed_below h1 hb, boxed_below h2 hb, h3.below hb, h4, h5, h6.trans (hb.mono h6.size), Nat.le_trans h7 hb.size⟩
theorem RowD.cellsAt {w : World} {b g : Nat} {row : Value} {l : List (List UInt8)} (h : RowD w b row l) (e : row.ownBlock = some g) : ∃ cs t fr, w.heap[g]? = some (.cells cs t fr) := by
  rcases h.2 with ⟨rfl, _⟩ | ⟨g', cap, cur, rfl, hb, hh, _⟩
  · cases e
  · obtain rfl : g' = g := by injection e
    exact ⟨_, _, _, hh⟩
theorem RowD.keepC {A B : World} {b : Nat} {row : Value} {l : List (List UInt8)} (h : RowD A b row l) (hk : KeepC A B) : RowD B b row l := by
  rcases h.2 with h0 | ⟨g, cap, cur, rfl, hb, hh, h3⟩
  · exact ⟨h.1, .inl h0⟩
  · exact ⟨h.1, .inr ⟨g, cap, cur, rfl, hb, hk _ _ hh rfl, h3⟩⟩

set_option maxRecDepth 100000 in
set_option maxHeartbeats 4000000 in
/-- Prove: the path of a leaf -/
theorem mprove_any (ls : List (List UInt8)) (m i : Nat) (A : Option Addr) (c : Nat) (w : World) (hn : ls.length = m) (hi : i < m) (hm : m ≤ 1000) (hls : LvAt w A ls) (hsm : ∀ x ∈ ls, x.length ≤ 1000000) (hL : Laid w) :
    Calls Tryd.prog 40 #[.slice A m c, .int .i64 (i : Int)] w fun e w' => ∃ (A' : Option Addr) (c' : Nat), e = .returned (.tuple #[.slice A' (pathM (ls.map lfD) i).length c', .int .i64 0]) ∧ (pathM (ls.map lfD) i).length ≤ c' ∧ DsAt w' A' (pathM (ls.map lfD) i) ∧ Below w.heap.size w w' := by
  have hlen : (ls.map lfD).length = m := by rw [List.length_map, hn]
  have hpath := Lib.hid (pathF_rows m (ls.map lfD) i hlen hi)
  have hrl := rows_len m (ls.map lfD) hlen
  have hseq : Hid (∀ W1, Below w.heap.size w W1 → W1.cell? ⟨w.heap.size + 2, 0, none⟩ = some (.slice A m c) → SeqW Fence.wide 7 Tryd.prog 82 #[.pointer (some ⟨w.heap.size + 2, 0, none⟩)] rwEncs (RwNx (ls.map lfD)) (RwKp w.heap.size) (fun xs => xs.map (·.1) = rowsM (ls.map lfD)) (fun _ => True) W1) :=
    Lib.hid fun W1 hW hc => rows_seq 7 (by decide) ls m A c (w.heap.size + 2) w W1 hn (by omega) hm hls hsm hL hW hc
  clear hls hsm hL hlen hn
  obtain ⟨l, hl⟩ : ∃ l, ls.map lfD = l := ⟨_, rfl⟩
  rw [hl] at hseq hpath hrl ⊢
  clear hl
  have q0 : decide ((65536 : Int) < (m : Int)) = false := decide_eq_false (by omega)
  have q1 : decide ((i : Int) < 0) = false := decide_eq_false (by omega)
  have q2 : decide ((m : Int) ≤ (i : Int)) = false := decide_eq_false (by omega)
  refine (callsIn_wide (n := 8)).1 ?_
  refine callsIn_of_wp_marks Tryd.func40 rfl trivial ?_ rfl
  simp only [Tryd.ntmps40, List.size_toArray, List.length_cons, List.length_nil, Nat.reduceAdd, Nat.reduceSub, Array.replicate_succ, Array.replicate_zero, List.push_toArray, List.append_toArray, List.nil_append, List.cons_append]
  gi_wp2_with (first
    | (refine ⟨trivial, ?_⟩; gi_at_call 64; refine (callsIn_wide.2 (rows_any _ _ _ _)).mono ?_; rintro e w' ⟨rfl, rfl⟩))
  have hb0 : Boxed (((w.alloc (.cells #[.int .i64 (i : Int)] 3)).alloc (.cells #[.slice none 0 0] 31)).alloc (.cells #[.slice A m c] 75)) w.heap.size 3 (.int .i64 (i : Int)) := ((Boxed.new w 3 (.int .i64 (i : Int))).alloc _).alloc _
  have hb1 : Boxed (((w.alloc (.cells #[.int .i64 (i : Int)] 3)).alloc (.cells #[.slice none 0 0] 31)).alloc (.cells #[.slice A m c] 75)) (w.heap.size + 1) 31 (.slice none 0 0) := by
    have := (Boxed.new (w.alloc (.cells #[.int .i64 (i : Int)] 3)) 31 (.slice none 0 0)).alloc (.cells #[.slice A m c] 75)
    rwa [World.size_alloc] at this
  have hc1 : Boxed (((w.alloc (.cells #[.int .i64 (i : Int)] 3)).alloc (.cells #[.slice none 0 0] 31)).alloc (.cells #[.slice A m c] 75)) (w.heap.size + 2) 75 (.slice A m c) := by
    have := Boxed.new ((w.alloc (.cells #[.int .i64 (i : Int)] 3)).alloc (.cells #[.slice none 0 0] 31)) 75 (.slice A m c)
    rwa [World.size_alloc, World.size_alloc] at this
  have hB0 : Below w.heap.size w (((w.alloc (.cells #[.int .i64 (i : Int)] 3)).alloc (.cells #[.slice none 0 0] 31)).alloc (.cells #[.slice A m c] 75)) := (((Below.refl _ _).alloc (Nat.le_refl _) _).alloc (by simp) _).alloc (by simp; omega) _
  have hs1 : (((w.alloc (.cells #[.int .i64 (i : Int)] 3)).alloc (.cells #[.slice none 0 0] 31)).alloc (.cells #[.slice A m c] 75)).heap.size = w.heap.size + 3 := by simp
  generalize ((w.alloc (.cells #[.int .i64 (i : Int)] 3)).alloc (.cells #[.slice none 0 0] 31)).alloc (.cells #[.slice A m c] 75) = W0 at hb0 hb1 hc1 hB0 hs1 ⊢
  replace hc1 := hc1.cell
  refine wpIn_rangeFunc_stw (F := Fence.wide) (n := 8) rfl (by decide) (gf := 82) (lb := #[.pointer (some ⟨w.heap.size + 2, 0, none⟩)]) rfl trivial (enters_of Tryd.func82 (by kernel_rfl) rfl)
    (fun W1 hb1 _ => hseq.out W1 (hB0.trans (hb1.mono hB0.size)) ((hb1.cell (p := ⟨w.heap.size + 2, 0, none⟩) (by simp; omega)).trans hc1))
    (fun pre x B W l o o' hl hx hW ho => by
      obtain ⟨h1, h2, h3, h4, h5, h6, cs, ty, fr, h7⟩ := hx
      have hne : x.2.1 ≠ l := fun e => by rw [e, hW] at h7; obtain rfl := Option.some.inj h7; cases ho
      have hk : (W.putObj l o').heap[x.2.1]? = W.heap[x.2.1]? := World.putObj_heap_other hne
      exact ⟨h1, h2, h3, h4, h5.block hk, h6, cs, ty, fr, hk.trans h7⟩)
    (fun x A B C h k => ⟨h.1.trans k.1, fun o ho hc => k.2 o (h.2 o ho hc) hc⟩)
    (fun x W l o o' hl hW ho hwk => ⟨belowK_b (w := w) (Nat.le_refl _) W l o o' (by omega) hW ho hwk, fun o9 ho9 hc9 => by
      have hne : x.2.1 ≠ l := fun e => by rw [e, hW] at ho9; obtain rfl := Option.some.inj ho9; rw [ho] at hc9; cases hc9
      exact (World.putObj_heap_other hne).trans ho9⟩)
    (fun _ => rfl)
    (PvI w i m)
    (fun _ _ _ => False) ?hI ?hIx ?hIs ?hIxs ⟨_, by simpa using hb0, hb1, RowD.nil _ _, fun r hr => by simp at hr, by simp, hB0, by omega⟩
    (fun x => { tmps := #[.slice A m c, .int .i64 i, undef, .pointer (some ⟨w.heap.size, 0, none⟩), .pointer (some ⟨w.heap.size + 1, 0, none⟩), .int .i64 0, .slice (some ⟨x.2.1, 0, none⟩) x.1.length x.2.2, undef, .slice A m c, .int .i64 m, .bool false, .bool false, .int .i64 i, .bool false, .bool false, .bool false, .int .i64 i, .slice A m c, .int .i64 m, .bool false, .bool false, .slice A m c,
        .func (.func 82) #[] #[.pointer (some ⟨w.heap.size + 2, 0, none⟩)], .slice (some ⟨x.2.1, 0, none⟩) x.1.length x.2.2, undef, undef, undef, undef, undef, undef, undef, undef, undef, undef, undef, undef, undef, undef, undef, undef], defers := [] }) ?assign ?body ?done ?stop
  case hI => exact fun s A B row hs hg hr => hs.grown hg fun k e => ⟨by have := (hr k e).1; omega, (hr k e).2⟩
  case hIx => exact fun _ _ _ _ _ hs _ _ => hs
  case hIs => exact fun s A B hs h => hs.below h
  case hIxs => exact fun _ _ _ _ hs _ => hs
  case assign =>
    intro l x W K hK
    gi_wp2
    exact hK
  case body =>
    rintro l9 pre ⟨rw9, g, c4⟩ V W ⟨row, h1, h2, h3, h4, h5, h6, h7⟩ hPW hkc ⟨hx1, hx2, hne, hgB, hds, h32, cs, ty, fr, hh⟩ hsz
    dsimp only at hx2 hne hgB hds h32 hh hx1
    have hBW : Below w.heap.size w W := by obtain ⟨_, _, _, _, _, _, h, _⟩ := hPW; exact h
    have hsW : w.heap.size + 3 ≤ W.heap.size := by obtain ⟨_, _, _, _, _, _, _, h⟩ := hPW; exact h
    have hb0 : Boxed W w.heap.size 3 _ := hkc _ _ h1 rfl
    have hb1 : Boxed W (w.heap.size + 1) 31 row := hkc _ _ h2 rfl
    have hrow := h3.keepC hkc
    have hg9 : row.ownBlock ≠ some g := fun e => by have := (h3.high e).2; omega
    have hplen : pre.length < (rowsM l).length := (List.getElem?_eq_some_iff.1 hx1).1
    obtain ⟨i9, hi9⟩ : ∃ i9, i / 2 ^ pre.length = i9 := ⟨_, rfl⟩
    have hi9s : i9 ≤ 1000 := by rw [← hi9]; exact Nat.le_trans (Nat.div_le_self _ _) (by omega)
    have hnext : i / 2 ^ (pre ++ [(rw9, g, c4)]).length = i9 / 2 := by rw [List.length_append, List.length_singleton, Nat.pow_succ, ← Nat.div_div_eq_div_mul, hi9]
    have hsn := pathF_snoc (pre.map (·.1)) rw9 i
    rw [List.length_map, hi9] at hsn
    rw [hi9] at hb0
    have hxl : xr i9 ≤ i9 + 1 := by unfold xr; split <;> omega
    have hbx := bits_xr i9 (by omega)
    obtain ⟨acc, hacc9⟩ : ∃ acc, pathF (pre.map (·.1)) i = acc := ⟨_, rfl⟩
    have hal : acc.length ≤ pre.length := by rw [← hacc9]; have := pathF_len (pre.map (·.1)) i; rwa [List.length_map] at this
    have hacc : acc.length ≤ 1000000 := by omega
    have h4' : ∀ r ∈ (pre ++ [(rw9, g, c4)]).map (·.1), ∀ d ∈ r, d.length = 32 := by
      intro r hr
      rw [List.map_append, List.map_cons, List.map_nil] at hr
      rcases List.mem_append.1 hr with h | h
      · exact h4 r h
      · simp at h; subst h; exact h32
    rw [hacc9] at hrow hsn
    have hmap : (pre ++ [(rw9, g, c4)]).map (·.1) = pre.map (·.1) ++ [rw9] := by simp
    have hpl2 : (pre ++ [(rw9, g, c4)]).length ≤ m + 1 := by rw [List.length_append, List.length_singleton]; omega
    rw [← hmap] at hsn
    have hne1 : some (w.heap.size + 1) ≠ row.ownBlock := fun e => by have := (hrow.high e.symm).1; omega
    have hne0 : some w.heap.size ≠ row.ownBlock := fun e => by have := (hrow.high e.symm).1; omega
    have hgW : g < W.heap.size := (Array.getElem?_eq_some_iff.1 hh).1
    have c0 := hb0.cell
    have f0 := hb0.frozen
    replace hi9 := Lib.hid hi9
    replace hacc9 := Lib.hid hacc9
    replace hnext := Lib.hid hnext
    replace hsn := Lib.hid hsn
    replace h4' := Lib.hid h4'
    replace hpl2 := Lib.hid hpl2
    replace hh := Lib.hid hh
    clear h1 h2 h3 h4 hPW hx1 hplen hmap
    by_cases hlt : xr i9 < rw9.length
    · obtain ⟨d, hd⟩ : ∃ d, rw9[xr i9]? = some d := ⟨_, List.getElem?_eq_getElem hlt⟩
      have hdl := h32 d (List.mem_of_getElem? hd)
      obtain ⟨g', o', e', _, hr9⟩ := hds (xr i9) d hd
      obtain ⟨rfl, rfl⟩ : g = g' ∧ 0 = o' := by injection e' with h; injection h with h1 h2; exact ⟨h1, h2⟩
      simp only [Nat.zero_add] at hr9
      have hacc2 : Hid (pathF ((pre ++ [(rw9, g, c4)]).map (·.1)) i = acc ++ [d]) := Lib.hid (by rw [hsn.out, hd]; rfl)
      have hn6 : Hid ((acc ++ [d]).length = acc.length + 1) := Lib.hid (by simp)
      have hall : Hid (∀ x ∈ acc ++ [d], x.length = 32) := Lib.hid (by rw [← hacc2.out]; exact pathF_all _ h4'.out i)
      have pd := Lib.hid (dc_info hdl)
      have hbu := Lib.hid (builtSlice_d1 d hdl)
      have hD1 : Hid (∀ x ∈ [d], x.length = 32) := Lib.hid (fun x hx => by simp at hx; subst hx; exact hdl)
      have hS : Hid (∀ U, Below W.heap.size W U → U.cell? ⟨w.heap.size + 1, 0, none⟩ = some row ∧ U.rangeAt g (xr i9 * 32) (dc d)) := Lib.hid fun U hU => ⟨(hU.cell (p := ⟨w.heap.size + 1, 0, none⟩) hb1.lt).trans hb1.cell, range_belowB hr9 hgW hU⟩
      have HB : Below W.heap.size W W.drew := (Below.refl _ _).drew
      have k1 : (xr i9 : Int) < (rw9.length : Int) := by omega
      have k2 : (0 : Int) ≤ (xr i9 : Int) := by omega
      have d1 : decide ((xr i9 : Int) < (rw9.length : Int)) = true := decide_eq_true k1
      replace hr9 := Lib.hid hr9
      gi_wp2
      refine wpIn_round_T 7 (fun w' => w'.cell? ⟨w.heap.size + 1, 0, none⟩ = some row ∧ w'.rangeAt g (xr i9 * 32) (dc d)) (by kernel_rfl) (by kernel_rfl) (by exact hS.out _ HB) (fun hHeld => ?_)
      refine wpAnyT_take (i := 0) (oi := { dst := some 30, op := Op.load 31 (Operand.tmp 4), type := 31, pos := "merkle.go:64", after := #[], guard := none }) (v := ?_) rfl (by kernel_rfl) (by kernel_rfl) (by kernel_rfl) (by kernel_rfl) (fun _ _ _ h => h) (Or.inl ⟨by rfl, ?hy0⟩) hHeld ?rest0
      case hy0 =>
        intro w hSw
        try dsimp only at hSw
        go_simp
        try with_reducible rfl
      try simp only [Act.put, List.setIfInBounds_toArray, List.set_cons_zero, List.set_cons_succ]
      refine wpAnyT_take (i := 1) (oi := { dst := some 31, op := Op.move (Operand.tmp 6), type := 31, pos := "merkle.go:64", after := #[], guard := none }) (v := ?_) rfl (by kernel_rfl) (by kernel_rfl) (by kernel_rfl) (by kernel_rfl) (fun _ _ _ h => h) (Or.inl ⟨by rfl, ?hy1⟩) hHeld ?rest1
      case hy1 =>
        intro w hSw
        try dsimp only at hSw
        go_simp
        try with_reducible rfl
      try simp only [Act.put, List.setIfInBounds_toArray, List.set_cons_zero, List.set_cons_succ]
      refine wpAnyT_take (i := 2) (oi := { dst := some 32, op := Op.move (Operand.tmp 7), type := 3, pos := "merkle.go:64", after := #[], guard := none }) (v := ?_) rfl (by kernel_rfl) (by kernel_rfl) (by kernel_rfl) (by kernel_rfl) (fun _ _ _ h => h) (Or.inl ⟨by rfl, ?hy2⟩) hHeld ?rest2
      case hy2 =>
        intro w hSw
        try dsimp only at hSw
        go_simp
        try with_reducible rfl
      try simp only [Act.put, List.setIfInBounds_toArray, List.set_cons_zero, List.set_cons_succ]
      refine wpAnyT_take (i := 3) (oi := { dst := some 33, op := Op.indexAddr 31 (Operand.tmp 31) (Operand.tmp 32), type := 0, pos := "merkle.go:64", after := #[{ on := 1, ground := Ground.data }, { on := 2, ground := Ground.data }], guard := none }) (v := ?_) rfl (by kernel_rfl) (by kernel_rfl) (by kernel_rfl) (by kernel_rfl) (fun _ _ _ h => h) (Or.inl ⟨by rfl, ?hy3⟩) hHeld ?rest3
      case hy3 =>
        intro w hSw
        try dsimp only at hSw
        go_simp
        try with_reducible rfl
      try simp only [Act.put, List.setIfInBounds_toArray, List.set_cons_zero, List.set_cons_succ]
      refine wpAnyT_take (i := 4) (oi := { dst := some 34, op := Op.load 23 (Operand.tmp 33), type := 23, pos := "merkle.go:64", after := #[{ on := 3, ground := Ground.data }], guard := none }) (v := _) rfl (by kernel_rfl) (by kernel_rfl) (by kernel_rfl) (by kernel_rfl) (fun _ _ _ h => h) (yieldsIf_load_mid (by rfl) 23 (.tmp 33) rfl g (xr i9 * 32) rfl (dc d) _ (fun _ h => h.2) Tryd.underlying23 rfl pd.out) hHeld ?_
      try simp only [Act.put, List.setIfInBounds_toArray, List.set_cons_zero, List.set_cons_succ]
      refine wpAnyT_one (i := 5) (o := { dst := some 35, op := Op.buildSlice 31 1 #[(0, Operand.tmp 34)], type := 31, pos := "merkle.go:64", after := #[{ on := 4, ground := Ground.data }], guard := none }) (by kernel_rfl) rfl (fun K hK => ?_)
      refine step_built (by rfl) 31 23 1 #[(0, .tmp 34)] (by rfl) Tryd.underlying31 (dc d).toArray (by simp only [List.map_toArray, List.map_cons, List.map_nil]; exact hbu.out) ?_
      have HB9 := HB.alloc HB.size (.cells (dc d).toArray 23)
      have hrow9 := hrow.below HB9
      have hat9 := dsAt_row (l := [d]) hD1.out (heap_alloc_new W.drew (.cells (dc d).toArray 23)) (by simp [dsC])
      refine hK.out _ _ (by exact hS.out _ HB9) (fun hHeld' => ?_)
      clear hK K hHeld
      have hHeld := hHeld'
      clear hHeld'
      try simp only [Act.put, List.setIfInBounds_toArray, List.set_cons_zero, List.set_cons_succ]
      refine wpAnyT_one (i := 6) (o := { dst := some 36, op := Op.call { callee := Callee.builtin Builtin.append, args := #[Operand.tmp 30, Operand.tmp 35], argTypes := #[31, 31] }, type := 31, pos := "merkle.go:64", after := #[{ on := 0, ground := Ground.data }, { on := 5, ground := Ground.data }], guard := none }) (by kernel_rfl) rfl (fun K hK => ?_)
      refine step_appD _ (by rfl) (.tmp 30) (.tmp 35) (by rfl) (w.heap.size + 3) row acc [d] (some ⟨W.drew.heap.size, 0, none⟩) 1 1 (by rfl) (by rfl) (by rfl) hat9 hrow9 hD1.out hacc (by decide) (by simp; omega) ?_
      intro row' w6 hrow6 hg6
      obtain ⟨A6, c6, rfl, hcl6, hds6⟩ := hrow6.ds hall.out
      rw [hn6.out] at hrow6 hcl6
      have hb6 := ((show Boxed W.drew (w.heap.size + 1) 31 row from hb1).alloc (.cells (dc d).toArray 23)).kept hg6 hne1
      have hc6 := hb6.cell
      have hf6 := hb6.frozen
      refine hK.out _ _ (by exact ⟨hc6, range_grown hg6 hr9.out hgW HB9 hg9⟩) (fun hHeld' => ?_)
      clear hK K hHeld
      have hHeld := hHeld'
      clear hHeld'
      try simp only [Act.put, List.setIfInBounds_toArray, List.set_cons_zero, List.set_cons_succ]
      refine wpAnyT_tail (i := 7) (o := { dst := none, op := Op.store 31 (Operand.tmp 4) (Operand.tmp 36), type := 0, pos := "merkle.go:64", after := #[{ on := 6, ground := Ground.data }, { on := 6, ground := Ground.chain }, { on := 0, ground := Ground.phase }, { on := 1, ground := Ground.phase }, { on := 2, ground := Ground.phase }, { on := 3, ground := Ground.phase }, { on := 4, ground := Ground.phase }, { on := 5, ground := Ground.phase }, { on := 6, ground := Ground.phase }], guard := none }) (by kernel_rfl) rfl (by rfl) (fun K hK => ?_)
      go_simp
      refine hK.out _ _ ?_
      clear hK K
      try simp only [Act.put, List.setIfInBounds_toArray, List.set_cons_zero, List.set_cons_succ]
      refine wpAnyT_done (by kernel_rfl) ?_ _
      refine strict_normal ?_
      have hB6 : Below w.heap.size w w6 := (hBW.trans (HB9.mono hBW.size)).grown hg6 (by have := HB9.size; omega) (fun k e => by have := (hrow9.high e).1; omega)
      have hz6 : Boxed w6 w.heap.size 3 (.int .i64 (i9 : Int)) := ((show Boxed W.drew w.heap.size 3 (.int .i64 (i9 : Int)) from hb0).alloc (.cells (dc d).toArray 23)).kept hg6 hne0
      have hz7 := hz6.other (B' := w.heap.size + 1) (by omega) (.slice A6 (acc.length + 1) c6)
      have c7 := hz7.cell
      have f7 := hz7.frozen
      have hlt6 : ∀ k o, W.heap[k]? = some o → k < W.heap.size := fun k o h => (Array.getElem?_eq_some_iff.1 h).1
      have hko : ∀ (k : Nat) (o : Obj), W.heap[k]? = some o → o.isCells = false → w6.heap[k]? = some o := fun k o hk ho => (hg6.block k (by simp; have := hlt6 k o hk; omega) (fun e => by
        obtain ⟨cs', t', fr', hc⟩ := hrow.cellsAt e.symm
        rw [hk] at hc
        obtain rfl := Option.some.inj hc
        cases ho)).trans ((Below.heap_alloc W.drew _ k (hlt6 k o hk)).trans hk)
      have hz8 : Boxed (w6.setCell ⟨w.heap.size + 1, 0, none⟩ (.slice A6 (acc.length + 1) c6)) (w.heap.size + 1) 31 (.slice A6 (acc.length + 1) c6) := hb6.set _
      have hg7 : w6.grownBy (w6.setCell ⟨w.heap.size + 1, 0, none⟩ (.slice A6 (acc.length + 1) c6)) (some (w.heap.size + 1)) := setCell_grown _ _ 0 _
      have hr7 := hrow6.keptG hg7 (fun k e h => by obtain rfl := Option.some.inj h; have := (hrow6.high e).1; omega)
      have hko7 : ∀ (k : Nat) (o : Obj), W.heap[k]? = some o → o.isCells = false → (w6.setCell ⟨w.heap.size + 1, 0, none⟩ (.slice A6 (acc.length + 1) c6)).heap[k]? = some o := fun k o hk ho => (hg7.block k (Array.getElem?_eq_some_iff.1 (hko k o hk ho)).1 (fun e => by
        obtain rfl := Option.some.inj e
        rw [show W.heap[w.heap.size + 1]? = _ from hb1] at hk
        obtain rfl := Option.some.inj hk
        cases ho)).trans (hko k o hk ho)
      have hB7 : Below w.heap.size w (w6.setCell ⟨w.heap.size + 1, 0, none⟩ (.slice A6 (acc.length + 1) c6)) := hB6.setCell (p := ⟨w.heap.size + 1, 0, none⟩) (by show w.heap.size ≤ w.heap.size + 1; omega) _
      have hBW7 : Below w.heap.size W (w6.setCell ⟨w.heap.size + 1, 0, none⟩ (.slice A6 (acc.length + 1) c6)) := ((HB9.mono (by omega)).grown hg6 (by have := HB9.size; omega) (fun k e => by have := (hrow9.high e).1; omega)).setCell (p := ⟨w.heap.size + 1, 0, none⟩) (by show w.heap.size ≤ w.heap.size + 1; omega) _
      have hG7 : ∀ o, W.heap[g]? = some o → (w6.setCell ⟨w.heap.size + 1, 0, none⟩ (.slice A6 (acc.length + 1) c6)).heap[g]? = some o := fun o ho => (hg7.block g (by have := hg6.size; simp at this; omega) (fun e => by have := Option.some.inj e; omega)).trans ((hg6.block g (by simp; omega) (fun e => hg9 e.symm)).trans ((Below.heap_alloc W.drew _ g hgW).trans ho))
      have hs7 : W.heap.size ≤ (w6.setCell ⟨w.heap.size + 1, 0, none⟩ (.slice A6 (acc.length + 1) c6)).heap.size := hBW7.size
      clear hz6 hb6 hc6 hf6 hds6 hrow6 hg6 hrow9 HB9 hat9 hg7
      generalize w6.setCell ⟨w.heap.size + 1, 0, none⟩ (.slice A6 (acc.length + 1) c6) = W7 at hz7 c7 f7 hz8 hr7 hko7 hB7 hBW7 hG7 hs7 ⊢
      gi_wp2
      have hg5 : W7.grownBy (W7.setCell ⟨w.heap.size, 0, none⟩ (.int .i64 ((i9 : Int) / 2))) (some w.heap.size) := setCell_grown W7 w.heap.size 0 _
      refine ⟨⟨Nat.le_trans hs7 hg5.size, fun k o hk h ho => (hg5.block k (Array.getElem?_eq_some_iff.1 (hko7 k o h ho)).1 (fun e => by
          obtain rfl := Option.some.inj e
          rw [show W.heap[w.heap.size]? = _ from hb0] at h
          obtain rfl := Option.some.inj h
          cases ho)).trans (hko7 k o h ho)⟩, ⟨hBW7.grown hg5 hB7.size (fun k e => by have := Option.some.inj e; omega), fun o ho hc => (hg5.block g (Array.getElem?_eq_some_iff.1 (hG7 o ho)).1 (fun e => by have := Option.some.inj e; omega)).trans (hG7 o ho)⟩, _, ?_, hz8.kept hg5 (fun e => by have := Option.some.inj e; omega), ?_, h4'.out, hpl2.out, hB7.grown hg5 hB7.size (fun k e => by have := Option.some.inj e; omega), Nat.le_trans hsW (Nat.le_trans hs7 hg5.size)⟩
      · rw [hnext.out]
        have := hz7.set (.int .i64 ((i9 : Int) / 2))
        rwa [show (i9 : Int) / 2 = ((i9 / 2 : Nat) : Int) by omega] at this ⊢
      · rw [hacc2.out]
        exact hr7.keptG hg5 (fun k e h => by obtain rfl := Option.some.inj h; have := (hr7.high e).1; omega)
    · have hacc2 : Hid (pathF ((pre ++ [(rw9, g, c4)]).map (·.1)) i = acc) := Lib.hid (by rw [hsn.out, List.getElem?_eq_none (by omega)]; simp)
      have d1 : decide ((xr i9 : Int) < (rw9.length : Int)) = false := decide_eq_false (by omega)
      gi_wp2
      have hg5 : W.grownBy (W.setCell ⟨w.heap.size, 0, none⟩ (.int .i64 ((i9 : Int) / 2))) (some w.heap.size) := setCell_grown W w.heap.size 0 _
      refine ⟨keepsFrom_grown hg5 hb0, ⟨(Below.refl _ _).grown hg5 (by omega) (fun k e => by have := Option.some.inj e; omega), fun o ho hc => (hg5.block g (Array.getElem?_eq_some_iff.1 hh.out).1 (fun e => by have := Option.some.inj e; omega)).trans ho⟩, row, ?_, hb1.kept hg5 (fun e => by have := Option.some.inj e; omega), ?_, h4'.out, hpl2.out, hBW.grown hg5 hBW.size (fun k e => by have := Option.some.inj e; omega), by simpa using hsW⟩
      · rw [hnext.out]
        have := hb0.set (.int .i64 ((i9 : Int) / 2))
        rwa [show (i9 : Int) / 2 = ((i9 / 2 : Nat) : Int) by omega] at this ⊢
      · rw [hacc2.out]
        exact hrow.keptG hg5 (fun k e h => by obtain rfl := Option.some.inj h; exact hne0 e.symm)
  case done =>
    rintro D xs W hD hxs ⟨row, h1, h2, h3, h4, h5, h6, h7⟩ hK
    have hall := pathF_all _ h4 i
    rw [hxs, hpath.out] at h3 hall
    obtain ⟨p, hp⟩ : ∃ p, pathM l i = p := ⟨_, rfl⟩
    rw [hp] at h3 hall
    replace hp := Lib.hid hp
    obtain ⟨A6, c6, rfl, hc6, hd6⟩ := h3.ds hall
    have c1 := h2.cell
    have f1 := h2.frozen
    gi_wp2
    have hg5 : W.grownBy (W.setCell ⟨w.heap.size + 1, 0, none⟩ (.slice A6 p.length c6)) (some (w.heap.size + 1)) := setCell_grown W (w.heap.size + 1) 0 _
    have hb5 := h2.set (.slice A6 p.length c6)
    have hDne : D ≠ w.heap.size + 1 := fun e => by rw [e, show W.heap[w.heap.size + 1]? = _ from h2] at hK; cases Option.some.inj hK
    have hK' := (hg5.block D (Array.getElem?_eq_some_iff.1 hK).1 (fun e => by have := Option.some.inj e; omega)).trans hK
    have hr5 := h3.keptG hg5 (fun k e h => by obtain rfl := Option.some.inj h; have := (h3.high e).1; omega)
    have hB5 := h6.grown hg5 h6.size (fun k e => by have := Option.some.inj e; omega)
    generalize W.setCell ⟨w.heap.size + 1, 0, none⟩ (.slice A6 p.length c6) = W5 at hg5 hb5 hK' hr5 hB5 ⊢
    refine ⟨by simp, .inl ⟨_, _, rfl, run_takeDeferred hK', ?_⟩⟩
    have hg8 := grownBy_putObj' W5 D (.deferred none)
    have hr8 := hr5.keptG hg8 (fun k e h => by
      obtain rfl := Option.some.inj h
      obtain ⟨cs', t', fr', hc⟩ := hr5.cellsAt e
      rw [hK'] at hc
      cases Option.some.inj hc)
    have hb8 := (hb5.kept hg8 (fun e => by have := Option.some.inj e; omega)).cell
    have hB8 := hB5.trans (belowK_b (w := w) (Nat.le_refl _) W5 D _ (.deferred none) (by omega) hK' rfl rfl)
    obtain ⟨A7, c7, e7, hc7, hd7⟩ := hr8.ds hall
    injection e7 with e71 e72 e73
    subst e71 e73
    generalize W5.putObj D (.deferred none) = W9 at hb8 hB8 hd7 ⊢
    refine ⟨.tuple #[.slice A6 p.length c6, .int .i64 0], by simp [results, Tryd.results40, go_sem, hb8], ?_⟩
    rw [hp.out]
    exact ⟨A6, c6, rfl, hc6, hd7, hB8⟩
  case stop =>
    rintro D c pre W _ _ h _
    exact h.elim
end Go.Proofs.YtnccbhndlnkboaaDoor
