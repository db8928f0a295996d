/- The walks of seals: salt, valid, has, list. -/
import Derived.Test.YtnccbhndlnkboaaDoorRowFG
import Derived.Test.YtnccbhndlnkboaaDoorMText
import Derived.Test.YtnccbhndlnkboaaDoorMoreA
namespace Go.Proofs.YtnccbhndlnkboaaDoor
open Go.RowKit Go.Shelf Cdc Sha
set_option linter.unusedVariables false
set_option linter.unusedSimpArgs false

def iV (n : Int) : V := ⟨1, n, ⟨#[]⟩, []⟩
def lV (l : List V) : V := ⟨3, 0, ⟨#[]⟩, l⟩
def sV (s : ByteArray) : V := ⟨2, 0, s, []⟩
def I64 (n : Int) : Prop := -9223372036854775808 ≤ n ∧ n ≤ 9223372036854775807

def salB (n : Int) : Bool := decide (0 ≤ n ∧ n ≤ 1099511627776)
theorem salt_any (n : Int) (w : World) : Calls Tryd.prog 49 #[.int .i64 n] w fun e w' => e = .returned (.bool (salB n)) ∧ w' = w := by
  by_cases a : 0 ≤ n
  · by_cases b : n ≤ 1099511627776
    · have d1 : decide (0 ≤ n) = true := decide_eq_true a
      have d2 : decide (n ≤ 1099511627776) = true := decide_eq_true b
      have e : salB n = true := decide_eq_true ⟨a, b⟩
      rw [e]
      go_enter Tryd.func49, Tryd.ntmps49
      go_wp2
      go_ret
      exact ⟨rfl, rfl⟩
    · have d1 : decide (0 ≤ n) = true := decide_eq_true a
      have d2 : decide (n ≤ 1099511627776) = false := decide_eq_false b
      have e : salB n = false := decide_eq_false (fun h => b h.2)
      rw [e]
      go_enter Tryd.func49, Tryd.ntmps49
      go_wp2
      go_ret
      exact ⟨rfl, rfl⟩
  · have d1 : decide (0 ≤ n) = false := decide_eq_false a
    have e : salB n = false := decide_eq_false (fun h => a h.1)
    rw [e]
    go_enter Tryd.func49, Tryd.ntmps49
    go_wp2
    go_ret
    exact ⟨rfl, rfl⟩

/-- the days of a seal are in range -/
def dayB (t f m : Int) : Bool := decide (0 ≤ t ∧ t ≤ 63 ∧ 1 ≤ m ∧ m ≤ 512 ∧ 0 ≤ f ∧ f ≤ 73048 - m + 1)
theorem wrap_days (m : Int) (h1 : 1 ≤ m) (h2 : m ≤ 512) : IntKind.i64.wrap (73048 - m) = 73048 - m ∧ IntKind.i64.wrap (73048 - m + 1) = 73048 - m + 1 := ⟨IntWalk.i64_in _ (by omega), IntWalk.i64_in _ (by omega)⟩
set_option maxRecDepth 100000 in
set_option maxHeartbeats 2000000 in
theorem valid_any8 (t f m : Int) (w : World) : Calls Tryd.prog 48 #[.agg #[.int .i64 t, .int .i64 f, .int .i64 m]] w fun e w' => e = .returned (.bool (dayB t f m)) ∧ Below w.heap.size w w' := by
  have hB : Below w.heap.size w (w.alloc (.cells #[.int .i64 t, .int .i64 f, .int .i64 m] 69)) := (Below.refl _ _).alloc (Nat.le_refl _) _
  by_cases a1 : 0 ≤ t
  · have d1 : decide (0 ≤ t) = true := decide_eq_true a1
    by_cases a2 : t ≤ 63
    · have d2 : decide (t ≤ 63) = true := decide_eq_true a2
      by_cases a3 : 1 ≤ m
      · have d3 : decide (1 ≤ m) = true := decide_eq_true a3
        by_cases a4 : m ≤ 512
        · have d4 : decide (m ≤ 512) = true := decide_eq_true a4
          by_cases a5 : 0 ≤ f
          · have d5 : decide (0 ≤ f) = true := decide_eq_true a5
            obtain ⟨w1, w2⟩ := wrap_days m a3 a4
            obtain ⟨v, hv⟩ : ∃ v, decide (f ≤ 73048 - m + 1) = v := ⟨_, rfl⟩
            have e : dayB t f m = v := by rw [← hv]; exact decide_eq_decide.2 ⟨fun h => h.2.2.2.2.2, fun h => ⟨a1, a2, a3, a4, a5, h⟩⟩
            rw [e]
            clear e
            go_enter Tryd.func48, Tryd.ntmps48
            go_wp2
            go_ret
            exact ⟨rfl, hB⟩
          · have d5 : decide (0 ≤ f) = false := decide_eq_false a5
            have e : dayB t f m = false := decide_eq_false (fun h => a5 h.2.2.2.2.1)
            rw [e]
            go_enter Tryd.func48, Tryd.ntmps48
            go_wp2
            go_ret
            exact ⟨rfl, hB⟩
        · have d4 : decide (m ≤ 512) = false := decide_eq_false a4
          have e : dayB t f m = false := decide_eq_false (fun h => a4 h.2.2.2.1)
          rw [e]
          go_enter Tryd.func48, Tryd.ntmps48
          go_wp2
          go_ret
          exact ⟨rfl, hB⟩
      · have d3 : decide (1 ≤ m) = false := decide_eq_false a3
        have e : dayB t f m = false := decide_eq_false (fun h => a3 h.2.2.1)
        rw [e]
        go_enter Tryd.func48, Tryd.ntmps48
        go_wp2
        go_ret
        exact ⟨rfl, hB⟩
    · have d2 : decide (t ≤ 63) = false := decide_eq_false a2
      have e : dayB t f m = false := decide_eq_false (fun h => a2 h.2.1)
      rw [e]
      go_enter Tryd.func48, Tryd.ntmps48
      go_wp2
      go_ret
      exact ⟨rfl, hB⟩
  · have d1 : decide (0 ≤ t) = false := decide_eq_false a1
    have e : dayB t f m = false := decide_eq_false (fun h => a1 h.1)
    rw [e]
    go_enter Tryd.func48, Tryd.ntmps48
    go_wp2
    go_ret
    exact ⟨rfl, hB⟩

/-- a day is one of the days -/
def hasB (f m d : Int) : Bool := decide (f ≤ d ∧ d - f < m)
theorem has_any (t f m d : Int) (hf : 0 ≤ f) (hd : d ≤ 9223372036854775807) (w : World) : Calls Tryd.prog 39 #[.agg #[.int .i64 t, .int .i64 f, .int .i64 m], .int .i64 d] w fun e w' => e = .returned (.bool (hasB f m d)) ∧ Below w.heap.size w w' := by
  have hB : Below w.heap.size w (w.alloc (.cells #[.int .i64 t, .int .i64 f, .int .i64 m] 69)) := (Below.refl _ _).alloc (Nat.le_refl _) _
  by_cases a1 : f ≤ d
  · have d1 : decide (f ≤ d) = true := decide_eq_true a1
    have w1 : IntKind.i64.wrap (d - f) = d - f := IntWalk.i64_in _ (by omega)
    obtain ⟨v, hv⟩ : ∃ v, decide (d - f < m) = v := ⟨_, rfl⟩
    have e : hasB f m d = v := by rw [← hv]; exact decide_eq_decide.2 ⟨fun h => h.2, fun h => ⟨a1, h⟩⟩
    rw [e]
    clear e
    go_enter Tryd.func39, Tryd.ntmps39
    go_wp2
    go_ret
    exact ⟨rfl, hB⟩
  · have d1 : decide (f ≤ d) = false := decide_eq_false a1
    have e : hasB f m d = false := decide_eq_false (fun h => a1 h.1)
    rw [e]
    go_enter Tryd.func39, Tryd.ntmps39
    go_wp2
    go_ret
    exact ⟨rfl, hB⟩

/-- the append of one flat value that lies in a block of its own -/
theorem wpList_appF5 {ops : Array Oper} {rest : List Oper} {o : Oper} {a : Act} {Q : Exit → Act → World → Prop} (w : World) (hgd : o.guard = none) (s x : Operand)
    (ho : o.op = .call { callee := .builtin .append, args := #[s, x], argTypes := #[94, 94] }) (b : Nat) (row : Value) (l : List V) (y : V) (g : Nat)
    (hs : a.eval s = row) (hx : a.eval x = .slice (some ⟨g, 0, none⟩) 1 1) (hown : RowF w b row l) (hg : w.heap[g]? = some (.cells #[.int .i64 y.k, .int .i64 y.n, .string y.s, .slice none 0 0] 96 (0, 0)))
    (hl : l.length ≤ 1000000000) (hb : b ≤ w.heap.size)
    (h : ∀ row' w', RowF w' b row' (l ++ [y]) → w.grownBy w' row.ownBlock → (row'.ownBlock = row.ownBlock ∨ row'.ownBlock = some w.heap.size) → wpList Tryd.prog ops Q rest (a.put o.dst row') w') : wpList Tryd.prog ops Q (o :: rest) a w := by
  refine wpList_plain hgd fun K hK => ?_
  obtain ⟨i0, hi0, hz0, hz1, hz2⟩ := info_parts vF_info
  obtain ⟨v', w', hr, h2, h3, _, h5⟩ := run_append_own_at (P := Tryd.prog) w b 94 o.type 96 i0 _ 4 56 Tryd.underlying94 hi0 hz0 hz1 hz2 rfl (by omega) row l.length (flatF l) hown ⟨g, 0, none⟩ 1 1
    (fl y) rfl (fun j u hu => by
      rw [← World.ownsRow.cells (w := w) (base := 0) (e := 96) (size := 4) (v := .slice (some ⟨g, 0, none⟩) 1 1) (n := 1) (xs := fl y) ⟨rfl, .inr ⟨g, 1, _, rfl, Nat.zero_le _, hg, Nat.le_refl _, by simp [maxLen], rfl, rfl⟩⟩ (g := g) rfl j u hu])
    (by intro u hu; simp [fl] at hu; rcases hu with rfl | rfl | rfl | rfl <;> rfl) (by simp only [maxLen]; omega) (by omega) hb
  unfold Oper.wp execOp
  simp only [ho, resolve, invoke, builtin, Sem.run_bind, Sem.run_pure, Result.andThen_ok, List.map_toArray, List.map_cons, List.map_nil, hs, hx, hr]
  refine hK _ _ (h v' w' ?_ h3 h5)
  unfold RowF
  rw [flatF_append, List.length_append]
  simpa [flatF] using h2

set_option maxRecDepth 100000 in
set_option maxHeartbeats 4000000 in
/-- list: a text and integers -/
theorem slist_any (s : ByteArray) (ns : List Int) (cb n c : Nat) (hn : ns.length = n) (hnm : n ≤ 100) (w : World) (h : ∀ (i : Nat) (m : Int), ns[i]? = some m → w.cell? ⟨cb, i, none⟩ = some (.int .i64 m)) :
    Calls Tryd.prog 68 #[.string s, .slice (some ⟨cb, 0, none⟩) n c] w fun e w' => ∃ (A : Option Addr) (m c' : Nat), e = .returned (.agg #[.int .i64 3, .int .i64 0, .string ⟨#[]⟩, .slice A m c']) ∧ RS w' 1 (sV s :: ns.map iV) (.slice A m c') ∧ Below w.heap.size w w' := by
  have hat : Hid (∀ y ∈ sV s :: ns.map iV, y.l = []) := Lib.hid fun y hy => by
    rcases List.mem_cons.1 hy with rfl | hy
    · rfl
    · obtain ⟨m, _, rfl⟩ := List.mem_map.1 hy; rfl
  replace hn := Lib.hid hn
  replace h := Lib.hid h
  go_enter Tryd.func68, Tryd.ntmps68
  go_wp2_with fail
  have b1 := heap_alloc_new (w.alloc (.cells #[.int .i64 0, .int .i64 0, .string ⟨#[]⟩, .slice none 0 0] 96)) (.cells #[.int .i64 2, .int .i64 0, .string s, .slice none 0 0] 96)
  have b2 := heap_alloc_new ((w.alloc (.cells #[.int .i64 0, .int .i64 0, .string ⟨#[]⟩, .slice none 0 0] 96)).alloc (.cells #[.int .i64 2, .int .i64 0, .string s, .slice none 0 0] 96)) (.cells #[.int .i64 3, .int .i64 0, .string ⟨#[]⟩, .slice (some ⟨w.heap.size + 1, 0, none⟩) 1 1] 96)
  simp only [World.size_alloc] at b1 b2
  replace b1 := (Below.heap_alloc _ (.cells #[.int .i64 3, .int .i64 0, .string ⟨#[]⟩, .slice (some ⟨w.heap.size + 1, 0, none⟩) 1 1] 96) (w.heap.size + 1) (by simp)).trans b1
  have b0 := (Below.heap_alloc _ (.cells #[.int .i64 3, .int .i64 0, .string ⟨#[]⟩, .slice (some ⟨w.heap.size + 1, 0, none⟩) 1 1] 96) w.heap.size (by simp; omega)).trans ((Below.heap_alloc _ (.cells #[.int .i64 2, .int .i64 0, .string s, .slice none 0 0] 96) w.heap.size (by simp)).trans (heap_alloc_new w (.cells #[.int .i64 0, .int .i64 0, .string ⟨#[]⟩, .slice none 0 0] 96)))
  have hB0 : Below w.heap.size w (((w.alloc (.cells #[.int .i64 0, .int .i64 0, .string ⟨#[]⟩, .slice none 0 0] 96)).alloc (.cells #[.int .i64 2, .int .i64 0, .string s, .slice none 0 0] 96)).alloc (.cells #[.int .i64 3, .int .i64 0, .string ⟨#[]⟩, .slice (some ⟨w.heap.size + 1, 0, none⟩) 1 1] 96)) := (((Below.refl _ _).alloc (Nat.le_refl _) _).alloc (by simp) _).alloc (by simp; omega) _
  have hrow0 : RowF (((w.alloc (.cells #[.int .i64 0, .int .i64 0, .string ⟨#[]⟩, .slice none 0 0] 96)).alloc (.cells #[.int .i64 2, .int .i64 0, .string s, .slice none 0 0] 96)).alloc (.cells #[.int .i64 3, .int .i64 0, .string ⟨#[]⟩, .slice (some ⟨w.heap.size + 1, 0, none⟩) 1 1] 96)) (w.heap.size + 1) (.slice (some ⟨w.heap.size + 1, 0, none⟩) 1 1) [sV s] := ⟨rfl, .inr ⟨w.heap.size + 1, 1, _, rfl, Nat.le_refl _, b1, Nat.le_refl _, by simp [maxLen], rfl, rfl⟩⟩
  replace b0 := Lib.hid b0
  replace b2 := Lib.hid b2
  go_loopw [14] (fun s14 wr => ∃ (k : Nat) (row : Value), k ≤ n ∧ s14 = .int .i64 (k : Int) ∧ wr.heap[w.heap.size + 1 + 1]? = some (.cells #[.int .i64 3, .int .i64 0, .string ⟨#[]⟩, row] 96 (0, 0)) ∧ RowF wr (w.heap.size + 1) row (sV s :: (ns.take k).map iV) ∧ row.ownBlock ≠ some (w.heap.size + 1 + 1) ∧ Below w.heap.size w wr ∧ wr.heap[w.heap.size]? = some (.cells #[.int .i64 0, .int .i64 0, .string ⟨#[]⟩, .slice none 0 0] 96 (0, 0))) (fun s14 _ => n - (intOf s14).toNat)
  case atStart => exact ⟨0, _, by omega, rfl, b2.out, by simpa using hrow0, by simp [Value.ownBlock], hB0, b0.out⟩
  case round =>
    clear b0 b1 b2 hB0 hrow0
    obtain ⟨k, row, hk, rfl, hv, hrow, hne, hB, hres⟩ := hrel
    have hlt0 := (Array.getElem?_eq_some_iff.1 hv).1
    by_cases hkn : k < n
    · obtain ⟨y, hy⟩ : ∃ y, ns[k]? = some y := ⟨_, List.getElem?_eq_getElem (by rw [hn.out]; omega)⟩
      have hcy := h.out k y hy
      have hcv : wr.cell? ⟨cb, k, none⟩ = some (.int .i64 y) := (hB.cell (p := ⟨cb, k, none⟩) (World.block_lt_of_cell? w _ hcy)).trans hcy
      have hts : Hid (sV s :: (ns.take (k + 1)).map iV = (sV s :: (ns.take k).map iV) ++ [iV y]) := Lib.hid (by rw [List.take_add_one, hy]; simp)
      have hc3 : wr.cell? ⟨w.heap.size + 1 + 1, 3, none⟩ = some row := by rw [cell_of_row _ _ _ _ _ _ hv]; rfl
      have hltk : Hid ((sV s :: (ns.take k).map iV).length ≤ 1000000000) := Lib.hid (by simp; omega)
      have hnew : Hid (∀ (W : World) (g : Nat), g = W.heap.size → (W.alloc (.cells #[.int .i64 1, .int .i64 y, .string ⟨#[]⟩, .slice none 0 0] 96)).heap[g]? = some (.cells #[.int .i64 1, .int .i64 y, .string ⟨#[]⟩, .slice none 0 0] 96 (0, 0))) := Lib.hid fun W g hg => by subst hg; exact heap_alloc_new W _
      have hsz : w.heap.size + 1 ≤ wr.heap.size := by omega
      replace hrow := Lib.hid hrow
      replace hv := Lib.hid hv
      replace hres := Lib.hid hres
      replace hne := Lib.hid hne
      go_wp2_with (at_builtin; refine wpList_appF5 _ (by rfl) (.tmp 19) (.tmp 22) (by rfl) (w.heap.size + 1) row (sV s :: (ns.take k).map iV) (iV y) wr.heap.size (by rfl) (by rfl) (hrow.out.alloc _) (hnew.out _ _ rfl) hltk.out (by simp; omega) ?_; intro row' w2 hrow2 hg2 hw2; obtain ⟨A1, m1, c1, rfl⟩ := hrow2.form3; replace hrow2 := Lib.hid hrow2; have hv2 := (hg2.block (w.heap.size + 1 + 1) (by simp; omega) (fun e => hne.out e.symm)).trans ((Below.heap_alloc wr _ _ (by omega)).trans hv.out); have hc23 : w2.cell? ⟨w.heap.size + 1 + 1, 3, none⟩ = some row := (by rw [cell_of_row _ _ _ _ _ _ hv2]; rfl); have hf23 := frozen_of_row w2 (w.heap.size + 1 + 1) 3 _ _ hv2)
      have hres2 := (hg2.block w.heap.size (by simp; omega) (fun e => by have := (hrow.out.high e.symm).1; omega)).trans ((Below.heap_alloc wr _ _ (by omega)).trans hres.out)
      have hB2 : Below w.heap.size w w2 := (hB.alloc hB.size _).grown hg2 (hB.alloc hB.size _).size (fun g e => by have := (hrow.out.high e).1; omega)
      have hs2 := hg2.size
      have hne2 : Value.ownBlock (.slice A1 m1 c1) ≠ some (w.heap.size + 1 + 1) := fun e => by
        rcases hw2 with h9 | h9
        · exact hne.out (h9 ▸ e)
        · rw [h9] at e; injection e with e; simp at e; omega
      replace hv2 := Lib.hid hv2
      go_roundw
      case rel =>
        have h3 := (heap_setCell_same w2 (w.heap.size + 1 + 1) 3 _ _ (.slice A1 m1 c1) hv2.out).trans (show some (Obj.cells (#[.int .i64 3, .int .i64 0, .string ⟨#[]⟩, row].setIfInBounds 3 (.slice A1 m1 c1)) 96) = some (Obj.cells #[.int .i64 3, .int .i64 0, .string ⟨#[]⟩, .slice A1 m1 c1] 96) by simp)
        refine ⟨k + 1, _, by omega, by go_num, h3, ?_, hne2, hB2.setCell (p := ⟨w.heap.size + 1 + 1, 3, none⟩) (by show w.heap.size ≤ w.heap.size + 1 + 1; omega) _, (heap_setCell_other w2 ⟨w.heap.size + 1 + 1, 3, none⟩ w.heap.size _ (by simp; omega)).trans hres2⟩
        rw [hts.out]
        have hg8 : w2.grownBy (w2.setCell ⟨w.heap.size + 1 + 1, 3, none⟩ (.slice A1 m1 c1)) (some (w.heap.size + 1 + 1)) := setCell_grown w2 (w.heap.size + 1 + 1) 3 _
        rcases hrow2.out.2 with h0 | ⟨g, cap, cur, e9, hb, hh, h4, h5, h6, h7⟩
        · exact ⟨hrow2.out.1, .inl h0⟩
        · exact ⟨hrow2.out.1, .inr ⟨g, cap, cur, e9, hb, (hg8.block g (Array.getElem?_eq_some_iff.1 hh).1 (fun e => hne2 (by rw [e9]; exact e))).trans hh, h4, h5, h6, h7⟩⟩
      case measure => simp [intOf]; omega
    · have hkl : ns.take k = ns := List.take_of_length_le (by rw [hn.out]; omega)
      rw [hkl] at hrow
      obtain ⟨A1, m1, c1, rfl⟩ := hrow.form3
      have hrs := hrow.rs hat.out
      have hc0 : wr.cell? ⟨w.heap.size + 1 + 1, 0, none⟩ = some (.int .i64 3) := by rw [cell_of_row _ _ _ _ _ _ hv]; rfl
      have hc1 : wr.cell? ⟨w.heap.size + 1 + 1, 1, none⟩ = some (.int .i64 0) := by rw [cell_of_row _ _ _ _ _ _ hv]; rfl
      have hc2 : wr.cell? ⟨w.heap.size + 1 + 1, 2, none⟩ = some (.string ⟨#[]⟩) := by rw [cell_of_row _ _ _ _ _ _ hv]; rfl
      have hc3 : wr.cell? ⟨w.heap.size + 1 + 1, 3, none⟩ = some (.slice A1 m1 c1) := by rw [cell_of_row _ _ _ _ _ _ hv]; rfl
      have hr0 : wr.cell? ⟨w.heap.size, 0, none⟩ = some (.int .i64 0) := by rw [cell_of_row _ _ _ _ _ _ hres]; rfl
      have hr1 : wr.cell? ⟨w.heap.size, 1, none⟩ = some (.int .i64 0) := by rw [cell_of_row _ _ _ _ _ _ hres]; rfl
      have hr2 : wr.cell? ⟨w.heap.size, 2, none⟩ = some (.string ⟨#[]⟩) := by rw [cell_of_row _ _ _ _ _ _ hres]; rfl
      have hr3 : wr.cell? ⟨w.heap.size, 3, none⟩ = some (.slice none 0 0) := by rw [cell_of_row _ _ _ _ _ _ hres]; rfl
      have hf0 := frozen_of_row wr w.heap.size 0 _ _ hres
      have hf1 := frozen_of_row wr w.heap.size 1 _ _ hres
      have hf2 := frozen_of_row wr w.heap.size 2 _ _ hres
      have hf3 := frozen_of_row wr w.heap.size 3 _ _ hres
      replace hrow := Lib.hid hrow
      replace hv := Lib.hid hv
      have hres9 := Lib.hid hres
      clear hrs hres
      go_wp2_with fail
      have g4 := grown_trans (grown_trans (grown_trans (setCell_grown wr w.heap.size 0 (.int .i64 3)) (setCell_grown (wr.setCell ⟨w.heap.size, 0, none⟩ (.int .i64 3)) w.heap.size 1 (.int .i64 0))) (setCell_grown ((wr.setCell ⟨w.heap.size, 0, none⟩ (.int .i64 3)).setCell ⟨w.heap.size, 1, none⟩ (.int .i64 0)) w.heap.size 2 (.string ⟨#[]⟩))) (setCell_grown (((wr.setCell ⟨w.heap.size, 0, none⟩ (.int .i64 3)).setCell ⟨w.heap.size, 1, none⟩ (.int .i64 0)).setCell ⟨w.heap.size, 2, none⟩ (.string ⟨#[]⟩)) w.heap.size 3 (.slice A1 m1 c1))
      have h9 := heap_setCell_same _ w.heap.size 3 _ _ (.slice A1 m1 c1) (heap_setCell_same _ w.heap.size 2 _ _ (.string ⟨#[]⟩) (heap_setCell_same _ w.heap.size 1 _ _ (.int .i64 0) (heap_setCell_same wr w.heap.size 0 _ _ (.int .i64 3) hres9.out)))
      generalize (((wr.setCell ⟨w.heap.size, 0, none⟩ (.int .i64 3)).setCell ⟨w.heap.size, 1, none⟩ (.int .i64 0)).setCell ⟨w.heap.size, 2, none⟩ (.string ⟨#[]⟩)).setCell ⟨w.heap.size, 3, none⟩ (.slice A1 m1 c1) = W9 at g4 h9 ⊢
      have x0 : W9.cell? ⟨w.heap.size, 0, none⟩ = some (.int .i64 3) := by rw [cell_of_row _ _ _ _ _ _ h9]; rfl
      have x1 : W9.cell? ⟨w.heap.size, 1, none⟩ = some (.int .i64 0) := by rw [cell_of_row _ _ _ _ _ _ h9]; rfl
      have x2 : W9.cell? ⟨w.heap.size, 2, none⟩ = some (.string ⟨#[]⟩) := by rw [cell_of_row _ _ _ _ _ _ h9]; rfl
      have x3 : W9.cell? ⟨w.heap.size, 3, none⟩ = some (.slice A1 m1 c1) := by rw [cell_of_row _ _ _ _ _ _ h9]; rfl
      refine bodyPost_ret (v := .agg #[.int .i64 3, .int .i64 0, .string ⟨#[]⟩, .slice A1 m1 c1]) (by simp [results, Tryd.results68, go_sem, x0, x1, x2, x3]) rfl ⟨A1, m1, c1, rfl, ?_, hB.grown g4 hB.size (fun g e => by have := Option.some.inj e; omega)⟩
      have hrow9 : RowF W9 (w.heap.size + 1) (.slice A1 m1 c1) (sV s :: ns.map iV) := by
        rcases hrow.out.2 with h0 | ⟨g, cap, cur, e9, hb, hh, h4, h5, h6, h7⟩
        · exact ⟨hrow.out.1, .inl h0⟩
        · exact ⟨hrow.out.1, .inr ⟨g, cap, cur, e9, hb, (g4.block g (Array.getElem?_eq_some_iff.1 hh).1 (fun e => by have := Option.some.inj e; omega)).trans hh, h4, h5, h6, h7⟩⟩
      exact hrow9.rs hat.out

def dayBs : ByteArray := ⟨#[100, 97, 121]⟩
/-- the value of a leaf -/
def leafV (t d : Int) (b : Bool) (n : Int) : V := lV [sV dayBs, iV t, iV d, iV (if b then 1 else 0), iV n]
def leafM (t d : Int) (b : Bool) (n : Int) : List UInt8 := enc (leafV t d b n)
theorem leaf_ck (t d : Int) (b : Bool) (n : Int) : ckE (leafV t d b n) = 0 := by
  have he : (⟨#[]⟩ : ByteArray) = ByteArray.empty := rfl
  have hd : dayBs.size = 3 := rfl
  simp [leafV, lV, iV, sV, ckE, fm, fmL, hd, he]
end Go.Proofs.YtnccbhndlnkboaaDoor
