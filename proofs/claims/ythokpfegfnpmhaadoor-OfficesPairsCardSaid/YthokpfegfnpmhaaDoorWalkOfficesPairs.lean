/- The walk of the statement OfficesPairs. -/
import Derived.Test.YthokpfegfnpmhaaDoorOwnPo
import Derived.Test.YthokpfegfnpmhaaDoorPoEq
import Derived.Test.YthokpfegfnpmhaaDoorMoreA
namespace Go.Proofs.YthokpfegfnpmhaaDoor
open Go.RowKit Go.Shelf Jac Cdc Sha
set_option linter.unusedVariables false
set_option linter.unusedSimpArgs false

/-- of two lists, one behind the other, turned: one place more -/
theorem take_rev {α : Type} (l : List α) (i n : Nat) (hn : l.length = n) (hi : i < n) (x : α) (hx : l[n - 1 - i]? = some x) : l.reverse.take (i + 1) = l.reverse.take i ++ [x] := by
  have h : l.reverse[i]? = some x := by rw [List.getElem?_reverse (by omega), hn]; exact hx
  rw [List.take_add_one, h]
  rfl
theorem mem_rev_root {l : List Po} (hp : ∀ x ∈ l, x.root.length = 32) (k : Nat) : ∀ x ∈ l.reverse.take k, x.root.length = 32 := fun x hx => hp x (List.mem_reverse.1 (List.mem_of_mem_take hx))

def FoP (key : Int) (l : List Po) (i j : Nat) : Prop := ∀ (a b : Nat) (x y : Po), a < b → (a < i ∨ (a = i ∧ b ≤ j)) → l[a]? = some x → l[b]? = some y → cvP key x y = (decide (a = i) && decide (b = j))
def AnyP (key : Int) (l : List Po) : Prop := ∃ a ∈ l, ∃ b ∈ l, cvP key a b = true

set_option maxRecDepth 100000 in
set_option maxHeartbeats 4000000 in
theorem opr_big (key : Int) (n n' : Nat) (A A' : Option Addr) (c c' : Nat) (w : World) (h : 10 < n) (hL : Laid w) :
    Calls Tryd.prog 11 #[.int .i64 key, .slice A n c, .slice A' n' c'] w fun e w' => e = .returned (.bool true) ∧ Below w.heap.size w w' := by
  have kS : Hid (Calls Tryd.prog 24 #[] w fun e w' => e = .returned (.bool true) ∧ Below w.heap.size w w') := Lib.hid (osane_any w hL)
  have d1 : decide (10 < (n : Int)) = true := decide_eq_true (by omega)
  clear hL
  go_enter Tryd.func11, Tryd.ntmps11
  go_wp2_with fail
  refine kS.out.mono ?_
  rintro e w1 ⟨rfl, hb⟩
  go_wp2_with fail
  go_ret
  exact ⟨rfl, hb⟩

set_option maxRecDepth 100000 in
set_option maxHeartbeats 4000000 in
theorem opr_more (key : Int) (n n' : Nat) (A A' : Option Addr) (c c' : Nat) (w : World) (h : n ≤ 10) (h2 : 3 < n') (hL : Laid w) :
    Calls Tryd.prog 11 #[.int .i64 key, .slice A n c, .slice A' n' c'] w fun e w' => e = .returned (.bool true) ∧ Below w.heap.size w w' := by
  have kS : Hid (Calls Tryd.prog 24 #[] w fun e w' => e = .returned (.bool true) ∧ Below w.heap.size w w') := Lib.hid (osane_any w hL)
  have d1 : decide (10 < (n : Int)) = false := decide_eq_false (by omega)
  have d2 : decide (3 < (n' : Int)) = true := decide_eq_true (by omega)
  clear hL
  go_enter Tryd.func11, Tryd.ntmps11
  go_wp2_with fail
  refine kS.out.mono ?_
  rintro e w1 ⟨rfl, hb⟩
  go_wp2_with fail
  go_ret
  exact ⟨rfl, hb⟩

set_option maxRecDepth 100000 in
set_option maxHeartbeats 4000000 in
theorem opr_in (key : Int) (l l' : List Po) (n n' : Nat) (A A' : Option Addr) (c c' : Nat) (w : World) (hn : l.length = n) (hn' : l'.length = n') (h : n ≤ 10) (h2 : n' ≤ 3) (hc : n ≤ c) (hls : PsAt w A l) (hls' : PsAt w A' l') (hp : ∀ x ∈ l, x.root.length = 32) (hp' : ∀ x ∈ l', x.root.length = 32) (hL : Laid w) :
    Calls Tryd.prog 11 #[.int .i64 key, .slice A n c, .slice A' n' c'] w fun e w' => e = .returned (.bool true) ∧ Below w.heap.size w w' := by
  have kS : Hid (Calls Tryd.prog 24 #[] w fun e w' => e = .returned (.bool true) ∧ Below w.heap.size w w') := Lib.hid (osane_any w hL)
  have d1 : decide (10 < (n : Int)) = false := decide_eq_false (by omega)
  have d2 : decide (3 < (n' : Int)) = false := decide_eq_false (by omega)
  have kC : Hid (∀ (V : World) (a b : Po) (ha : a.root.length = 32) (hb : b.root.length = 32), Below w.heap.size w V → Calls Tryd.prog 32 #[.int .i64 key, .agg (poC a).toArray, .agg (poC b).toArray] V fun e w' => e = .returned (.bool (cvP key a b)) ∧ Below V.heap.size V w') := Lib.hid fun V a b ha hb hV => oconvict_any key a b ha hb V (hL.below hV)
  have kF : Hid (∀ (V : World) (L : List Po) (N : Nat) (B : Option Addr) (C : Nat), Below w.heap.size w V → L.length = N → N ≤ 100 → N ≤ C → PsAt V B L → (∀ x ∈ L, x.root.length = 32) → Calls Tryd.prog 34 #[.int .i64 key, .slice B N C] V fun e w' => (∃ (i j : Nat) (ok : Bool), e = .returned (.tuple #[.int .i64 i, .int .i64 j, .bool ok]) ∧ FindP key L i j ok) ∧ Below V.heap.size V w') := Lib.hid fun V L N B C hV h1 h2 h3 h4 h5 => ofind_any key L N B C V h1 (by omega) h3 h4 h5 (hL.below hV)
  have bu1 : Hid (∀ x : Po, x.root.length = 32 → Tryd.prog.builtSlice 49 1 [(0, .agg (poC x).toArray)] = some (poC x).toArray) := Lib.hid builtSlice_po1
  have hww := Below.refl w.heap.size w
  replace hls := Lib.hid hls
  replace hls' := Lib.hid hls'
  replace hp := Lib.hid hp
  replace hp' := Lib.hid hp'
  replace hn := Lib.hid hn
  replace hn' := Lib.hid hn'
  clear hL
  go_enter Tryd.func11, Tryd.ntmps11
  go_wp2_with fail
  refine kS.out.mono ?_
  rintro e w1 ⟨rfl, hB1⟩
  clear hww
  go_wp2_with fail
  refine (kF.out _ l n A c hB1 hn.out (by omega) hc (hls.out.below hB1) hp.out).mono ?_
  rintro e w2 ⟨⟨i, j, ok, rfl, hF⟩, hb⟩
  replace hB1 := hB1.trans (hb.mono hB1.size)
  clear hb kS
  have fany := Lib.hid hF.any
  have fokt : Hid (ok = true → i < j ∧ j < n ∧ ∀ (a b : Nat) (x y : Po), a < b → (a < i ∨ (a = i ∧ b ≤ j)) → l[a]? = some x → l[b]? = some y → cvP key x y = (decide (a = i) && decide (b = j))) := Lib.hid (fun e => by
    rcases hF with ⟨_, hij, x, y, hx, hy, hc9, hl9⟩ | ⟨h9, _⟩
    · refine ⟨hij, by have := (List.getElem?_eq_some_iff.1 hy).1; rw [hn.out] at this; exact this, fun a b x' y' hab hlt hx' hy' => ?_⟩
      by_cases e9 : a = i ∧ b = j
      · obtain ⟨rfl, rfl⟩ := e9
        obtain rfl : x = x' := Option.some.inj (hx.symm.trans hx')
        obtain rfl : y = y' := Option.some.inj (hy.symm.trans hy')
        simp [hc9]
      · rw [hl9 a b x' y' hab (by omega) hx' hy']
        by_cases e1 : a = i
        · have : ¬ b = j := fun h => e9 ⟨e1, h⟩
          simp [this]
        · simp [e1]
    · rw [h9] at e; cases e)
  have fokf : ok = false → i = 0 ∧ j = 0 := (fun e => by
    rcases hF with ⟨h9, _⟩ | ⟨_, h1, h2, _⟩
    · rw [h9] at e; cases e
    · exact ⟨h1, h2⟩)
  clear hF
  cases ok with
  | false =>
    obtain ⟨rfl, rfl⟩ := fokf rfl
    clear fokf fokt
    go_wp2_with fail
    go_loopw [10, 67] (fun s10 s67 wr => ∃ (a : Nat), a ≤ n ∧ s67 = .int .i64 (a : Int) ∧ Below w.heap.size w wr ∧ RowP wr w.heap.size s10 (l.reverse.take a)) (fun _ s67 _ => n - (intOf s67).toNat)
    case atStart => exact ⟨0, Nat.zero_le _, rfl, hB1, RowP.nil _ _⟩
    case round =>
      clear hB1
      obtain ⟨a, han, rfl, hB, hrow⟩ := hrel
      by_cases hlt : a < n
      · obtain ⟨x, hx⟩ : ∃ x, l[a]? = some x := ⟨_, List.getElem?_eq_getElem (by rw [hn.out]; exact hlt)⟩
        obtain ⟨z, hz⟩ : ∃ z, l[n - 1 - a]? = some z := ⟨_, List.getElem?_eq_getElem (by rw [hn.out]; omega)⟩
        have hpx := hp.out x (List.mem_of_getElem? hx)
        have hpz := hp.out z (List.mem_of_getElem? hz)
        obtain ⟨g, o, hA, hgl, hrx⟩ := hls.out a x hx
        obtain ⟨g', o', hA', _, hrz⟩ := hls.out (n - 1 - a) z hz
        subst hA
        obtain ⟨rfl, rfl⟩ : g = g' ∧ o = o' := by injection hA' with h; injection h with h1 h2; exact ⟨h1, h2⟩
        obtain ⟨k, hk⟩ : ∃ k, n - 1 - a = k := ⟨_, rfl⟩
        have hkn : (n : Int) - 1 - (a : Int) = (k : Int) := by omega
        have hk0 : (0 : Int) ≤ (k : Int) := by omega
        have hk1 : (k : Int) < (n : Int) := by omega
        rw [hk] at hz hrz
        have hwz := Lib.hid (range_belowB hrz hgl hB)
        have iz := Lib.hid (po_info' hpz)
        have buz := bu1.out z hpz
        have htk := Lib.hid (take_rev l a n hn.out hlt z (by rw [hk]; exact hz))
        obtain ⟨rA, rm, rc, rfl⟩ : ∃ A m c, u10 = .slice A m c := by
          obtain ⟨rA, rc, e, _⟩ := hrow.ps (mem_rev_root hp.out a)
          exact ⟨rA, _, rc, e⟩
        have hlen : (l.reverse.take a).length ≤ 1000000 := by rw [List.length_take]; omega
        replace hlen := Lib.hid hlen
        replace hrow := Lib.hid hrow
        replace hrx := Lib.hid hrx
        replace hx := Lib.hid hx
        replace hpx := Lib.hid hpx
        replace hpz := Lib.hid hpz
        replace hgl := Lib.hid hgl
        clear hA' hrz hz
        go_wp2_with (first
          | (refine wpList_load_mid (by rfl) 49 (.tmp 77) (by rfl) g (o + k * 35) (by rfl) (poC z) _ hwz.out Tryd.underlying49 (by rfl) iz.out ?_)
          | (refine wpList_built (by rfl) 53 49 1 #[(0, .tmp 78)] (by rfl) Tryd.underlying53 (poC z).toArray (by simp only [List.map_toArray, List.map_cons, List.map_nil]; exact buz) ?_)
          | (refine wpList_appP _ (by rfl) (.tmp 70) (.tmp 79) (by rfl) w.heap.size (.slice rA rm rc) (l.reverse.take a) [z] (some ⟨wr.heap.size, 0, none⟩) 1 1 (by rfl) (by rfl) (by rfl)
              (psAt_row (by intro p hp9; simp at hp9; subst hp9; exact hpz.out) (heap_alloc_new wr (.cells (poC z).toArray 49)) (by simp [psC])) (hrow.out.below (blow1 wr _)) (by intro p hp9; simp at hp9; subst hp9; exact hpz.out) hlen.out (by decide) (by simp; exact Nat.le_succ_of_le hB.size) ?_; intro row' w3 hrow3 hg3))
        have hrow3' : RowP w3 w.heap.size row' (l.reverse.take (a + 1)) := by rw [htk.out]; exact hrow3
        have hB3 := RowP.grown (hrow.out.below (blow1 wr (.cells (poC z).toArray 49))) (hB.trans ((blow1 wr _).mono hB.size)) (Nat.le_refl _) (Nat.le_succ_of_le hB.size |> fun h => by simpa using h) hg3
        clear hrow3 hg3 hrow hwz iz buz htk hB hlen hpz
        obtain ⟨rA', rm', rc', rfl⟩ : ∃ A m c, row' = .slice A m c := by
          obtain ⟨rA, rc, e, _⟩ := hrow3'.ps (mem_rev_root hp.out (a + 1))
          exact ⟨rA, _, rc, e⟩
        replace hrow3' := Lib.hid hrow3'
        go_loopw [83] (fun s83 wr2 => ∃ (b : Nat), b ≤ n ∧ s83 = .int .i64 (b : Int) ∧ Below w.heap.size w wr2 ∧ Below w3.heap.size w3 wr2) (fun s83 _ => n - (intOf s83).toNat)
        case atStart => exact ⟨0, Nat.zero_le _, rfl, hB3, Below.refl _ _⟩
        case round =>
          clear hB3
          obtain ⟨b, hbn, rfl, hB, hB3⟩ := hrel
          by_cases hlt2 : b < n
          · obtain ⟨y, hy⟩ : ∃ y, l[b]? = some y := ⟨_, List.getElem?_eq_getElem (by rw [hn.out]; exact hlt2)⟩
            have hpy := hp.out y (List.mem_of_getElem? hy)
            obtain ⟨g', o', hA', _, hry⟩ := hls.out b y hy
            obtain ⟨rfl, rfl⟩ : g = g' ∧ o = o' := by injection hA' with h; injection h with h1 h2; exact ⟨h1, h2⟩
            have ix := Lib.hid (po_info' hpx.out)
            have iy := Lib.hid (po_info' hpy)
            have i3 : (0 : Int) ≤ (a : Int) := by omega
            have i4 : (a : Int) < (n : Int) := by omega
            have i5 : (0 : Int) ≤ (b : Int) := by omega
            have i6 : (b : Int) < (n : Int) := by omega
            have hS : Hid (∀ V, Below w.heap.size w V → V.rangeAt g (o + a * 35) (poC x) ∧ V.rangeAt g (o + b * 35) (poC y)) := Lib.hid fun V hV => ⟨range_belowB hrx.out hgl.out hV, range_belowB hry hgl.out hV⟩
            obtain ⟨res, hr9⟩ : ∃ res, cvP key x y = res := ⟨_, rfl⟩
            have kCa : Hid (∀ V, Below w.heap.size w V → Calls Tryd.prog 32 #[.int .i64 key, .agg (poC x).toArray, .agg (poC y).toArray] V fun e w' => e = .returned (.bool res) ∧ Below V.heap.size V w') := Lib.hid fun V hV => hr9 ▸ kC.out V x y hpx.out hpy hV
            have kCb : Hid (∀ V, Below w.heap.size w V → Calls Tryd.prog 32 #[.int .i64 key, .agg (poC y).toArray, .agg (poC x).toArray] V fun e w' => e = .returned (.bool res) ∧ Below V.heap.size V w') := Lib.hid fun V hV => hr9 ▸ cv_comm key y x ▸ kC.out V y x hpy hpx.out hV
            have bR : (res != res) = false := by simp
            have HB := hB.drew
            have HB3 := hB3.drew
            replace hr9 := Lib.hid hr9
            replace hy := Lib.hid hy
            clear hry hpy hA' hB hB3
            obtain rfl : res = false := by
              cases res with
              | false => rfl
              | true => exact absurd (fany.out.2 ⟨x, List.mem_of_getElem? hx.out, y, List.mem_of_getElem? hy.out, hr9.out⟩) (by decide)
            clear bR
            have bR : (false != false) = false := rfl
            go_wp2_with fail
            refine wp_region_held_drew (S := fun w' => w'.rangeAt g (o + a * 35) (poC x) ∧ w'.rangeAt g (o + b * 35) (poC y)) (by kernel_rfl) (by exact hS.out _ HB) (fun hHeld => ?_)
            refine wpAnyH_take (i := 0) (oi := { dst := some 86, op := Op.move (Operand.tmp 0), type := 3, pos := "law.go:180", after := #[], guard := none }) (v := ?_) rfl (by kernel_rfl) (by kernel_rfl) (by kernel_rfl) (fun _ _ _ h => h) (Or.inl ⟨by rfl, ?hy0⟩) hHeld ?rest0
            case hy0 =>
              intro w hSw
              try dsimp only at hSw
              go_simp
              try with_reducible rfl
            try simp only [Act.put, List.setIfInBounds_toArray, List.set_cons_zero, List.set_cons_succ]
            refine wpAnyH_take (i := 1) (oi := { dst := some 87, op := Op.move (Operand.tmp 1), type := 53, pos := "law.go:180", after := #[], guard := none }) (v := ?_) rfl (by kernel_rfl) (by kernel_rfl) (by kernel_rfl) (fun _ _ _ h => h) (Or.inl ⟨by rfl, ?hy1⟩) hHeld ?rest1
            case hy1 =>
              intro w hSw
              try dsimp only at hSw
              go_simp
              try with_reducible rfl
            try simp only [Act.put, List.setIfInBounds_toArray, List.set_cons_zero, List.set_cons_succ]
            refine wpAnyH_take (i := 2) (oi := { dst := some 88, op := Op.move (Operand.tmp 11), type := 3, pos := "law.go:180", after := #[], guard := none }) (v := ?_) rfl (by kernel_rfl) (by kernel_rfl) (by kernel_rfl) (fun _ _ _ h => h) (Or.inl ⟨by rfl, ?hy2⟩) hHeld ?rest2
            case hy2 =>
              intro w hSw
              try dsimp only at hSw
              go_simp
              try with_reducible rfl
            try simp only [Act.put, List.setIfInBounds_toArray, List.set_cons_zero, List.set_cons_succ]
            refine wpAnyH_take (i := 3) (oi := { dst := some 89, op := Op.indexAddr 53 (Operand.tmp 87) (Operand.tmp 88), type := 0, pos := "law.go:180", after := #[{ on := 1, ground := Ground.data }, { on := 2, ground := Ground.data }], guard := none }) (v := ?_) rfl (by kernel_rfl) (by kernel_rfl) (by kernel_rfl) (fun _ _ _ h => h) (Or.inl ⟨by rfl, ?hy3⟩) hHeld ?rest3
            case hy3 =>
              intro w hSw
              try dsimp only at hSw
              go_simp
              try with_reducible rfl
            try simp only [Act.put, List.setIfInBounds_toArray, List.set_cons_zero, List.set_cons_succ]
            refine wpAnyH_take (i := 4) (oi := { dst := some 90, op := Op.load 49 (Operand.tmp 89), type := 49, pos := "law.go:180", after := #[{ on := 3, ground := Ground.data }], guard := none }) (v := _) rfl (by kernel_rfl) (by kernel_rfl) (by kernel_rfl) (fun _ _ _ h => h) (yieldsIf_load_mid (by rfl) 49 (.tmp 89) rfl g (o + a * 35) rfl (poC x) _ (fun _ h => h.1) Tryd.underlying49 rfl ix.out) hHeld ?_
            try simp only [Act.put, List.setIfInBounds_toArray, List.set_cons_zero, List.set_cons_succ]
            refine wpAnyH_take (i := 5) (oi := { dst := some 91, op := Op.move (Operand.tmp 1), type := 53, pos := "law.go:180", after := #[], guard := none }) (v := ?_) rfl (by kernel_rfl) (by kernel_rfl) (by kernel_rfl) (fun _ _ _ h => h) (Or.inl ⟨by rfl, ?hy5⟩) hHeld ?rest5
            case hy5 =>
              intro w hSw
              try dsimp only at hSw
              go_simp
              try with_reducible rfl
            try simp only [Act.put, List.setIfInBounds_toArray, List.set_cons_zero, List.set_cons_succ]
            refine wpAnyH_take (i := 6) (oi := { dst := some 92, op := Op.move (Operand.tmp 12), type := 3, pos := "law.go:180", after := #[], guard := none }) (v := ?_) rfl (by kernel_rfl) (by kernel_rfl) (by kernel_rfl) (fun _ _ _ h => h) (Or.inl ⟨by rfl, ?hy6⟩) hHeld ?rest6
            case hy6 =>
              intro w hSw
              try dsimp only at hSw
              go_simp
              try with_reducible rfl
            try simp only [Act.put, List.setIfInBounds_toArray, List.set_cons_zero, List.set_cons_succ]
            refine wpAnyH_take (i := 7) (oi := { dst := some 93, op := Op.indexAddr 53 (Operand.tmp 91) (Operand.tmp 92), type := 0, pos := "law.go:180", after := #[{ on := 5, ground := Ground.data }, { on := 6, ground := Ground.data }], guard := none }) (v := ?_) rfl (by kernel_rfl) (by kernel_rfl) (by kernel_rfl) (fun _ _ _ h => h) (Or.inl ⟨by rfl, ?hy7⟩) hHeld ?rest7
            case hy7 =>
              intro w hSw
              try dsimp only at hSw
              go_simp
              try with_reducible rfl
            try simp only [Act.put, List.setIfInBounds_toArray, List.set_cons_zero, List.set_cons_succ]
            refine wpAnyH_take (i := 8) (oi := { dst := some 94, op := Op.load 49 (Operand.tmp 93), type := 49, pos := "law.go:180", after := #[{ on := 7, ground := Ground.data }], guard := none }) (v := _) rfl (by kernel_rfl) (by kernel_rfl) (by kernel_rfl) (fun _ _ _ h => h) (yieldsIf_load_mid (by rfl) 49 (.tmp 93) rfl g (o + b * 35) rfl (poC y) _ (fun _ h => h.2) Tryd.underlying49 rfl iy.out) hHeld ?_
            try simp only [Act.put, List.setIfInBounds_toArray, List.set_cons_zero, List.set_cons_succ]
            refine wpAnyH_ready (rs := [9]) (by kernel_rfl) (by simp) (AllReadyH.cons (o := { dst := some 95, op := Op.call { callee := Callee.value (Operand.func 32), args := #[Operand.tmp 86, Operand.tmp 90, Operand.tmp 94], argTypes := #[3, 49, 49] }, type := 4, pos := "law.go:180", after := #[{ on := 0, ground := Ground.data }, { on := 4, ground := Ground.data }, { on := 8, ground := Ground.data }], guard := none }) rfl (fun K hK => ?_) AllReadyH.nil)
            go_simp
            go_at_call 32
            refine (kCa.out _ HB).mono ?_
            rintro e w4 ⟨rfl, hbb⟩
            replace HB := HB.trans (hbb.mono HB.size)
            replace HB3 := HB3.trans (hbb.mono HB3.size)
            clear hbb
            refine hK.out _ _ (by exact hS.out _ HB) (fun hHeld' => ?_)
            clear hK K hHeld
            have hHeld := hHeld'
            clear hHeld'
            try simp only [Act.put, List.setIfInBounds_toArray, List.set_cons_zero, List.set_cons_succ]
            refine wpAnyH_take (i := 10) (oi := { dst := some 13, op := Op.assign (Operand.tmp 95), type := 4, pos := "law.go:180", after := #[{ on := 9, ground := Ground.data }, { on := 9, ground := Ground.chain }, { on := 0, ground := Ground.phase }, { on := 1, ground := Ground.phase }, { on := 2, ground := Ground.phase }, { on := 3, ground := Ground.phase }, { on := 4, ground := Ground.phase }, { on := 5, ground := Ground.phase }, { on := 6, ground := Ground.phase }, { on := 7, ground := Ground.phase }, { on := 8, ground := Ground.phase }, { on := 9, ground := Ground.phase }], guard := none }) (v := ?_) rfl (by kernel_rfl) (by kernel_rfl) (by kernel_rfl) (fun _ _ _ h => h) (Or.inl ⟨by rfl, ?hy10⟩) hHeld ?rest10
            case hy10 =>
              intro w hSw
              try dsimp only at hSw
              go_simp
              try with_reducible rfl
            try simp only [Act.put, List.setIfInBounds_toArray, List.set_cons_zero, List.set_cons_succ]
            refine wpAnyH_done (by kernel_rfl) ?_ _
            replace HB := HB.drew
            replace HB3 := HB3.drew
            go_wp2_with fail
            refine wp_region_held_drew (S := fun w' => w'.rangeAt g (o + a * 35) (poC x) ∧ w'.rangeAt g (o + b * 35) (poC y)) (by kernel_rfl) (by exact hS.out _ HB) (fun hHeld => ?_)
            refine wpAnyH_take (i := 0) (oi := { dst := some 96, op := Op.move (Operand.tmp 13), type := 4, pos := "law.go:181", after := #[], guard := none }) (v := ?_) rfl (by kernel_rfl) (by kernel_rfl) (by kernel_rfl) (fun _ _ _ h => h) (Or.inl ⟨by rfl, ?hya0⟩) hHeld ?resta0
            case hya0 =>
              intro w hSw
              try dsimp only at hSw
              go_simp
              try with_reducible rfl
            try simp only [Act.put, List.setIfInBounds_toArray, List.set_cons_zero, List.set_cons_succ]
            refine wpAnyH_take (i := 1) (oi := { dst := some 97, op := Op.move (Operand.tmp 0), type := 3, pos := "law.go:181", after := #[], guard := none }) (v := ?_) rfl (by kernel_rfl) (by kernel_rfl) (by kernel_rfl) (fun _ _ _ h => h) (Or.inl ⟨by rfl, ?hya1⟩) hHeld ?resta1
            case hya1 =>
              intro w hSw
              try dsimp only at hSw
              go_simp
              try with_reducible rfl
            try simp only [Act.put, List.setIfInBounds_toArray, List.set_cons_zero, List.set_cons_succ]
            refine wpAnyH_take (i := 2) (oi := { dst := some 98, op := Op.move (Operand.tmp 1), type := 53, pos := "law.go:181", after := #[], guard := none }) (v := ?_) rfl (by kernel_rfl) (by kernel_rfl) (by kernel_rfl) (fun _ _ _ h => h) (Or.inl ⟨by rfl, ?hya2⟩) hHeld ?resta2
            case hya2 =>
              intro w hSw
              try dsimp only at hSw
              go_simp
              try with_reducible rfl
            try simp only [Act.put, List.setIfInBounds_toArray, List.set_cons_zero, List.set_cons_succ]
            refine wpAnyH_take (i := 3) (oi := { dst := some 99, op := Op.move (Operand.tmp 12), type := 3, pos := "law.go:181", after := #[], guard := none }) (v := ?_) rfl (by kernel_rfl) (by kernel_rfl) (by kernel_rfl) (fun _ _ _ h => h) (Or.inl ⟨by rfl, ?hya3⟩) hHeld ?resta3
            case hya3 =>
              intro w hSw
              try dsimp only at hSw
              go_simp
              try with_reducible rfl
            try simp only [Act.put, List.setIfInBounds_toArray, List.set_cons_zero, List.set_cons_succ]
            refine wpAnyH_take (i := 4) (oi := { dst := some 100, op := Op.indexAddr 53 (Operand.tmp 98) (Operand.tmp 99), type := 0, pos := "law.go:181", after := #[{ on := 2, ground := Ground.data }, { on := 3, ground := Ground.data }], guard := none }) (v := ?_) rfl (by kernel_rfl) (by kernel_rfl) (by kernel_rfl) (fun _ _ _ h => h) (Or.inl ⟨by rfl, ?hya4⟩) hHeld ?resta4
            case hya4 =>
              intro w hSw
              try dsimp only at hSw
              go_simp
              try with_reducible rfl
            try simp only [Act.put, List.setIfInBounds_toArray, List.set_cons_zero, List.set_cons_succ]
            refine wpAnyH_take (i := 5) (oi := { dst := some 101, op := Op.load 49 (Operand.tmp 100), type := 49, pos := "law.go:181", after := #[{ on := 4, ground := Ground.data }], guard := none }) (v := _) rfl (by kernel_rfl) (by kernel_rfl) (by kernel_rfl) (fun _ _ _ h => h) (yieldsIf_load_mid (by rfl) 49 (.tmp 100) rfl g (o + b * 35) rfl (poC y) _ (fun _ h => h.2) Tryd.underlying49 rfl iy.out) hHeld ?_
            try simp only [Act.put, List.setIfInBounds_toArray, List.set_cons_zero, List.set_cons_succ]
            refine wpAnyH_take (i := 6) (oi := { dst := some 102, op := Op.move (Operand.tmp 1), type := 53, pos := "law.go:181", after := #[], guard := none }) (v := ?_) rfl (by kernel_rfl) (by kernel_rfl) (by kernel_rfl) (fun _ _ _ h => h) (Or.inl ⟨by rfl, ?hya6⟩) hHeld ?resta6
            case hya6 =>
              intro w hSw
              try dsimp only at hSw
              go_simp
              try with_reducible rfl
            try simp only [Act.put, List.setIfInBounds_toArray, List.set_cons_zero, List.set_cons_succ]
            refine wpAnyH_take (i := 7) (oi := { dst := some 103, op := Op.move (Operand.tmp 11), type := 3, pos := "law.go:181", after := #[], guard := none }) (v := ?_) rfl (by kernel_rfl) (by kernel_rfl) (by kernel_rfl) (fun _ _ _ h => h) (Or.inl ⟨by rfl, ?hya7⟩) hHeld ?resta7
            case hya7 =>
              intro w hSw
              try dsimp only at hSw
              go_simp
              try with_reducible rfl
            try simp only [Act.put, List.setIfInBounds_toArray, List.set_cons_zero, List.set_cons_succ]
            refine wpAnyH_take (i := 8) (oi := { dst := some 104, op := Op.indexAddr 53 (Operand.tmp 102) (Operand.tmp 103), type := 0, pos := "law.go:181", after := #[{ on := 6, ground := Ground.data }, { on := 7, ground := Ground.data }], guard := none }) (v := ?_) rfl (by kernel_rfl) (by kernel_rfl) (by kernel_rfl) (fun _ _ _ h => h) (Or.inl ⟨by rfl, ?hya8⟩) hHeld ?resta8
            case hya8 =>
              intro w hSw
              try dsimp only at hSw
              go_simp
              try with_reducible rfl
            try simp only [Act.put, List.setIfInBounds_toArray, List.set_cons_zero, List.set_cons_succ]
            refine wpAnyH_take (i := 9) (oi := { dst := some 105, op := Op.load 49 (Operand.tmp 104), type := 49, pos := "law.go:181", after := #[{ on := 8, ground := Ground.data }], guard := none }) (v := _) rfl (by kernel_rfl) (by kernel_rfl) (by kernel_rfl) (fun _ _ _ h => h) (yieldsIf_load_mid (by rfl) 49 (.tmp 104) rfl g (o + a * 35) rfl (poC x) _ (fun _ h => h.1) Tryd.underlying49 rfl ix.out) hHeld ?_
            try simp only [Act.put, List.setIfInBounds_toArray, List.set_cons_zero, List.set_cons_succ]
            refine wpAnyH_ready (rs := [10]) (by kernel_rfl) (by simp) (AllReadyH.cons (o := { dst := some 106, op := Op.call { callee := Callee.value (Operand.func 32), args := #[Operand.tmp 97, Operand.tmp 101, Operand.tmp 105], argTypes := #[3, 49, 49] }, type := 4, pos := "law.go:181", after := #[{ on := 1, ground := Ground.data }, { on := 5, ground := Ground.data }, { on := 9, ground := Ground.data }], guard := none }) rfl (fun K hK => ?_) AllReadyH.nil)
            go_simp
            go_at_call 32
            refine (kCb.out _ HB).mono ?_
            rintro e w5 ⟨rfl, hbb⟩
            replace HB := HB.trans (hbb.mono HB.size)
            replace HB3 := HB3.trans (hbb.mono HB3.size)
            clear hbb
            refine hK.out _ _ (by exact hS.out _ HB) (fun hHeld' => ?_)
            clear hK K hHeld
            have hHeld := hHeld'
            clear hHeld'
            try simp only [Act.put, List.setIfInBounds_toArray, List.set_cons_zero, List.set_cons_succ]
            refine wpAnyH_take (i := 11) (oi := { dst := some 107, op := Op.binOp BinOp.neq 4 (Operand.tmp 96) (Operand.tmp 106) 4, type := 4, pos := "law.go:181", after := #[{ on := 0, ground := Ground.data }, { on := 10, ground := Ground.data }], guard := none }) (v := ?_) rfl (by kernel_rfl) (by kernel_rfl) (by kernel_rfl) (fun _ _ _ h => h) (Or.inl ⟨by rfl, ?hya11⟩) hHeld ?resta11
            case hya11 =>
              intro w hSw
              try dsimp only at hSw
              go_simp
              try with_reducible rfl
            try simp only [Act.put, List.setIfInBounds_toArray, List.set_cons_zero, List.set_cons_succ]
            refine wpAnyH_take (i := 12) (oi := { dst := some 108, op := Op.move (Operand.tmp 107), type := 4, pos := "law.go:181", after := #[{ on := 11, ground := Ground.data }, { on := 10, ground := Ground.chain }], guard := none }) (v := ?_) rfl (by kernel_rfl) (by kernel_rfl) (by kernel_rfl) (fun _ _ _ h => h) (Or.inl ⟨by rfl, ?hya12⟩) hHeld ?resta12
            case hya12 =>
              intro w hSw
              try dsimp only at hSw
              go_simp
              try with_reducible rfl
            try simp only [Act.put, List.setIfInBounds_toArray, List.set_cons_zero, List.set_cons_succ]
            refine wpAnyH_take (i := 13) (oi := { dst := some 109, op := Op.move (Operand.tmp 13), type := 4, pos := "law.go:181", after := #[{ on := 12, ground := Ground.guard }], guard := some (12, false) }) (v := ?_) rfl (by kernel_rfl) (by kernel_rfl) (by kernel_rfl) (fun _ _ _ h => h) (Or.inl ⟨by rfl, ?hya13⟩) hHeld ?resta13
            case hya13 =>
              intro w hSw
              try dsimp only at hSw
              go_simp
              try with_reducible rfl
            try simp only [Act.put, List.setIfInBounds_toArray, List.set_cons_zero, List.set_cons_succ]
            refine wpAnyH_take (i := 14) (oi := { dst := some 110, op := Op.move (Operand.tmp 109), type := 4, pos := "law.go:181", after := #[{ on := 13, ground := Ground.data }, { on := 12, ground := Ground.chain }, { on := 12, ground := Ground.guard }], guard := some (12, false) }) (v := ?_) rfl (by kernel_rfl) (by kernel_rfl) (by kernel_rfl) (fun _ _ _ h => h) (Or.inl ⟨by rfl, ?hya14⟩) hHeld ?resta14
            case hya14 =>
              intro w hSw
              try dsimp only at hSw
              go_simp
              try with_reducible rfl
            try simp only [Act.put, List.setIfInBounds_toArray, List.set_cons_zero, List.set_cons_succ]
            refine wpAnyH_take (i := 15) (oi := { dst := some 111, op := Op.move (Operand.tmp 9), type := 4, pos := "law.go:181", after := #[{ on := 14, ground := Ground.guard }], guard := some (14, true) }) (v := undef) rfl (by kernel_rfl) (by kernel_rfl) (by kernel_rfl) (fun _ _ _ h => h) (Or.inr ⟨by rfl, rfl⟩) hHeld ?_
            try simp only [Act.put, List.setIfInBounds_toArray, List.set_cons_zero, List.set_cons_succ]
            refine wpAnyH_take (i := 16) (oi := { dst := some 112, op := Op.unOp UnOp.not 4 (Operand.tmp 111), type := 4, pos := "law.go:181", after := #[{ on := 15, ground := Ground.data }, { on := 14, ground := Ground.guard }], guard := some (14, true) }) (v := undef) rfl (by kernel_rfl) (by kernel_rfl) (by kernel_rfl) (fun _ _ _ h => h) (Or.inr ⟨by rfl, rfl⟩) hHeld ?_
            try simp only [Act.put, List.setIfInBounds_toArray, List.set_cons_zero, List.set_cons_succ]
            refine wpAnyH_take (i := 17) (oi := { dst := some 113, op := Op.pick (Operand.tmp 110) (Operand.tmp 112) (Operand.const (Value.bool false)), type := 4, pos := "law.go:181", after := #[{ on := 14, ground := Ground.data }, { on := 16, ground := Ground.data }, { on := 12, ground := Ground.guard }], guard := some (12, false) }) (v := ?_) rfl (by kernel_rfl) (by kernel_rfl) (by kernel_rfl) (fun _ _ _ h => h) (Or.inl ⟨by rfl, ?hya17⟩) hHeld ?resta17
            case hya17 =>
              intro w hSw
              try dsimp only at hSw
              go_simp
              try with_reducible rfl
            try simp only [Act.put, List.setIfInBounds_toArray, List.set_cons_zero, List.set_cons_succ]
            refine wpAnyH_take (i := 18) (oi := { dst := some 114, op := Op.pick (Operand.tmp 108) (Operand.const (Value.bool true)) (Operand.tmp 113), type := 4, pos := "law.go:181", after := #[{ on := 12, ground := Ground.data }, { on := 17, ground := Ground.data }], guard := none }) (v := ?_) rfl (by kernel_rfl) (by kernel_rfl) (by kernel_rfl) (fun _ _ _ h => h) (Or.inl ⟨by rfl, ?hya18⟩) hHeld ?resta18
            case hya18 =>
              intro w hSw
              try dsimp only at hSw
              go_simp
              try with_reducible rfl
            try simp only [Act.put, List.setIfInBounds_toArray, List.set_cons_zero, List.set_cons_succ]
            refine wpAnyH_done (by kernel_rfl) ?_ _
            go_wp2_with fail
            clear hS kCa kCb bR ix iy
            go_roundw
            case rel => exact ⟨b + 1, by omega, by go_num, HB, HB3⟩
            case measure => simp [intOf]; omega
          · obtain rfl : b = n := by omega
            go_wp2_with fail
            go_roundw
            case rel => exact ⟨a + 1, by omega, by go_num, hB, hrow3'.out.below hB3⟩
            case measure => simp [intOf]; omega
      · obtain rfl : n = a := by omega
        have hnl : (l.reverse.take n).length = n := by rw [List.length_take, List.length_reverse, hn.out]; omega
        have htl : l.reverse.take n = l.reverse := List.take_of_length_le (by rw [List.length_reverse, hn.out]; omega)
        obtain ⟨rA, rc, e9, hcap, hps⟩ := hrow.ps (mem_rev_root hp.out n)
        rw [hnl] at e9 hcap
        rw [htl] at hps
        subst e9
        have hpr : ∀ x ∈ l.reverse, x.root.length = 32 := fun x hx => hp.out x (List.mem_reverse.1 hx)
        have hlr : l.reverse.length = n := by rw [List.length_reverse, hn.out]
        replace hps := Lib.hid hps
        replace hpr := Lib.hid hpr
        replace hlr := Lib.hid hlr
        clear hrow hnl htl
        go_wp2_with fail
        refine (kF.out _ l.reverse n rA rc hB hlr.out (by omega) hcap hps.out hpr.out).mono ?_
        rintro e w2 ⟨⟨i1, j1, ok1, rfl, hF1⟩, hb⟩
        replace hB := hB.trans (hb.mono hB.size)
        obtain rfl : ok1 = false := by
          have h1 := hF1.any
          have h2 := fany.out
          simp only [List.mem_reverse] at h1
          rw [← h2] at h1
          cases ok1 <;> simp_all
        clear hb hps hpr hlr hF1 hcap
        go_wp2_with (first
          | (refine wpList_none (by rfl) (by rfl) ?_)
          | (refine wpList_appP _ (by rfl) (.tmp 159) (.tmp 160) (by rfl) w.heap.size _ [] l' A' n' c' (by rfl) (by rfl) hn'.out ((hls'.out.below hB).below (blow1 _ _)) (RowP.empty _ _ _ rfl hB.size) hp'.out (by decide) (by omega) (by simp; exact Nat.le_succ_of_le hB.size) ?_; intro row4 w4 hrow4 hg4; rw [List.nil_append] at hrow4; replace hB := RowP.grown (RowP.empty _ _ _ rfl hB.size) (hB.trans ((blow1 _ _).mono hB.size)) (Nat.le_refl _) (by simp; exact Nat.le_succ_of_le hB.size) hg4; clear hg4)
          | (refine wpList_appP _ (by rfl) (.tmp 161) (.tmp 162) (by rfl) w.heap.size row4 l' l A n c (by rfl) (by rfl) hn.out (hls.out.below hB) hrow4 hp.out (by rw [hn'.out]; omega) (by omega) hB.size ?_; intro row5 w5 hrow5 hg5; replace hB := RowP.grown hrow4 hB (Nat.le_refl _) hB.size hg5; clear hg5 hrow4; have hp9 : ∀ x ∈ l' ++ l, x.root.length = 32 := (fun x hx => (List.mem_append.1 hx).elim (hp'.out x) (hp.out x)); obtain ⟨B9, C9, e9, hcap, hps⟩ := hrow5.ps hp9; rw [List.length_append, hn'.out, hn.out] at e9 hcap; subst e9; replace hps := Lib.hid hps; replace hp9 := Lib.hid hp9; clear hrow5))
        refine (kF.out _ (l' ++ l) (n' + n) B9 C9 hB (by rw [List.length_append, hn'.out, hn.out]) (by omega) hcap hps.out hp9.out).mono ?_
        rintro e w6 ⟨⟨i2, j2, ok2, rfl, hF2⟩, hbb⟩
        replace hB := hB.trans (hbb.mono hB.size)
        clear hbb
        go_wp2_with fail
        go_ret
        exact ⟨rfl, hB⟩
  | true =>
    obtain ⟨hij, hjn, fo⟩ := fokt.out rfl
    replace fo : FoP key l i j := fo
    have fa : AnyP key l := fany.out.1 rfl
    clear fokf fokt fany
    have q2 : ¬ j ≤ i := by omega
    have q3 : ¬ n ≤ j := by omega
    go_wp2_with fail
    go_loopw [10, 67] (fun s10 s67 wr => ∃ (a : Nat), a ≤ n ∧ s67 = .int .i64 (a : Int) ∧ Below w.heap.size w wr ∧ RowP wr w.heap.size s10 (l.reverse.take a)) (fun _ s67 _ => n - (intOf s67).toNat)
    case atStart => exact ⟨0, Nat.zero_le _, rfl, hB1, RowP.nil _ _⟩
    case round =>
      clear hB1
      obtain ⟨a, han, rfl, hB, hrow⟩ := hrel
      by_cases hlt : a < n
      · obtain ⟨x, hx⟩ : ∃ x, l[a]? = some x := ⟨_, List.getElem?_eq_getElem (by rw [hn.out]; exact hlt)⟩
        obtain ⟨z, hz⟩ : ∃ z, l[n - 1 - a]? = some z := ⟨_, List.getElem?_eq_getElem (by rw [hn.out]; omega)⟩
        have hpx := hp.out x (List.mem_of_getElem? hx)
        have hpz := hp.out z (List.mem_of_getElem? hz)
        obtain ⟨g, o, hA, hgl, hrx⟩ := hls.out a x hx
        obtain ⟨g', o', hA', _, hrz⟩ := hls.out (n - 1 - a) z hz
        subst hA
        obtain ⟨rfl, rfl⟩ : g = g' ∧ o = o' := by injection hA' with h; injection h with h1 h2; exact ⟨h1, h2⟩
        obtain ⟨k, hk⟩ : ∃ k, n - 1 - a = k := ⟨_, rfl⟩
        have hkn : (n : Int) - 1 - (a : Int) = (k : Int) := by omega
        have hk0 : (0 : Int) ≤ (k : Int) := by omega
        have hk1 : (k : Int) < (n : Int) := by omega
        rw [hk] at hz hrz
        have hwz := Lib.hid (range_belowB hrz hgl hB)
        have iz := Lib.hid (po_info' hpz)
        have buz := bu1.out z hpz
        have htk := Lib.hid (take_rev l a n hn.out hlt z (by rw [hk]; exact hz))
        obtain ⟨rA, rm, rc, rfl⟩ : ∃ A m c, u10 = .slice A m c := by
          obtain ⟨rA, rc, e, _⟩ := hrow.ps (mem_rev_root hp.out a)
          exact ⟨rA, _, rc, e⟩
        have hlen : (l.reverse.take a).length ≤ 1000000 := by rw [List.length_take]; omega
        replace hlen := Lib.hid hlen
        replace hrow := Lib.hid hrow
        replace hrx := Lib.hid hrx
        replace hx := Lib.hid hx
        replace hpx := Lib.hid hpx
        replace hpz := Lib.hid hpz
        replace hgl := Lib.hid hgl
        clear hA' hrz hz
        go_wp2_with (first
          | (refine wpList_load_mid (by rfl) 49 (.tmp 77) (by rfl) g (o + k * 35) (by rfl) (poC z) _ hwz.out Tryd.underlying49 (by rfl) iz.out ?_)
          | (refine wpList_built (by rfl) 53 49 1 #[(0, .tmp 78)] (by rfl) Tryd.underlying53 (poC z).toArray (by simp only [List.map_toArray, List.map_cons, List.map_nil]; exact buz) ?_)
          | (refine wpList_appP _ (by rfl) (.tmp 70) (.tmp 79) (by rfl) w.heap.size (.slice rA rm rc) (l.reverse.take a) [z] (some ⟨wr.heap.size, 0, none⟩) 1 1 (by rfl) (by rfl) (by rfl)
              (psAt_row (by intro p hp9; simp at hp9; subst hp9; exact hpz.out) (heap_alloc_new wr (.cells (poC z).toArray 49)) (by simp [psC])) (hrow.out.below (blow1 wr _)) (by intro p hp9; simp at hp9; subst hp9; exact hpz.out) hlen.out (by decide) (by simp; exact Nat.le_succ_of_le hB.size) ?_; intro row' w3 hrow3 hg3))
        have hrow3' : RowP w3 w.heap.size row' (l.reverse.take (a + 1)) := by rw [htk.out]; exact hrow3
        have hB3 := RowP.grown (hrow.out.below (blow1 wr (.cells (poC z).toArray 49))) (hB.trans ((blow1 wr _).mono hB.size)) (Nat.le_refl _) (Nat.le_succ_of_le hB.size |> fun h => by simpa using h) hg3
        clear hrow3 hg3 hrow hwz iz buz htk hB hlen hpz
        obtain ⟨rA', rm', rc', rfl⟩ : ∃ A m c, row' = .slice A m c := by
          obtain ⟨rA, rc, e, _⟩ := hrow3'.ps (mem_rev_root hp.out (a + 1))
          exact ⟨rA, _, rc, e⟩
        replace hrow3' := Lib.hid hrow3'
        go_loopw [83] (fun s83 wr2 => ∃ (b : Nat), b ≤ n ∧ s83 = .int .i64 (b : Int) ∧ Below w.heap.size w wr2 ∧ Below w3.heap.size w3 wr2) (fun s83 _ => n - (intOf s83).toNat)
        case atStart => exact ⟨0, Nat.zero_le _, rfl, hB3, Below.refl _ _⟩
        case round =>
          clear hB3
          obtain ⟨b, hbn, rfl, hB, hB3⟩ := hrel
          by_cases hlt2 : b < n
          · obtain ⟨y, hy⟩ : ∃ y, l[b]? = some y := ⟨_, List.getElem?_eq_getElem (by rw [hn.out]; exact hlt2)⟩
            have hpy := hp.out y (List.mem_of_getElem? hy)
            obtain ⟨g', o', hA', _, hry⟩ := hls.out b y hy
            obtain ⟨rfl, rfl⟩ : g = g' ∧ o = o' := by injection hA' with h; injection h with h1 h2; exact ⟨h1, h2⟩
            have ix := Lib.hid (po_info' hpx.out)
            have iy := Lib.hid (po_info' hpy)
            have i3 : (0 : Int) ≤ (a : Int) := by omega
            have i4 : (a : Int) < (n : Int) := by omega
            have i5 : (0 : Int) ≤ (b : Int) := by omega
            have i6 : (b : Int) < (n : Int) := by omega
            have hS : Hid (∀ V, Below w.heap.size w V → V.rangeAt g (o + a * 35) (poC x) ∧ V.rangeAt g (o + b * 35) (poC y)) := Lib.hid fun V hV => ⟨range_belowB hrx.out hgl.out hV, range_belowB hry hgl.out hV⟩
            obtain ⟨res, hr9⟩ : ∃ res, cvP key x y = res := ⟨_, rfl⟩
            have kCa : Hid (∀ V, Below w.heap.size w V → Calls Tryd.prog 32 #[.int .i64 key, .agg (poC x).toArray, .agg (poC y).toArray] V fun e w' => e = .returned (.bool res) ∧ Below V.heap.size V w') := Lib.hid fun V hV => hr9 ▸ kC.out V x y hpx.out hpy hV
            have kCb : Hid (∀ V, Below w.heap.size w V → Calls Tryd.prog 32 #[.int .i64 key, .agg (poC y).toArray, .agg (poC x).toArray] V fun e w' => e = .returned (.bool res) ∧ Below V.heap.size V w') := Lib.hid fun V hV => hr9 ▸ cv_comm key y x ▸ kC.out V y x hpy hpx.out hV
            have bR : (res != res) = false := by simp
            have HB := hB.drew
            have HB3 := hB3.drew
            replace hr9 := Lib.hid hr9
            replace hy := Lib.hid hy
            clear hry hpy hA' hB hB3
            cases res with
            | false =>
              go_wp2_with fail
              refine wp_region_held_drew (S := fun w' => w'.rangeAt g (o + a * 35) (poC x) ∧ w'.rangeAt g (o + b * 35) (poC y)) (by kernel_rfl) (by exact hS.out _ HB) (fun hHeld => ?_)
              refine wpAnyH_take (i := 0) (oi := { dst := some 86, op := Op.move (Operand.tmp 0), type := 3, pos := "law.go:180", after := #[], guard := none }) (v := ?_) rfl (by kernel_rfl) (by kernel_rfl) (by kernel_rfl) (fun _ _ _ h => h) (Or.inl ⟨by rfl, ?hyaa0⟩) hHeld ?restaa0
              case hyaa0 =>
                intro w hSw
                try dsimp only at hSw
                go_simp
                try with_reducible rfl
              try simp only [Act.put, List.setIfInBounds_toArray, List.set_cons_zero, List.set_cons_succ]
              refine wpAnyH_take (i := 1) (oi := { dst := some 87, op := Op.move (Operand.tmp 1), type := 53, pos := "law.go:180", after := #[], guard := none }) (v := ?_) rfl (by kernel_rfl) (by kernel_rfl) (by kernel_rfl) (fun _ _ _ h => h) (Or.inl ⟨by rfl, ?hyaa1⟩) hHeld ?restaa1
              case hyaa1 =>
                intro w hSw
                try dsimp only at hSw
                go_simp
                try with_reducible rfl
              try simp only [Act.put, List.setIfInBounds_toArray, List.set_cons_zero, List.set_cons_succ]
              refine wpAnyH_take (i := 2) (oi := { dst := some 88, op := Op.move (Operand.tmp 11), type := 3, pos := "law.go:180", after := #[], guard := none }) (v := ?_) rfl (by kernel_rfl) (by kernel_rfl) (by kernel_rfl) (fun _ _ _ h => h) (Or.inl ⟨by rfl, ?hyaa2⟩) hHeld ?restaa2
              case hyaa2 =>
                intro w hSw
                try dsimp only at hSw
                go_simp
                try with_reducible rfl
              try simp only [Act.put, List.setIfInBounds_toArray, List.set_cons_zero, List.set_cons_succ]
              refine wpAnyH_take (i := 3) (oi := { dst := some 89, op := Op.indexAddr 53 (Operand.tmp 87) (Operand.tmp 88), type := 0, pos := "law.go:180", after := #[{ on := 1, ground := Ground.data }, { on := 2, ground := Ground.data }], guard := none }) (v := ?_) rfl (by kernel_rfl) (by kernel_rfl) (by kernel_rfl) (fun _ _ _ h => h) (Or.inl ⟨by rfl, ?hyaa3⟩) hHeld ?restaa3
              case hyaa3 =>
                intro w hSw
                try dsimp only at hSw
                go_simp
                try with_reducible rfl
              try simp only [Act.put, List.setIfInBounds_toArray, List.set_cons_zero, List.set_cons_succ]
              refine wpAnyH_take (i := 4) (oi := { dst := some 90, op := Op.load 49 (Operand.tmp 89), type := 49, pos := "law.go:180", after := #[{ on := 3, ground := Ground.data }], guard := none }) (v := _) rfl (by kernel_rfl) (by kernel_rfl) (by kernel_rfl) (fun _ _ _ h => h) (yieldsIf_load_mid (by rfl) 49 (.tmp 89) rfl g (o + a * 35) rfl (poC x) _ (fun _ h => h.1) Tryd.underlying49 rfl ix.out) hHeld ?_
              try simp only [Act.put, List.setIfInBounds_toArray, List.set_cons_zero, List.set_cons_succ]
              refine wpAnyH_take (i := 5) (oi := { dst := some 91, op := Op.move (Operand.tmp 1), type := 53, pos := "law.go:180", after := #[], guard := none }) (v := ?_) rfl (by kernel_rfl) (by kernel_rfl) (by kernel_rfl) (fun _ _ _ h => h) (Or.inl ⟨by rfl, ?hyaa5⟩) hHeld ?restaa5
              case hyaa5 =>
                intro w hSw
                try dsimp only at hSw
                go_simp
                try with_reducible rfl
              try simp only [Act.put, List.setIfInBounds_toArray, List.set_cons_zero, List.set_cons_succ]
              refine wpAnyH_take (i := 6) (oi := { dst := some 92, op := Op.move (Operand.tmp 12), type := 3, pos := "law.go:180", after := #[], guard := none }) (v := ?_) rfl (by kernel_rfl) (by kernel_rfl) (by kernel_rfl) (fun _ _ _ h => h) (Or.inl ⟨by rfl, ?hyaa6⟩) hHeld ?restaa6
              case hyaa6 =>
                intro w hSw
                try dsimp only at hSw
                go_simp
                try with_reducible rfl
              try simp only [Act.put, List.setIfInBounds_toArray, List.set_cons_zero, List.set_cons_succ]
              refine wpAnyH_take (i := 7) (oi := { dst := some 93, op := Op.indexAddr 53 (Operand.tmp 91) (Operand.tmp 92), type := 0, pos := "law.go:180", after := #[{ on := 5, ground := Ground.data }, { on := 6, ground := Ground.data }], guard := none }) (v := ?_) rfl (by kernel_rfl) (by kernel_rfl) (by kernel_rfl) (fun _ _ _ h => h) (Or.inl ⟨by rfl, ?hyaa7⟩) hHeld ?restaa7
              case hyaa7 =>
                intro w hSw
                try dsimp only at hSw
                go_simp
                try with_reducible rfl
              try simp only [Act.put, List.setIfInBounds_toArray, List.set_cons_zero, List.set_cons_succ]
              refine wpAnyH_take (i := 8) (oi := { dst := some 94, op := Op.load 49 (Operand.tmp 93), type := 49, pos := "law.go:180", after := #[{ on := 7, ground := Ground.data }], guard := none }) (v := _) rfl (by kernel_rfl) (by kernel_rfl) (by kernel_rfl) (fun _ _ _ h => h) (yieldsIf_load_mid (by rfl) 49 (.tmp 93) rfl g (o + b * 35) rfl (poC y) _ (fun _ h => h.2) Tryd.underlying49 rfl iy.out) hHeld ?_
              try simp only [Act.put, List.setIfInBounds_toArray, List.set_cons_zero, List.set_cons_succ]
              refine wpAnyH_ready (rs := [9]) (by kernel_rfl) (by simp) (AllReadyH.cons (o := { dst := some 95, op := Op.call { callee := Callee.value (Operand.func 32), args := #[Operand.tmp 86, Operand.tmp 90, Operand.tmp 94], argTypes := #[3, 49, 49] }, type := 4, pos := "law.go:180", after := #[{ on := 0, ground := Ground.data }, { on := 4, ground := Ground.data }, { on := 8, ground := Ground.data }], guard := none }) rfl (fun K hK => ?_) AllReadyH.nil)
              go_simp
              go_at_call 32
              refine (kCa.out _ HB).mono ?_
              rintro e w4 ⟨rfl, hbb⟩
              replace HB := HB.trans (hbb.mono HB.size)
              replace HB3 := HB3.trans (hbb.mono HB3.size)
              clear hbb
              refine hK.out _ _ (by exact hS.out _ HB) (fun hHeld' => ?_)
              clear hK K hHeld
              have hHeld := hHeld'
              clear hHeld'
              try simp only [Act.put, List.setIfInBounds_toArray, List.set_cons_zero, List.set_cons_succ]
              refine wpAnyH_take (i := 10) (oi := { dst := some 13, op := Op.assign (Operand.tmp 95), type := 4, pos := "law.go:180", after := #[{ on := 9, ground := Ground.data }, { on := 9, ground := Ground.chain }, { on := 0, ground := Ground.phase }, { on := 1, ground := Ground.phase }, { on := 2, ground := Ground.phase }, { on := 3, ground := Ground.phase }, { on := 4, ground := Ground.phase }, { on := 5, ground := Ground.phase }, { on := 6, ground := Ground.phase }, { on := 7, ground := Ground.phase }, { on := 8, ground := Ground.phase }, { on := 9, ground := Ground.phase }], guard := none }) (v := ?_) rfl (by kernel_rfl) (by kernel_rfl) (by kernel_rfl) (fun _ _ _ h => h) (Or.inl ⟨by rfl, ?hyaa10⟩) hHeld ?restaa10
              case hyaa10 =>
                intro w hSw
                try dsimp only at hSw
                go_simp
                try with_reducible rfl
              try simp only [Act.put, List.setIfInBounds_toArray, List.set_cons_zero, List.set_cons_succ]
              refine wpAnyH_done (by kernel_rfl) ?_ _
              replace HB := HB.drew
              replace HB3 := HB3.drew
              go_wp2_with fail
              refine wp_region_held_drew (S := fun w' => w'.rangeAt g (o + a * 35) (poC x) ∧ w'.rangeAt g (o + b * 35) (poC y)) (by kernel_rfl) (by exact hS.out _ HB) (fun hHeld => ?_)
              refine wpAnyH_take (i := 0) (oi := { dst := some 96, op := Op.move (Operand.tmp 13), type := 4, pos := "law.go:181", after := #[], guard := none }) (v := ?_) rfl (by kernel_rfl) (by kernel_rfl) (by kernel_rfl) (fun _ _ _ h => h) (Or.inl ⟨by rfl, ?hyaaa0⟩) hHeld ?restaaa0
              case hyaaa0 =>
                intro w hSw
                try dsimp only at hSw
                go_simp
                try with_reducible rfl
              try simp only [Act.put, List.setIfInBounds_toArray, List.set_cons_zero, List.set_cons_succ]
              refine wpAnyH_take (i := 1) (oi := { dst := some 97, op := Op.move (Operand.tmp 0), type := 3, pos := "law.go:181", after := #[], guard := none }) (v := ?_) rfl (by kernel_rfl) (by kernel_rfl) (by kernel_rfl) (fun _ _ _ h => h) (Or.inl ⟨by rfl, ?hyaaa1⟩) hHeld ?restaaa1
              case hyaaa1 =>
                intro w hSw
                try dsimp only at hSw
                go_simp
                try with_reducible rfl
              try simp only [Act.put, List.setIfInBounds_toArray, List.set_cons_zero, List.set_cons_succ]
              refine wpAnyH_take (i := 2) (oi := { dst := some 98, op := Op.move (Operand.tmp 1), type := 53, pos := "law.go:181", after := #[], guard := none }) (v := ?_) rfl (by kernel_rfl) (by kernel_rfl) (by kernel_rfl) (fun _ _ _ h => h) (Or.inl ⟨by rfl, ?hyaaa2⟩) hHeld ?restaaa2
              case hyaaa2 =>
                intro w hSw
                try dsimp only at hSw
                go_simp
                try with_reducible rfl
              try simp only [Act.put, List.setIfInBounds_toArray, List.set_cons_zero, List.set_cons_succ]
              refine wpAnyH_take (i := 3) (oi := { dst := some 99, op := Op.move (Operand.tmp 12), type := 3, pos := "law.go:181", after := #[], guard := none }) (v := ?_) rfl (by kernel_rfl) (by kernel_rfl) (by kernel_rfl) (fun _ _ _ h => h) (Or.inl ⟨by rfl, ?hyaaa3⟩) hHeld ?restaaa3
              case hyaaa3 =>
                intro w hSw
                try dsimp only at hSw
                go_simp
                try with_reducible rfl
              try simp only [Act.put, List.setIfInBounds_toArray, List.set_cons_zero, List.set_cons_succ]
              refine wpAnyH_take (i := 4) (oi := { dst := some 100, op := Op.indexAddr 53 (Operand.tmp 98) (Operand.tmp 99), type := 0, pos := "law.go:181", after := #[{ on := 2, ground := Ground.data }, { on := 3, ground := Ground.data }], guard := none }) (v := ?_) rfl (by kernel_rfl) (by kernel_rfl) (by kernel_rfl) (fun _ _ _ h => h) (Or.inl ⟨by rfl, ?hyaaa4⟩) hHeld ?restaaa4
              case hyaaa4 =>
                intro w hSw
                try dsimp only at hSw
                go_simp
                try with_reducible rfl
              try simp only [Act.put, List.setIfInBounds_toArray, List.set_cons_zero, List.set_cons_succ]
              refine wpAnyH_take (i := 5) (oi := { dst := some 101, op := Op.load 49 (Operand.tmp 100), type := 49, pos := "law.go:181", after := #[{ on := 4, ground := Ground.data }], guard := none }) (v := _) rfl (by kernel_rfl) (by kernel_rfl) (by kernel_rfl) (fun _ _ _ h => h) (yieldsIf_load_mid (by rfl) 49 (.tmp 100) rfl g (o + b * 35) rfl (poC y) _ (fun _ h => h.2) Tryd.underlying49 rfl iy.out) hHeld ?_
              try simp only [Act.put, List.setIfInBounds_toArray, List.set_cons_zero, List.set_cons_succ]
              refine wpAnyH_take (i := 6) (oi := { dst := some 102, op := Op.move (Operand.tmp 1), type := 53, pos := "law.go:181", after := #[], guard := none }) (v := ?_) rfl (by kernel_rfl) (by kernel_rfl) (by kernel_rfl) (fun _ _ _ h => h) (Or.inl ⟨by rfl, ?hyaaa6⟩) hHeld ?restaaa6
              case hyaaa6 =>
                intro w hSw
                try dsimp only at hSw
                go_simp
                try with_reducible rfl
              try simp only [Act.put, List.setIfInBounds_toArray, List.set_cons_zero, List.set_cons_succ]
              refine wpAnyH_take (i := 7) (oi := { dst := some 103, op := Op.move (Operand.tmp 11), type := 3, pos := "law.go:181", after := #[], guard := none }) (v := ?_) rfl (by kernel_rfl) (by kernel_rfl) (by kernel_rfl) (fun _ _ _ h => h) (Or.inl ⟨by rfl, ?hyaaa7⟩) hHeld ?restaaa7
              case hyaaa7 =>
                intro w hSw
                try dsimp only at hSw
                go_simp
                try with_reducible rfl
              try simp only [Act.put, List.setIfInBounds_toArray, List.set_cons_zero, List.set_cons_succ]
              refine wpAnyH_take (i := 8) (oi := { dst := some 104, op := Op.indexAddr 53 (Operand.tmp 102) (Operand.tmp 103), type := 0, pos := "law.go:181", after := #[{ on := 6, ground := Ground.data }, { on := 7, ground := Ground.data }], guard := none }) (v := ?_) rfl (by kernel_rfl) (by kernel_rfl) (by kernel_rfl) (fun _ _ _ h => h) (Or.inl ⟨by rfl, ?hyaaa8⟩) hHeld ?restaaa8
              case hyaaa8 =>
                intro w hSw
                try dsimp only at hSw
                go_simp
                try with_reducible rfl
              try simp only [Act.put, List.setIfInBounds_toArray, List.set_cons_zero, List.set_cons_succ]
              refine wpAnyH_take (i := 9) (oi := { dst := some 105, op := Op.load 49 (Operand.tmp 104), type := 49, pos := "law.go:181", after := #[{ on := 8, ground := Ground.data }], guard := none }) (v := _) rfl (by kernel_rfl) (by kernel_rfl) (by kernel_rfl) (fun _ _ _ h => h) (yieldsIf_load_mid (by rfl) 49 (.tmp 104) rfl g (o + a * 35) rfl (poC x) _ (fun _ h => h.1) Tryd.underlying49 rfl ix.out) hHeld ?_
              try simp only [Act.put, List.setIfInBounds_toArray, List.set_cons_zero, List.set_cons_succ]
              refine wpAnyH_ready (rs := [10]) (by kernel_rfl) (by simp) (AllReadyH.cons (o := { dst := some 106, op := Op.call { callee := Callee.value (Operand.func 32), args := #[Operand.tmp 97, Operand.tmp 101, Operand.tmp 105], argTypes := #[3, 49, 49] }, type := 4, pos := "law.go:181", after := #[{ on := 1, ground := Ground.data }, { on := 5, ground := Ground.data }, { on := 9, ground := Ground.data }], guard := none }) rfl (fun K hK => ?_) AllReadyH.nil)
              go_simp
              go_at_call 32
              refine (kCb.out _ HB).mono ?_
              rintro e w5 ⟨rfl, hbb⟩
              replace HB := HB.trans (hbb.mono HB.size)
              replace HB3 := HB3.trans (hbb.mono HB3.size)
              clear hbb
              refine hK.out _ _ (by exact hS.out _ HB) (fun hHeld' => ?_)
              clear hK K hHeld
              have hHeld := hHeld'
              clear hHeld'
              try simp only [Act.put, List.setIfInBounds_toArray, List.set_cons_zero, List.set_cons_succ]
              refine wpAnyH_take (i := 11) (oi := { dst := some 107, op := Op.binOp BinOp.neq 4 (Operand.tmp 96) (Operand.tmp 106) 4, type := 4, pos := "law.go:181", after := #[{ on := 0, ground := Ground.data }, { on := 10, ground := Ground.data }], guard := none }) (v := ?_) rfl (by kernel_rfl) (by kernel_rfl) (by kernel_rfl) (fun _ _ _ h => h) (Or.inl ⟨by rfl, ?hyaaa11⟩) hHeld ?restaaa11
              case hyaaa11 =>
                intro w hSw
                try dsimp only at hSw
                go_simp
                try with_reducible rfl
              try simp only [Act.put, List.setIfInBounds_toArray, List.set_cons_zero, List.set_cons_succ]
              refine wpAnyH_take (i := 12) (oi := { dst := some 108, op := Op.move (Operand.tmp 107), type := 4, pos := "law.go:181", after := #[{ on := 11, ground := Ground.data }, { on := 10, ground := Ground.chain }], guard := none }) (v := ?_) rfl (by kernel_rfl) (by kernel_rfl) (by kernel_rfl) (fun _ _ _ h => h) (Or.inl ⟨by rfl, ?hyaaa12⟩) hHeld ?restaaa12
              case hyaaa12 =>
                intro w hSw
                try dsimp only at hSw
                go_simp
                try with_reducible rfl
              try simp only [Act.put, List.setIfInBounds_toArray, List.set_cons_zero, List.set_cons_succ]
              refine wpAnyH_take (i := 13) (oi := { dst := some 109, op := Op.move (Operand.tmp 13), type := 4, pos := "law.go:181", after := #[{ on := 12, ground := Ground.guard }], guard := some (12, false) }) (v := ?_) rfl (by kernel_rfl) (by kernel_rfl) (by kernel_rfl) (fun _ _ _ h => h) (Or.inl ⟨by rfl, ?hyaaa13⟩) hHeld ?restaaa13
              case hyaaa13 =>
                intro w hSw
                try dsimp only at hSw
                go_simp
                try with_reducible rfl
              try simp only [Act.put, List.setIfInBounds_toArray, List.set_cons_zero, List.set_cons_succ]
              refine wpAnyH_take (i := 14) (oi := { dst := some 110, op := Op.move (Operand.tmp 109), type := 4, pos := "law.go:181", after := #[{ on := 13, ground := Ground.data }, { on := 12, ground := Ground.chain }, { on := 12, ground := Ground.guard }], guard := some (12, false) }) (v := ?_) rfl (by kernel_rfl) (by kernel_rfl) (by kernel_rfl) (fun _ _ _ h => h) (Or.inl ⟨by rfl, ?hyaaa14⟩) hHeld ?restaaa14
              case hyaaa14 =>
                intro w hSw
                try dsimp only at hSw
                go_simp
                try with_reducible rfl
              try simp only [Act.put, List.setIfInBounds_toArray, List.set_cons_zero, List.set_cons_succ]
              refine wpAnyH_take (i := 15) (oi := { dst := some 111, op := Op.move (Operand.tmp 9), type := 4, pos := "law.go:181", after := #[{ on := 14, ground := Ground.guard }], guard := some (14, true) }) (v := undef) rfl (by kernel_rfl) (by kernel_rfl) (by kernel_rfl) (fun _ _ _ h => h) (Or.inr ⟨by rfl, rfl⟩) hHeld ?_
              try simp only [Act.put, List.setIfInBounds_toArray, List.set_cons_zero, List.set_cons_succ]
              refine wpAnyH_take (i := 16) (oi := { dst := some 112, op := Op.unOp UnOp.not 4 (Operand.tmp 111), type := 4, pos := "law.go:181", after := #[{ on := 15, ground := Ground.data }, { on := 14, ground := Ground.guard }], guard := some (14, true) }) (v := undef) rfl (by kernel_rfl) (by kernel_rfl) (by kernel_rfl) (fun _ _ _ h => h) (Or.inr ⟨by rfl, rfl⟩) hHeld ?_
              try simp only [Act.put, List.setIfInBounds_toArray, List.set_cons_zero, List.set_cons_succ]
              refine wpAnyH_take (i := 17) (oi := { dst := some 113, op := Op.pick (Operand.tmp 110) (Operand.tmp 112) (Operand.const (Value.bool false)), type := 4, pos := "law.go:181", after := #[{ on := 14, ground := Ground.data }, { on := 16, ground := Ground.data }, { on := 12, ground := Ground.guard }], guard := some (12, false) }) (v := ?_) rfl (by kernel_rfl) (by kernel_rfl) (by kernel_rfl) (fun _ _ _ h => h) (Or.inl ⟨by rfl, ?hyaaa17⟩) hHeld ?restaaa17
              case hyaaa17 =>
                intro w hSw
                try dsimp only at hSw
                go_simp
                try with_reducible rfl
              try simp only [Act.put, List.setIfInBounds_toArray, List.set_cons_zero, List.set_cons_succ]
              refine wpAnyH_take (i := 18) (oi := { dst := some 114, op := Op.pick (Operand.tmp 108) (Operand.const (Value.bool true)) (Operand.tmp 113), type := 4, pos := "law.go:181", after := #[{ on := 12, ground := Ground.data }, { on := 17, ground := Ground.data }], guard := none }) (v := ?_) rfl (by kernel_rfl) (by kernel_rfl) (by kernel_rfl) (fun _ _ _ h => h) (Or.inl ⟨by rfl, ?hyaaa18⟩) hHeld ?restaaa18
              case hyaaa18 =>
                intro w hSw
                try dsimp only at hSw
                go_simp
                try with_reducible rfl
              try simp only [Act.put, List.setIfInBounds_toArray, List.set_cons_zero, List.set_cons_succ]
              refine wpAnyH_done (by kernel_rfl) ?_ _
              clear hS kCa kCb bR ix iy
              by_cases c1 : a < b
              · by_cases c2 : a < i
                · have c3 : ¬ a = i := by omega
                  go_wp2_with fail
                  go_roundw
                  case rel => exact ⟨b + 1, by omega, by go_num, HB, HB3⟩
                  case measure => simp [intOf]; omega
                · by_cases c3 : a = i
                  · by_cases c4 : b ≤ j
                    · have c5 : ¬ b = j := by
                        have hq := fo a b x y c1 (by omega) hx.out hy.out
                        rw [hr9.out] at hq
                        simp at hq
                        omega
                      obtain rfl : a = i := c3
                      go_wp2_with fail
                      go_roundw
                      case rel => exact ⟨b + 1, by omega, by go_num, HB, HB3⟩
                      case measure => simp [intOf]; omega
                    · obtain rfl : a = i := c3
                      go_wp2_with fail
                      go_roundw
                      case rel => exact ⟨b + 1, by omega, by go_num, HB, HB3⟩
                      case measure => simp [intOf]; omega
                  · go_wp2_with fail
                    go_roundw
                    case rel => exact ⟨b + 1, by omega, by go_num, HB, HB3⟩
                    case measure => simp [intOf]; omega
              · go_wp2_with fail
                go_roundw
                case rel => exact ⟨b + 1, by omega, by go_num, HB, HB3⟩
                case measure => simp [intOf]; omega
            | true =>
              go_wp2_with fail
              refine wp_region_held_drew (S := fun w' => w'.rangeAt g (o + a * 35) (poC x) ∧ w'.rangeAt g (o + b * 35) (poC y)) (by kernel_rfl) (by exact hS.out _ HB) (fun hHeld => ?_)
              refine wpAnyH_take (i := 0) (oi := { dst := some 86, op := Op.move (Operand.tmp 0), type := 3, pos := "law.go:180", after := #[], guard := none }) (v := ?_) rfl (by kernel_rfl) (by kernel_rfl) (by kernel_rfl) (fun _ _ _ h => h) (Or.inl ⟨by rfl, ?hyaaaa0⟩) hHeld ?restaaaa0
              case hyaaaa0 =>
                intro w hSw
                try dsimp only at hSw
                go_simp
                try with_reducible rfl
              try simp only [Act.put, List.setIfInBounds_toArray, List.set_cons_zero, List.set_cons_succ]
              refine wpAnyH_take (i := 1) (oi := { dst := some 87, op := Op.move (Operand.tmp 1), type := 53, pos := "law.go:180", after := #[], guard := none }) (v := ?_) rfl (by kernel_rfl) (by kernel_rfl) (by kernel_rfl) (fun _ _ _ h => h) (Or.inl ⟨by rfl, ?hyaaaa1⟩) hHeld ?restaaaa1
              case hyaaaa1 =>
                intro w hSw
                try dsimp only at hSw
                go_simp
                try with_reducible rfl
              try simp only [Act.put, List.setIfInBounds_toArray, List.set_cons_zero, List.set_cons_succ]
              refine wpAnyH_take (i := 2) (oi := { dst := some 88, op := Op.move (Operand.tmp 11), type := 3, pos := "law.go:180", after := #[], guard := none }) (v := ?_) rfl (by kernel_rfl) (by kernel_rfl) (by kernel_rfl) (fun _ _ _ h => h) (Or.inl ⟨by rfl, ?hyaaaa2⟩) hHeld ?restaaaa2
              case hyaaaa2 =>
                intro w hSw
                try dsimp only at hSw
                go_simp
                try with_reducible rfl
              try simp only [Act.put, List.setIfInBounds_toArray, List.set_cons_zero, List.set_cons_succ]
              refine wpAnyH_take (i := 3) (oi := { dst := some 89, op := Op.indexAddr 53 (Operand.tmp 87) (Operand.tmp 88), type := 0, pos := "law.go:180", after := #[{ on := 1, ground := Ground.data }, { on := 2, ground := Ground.data }], guard := none }) (v := ?_) rfl (by kernel_rfl) (by kernel_rfl) (by kernel_rfl) (fun _ _ _ h => h) (Or.inl ⟨by rfl, ?hyaaaa3⟩) hHeld ?restaaaa3
              case hyaaaa3 =>
                intro w hSw
                try dsimp only at hSw
                go_simp
                try with_reducible rfl
              try simp only [Act.put, List.setIfInBounds_toArray, List.set_cons_zero, List.set_cons_succ]
              refine wpAnyH_take (i := 4) (oi := { dst := some 90, op := Op.load 49 (Operand.tmp 89), type := 49, pos := "law.go:180", after := #[{ on := 3, ground := Ground.data }], guard := none }) (v := _) rfl (by kernel_rfl) (by kernel_rfl) (by kernel_rfl) (fun _ _ _ h => h) (yieldsIf_load_mid (by rfl) 49 (.tmp 89) rfl g (o + a * 35) rfl (poC x) _ (fun _ h => h.1) Tryd.underlying49 rfl ix.out) hHeld ?_
              try simp only [Act.put, List.setIfInBounds_toArray, List.set_cons_zero, List.set_cons_succ]
              refine wpAnyH_take (i := 5) (oi := { dst := some 91, op := Op.move (Operand.tmp 1), type := 53, pos := "law.go:180", after := #[], guard := none }) (v := ?_) rfl (by kernel_rfl) (by kernel_rfl) (by kernel_rfl) (fun _ _ _ h => h) (Or.inl ⟨by rfl, ?hyaaaa5⟩) hHeld ?restaaaa5
              case hyaaaa5 =>
                intro w hSw
                try dsimp only at hSw
                go_simp
                try with_reducible rfl
              try simp only [Act.put, List.setIfInBounds_toArray, List.set_cons_zero, List.set_cons_succ]
              refine wpAnyH_take (i := 6) (oi := { dst := some 92, op := Op.move (Operand.tmp 12), type := 3, pos := "law.go:180", after := #[], guard := none }) (v := ?_) rfl (by kernel_rfl) (by kernel_rfl) (by kernel_rfl) (fun _ _ _ h => h) (Or.inl ⟨by rfl, ?hyaaaa6⟩) hHeld ?restaaaa6
              case hyaaaa6 =>
                intro w hSw
                try dsimp only at hSw
                go_simp
                try with_reducible rfl
              try simp only [Act.put, List.setIfInBounds_toArray, List.set_cons_zero, List.set_cons_succ]
              refine wpAnyH_take (i := 7) (oi := { dst := some 93, op := Op.indexAddr 53 (Operand.tmp 91) (Operand.tmp 92), type := 0, pos := "law.go:180", after := #[{ on := 5, ground := Ground.data }, { on := 6, ground := Ground.data }], guard := none }) (v := ?_) rfl (by kernel_rfl) (by kernel_rfl) (by kernel_rfl) (fun _ _ _ h => h) (Or.inl ⟨by rfl, ?hyaaaa7⟩) hHeld ?restaaaa7
              case hyaaaa7 =>
                intro w hSw
                try dsimp only at hSw
                go_simp
                try with_reducible rfl
              try simp only [Act.put, List.setIfInBounds_toArray, List.set_cons_zero, List.set_cons_succ]
              refine wpAnyH_take (i := 8) (oi := { dst := some 94, op := Op.load 49 (Operand.tmp 93), type := 49, pos := "law.go:180", after := #[{ on := 7, ground := Ground.data }], guard := none }) (v := _) rfl (by kernel_rfl) (by kernel_rfl) (by kernel_rfl) (fun _ _ _ h => h) (yieldsIf_load_mid (by rfl) 49 (.tmp 93) rfl g (o + b * 35) rfl (poC y) _ (fun _ h => h.2) Tryd.underlying49 rfl iy.out) hHeld ?_
              try simp only [Act.put, List.setIfInBounds_toArray, List.set_cons_zero, List.set_cons_succ]
              refine wpAnyH_ready (rs := [9]) (by kernel_rfl) (by simp) (AllReadyH.cons (o := { dst := some 95, op := Op.call { callee := Callee.value (Operand.func 32), args := #[Operand.tmp 86, Operand.tmp 90, Operand.tmp 94], argTypes := #[3, 49, 49] }, type := 4, pos := "law.go:180", after := #[{ on := 0, ground := Ground.data }, { on := 4, ground := Ground.data }, { on := 8, ground := Ground.data }], guard := none }) rfl (fun K hK => ?_) AllReadyH.nil)
              go_simp
              go_at_call 32
              refine (kCa.out _ HB).mono ?_
              rintro e w4 ⟨rfl, hbb⟩
              replace HB := HB.trans (hbb.mono HB.size)
              replace HB3 := HB3.trans (hbb.mono HB3.size)
              clear hbb
              refine hK.out _ _ (by exact hS.out _ HB) (fun hHeld' => ?_)
              clear hK K hHeld
              have hHeld := hHeld'
              clear hHeld'
              try simp only [Act.put, List.setIfInBounds_toArray, List.set_cons_zero, List.set_cons_succ]
              refine wpAnyH_take (i := 10) (oi := { dst := some 13, op := Op.assign (Operand.tmp 95), type := 4, pos := "law.go:180", after := #[{ on := 9, ground := Ground.data }, { on := 9, ground := Ground.chain }, { on := 0, ground := Ground.phase }, { on := 1, ground := Ground.phase }, { on := 2, ground := Ground.phase }, { on := 3, ground := Ground.phase }, { on := 4, ground := Ground.phase }, { on := 5, ground := Ground.phase }, { on := 6, ground := Ground.phase }, { on := 7, ground := Ground.phase }, { on := 8, ground := Ground.phase }, { on := 9, ground := Ground.phase }], guard := none }) (v := ?_) rfl (by kernel_rfl) (by kernel_rfl) (by kernel_rfl) (fun _ _ _ h => h) (Or.inl ⟨by rfl, ?hyaaaa10⟩) hHeld ?restaaaa10
              case hyaaaa10 =>
                intro w hSw
                try dsimp only at hSw
                go_simp
                try with_reducible rfl
              try simp only [Act.put, List.setIfInBounds_toArray, List.set_cons_zero, List.set_cons_succ]
              refine wpAnyH_done (by kernel_rfl) ?_ _
              replace HB := HB.drew
              replace HB3 := HB3.drew
              go_wp2_with fail
              refine wp_region_held_drew (S := fun w' => w'.rangeAt g (o + a * 35) (poC x) ∧ w'.rangeAt g (o + b * 35) (poC y)) (by kernel_rfl) (by exact hS.out _ HB) (fun hHeld => ?_)
              refine wpAnyH_take (i := 0) (oi := { dst := some 96, op := Op.move (Operand.tmp 13), type := 4, pos := "law.go:181", after := #[], guard := none }) (v := ?_) rfl (by kernel_rfl) (by kernel_rfl) (by kernel_rfl) (fun _ _ _ h => h) (Or.inl ⟨by rfl, ?hyaaaaa0⟩) hHeld ?restaaaaa0
              case hyaaaaa0 =>
                intro w hSw
                try dsimp only at hSw
                go_simp
                try with_reducible rfl
              try simp only [Act.put, List.setIfInBounds_toArray, List.set_cons_zero, List.set_cons_succ]
              refine wpAnyH_take (i := 1) (oi := { dst := some 97, op := Op.move (Operand.tmp 0), type := 3, pos := "law.go:181", after := #[], guard := none }) (v := ?_) rfl (by kernel_rfl) (by kernel_rfl) (by kernel_rfl) (fun _ _ _ h => h) (Or.inl ⟨by rfl, ?hyaaaaa1⟩) hHeld ?restaaaaa1
              case hyaaaaa1 =>
                intro w hSw
                try dsimp only at hSw
                go_simp
                try with_reducible rfl
              try simp only [Act.put, List.setIfInBounds_toArray, List.set_cons_zero, List.set_cons_succ]
              refine wpAnyH_take (i := 2) (oi := { dst := some 98, op := Op.move (Operand.tmp 1), type := 53, pos := "law.go:181", after := #[], guard := none }) (v := ?_) rfl (by kernel_rfl) (by kernel_rfl) (by kernel_rfl) (fun _ _ _ h => h) (Or.inl ⟨by rfl, ?hyaaaaa2⟩) hHeld ?restaaaaa2
              case hyaaaaa2 =>
                intro w hSw
                try dsimp only at hSw
                go_simp
                try with_reducible rfl
              try simp only [Act.put, List.setIfInBounds_toArray, List.set_cons_zero, List.set_cons_succ]
              refine wpAnyH_take (i := 3) (oi := { dst := some 99, op := Op.move (Operand.tmp 12), type := 3, pos := "law.go:181", after := #[], guard := none }) (v := ?_) rfl (by kernel_rfl) (by kernel_rfl) (by kernel_rfl) (fun _ _ _ h => h) (Or.inl ⟨by rfl, ?hyaaaaa3⟩) hHeld ?restaaaaa3
              case hyaaaaa3 =>
                intro w hSw
                try dsimp only at hSw
                go_simp
                try with_reducible rfl
              try simp only [Act.put, List.setIfInBounds_toArray, List.set_cons_zero, List.set_cons_succ]
              refine wpAnyH_take (i := 4) (oi := { dst := some 100, op := Op.indexAddr 53 (Operand.tmp 98) (Operand.tmp 99), type := 0, pos := "law.go:181", after := #[{ on := 2, ground := Ground.data }, { on := 3, ground := Ground.data }], guard := none }) (v := ?_) rfl (by kernel_rfl) (by kernel_rfl) (by kernel_rfl) (fun _ _ _ h => h) (Or.inl ⟨by rfl, ?hyaaaaa4⟩) hHeld ?restaaaaa4
              case hyaaaaa4 =>
                intro w hSw
                try dsimp only at hSw
                go_simp
                try with_reducible rfl
              try simp only [Act.put, List.setIfInBounds_toArray, List.set_cons_zero, List.set_cons_succ]
              refine wpAnyH_take (i := 5) (oi := { dst := some 101, op := Op.load 49 (Operand.tmp 100), type := 49, pos := "law.go:181", after := #[{ on := 4, ground := Ground.data }], guard := none }) (v := _) rfl (by kernel_rfl) (by kernel_rfl) (by kernel_rfl) (fun _ _ _ h => h) (yieldsIf_load_mid (by rfl) 49 (.tmp 100) rfl g (o + b * 35) rfl (poC y) _ (fun _ h => h.2) Tryd.underlying49 rfl iy.out) hHeld ?_
              try simp only [Act.put, List.setIfInBounds_toArray, List.set_cons_zero, List.set_cons_succ]
              refine wpAnyH_take (i := 6) (oi := { dst := some 102, op := Op.move (Operand.tmp 1), type := 53, pos := "law.go:181", after := #[], guard := none }) (v := ?_) rfl (by kernel_rfl) (by kernel_rfl) (by kernel_rfl) (fun _ _ _ h => h) (Or.inl ⟨by rfl, ?hyaaaaa6⟩) hHeld ?restaaaaa6
              case hyaaaaa6 =>
                intro w hSw
                try dsimp only at hSw
                go_simp
                try with_reducible rfl
              try simp only [Act.put, List.setIfInBounds_toArray, List.set_cons_zero, List.set_cons_succ]
              refine wpAnyH_take (i := 7) (oi := { dst := some 103, op := Op.move (Operand.tmp 11), type := 3, pos := "law.go:181", after := #[], guard := none }) (v := ?_) rfl (by kernel_rfl) (by kernel_rfl) (by kernel_rfl) (fun _ _ _ h => h) (Or.inl ⟨by rfl, ?hyaaaaa7⟩) hHeld ?restaaaaa7
              case hyaaaaa7 =>
                intro w hSw
                try dsimp only at hSw
                go_simp
                try with_reducible rfl
              try simp only [Act.put, List.setIfInBounds_toArray, List.set_cons_zero, List.set_cons_succ]
              refine wpAnyH_take (i := 8) (oi := { dst := some 104, op := Op.indexAddr 53 (Operand.tmp 102) (Operand.tmp 103), type := 0, pos := "law.go:181", after := #[{ on := 6, ground := Ground.data }, { on := 7, ground := Ground.data }], guard := none }) (v := ?_) rfl (by kernel_rfl) (by kernel_rfl) (by kernel_rfl) (fun _ _ _ h => h) (Or.inl ⟨by rfl, ?hyaaaaa8⟩) hHeld ?restaaaaa8
              case hyaaaaa8 =>
                intro w hSw
                try dsimp only at hSw
                go_simp
                try with_reducible rfl
              try simp only [Act.put, List.setIfInBounds_toArray, List.set_cons_zero, List.set_cons_succ]
              refine wpAnyH_take (i := 9) (oi := { dst := some 105, op := Op.load 49 (Operand.tmp 104), type := 49, pos := "law.go:181", after := #[{ on := 8, ground := Ground.data }], guard := none }) (v := _) rfl (by kernel_rfl) (by kernel_rfl) (by kernel_rfl) (fun _ _ _ h => h) (yieldsIf_load_mid (by rfl) 49 (.tmp 104) rfl g (o + a * 35) rfl (poC x) _ (fun _ h => h.1) Tryd.underlying49 rfl ix.out) hHeld ?_
              try simp only [Act.put, List.setIfInBounds_toArray, List.set_cons_zero, List.set_cons_succ]
              refine wpAnyH_ready (rs := [10]) (by kernel_rfl) (by simp) (AllReadyH.cons (o := { dst := some 106, op := Op.call { callee := Callee.value (Operand.func 32), args := #[Operand.tmp 97, Operand.tmp 101, Operand.tmp 105], argTypes := #[3, 49, 49] }, type := 4, pos := "law.go:181", after := #[{ on := 1, ground := Ground.data }, { on := 5, ground := Ground.data }, { on := 9, ground := Ground.data }], guard := none }) rfl (fun K hK => ?_) AllReadyH.nil)
              go_simp
              go_at_call 32
              refine (kCb.out _ HB).mono ?_
              rintro e w5 ⟨rfl, hbb⟩
              replace HB := HB.trans (hbb.mono HB.size)
              replace HB3 := HB3.trans (hbb.mono HB3.size)
              clear hbb
              refine hK.out _ _ (by exact hS.out _ HB) (fun hHeld' => ?_)
              clear hK K hHeld
              have hHeld := hHeld'
              clear hHeld'
              try simp only [Act.put, List.setIfInBounds_toArray, List.set_cons_zero, List.set_cons_succ]
              refine wpAnyH_take (i := 11) (oi := { dst := some 107, op := Op.binOp BinOp.neq 4 (Operand.tmp 96) (Operand.tmp 106) 4, type := 4, pos := "law.go:181", after := #[{ on := 0, ground := Ground.data }, { on := 10, ground := Ground.data }], guard := none }) (v := ?_) rfl (by kernel_rfl) (by kernel_rfl) (by kernel_rfl) (fun _ _ _ h => h) (Or.inl ⟨by rfl, ?hyaaaaa11⟩) hHeld ?restaaaaa11
              case hyaaaaa11 =>
                intro w hSw
                try dsimp only at hSw
                go_simp
                try with_reducible rfl
              try simp only [Act.put, List.setIfInBounds_toArray, List.set_cons_zero, List.set_cons_succ]
              refine wpAnyH_take (i := 12) (oi := { dst := some 108, op := Op.move (Operand.tmp 107), type := 4, pos := "law.go:181", after := #[{ on := 11, ground := Ground.data }, { on := 10, ground := Ground.chain }], guard := none }) (v := ?_) rfl (by kernel_rfl) (by kernel_rfl) (by kernel_rfl) (fun _ _ _ h => h) (Or.inl ⟨by rfl, ?hyaaaaa12⟩) hHeld ?restaaaaa12
              case hyaaaaa12 =>
                intro w hSw
                try dsimp only at hSw
                go_simp
                try with_reducible rfl
              try simp only [Act.put, List.setIfInBounds_toArray, List.set_cons_zero, List.set_cons_succ]
              refine wpAnyH_take (i := 13) (oi := { dst := some 109, op := Op.move (Operand.tmp 13), type := 4, pos := "law.go:181", after := #[{ on := 12, ground := Ground.guard }], guard := some (12, false) }) (v := ?_) rfl (by kernel_rfl) (by kernel_rfl) (by kernel_rfl) (fun _ _ _ h => h) (Or.inl ⟨by rfl, ?hyaaaaa13⟩) hHeld ?restaaaaa13
              case hyaaaaa13 =>
                intro w hSw
                try dsimp only at hSw
                go_simp
                try with_reducible rfl
              try simp only [Act.put, List.setIfInBounds_toArray, List.set_cons_zero, List.set_cons_succ]
              refine wpAnyH_take (i := 14) (oi := { dst := some 110, op := Op.move (Operand.tmp 109), type := 4, pos := "law.go:181", after := #[{ on := 13, ground := Ground.data }, { on := 12, ground := Ground.chain }, { on := 12, ground := Ground.guard }], guard := some (12, false) }) (v := ?_) rfl (by kernel_rfl) (by kernel_rfl) (by kernel_rfl) (fun _ _ _ h => h) (Or.inl ⟨by rfl, ?hyaaaaa14⟩) hHeld ?restaaaaa14
              case hyaaaaa14 =>
                intro w hSw
                try dsimp only at hSw
                go_simp
                try with_reducible rfl
              try simp only [Act.put, List.setIfInBounds_toArray, List.set_cons_zero, List.set_cons_succ]
              refine wpAnyH_take (i := 15) (oi := { dst := some 111, op := Op.move (Operand.tmp 9), type := 4, pos := "law.go:181", after := #[{ on := 14, ground := Ground.guard }], guard := some (14, true) }) (v := ?_) rfl (by kernel_rfl) (by kernel_rfl) (by kernel_rfl) (fun _ _ _ h => h) (Or.inl ⟨by rfl, ?hyaaaaa15⟩) hHeld ?restaaaaa15
              case hyaaaaa15 =>
                intro w hSw
                try dsimp only at hSw
                go_simp
                try with_reducible rfl
              try simp only [Act.put, List.setIfInBounds_toArray, List.set_cons_zero, List.set_cons_succ]
              refine wpAnyH_take (i := 16) (oi := { dst := some 112, op := Op.unOp UnOp.not 4 (Operand.tmp 111), type := 4, pos := "law.go:181", after := #[{ on := 15, ground := Ground.data }, { on := 14, ground := Ground.guard }], guard := some (14, true) }) (v := ?_) rfl (by kernel_rfl) (by kernel_rfl) (by kernel_rfl) (fun _ _ _ h => h) (Or.inl ⟨by rfl, ?hyaaaaa16⟩) hHeld ?restaaaaa16
              case hyaaaaa16 =>
                intro w hSw
                try dsimp only at hSw
                go_simp
                try with_reducible rfl
              try simp only [Act.put, List.setIfInBounds_toArray, List.set_cons_zero, List.set_cons_succ]
              refine wpAnyH_take (i := 17) (oi := { dst := some 113, op := Op.pick (Operand.tmp 110) (Operand.tmp 112) (Operand.const (Value.bool false)), type := 4, pos := "law.go:181", after := #[{ on := 14, ground := Ground.data }, { on := 16, ground := Ground.data }, { on := 12, ground := Ground.guard }], guard := some (12, false) }) (v := ?_) rfl (by kernel_rfl) (by kernel_rfl) (by kernel_rfl) (fun _ _ _ h => h) (Or.inl ⟨by rfl, ?hyaaaaa17⟩) hHeld ?restaaaaa17
              case hyaaaaa17 =>
                intro w hSw
                try dsimp only at hSw
                go_simp
                try with_reducible rfl
              try simp only [Act.put, List.setIfInBounds_toArray, List.set_cons_zero, List.set_cons_succ]
              refine wpAnyH_take (i := 18) (oi := { dst := some 114, op := Op.pick (Operand.tmp 108) (Operand.const (Value.bool true)) (Operand.tmp 113), type := 4, pos := "law.go:181", after := #[{ on := 12, ground := Ground.data }, { on := 17, ground := Ground.data }], guard := none }) (v := ?_) rfl (by kernel_rfl) (by kernel_rfl) (by kernel_rfl) (fun _ _ _ h => h) (Or.inl ⟨by rfl, ?hyaaaaa18⟩) hHeld ?restaaaaa18
              case hyaaaaa18 =>
                intro w hSw
                try dsimp only at hSw
                go_simp
                try with_reducible rfl
              try simp only [Act.put, List.setIfInBounds_toArray, List.set_cons_zero, List.set_cons_succ]
              refine wpAnyH_done (by kernel_rfl) ?_ _
              clear hS kCa kCb bR ix iy
              by_cases c1 : a < b
              · by_cases c2 : a < i
                · exfalso
                  have hq := fo a b x y c1 (by omega) hx.out hy.out
                  rw [hr9.out] at hq
                  simp at hq
                  omega
                · by_cases c3 : a = i
                  · by_cases c4 : b ≤ j
                    · obtain rfl : b = j := by
                        have hq := fo a b x y c1 (by omega) hx.out hy.out
                        rw [hr9.out] at hq
                        simp at hq
                        omega
                      obtain rfl : a = i := c3
                      go_wp2_with fail
                      go_roundw
                      case rel => exact ⟨b + 1, by omega, by go_num, HB, HB3⟩
                      case measure => simp [intOf]; omega
                    · obtain rfl : a = i := c3
                      go_wp2_with fail
                      go_roundw
                      case rel => exact ⟨b + 1, by omega, by go_num, HB, HB3⟩
                      case measure => simp [intOf]; omega
                  · go_wp2_with fail
                    go_roundw
                    case rel => exact ⟨b + 1, by omega, by go_num, HB, HB3⟩
                    case measure => simp [intOf]; omega
              · go_wp2_with fail
                go_roundw
                case rel => exact ⟨b + 1, by omega, by go_num, HB, HB3⟩
                case measure => simp [intOf]; omega
          · obtain rfl : b = n := by omega
            go_wp2_with fail
            go_roundw
            case rel => exact ⟨a + 1, by omega, by go_num, hB, hrow3'.out.below hB3⟩
            case measure => simp [intOf]; omega
      · obtain rfl : n = a := by omega
        have hnl : (l.reverse.take n).length = n := by rw [List.length_take, List.length_reverse, hn.out]; omega
        have htl : l.reverse.take n = l.reverse := List.take_of_length_le (by rw [List.length_reverse, hn.out]; omega)
        obtain ⟨rA, rc, e9, hcap, hps⟩ := hrow.ps (mem_rev_root hp.out n)
        rw [hnl] at e9 hcap
        rw [htl] at hps
        subst e9
        have hpr : ∀ x ∈ l.reverse, x.root.length = 32 := fun x hx => hp.out x (List.mem_reverse.1 hx)
        have hlr : l.reverse.length = n := by rw [List.length_reverse, hn.out]
        replace hps := Lib.hid hps
        replace hpr := Lib.hid hpr
        replace hlr := Lib.hid hlr
        clear hrow hnl htl
        go_wp2_with fail
        refine (kF.out _ l.reverse n rA rc hB hlr.out (by omega) hcap hps.out hpr.out).mono ?_
        rintro e w2 ⟨⟨i1, j1, ok1, rfl, hF1⟩, hb⟩
        replace hB := hB.trans (hb.mono hB.size)
        obtain rfl : ok1 = true := hF1.any.2 (by
          obtain ⟨x, hx, y, hy, h9⟩ := fa
          exact ⟨x, List.mem_reverse.2 hx, y, List.mem_reverse.2 hy, h9⟩)
        clear hb hps hpr hlr hF1 hcap
        go_wp2_with (first
          | (refine wpList_none (by rfl) (by rfl) ?_)
          | (refine wpList_appP _ (by rfl) (.tmp 159) (.tmp 160) (by rfl) w.heap.size _ [] l' A' n' c' (by rfl) (by rfl) hn'.out ((hls'.out.below hB).below (blow1 _ _)) (RowP.empty _ _ _ rfl hB.size) hp'.out (by decide) (by omega) (by simp; exact Nat.le_succ_of_le hB.size) ?_; intro row4 w4 hrow4 hg4; rw [List.nil_append] at hrow4; replace hB := RowP.grown (RowP.empty _ _ _ rfl hB.size) (hB.trans ((blow1 _ _).mono hB.size)) (Nat.le_refl _) (by simp; exact Nat.le_succ_of_le hB.size) hg4; clear hg4)
          | (refine wpList_appP _ (by rfl) (.tmp 161) (.tmp 162) (by rfl) w.heap.size row4 l' l A n c (by rfl) (by rfl) hn.out (hls.out.below hB) hrow4 hp.out (by rw [hn'.out]; omega) (by omega) hB.size ?_; intro row5 w5 hrow5 hg5; replace hB := RowP.grown hrow4 hB (Nat.le_refl _) hB.size hg5; clear hg5 hrow4; have hp9 : ∀ x ∈ l' ++ l, x.root.length = 32 := (fun x hx => (List.mem_append.1 hx).elim (hp'.out x) (hp.out x)); obtain ⟨B9, C9, e9, hcap, hps⟩ := hrow5.ps hp9; rw [List.length_append, hn'.out, hn.out] at e9 hcap; subst e9; replace hps := Lib.hid hps; replace hp9 := Lib.hid hp9; clear hrow5))
        refine (kF.out _ (l' ++ l) (n' + n) B9 C9 hB (by rw [List.length_append, hn'.out, hn.out]) (by omega) hcap hps.out hp9.out).mono ?_
        rintro e w6 ⟨⟨i2, j2, ok2, rfl, hF2⟩, hbb⟩
        replace hB := hB.trans (hbb.mono hB.size)
        clear hbb
        obtain rfl : ok2 = true := hF2.any.2 (by
          obtain ⟨x, hx, y, hy, h9⟩ := fa
          exact ⟨x, List.mem_append.2 (.inr hx), y, List.mem_append.2 (.inr hy), h9⟩)
        go_wp2_with fail
        go_ret
        exact ⟨rfl, hB⟩

theorem walk_OfficesPairs (a0 : Int) (a1 a2 : List Po) (A1 : Option Addr) (c1 : Nat) (A2 : Option Addr) (c2 : Nat) (w : World) (b0 : I64 a0) (lc1 : a1.length ≤ c1) (nc1 : A1 = none → c1 = 0) (ps1 : PsAt w A1 a1) (po1 : ∀ y ∈ a1, PoI y) (lc2 : a2.length ≤ c2) (nc2 : A2 = none → c2 = 0) (ps2 : PsAt w A2 a2) (po2 : ∀ y ∈ a2, PoI y) (hL : Laid w) :
    Calls Tryd.prog 11 #[.int .i64 a0, .slice A1 a1.length c1, .slice A2 a2.length c2] w fun e w' => e = .returned (.bool true) ∧ Below w.heap.size w w' := by
  by_cases h : a1.length ≤ 10
  · by_cases h2 : a2.length ≤ 3
    · exact opr_in a0 a1 a2 _ _ A1 A2 c1 c2 w rfl rfl h h2 lc1 ps1 ps2 (fun y hy => (po1 y hy).root) (fun y hy => (po2 y hy).root) hL
    · exact opr_more a0 _ _ A1 A2 c1 c2 w h (by omega) hL
  · exact opr_big a0 _ _ A1 A2 c1 c2 w (by omega) hL
end Go.Proofs.YthokpfegfnpmhaaDoor
