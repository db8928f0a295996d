/- The walk of merkle.climb. -/
import Derived.Test.YtnccbhndlnkboaaDoorMWay
namespace Go.Proofs.YtnccbhndlnkboaaDoor
open Go.RowKit Go.Shelf Cdc Sha
set_option linter.unusedVariables false
set_option linter.unusedSimpArgs false
attribute [local go_sem] Oper.semAt_some

/-- what climb returns -/
def ClC (full : Option (List (List UInt8 × List UInt8))) (w : World) (e : Ending) (w' : World) : Prop :=
  ∃ (A : Option Addr) (m c : Nat) (A' : Option Addr) (m' c' : Nat) (ok : Bool), e = .returned (.tuple #[.agg #[.slice A m c, .slice A' m' c'], .bool ok]) ∧ ok = full.isSome ∧ Below w.heap.size w w' ∧ (∀ l, full = some l → m = l.length ∧ m ≤ c ∧ DsAt w' A (l.map (·.1)) ∧ m' = l.length ∧ LvAt w' A' (l.map (·.2)))

set_option maxRecDepth 100000 in
set_option maxHeartbeats 16000000 in
theorem climb_any (w : World) (n i : Nat) (hn : n ≤ 65536) (hi : i ≤ 65536) (leaf : List UInt8) (m : Nat) (hm : leaf.length = m) (hms : m ≤ 1000000) (A : Option Addr) (c : Nat) (hlf : AtO w A leaf) (path : List (List UInt8)) (k : Nat) (hk : path.length = k) (P : Option Addr) (cp : Nat) (hcp : k ≤ cp) (hks : k ≤ 1000000) (hp : DsAt w P path) (hp32 : ∀ d ∈ path, d.length = 32) (hL : Laid w) :
    Calls Tryd.prog 53 #[.int .i64 (n : Int), .int .i64 (i : Int), .slice A m c, .slice P k cp] w (ClC (climbM n i leaf path) w) := by
  have hlf9 := Lib.hid hlf
  have hL9 := Lib.hid hL
  have hlt9 : Hid ((lfT leaf).length = 32 + m) := Lib.hid (by rw [lfT, mT_len, hm])
  refine (callsIn_wide (n := 8)).1 ?_
  refine callsIn_of_wp_marks Tryd.func53 rfl trivial ?_ rfl
  simp only [Tryd.ntmps53, List.size_toArray, List.length_cons, List.length_nil, Nat.reduceAdd, Nat.reduceSub, Array.replicate_succ, Array.replicate_zero, List.push_toArray, List.append_toArray, List.nil_append, List.cons_append]
  gi_wp2_with fail
  have b0 := Boxed.new w 31 (.slice P k cp)
  have b1 := heap_alloc_new (w.alloc (.cells #[.slice P k cp] 31)) (.cells #[.slice none 0 0, .slice none 0 0] 89)
  have b2 := Boxed.new ((w.alloc (.cells #[.slice P k cp] 31)).alloc (.cells #[.slice none 0 0, .slice none 0 0] 89)) 4 (.bool false)
  have b3 := Boxed.new (((w.alloc (.cells #[.slice P k cp] 31)).alloc (.cells #[.slice none 0 0, .slice none 0 0] 89)).alloc (.cells #[.bool false] 4)) 115 (.func (.func 73) #[] #[.pointer (some ⟨w.heap.size + 1, 0, none⟩)])
  simp only [World.size_alloc] at b1 b2 b3
  replace b0 := ((b0.alloc (.cells #[.slice none 0 0, .slice none 0 0] 89)).alloc (.cells #[.bool false] 4)).alloc (.cells #[.func (.func 73) #[] #[.pointer (some ⟨w.heap.size + 1, 0, none⟩)]] 115)
  replace b1 := (Below.heap_alloc _ (.cells #[.func (.func 73) #[] #[.pointer (some ⟨w.heap.size + 1, 0, none⟩)]] 115) (w.heap.size + 1) (by simp)).trans ((Below.heap_alloc _ (.cells #[.bool false] 4) (w.heap.size + 1) (by simp)).trans b1)
  replace b2 := b2.alloc (.cells #[.func (.func 73) #[] #[.pointer (some ⟨w.heap.size + 1, 0, none⟩)]] 115)
  have hB0 : Below w.heap.size w ((((w.alloc (.cells #[.slice P k cp] 31)).alloc (.cells #[.slice none 0 0, .slice none 0 0] 89)).alloc (.cells #[.bool false] 4)).alloc (.cells #[.func (.func 73) #[] #[.pointer (some ⟨w.heap.size + 1, 0, none⟩)]] 115)) := ((((Below.refl _ w).alloc (Nat.le_refl _) _).alloc (by simp) _).alloc (by simp; omega) _).alloc (by simp; omega) _
  have hs0 : ((((w.alloc (.cells #[.slice P k cp] 31)).alloc (.cells #[.slice none 0 0, .slice none 0 0] 89)).alloc (.cells #[.bool false] 4)).alloc (.cells #[.func (.func 73) #[] #[.pointer (some ⟨w.heap.size + 1, 0, none⟩)]] 115)).heap.size = w.heap.size + 4 := by simp
  generalize (((w.alloc (.cells #[.slice P k cp] 31)).alloc (.cells #[.slice none 0 0, .slice none 0 0] 89)).alloc (.cells #[.bool false] 4)).alloc (.cells #[.func (.func 73) #[] #[.pointer (some ⟨w.heap.size + 1, 0, none⟩)]] 115) = W0 at b0 b1 b2 b3 hB0 hs0 ⊢
  have hS : Hid (∀ V, Below W0.heap.size W0 V → V.cell? ⟨w.heap.size + 1 + 1 + 1, 0, none⟩ = some (.func (.func 73) #[] #[.pointer (some ⟨w.heap.size + 1, 0, none⟩)])) := Lib.hid fun V hV => (boxed_below b3 hV).cell
  have hT : Hid (∀ V k, k = V.heap.size → Below W0.heap.size W0 V → Calls Tryd.prog 75 #[.string leafB, .slice (some ⟨k, 0, none⟩) 1 1] (V.alloc (.cells #[.slice A m c] 48)) (JoinC (lfT leaf) (V.alloc (.cells #[.slice A m c] 48)))) := Lib.hid fun V k hk hV0 => by
    subst hk
    have hV := hB0.trans (hV0.mono hB0.size)
    have h2 := hV.alloc hV.size (.cells #[.slice A m c] 48)
    have hce := cell_of_row _ V.heap.size 0 _ _ _ (heap_alloc_new V (.cells #[.slice A m c] 48))
    refine mtext_of leafB (by decide) _ 1 1 leaf (by omega) _ (hL9.out.below h2) fun U hU => join_one leaf _ 1 U ?_ (by omega)
    intro i xs hi
    match i, hi with
    | 0, hi =>
      obtain rfl : leaf = xs := by simpa using hi
      exact ⟨A, c, by rw [hm]; exact (hU.cell (p := ⟨V.heap.size, 0, none⟩) (by simp)).trans hce, (hlf9.out.below h2).below hU⟩
  have hAdd : Hid (∀ V A' c', Below W0.heap.size W0 V → 32 + m ≤ c' → c' ≤ 9223372036854775807 → AtO V A' (lfT leaf) → (∀ g o, A' = some ⟨g, o, none⟩ → lfT leaf ≠ [] → W0.heap.size ≤ g ∧ g < V.heap.size) → Calls Tryd.prog 73 #[.slice A' (32 + m) c', .pointer (some ⟨w.heap.size + 1, 0, none⟩)] V fun e W' => e = .returned (.tuple #[]) ∧ ∃ D' T' : Value, WayAt w W' (w.heap.size + 1) D' T' [lfD leaf] [lfT leaf] [.slice A' (32 + m) c'] [some w.heap.size] ∧ Only (wyOwn (w.heap.size + 1) (.slice none 0 0) (.slice none 0 0)) V W' ∧ (∀ k, D'.ownBlock = some k → Value.ownBlock (.slice none 0 0) = some k ∨ V.heap.size ≤ k) ∧ (∀ k, T'.ownBlock = some k → Value.ownBlock (.slice none 0 0) = some k ∨ V.heap.size ≤ k)) := Lib.hid fun V A' c' hV h1 h2 h3 h4 =>
    add_any w V (w.heap.size + 1) (.slice none 0 0) (.slice none 0 0) [] [] [] [some w.heap.size] (fun k hk => by simp at hk; subst hk; have := hV.size; omega) (lfT leaf) (32 + m) A' c' ⟨(hV.block _ (by omega)).trans b1, RowD.nil _ _, (fun d hd => by cases hd), RowT.nil _ _, rfl, rfl, fun i v x h => by simp at h⟩ hlt9.out (by omega) ⟨A', c', by rw [hlt9.out], by rw [hlt9.out]; exact h1, h2, h3, fun g o e hne => ⟨(h4 g o e hne).2, by have := h4 g o e hne; simp [Value.ownBlock]; omega⟩⟩ (by simp) hL9.out (hB0.trans (hV.mono hB0.size)) (by omega)
  have hkept : ∀ {V W' : World}, Only (wyOwn (w.heap.size + 1) (.slice none 0 0) (.slice none 0 0)) V W' → Below W0.heap.size W0 V → Boxed W' w.heap.size 31 (.slice P k cp) ∧ Boxed W' (w.heap.size + 1 + 1) 4 (.bool false) ∧ Boxed W' (w.heap.size + 1 + 1 + 1) 115 (.func (.func 73) #[] #[.pointer (some ⟨w.heap.size + 1, 0, none⟩)]) := fun {V W'} ho hV => by
    have hs := hV.size
    have key : ∀ j, j ≠ w.heap.size + 1 → j < W0.heap.size → W'.heap[j]? = W0.heap[j]? := fun j hj hl => (ho.block j (by omega) (fun e => by rcases e with e | e | e; exact hj e; cases e; cases e)).trans (hV.block j hl)
    exact ⟨(key _ (by omega) b0.lt).trans b0, (key _ (by omega) b2.lt).trans b2, (key _ (by omega) b3.lt).trans b3⟩
  have HB : Below W0.heap.size W0 W0.drew := (Below.refl _ _).drew
  replace hs0 := Lib.hid hs0
  refine wpIn_np (wpIn_wide.2 ?_)
  refine wp_region_held_drew (S := fun w' => w'.cell? ⟨w.heap.size + 1 + 1 + 1, 0, none⟩ = some (.func (.func 73) #[] #[.pointer (some ⟨w.heap.size + 1, 0, none⟩)])) (by kernel_rfl) (by exact hS.out _ HB) (fun hHeld => ?_)
  refine wpAnyH_take (i := 0) (oi := { dst := some 14, op := Op.load 115 (Operand.tmp 10), type := 115, pos := "merkle.go:97", after := #[], guard := none }) (v := ?_) rfl (by kernel_rfl) (by kernel_rfl) (by kernel_rfl) (fun _ _ _ h => h) (Or.inl ⟨by rfl, ?hy0⟩) hHeld ?rest0
  case hy0 =>
    intro w hSw
    try dsimp only at hSw
    go_simp
    try with_reducible rfl
  try simp only [Act.put, List.setIfInBounds_toArray, List.set_cons_zero, List.set_cons_succ]
  refine wpAnyH_take (i := 1) (oi := { dst := some 15, op := Op.move (Operand.tmp 2), type := 48, pos := "merkle.go:97", after := #[], guard := none }) (v := ?_) rfl (by kernel_rfl) (by kernel_rfl) (by kernel_rfl) (fun _ _ _ h => h) (Or.inl ⟨by rfl, ?hy1⟩) hHeld ?rest1
  case hy1 =>
    intro w hSw
    try dsimp only at hSw
    go_simp
    try with_reducible rfl
  try simp only [Act.put, List.setIfInBounds_toArray, List.set_cons_zero, List.set_cons_succ]
  refine wpAnyH_ready (rs := [2]) (by kernel_rfl) (by simp) (AllReadyH.cons (o := { dst := some 16, op := Op.buildSlice 75 1 #[(0, Operand.tmp 15)], type := 75, pos := "merkle.go:97", after := #[{ on := 1, ground := Ground.data }], guard := none }) rfl (fun K hK => ?_) AllReadyH.nil)
  go_simp
  have HB2 := HB.alloc HB.size (.cells #[.slice A m c] 48)
  refine hK.out _ _ (by exact hS.out _ HB2) (fun hHeld' => ?_)
  clear hK K hHeld
  have hHeld := hHeld'
  clear hHeld'
  try simp only [Act.put, List.setIfInBounds_toArray, List.set_cons_zero, List.set_cons_succ]
  refine wpAnyH_ready (rs := [3]) (by kernel_rfl) (by simp) (AllReadyH.cons (o := { dst := some 17, op := Op.call { callee := Callee.value (Operand.func 75), args := #[Operand.const (Value.string { data := #[108, 101, 97, 102] }), Operand.tmp 16], argTypes := #[9, 75] }, type := 48, pos := "merkle.go:97", after := #[{ on := 2, ground := Ground.data }], guard := none }) rfl (fun K hK => ?_) AllReadyH.nil)
  go_simp
  go_at_call 75
  refine (hT.out _ _ rfl HB).mono ?_
  unfold JoinC
  rw [hlt9.out]
  rintro e w4 ⟨A4, c4, rfl, h41, h42, h43, hb4, hfr4⟩
  have HB4 := HB2.trans (hb4.mono HB2.size)
  replace h43 := Lib.hid h43
  refine hK.out _ _ (by exact hS.out _ HB4) (fun hHeld' => ?_)
  clear hK K hHeld
  have hHeld := hHeld'
  clear hHeld'
  try simp only [Act.put, List.setIfInBounds_toArray, List.set_cons_zero, List.set_cons_succ]
  refine wpAnyH_ready (rs := [4]) (by kernel_rfl) (by simp) (AllReadyH.cons (o := { dst := some 18, op := Op.call { callee := Callee.value (Operand.tmp 14), args := #[Operand.tmp 17], argTypes := #[48] }, type := 0, pos := "merkle.go:97", after := #[{ on := 0, ground := Ground.data }, { on := 3, ground := Ground.data }, { on := 3, ground := Ground.chain }], guard := none }) rfl (fun K hK => ?_) AllReadyH.nil)
  go_simp
  go_at_call 73
  refine (hAdd.out w4 A4 c4 HB4 h41 h42 h43.out (fun g o e hne => ⟨Nat.le_trans HB2.size (hfr4 g o e hne).1, (hfr4 g o e hne).2⟩)).mono ?_
  rintro e w5 ⟨rfl, D5, T5, hway5, hon5, hD5, hT5⟩
  have hbf5 := hkept hon5 HB4
  refine hK.out _ _ (by exact hbf5.2.2.cell) (fun hHeld' => ?_)
  clear hK K hHeld
  have hHeld := hHeld'
  clear hHeld'
  try simp only [Act.put, List.setIfInBounds_toArray, List.set_cons_zero, List.set_cons_succ]
  refine wpAnyH_done (by kernel_rfl) ?_ _
  refine np_normal ?_
  clear hS hT hAdd
  have hs0' := hs0.out
  have hB5 : Below w.heap.size w w5 := (hB0.trans (HB4.mono hB0.size)).trans (hon5.below (by have := HB4.size; omega) (fun j hj e => by rcases e with e | e | e; omega; cases e; cases e))
  have hs5 : w.heap.size + 4 ≤ w5.heap.size := by have := HB4.size; have := hon5.size; have := hs0.out; omega
  obtain ⟨e0, e2, e3⟩ := hbf5
  clear hs0' hkept b0 b1 b2 b3 HB HB2 HB4 hb4 hfr4 h43
  gi_wp2_with (refine ⟨trivial, ?_⟩; gi_at_call 76; refine (callsIn_wide.2 (steps_any _ _ _)).mono ?_; rintro e w' ⟨rfl, rfl⟩)
  have f0 := Boxed.new w5 3 (.int .i64 (n : Int))
  have f1 := Boxed.new (w5.alloc (.cells #[.int .i64 (n : Int)] 3)) 3 (.int .i64 (i : Int))
  replace f0 := f0.alloc (.cells #[.int .i64 (i : Int)] 3)
  simp only [World.size_alloc] at f1
  have hBa : Below w5.heap.size w5 ((w5.alloc (.cells #[.int .i64 (n : Int)] 3)).alloc (.cells #[.int .i64 (i : Int)] 3)) := ((Below.refl _ _).alloc (Nat.le_refl _) _).alloc (by simp) _
  have hs6 : ((w5.alloc (.cells #[.int .i64 (n : Int)] 3)).alloc (.cells #[.int .i64 (i : Int)] 3)).heap.size = w5.heap.size + 2 := by simp
  generalize (w5.alloc (.cells #[.int .i64 (n : Int)] 3)).alloc (.cells #[.int .i64 (i : Int)] 3) = W6 at f0 f1 hBa hs6 ⊢
  obtain ⟨b, hb⟩ : ∃ b, w5.heap.size = b := ⟨_, rfl⟩
  have hI0 : ClI w b n i (lfD leaf) (lfT leaf) path (.func (.func 73) #[] #[.pointer (some ⟨w.heap.size + 1, 0, none⟩)]) [] W6 n i path P k cp D5 T5 [] [.slice A4 (32 + m) c4] (lfD leaf) := {
    st := rfl, nn := hn, ni := hi, wy := by simp, la := rfl, p32 := hp32, lp := hk, bp := boxed_below e0 hBa, hc := hcp, ap := hp
    way := by
      have hn5 := hway5.row
      have k1 : WayAt w w5 (w.heap.size + 1) D5 T5 [lfD leaf] [lfT leaf] [.slice A4 (32 + m) c4] [some b, some (b + 1), some w.heap.size] := ⟨hway5.cell, hway5.row, hway5.d32, hway5.rowT, hway5.lt, hway5.lx, fun j v x h1 h2 => (hway5.tx j v x h1 h2).kept (World.grownBy.refl w5 none) (.inl rfl) (fun g hm => by
        simp only [List.mem_cons, List.not_mem_nil, or_false] at hm ⊢
        rcases hm with h | h | h | h | h | h
        · exact .inl (.inl h)
        · exact .inl (.inr (.inl h))
        · exact .inl (.inr (.inr (.inl h)))
        · exact .inr (by have := Option.some.inj h; omega)
        · exact .inr (by have := Option.some.inj h; omega)
        · exact .inl (.inr (.inr (.inr h))))⟩
      exact ⟨(hBa.block _ (Array.getElem?_eq_some_iff.1 k1.cell).1).trans k1.cell, k1.row.below hBa, k1.d32, k1.rowT.below hBa, k1.lt, k1.lx, fun j v x h1 h2 => (k1.tx j v x h1 h2).kept (grown_below hBa) (.inl rfl) (fun g hm => .inl hm)⟩
    br := boxed_below e2 hBa, bf := boxed_below e3 hBa, bw := hB5.trans (hBa.mono hB5.size), sz := by omega, hb := by omega
    nD := fun j e => by have := (hway5.row.high e).2; omega
    nT := fun j e => by have := (hway5.rowT.high e).2; omega
    al := rfl }
  rw [hb] at hBa hs6 f0 f1 ⊢
  have hwb := hI0.hb
  replace hn := Lib.hid hn
  replace hi := Lib.hid hi
  clear hB5 e0 e2 e3 hway5 hon5 hD5 hT5 hp hp32 hk hcp hs5 hlf hL hm hBa
  refine wpIn_rangeFunc_sta (F := Fence.wide) (n := 8) rfl (by decide) (gf := 93) (lb := #[.pointer (some ⟨b, 0, none⟩), .pointer (some ⟨b + 1, 0, none⟩)]) rfl trivial (enters_of Tryd.func93 (by kernel_rfl) rfl)
    (encs := stEncs) (Kp := stKp b) (S := fun xs => xs = stepsM n i) (Sp := fun _ => True)
    (fun W1 hb1 _ => steps_seq 7 n i b W1 (by decide) hn.out hi.out (boxed_below f0 hb1) (boxed_below f1 hb1))
    (fun A B h j o hj hA _ => by rw [h.block j (Array.getElem?_eq_some_iff.1 hA).1 (by unfold stOwn; omega)]; exact hA)
    (fun h j => ⟨Nat.le_trans h.1 j.1, j.2.1.trans h.2.1, j.2.2.trans h.2.2⟩)
    (fun W l o o' hl hW _ _ => ⟨by simp, World.putObj_heap_other (by omega), World.putObj_heap_other (by omega)⟩)
    (fun _ => rfl)
    (fun pre W => ∃ (n' i' : Nat) (p' : List (List UInt8)) (A' : Option Addr) (k' c' : Nat) (D T : Value) (acc : List (List UInt8 × List UInt8)) (ts : List Value) (dl : List UInt8), ClI w b n i (lfD leaf) (lfT leaf) path (.func (.func 73) #[] #[.pointer (some ⟨w.heap.size + 1, 0, none⟩)]) pre W n' i' p' A' k' c' D T acc ts dl)
    (fun c _ W => c = .ret ∧ wayM n i (lfD leaf) path = none ∧ W.heap[w.heap.size + 1]? = some (.cells #[.slice none 0 0, .slice none 0 0] 89 (0, 0)) ∧ Boxed W (w.heap.size + 1 + 1) 4 (.bool false) ∧ Below w.heap.size w W) ?hI ?hIx ?hIs ?hIxs ⟨_, _, _, _, _, _, _, _, _, _, _, hI0⟩
    (fun x a' W => ∃ g11 : Nat, b ≤ g11 ∧ a' = { tmps := (#[.int .i64 (n : Int), .int .i64 (i : Int), .slice A m c, .slice P k cp, undef, undef, undef, .pointer (some ⟨w.heap.size, 0, none⟩), .pointer (some ⟨w.heap.size + 1, 0, none⟩), .pointer (some ⟨w.heap.size + 1 + 1, 0, none⟩), .pointer (some ⟨w.heap.size + 1 + 1 + 1, 0, none⟩), undef, undef, .func (.func 73) #[] #[.pointer (some ⟨w.heap.size + 1, 0, none⟩)], .func (.func 73) #[] #[.pointer (some ⟨w.heap.size + 1, 0, none⟩)], .slice A m c, .slice (some ⟨W0.heap.size, 0, none⟩) 1 1, .slice A4 (32 + m) c4, .tuple #[], .int .i64 (n : Int), .int .i64 (i : Int), .func (.func 93) #[] #[.pointer (some ⟨b, 0, none⟩), .pointer (some ⟨b + 1, 0, none⟩)], undef, undef, undef, undef, undef, undef, undef, undef, undef, undef, undef, undef, undef, undef, undef, undef, undef, undef, undef, undef, undef, undef, undef, undef, undef, undef, undef, undef, undef, undef, undef, undef, undef, undef, undef, undef, undef, undef, undef, undef, undef, undef, undef, undef, undef, undef, undef, undef, undef, undef, undef].setIfInBounds 22 (.agg #[.bool x.1, .bool x.2])).setIfInBounds 11 (.pointer (some ⟨g11, 0, none⟩)), defers := [] } ∧ W.heap[g11]? = some (.cells #[.bool x.1, .bool x.2] 121 (0, 0))) ?hAx ?assign ?body ?done ?stop
  case hI =>
    rintro s A B row ⟨n', i', p', A', k', c', D, T, acc, ts, dl, h⟩ hg hr
    exact ⟨n', i', p', A', k', c', D, T, acc, ts, dl, h.keepX (KeepX.of_grown hg fun j e => (hr j e).2) (h.bw.grown hg h.bw.size fun j e => by have := (hr j e).1; have := h.hb; omega)⟩
  case hIx =>
    rintro c s A B row ⟨h1, h2, h3, h4, h5⟩ hg hr
    have ne : ∀ (j : Nat) (cs : Array Value) (t : TypeId) (fr : Nat × Nat), A.heap[j]? = some (.cells cs t fr) → some j ≠ row := fun j cs t fr hj e => by
      obtain ⟨_, o, ho, hc⟩ := hr j e.symm
      rw [hj] at ho
      obtain rfl := Option.some.inj ho
      cases hc
    exact ⟨h1, h2, (hg.block _ (Array.getElem?_eq_some_iff.1 h3).1 (ne _ _ _ _ h3)).trans h3, h4.kept hg (ne _ _ _ _ h4), h5.grown hg h5.size fun j e => by have := (hr j e).1; omega⟩
  case hIs =>
    rintro s A B ⟨n', i', p', A', k', c', D, T, acc, ts, dl, h⟩ ho
    exact ⟨n', i', p', A', k', c', D, T, acc, ts, dl, h.keepX (KeepX.of_only ho) (h.bw.trans (ho.below h.bw.size fun j hj e => by have := h.hb; unfold stOwn at e; omega))⟩
  case hIxs =>
    rintro c s A B ⟨h1, h2, h3, h4, h5⟩ ho
    have l3 := (Array.getElem?_eq_some_iff.1 h3).1
    exact ⟨h1, h2, (ho.block _ l3 (by unfold stOwn; omega)).trans h3, (ho.block _ h4.lt (by unfold stOwn; omega)).trans h4, h5.trans (ho.below h5.size fun j hj e => by unfold stOwn at e; omega)⟩
  case hAx =>
    rintro x a' s A B row ⟨g11, h1, h2, h3⟩ hg hr
    refine ⟨g11, h1, h2, (hg.block _ (Array.getElem?_eq_some_iff.1 h3).1 (fun e => ?_)).trans h3⟩
    obtain ⟨_, o, ho, hc⟩ := hr g11 e.symm
    rw [h3] at ho
    obtain rfl := Option.some.inj ho
    cases hc
  case assign =>
    rintro r pre ⟨x1, x2⟩ W K ⟨n', i', p', A', k', c', D, T, acc, ts, dl, h⟩ hnx hsz hK
    gi_wp2
    have hB := (Below.refl W.heap.size W).alloc (Nat.le_refl _) (.cells #[.bool x1, .bool x2] 121)
    have hz := h.sz
    exact hK _ _ ⟨hB.size, fun j o _ hj _ => (hB.block j (Array.getElem?_eq_some_iff.1 hj).1).trans hj⟩ ⟨hB.size, hB.block _ (by omega), hB.block _ (by omega)⟩ ⟨n', i', p', A', k', c', D, T, acc, ts, dl, h.keepX (KeepX.of_below hB) (h.bw.trans (hB.mono h.bw.size))⟩ ⟨W.heap.size, by omega, rfl, heap_alloc_new W _⟩
  case body =>
    rintro r pre ⟨al, ri⟩ a' W ⟨n', i', p', A', k', c', D, T, acc, ts, dl, hI⟩ hnx ⟨g11, hg11, rfl, hc11⟩ hsz
    obtain ⟨h1, hal, hri, hxs⟩ : 1 < n' ∧ decide (n' ≤ xr i') = al ∧ decide (i' % 2 = 0) = ri ∧ stepsM n' i' = (al, ri) :: stepsM ((n' + 1) / 2) (i' / 2) := by
      obtain ⟨rest, hr⟩ := hnx
      rw [hI.st, List.append_assoc] at hr
      have hr := List.append_cancel_left hr
      by_cases h1 : 1 < n'
      · rw [stepsM_big h1] at hr ⊢
        injection hr with e1 e2
        injection e1 with e3 e4
        exact ⟨h1, e3.symm, e4.symm, by rw [e3, e4]⟩
      · rw [stepsM_one h1] at hr; cases hr
    have hacl : acc.length ≤ 65536 := by
      have h9 := congrArg List.length hI.st
      rw [List.length_append, ← hI.al] at h9
      have := stepsM_len n i
      have := hn.out
      omega
    obtain ⟨AD, cD, rfl, hcD, hdsD⟩ := hI.way.row.ds hI.way.d32
    obtain ⟨AT, cT, rfl, hcT, hoT, hreT⟩ := hI.way.rowT.form
    obtain ⟨q, hq⟩ : ∃ q, acc.length = q := ⟨_, rfl⟩
    have hdl : (lfD leaf :: acc.map (·.1))[q]? = some dl := by
      have := hI.la
      rw [List.getLast?_eq_getElem?] at this
      simpa [hq] using this
    have hlD : (lfD leaf :: acc.map (·.1)).length = q + 1 := by simp [hq]
    have hlT : ts.length = q + 1 := by rw [hI.way.lt, hlD]
    rw [hlD] at hI hcD
    rw [hlT] at hI hcT
    have hdl32 := hI.way.d32 dl (List.mem_of_getElem? hdl)
    obtain ⟨gD, oD, eD, hgD, hrD⟩ := hdsD q dl hdl
    subst eD
    obtain ⟨c0, c1, fz0, fz1⟩ := way_cells hI.way.cell
    have hqs : q ≤ 65536 := by omega
    have k4 : (q : Int) < (q : Int) + 1 := by omega
    have k2 : (0 : Int) ≤ (q : Int) := by omega
    have pd := Lib.hid (dc_info hdl32)
    have pd2 := Lib.hid (dg_info dl hdl32)
    have ps : Hid (32 = (dg dl).size) := Lib.hid (by rw [dg_size, hdl32])
    have po := Lib.hid (dg_one dl)
    have hrD9 := Lib.hid hrD
    replace hI := Lib.hid hI
    replace hq := Lib.hid hq
    replace hxs := Lib.hid hxs
    replace hlD := Lib.hid hlD
    replace hlT := Lib.hid hlT
    replace hdl := Lib.hid hdl
    clear hnx hrD hdsD hreT hoT
    have hpath := hI.out.bp
    have hcP := hpath.cell
    have hI5 : ∀ V, Below W.heap.size W V → V.cell? ⟨g11, 0, none⟩ = some (.bool al) ∧ V.cell? ⟨g11, 1, none⟩ = some (.bool ri) ∧ V.cell? ⟨w.heap.size, 0, none⟩ = some (.slice A' k' c') := fun V hV => by
      have h11 := (hV.block g11 (Array.getElem?_eq_some_iff.1 hc11).1).trans hc11
      exact ⟨by rw [cell_of_row _ _ _ _ _ _ h11]; rfl, by rw [cell_of_row _ _ _ _ _ _ h11]; rfl, (boxed_below hpath hV).cell⟩
    replace hI5 := Lib.hid hI5
    simp only [List.setIfInBounds_toArray, List.set]

    cases al with
    | true =>
      gi_wp2_with (first
        | (refine wpListIn_round_of_wp (by rfl) (by intro _ e; cases e) (wp_load_mid 23 (.tmp 29) (by rfl) gD (oD + q * 32) (by rfl) (dc dl) _ hrD9.out Tryd.underlying23 (by rfl) pd.out ?_))
        | (refine wpListIn_round_of_wp (by rfl) (by intro _ e; cases e) (wp_new_row' 23 (.tmp 12) (.tmp 30) (by rfl) (by rfl) (dg dl) W.heap.size (by rfl) rfl (by rfl) 23 _ pd2.out ps.out po.out ?_); intro w5 hd5 hz5 hB5; replace hd5 := Lib.hid hd5; obtain ⟨u1, u2, u3⟩ := hI5.out w5 hB5; replace hz5 := Lib.hid hz5))
      have hnx : n' ≤ xr i' := of_decide_eq_true hal
      have hWV := hB5
      have hz := hI.out.sz
      have hb9 := hI.out.hb
      have hs5 := hB5.size
      have way5 := hI.out.way.keepX (X2 := []) (KeepX.of_below hB5) (fun k hk => by cases hk) (by simp) (fun _ _ => by simp) (fun _ _ => by simp)
      have way59 := Lib.hid way5
      have hbu := Lib.hid (builtSlice_d1 dl hdl32)
      have hD1 : Hid (∀ x ∈ [dl], x.length = 32) := Lib.hid (fun x hx => by simp at hx; subst hx; exact hdl32)
      have hall : Hid (∀ x ∈ (lfD leaf :: acc.map (·.1)) ++ [dl], x.length = 32) := Lib.hid (fun x hx => by
        rcases List.mem_append.1 hx with h | h
        · exact hI.out.way.d32 x h
        · exact hD1.out x h)
      have hn7 : Hid (((lfD leaf :: acc.map (·.1)) ++ [dl]).length = q + 1 + 1) := Lib.hid (by rw [List.length_append, hlD.out]; rfl)
      have hn6 : Hid ((ts ++ [Value.slice none 0 0]).length = q + 1 + 1) := Lib.hid (by rw [List.length_append, hlT.out]; rfl)
      have hlT6 : Hid (ts.length ≤ 1000000) := Lib.hid (by rw [hlT.out]; omega)
      obtain ⟨OD, hOD⟩ : ∃ OD, Value.ownBlock (.slice (some ⟨gD, oD, none⟩) (q + 1) cD) = OD := ⟨_, rfl⟩
      obtain ⟨OT, hOT9⟩ : ∃ OT, Value.ownBlock (.slice AT (q + 1) cT) = OT := ⟨_, rfl⟩
      have hDT : ∀ g, OD = some g → OT ≠ some g := fun g e => by
        rw [← hOD] at e; rw [← hOT9]
        obtain ⟨cs, h⟩ := hI.out.way.row.at e
        exact hI.out.way.rowT.neT h (by decide)
      have nDB : OD ≠ some (w.heap.size + 1) := by rw [← hOD]; exact hI.out.way.row.neT (b' := 0) hI.out.way.cell (by decide)
      have nTB : OT ≠ some (w.heap.size + 1) := by rw [← hOT9]; exact hI.out.way.rowT.neT hI.out.way.cell (by decide)
      have hOT : ∀ {V : World}, Only (fun k => OT = some k) w5 V → Only (fun k => OD = some k ∨ OT = some k) w5 V := fun h => h.mono fun k _ e => .inr e
      have hDlt : ∀ g, OD = some g → g < W.heap.size := fun g e => (hI.out.way.row.high (hOD.trans e)).2
      have hTlt : ∀ g, OT = some g → g < W.heap.size := fun g e => (hI.out.way.rowT.high (hOT9.trans e)).2
      have hB7 : Hid (∀ V, Only (fun k => OD = some k ∨ OT = some k) w5 V → V.heap[w.heap.size + 1]? = some (.cells #[.slice (some ⟨gD, oD, none⟩) (q + 1) cD, .slice AT (q + 1) cT] 89 (0, 0))) := Lib.hid fun V hV => (hV.block _ (by omega) (fun e => by rcases e with e | e; exact nDB e; exact nTB e)).trans way59.out.cell
      have hS : Hid (∀ V, Only (fun k => OD = some k ∨ OT = some k) w5 V → V.cell? ⟨w.heap.size + 1, 1, none⟩ = some (.slice AT (q + 1) cT) ∧ V.cell? ⟨w.heap.size + 1, 0, none⟩ = some (.slice (some ⟨gD, oD, none⟩) (q + 1) cD) ∧ V.rangeAt W.heap.size 0 (dc dl)) := Lib.hid fun V hV => by
        obtain ⟨e0, e1, _, _⟩ := way_cells (hB7.out V hV)
        refine ⟨e1, e0, fun j v hj => ?_⟩
        have hlt : W.heap.size < w5.heap.size := (Array.getElem?_eq_some_iff.1 hd5.out).1
        have hh := (hV.block W.heap.size hlt (fun e => by rcases e with e | e; have := hDlt _ e; omega; have := hTlt _ e; omega)).trans hd5.out
        rw [Nat.zero_add, cell_of_row _ _ _ _ _ _ hh]
        simpa [dg] using hj
      have hRT : Hid (∀ V, Below w5.heap.size w5 V → RowT V w.heap.size (.slice AT (q + 1) cT) ts) := Lib.hid fun V hV => way59.out.rowT.below hV
      have hRD : Hid (∀ V, Only (fun k => OT = some k) w5 V → RowD V w.heap.size (.slice (some ⟨gD, oD, none⟩) (q + 1) cD) (lfD leaf :: acc.map (·.1))) := Lib.hid fun V hV => way59.out.row.keepX (X := [OT]) ⟨hV.size, fun g cs t fr hg hn => (hV.block g (Array.getElem?_eq_some_iff.1 hg).1 (fun e => hn (by simp [e]))).trans hg⟩ (fun g e hm => by
        have e1 : OD = some g := by rw [← hOD]; exact e
        simp at hm
        exact hDT g e1 hm.symm)
      have hT3 : Hid (∀ V V', Below w5.heap.size w5 V → V.grownBy V' (Value.ownBlock (.slice AT (q + 1) cT)) → Only (fun k => OT = some k) w5 V') := Lib.hid fun V V' hV hg => by
        rw [hOT9] at hg
        exact (Only.of_below hV).trans ⟨hg.os, hg.tape, hg.output, hg.size, fun k hk hno => hg.block k hk (fun e => hno e.symm)⟩
      have hD8 : Hid (∀ V V', Only (fun k => OT = some k) w5 V → V.grownBy V' (Value.ownBlock (.slice (some ⟨gD, oD, none⟩) (q + 1) cD)) → Only (fun k => OD = some k ∨ OT = some k) w5 V') := Lib.hid fun V V' hV hg => by
        rw [hOD] at hg
        exact (hOT hV).trans ⟨hg.os, hg.tape, hg.output, hg.size, fun k hk hno => hg.block k hk (fun e => hno (.inl e.symm))⟩
      have hRT8 : Hid (∀ (V V' : World) (T6 : Value) (l : List Value), V.grownBy V' (Value.ownBlock (.slice (some ⟨gD, oD, none⟩) (q + 1) cD)) → RowT V w.heap.size T6 l → Only (fun k => OT = some k) w5 V → RowT V' w.heap.size T6 l) := Lib.hid fun V V' T6 l hg hr ho => hr.keptG hg fun g e h => by
        rw [hOD] at h
        obtain ⟨cs, hc⟩ := hr.at e
        have hlt := hDlt g h
        have hw : V.heap[g]? = w5.heap[g]? := ho.block g (by omega) (fun e2 => hDT g h e2)
        obtain ⟨cs2, hc2⟩ := way59.out.row.at (hOD.trans h)
        rw [hw, hc2] at hc
        injection Option.some.inj hc with i1 i2 i3
        exact absurd i2 (by decide)
      have hbp5 := boxed_below hI.out.bp hB5
      have hfinA : Hid (∀ (V : World) (A6 : Option Addr) (c6 : Nat) (A7 : Option Addr) (c7 : Nat), Only (fun k => OD = some k ∨ OT = some k) w5 V → RowD V w.heap.size (.slice A7 (q + 1 + 1) c7) ((lfD leaf :: acc.map (·.1)) ++ [dl]) → RowT V w.heap.size (.slice A6 (q + 1 + 1) c6) (ts ++ [.slice none 0 0]) → (∀ k, Value.ownBlock (.slice A7 (q + 1 + 1) c7) = some k → OD = some k ∨ w5.heap.size ≤ k) → (∀ k, Value.ownBlock (.slice A6 (q + 1 + 1) c6) = some k → OT = some k ∨ w5.heap.size ≤ k) →
          KeepsFrom W6.heap.size W ((V.setCell ⟨w.heap.size + 1, 1, none⟩ (.slice A6 (q + 1 + 1) c6)).setCell ⟨w.heap.size + 1, 0, none⟩ (.slice A7 (q + 1 + 1) c7)) ∧ stKp b W ((V.setCell ⟨w.heap.size + 1, 1, none⟩ (.slice A6 (q + 1 + 1) c6)).setCell ⟨w.heap.size + 1, 0, none⟩ (.slice A7 (q + 1 + 1) c7)) ∧
            ∃ (n' i' : Nat) (p' : List (List UInt8)) (A' : Option Addr) (k' c' : Nat) (D T : Value) (acc : List (List UInt8 × List UInt8)) (ts : List Value) (dl : List UInt8), ClI w b n i (lfD leaf) (lfT leaf) path (.func (.func 73) #[] #[.pointer (some ⟨w.heap.size + 1, 0, none⟩)]) (pre ++ [(true, ri)]) ((V.setCell ⟨w.heap.size + 1, 1, none⟩ (.slice A6 (q + 1 + 1) c6)).setCell ⟨w.heap.size + 1, 0, none⟩ (.slice A7 (q + 1 + 1) c7)) n' i' p' A' k' c' D T acc ts dl) := Lib.hid fun V A6 c6 A7 c7 ho hr7 hr6 hd hT => by
        obtain ⟨z1, z2⟩ := way_alone (fun j hj => by simp at hj; omega) way59.out hdl32 (by rw [hOD, hOT9]; exact ho) hr7 hr6 (by rw [hOD]; exact hd) (by rw [hOT9]; exact hT)
        have hbx : Boxed ((V.setCell ⟨w.heap.size + 1, 1, none⟩ (.slice A6 (q + 1 + 1) c6)).setCell ⟨w.heap.size + 1, 0, none⟩ (.slice A7 (q + 1 + 1) c7)) w.heap.size 31 (.slice A' k' c') := (z2.block _ hbp5.lt (fun e => by
          rcases e with e | e | e
          · omega
          · exact hI.out.way.row.neT (b' := 0) hI.out.bp (by decide) e
          · exact hI.out.way.rowT.neT hI.out.bp (by decide) e)).trans hbp5
        obtain ⟨x1, x2, x3⟩ := climb_fin W6.heap.size hI.out (true, ri) h1 hxs.out hB5 z2 _ _ [] dl _ z1 (by rw [hOD]; exact hd) (by rw [hOT9]; exact hT) p' A' k' c' (wayM_alone h1 hnx) hI.out.p32 hI.out.lp hI.out.hc hI.out.ap (Only.refl _ _) hbx
        exact ⟨x1, x2, _, _, _, _, _, _, _, _, _, _, _, x3⟩
      have hwl : Hid (∀ (V V0 : World) (X Y : Value) (O : Option Nat), Y.ownBlock = O → w5.heap.size ≤ V.heap.size → (X.ownBlock = Y.ownBlock ∨ X.ownBlock = some V.heap.size) → ∀ k, X.ownBlock = some k → O = some k ∨ w5.heap.size ≤ k) := Lib.hid fun V V0 X Y O hO hs h k e => by
        rcases h with h | h
        · left; rw [← hO, ← h]; exact e
        · right; rw [h] at e; injection e with e; omega
      have HB : Below w5.heap.size w5 w5.drew := (Below.refl _ _).drew
      clear hbp5
      refine wpIn_round_T 10 (fun w' => w'.cell? ⟨w.heap.size + 1, 1, none⟩ = some (.slice AT (q + 1) cT) ∧ w'.cell? ⟨w.heap.size + 1, 0, none⟩ = some (.slice (some ⟨gD, oD, none⟩) (q + 1) cD) ∧ w'.rangeAt W.heap.size 0 (dc dl)) (by kernel_rfl) (by kernel_rfl) (by exact hS.out _ (Only.of_below HB)) (fun hHeld => ?_)
      refine wpAnyT_take (i := 0) (oi := { dst := some 41, op := Op.fieldAddr 89 (Operand.tmp 8) 1, type := 0, pos := "merkle.go:102", after := #[], guard := none }) (v := ?_) rfl (by kernel_rfl) (by kernel_rfl) (by kernel_rfl) (by kernel_rfl) (fun _ _ _ h => h) (Or.inl ⟨by rfl, ?hyb1⟩) hHeld ?restb1
      case hyb1 =>
        intro w hSw
        try dsimp only at hSw
        go_simp
        try with_reducible rfl
      try simp only [Act.put, List.setIfInBounds_toArray, List.set_cons_zero, List.set_cons_succ]
      refine wpAnyT_take (i := 1) (oi := { dst := some 42, op := Op.load 75 (Operand.tmp 41), type := 75, pos := "merkle.go:102", after := #[{ on := 0, ground := Ground.data }], guard := none }) (v := ?_) rfl (by kernel_rfl) (by kernel_rfl) (by kernel_rfl) (by kernel_rfl) (fun _ _ _ h => h) (Or.inl ⟨by rfl, ?hyb2⟩) hHeld ?restb2
      case hyb2 =>
        intro w hSw
        try dsimp only at hSw
        go_simp
        try with_reducible rfl
      try simp only [Act.put, List.setIfInBounds_toArray, List.set_cons_zero, List.set_cons_succ]
      refine wpAnyT_take (i := 4) (oi := { dst := some 45, op := Op.fieldAddr 89 (Operand.tmp 8) 0, type := 0, pos := "merkle.go:102", after := #[], guard := none }) (v := ?_) rfl (by kernel_rfl) (by kernel_rfl) (by kernel_rfl) (by kernel_rfl) (fun _ _ _ h => h) (Or.inl ⟨by rfl, ?hyb3⟩) hHeld ?restb3
      case hyb3 =>
        intro w hSw
        try dsimp only at hSw
        go_simp
        try with_reducible rfl
      try simp only [Act.put, List.setIfInBounds_toArray, List.set_cons_zero, List.set_cons_succ]
      refine wpAnyT_take (i := 5) (oi := { dst := some 46, op := Op.load 31 (Operand.tmp 45), type := 31, pos := "merkle.go:102", after := #[{ on := 4, ground := Ground.data }], guard := none }) (v := ?_) rfl (by kernel_rfl) (by kernel_rfl) (by kernel_rfl) (by kernel_rfl) (fun _ _ _ h => h) (Or.inl ⟨by rfl, ?hyb4⟩) hHeld ?restb4
      case hyb4 =>
        intro w hSw
        try dsimp only at hSw
        go_simp
        try with_reducible rfl
      try simp only [Act.put, List.setIfInBounds_toArray, List.set_cons_zero, List.set_cons_succ]
      refine wpAnyT_two (i := 2) (j := 6) (o := { dst := some 43, op := Op.buildSlice 75 1 #[(0, Operand.const (Value.slice none 0 0))], type := 75, pos := "merkle.go:102", after := #[], guard := none }) (o2 := { dst := some 47, op := Op.load 23 (Operand.tmp 12), type := 23, pos := "merkle.go:102", after := #[], guard := none }) (by kernel_rfl) rfl rfl (fun K hK => ?_) (fun K hK => ?_)
      · go_simp
        have hcn : (World.alloc w5.drew (.cells #[.slice none 0 0] 48)).cell? ⟨w5.drew.heap.size, 0, none⟩ = some (.slice none 0 0) := by rw [cell_of_row _ _ _ _ _ _ (heap_alloc_new w5.drew _)]; rfl
        have HB2 := HB.alloc HB.size (.cells #[.slice none 0 0] 48)
        clear HB
        have HB := HB2
        clear HB2
        refine hK.out _ _ (by exact hS.out _ (Only.of_below HB)) (fun hHeld' => ?_)
        clear hK K hHeld
        have hHeld := hHeld'
        clear hHeld'
        try simp only [Act.put, List.setIfInBounds_toArray, List.set_cons_zero, List.set_cons_succ]
        refine wpAnyT_two (i := 3) (j := 6) (o := { dst := some 44, op := Op.call { callee := Callee.builtin Builtin.append, args := #[Operand.tmp 42, Operand.tmp 43], argTypes := #[75, 75] }, type := 75, pos := "merkle.go:102", after := #[{ on := 1, ground := Ground.data }, { on := 2, ground := Ground.data }], guard := none }) (o2 := { dst := some 47, op := Op.load 23 (Operand.tmp 12), type := 23, pos := "merkle.go:102", after := #[], guard := none }) (by kernel_rfl) rfl rfl (fun K hK => ?_) (fun K hK => ?_)
        · refine step_appT _ (by rfl) (.tmp 42) (.tmp 43) (by rfl) w.heap.size (.slice AT (q + 1) cT) ts w5.drew.heap.size 0 0 none (by rfl) (by rfl) hcn (hRT.out _ HB) hlT6.out (Nat.le_trans hI.out.bw.size (Nat.le_trans hB5.size HB.size)) ?_
          intro rowT' w6 hrowT6 hgT6 hwT6
          have HO := hT3.out _ _ HB hgT6
          refine hK.out _ _ (by exact hS.out _ (hOT HO)) (fun hHeld' => ?_)
          clear hK K hHeld
          have hHeld := hHeld'
          clear hHeld'
          try simp only [Act.put, List.setIfInBounds_toArray, List.set_cons_zero, List.set_cons_succ]
          refine wpAnyT_take (i := 9) (oi := { dst := some 50, op := Op.fieldAddr 89 (Operand.tmp 8) 1, type := 0, pos := "merkle.go:102", after := #[{ on := 0, ground := Ground.phase }, { on := 1, ground := Ground.phase }, { on := 2, ground := Ground.phase }, { on := 3, ground := Ground.phase }, { on := 4, ground := Ground.phase }, { on := 5, ground := Ground.phase }, { on := 6, ground := Ground.textOnly Departure.lateStores }, { on := 7, ground := Ground.textOnly Departure.inlinedCapture }, { on := 8, ground := Ground.textOnly Departure.lateStoresUnsure }], guard := none }) (v := ?_) rfl (by kernel_rfl) (by kernel_rfl) (by kernel_rfl) (by kernel_rfl) (fun _ _ _ h => h) (Or.inl ⟨by rfl, ?hyb5⟩) hHeld ?restb5
          case hyb5 =>
            intro w hSw
            try dsimp only at hSw
            go_simp
            try with_reducible rfl
          try simp only [Act.put, List.setIfInBounds_toArray, List.set_cons_zero, List.set_cons_succ]
          refine wpAnyT_one (i := 6) (o := { dst := some 47, op := Op.load 23 (Operand.tmp 12), type := 23, pos := "merkle.go:102", after := #[], guard := none }) (by kernel_rfl) rfl (fun K hK => ?_)
          rw [if_pos (by rfl)]
          refine wp_load_mid 23 (.tmp 12) (by rfl) W.heap.size 0 (by rfl) (dc dl) _ hHeld.2.2 Tryd.underlying23 (by rfl) pd.out ?_
          refine hK.out _ _ (by exact hHeld) (fun hHeld' => ?_)
          clear hK K hHeld
          have hHeld := hHeld'
          clear hHeld'
          try simp only [Act.put, List.setIfInBounds_toArray, List.set_cons_zero, List.set_cons_succ]
          refine wpAnyT_one (i := 7) (o := { dst := some 48, op := Op.buildSlice 31 1 #[(0, Operand.tmp 47)], type := 31, pos := "merkle.go:102", after := #[{ on := 6, ground := Ground.data }], guard := none }) (by kernel_rfl) rfl (fun K hK => ?_)
          refine step_built (by rfl) 31 23 1 #[(0, .tmp 47)] (by rfl) Tryd.underlying31 (dc dl).toArray (by simp only [List.map_toArray, List.map_cons, List.map_nil]; exact hbu.out) ?_
          have hat7 := dsAt_row (l := [dl]) hD1.out (heap_alloc_new w6 (.cells (dc dl).toArray 23)) (by simp [dsC])
          have HO2 := HO.alloc (.cells (dc dl).toArray 23)
          clear HO
          have HO := HO2
          clear HO2
          refine hK.out _ _ (by exact hS.out _ (hOT HO)) (fun hHeld' => ?_)
          clear hK K hHeld
          have hHeld := hHeld'
          clear hHeld'
          try simp only [Act.put, List.setIfInBounds_toArray, List.set_cons_zero, List.set_cons_succ]
          refine wpAnyT_one (i := 8) (o := { dst := some 49, op := Op.call { callee := Callee.builtin Builtin.append, args := #[Operand.tmp 46, Operand.tmp 48], argTypes := #[31, 31] }, type := 31, pos := "merkle.go:102", after := #[{ on := 5, ground := Ground.data }, { on := 7, ground := Ground.data }, { on := 3, ground := Ground.chain }], guard := none }) (by kernel_rfl) rfl (fun K hK => ?_)
          refine step_appD5 _ (by rfl) (.tmp 46) (.tmp 48) (by rfl) w.heap.size (.slice (some ⟨gD, oD, none⟩) (q + 1) cD) (lfD leaf :: acc.map (·.1)) [dl] (some ⟨w6.heap.size, 0, none⟩) 1 1 (by rfl) (by rfl) (by rfl) hat7 (hRD.out _ HO) hD1.out (by rw [hlD.out]; omega) (by decide) (Nat.le_trans hI.out.bw.size (Nat.le_trans hB5.size HO.size)) ?_
          intro rowD' w7 hrowD7 hgD7 hwD7
          have hO7 := hD8.out _ _ HO hgD7
          have hrT7 := hRT8.out _ _ _ _ hgD7 (by first | exact hrowT6 | exact RowT.below hrowT6 ((Below.refl _ _).alloc (Nat.le_refl _) _)) HO
          obtain ⟨A7, c7, e7, hcl7, hds7⟩ := hrowD7.ds hall.out
          rw [hn7.out] at e7 hcl7
          subst e7
          obtain ⟨A6, c6, e6, hcl6, -, -⟩ := hrT7.form
          rw [hn6.out] at e6 hcl6
          subst e6
          obtain ⟨y0, y1, y2, y3⟩ := way_cells (hB7.out _ hO7)
          refine hK.out _ _ (by exact hS.out _ hO7) (fun hHeld' => ?_)
          clear hK K hHeld
          have hHeld := hHeld'
          clear hHeld'
          try simp only [Act.put, List.setIfInBounds_toArray, List.set_cons_zero, List.set_cons_succ]
          refine wpAnyT_tail (i := 10) (o := { dst := none, op := Op.store 75 (Operand.tmp 50) (Operand.tmp 44), type := 0, pos := "merkle.go:102", after := #[{ on := 9, ground := Ground.data }, { on := 3, ground := Ground.data }, { on := 8, ground := Ground.chain }, { on := 0, ground := Ground.phase }, { on := 1, ground := Ground.phase }, { on := 2, ground := Ground.phase }, { on := 3, ground := Ground.phase }, { on := 4, ground := Ground.phase }, { on := 5, ground := Ground.phase }, { on := 6, ground := Ground.textOnly Departure.lateStores }, { on := 7, ground := Ground.textOnly Departure.inlinedCapture }, { on := 8, ground := Ground.textOnly Departure.lateStoresUnsure }], guard := none }) (by kernel_rfl) rfl (by rfl) (fun K hK => ?_)
          go_simp
          refine hK.out _ _ ?_
          clear hK K
          try simp only [Act.put, List.setIfInBounds_toArray, List.set_cons_zero, List.set_cons_succ]
          refine wpAnyT_pure (i := 11) (oi := { dst := some 51, op := Op.fieldAddr 89 (Operand.tmp 8) 0, type := 0, pos := "merkle.go:102", after := #[{ on := 0, ground := Ground.phase }, { on := 1, ground := Ground.phase }, { on := 2, ground := Ground.phase }, { on := 3, ground := Ground.phase }, { on := 4, ground := Ground.phase }, { on := 5, ground := Ground.phase }, { on := 6, ground := Ground.phase }, { on := 7, ground := Ground.phase }, { on := 8, ground := Ground.phase }, { on := 9, ground := Ground.phase }, { on := 10, ground := Ground.phase }], guard := none }) (v := ?_) rfl (by kernel_rfl) (by kernel_rfl) (by kernel_rfl) (fun _ _ _ h => h) (Or.inl ⟨by rfl, ?hyb6⟩) ?restb6
          case hyb6 =>
            intro w hSw
            go_simp
            try with_reducible rfl
          try simp only [Act.put, List.setIfInBounds_toArray, List.set_cons_zero, List.set_cons_succ]
          refine wpAnyT_tail (i := 12) (o := { dst := none, op := Op.store 31 (Operand.tmp 51) (Operand.tmp 49), type := 0, pos := "merkle.go:102", after := #[{ on := 11, ground := Ground.data }, { on := 8, ground := Ground.data }, { on := 10, ground := Ground.chain }, { on := 0, ground := Ground.phase }, { on := 1, ground := Ground.phase }, { on := 2, ground := Ground.phase }, { on := 3, ground := Ground.phase }, { on := 4, ground := Ground.phase }, { on := 5, ground := Ground.phase }, { on := 6, ground := Ground.phase }, { on := 7, ground := Ground.phase }, { on := 8, ground := Ground.phase }, { on := 9, ground := Ground.phase }, { on := 10, ground := Ground.phase }], guard := none }) (by kernel_rfl) rfl (by rfl) (fun K hK => ?_)
          go_simp
          refine hK.out _ _ ?_
          clear hK K
          try simp only [Act.put, List.setIfInBounds_toArray, List.set_cons_zero, List.set_cons_succ]
          refine wpAnyT_done (by kernel_rfl) ?_ _
          refine strict_normal ?_
          gi_wp2
          exact hfinA.out w7 A6 c6 A7 c7 hO7 hrowD7 hrT7 (hwl.out _ w7 _ _ _ hOD HO.size hwD7) (hwl.out _ w7 _ _ _ hOT9 (HB.size) hwT6)
        · rw [if_pos (by rfl)]
          refine wp_load_mid 23 (.tmp 12) (by rfl) W.heap.size 0 (by rfl) (dc dl) _ hHeld.2.2 Tryd.underlying23 (by rfl) pd.out ?_
          refine hK.out _ _ (by exact hHeld) (fun hHeld' => ?_)
          clear hK K hHeld
          have hHeld := hHeld'
          clear hHeld'
          try simp only [Act.put, List.setIfInBounds_toArray, List.set_cons_zero, List.set_cons_succ]
          refine wpAnyT_two (i := 3) (j := 7) (o := { dst := some 44, op := Op.call { callee := Callee.builtin Builtin.append, args := #[Operand.tmp 42, Operand.tmp 43], argTypes := #[75, 75] }, type := 75, pos := "merkle.go:102", after := #[{ on := 1, ground := Ground.data }, { on := 2, ground := Ground.data }], guard := none }) (o2 := { dst := some 48, op := Op.buildSlice 31 1 #[(0, Operand.tmp 47)], type := 31, pos := "merkle.go:102", after := #[{ on := 6, ground := Ground.data }], guard := none }) (by kernel_rfl) rfl rfl (fun K hK => ?_) (fun K hK => ?_)
          · refine step_appT _ (by rfl) (.tmp 42) (.tmp 43) (by rfl) w.heap.size (.slice AT (q + 1) cT) ts w5.drew.heap.size 0 0 none (by rfl) (by rfl) hcn (hRT.out _ HB) hlT6.out (Nat.le_trans hI.out.bw.size (Nat.le_trans hB5.size HB.size)) ?_
            intro rowT' w6 hrowT6 hgT6 hwT6
            have HO := hT3.out _ _ HB hgT6
            refine hK.out _ _ (by exact hS.out _ (hOT HO)) (fun hHeld' => ?_)
            clear hK K hHeld
            have hHeld := hHeld'
            clear hHeld'
            try simp only [Act.put, List.setIfInBounds_toArray, List.set_cons_zero, List.set_cons_succ]
            refine wpAnyT_take (i := 9) (oi := { dst := some 50, op := Op.fieldAddr 89 (Operand.tmp 8) 1, type := 0, pos := "merkle.go:102", after := #[{ on := 0, ground := Ground.phase }, { on := 1, ground := Ground.phase }, { on := 2, ground := Ground.phase }, { on := 3, ground := Ground.phase }, { on := 4, ground := Ground.phase }, { on := 5, ground := Ground.phase }, { on := 6, ground := Ground.textOnly Departure.lateStores }, { on := 7, ground := Ground.textOnly Departure.inlinedCapture }, { on := 8, ground := Ground.textOnly Departure.lateStoresUnsure }], guard := none }) (v := ?_) rfl (by kernel_rfl) (by kernel_rfl) (by kernel_rfl) (by kernel_rfl) (fun _ _ _ h => h) (Or.inl ⟨by rfl, ?hyb7⟩) hHeld ?restb7
            case hyb7 =>
              intro w hSw
              try dsimp only at hSw
              go_simp
              try with_reducible rfl
            try simp only [Act.put, List.setIfInBounds_toArray, List.set_cons_zero, List.set_cons_succ]
            refine wpAnyT_one (i := 7) (o := { dst := some 48, op := Op.buildSlice 31 1 #[(0, Operand.tmp 47)], type := 31, pos := "merkle.go:102", after := #[{ on := 6, ground := Ground.data }], guard := none }) (by kernel_rfl) rfl (fun K hK => ?_)
            refine step_built (by rfl) 31 23 1 #[(0, .tmp 47)] (by rfl) Tryd.underlying31 (dc dl).toArray (by simp only [List.map_toArray, List.map_cons, List.map_nil]; exact hbu.out) ?_
            have hat7 := dsAt_row (l := [dl]) hD1.out (heap_alloc_new w6 (.cells (dc dl).toArray 23)) (by simp [dsC])
            have HO2 := HO.alloc (.cells (dc dl).toArray 23)
            clear HO
            have HO := HO2
            clear HO2
            refine hK.out _ _ (by exact hS.out _ (hOT HO)) (fun hHeld' => ?_)
            clear hK K hHeld
            have hHeld := hHeld'
            clear hHeld'
            try simp only [Act.put, List.setIfInBounds_toArray, List.set_cons_zero, List.set_cons_succ]
            refine wpAnyT_one (i := 8) (o := { dst := some 49, op := Op.call { callee := Callee.builtin Builtin.append, args := #[Operand.tmp 46, Operand.tmp 48], argTypes := #[31, 31] }, type := 31, pos := "merkle.go:102", after := #[{ on := 5, ground := Ground.data }, { on := 7, ground := Ground.data }, { on := 3, ground := Ground.chain }], guard := none }) (by kernel_rfl) rfl (fun K hK => ?_)
            refine step_appD5 _ (by rfl) (.tmp 46) (.tmp 48) (by rfl) w.heap.size (.slice (some ⟨gD, oD, none⟩) (q + 1) cD) (lfD leaf :: acc.map (·.1)) [dl] (some ⟨w6.heap.size, 0, none⟩) 1 1 (by rfl) (by rfl) (by rfl) hat7 (hRD.out _ HO) hD1.out (by rw [hlD.out]; omega) (by decide) (Nat.le_trans hI.out.bw.size (Nat.le_trans hB5.size HO.size)) ?_
            intro rowD' w7 hrowD7 hgD7 hwD7
            have hO7 := hD8.out _ _ HO hgD7
            have hrT7 := hRT8.out _ _ _ _ hgD7 (by first | exact hrowT6 | exact RowT.below hrowT6 ((Below.refl _ _).alloc (Nat.le_refl _) _)) HO
            obtain ⟨A7, c7, e7, hcl7, hds7⟩ := hrowD7.ds hall.out
            rw [hn7.out] at e7 hcl7
            subst e7
            obtain ⟨A6, c6, e6, hcl6, -, -⟩ := hrT7.form
            rw [hn6.out] at e6 hcl6
            subst e6
            obtain ⟨y0, y1, y2, y3⟩ := way_cells (hB7.out _ hO7)
            refine hK.out _ _ (by exact hS.out _ hO7) (fun hHeld' => ?_)
            clear hK K hHeld
            have hHeld := hHeld'
            clear hHeld'
            try simp only [Act.put, List.setIfInBounds_toArray, List.set_cons_zero, List.set_cons_succ]
            refine wpAnyT_tail (i := 10) (o := { dst := none, op := Op.store 75 (Operand.tmp 50) (Operand.tmp 44), type := 0, pos := "merkle.go:102", after := #[{ on := 9, ground := Ground.data }, { on := 3, ground := Ground.data }, { on := 8, ground := Ground.chain }, { on := 0, ground := Ground.phase }, { on := 1, ground := Ground.phase }, { on := 2, ground := Ground.phase }, { on := 3, ground := Ground.phase }, { on := 4, ground := Ground.phase }, { on := 5, ground := Ground.phase }, { on := 6, ground := Ground.textOnly Departure.lateStores }, { on := 7, ground := Ground.textOnly Departure.inlinedCapture }, { on := 8, ground := Ground.textOnly Departure.lateStoresUnsure }], guard := none }) (by kernel_rfl) rfl (by rfl) (fun K hK => ?_)
            go_simp
            refine hK.out _ _ ?_
            clear hK K
            try simp only [Act.put, List.setIfInBounds_toArray, List.set_cons_zero, List.set_cons_succ]
            refine wpAnyT_pure (i := 11) (oi := { dst := some 51, op := Op.fieldAddr 89 (Operand.tmp 8) 0, type := 0, pos := "merkle.go:102", after := #[{ on := 0, ground := Ground.phase }, { on := 1, ground := Ground.phase }, { on := 2, ground := Ground.phase }, { on := 3, ground := Ground.phase }, { on := 4, ground := Ground.phase }, { on := 5, ground := Ground.phase }, { on := 6, ground := Ground.phase }, { on := 7, ground := Ground.phase }, { on := 8, ground := Ground.phase }, { on := 9, ground := Ground.phase }, { on := 10, ground := Ground.phase }], guard := none }) (v := ?_) rfl (by kernel_rfl) (by kernel_rfl) (by kernel_rfl) (fun _ _ _ h => h) (Or.inl ⟨by rfl, ?hyb8⟩) ?restb8
            case hyb8 =>
              intro w hSw
              go_simp
              try with_reducible rfl
            try simp only [Act.put, List.setIfInBounds_toArray, List.set_cons_zero, List.set_cons_succ]
            refine wpAnyT_tail (i := 12) (o := { dst := none, op := Op.store 31 (Operand.tmp 51) (Operand.tmp 49), type := 0, pos := "merkle.go:102", after := #[{ on := 11, ground := Ground.data }, { on := 8, ground := Ground.data }, { on := 10, ground := Ground.chain }, { on := 0, ground := Ground.phase }, { on := 1, ground := Ground.phase }, { on := 2, ground := Ground.phase }, { on := 3, ground := Ground.phase }, { on := 4, ground := Ground.phase }, { on := 5, ground := Ground.phase }, { on := 6, ground := Ground.phase }, { on := 7, ground := Ground.phase }, { on := 8, ground := Ground.phase }, { on := 9, ground := Ground.phase }, { on := 10, ground := Ground.phase }], guard := none }) (by kernel_rfl) rfl (by rfl) (fun K hK => ?_)
            go_simp
            refine hK.out _ _ ?_
            clear hK K
            try simp only [Act.put, List.setIfInBounds_toArray, List.set_cons_zero, List.set_cons_succ]
            refine wpAnyT_done (by kernel_rfl) ?_ _
            refine strict_normal ?_
            gi_wp2
            exact hfinA.out w7 A6 c6 A7 c7 hO7 hrowD7 hrT7 (hwl.out _ w7 _ _ _ hOD HO.size hwD7) (hwl.out _ w7 _ _ _ hOT9 (HB.size) hwT6)
          · refine step_built (by rfl) 31 23 1 #[(0, .tmp 47)] (by rfl) Tryd.underlying31 (dc dl).toArray (by simp only [List.map_toArray, List.map_cons, List.map_nil]; exact hbu.out) ?_
            have hat7 := dsAt_row (l := [dl]) hD1.out (heap_alloc_new (w5.drew.alloc (.cells #[.slice none 0 0] 48)) (.cells (dc dl).toArray 23)) (by simp [dsC])
            have HB2 := HB.alloc HB.size (.cells (dc dl).toArray 23)
            have hcn2 := ((Below.refl (w5.drew.alloc (.cells #[.slice none 0 0] 48)).heap.size (w5.drew.alloc (.cells #[.slice none 0 0] 48))).alloc (Nat.le_refl _) (.cells (dc dl).toArray 23) |>.cell (p := ⟨w5.drew.heap.size, 0, none⟩) (by simp)).trans hcn
            clear hcn
            have hcn := hcn2
            clear hcn2
            clear HB
            have HB := HB2
            clear HB2
            refine hK.out _ _ (by exact hS.out _ (Only.of_below HB)) (fun hHeld' => ?_)
            clear hK K hHeld
            have hHeld := hHeld'
            clear hHeld'
            try simp only [Act.put, List.setIfInBounds_toArray, List.set_cons_zero, List.set_cons_succ]
            refine wpAnyT_one (i := 3) (o := { dst := some 44, op := Op.call { callee := Callee.builtin Builtin.append, args := #[Operand.tmp 42, Operand.tmp 43], argTypes := #[75, 75] }, type := 75, pos := "merkle.go:102", after := #[{ on := 1, ground := Ground.data }, { on := 2, ground := Ground.data }], guard := none }) (by kernel_rfl) rfl (fun K hK => ?_)
            refine step_appT _ (by rfl) (.tmp 42) (.tmp 43) (by rfl) w.heap.size (.slice AT (q + 1) cT) ts w5.drew.heap.size 0 0 none (by rfl) (by rfl) hcn (hRT.out _ HB) hlT6.out (Nat.le_trans hI.out.bw.size (Nat.le_trans hB5.size HB.size)) ?_
            intro rowT' w6 hrowT6 hgT6 hwT6
            have HO := hT3.out _ _ HB hgT6
            have hat7b := hat7.block (W' := w6) (hgT6.block (w5.drew.alloc (.cells #[.slice none 0 0] 48)).heap.size (by first | (simp; done) | (simp; omega)) (fun e => by have h9 := (hI.out.way.rowT.high e.symm).2; have h8 := hB5.size; first | (rw [World.size_alloc] at h9; change w5.heap.size + 1 < _ at h9; omega) | (change w5.heap.size < _ at h9; omega)))
            clear hat7
            have hat7 := hat7b
            clear hat7b
            refine hK.out _ _ (by exact hS.out _ (hOT HO)) (fun hHeld' => ?_)
            clear hK K hHeld
            have hHeld := hHeld'
            clear hHeld'
            try simp only [Act.put, List.setIfInBounds_toArray, List.set_cons_zero, List.set_cons_succ]
            refine wpAnyT_take (i := 9) (oi := { dst := some 50, op := Op.fieldAddr 89 (Operand.tmp 8) 1, type := 0, pos := "merkle.go:102", after := #[{ on := 0, ground := Ground.phase }, { on := 1, ground := Ground.phase }, { on := 2, ground := Ground.phase }, { on := 3, ground := Ground.phase }, { on := 4, ground := Ground.phase }, { on := 5, ground := Ground.phase }, { on := 6, ground := Ground.textOnly Departure.lateStores }, { on := 7, ground := Ground.textOnly Departure.inlinedCapture }, { on := 8, ground := Ground.textOnly Departure.lateStoresUnsure }], guard := none }) (v := ?_) rfl (by kernel_rfl) (by kernel_rfl) (by kernel_rfl) (by kernel_rfl) (fun _ _ _ h => h) (Or.inl ⟨by rfl, ?hyb9⟩) hHeld ?restb9
            case hyb9 =>
              intro w hSw
              try dsimp only at hSw
              go_simp
              try with_reducible rfl
            try simp only [Act.put, List.setIfInBounds_toArray, List.set_cons_zero, List.set_cons_succ]
            refine wpAnyT_one (i := 8) (o := { dst := some 49, op := Op.call { callee := Callee.builtin Builtin.append, args := #[Operand.tmp 46, Operand.tmp 48], argTypes := #[31, 31] }, type := 31, pos := "merkle.go:102", after := #[{ on := 5, ground := Ground.data }, { on := 7, ground := Ground.data }, { on := 3, ground := Ground.chain }], guard := none }) (by kernel_rfl) rfl (fun K hK => ?_)
            refine step_appD5 _ (by rfl) (.tmp 46) (.tmp 48) (by rfl) w.heap.size (.slice (some ⟨gD, oD, none⟩) (q + 1) cD) (lfD leaf :: acc.map (·.1)) [dl] (some ⟨(w5.drew.alloc (.cells #[.slice none 0 0] 48)).heap.size, 0, none⟩) 1 1 (by rfl) (by rfl) (by rfl) hat7 (hRD.out _ HO) hD1.out (by rw [hlD.out]; omega) (by decide) (Nat.le_trans hI.out.bw.size (Nat.le_trans hB5.size HO.size)) ?_
            intro rowD' w7 hrowD7 hgD7 hwD7
            have hO7 := hD8.out _ _ HO hgD7
            have hrT7 := hRT8.out _ _ _ _ hgD7 (by first | exact hrowT6 | exact RowT.below hrowT6 ((Below.refl _ _).alloc (Nat.le_refl _) _)) HO
            obtain ⟨A7, c7, e7, hcl7, hds7⟩ := hrowD7.ds hall.out
            rw [hn7.out] at e7 hcl7
            subst e7
            obtain ⟨A6, c6, e6, hcl6, -, -⟩ := hrT7.form
            rw [hn6.out] at e6 hcl6
            subst e6
            obtain ⟨y0, y1, y2, y3⟩ := way_cells (hB7.out _ hO7)
            refine hK.out _ _ (by exact hS.out _ hO7) (fun hHeld' => ?_)
            clear hK K hHeld
            have hHeld := hHeld'
            clear hHeld'
            try simp only [Act.put, List.setIfInBounds_toArray, List.set_cons_zero, List.set_cons_succ]
            refine wpAnyT_tail (i := 10) (o := { dst := none, op := Op.store 75 (Operand.tmp 50) (Operand.tmp 44), type := 0, pos := "merkle.go:102", after := #[{ on := 9, ground := Ground.data }, { on := 3, ground := Ground.data }, { on := 8, ground := Ground.chain }, { on := 0, ground := Ground.phase }, { on := 1, ground := Ground.phase }, { on := 2, ground := Ground.phase }, { on := 3, ground := Ground.phase }, { on := 4, ground := Ground.phase }, { on := 5, ground := Ground.phase }, { on := 6, ground := Ground.textOnly Departure.lateStores }, { on := 7, ground := Ground.textOnly Departure.inlinedCapture }, { on := 8, ground := Ground.textOnly Departure.lateStoresUnsure }], guard := none }) (by kernel_rfl) rfl (by rfl) (fun K hK => ?_)
            go_simp
            refine hK.out _ _ ?_
            clear hK K
            try simp only [Act.put, List.setIfInBounds_toArray, List.set_cons_zero, List.set_cons_succ]
            refine wpAnyT_pure (i := 11) (oi := { dst := some 51, op := Op.fieldAddr 89 (Operand.tmp 8) 0, type := 0, pos := "merkle.go:102", after := #[{ on := 0, ground := Ground.phase }, { on := 1, ground := Ground.phase }, { on := 2, ground := Ground.phase }, { on := 3, ground := Ground.phase }, { on := 4, ground := Ground.phase }, { on := 5, ground := Ground.phase }, { on := 6, ground := Ground.phase }, { on := 7, ground := Ground.phase }, { on := 8, ground := Ground.phase }, { on := 9, ground := Ground.phase }, { on := 10, ground := Ground.phase }], guard := none }) (v := ?_) rfl (by kernel_rfl) (by kernel_rfl) (by kernel_rfl) (fun _ _ _ h => h) (Or.inl ⟨by rfl, ?hyb10⟩) ?restb10
            case hyb10 =>
              intro w hSw
              go_simp
              try with_reducible rfl
            try simp only [Act.put, List.setIfInBounds_toArray, List.set_cons_zero, List.set_cons_succ]
            refine wpAnyT_tail (i := 12) (o := { dst := none, op := Op.store 31 (Operand.tmp 51) (Operand.tmp 49), type := 0, pos := "merkle.go:102", after := #[{ on := 11, ground := Ground.data }, { on := 8, ground := Ground.data }, { on := 10, ground := Ground.chain }, { on := 0, ground := Ground.phase }, { on := 1, ground := Ground.phase }, { on := 2, ground := Ground.phase }, { on := 3, ground := Ground.phase }, { on := 4, ground := Ground.phase }, { on := 5, ground := Ground.phase }, { on := 6, ground := Ground.phase }, { on := 7, ground := Ground.phase }, { on := 8, ground := Ground.phase }, { on := 9, ground := Ground.phase }, { on := 10, ground := Ground.phase }], guard := none }) (by kernel_rfl) rfl (by rfl) (fun K hK => ?_)
            go_simp
            refine hK.out _ _ ?_
            clear hK K
            try simp only [Act.put, List.setIfInBounds_toArray, List.set_cons_zero, List.set_cons_succ]
            refine wpAnyT_done (by kernel_rfl) ?_ _
            refine strict_normal ?_
            gi_wp2
            exact hfinA.out w7 A6 c6 A7 c7 hO7 hrowD7 hrT7 (hwl.out _ w7 _ _ _ hOD HO.size hwD7) (hwl.out _ w7 _ _ _ hOT9 (HB.size) hwT6)
      · rw [if_pos (by rfl)]
        refine wp_load_mid 23 (.tmp 12) (by rfl) W.heap.size 0 (by rfl) (dc dl) _ hHeld.2.2 Tryd.underlying23 (by rfl) pd.out ?_
        refine hK.out _ _ (by exact hHeld) (fun hHeld' => ?_)
        clear hK K hHeld
        have hHeld := hHeld'
        clear hHeld'
        try simp only [Act.put, List.setIfInBounds_toArray, List.set_cons_zero, List.set_cons_succ]
        refine wpAnyT_two (i := 2) (j := 7) (o := { dst := some 43, op := Op.buildSlice 75 1 #[(0, Operand.const (Value.slice none 0 0))], type := 75, pos := "merkle.go:102", after := #[], guard := none }) (o2 := { dst := some 48, op := Op.buildSlice 31 1 #[(0, Operand.tmp 47)], type := 31, pos := "merkle.go:102", after := #[{ on := 6, ground := Ground.data }], guard := none }) (by kernel_rfl) rfl rfl (fun K hK => ?_) (fun K hK => ?_)
        · go_simp
          have hcn : (World.alloc w5.drew (.cells #[.slice none 0 0] 48)).cell? ⟨w5.drew.heap.size, 0, none⟩ = some (.slice none 0 0) := by rw [cell_of_row _ _ _ _ _ _ (heap_alloc_new w5.drew _)]; rfl
          have HB2 := HB.alloc HB.size (.cells #[.slice none 0 0] 48)
          clear HB
          have HB := HB2
          clear HB2
          refine hK.out _ _ (by exact hS.out _ (Only.of_below HB)) (fun hHeld' => ?_)
          clear hK K hHeld
          have hHeld := hHeld'
          clear hHeld'
          try simp only [Act.put, List.setIfInBounds_toArray, List.set_cons_zero, List.set_cons_succ]
          refine wpAnyT_two (i := 3) (j := 7) (o := { dst := some 44, op := Op.call { callee := Callee.builtin Builtin.append, args := #[Operand.tmp 42, Operand.tmp 43], argTypes := #[75, 75] }, type := 75, pos := "merkle.go:102", after := #[{ on := 1, ground := Ground.data }, { on := 2, ground := Ground.data }], guard := none }) (o2 := { dst := some 48, op := Op.buildSlice 31 1 #[(0, Operand.tmp 47)], type := 31, pos := "merkle.go:102", after := #[{ on := 6, ground := Ground.data }], guard := none }) (by kernel_rfl) rfl rfl (fun K hK => ?_) (fun K hK => ?_)
          · refine step_appT _ (by rfl) (.tmp 42) (.tmp 43) (by rfl) w.heap.size (.slice AT (q + 1) cT) ts w5.drew.heap.size 0 0 none (by rfl) (by rfl) hcn (hRT.out _ HB) hlT6.out (Nat.le_trans hI.out.bw.size (Nat.le_trans hB5.size HB.size)) ?_
            intro rowT' w6 hrowT6 hgT6 hwT6
            have HO := hT3.out _ _ HB hgT6
            refine hK.out _ _ (by exact hS.out _ (hOT HO)) (fun hHeld' => ?_)
            clear hK K hHeld
            have hHeld := hHeld'
            clear hHeld'
            try simp only [Act.put, List.setIfInBounds_toArray, List.set_cons_zero, List.set_cons_succ]
            refine wpAnyT_take (i := 9) (oi := { dst := some 50, op := Op.fieldAddr 89 (Operand.tmp 8) 1, type := 0, pos := "merkle.go:102", after := #[{ on := 0, ground := Ground.phase }, { on := 1, ground := Ground.phase }, { on := 2, ground := Ground.phase }, { on := 3, ground := Ground.phase }, { on := 4, ground := Ground.phase }, { on := 5, ground := Ground.phase }, { on := 6, ground := Ground.textOnly Departure.lateStores }, { on := 7, ground := Ground.textOnly Departure.inlinedCapture }, { on := 8, ground := Ground.textOnly Departure.lateStoresUnsure }], guard := none }) (v := ?_) rfl (by kernel_rfl) (by kernel_rfl) (by kernel_rfl) (by kernel_rfl) (fun _ _ _ h => h) (Or.inl ⟨by rfl, ?hyb11⟩) hHeld ?restb11
            case hyb11 =>
              intro w hSw
              try dsimp only at hSw
              go_simp
              try with_reducible rfl
            try simp only [Act.put, List.setIfInBounds_toArray, List.set_cons_zero, List.set_cons_succ]
            refine wpAnyT_one (i := 7) (o := { dst := some 48, op := Op.buildSlice 31 1 #[(0, Operand.tmp 47)], type := 31, pos := "merkle.go:102", after := #[{ on := 6, ground := Ground.data }], guard := none }) (by kernel_rfl) rfl (fun K hK => ?_)
            refine step_built (by rfl) 31 23 1 #[(0, .tmp 47)] (by rfl) Tryd.underlying31 (dc dl).toArray (by simp only [List.map_toArray, List.map_cons, List.map_nil]; exact hbu.out) ?_
            have hat7 := dsAt_row (l := [dl]) hD1.out (heap_alloc_new w6 (.cells (dc dl).toArray 23)) (by simp [dsC])
            have HO2 := HO.alloc (.cells (dc dl).toArray 23)
            clear HO
            have HO := HO2
            clear HO2
            refine hK.out _ _ (by exact hS.out _ (hOT HO)) (fun hHeld' => ?_)
            clear hK K hHeld
            have hHeld := hHeld'
            clear hHeld'
            try simp only [Act.put, List.setIfInBounds_toArray, List.set_cons_zero, List.set_cons_succ]
            refine wpAnyT_one (i := 8) (o := { dst := some 49, op := Op.call { callee := Callee.builtin Builtin.append, args := #[Operand.tmp 46, Operand.tmp 48], argTypes := #[31, 31] }, type := 31, pos := "merkle.go:102", after := #[{ on := 5, ground := Ground.data }, { on := 7, ground := Ground.data }, { on := 3, ground := Ground.chain }], guard := none }) (by kernel_rfl) rfl (fun K hK => ?_)
            refine step_appD5 _ (by rfl) (.tmp 46) (.tmp 48) (by rfl) w.heap.size (.slice (some ⟨gD, oD, none⟩) (q + 1) cD) (lfD leaf :: acc.map (·.1)) [dl] (some ⟨w6.heap.size, 0, none⟩) 1 1 (by rfl) (by rfl) (by rfl) hat7 (hRD.out _ HO) hD1.out (by rw [hlD.out]; omega) (by decide) (Nat.le_trans hI.out.bw.size (Nat.le_trans hB5.size HO.size)) ?_
            intro rowD' w7 hrowD7 hgD7 hwD7
            have hO7 := hD8.out _ _ HO hgD7
            have hrT7 := hRT8.out _ _ _ _ hgD7 (by first | exact hrowT6 | exact RowT.below hrowT6 ((Below.refl _ _).alloc (Nat.le_refl _) _)) HO
            obtain ⟨A7, c7, e7, hcl7, hds7⟩ := hrowD7.ds hall.out
            rw [hn7.out] at e7 hcl7
            subst e7
            obtain ⟨A6, c6, e6, hcl6, -, -⟩ := hrT7.form
            rw [hn6.out] at e6 hcl6
            subst e6
            obtain ⟨y0, y1, y2, y3⟩ := way_cells (hB7.out _ hO7)
            refine hK.out _ _ (by exact hS.out _ hO7) (fun hHeld' => ?_)
            clear hK K hHeld
            have hHeld := hHeld'
            clear hHeld'
            try simp only [Act.put, List.setIfInBounds_toArray, List.set_cons_zero, List.set_cons_succ]
            refine wpAnyT_tail (i := 10) (o := { dst := none, op := Op.store 75 (Operand.tmp 50) (Operand.tmp 44), type := 0, pos := "merkle.go:102", after := #[{ on := 9, ground := Ground.data }, { on := 3, ground := Ground.data }, { on := 8, ground := Ground.chain }, { on := 0, ground := Ground.phase }, { on := 1, ground := Ground.phase }, { on := 2, ground := Ground.phase }, { on := 3, ground := Ground.phase }, { on := 4, ground := Ground.phase }, { on := 5, ground := Ground.phase }, { on := 6, ground := Ground.textOnly Departure.lateStores }, { on := 7, ground := Ground.textOnly Departure.inlinedCapture }, { on := 8, ground := Ground.textOnly Departure.lateStoresUnsure }], guard := none }) (by kernel_rfl) rfl (by rfl) (fun K hK => ?_)
            go_simp
            refine hK.out _ _ ?_
            clear hK K
            try simp only [Act.put, List.setIfInBounds_toArray, List.set_cons_zero, List.set_cons_succ]
            refine wpAnyT_pure (i := 11) (oi := { dst := some 51, op := Op.fieldAddr 89 (Operand.tmp 8) 0, type := 0, pos := "merkle.go:102", after := #[{ on := 0, ground := Ground.phase }, { on := 1, ground := Ground.phase }, { on := 2, ground := Ground.phase }, { on := 3, ground := Ground.phase }, { on := 4, ground := Ground.phase }, { on := 5, ground := Ground.phase }, { on := 6, ground := Ground.phase }, { on := 7, ground := Ground.phase }, { on := 8, ground := Ground.phase }, { on := 9, ground := Ground.phase }, { on := 10, ground := Ground.phase }], guard := none }) (v := ?_) rfl (by kernel_rfl) (by kernel_rfl) (by kernel_rfl) (fun _ _ _ h => h) (Or.inl ⟨by rfl, ?hyb12⟩) ?restb12
            case hyb12 =>
              intro w hSw
              go_simp
              try with_reducible rfl
            try simp only [Act.put, List.setIfInBounds_toArray, List.set_cons_zero, List.set_cons_succ]
            refine wpAnyT_tail (i := 12) (o := { dst := none, op := Op.store 31 (Operand.tmp 51) (Operand.tmp 49), type := 0, pos := "merkle.go:102", after := #[{ on := 11, ground := Ground.data }, { on := 8, ground := Ground.data }, { on := 10, ground := Ground.chain }, { on := 0, ground := Ground.phase }, { on := 1, ground := Ground.phase }, { on := 2, ground := Ground.phase }, { on := 3, ground := Ground.phase }, { on := 4, ground := Ground.phase }, { on := 5, ground := Ground.phase }, { on := 6, ground := Ground.phase }, { on := 7, ground := Ground.phase }, { on := 8, ground := Ground.phase }, { on := 9, ground := Ground.phase }, { on := 10, ground := Ground.phase }], guard := none }) (by kernel_rfl) rfl (by rfl) (fun K hK => ?_)
            go_simp
            refine hK.out _ _ ?_
            clear hK K
            try simp only [Act.put, List.setIfInBounds_toArray, List.set_cons_zero, List.set_cons_succ]
            refine wpAnyT_done (by kernel_rfl) ?_ _
            refine strict_normal ?_
            gi_wp2
            exact hfinA.out w7 A6 c6 A7 c7 hO7 hrowD7 hrT7 (hwl.out _ w7 _ _ _ hOD HO.size hwD7) (hwl.out _ w7 _ _ _ hOT9 (HB.size) hwT6)
          · refine step_built (by rfl) 31 23 1 #[(0, .tmp 47)] (by rfl) Tryd.underlying31 (dc dl).toArray (by simp only [List.map_toArray, List.map_cons, List.map_nil]; exact hbu.out) ?_
            have hat7 := dsAt_row (l := [dl]) hD1.out (heap_alloc_new (w5.drew.alloc (.cells #[.slice none 0 0] 48)) (.cells (dc dl).toArray 23)) (by simp [dsC])
            have HB2 := HB.alloc HB.size (.cells (dc dl).toArray 23)
            have hcn2 := ((Below.refl (w5.drew.alloc (.cells #[.slice none 0 0] 48)).heap.size (w5.drew.alloc (.cells #[.slice none 0 0] 48))).alloc (Nat.le_refl _) (.cells (dc dl).toArray 23) |>.cell (p := ⟨w5.drew.heap.size, 0, none⟩) (by simp)).trans hcn
            clear hcn
            have hcn := hcn2
            clear hcn2
            clear HB
            have HB := HB2
            clear HB2
            refine hK.out _ _ (by exact hS.out _ (Only.of_below HB)) (fun hHeld' => ?_)
            clear hK K hHeld
            have hHeld := hHeld'
            clear hHeld'
            try simp only [Act.put, List.setIfInBounds_toArray, List.set_cons_zero, List.set_cons_succ]
            refine wpAnyT_one (i := 3) (o := { dst := some 44, op := Op.call { callee := Callee.builtin Builtin.append, args := #[Operand.tmp 42, Operand.tmp 43], argTypes := #[75, 75] }, type := 75, pos := "merkle.go:102", after := #[{ on := 1, ground := Ground.data }, { on := 2, ground := Ground.data }], guard := none }) (by kernel_rfl) rfl (fun K hK => ?_)
            refine step_appT _ (by rfl) (.tmp 42) (.tmp 43) (by rfl) w.heap.size (.slice AT (q + 1) cT) ts w5.drew.heap.size 0 0 none (by rfl) (by rfl) hcn (hRT.out _ HB) hlT6.out (Nat.le_trans hI.out.bw.size (Nat.le_trans hB5.size HB.size)) ?_
            intro rowT' w6 hrowT6 hgT6 hwT6
            have HO := hT3.out _ _ HB hgT6
            have hat7b := hat7.block (W' := w6) (hgT6.block (w5.drew.alloc (.cells #[.slice none 0 0] 48)).heap.size (by first | (simp; done) | (simp; omega)) (fun e => by have h9 := (hI.out.way.rowT.high e.symm).2; have h8 := hB5.size; first | (rw [World.size_alloc] at h9; change w5.heap.size + 1 < _ at h9; omega) | (change w5.heap.size < _ at h9; omega)))
            clear hat7
            have hat7 := hat7b
            clear hat7b
            refine hK.out _ _ (by exact hS.out _ (hOT HO)) (fun hHeld' => ?_)
            clear hK K hHeld
            have hHeld := hHeld'
            clear hHeld'
            try simp only [Act.put, List.setIfInBounds_toArray, List.set_cons_zero, List.set_cons_succ]
            refine wpAnyT_take (i := 9) (oi := { dst := some 50, op := Op.fieldAddr 89 (Operand.tmp 8) 1, type := 0, pos := "merkle.go:102", after := #[{ on := 0, ground := Ground.phase }, { on := 1, ground := Ground.phase }, { on := 2, ground := Ground.phase }, { on := 3, ground := Ground.phase }, { on := 4, ground := Ground.phase }, { on := 5, ground := Ground.phase }, { on := 6, ground := Ground.textOnly Departure.lateStores }, { on := 7, ground := Ground.textOnly Departure.inlinedCapture }, { on := 8, ground := Ground.textOnly Departure.lateStoresUnsure }], guard := none }) (v := ?_) rfl (by kernel_rfl) (by kernel_rfl) (by kernel_rfl) (by kernel_rfl) (fun _ _ _ h => h) (Or.inl ⟨by rfl, ?hyb13⟩) hHeld ?restb13
            case hyb13 =>
              intro w hSw
              try dsimp only at hSw
              go_simp
              try with_reducible rfl
            try simp only [Act.put, List.setIfInBounds_toArray, List.set_cons_zero, List.set_cons_succ]
            refine wpAnyT_one (i := 8) (o := { dst := some 49, op := Op.call { callee := Callee.builtin Builtin.append, args := #[Operand.tmp 46, Operand.tmp 48], argTypes := #[31, 31] }, type := 31, pos := "merkle.go:102", after := #[{ on := 5, ground := Ground.data }, { on := 7, ground := Ground.data }, { on := 3, ground := Ground.chain }], guard := none }) (by kernel_rfl) rfl (fun K hK => ?_)
            refine step_appD5 _ (by rfl) (.tmp 46) (.tmp 48) (by rfl) w.heap.size (.slice (some ⟨gD, oD, none⟩) (q + 1) cD) (lfD leaf :: acc.map (·.1)) [dl] (some ⟨(w5.drew.alloc (.cells #[.slice none 0 0] 48)).heap.size, 0, none⟩) 1 1 (by rfl) (by rfl) (by rfl) hat7 (hRD.out _ HO) hD1.out (by rw [hlD.out]; omega) (by decide) (Nat.le_trans hI.out.bw.size (Nat.le_trans hB5.size HO.size)) ?_
            intro rowD' w7 hrowD7 hgD7 hwD7
            have hO7 := hD8.out _ _ HO hgD7
            have hrT7 := hRT8.out _ _ _ _ hgD7 (by first | exact hrowT6 | exact RowT.below hrowT6 ((Below.refl _ _).alloc (Nat.le_refl _) _)) HO
            obtain ⟨A7, c7, e7, hcl7, hds7⟩ := hrowD7.ds hall.out
            rw [hn7.out] at e7 hcl7
            subst e7
            obtain ⟨A6, c6, e6, hcl6, -, -⟩ := hrT7.form
            rw [hn6.out] at e6 hcl6
            subst e6
            obtain ⟨y0, y1, y2, y3⟩ := way_cells (hB7.out _ hO7)
            refine hK.out _ _ (by exact hS.out _ hO7) (fun hHeld' => ?_)
            clear hK K hHeld
            have hHeld := hHeld'
            clear hHeld'
            try simp only [Act.put, List.setIfInBounds_toArray, List.set_cons_zero, List.set_cons_succ]
            refine wpAnyT_tail (i := 10) (o := { dst := none, op := Op.store 75 (Operand.tmp 50) (Operand.tmp 44), type := 0, pos := "merkle.go:102", after := #[{ on := 9, ground := Ground.data }, { on := 3, ground := Ground.data }, { on := 8, ground := Ground.chain }, { on := 0, ground := Ground.phase }, { on := 1, ground := Ground.phase }, { on := 2, ground := Ground.phase }, { on := 3, ground := Ground.phase }, { on := 4, ground := Ground.phase }, { on := 5, ground := Ground.phase }, { on := 6, ground := Ground.textOnly Departure.lateStores }, { on := 7, ground := Ground.textOnly Departure.inlinedCapture }, { on := 8, ground := Ground.textOnly Departure.lateStoresUnsure }], guard := none }) (by kernel_rfl) rfl (by rfl) (fun K hK => ?_)
            go_simp
            refine hK.out _ _ ?_
            clear hK K
            try simp only [Act.put, List.setIfInBounds_toArray, List.set_cons_zero, List.set_cons_succ]
            refine wpAnyT_pure (i := 11) (oi := { dst := some 51, op := Op.fieldAddr 89 (Operand.tmp 8) 0, type := 0, pos := "merkle.go:102", after := #[{ on := 0, ground := Ground.phase }, { on := 1, ground := Ground.phase }, { on := 2, ground := Ground.phase }, { on := 3, ground := Ground.phase }, { on := 4, ground := Ground.phase }, { on := 5, ground := Ground.phase }, { on := 6, ground := Ground.phase }, { on := 7, ground := Ground.phase }, { on := 8, ground := Ground.phase }, { on := 9, ground := Ground.phase }, { on := 10, ground := Ground.phase }], guard := none }) (v := ?_) rfl (by kernel_rfl) (by kernel_rfl) (by kernel_rfl) (fun _ _ _ h => h) (Or.inl ⟨by rfl, ?hyb14⟩) ?restb14
            case hyb14 =>
              intro w hSw
              go_simp
              try with_reducible rfl
            try simp only [Act.put, List.setIfInBounds_toArray, List.set_cons_zero, List.set_cons_succ]
            refine wpAnyT_tail (i := 12) (o := { dst := none, op := Op.store 31 (Operand.tmp 51) (Operand.tmp 49), type := 0, pos := "merkle.go:102", after := #[{ on := 11, ground := Ground.data }, { on := 8, ground := Ground.data }, { on := 10, ground := Ground.chain }, { on := 0, ground := Ground.phase }, { on := 1, ground := Ground.phase }, { on := 2, ground := Ground.phase }, { on := 3, ground := Ground.phase }, { on := 4, ground := Ground.phase }, { on := 5, ground := Ground.phase }, { on := 6, ground := Ground.phase }, { on := 7, ground := Ground.phase }, { on := 8, ground := Ground.phase }, { on := 9, ground := Ground.phase }, { on := 10, ground := Ground.phase }], guard := none }) (by kernel_rfl) rfl (by rfl) (fun K hK => ?_)
            go_simp
            refine hK.out _ _ ?_
            clear hK K
            try simp only [Act.put, List.setIfInBounds_toArray, List.set_cons_zero, List.set_cons_succ]
            refine wpAnyT_done (by kernel_rfl) ?_ _
            refine strict_normal ?_
            gi_wp2
            exact hfinA.out w7 A6 c6 A7 c7 hO7 hrowD7 hrT7 (hwl.out _ w7 _ _ _ hOD HO.size hwD7) (hwl.out _ w7 _ _ _ hOT9 (HB.size) hwT6)
        · refine step_built (by rfl) 31 23 1 #[(0, .tmp 47)] (by rfl) Tryd.underlying31 (dc dl).toArray (by simp only [List.map_toArray, List.map_cons, List.map_nil]; exact hbu.out) ?_
          have hat7 := dsAt_row (l := [dl]) hD1.out (heap_alloc_new w5.drew (.cells (dc dl).toArray 23)) (by simp [dsC])
          have HB2 := HB.alloc HB.size (.cells (dc dl).toArray 23)
          clear HB
          have HB := HB2
          clear HB2
          refine hK.out _ _ (by exact hS.out _ (Only.of_below HB)) (fun hHeld' => ?_)
          clear hK K hHeld
          have hHeld := hHeld'
          clear hHeld'
          try simp only [Act.put, List.setIfInBounds_toArray, List.set_cons_zero, List.set_cons_succ]
          refine wpAnyT_one (i := 2) (o := { dst := some 43, op := Op.buildSlice 75 1 #[(0, Operand.const (Value.slice none 0 0))], type := 75, pos := "merkle.go:102", after := #[], guard := none }) (by kernel_rfl) rfl (fun K hK => ?_)
          go_simp
          have hcn : (World.alloc (w5.drew.alloc (.cells (dc dl).toArray 23)) (.cells #[.slice none 0 0] 48)).cell? ⟨w5.heap.size + 1, 0, none⟩ = some (.slice none 0 0) := by have h9 : (World.alloc (w5.drew.alloc (.cells (dc dl).toArray 23)) (.cells #[.slice none 0 0] 48)).cell? ⟨(World.alloc w5.drew (.cells (dc dl).toArray 23)).heap.size, 0, none⟩ = some (.slice none 0 0) := (by rw [cell_of_row _ _ _ _ _ _ (heap_alloc_new (w5.drew.alloc (.cells (dc dl).toArray 23)) _)]; rfl); rw [World.size_alloc] at h9; exact h9
          have HB2 := HB.alloc HB.size (.cells #[.slice none 0 0] 48)
          have hat7b := hat7.below ((Below.refl (w5.drew.alloc (.cells (dc dl).toArray 23)).heap.size (w5.drew.alloc (.cells (dc dl).toArray 23))).alloc (Nat.le_refl _) (.cells #[.slice none 0 0] 48))
          clear hat7
          have hat7 := hat7b
          clear hat7b
          clear HB
          have HB := HB2
          clear HB2
          refine hK.out _ _ (by exact hS.out _ (Only.of_below HB)) (fun hHeld' => ?_)
          clear hK K hHeld
          have hHeld := hHeld'
          clear hHeld'
          try simp only [Act.put, List.setIfInBounds_toArray, List.set_cons_zero, List.set_cons_succ]
          refine wpAnyT_one (i := 3) (o := { dst := some 44, op := Op.call { callee := Callee.builtin Builtin.append, args := #[Operand.tmp 42, Operand.tmp 43], argTypes := #[75, 75] }, type := 75, pos := "merkle.go:102", after := #[{ on := 1, ground := Ground.data }, { on := 2, ground := Ground.data }], guard := none }) (by kernel_rfl) rfl (fun K hK => ?_)
          refine step_appT _ (by rfl) (.tmp 42) (.tmp 43) (by rfl) w.heap.size (.slice AT (q + 1) cT) ts (w5.heap.size + 1) 0 0 none (by rfl) (by rfl) hcn (hRT.out _ HB) hlT6.out (Nat.le_trans hI.out.bw.size (Nat.le_trans hB5.size HB.size)) ?_
          intro rowT' w6 hrowT6 hgT6 hwT6
          have HO := hT3.out _ _ HB hgT6
          have hat7b := hat7.block (W' := w6) (hgT6.block w5.drew.heap.size (by first | (simp; done) | (simp; omega)) (fun e => by have h9 := (hI.out.way.rowT.high e.symm).2; have h8 := hB5.size; first | (rw [World.size_alloc] at h9; change w5.heap.size + 1 < _ at h9; omega) | (change w5.heap.size < _ at h9; omega)))
          clear hat7
          have hat7 := hat7b
          clear hat7b
          refine hK.out _ _ (by exact hS.out _ (hOT HO)) (fun hHeld' => ?_)
          clear hK K hHeld
          have hHeld := hHeld'
          clear hHeld'
          try simp only [Act.put, List.setIfInBounds_toArray, List.set_cons_zero, List.set_cons_succ]
          refine wpAnyT_take (i := 9) (oi := { dst := some 50, op := Op.fieldAddr 89 (Operand.tmp 8) 1, type := 0, pos := "merkle.go:102", after := #[{ on := 0, ground := Ground.phase }, { on := 1, ground := Ground.phase }, { on := 2, ground := Ground.phase }, { on := 3, ground := Ground.phase }, { on := 4, ground := Ground.phase }, { on := 5, ground := Ground.phase }, { on := 6, ground := Ground.textOnly Departure.lateStores }, { on := 7, ground := Ground.textOnly Departure.inlinedCapture }, { on := 8, ground := Ground.textOnly Departure.lateStoresUnsure }], guard := none }) (v := ?_) rfl (by kernel_rfl) (by kernel_rfl) (by kernel_rfl) (by kernel_rfl) (fun _ _ _ h => h) (Or.inl ⟨by rfl, ?hyb15⟩) hHeld ?restb15
          case hyb15 =>
            intro w hSw
            try dsimp only at hSw
            go_simp
            try with_reducible rfl
          try simp only [Act.put, List.setIfInBounds_toArray, List.set_cons_zero, List.set_cons_succ]
          refine wpAnyT_one (i := 8) (o := { dst := some 49, op := Op.call { callee := Callee.builtin Builtin.append, args := #[Operand.tmp 46, Operand.tmp 48], argTypes := #[31, 31] }, type := 31, pos := "merkle.go:102", after := #[{ on := 5, ground := Ground.data }, { on := 7, ground := Ground.data }, { on := 3, ground := Ground.chain }], guard := none }) (by kernel_rfl) rfl (fun K hK => ?_)
          refine step_appD5 _ (by rfl) (.tmp 46) (.tmp 48) (by rfl) w.heap.size (.slice (some ⟨gD, oD, none⟩) (q + 1) cD) (lfD leaf :: acc.map (·.1)) [dl] (some ⟨w5.drew.heap.size, 0, none⟩) 1 1 (by rfl) (by rfl) (by rfl) hat7 (hRD.out _ HO) hD1.out (by rw [hlD.out]; omega) (by decide) (Nat.le_trans hI.out.bw.size (Nat.le_trans hB5.size HO.size)) ?_
          intro rowD' w7 hrowD7 hgD7 hwD7
          have hO7 := hD8.out _ _ HO hgD7
          have hrT7 := hRT8.out _ _ _ _ hgD7 (by first | exact hrowT6 | exact RowT.below hrowT6 ((Below.refl _ _).alloc (Nat.le_refl _) _)) HO
          obtain ⟨A7, c7, e7, hcl7, hds7⟩ := hrowD7.ds hall.out
          rw [hn7.out] at e7 hcl7
          subst e7
          obtain ⟨A6, c6, e6, hcl6, -, -⟩ := hrT7.form
          rw [hn6.out] at e6 hcl6
          subst e6
          obtain ⟨y0, y1, y2, y3⟩ := way_cells (hB7.out _ hO7)
          refine hK.out _ _ (by exact hS.out _ hO7) (fun hHeld' => ?_)
          clear hK K hHeld
          have hHeld := hHeld'
          clear hHeld'
          try simp only [Act.put, List.setIfInBounds_toArray, List.set_cons_zero, List.set_cons_succ]
          refine wpAnyT_tail (i := 10) (o := { dst := none, op := Op.store 75 (Operand.tmp 50) (Operand.tmp 44), type := 0, pos := "merkle.go:102", after := #[{ on := 9, ground := Ground.data }, { on := 3, ground := Ground.data }, { on := 8, ground := Ground.chain }, { on := 0, ground := Ground.phase }, { on := 1, ground := Ground.phase }, { on := 2, ground := Ground.phase }, { on := 3, ground := Ground.phase }, { on := 4, ground := Ground.phase }, { on := 5, ground := Ground.phase }, { on := 6, ground := Ground.textOnly Departure.lateStores }, { on := 7, ground := Ground.textOnly Departure.inlinedCapture }, { on := 8, ground := Ground.textOnly Departure.lateStoresUnsure }], guard := none }) (by kernel_rfl) rfl (by rfl) (fun K hK => ?_)
          go_simp
          refine hK.out _ _ ?_
          clear hK K
          try simp only [Act.put, List.setIfInBounds_toArray, List.set_cons_zero, List.set_cons_succ]
          refine wpAnyT_pure (i := 11) (oi := { dst := some 51, op := Op.fieldAddr 89 (Operand.tmp 8) 0, type := 0, pos := "merkle.go:102", after := #[{ on := 0, ground := Ground.phase }, { on := 1, ground := Ground.phase }, { on := 2, ground := Ground.phase }, { on := 3, ground := Ground.phase }, { on := 4, ground := Ground.phase }, { on := 5, ground := Ground.phase }, { on := 6, ground := Ground.phase }, { on := 7, ground := Ground.phase }, { on := 8, ground := Ground.phase }, { on := 9, ground := Ground.phase }, { on := 10, ground := Ground.phase }], guard := none }) (v := ?_) rfl (by kernel_rfl) (by kernel_rfl) (by kernel_rfl) (fun _ _ _ h => h) (Or.inl ⟨by rfl, ?hyb16⟩) ?restb16
          case hyb16 =>
            intro w hSw
            go_simp
            try with_reducible rfl
          try simp only [Act.put, List.setIfInBounds_toArray, List.set_cons_zero, List.set_cons_succ]
          refine wpAnyT_tail (i := 12) (o := { dst := none, op := Op.store 31 (Operand.tmp 51) (Operand.tmp 49), type := 0, pos := "merkle.go:102", after := #[{ on := 11, ground := Ground.data }, { on := 8, ground := Ground.data }, { on := 10, ground := Ground.chain }, { on := 0, ground := Ground.phase }, { on := 1, ground := Ground.phase }, { on := 2, ground := Ground.phase }, { on := 3, ground := Ground.phase }, { on := 4, ground := Ground.phase }, { on := 5, ground := Ground.phase }, { on := 6, ground := Ground.phase }, { on := 7, ground := Ground.phase }, { on := 8, ground := Ground.phase }, { on := 9, ground := Ground.phase }, { on := 10, ground := Ground.phase }], guard := none }) (by kernel_rfl) rfl (by rfl) (fun K hK => ?_)
          go_simp
          refine hK.out _ _ ?_
          clear hK K
          try simp only [Act.put, List.setIfInBounds_toArray, List.set_cons_zero, List.set_cons_succ]
          refine wpAnyT_done (by kernel_rfl) ?_ _
          refine strict_normal ?_
          gi_wp2
          exact hfinA.out w7 A6 c6 A7 c7 hO7 hrowD7 hrT7 (hwl.out _ w7 _ _ _ hOD HO.size hwD7) (hwl.out _ w7 _ _ _ hOT9 (HB.size) hwT6)
    | false =>
      by_cases hk0 : k' = 0
      · subst hk0
        have hnil : p' = [] := List.length_eq_zero_iff.1 hI.out.lp
        have hnx : ¬ n' ≤ xr i' := of_decide_eq_false hal
        have hnone : wayM n i (lfD leaf) path = none := by rw [hI.out.wy, hnil, wayM_short h1 hnx]; rfl
        replace hnone := Lib.hid hnone
        have hltB : w.heap.size + 1 < W.heap.size := (Array.getElem?_eq_some_iff.1 hI.out.way.cell).1
        gi_wp2_with (first
          | (refine wpListIn_round_of_wp (by rfl) (by intro _ e; cases e) (wp_load_mid 23 (.tmp 29) (by rfl) gD (oD + q * 32) (by rfl) (dc dl) _ hrD9.out Tryd.underlying23 (by rfl) pd.out ?_))
          | (refine wpListIn_round_of_wp (by rfl) (by intro _ e; cases e) (wp_new_row' 23 (.tmp 12) (.tmp 30) (by rfl) (by rfl) (dg dl) W.heap.size (by rfl) rfl (by rfl) 23 _ pd2.out ps.out po.out ?_); intro w5 hd5 hz5 hB5; replace hd5 := Lib.hid hd5; obtain ⟨u1, u2, u3⟩ := hI5.out w5 hB5; obtain ⟨y0, y1, y2, y3⟩ := way_cells ((hB5.block _ hltB).trans hI.out.way.cell); have r1 := (boxed_below hI.out.br hB5).cell; have r2 := (boxed_below hI.out.br hB5).frozen))
        have hc5 := (hB5.block _ hltB).trans hI.out.way.cell
        have hr5 := boxed_below hI.out.br hB5
        have e1 := way_set1 (.slice none 0 0) (way_set0 (.slice none 0 0) hc5)
        have g1 := grown_trans (setCell_grown w5 (w.heap.size + 1) 0 (.slice none 0 0)) (setCell_grown (w5.setCell ⟨w.heap.size + 1, 0, none⟩ (.slice none 0 0)) (w.heap.size + 1) 1 (.slice none 0 0))
        have hr6 := hr5.kept g1 (fun e => by have := Option.some.inj e; omega)
        have hB6 := ((hI.out.bw.trans (hB5.mono hI.out.bw.size)).grown g1 (Nat.le_trans hI.out.bw.size hB5.size) (fun k e => by have := Option.some.inj e; omega))
        have hlt5 : W.heap.size ≤ w5.heap.size := hB5.size
        generalize (w5.setCell ⟨w.heap.size + 1, 0, none⟩ (.slice none 0 0)).setCell ⟨w.heap.size + 1, 1, none⟩ (.slice none 0 0) = V6 at e1 g1 hr6 hB6 ⊢
        have g2 := setCell_grown V6 (w.heap.size + 1 + 1) 0 (.bool false)
        have hs6' := g1.size
        refine ⟨⟨Nat.le_trans hlt5 (Nat.le_trans g1.size g2.size), fun j o _ hj hn => (g2.block j (by have := (Array.getElem?_eq_some_iff.1 hj).1; omega) (fun e => ?_)).trans ((g1.block j (by have := (Array.getElem?_eq_some_iff.1 hj).1; omega) (fun e => ?_)).trans ((hB5.block j (Array.getElem?_eq_some_iff.1 hj).1).trans hj))⟩, rfl, hnone.out, (g2.block _ (Array.getElem?_eq_some_iff.1 e1).1 (fun e => by have := Option.some.inj e; omega)).trans e1, hr6.set _, hB6.grown g2 hB6.size (fun k e => by have := Option.some.inj e; omega)⟩
        · obtain rfl := Option.some.inj e
          rw [show W.heap[w.heap.size + 1 + 1]? = _ from hI.out.br] at hj
          obtain rfl := Option.some.inj hj
          cases hn
        · obtain rfl := Option.some.inj e
          rw [hI.out.way.cell] at hj
          obtain rfl := Option.some.inj hj
          cases hn
      · have hkk : ((k' : Int) == 0) = false := beq_eq_false_iff_ne.2 (by omega)
        obtain ⟨q0, p2, rfl⟩ : ∃ q0 p2, p' = q0 :: p2 := by
          cases p' with
          | nil => have := hI.out.lp; simp at this; omega
          | cons q0 p2 => exact ⟨q0, p2, rfl⟩
        obtain ⟨gp, op, eA, hgp, hrp⟩ := hI.out.ap 0 q0 rfl
        subst eA
        simp only [Nat.zero_mul, Nat.add_zero] at hrp
        have hq32 := hI.out.p32 q0 (by simp)
        have pq := Lib.hid (dc_info hq32)
        have hnx : ¬ n' ≤ xr i' := of_decide_eq_false hal
        have hcut : ∀ V, (Instr.slice 31 (.slice (some ⟨gp, op, none⟩) k' c') (some (.int .i64 1)) none none).run Tryd.prog V = .ok (cutV gp op k' c' 1) V := fun V => run_cut V gp op k' c' 1 (by omega) hI.out.hc
        obtain ⟨A2, eA2, hds2⟩ := cut_ds (k := 1) hI.out.ap hI.out.lp hI.out.hc
        rw [eA2] at hcut
        have hk1 : (0 : Int) < (k' : Int) := by omega
        have hk2 : 0 < k' := by omega
        have hdln := hI.out.bw.size
        clear eA2
        cases ri with
        | true =>
          gi_wp2_with (first
            | (refine wpListIn_round_of_wp (by rfl) (by intro _ e; cases e) (wp_load_mid 23 (.tmp 29) (by rfl) gD (oD + q * 32) (by rfl) (dc dl) _ hrD9.out Tryd.underlying23 (by rfl) pd.out ?_))
            | (refine wpListIn_round_of_wp (by rfl) (by intro _ e; cases e) (wp_new_row' 23 (.tmp 12) (.tmp 30) (by rfl) (by rfl) (dg dl) W.heap.size (by rfl) rfl (by rfl) 23 _ pd2.out ps.out po.out ?_); intro w5 hd5 hz5 hB5; replace hd5 := Lib.hid hd5; obtain ⟨u1, u2, u3⟩ := hI5.out w5 hB5; skip))
          obtain ⟨t9, ht9⟩ : ∃ t9, ndT dl q0 = t9 := ⟨_, rfl⟩
          have hT9 : Hid (t9.length = 96) := Lib.hid (by rw [← ht9, ndT, mT_len, List.length_append, hdl32, hq32])
          have hwst : wayM n' i' dl (q0 :: p2) = (wayM ((n' + 1) / 2) (i' / 2) (sha t9) p2).map ((sha t9, t9) :: ·) := by
            have e9 : (if i' % 2 = 0 then ndT dl q0 else ndT q0 dl) = t9 := by rw [← ht9]; exact if_pos (of_decide_eq_true hri)
            rw [wayM_node h1 hnx, e9]
          have hW5 : ∀ V, Below w5.heap.size w5 V → Below W.heap.size W V := fun V hV => hB5.trans (hV.mono hB5.size)
          have hN : Hid (∀ V, Below w5.heap.size w5 V → Calls Tryd.prog 77 #[.agg (dc dl).toArray, .agg (dc q0).toArray] V (JoinC t9 V)) := Lib.hid fun V hV => ht9 ▸ mnode_any dl q0 hdl32 hq32 V (hL9.out.below (hI.out.bw.trans ((hW5 V hV).mono hI.out.bw.size)))
          have hS : Hid (∀ V, Below w5.heap.size w5 V → V.cell? ⟨w.heap.size + 1 + 1 + 1, 0, none⟩ = some (.func (.func 73) #[] #[.pointer (some ⟨w.heap.size + 1, 0, none⟩)]) ∧ V.rangeAt W.heap.size 0 (dc dl) ∧ V.cell? ⟨w.heap.size, 0, none⟩ = some (.slice (some ⟨gp, op, none⟩) k' c') ∧ V.rangeAt gp op (dc q0)) := Lib.hid fun V hV => ⟨(boxed_below hI.out.bf (hW5 V hV)).cell, fun j v hj => by
              have hh := (hV.block W.heap.size (by omega)).trans hd5.out
              rw [Nat.zero_add, cell_of_row _ _ _ _ _ _ hh]
              simpa [dg] using hj, (hI5.out V (hW5 V hV)).2.2, range_belowB hrp hgp (hI.out.bw.trans ((hW5 V hV).mono hI.out.bw.size))⟩
          have hAd : Hid (∀ V A6 c6, Below w5.heap.size w5 V → 96 ≤ c6 → c6 ≤ 9223372036854775807 → AtO V A6 t9 → (∀ g o, A6 = some ⟨g, o, none⟩ → t9 ≠ [] → w5.heap.size ≤ g ∧ g < V.heap.size) → Calls Tryd.prog 73 #[.slice A6 96 c6, .pointer (some ⟨w.heap.size + 1, 0, none⟩)] V fun e W' => e = .returned (.tuple #[]) ∧ ∃ D' T' : Value, WayAt w W' (w.heap.size + 1) D' T' ((lfD leaf :: acc.map (·.1)) ++ [sha t9]) ((lfT leaf :: acc.map (·.2)) ++ [t9]) (ts ++ [.slice A6 96 c6]) [some b, some (b + 1), some w.heap.size] ∧ Only (wyOwn (w.heap.size + 1) (.slice (some ⟨gD, oD, none⟩) (q + 1) cD) (.slice AT (q + 1) cT)) V W' ∧ (∀ k, D'.ownBlock = some k → Value.ownBlock (.slice (some ⟨gD, oD, none⟩) (q + 1) cD) = some k ∨ V.heap.size ≤ k) ∧ (∀ k, T'.ownBlock = some k → Value.ownBlock (.slice AT (q + 1) cT) = some k ∨ V.heap.size ≤ k)) := Lib.hid fun V A6 c6 hV h2 h3 h4 h5 =>
            have hWV := hW5 V hV
            have hwV := hI.out.way.keepX (X2 := []) (KeepX.of_below hWV) (fun k hk => by cases hk) (by simp) (fun _ _ => by simp) (fun _ _ => by simp)
            have hsV := hWV.size
            add_any w V (w.heap.size + 1) _ _ _ _ ts _ (fun j hj => by
              have := hI.out.sz
              have := hI.out.hb
              simp at hj
              omega) t9 96 A6 c6 hwV hT9.out (by omega) ⟨A6, c6, by rw [hT9.out], by rw [hT9.out]; exact h2, h3, h4, fun g o e hne => ⟨(h5 g o e hne).2, fun hm => by
                have h6 := (h5 g o e hne).1
                have h7 := hI.out.sz
                have h8 := hI.out.hb
                have h9 := hB5.size
                simp only [List.mem_cons, List.not_mem_nil, or_false] at hm
                rcases hm with hm | hm | hm | hm | hm | hm
                · have := (hI.out.way.row.high hm.symm).2; omega
                · have := (hI.out.way.rowT.high hm.symm).2; omega
                · have := Option.some.inj hm; omega
                · have := Option.some.inj hm; omega
                · have := Option.some.inj hm; omega
                · have := Option.some.inj hm; omega⟩⟩ (by rw [hlD.out]; omega) hL9.out (hI.out.bw.trans (hWV.mono hI.out.bw.size)) (by omega)
          have hS7 : Hid (∀ V W', Below w5.heap.size w5 V → Only (wyOwn (w.heap.size + 1) (.slice (some ⟨gD, oD, none⟩) (q + 1) cD) (.slice AT (q + 1) cT)) V W' → (W'.cell? ⟨w.heap.size + 1 + 1 + 1, 0, none⟩ = some (.func (.func 73) #[] #[.pointer (some ⟨w.heap.size + 1, 0, none⟩)]) ∧ W'.rangeAt W.heap.size 0 (dc dl) ∧ W'.cell? ⟨w.heap.size, 0, none⟩ = some (.slice (some ⟨gp, op, none⟩) k' c') ∧ W'.rangeAt gp op (dc q0)) ∧ Boxed W' w.heap.size 31 (.slice (some ⟨gp, op, none⟩) k' c')) := Lib.hid fun V W' hV ho => by
            obtain ⟨s1, s2, s3, s4⟩ := hS.out V hV
            have hWV := hW5 V hV
            have hsV := hWV.size
            have hz := hI.out.sz
            have hb9 := hI.out.hb
            have no : ∀ j, j ≠ w.heap.size + 1 → (∀ e, Value.ownBlock (.slice (some ⟨gD, oD, none⟩) (q + 1) cD) ≠ some e ∨ e ≠ j) → (∀ e, Value.ownBlock (.slice AT (q + 1) cT) ≠ some e ∨ e ≠ j) → j < V.heap.size → W'.heap[j]? = V.heap[j]? := fun j h1 h2 h3 hl => ho.block j hl (fun e => by
              rcases e with e | e | e
              · exact h1 e
              · rcases h2 j with h | h; exact h e; exact h rfl
              · rcases h3 j with h | h; exact h e; exact h rfl)
            have nD : ∀ j, (j ≤ w.heap.size + 1 + 1 + 1 ∧ j ≠ w.heap.size + 1) ∨ W.heap.size ≤ j → j < V.heap.size → W'.heap[j]? = V.heap[j]? := fun j hj hl => no j (by omega) (fun e => by
                by_cases he : Value.ownBlock (.slice (some ⟨gD, oD, none⟩) (q + 1) cD) = some e
                · right
                  intro h
                  subst h
                  have h9 := hI.out.way.row.high he
                  rcases hj with hj | hj
                  · have hcs : ∃ cs ty fr, W.heap[e]? = some (.cells cs ty fr) ∧ ty ≠ 23 := by
                      rcases (show e = w.heap.size ∨ e = w.heap.size + 1 + 1 ∨ e = w.heap.size + 1 + 1 + 1 by omega) with rfl | rfl | rfl
                      · exact ⟨_, _, _, hI.out.bp, by decide⟩
                      · exact ⟨_, _, _, hI.out.br, by decide⟩
                      · exact ⟨_, _, _, hI.out.bf, by decide⟩
                    obtain ⟨cs, ty, fr, hc, hne⟩ := hcs
                    exact hI.out.way.row.neT (b' := 0) hc hne he
                  · omega
                · exact .inl he) (fun e => by
                by_cases he : Value.ownBlock (.slice AT (q + 1) cT) = some e
                · right
                  intro h
                  subst h
                  have h9 := hI.out.way.rowT.high he
                  rcases hj with hj | hj
                  · have hcs : ∃ cs ty fr, W.heap[e]? = some (.cells cs ty fr) ∧ ty ≠ 48 := by
                      rcases (show e = w.heap.size ∨ e = w.heap.size + 1 + 1 ∨ e = w.heap.size + 1 + 1 + 1 by omega) with rfl | rfl | rfl
                      · exact ⟨_, _, _, hI.out.bp, by decide⟩
                      · exact ⟨_, _, _, hI.out.br, by decide⟩
                      · exact ⟨_, _, _, hI.out.bf, by decide⟩
                    obtain ⟨cs, ty, fr, hc, hne⟩ := hcs
                    exact hI.out.way.rowT.neT hc hne he
                  · omega
                · exact .inl he) hl
            have hbox : Boxed W' w.heap.size 31 (.slice (some ⟨gp, op, none⟩) k' c') := (nD w.heap.size (.inl (by omega)) (by omega)).trans (boxed_below hI.out.bp hWV)
            have hs5 := hV.size
            refine ⟨⟨(World.cell?_of_block (w := V) (a := ⟨w.heap.size + 1 + 1 + 1, 0, none⟩) (nD (w.heap.size + 1 + 1 + 1) (.inl (by omega)) (by omega))).trans s1, fun j v hj => (World.cell?_of_block (w := V) (a := ⟨W.heap.size, 0 + j, none⟩) (nD W.heap.size (.inr (Nat.le_refl _)) (by omega))).trans (s2 j v hj), hbox.cell, fun j v hj => ?_⟩, hbox⟩
            have hgl : gp < w.heap.size := hgp
            exact (World.cell?_of_block (w := V) (a := ⟨gp, op + j, none⟩) (nD gp (.inl (by omega)) (by omega))).trans (s4 j v hj)
          have HB : Below w5.heap.size w5 w5.drew := (Below.refl _ _).drew
          have hwy9 := Lib.hid hwst
          replace ht9 := Lib.hid ht9
          clear hwst
          refine wpIn_round_held (fun w' => w'.cell? ⟨w.heap.size + 1 + 1 + 1, 0, none⟩ = some (.func (.func 73) #[] #[.pointer (some ⟨w.heap.size + 1, 0, none⟩)]) ∧ w'.rangeAt W.heap.size 0 (dc dl) ∧ w'.cell? ⟨w.heap.size, 0, none⟩ = some (.slice (some ⟨gp, op, none⟩) k' c') ∧ w'.rangeAt gp op (dc q0)) (by kernel_rfl) (by kernel_rfl) (by exact hS.out _ HB) (fun hHeld => ?_)
          refine wpAnyH_take (i := 0) (oi := { dst := some 60, op := Op.load 115 (Operand.tmp 10), type := 115, pos := "merkle.go:107", after := #[], guard := none }) (v := ?_) rfl (by kernel_rfl) (by kernel_rfl) (by kernel_rfl) (fun _ _ _ h => h) (Or.inl ⟨by rfl, ?hyaa0⟩) hHeld ?restaa0
          case hyaa0 =>
            intro w hSw
            try dsimp only at hSw
            go_simp
            try with_reducible rfl
          try simp only [Act.put, List.setIfInBounds_toArray, List.set_cons_zero, List.set_cons_succ]
          refine wpAnyH_take (i := 1) (oi := { dst := some 61, op := Op.load 23 (Operand.tmp 12), type := 23, pos := "merkle.go:107", after := #[], guard := none }) (v := _) rfl (by kernel_rfl) (by kernel_rfl) (by kernel_rfl) (fun _ _ _ h => h) (yieldsIf_load_mid (by rfl) 23 (.tmp 12) rfl W.heap.size 0 rfl (dc dl) _ (fun _ h => h.2.1) Tryd.underlying23 rfl pd.out) hHeld ?_
          try simp only [Act.put, List.setIfInBounds_toArray, List.set_cons_zero, List.set_cons_succ]
          refine wpAnyH_take (i := 2) (oi := { dst := some 62, op := Op.load 31 (Operand.tmp 7), type := 31, pos := "merkle.go:107", after := #[], guard := none }) (v := ?_) rfl (by kernel_rfl) (by kernel_rfl) (by kernel_rfl) (fun _ _ _ h => h) (Or.inl ⟨by rfl, ?hyaa2⟩) hHeld ?restaa2
          case hyaa2 =>
            intro w hSw
            try dsimp only at hSw
            go_simp
            try with_reducible rfl
          try simp only [Act.put, List.setIfInBounds_toArray, List.set_cons_zero, List.set_cons_succ]
          refine wpAnyH_take (i := 3) (oi := { dst := some 63, op := Op.indexAddr 31 (Operand.tmp 62) (Operand.const (Value.int IntKind.i64 0)), type := 0, pos := "merkle.go:107", after := #[{ on := 2, ground := Ground.data }], guard := none }) (v := ?_) rfl (by kernel_rfl) (by kernel_rfl) (by kernel_rfl) (fun _ _ _ h => h) (Or.inl ⟨by rfl, ?hyaa3⟩) hHeld ?restaa3
          case hyaa3 =>
            intro w hSw
            try dsimp only at hSw
            go_simp
            try with_reducible rfl
          try simp only [Act.put, List.setIfInBounds_toArray, List.set_cons_zero, List.set_cons_succ]
          refine wpAnyH_take (i := 4) (oi := { dst := some 64, op := Op.load 23 (Operand.tmp 63), type := 23, pos := "merkle.go:107", after := #[{ on := 3, ground := Ground.data }], guard := none }) (v := _) rfl (by kernel_rfl) (by kernel_rfl) (by kernel_rfl) (fun _ _ _ h => h) (yieldsIf_load_mid (by rfl) 23 (.tmp 63) rfl gp op rfl (dc q0) _ (fun _ h => h.2.2.2) Tryd.underlying23 rfl pq.out) hHeld ?_
          try simp only [Act.put, List.setIfInBounds_toArray, List.set_cons_zero, List.set_cons_succ]
          refine wpAnyH_ready (rs := [5]) (by kernel_rfl) (by simp) (AllReadyH.cons (o := { dst := some 65, op := Op.call { callee := Callee.value (Operand.func 77), args := #[Operand.tmp 61, Operand.tmp 64], argTypes := #[23, 23] }, type := 48, pos := "merkle.go:107", after := #[{ on := 1, ground := Ground.data }, { on := 4, ground := Ground.data }], guard := none }) rfl (fun K hK => ?_) AllReadyH.nil)
          go_simp
          go_at_call 77
          refine (hN.out _ HB).mono ?_
          unfold JoinC
          rw [hT9.out]
          rintro e w6 ⟨A6, c6, rfl, h61, h62, h63, hb6, hfr6⟩
          have hs56 := HB.size
          replace HB := HB.trans (hb6.mono HB.size)
          replace h63 := Lib.hid h63
          refine hK.out _ _ (by exact hS.out _ HB) (fun hHeld' => ?_)
          clear hK K hHeld
          have hHeld := hHeld'
          clear hHeld'
          try simp only [Act.put, List.setIfInBounds_toArray, List.set_cons_zero, List.set_cons_succ]
          refine wpAnyH_ready (rs := [6]) (by kernel_rfl) (by simp) (AllReadyH.cons (o := { dst := some 66, op := Op.call { callee := Callee.value (Operand.tmp 60), args := #[Operand.tmp 65], argTypes := #[48] }, type := 0, pos := "merkle.go:107", after := #[{ on := 0, ground := Ground.data }, { on := 5, ground := Ground.data }, { on := 5, ground := Ground.chain }], guard := none }) rfl (fun K hK => ?_) AllReadyH.nil)
          go_simp
          go_at_call 73
          refine (hAd.out w6 A6 c6 HB h61 h62 h63.out (fun g o e hne => ⟨Nat.le_trans hs56 (hfr6 g o e hne).1, (hfr6 g o e hne).2⟩)).mono ?_
          rintro e w7 ⟨rfl, D7, T7, hway7, hon7, hD7, hT7⟩
          obtain ⟨hs7, hp7⟩ := hS7.out w6 w7 HB hon7
          refine hK.out _ _ (by exact hs7) (fun hHeld' => ?_)
          clear hK K hHeld
          have hHeld := hHeld'
          clear hHeld'
          try simp only [Act.put, List.setIfInBounds_toArray, List.set_cons_zero, List.set_cons_succ]
          refine wpAnyH_done (by kernel_rfl) ?_ _
          refine strict_normal ?_
          have c7 := hp7.cell
          have f7 := hp7.frozen
          gi_wp2
          have hg8 := setCell_grown w7 w.heap.size 0 (.slice A2 (k' - 1) (c' - 1))
          obtain ⟨z1, z2, z3⟩ := climb_fin W6.heap.size hI.out (false, true) h1 hxs.out (hB5.trans (HB.mono hB5.size)) hon7 D7 T7 t9 (sha t9) _ hway7 hD7 hT7 p2 A2 (k' - 1) (c' - 1) hwy9.out (fun d hd => hI.out.p32 d (by simp [hd])) (by have := hI.out.lp; simp at this; omega) (by have := hI.out.hc; omega) hds2 ⟨hg8.os, hg8.tape, hg8.output, hg8.size, fun k hk hno => hg8.block k hk (fun e => hno (Option.some.inj e))⟩ (hp7.set _)
          exact ⟨z1, z2, _, _, _, _, _, _, _, _, _, _, _, z3⟩
        | false =>
          gi_wp2_with (first
            | (refine wpListIn_round_of_wp (by rfl) (by intro _ e; cases e) (wp_load_mid 23 (.tmp 29) (by rfl) gD (oD + q * 32) (by rfl) (dc dl) _ hrD9.out Tryd.underlying23 (by rfl) pd.out ?_))
            | (refine wpListIn_round_of_wp (by rfl) (by intro _ e; cases e) (wp_new_row' 23 (.tmp 12) (.tmp 30) (by rfl) (by rfl) (dg dl) W.heap.size (by rfl) rfl (by rfl) 23 _ pd2.out ps.out po.out ?_); intro w5 hd5 hz5 hB5; replace hd5 := Lib.hid hd5; obtain ⟨u1, u2, u3⟩ := hI5.out w5 hB5; skip))
          obtain ⟨t9, ht9⟩ : ∃ t9, ndT q0 dl = t9 := ⟨_, rfl⟩
          have hT9 : Hid (t9.length = 96) := Lib.hid (by rw [← ht9, ndT, mT_len, List.length_append, hdl32, hq32])
          have hwst : wayM n' i' dl (q0 :: p2) = (wayM ((n' + 1) / 2) (i' / 2) (sha t9) p2).map ((sha t9, t9) :: ·) := by
            have e9 : (if i' % 2 = 0 then ndT dl q0 else ndT q0 dl) = t9 := by rw [← ht9]; exact if_neg (of_decide_eq_false hri)
            rw [wayM_node h1 hnx, e9]
          have hW5 : ∀ V, Below w5.heap.size w5 V → Below W.heap.size W V := fun V hV => hB5.trans (hV.mono hB5.size)
          have hN : Hid (∀ V, Below w5.heap.size w5 V → Calls Tryd.prog 77 #[.agg (dc q0).toArray, .agg (dc dl).toArray] V (JoinC t9 V)) := Lib.hid fun V hV => ht9 ▸ mnode_any q0 dl hq32 hdl32 V (hL9.out.below (hI.out.bw.trans ((hW5 V hV).mono hI.out.bw.size)))
          have hS : Hid (∀ V, Below w5.heap.size w5 V → V.cell? ⟨w.heap.size + 1 + 1 + 1, 0, none⟩ = some (.func (.func 73) #[] #[.pointer (some ⟨w.heap.size + 1, 0, none⟩)]) ∧ V.rangeAt W.heap.size 0 (dc dl) ∧ V.cell? ⟨w.heap.size, 0, none⟩ = some (.slice (some ⟨gp, op, none⟩) k' c') ∧ V.rangeAt gp op (dc q0)) := Lib.hid fun V hV => ⟨(boxed_below hI.out.bf (hW5 V hV)).cell, fun j v hj => by
              have hh := (hV.block W.heap.size (by omega)).trans hd5.out
              rw [Nat.zero_add, cell_of_row _ _ _ _ _ _ hh]
              simpa [dg] using hj, (hI5.out V (hW5 V hV)).2.2, range_belowB hrp hgp (hI.out.bw.trans ((hW5 V hV).mono hI.out.bw.size))⟩
          have hAd : Hid (∀ V A6 c6, Below w5.heap.size w5 V → 96 ≤ c6 → c6 ≤ 9223372036854775807 → AtO V A6 t9 → (∀ g o, A6 = some ⟨g, o, none⟩ → t9 ≠ [] → w5.heap.size ≤ g ∧ g < V.heap.size) → Calls Tryd.prog 73 #[.slice A6 96 c6, .pointer (some ⟨w.heap.size + 1, 0, none⟩)] V fun e W' => e = .returned (.tuple #[]) ∧ ∃ D' T' : Value, WayAt w W' (w.heap.size + 1) D' T' ((lfD leaf :: acc.map (·.1)) ++ [sha t9]) ((lfT leaf :: acc.map (·.2)) ++ [t9]) (ts ++ [.slice A6 96 c6]) [some b, some (b + 1), some w.heap.size] ∧ Only (wyOwn (w.heap.size + 1) (.slice (some ⟨gD, oD, none⟩) (q + 1) cD) (.slice AT (q + 1) cT)) V W' ∧ (∀ k, D'.ownBlock = some k → Value.ownBlock (.slice (some ⟨gD, oD, none⟩) (q + 1) cD) = some k ∨ V.heap.size ≤ k) ∧ (∀ k, T'.ownBlock = some k → Value.ownBlock (.slice AT (q + 1) cT) = some k ∨ V.heap.size ≤ k)) := Lib.hid fun V A6 c6 hV h2 h3 h4 h5 =>
            have hWV := hW5 V hV
            have hwV := hI.out.way.keepX (X2 := []) (KeepX.of_below hWV) (fun k hk => by cases hk) (by simp) (fun _ _ => by simp) (fun _ _ => by simp)
            have hsV := hWV.size
            add_any w V (w.heap.size + 1) _ _ _ _ ts _ (fun j hj => by
              have := hI.out.sz
              have := hI.out.hb
              simp at hj
              omega) t9 96 A6 c6 hwV hT9.out (by omega) ⟨A6, c6, by rw [hT9.out], by rw [hT9.out]; exact h2, h3, h4, fun g o e hne => ⟨(h5 g o e hne).2, fun hm => by
                have h6 := (h5 g o e hne).1
                have h7 := hI.out.sz
                have h8 := hI.out.hb
                have h9 := hB5.size
                simp only [List.mem_cons, List.not_mem_nil, or_false] at hm
                rcases hm with hm | hm | hm | hm | hm | hm
                · have := (hI.out.way.row.high hm.symm).2; omega
                · have := (hI.out.way.rowT.high hm.symm).2; omega
                · have := Option.some.inj hm; omega
                · have := Option.some.inj hm; omega
                · have := Option.some.inj hm; omega
                · have := Option.some.inj hm; omega⟩⟩ (by rw [hlD.out]; omega) hL9.out (hI.out.bw.trans (hWV.mono hI.out.bw.size)) (by omega)
          have hS7 : Hid (∀ V W', Below w5.heap.size w5 V → Only (wyOwn (w.heap.size + 1) (.slice (some ⟨gD, oD, none⟩) (q + 1) cD) (.slice AT (q + 1) cT)) V W' → (W'.cell? ⟨w.heap.size + 1 + 1 + 1, 0, none⟩ = some (.func (.func 73) #[] #[.pointer (some ⟨w.heap.size + 1, 0, none⟩)]) ∧ W'.rangeAt W.heap.size 0 (dc dl) ∧ W'.cell? ⟨w.heap.size, 0, none⟩ = some (.slice (some ⟨gp, op, none⟩) k' c') ∧ W'.rangeAt gp op (dc q0)) ∧ Boxed W' w.heap.size 31 (.slice (some ⟨gp, op, none⟩) k' c')) := Lib.hid fun V W' hV ho => by
            obtain ⟨s1, s2, s3, s4⟩ := hS.out V hV
            have hWV := hW5 V hV
            have hsV := hWV.size
            have hz := hI.out.sz
            have hb9 := hI.out.hb
            have no : ∀ j, j ≠ w.heap.size + 1 → (∀ e, Value.ownBlock (.slice (some ⟨gD, oD, none⟩) (q + 1) cD) ≠ some e ∨ e ≠ j) → (∀ e, Value.ownBlock (.slice AT (q + 1) cT) ≠ some e ∨ e ≠ j) → j < V.heap.size → W'.heap[j]? = V.heap[j]? := fun j h1 h2 h3 hl => ho.block j hl (fun e => by
              rcases e with e | e | e
              · exact h1 e
              · rcases h2 j with h | h; exact h e; exact h rfl
              · rcases h3 j with h | h; exact h e; exact h rfl)
            have nD : ∀ j, (j ≤ w.heap.size + 1 + 1 + 1 ∧ j ≠ w.heap.size + 1) ∨ W.heap.size ≤ j → j < V.heap.size → W'.heap[j]? = V.heap[j]? := fun j hj hl => no j (by omega) (fun e => by
                by_cases he : Value.ownBlock (.slice (some ⟨gD, oD, none⟩) (q + 1) cD) = some e
                · right
                  intro h
                  subst h
                  have h9 := hI.out.way.row.high he
                  rcases hj with hj | hj
                  · have hcs : ∃ cs ty fr, W.heap[e]? = some (.cells cs ty fr) ∧ ty ≠ 23 := by
                      rcases (show e = w.heap.size ∨ e = w.heap.size + 1 + 1 ∨ e = w.heap.size + 1 + 1 + 1 by omega) with rfl | rfl | rfl
                      · exact ⟨_, _, _, hI.out.bp, by decide⟩
                      · exact ⟨_, _, _, hI.out.br, by decide⟩
                      · exact ⟨_, _, _, hI.out.bf, by decide⟩
                    obtain ⟨cs, ty, fr, hc, hne⟩ := hcs
                    exact hI.out.way.row.neT (b' := 0) hc hne he
                  · omega
                · exact .inl he) (fun e => by
                by_cases he : Value.ownBlock (.slice AT (q + 1) cT) = some e
                · right
                  intro h
                  subst h
                  have h9 := hI.out.way.rowT.high he
                  rcases hj with hj | hj
                  · have hcs : ∃ cs ty fr, W.heap[e]? = some (.cells cs ty fr) ∧ ty ≠ 48 := by
                      rcases (show e = w.heap.size ∨ e = w.heap.size + 1 + 1 ∨ e = w.heap.size + 1 + 1 + 1 by omega) with rfl | rfl | rfl
                      · exact ⟨_, _, _, hI.out.bp, by decide⟩
                      · exact ⟨_, _, _, hI.out.br, by decide⟩
                      · exact ⟨_, _, _, hI.out.bf, by decide⟩
                    obtain ⟨cs, ty, fr, hc, hne⟩ := hcs
                    exact hI.out.way.rowT.neT hc hne he
                  · omega
                · exact .inl he) hl
            have hbox : Boxed W' w.heap.size 31 (.slice (some ⟨gp, op, none⟩) k' c') := (nD w.heap.size (.inl (by omega)) (by omega)).trans (boxed_below hI.out.bp hWV)
            have hs5 := hV.size
            refine ⟨⟨(World.cell?_of_block (w := V) (a := ⟨w.heap.size + 1 + 1 + 1, 0, none⟩) (nD (w.heap.size + 1 + 1 + 1) (.inl (by omega)) (by omega))).trans s1, fun j v hj => (World.cell?_of_block (w := V) (a := ⟨W.heap.size, 0 + j, none⟩) (nD W.heap.size (.inr (Nat.le_refl _)) (by omega))).trans (s2 j v hj), hbox.cell, fun j v hj => ?_⟩, hbox⟩
            have hgl : gp < w.heap.size := hgp
            exact (World.cell?_of_block (w := V) (a := ⟨gp, op + j, none⟩) (nD gp (.inl (by omega)) (by omega))).trans (s4 j v hj)
          have HB : Below w5.heap.size w5 w5.drew := (Below.refl _ _).drew
          have hwy9 := Lib.hid hwst
          replace ht9 := Lib.hid ht9
          clear hwst
          refine wpIn_round_held (fun w' => w'.cell? ⟨w.heap.size + 1 + 1 + 1, 0, none⟩ = some (.func (.func 73) #[] #[.pointer (some ⟨w.heap.size + 1, 0, none⟩)]) ∧ w'.rangeAt W.heap.size 0 (dc dl) ∧ w'.cell? ⟨w.heap.size, 0, none⟩ = some (.slice (some ⟨gp, op, none⟩) k' c') ∧ w'.rangeAt gp op (dc q0)) (by kernel_rfl) (by kernel_rfl) (by exact hS.out _ HB) (fun hHeld => ?_)
          refine wpAnyH_take (i := 0) (oi := { dst := some 31, op := Op.load 115 (Operand.tmp 10), type := 115, pos := "merkle.go:109", after := #[], guard := none }) (v := ?_) rfl (by kernel_rfl) (by kernel_rfl) (by kernel_rfl) (fun _ _ _ h => h) (Or.inl ⟨by rfl, ?hyaaa0⟩) hHeld ?restaaa0
          case hyaaa0 =>
            intro w hSw
            try dsimp only at hSw
            go_simp
            try with_reducible rfl
          try simp only [Act.put, List.setIfInBounds_toArray, List.set_cons_zero, List.set_cons_succ]
          refine wpAnyH_take (i := 1) (oi := { dst := some 32, op := Op.load 31 (Operand.tmp 7), type := 31, pos := "merkle.go:109", after := #[], guard := none }) (v := ?_) rfl (by kernel_rfl) (by kernel_rfl) (by kernel_rfl) (fun _ _ _ h => h) (Or.inl ⟨by rfl, ?hyaaa1⟩) hHeld ?restaaa1
          case hyaaa1 =>
            intro w hSw
            try dsimp only at hSw
            go_simp
            try with_reducible rfl
          try simp only [Act.put, List.setIfInBounds_toArray, List.set_cons_zero, List.set_cons_succ]
          refine wpAnyH_take (i := 2) (oi := { dst := some 33, op := Op.indexAddr 31 (Operand.tmp 32) (Operand.const (Value.int IntKind.i64 0)), type := 0, pos := "merkle.go:109", after := #[{ on := 1, ground := Ground.data }], guard := none }) (v := ?_) rfl (by kernel_rfl) (by kernel_rfl) (by kernel_rfl) (fun _ _ _ h => h) (Or.inl ⟨by rfl, ?hyaaa2⟩) hHeld ?restaaa2
          case hyaaa2 =>
            intro w hSw
            try dsimp only at hSw
            go_simp
            try with_reducible rfl
          try simp only [Act.put, List.setIfInBounds_toArray, List.set_cons_zero, List.set_cons_succ]
          refine wpAnyH_take (i := 3) (oi := { dst := some 34, op := Op.load 23 (Operand.tmp 33), type := 23, pos := "merkle.go:109", after := #[{ on := 2, ground := Ground.data }], guard := none }) (v := _) rfl (by kernel_rfl) (by kernel_rfl) (by kernel_rfl) (fun _ _ _ h => h) (yieldsIf_load_mid (by rfl) 23 (.tmp 33) rfl gp op rfl (dc q0) _ (fun _ h => h.2.2.2) Tryd.underlying23 rfl pq.out) hHeld ?_
          try simp only [Act.put, List.setIfInBounds_toArray, List.set_cons_zero, List.set_cons_succ]
          refine wpAnyH_take (i := 4) (oi := { dst := some 35, op := Op.load 23 (Operand.tmp 12), type := 23, pos := "merkle.go:109", after := #[], guard := none }) (v := _) rfl (by kernel_rfl) (by kernel_rfl) (by kernel_rfl) (fun _ _ _ h => h) (yieldsIf_load_mid (by rfl) 23 (.tmp 12) rfl W.heap.size 0 rfl (dc dl) _ (fun _ h => h.2.1) Tryd.underlying23 rfl pd.out) hHeld ?_
          try simp only [Act.put, List.setIfInBounds_toArray, List.set_cons_zero, List.set_cons_succ]
          refine wpAnyH_ready (rs := [5]) (by kernel_rfl) (by simp) (AllReadyH.cons (o := { dst := some 36, op := Op.call { callee := Callee.value (Operand.func 77), args := #[Operand.tmp 34, Operand.tmp 35], argTypes := #[23, 23] }, type := 48, pos := "merkle.go:109", after := #[{ on := 3, ground := Ground.data }, { on := 4, ground := Ground.data }], guard := none }) rfl (fun K hK => ?_) AllReadyH.nil)
          go_simp
          go_at_call 77
          refine (hN.out _ HB).mono ?_
          unfold JoinC
          rw [hT9.out]
          rintro e w6 ⟨A6, c6, rfl, h61, h62, h63, hb6, hfr6⟩
          have hs56 := HB.size
          replace HB := HB.trans (hb6.mono HB.size)
          replace h63 := Lib.hid h63
          refine hK.out _ _ (by exact hS.out _ HB) (fun hHeld' => ?_)
          clear hK K hHeld
          have hHeld := hHeld'
          clear hHeld'
          try simp only [Act.put, List.setIfInBounds_toArray, List.set_cons_zero, List.set_cons_succ]
          refine wpAnyH_ready (rs := [6]) (by kernel_rfl) (by simp) (AllReadyH.cons (o := { dst := some 37, op := Op.call { callee := Callee.value (Operand.tmp 31), args := #[Operand.tmp 36], argTypes := #[48] }, type := 0, pos := "merkle.go:109", after := #[{ on := 0, ground := Ground.data }, { on := 5, ground := Ground.data }, { on := 5, ground := Ground.chain }], guard := none }) rfl (fun K hK => ?_) AllReadyH.nil)
          go_simp
          go_at_call 73
          refine (hAd.out w6 A6 c6 HB h61 h62 h63.out (fun g o e hne => ⟨Nat.le_trans hs56 (hfr6 g o e hne).1, (hfr6 g o e hne).2⟩)).mono ?_
          rintro e w7 ⟨rfl, D7, T7, hway7, hon7, hD7, hT7⟩
          obtain ⟨hs7, hp7⟩ := hS7.out w6 w7 HB hon7
          refine hK.out _ _ (by exact hs7) (fun hHeld' => ?_)
          clear hK K hHeld
          have hHeld := hHeld'
          clear hHeld'
          try simp only [Act.put, List.setIfInBounds_toArray, List.set_cons_zero, List.set_cons_succ]
          refine wpAnyH_done (by kernel_rfl) ?_ _
          refine strict_normal ?_
          have c7 := hp7.cell
          have f7 := hp7.frozen
          gi_wp2
          have hg8 := setCell_grown w7 w.heap.size 0 (.slice A2 (k' - 1) (c' - 1))
          obtain ⟨z1, z2, z3⟩ := climb_fin W6.heap.size hI.out (false, false) h1 hxs.out (hB5.trans (HB.mono hB5.size)) hon7 D7 T7 t9 (sha t9) _ hway7 hD7 hT7 p2 A2 (k' - 1) (c' - 1) hwy9.out (fun d hd => hI.out.p32 d (by simp [hd])) (by have := hI.out.lp; simp at this; omega) (by have := hI.out.hc; omega) hds2 ⟨hg8.os, hg8.tape, hg8.output, hg8.size, fun k hk hno => hg8.block k hk (fun e => hno (Option.some.inj e))⟩ (hp7.set _)
          exact ⟨z1, z2, _, _, _, _, _, _, _, _, _, _, _, z3⟩
  case done =>
    rintro D9 xs W hD rfl ⟨n', i', p', A', k', c', D, T, acc, ts, dl, hI⟩ hK
    have h1 : ¬ 1 < n' := fun h1 => by
      have h9 := hI.st
      rw [stepsM_big h1] at h9
      have := congrArg List.length h9
      simp at this
    obtain ⟨A9, c9, rfl, hc9, hds9⟩ := hI.way.row.ds hI.way.d32
    obtain ⟨A8, c8, rfl, hc8, hoT, hreT⟩ := hI.way.rowT.form
    obtain ⟨k9, hk9⟩ : ∃ k9, ((lfD leaf) :: acc.map (·.1)).length = k9 := ⟨_, rfl⟩
    have hlT : ts.length = k9 := by rw [hI.way.lt, hk9]
    rw [hk9] at hI hc9
    rw [hlT] at hI hc8
    obtain ⟨y0, y1, y2, y3⟩ := way_cells hI.way.cell
    have hcP := hI.bp.cell
    have r1 := hI.br.cell
    have r2 := hI.br.frozen
    obtain ⟨ok, hok⟩ : ∃ ok, ((k' : Int) == 0) = ok := ⟨_, rfl⟩
    have hfull : climbM n i leaf path = if ok then some ((lfD leaf, lfT leaf) :: acc) else none := by
      rw [climbM, hI.wy, wayM_end h1, ← hok]
      by_cases hp : p' = []
      · have : k' = 0 := by rw [← hI.lp, hp]; rfl
        subst this
        rw [if_pos hp]; simp
      · have : k' ≠ 0 := fun e => hp (List.length_eq_zero_iff.1 (hI.lp.trans e))
        rw [if_neg hp]; simp [this]
    replace hfull := Lib.hid hfull
    replace hk9 := Lib.hid hk9
    replace hds9 := Lib.hid hds9
    replace hI := Lib.hid hI
    have v4 := way_set1 (.slice A8 k9 c8) (way_set0 (.slice A9 k9 c9) hI.out.way.cell)
    have g4 := grown_trans (setCell_grown W (w.heap.size + 1) 0 (.slice A9 k9 c9)) (setCell_grown (W.setCell ⟨w.heap.size + 1, 0, none⟩ (.slice A9 k9 c9)) (w.heap.size + 1) 1 (.slice A8 k9 c8))
    have p4 := hI.out.bp.kept g4 (fun e => by have := Option.some.inj e; omega)
    have r4 := hI.out.br.kept g4 (fun e => by have := Option.some.inj e; omega)
    have g5 := setCell_grown ((W.setCell ⟨w.heap.size + 1, 0, none⟩ (.slice A9 k9 c9)).setCell ⟨w.heap.size + 1, 1, none⟩ (.slice A8 k9 c8)) (w.heap.size + 1 + 1) 0 (.bool ok)
    have v5 := (g5.block _ (Array.getElem?_eq_some_iff.1 v4).1 (fun e => by have := Option.some.inj e; omega)).trans v4
    have p5 := p4.kept g5 (fun e => by have := Option.some.inj e; omega)
    have r5 := r4.set (.bool ok)
    have hS4 := Lib.hid (show _ ∧ _ ∧ _ from ⟨(way_cells v4).1, (way_cells v4).2.1, p4.cell⟩)
    have hS5 := Lib.hid (show _ ∧ _ ∧ _ from ⟨(way_cells v5).1, (way_cells v5).2.1, p5.cell⟩)
    have g45 : Only (fun j => j = w.heap.size + 1 ∨ j = w.heap.size + 1 + 1) W (((W.setCell ⟨w.heap.size + 1, 0, none⟩ (.slice A9 k9 c9)).setCell ⟨w.heap.size + 1, 1, none⟩ (.slice A8 k9 c8)).setCell ⟨w.heap.size + 1 + 1, 0, none⟩ (.bool ok)) :=
      ⟨g5.os.trans g4.os, g5.tape.trans g4.tape, g5.output.trans g4.output, Nat.le_trans g4.size g5.size, fun j hj hno => (g5.block j (Nat.lt_of_lt_of_le hj g4.size) (fun e => hno (.inr (Option.some.inj e)))).trans (g4.block j hj (fun e => hno (.inl (Option.some.inj e))))⟩
    replace v5 := Lib.hid v5
    replace r5 := Lib.hid r5
    replace g45 := Lib.hid g45
    clear v4 g4 p4 r4 g5 p5 hreT hoT hlT
    gi_wp2
    refine wpIn_np (wpIn_wide.2 ?_)
    refine wp_region_held_drew (S := fun w' => w'.cell? ⟨w.heap.size + 1, 0, none⟩ = some (.slice A9 k9 c9) ∧ w'.cell? ⟨w.heap.size + 1, 1, none⟩ = some (.slice A8 k9 c8) ∧ w'.cell? ⟨w.heap.size, 0, none⟩ = some (.slice A' k' c')) (by kernel_rfl) (by exact ⟨y0, y1, hcP⟩) (fun hHeld => ?_)
    refine wpAnyH_take (i := 0) (oi := { dst := some 69, op := Op.load 89 (Operand.tmp 8), type := 89, pos := "merkle.go:113", after := #[], guard := none }) (v := ?_) rfl (by kernel_rfl) (by kernel_rfl) (by kernel_rfl) (fun _ _ _ h => h) (Or.inl ⟨by rfl, ?hya0⟩) hHeld ?resta0
    case hya0 =>
      intro w hSw
      try dsimp only at hSw
      go_simp
      try with_reducible rfl
    try simp only [Act.put, List.setIfInBounds_toArray, List.set_cons_zero, List.set_cons_succ]
    refine wpAnyH_take (i := 1) (oi := { dst := some 70, op := Op.load 31 (Operand.tmp 7), type := 31, pos := "merkle.go:113", after := #[], guard := none }) (v := ?_) rfl (by kernel_rfl) (by kernel_rfl) (by kernel_rfl) (fun _ _ _ h => h) (Or.inl ⟨by rfl, ?hya1⟩) hHeld ?resta1
    case hya1 =>
      intro w hSw
      try dsimp only at hSw
      go_simp
      try with_reducible rfl
    try simp only [Act.put, List.setIfInBounds_toArray, List.set_cons_zero, List.set_cons_succ]
    refine wpAnyH_take (i := 2) (oi := { dst := some 71, op := Op.call { callee := Callee.builtin Builtin.len, args := #[Operand.tmp 70], argTypes := #[31] }, type := 3, pos := "merkle.go:113", after := #[{ on := 1, ground := Ground.data }], guard := none }) (v := ?_) rfl (by kernel_rfl) (by kernel_rfl) (by kernel_rfl) (fun _ _ _ h => h) (Or.inl ⟨by rfl, ?hya2⟩) hHeld ?resta2
    case hya2 =>
      intro w hSw
      try dsimp only at hSw
      go_simp
      try with_reducible rfl
    try simp only [Act.put, List.setIfInBounds_toArray, List.set_cons_zero, List.set_cons_succ]
    refine wpAnyH_take (i := 3) (oi := { dst := some 72, op := Op.binOp BinOp.eql 3 (Operand.tmp 71) (Operand.const (Value.int IntKind.i64 0)) 3, type := 4, pos := "merkle.go:113", after := #[{ on := 2, ground := Ground.data }], guard := none }) (v := ?_) rfl (by kernel_rfl) (by kernel_rfl) (by kernel_rfl) (fun _ _ _ h => h) (Or.inl ⟨by rfl, ?hya3⟩) hHeld ?resta3
    case hya3 =>
      intro w hSw
      try dsimp only at hSw
      go_simp
      try with_reducible rfl
    try simp only [Act.put, List.setIfInBounds_toArray, List.set_cons_zero, List.set_cons_succ]
    refine wpAnyH_ready (rs := [4]) (by kernel_rfl) (by simp) (AllReadyH.cons (o := { dst := none, op := Op.store 89 (Operand.tmp 8) (Operand.tmp 69), type := 0, pos := "merkle.go:113", after := #[{ on := 0, ground := Ground.data }, { on := 0, ground := Ground.phase }, { on := 1, ground := Ground.textOnly Departure.inlinedCapture }, { on := 2, ground := Ground.textOnly Departure.lateStoresUnsure }, { on := 3, ground := Ground.textOnly Departure.inlinedCapture }], guard := none }) rfl (fun K hK => ?_) AllReadyH.nil)
    go_simp
    refine hK.out _ _ (by exact hS4.out) (fun hHeld' => ?_)
    clear hK K hHeld
    have hHeld := hHeld'
    clear hHeld'
    try simp only [Act.put, List.setIfInBounds_toArray, List.set_cons_zero, List.set_cons_succ]
    refine wpAnyH_ready (rs := [5]) (by kernel_rfl) (by simp) (AllReadyH.cons (o := { dst := none, op := Op.store 4 (Operand.tmp 9) (Operand.tmp 72), type := 0, pos := "merkle.go:113", after := #[{ on := 3, ground := Ground.data }, { on := 4, ground := Ground.chain }, { on := 0, ground := Ground.phase }, { on := 1, ground := Ground.phase }, { on := 2, ground := Ground.phase }, { on := 3, ground := Ground.phase }, { on := 4, ground := Ground.phase }], guard := none }) rfl (fun K hK => ?_) AllReadyH.nil)
    go_simp
    refine hK.out _ _ (by exact hS5.out) (fun hHeld' => ?_)
    clear hK K hHeld
    have hHeld := hHeld'
    clear hHeld'
    try simp only [Act.put, List.setIfInBounds_toArray, List.set_cons_zero, List.set_cons_succ]
    refine wpAnyH_done (by kernel_rfl) ?_ _
    refine np_normal ?_
    gi_wp2
    have hne : ∀ (j : Nat) (cs : Array Value) (t : TypeId) (fr : Nat × Nat), W.heap[j]? = some (.cells cs t fr) → j ≠ D9 := fun j cs t fr hj e => by
      subst e
      rw [hK] at hj
      cases Option.some.inj hj
    have hI9 := hI.out
    have n1 := hne _ _ _ _ hI9.way.cell
    have n2 := hne _ _ _ _ hI9.br
    obtain ⟨V5, hV5⟩ : ∃ V5, ((W.setCell ⟨w.heap.size + 1, 0, none⟩ (.slice A9 k9 c9)).setCell ⟨w.heap.size + 1, 1, none⟩ (.slice A8 k9 c8)).setCell ⟨w.heap.size + 1 + 1, 0, none⟩ (.bool ok) = V5 := ⟨_, rfl⟩
    rw [hV5] at v5 r5 g45 ⊢
    have hK5 : V5.drew.heap[D9]? = some (.deferred (some [])) := (g45.out.block D9 (Array.getElem?_eq_some_iff.1 hK).1 (fun e => by omega)).trans hK
    refine ⟨by simp, .inl ⟨_, _, rfl, run_takeDeferred hK5, ?_⟩⟩
    have o9 := fun (j : Nat) (hj : j ≠ D9) => World.putObj_heap_other (w := V5.drew) (r := D9) (o := .deferred none) (k := j) hj
    have v9 : (V5.drew.putObj D9 (.deferred none)).heap[w.heap.size + 1]? = _ := (o9 _ n1).trans v5.out
    have r9 : Boxed (V5.drew.putObj D9 (.deferred none)) (w.heap.size + 1 + 1) 4 (.bool ok) := (o9 _ n2).trans r5.out
    have hB5 : Below w.heap.size w V5.drew := (hI9.bw.trans (g45.out.below hI9.bw.size (fun j hj e => by omega))).drew
    have hB9 := hB5.trans (belowK_b (w := w) (Nat.le_refl _) V5.drew D9 _ (.deferred none) (by omega) hK5 rfl rfl)
    have hk9' : KeepX [some (w.heap.size + 1 + 1), some (w.heap.size + 1)] W (V5.drew.putObj D9 (.deferred none)) := ⟨by rw [World.putObj_size]; exact g45.out.size, fun g cs t fr hg hn => (o9 g (hne _ _ _ _ hg)).trans ((g45.out.block g (Array.getElem?_eq_some_iff.1 hg).1 (fun e => hn (by simp; omega))).trans hg)⟩
    have hrow9 := hI9.way.row.keepX hk9' (fun g e hm => by
      simp at hm
      rcases hm with rfl | rfl
      · exact hI9.way.row.neT (b' := 0) hI9.br (by decide) e
      · exact hI9.way.row.neT (b' := 0) hI9.way.cell (by decide) e)
    have hrowT9 := hI9.way.rowT.keepX hk9' (fun g e hm => by
      simp at hm
      rcases hm with rfl | rfl
      · exact hI9.way.rowT.neT hI9.br (by decide) e
      · exact hI9.way.rowT.neT hI9.way.cell (by decide) e)
    have hlv := texts_lv hrowT9 (hI9.way.lx.trans hI9.way.lt.symm) (fun i v x h1 h2 => ((hI9.way.tx i v x h1 h2).ne_box hI9.br).keepX hk9' (fun g hg => by simp at hg ⊢; omega))
    obtain ⟨Ad, cd, ed, hcd, hdd⟩ := hrow9.ds hI9.way.d32
    injection ed with ed1 ed2 ed3
    subst ed1
    obtain ⟨y0, y1, _, _⟩ := way_cells v9
    have r9c := r9.cell
    generalize V5.drew.putObj D9 (.deferred none) = W9 at *
    refine ⟨.tuple #[.agg #[.slice A9 k9 c9, .slice A8 k9 c8], .bool ok], by simp [results, Tryd.results53, go_sem, y0, y1, r9c], ?_⟩
    refine ⟨_, _, _, _, _, _, ok, rfl, by rw [hfull.out]; cases ok <;> rfl, hB9, fun l hl => ?_⟩
    rw [hfull.out] at hl
    cases ok with
    | false => cases hl
    | true =>
      obtain rfl := Option.some.inj hl
      have hk := hk9.out
      simp only [List.length_cons, List.length_map] at hk
      exact ⟨by rw [List.length_cons, hk], hc9, by simpa using hdd, by rw [List.length_cons, hk], by simpa using hlv⟩
  case stop =>
    rintro D9 c pre W hD _ ⟨rfl, hn, hc, hr, hB⟩ hK
    gi_wp2
    refine ⟨by simp, .inl ⟨_, _, rfl, run_takeDeferred hK, ?_⟩⟩
    have hg9 := grownBy_putObj' W D9 (.deferred none)
    have hne : ∀ (j : Nat) (cs : Array Value) (t : TypeId) (fr : Nat × Nat), W.heap[j]? = some (.cells cs t fr) → some j ≠ some D9 := fun j cs t fr hj e => by
      obtain rfl := Option.some.inj e
      rw [hK] at hj
      cases Option.some.inj hj
    have hc9 := (hg9.block _ (Array.getElem?_eq_some_iff.1 hc).1 (hne _ _ _ _ hc)).trans hc
    have hr9 := (hr.kept hg9 (hne _ _ _ _ hr)).cell
    have hB9 := hB.trans (belowK_b (w := w) (Nat.le_refl _) W D9 _ (.deferred none) (by omega) hK rfl rfl)
    obtain ⟨y0, y1, _, _⟩ := way_cells hc9
    generalize W.putObj D9 (.deferred none) = W9 at hc9 hr9 hB9 y0 y1 ⊢
    refine ⟨.tuple #[.agg #[.slice none 0 0, .slice none 0 0], .bool false], by simp [results, Tryd.results53, go_sem, y0, y1, hr9], ?_⟩
    refine ⟨_, _, _, _, _, _, _, rfl, by rw [climbM, hn]; rfl, hB9, fun l hl => by rw [climbM, hn] at hl; cases hl⟩
end Go.Proofs.YtnccbhndlnkboaaDoor
