/- The walks of slices.Grow and slices.Concat at bytes. -/
import Derived.Test.YtnccbhndlnkboaaDoorSum
import Derived.Test.YtnccbhndlnkboaaDoorBytesV
import Derived.Lib.AppendZeros
namespace Go.Proofs.YtnccbhndlnkboaaDoor
open Go.RowKit Sha Cdc
set_option linter.unusedVariables false
set_option linter.unusedSimpArgs false

theorem Own.atO {w : World} {A : Option Addr} {n c : Nat} {xs : List UInt8} (h : Own w (.slice A n c) xs) : AtO w A xs := fun j x hj => by
  have hl : 0 < xs.length := by have := (List.getElem?_eq_some_iff.1 hj).1; omega
  rcases h.2 with ⟨_, h0⟩ | ⟨g, cap, cur, hv, _, hh, _⟩
  · omega
  · have hA : A = some ⟨g, 0, none⟩ := by injection hv
    subst hA
    have hc := World.ownsRow.cells h (g := g) rfl j (by1 x) (by rw [List.getElem?_map, hj]; rfl)
    rw [addr_add] at hc
    exact ⟨g, 0, rfl, by rw [Nat.zero_add] at hc ⊢; exact hc⟩
/-- append of bytes that lie somewhere, or nowhere -/
theorem run_appO (w : World) (ty : TypeId) (v : Value) (xs : List UInt8) (A : Option Addr) (m c : Nat) (ys : List UInt8) (hown : Own w v xs) (hm : ys.length = m) (h : AtO w A ys) (hl : xs.length + m ≤ 100000000000000) :
    ∃ v' w', (Builtin.append_ #[48, 48] ty #[v, .slice A m c]).run Tryd.prog w = .ok v' w' ∧ Own w' v' (xs ++ ys) ∧ Grew w w' v v' := by
  cases A with
  | some ad =>
    refine run_app w ty v xs ad m c ys hown hm (fun j u hj => ?_) hl
    rw [List.getElem?_map] at hj
    obtain ⟨x, hx, rfl⟩ := Option.map_eq_some_iff.1 hj
    obtain ⟨ab, ao, hA, hc⟩ := h j x hx
    cases hA
    rw [addr_add]
    exact hc
  | none =>
    obtain rfl : ys = [] := by
      cases ys with
      | nil => rfl
      | cons y ys => obtain ⟨_, _, hA, _⟩ := h 0 y rfl; cases hA
    subst hm
    obtain ⟨i0, hi0, hz0, hz1, hz2⟩ := info_parts u8_info
    refine ⟨v, w, ?_, by simpa using hown, Grew.refl _ _⟩
    rcases hown.2 with ⟨rfl, h0⟩ | ⟨g, cap, cur, rfl, _, _, hnc, _⟩
    · simp [Builtin.append_, run_underlying Tryd.underlying48, sizeOf, typeInfo, hi0, Builtin.lenOf, Builtin.firstCells]
    · simp [Builtin.append_, run_underlying Tryd.underlying48, sizeOf, typeInfo, hi0, Builtin.lenOf, Builtin.firstCells, hnc, storeCells]
theorem wpList_appO {ops : Array Oper} {rest : List Oper} {o : Oper} {a : Act} {Q : Exit → Act → World → Prop} (w : World) (hgd : o.guard = none) (s x : Operand)
    (ho : o.op = .call { callee := .builtin .append, args := #[s, x], argTypes := #[48, 48] }) (v : Value) (xs : List UInt8) (A : Option Addr) (m c : Nat) (ys : List UInt8)
    (hs : a.eval s = v) (hx : a.eval x = .slice A m c) (hown : Own w v xs) (hm : ys.length = m) (hc : AtO w A ys) (hl : xs.length + m ≤ 100000000000000)
    (h : ∀ v' w', Own w' v' (xs ++ ys) → Grew w w' v v' → wpList Tryd.prog ops Q rest (a.put o.dst v') w') : wpList Tryd.prog ops Q (o :: rest) a w := by
  refine wpList_plain hgd fun K hK => ?_
  obtain ⟨v', w', hr, h2, h3⟩ := run_appO w o.type v xs A m c ys hown hm hc hl
  unfold Oper.wp execOp
  simp only [ho, resolve, invoke, builtin, Sem.run_bind, Sem.run_pure, Result.andThen_ok, List.map_toArray, List.map_cons, List.map_nil, hs, hx, hr]
  exact hK _ _ (h v' w' h2 h3)

theorem own_zeros (w : World) (n : Nat) (hn : n ≤ 1000000000000) : Own (w.drew.alloc (.cells (Builtin.zeroCells (Value.int .u8 0).cells n ++ Builtin.zeroCells (Value.int .u8 0).cells (grownCap w n 0 5 - n)) 5)) (.slice (some ⟨w.heap.size, 0, none⟩) 0 (grownCap w n 0 5)) [] := by
  have h1 := grownCap_ge w n 0 5
  have h2 := grownCap_le_maxLen w n 0 5 (by simp only [maxLen]; omega)
  refine ⟨rfl, .inr ⟨w.heap.size, grownCap w n 0 5, _, rfl, Nat.zero_le _, heap_alloc_new w.drew _, Nat.zero_le _, h2, ?_, by simp⟩⟩
  simp [Builtin.zeroCells, Value.cells]
  omega

set_option maxRecDepth 100000 in
set_option maxHeartbeats 1000000 in
theorem grow_nil (n : Nat) (hn : n ≤ 1000000000000) (w : World) :
    Calls Tryd.prog 100 #[.slice none 0 0, .int .i64 (n : Int)] w fun e w' => ∃ v, e = .returned v ∧ Own w' v [] ∧ Grew w w' (.slice none 0 0) v := by
  obtain ⟨i0, hi0, hz0, hz1, hz2⟩ := info_parts u8_info
  by_cases h0 : n = 0
  · subst h0
    go_enter Tryd.func100, Tryd.ntmps100
    go_wp2_with fail
    go_ret
    exact ⟨_, rfl, Own.nil _, Grew.refl _ _⟩
  · have hp : 0 < n := by omega
    have hr := Lib.run_append_nil_zeros (P := Tryd.prog) w 48 3 48 5 i0 _ .i64 .i64 Tryd.underlying48 Tryd.underlying3 hi0 hz0 n hp (by omega) (by omega) (by rw [hz2]; omega)
    have ho := Lib.hid (own_zeros w n hn)
    have hg : Hid (Grew w (w.drew.alloc (.cells (Builtin.zeroCells (Value.int .u8 0).cells n ++ Builtin.zeroCells (Value.int .u8 0).cells (grownCap w n 0 5 - n)) 5)) (.slice none 0 0) (.slice (some ⟨w.heap.size, 0, none⟩) 0 (grownCap w n 0 5))) :=
      Lib.hid ⟨((Grew.refl w (.slice none 0 0)).drew.alloc _).grown, .inr ⟨_, rfl, Nat.le_refl _⟩⟩
    have hcap := grownCap_ge w n 0 5
    have hcm := grownCap_le_maxLen w n 0 5 (by simp only [maxLen]; omega)
    simp only [maxLen] at hcm
    generalize w.drew.alloc (.cells (Builtin.zeroCells (Value.int .u8 0).cells n ++ Builtin.zeroCells (Value.int .u8 0).cells (grownCap w n 0 5 - n)) 5) = W1 at *
    generalize grownCap w n 0 5 = cp at *
    clear hi0 hz0 hz1 hz2
    go_enter Tryd.func100, Tryd.ntmps100
    go_wp2_with (at_builtin; refine Lib.wpList_append_run _ rfl _ _ _ _ rfl _ _ rfl rfl _ _ hr ?_)
    go_ret
    exact ⟨_, rfl, ho.out, hg.out⟩

/-- a row of slices of bytes -/
def SL (w : World) (cb co : Nat) (ls : List (List UInt8)) : Prop := ∀ i xs, ls[i]? = some xs → ∃ A c, w.cell? ⟨cb, co + i, none⟩ = some (.slice A xs.length c) ∧ AtO w A xs
theorem SL.below {w w' : World} {cb co : Nat} {ls : List (List UInt8)} (h : SL w cb co ls) (hb : Below w.heap.size w w') : SL w' cb co ls := fun i xs hi => by
  obtain ⟨A, c, hc, hA⟩ := h i xs hi
  exact ⟨A, c, (hb.cell (p := ⟨cb, co + i, none⟩) (World.block_lt_of_cell? w _ hc)).trans hc, hA.below hb⟩
theorem flat_snoc {ls : List (List UInt8)} {k : Nat} {ys : List UInt8} (h : ls[k]? = some ys) : (ls.take (k + 1)).flatten = (ls.take k).flatten ++ ys := by
  rw [List.take_add_one, h]
  simp
theorem flat_le (ls : List (List UInt8)) (k : Nat) : (ls.take k).flatten.length ≤ ls.flatten.length := by
  have h : ls.flatten = (ls.take k).flatten ++ (ls.drop k).flatten := by rw [← List.flatten_append, List.take_append_drop]
  rw [h, List.length_append]
  omega

set_option maxRecDepth 100000 in
set_option maxHeartbeats 1000000 in
theorem concat_any (ls : List (List UInt8)) (hl : ls.flatten.length ≤ 1000000000000) (cb co n c : Nat) (hn : ls.length = n) (hnm : n ≤ 1000000000) (w : World) (h : SL w cb co ls) :
    Calls Tryd.prog 81 #[.slice (some ⟨cb, co, none⟩) n c] w fun e w' => ∃ v, e = .returned v ∧ Own w' v ls.flatten ∧ Below w.heap.size w w' := by
  replace hn := Lib.hid hn
  replace h := Lib.hid h
  go_enter Tryd.func81, Tryd.ntmps81
  go_wp2_with fail
  go_loop [3, 11] (fun s3 s11 => ∃ k : Nat, k ≤ n ∧ s11 = .int .i64 k ∧ s3 = .int .i64 ((ls.take k).flatten.length : Int)) (fun _ s11 => n - (intOf s11).toNat)
  case atStart => exact ⟨0, by omega, rfl, rfl⟩
  case round =>
    obtain ⟨k, hk, rfl, rfl⟩ := hrel
    have hlk := flat_le ls k
    by_cases hlt : k < n
    · obtain ⟨ys, hys⟩ : ∃ ys, ls[k]? = some ys := ⟨_, List.getElem?_eq_getElem (by rw [hn.out]; omega)⟩
      obtain ⟨A, c2, hc, hA⟩ := h.out k ys hys
      have hlk2 := flat_le ls (k + 1)
      have hsn := flat_snoc hys
      rw [hsn, List.length_append] at hlk2
      replace hsn := Lib.hid hsn
      replace hA := Lib.hid hA
      generalize hz : (ls.take k).flatten.length = z at *
      replace hz := Lib.hid hz
      clear hys
      go_wp2_with fail
      go_round
      case rel => exact ⟨k + 1, by omega, by go_num, by rw [hsn.out, List.length_append, hz.out]; go_num⟩
      case measure => simp [intOf]; omega
    · have hkn : ls.take k = ls := List.take_of_length_le (by rw [hn.out]; omega)
      rw [hkn] at *
      clear hkn hlk
      obtain ⟨T, hT⟩ : ∃ T, T = ls.flatten.length := ⟨_, rfl⟩
      rw [← hT] at hl ⊢
      have hgr := Lib.hid (fun w => grow_nil T hl w)
      replace hT := Lib.hid hT
      go_wp2_with fail
      refine (hgr.out _).mono ?_
      rintro e w2 ⟨v2, rfl, ho2, hg2⟩
      have hB2 : Below w.heap.size w w2 := hg2.below rfl
      have hhi2 : ∀ g, v2.ownBlock = some g → w.heap.size ≤ g := fun g hg => by
        rcases hg2.lies with e | ⟨g', e, hg'⟩
        · rw [e] at hg; cases hg
        · rw [e] at hg; injection hg with hg; omega
      clear hgr hg2
      replace ho2 := Lib.hid ho2
      replace hhi2 := Lib.hid hhi2
      go_wp2_with fail
      go_loopw [6, 27] (fun s6 s27 w3 => ∃ k : Nat, k ≤ n ∧ s27 = .int .i64 k ∧ Own w3 s6 (ls.take k).flatten ∧ (∀ g, s6.ownBlock = some g → w.heap.size ≤ g) ∧ Below w.heap.size w w3) (fun _ s27 _ => n - (intOf s27).toNat)
      case atStart => exact ⟨0, by omega, rfl, ho2.out, hhi2.out, hB2⟩
      case round =>
        clear ho2 hhi2 hB2
        obtain ⟨j, hj, rfl, ho, hhi, hB⟩ := hrel
        by_cases hjt : j < n
        · obtain ⟨ys, hys⟩ : ∃ ys, ls[j]? = some ys := ⟨_, List.getElem?_eq_getElem (by rw [hn.out]; omega)⟩
          obtain ⟨A, c2, hc, hA⟩ := h.out.below hB j ys hys
          have hlj2 := flat_le ls (j + 1)
          have hsn := flat_snoc hys
          rw [hsn, List.length_append] at hlj2
          replace hsn := Lib.hid hsn
          clear hys
          rw [hT.out] at hl
          replace hhi := Lib.hid hhi
          have htot : (ls.take j).flatten.length + ys.length ≤ 100000000000000 := by omega
          clear hlj2 hl
          replace hB := Lib.hid hB
          go_wp2_with (at_builtin; refine wpList_appO _ rfl _ _ rfl _ _ A ys.length c2 ys rfl rfl ho rfl hA htot ?_; intro v3 w3 ho3 hg3)
          have hB3 : Below w.heap.size w w3 := hB.out.grown hg3.grown hB.out.size (fun g hg => hhi.out g hg)
          have hh3 : ∀ g, v3.ownBlock = some g → w.heap.size ≤ g := fun g hg => by
            rcases hg3.lies with e | ⟨g', e, hg'⟩
            · rw [e] at hg; exact hhi.out g hg
            · rw [e] at hg; injection hg with hg; have := hB.out.size; omega
          clear ho hA hc hg3
          replace hh3 := Lib.hid hh3
          go_wp2_with fail
          go_roundw
          case rel => exact ⟨j + 1, by omega, by go_num, by rw [hsn.out]; exact ho3, hh3.out, hB3⟩
          case measure => simp [intOf]; omega
        · have hjn : ls.take j = ls := List.take_of_length_le (by rw [hn.out]; omega)
          rw [hjn] at ho
          clear hjn
          go_wp2_with fail
          go_ret
          exact ⟨_, rfl, ho, hB⟩
end Go.Proofs.YtnccbhndlnkboaaDoor
