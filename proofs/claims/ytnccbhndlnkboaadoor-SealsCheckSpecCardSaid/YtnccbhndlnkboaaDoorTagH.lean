/- Storing a whole row (an array, a struct) into a block of the call's own. -/
import Derived.Laws.Rows
import Derived.Laws.Tables
import Derived.Laws.CopyOwn
import Derived.Below
import Derived.Great.BuildSlice
import Derived.Test.YtnccbhndlnkboaaDoorConcat
import Derived.Lib.ConvBytes
namespace Go.Proofs.YtnccbhndlnkboaaDoor
open Go Go.RowKit
set_option linter.unusedVariables false
set_option linter.unusedSimpArgs false
variable {P : Program}

/-- a row is stored into the block that has just been made -/
theorem wpList_new_row {ops : Array Oper} {rest : List Oper} {o : Oper} {a : Act} {w0 : World} {Q : Exit → Act → World → Prop} (hgd : o.guard = none) (ty : TypeId) (x y : Operand) (ho : o.op = .store ty x y) (hd : o.dst = none)
    (D : Array Value) (hx : a.eval x = .pointer (some ⟨w0.heap.size, 0, none⟩)) (hy : a.eval y = .agg D) (t : TypeId) (z : Array Value) (hi : (P.info? ty).map (·.size) = some D.size) (hz : z.size = D.size) (h1 : D.all (·.oneCell') = true)
    (h : ∀ W : World, W.heap[w0.heap.size]? = some (.cells D t (0, 0)) → W.heap.size = w0.heap.size + 1 → Below w0.heap.size w0 W → wpList P ops Q rest a W) : wpList P ops Q (o :: rest) a (w0.alloc (.cells z t)) := by
  refine wpList_store_row hgd ty x y ho w0.heap.size D hx hy t z (heap_alloc_new w0 _) hi hz h1 ?_
  rw [hd]
  refine h _ (setRow_heap _ _ z D t _ (heap_alloc_new w0 _)) ?_ (below_setRow ((Below.refl _ _).alloc (Nat.le_refl _) _) (Nat.le_refl _) _)
  simp [World.setRow]

/-- the same where the block's number is spelled otherwise -/
theorem wpList_new_row' {ops : Array Oper} {rest : List Oper} {o : Oper} {a : Act} {w0 : World} {Q : Exit → Act → World → Prop} (hgd : o.guard = none) (ty : TypeId) (x y : Operand) (ho : o.op = .store ty x y) (hd : o.dst = none)
    (D : Array Value) (g : Nat) (hx : a.eval x = .pointer (some ⟨g, 0, none⟩)) (hg : g = w0.heap.size) (hy : a.eval y = .agg D) (t : TypeId) (z : Array Value) (hi : (P.info? ty).map (·.size) = some D.size) (hz : z.size = D.size) (h1 : D.all (·.oneCell') = true)
    (h : ∀ W : World, W.heap[g]? = some (.cells D t (0, 0)) → W.heap.size = g + 1 → Below g w0 W → wpList P ops Q rest a W) : wpList P ops Q (o :: rest) a (w0.alloc (.cells z t)) := by
  subst hg
  exact wpList_new_row hgd ty x y ho hd D hx hy t z hi hz h1 h

/-- a row is stored into a block that lies already -/
theorem wpList_set_row {ops : Array Oper} {rest : List Oper} {o : Oper} {a : Act} {w : World} {Q : Exit → Act → World → Prop} (hgd : o.guard = none) (ty : TypeId) (x y : Operand) (ho : o.op = .store ty x y) (hd : o.dst = none)
    (g : Nat) (D : Array Value) (hx : a.eval x = .pointer (some ⟨g, 0, none⟩)) (hy : a.eval y = .agg D) (t : TypeId) (z : Array Value) (hg : w.heap[g]? = some (.cells z t (0, 0))) (hi : (P.info? ty).map (·.size) = some D.size) (hz : z.size = D.size) (h1 : D.all (·.oneCell') = true)
    (h : ∀ W : World, W.heap[g]? = some (.cells D t (0, 0)) → W.heap.size = w.heap.size → w.grownBy W (some g) → wpList P ops Q rest a W) : wpList P ops Q (o :: rest) a w := by
  refine wpList_store_row hgd ty x y ho g D hx hy t z hg hi hz h1 ?_
  rw [hd]
  refine h _ (setRow_heap w g z D t _ hg) (by simp [World.setRow]) ⟨rfl, rfl, rfl, by simp [World.setRow], fun i hi hne => ?_⟩
  simp only [World.setRow, Array.getElem?_modify]
  rw [if_neg (fun e => hne (by rw [e]))]

/-- an array or a struct is built and stored into a block that lies already -/
theorem wpList_build_set {ops : Array Oper} {rest : List Oper} {o o2 : Oper} {a : Act} {w : World} {Q : Exit → Act → World → Prop} (hgd : o.guard = none) (ty : TypeId) (parts : Array (Nat × Operand)) (ho : o.op = .build ty parts) (d : Tmp) (hd : o.dst = some d) (D : Array Value)
    (hf : P.built ty (parts.map fun (i, x) => (i, a.eval x)).toList = some D) (hgd2 : o2.guard = none) (x : Operand) (ho2 : o2.op = .store ty x (.tmp d)) (hd2 : o2.dst = none)
    (g : Nat) (hx : (a.put (some d) (.agg D)).eval x = .pointer (some ⟨g, 0, none⟩)) (hy : (a.put (some d) (.agg D)).eval (.tmp d) = .agg D) (t : TypeId) (z : Array Value) (hg : w.heap[g]? = some (.cells z t (0, 0))) (hi : (P.info? ty).map (·.size) = some D.size) (hz : z.size = D.size) (h1 : D.all (·.oneCell') = true)
    (h : ∀ W : World, W.heap[g]? = some (.cells D t (0, 0)) → W.heap.size = w.heap.size → w.grownBy W (some g) → wpList P ops Q rest (a.put (some d) (.agg D)) W) : wpList P ops Q (o :: o2 :: rest) a w := by
  refine wpList_buildTo hgd ty parts ho (some d) hd D hf ?_
  exact wpList_set_row hgd2 ty x (.tmp d) ho2 hd2 g D hx hy t z hg hi hz h1 h
end Go.Proofs.YtnccbhndlnkboaaDoor
/- The walk of digest.Tagged. -/
namespace Go.Proofs.YtnccbhndlnkboaaDoor
open Go.RowKit Sha Cdc
set_option linter.unusedVariables false
set_option linter.unusedSimpArgs false

/-- the cells of a digest -/
def dg (bs : List UInt8) : Array Value := (bs.map by1).toArray
theorem dg_size (bs : List UInt8) : (dg bs).size = bs.length := by simp [dg]
theorem dg_one (bs : List UInt8) : (dg bs).all (·.oneCell') = true := one_by1 bs
theorem dg_at {w : World} {g : Nat} {bs : List UInt8} {ty : TypeId} (h : w.heap[g]? = some (.cells (dg bs) ty (0, 0))) : AtO w (some ⟨g, 0, none⟩) bs := fun j x hj => ⟨g, 0, rfl, by rw [Nat.zero_add]; exact rowAt h hj⟩
/-- a digest's type has 32 cells -/
theorem dg_info (bs : List UInt8) (h : bs.length = 32) : (Tryd.prog.info? 23).map (·.size) = some (dg bs).size := by rw [dg_size, h]; kernel_rfl

theorem sum_dg (bs : List UInt8) (n : Nat) (hn : bs.length = n) (hbs : n < 1152921504606846976) (A : Option Addr) (c : Nat) (hc : n ≤ c) (hcm : c ≤ 9223372036854775807) (w : World) (h : AtO w A bs) (hL : Laid w) :
    Calls Tryd.prog 74 #[.slice A n c] w fun e w' => e = .returned (.agg (dg (sha bs))) ∧ Below w.heap.size w w' := by
  subst hn
  exact sum_any bs hbs A c hc hcm w h hL

theorem bytesW_at (W : World) (s : ByteArray) (k : Nat) (hk : k = W.heap.size) : AtO (Lib.bytesWorld W 5 s) (some ⟨k, 0, none⟩) s.data.toList := fun j x hj => by
  subst hk
  have hl := (List.getElem?_eq_some_iff.1 hj).1
  rw [Array.length_toList] at hl
  refine ⟨_, 0, rfl, ?_⟩
  rw [Nat.zero_add]
  refine (Lib.bytesWorld_cell W 5 s j hl).trans ?_
  rw [List.getD_eq_getElem?_getD, hj]
  rfl
theorem bytesW_below {B : Nat} {W0 W : World} (s : ByteArray) (h : Below B W0 W) (hB : B ≤ W.heap.size) : Below B W0 (Lib.bytesWorld W 5 s) := by
  have h2 : W.grownBy (Lib.bytesWorld W 5 s) none := ⟨rfl, rfl, rfl, by rw [Lib.bytesWorld_size]; omega, fun i hi _ => Lib.bytesWorld_at_old W _ s i hi⟩
  exact h.grown h2 hB (fun g e => by cases e)

theorem Own.cap {w : World} {A : Option Addr} {n c : Nat} {xs : List UInt8} (h : Own w (.slice A n c) xs) : xs.length ≤ c ∧ c ≤ 9223372036854775807 := by
  rcases h.2 with ⟨hv, h0⟩ | ⟨g, cap, cur, hv, _, hh, h1, h2, _⟩
  · injection hv with _ _ hv
    subst hv
    omega
  · injection hv with _ _ hv
    subst hv
    simp only [maxLen] at h2
    omega
/-- the hash of bytes under a tag -/
def tgd (tag bs : List UInt8) : List UInt8 := sha (sha tag ++ bs)
theorem tgd_len (tag bs : List UInt8) : (tgd tag bs).length = 32 := sha_len _

set_option maxRecDepth 100000 in
set_option maxHeartbeats 1000000 in
theorem tagged_any (tag : ByteArray) (ht : tag.size ≤ 1000000000) (bs : List UInt8) (n : Nat) (hn : bs.length = n) (hb : n ≤ 100000000000) (A : Option Addr) (c : Nat) (hc : n ≤ c) (hcm : c ≤ 9223372036854775807) (w : World) (h : AtO w A bs) (hL : Laid w) :
    Calls Tryd.prog 63 #[.string tag, .slice A n c] w fun e w' => e = .returned (.agg (dg (tgd tag.data.toList bs))) ∧ Below w.heap.size w w' := by
  have hconv := fun W => Lib.run_convert_string_bytes (P := Tryd.prog) W 9 48 5 tag Tryd.underlying9 Tryd.underlying48 Tryd.underlying5
  have hlen : Hid (tag.data.toList.length = tag.size) := Lib.hid (Array.length_toList ..)
  replace hn := Lib.hid hn
  replace h := Lib.hid h
  replace hL := Lib.hid hL
  have key : Hid (∀ (W0 : World) (k : Nat), k = W0.heap.size → Below w.heap.size w W0 → Calls Tryd.prog 74 #[.slice (some ⟨k, 0, none⟩) tag.size (grownCap W0 tag.size 0 5)] (Lib.bytesWorld W0 5 tag)
      fun e w' => e = .returned (.agg (dg (sha tag.data.toList))) ∧ Below w.heap.size w w' ∧ ∀ j, j < W0.heap.size → w'.heap[j]? = W0.heap[j]?) := Lib.hid (by
    intro W0 k hk hB0
    have hB1 := bytesW_below tag hB0 hB0.size
    have hsz := Lib.bytesWorld_size W0 5 tag
    refine (sum_dg tag.data.toList tag.size hlen.out (by omega) (some ⟨k, 0, none⟩) _ (grownCap_ge _ _ _ _) ?_ _ (bytesW_at W0 tag k hk) (hL.out.below hB1)).mono ?_
    · have := grownCap_le_maxLen W0 tag.size 0 5 (by simp only [maxLen]; omega)
      simpa only [maxLen] using this
    · rintro e w' ⟨rfl, hb⟩
      exact ⟨rfl, hB1.trans (hb.mono hB1.size), fun j hj => (hb.block j (by omega)).trans (Lib.bytesWorld_at_old W0 _ tag j hj)⟩)
  have hz0 : Hid (∀ w : World, (w.alloc (.cells ((List.replicate 32 (0 : UInt8)).map by1).toArray 23)).heap[w.heap.size]? = some (.cells ((List.replicate 32 (0 : UInt8)).map by1).toArray 23 (0, 0))) := Lib.hid fun w => heap_alloc_new w _
  go_enter Tryd.func63, Tryd.ntmps63
  go_wp2_with fail
  refine (key.out _ _ (by simp) ((Below.refl _ _).alloc (Nat.le_refl _) _)).mono ?_
  rintro e w2 ⟨rfl, hB2, hk2⟩
  have hd2 := (hk2 w.heap.size (by simp)).trans (hz0.out w)
  clear hk2 hconv key hz0
  replace hd2 := Lib.hid hd2
  have hi2 := Lib.hid (dg_info _ (sha_len tag.data.toList))
  have ho2 := Lib.hid (dg_one (sha tag.data.toList))
  have hs2 := Lib.hid (dg_size (sha tag.data.toList))
  generalize hD : sha tag.data.toList = t at *
  replace hD := Lib.hid hD
  have hr3 : Hid (32 = (dg t).size) := Lib.hid (by rw [hs2.out, ← hD.out, sha_len])
  go_wp2_with (refine wpList_new_row (by rfl) 23 (.tmp 5) (.tmp 8) (by rfl) (by rfl) (dg t) (by rfl) (by rfl) 23 _ hi2 hr3 ho2 ?_; intro w3 hd3 hz3 hB3; replace hd3 := Lib.hid hd3; replace hz3 := Lib.hid hz3)
  have hBB : Below w.heap.size w w3 := hB2.trans (hB3.mono hB2.size)
  have hsl : Hid (SL (w3.alloc (.cells #[.slice (some ⟨w2.heap.size, 0, none⟩) 32 32, .slice A n c] 48)) w3.heap.size 0 [t, bs]) := Lib.hid (by
    have htl : t.length = 32 := by rw [← hs2.out, ← hr3.out]
    intro i xs hi
    have hlt := (List.getElem?_eq_some_iff.1 hi).1
    have hbl : Below w3.heap.size w3 (w3.alloc (.cells #[.slice (some ⟨w2.heap.size, 0, none⟩) 32 32, .slice A n c] 48)) := (Below.refl _ _).alloc (Nat.le_refl _) _
    have hce := fun j => cell_of_row _ w3.heap.size j _ _ _ (heap_alloc_new w3 (.cells #[.slice (some ⟨w2.heap.size, 0, none⟩) 32 32, .slice A n c] 48))
    match i, hi with
    | 0, hi =>
      obtain rfl : t = xs := by simpa using hi
      exact ⟨some ⟨w2.heap.size, 0, none⟩, 32, by rw [htl]; exact hce 0, (dg_at hd3.out).below hbl⟩
    | 1, hi =>
      obtain rfl : bs = xs := by simpa using hi
      exact ⟨A, c, by rw [hn.out]; exact hce 1, (h.out.below hBB).below hbl⟩
    | i + 2, hi => exact absurd hlt (by simp))
  have hfl : Hid ([t, bs].flatten = t ++ bs) := Lib.hid (by simp)
  have htot : [t, bs].flatten.length ≤ 1000000000000 := by rw [hfl.out, List.length_append, hn.out, ← hs2.out, ← hr3.out]; omega
  refine (concat_any [t, bs] htot _ 0 2 2 rfl (by omega) _ hsl.out).mono ?_
  rintro e w4 ⟨v4, rfl, ho4, hB4⟩
  rw [hfl.out] at ho4
  obtain ⟨A4, c4, rfl⟩ := ho4.form
  clear htot hsl
  have ha4 := Lib.hid ho4.atO
  have hB40 : Below w.heap.size w w4 := hBB.trans ((((Below.refl _ _).alloc hBB.size _).trans (hB4.mono (by simp; have := hBB.size; omega))))
  have hd4 := (hB4.block w.heap.size (by simp; have := hBB.size; omega)).trans ((Below.heap_alloc w3 _ w.heap.size (by have := hB3.size; have := hB2.size; have := (Array.getElem?_eq_some_iff.1 hd2.out).1; omega)).trans ((hB3.block w.heap.size (Array.getElem?_eq_some_iff.1 hd2.out).1).trans hd2.out))
  have hc4 := ho4.cap
  replace hd4 := Lib.hid hd4
  have hlen4 : Hid ((t ++ bs).length = 32 + n) := Lib.hid (by rw [List.length_append, hn.out, ← hs2.out, ← hr3.out])
  rw [hlen4.out] at hc4 ⊢
  clear ho4 hB4 hd2 hd3 hz3 hB2 hB3 hBB
  go_wp2_with fail
  refine (sum_dg (t ++ bs) (32 + n) hlen4.out (by omega) A4 c4 hc4.1 hc4.2 w4 ha4.out (hL.out.below hB40)).mono ?_
  rintro e w5 ⟨rfl, hB5⟩
  have hi5 := Lib.hid (dg_info _ (sha_len (t ++ bs)))
  have ho5 := Lib.hid (dg_one (sha (t ++ bs)))
  have hd5 := (hB5.block w.heap.size ((Array.getElem?_eq_some_iff.1 hd4.out).1)).trans hd4.out
  have hB50 := hB40.trans (hB5.mono hB40.size)
  obtain rfl := hD.out
  have hD9 : Hid (sha (sha tag.data.toList ++ bs) = tgd tag.data.toList bs) := Lib.hid rfl
  rw [hD9.out] at hi5 ho5 ⊢
  have hr5 : Hid (32 = (dg (tgd tag.data.toList bs)).size) := Lib.hid (by rw [dg_size, tgd_len])
  generalize ht9 : tgd tag.data.toList bs = t9 at hi5 ho5 hr5 ⊢
  replace ht9 := Lib.hid ht9
  replace hd5 := Lib.hid hd5
  go_wp2_with (refine wpList_set_row (by rfl) 23 (.tmp 4) (.tmp 13) (by rfl) (by rfl) w.heap.size (dg t9) (by rfl) (by rfl) 23 _ hd5.out hi5.out hr5.out ho5.out ?_; intro w6 hd6 hz6 hg6; replace hd6 := Lib.hid hd6)
  refine bodyPost_ret (v := .agg (dg t9)) (results_cell_row rfl _ _ w.heap.size 23 (dg t9) (0, 0) _ rfl hd6.out Tryd.underlying23 (by rfl) hi5.out) rfl ⟨by rw [ht9.out], hB50.grown hg6 hB50.size (fun k e => by have := Option.some.inj e; omega)⟩
end Go.Proofs.YtnccbhndlnkboaaDoor
