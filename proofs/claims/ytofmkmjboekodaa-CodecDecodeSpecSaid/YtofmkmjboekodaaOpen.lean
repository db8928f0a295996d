/- The arguments of the codec's laws, opened: a value, a list of values, bytes. -/
import Derived.Test.YtofmkmjboekodaaMake
import Derived.OpenShut
import Derived.ChangeArms
import Derived.ChangeOld
import Derived.WideKeyArgs
import Derived.WideShapes
namespace Go.Proofs.Ytofmkmjboekodaa
open Go.RowKit Go.WideShapes Cdc
set_option linter.unusedVariables false
set_option linter.unusedSimpArgs false

theorem cell_spot {w : World} {a : Addr} {v : Value} (h : w.cell? a = some v) : a = ⟨a.block, a.off, none⟩ := by
  obtain ⟨b, o, s⟩ := a
  cases s with
  | none => rfl
  | some s =>
    exfalso
    simp only [World.cell?] at h
    split at h
    · simp at h
    · cases h

theorem add_form (a : Addr) (n : Nat) (h : a = ⟨a.block, a.off, none⟩) : a.add n = ⟨a.block, a.off + n, none⟩ := by
  unfold Addr.add
  split
  · rename_i h0
    subst h0
    exact h
  · rfl

theorem list_of {α : Type} {Q : Nat → α → Prop} : ∀ (n : Nat), (∀ i, i < n → ∃ y, Q i y) → ∃ l : List α, l.length = n ∧ ∀ i y, l[i]? = some y → Q i y
  | 0, _ => ⟨[], rfl, fun i y h => by simp at h⟩
  | n + 1, h => by
    obtain ⟨l, hl, hq⟩ := list_of n fun i hi => h i (by omega)
    obtain ⟨y, hy⟩ := h n (by omega)
    refine ⟨l ++ [y], by simp [hl], fun i z hz => ?_⟩
    by_cases hi : i < n
    · rw [List.getElem?_append_left (by omega)] at hz
      exact hq i z hz
    · have hi2 : i = n := by
        have := (List.getElem?_eq_some_iff.1 hz).1
        simp at this
        omega
      subst hi2
      rw [List.getElem?_append_right (by omega), hl] at hz
      simp at hz
      subst hz
      exact hy

theorem IbL_of {l : List V} (h : ∀ y ∈ l, Ib y) : IbL l := by
  induction l with
  | nil => trivial
  | cons y l ih => exact ⟨h y (by simp), ih fun z hz => h z (by simp [hz])⟩
theorem LgL_of {l : List V} (h : ∀ y ∈ l, Lg y) : LgL l := by
  induction l with
  | nil => trivial
  | cons y l ih => exact ⟨h y (by simp), ih fun z hz => h z (by simp [hz])⟩

theorem vcells : Try.prog.cellsOf 24 = 4 := by kernel_rfl
theorem icells : Try.prog.cellsOf 3 = 1 := by kernel_rfl
theorem scells : Try.prog.cellsOf 9 = 1 := by kernel_rfl
theorem lcells : Try.prog.cellsOf 22 = 1 := by kernel_rfl

variable {H : Type} {enc : TypeId × Value → H} {w : World} {sp : Nat → Bool} {hd : Bool}

/-- what a reading of a value's cells says -/
def OpenV (w : World) (D : Nat) (cs : List Value) : Prop :=
  ∃ (y : V) (A : Option Addr) (c : Nat), cs = [.int .i64 y.k, .int .i64 y.n, .string y.s, .slice A y.l.length c] ∧ RS w D y.l (.slice A y.l.length c) ∧ Ib y ∧ Lg y
/-- what a reading of a slice of values says -/
def OpenL (w : World) (D : Nat) (cs : List Value) : Prop :=
  ∃ (l : List V) (A : Option Addr) (c : Nat), cs = [.slice A l.length c] ∧ l.length ≤ maxLen ∧ RS w D l (.slice A l.length c) ∧ IbL l ∧ LgL l

theorem openL_of (D : Nat) (hV : ∀ cs x, DataW.trod enc Try.prog w 0 sp hd D 24 cs = some x → OpenV w D cs) (cs : List Value) (x : DataW H × List MemPlace)
    (h : DataW.trod enc Try.prog w 0 sp hd (D + 1) 22 cs = some x) : OpenL w (D + 1) cs := by
  rcases DataW.trod_slice Try.underlying22 h with ⟨rfl, _⟩ | ⟨a, len, cap, elems, rest, n, hn, rfl, _, _, hlc, hcm, hel, hat, _, _⟩
  · exact ⟨[], none, 0, rfl, by simp [maxLen], RS.nil _ _ _ _, trivial, trivial⟩
  · have hn' : n = D := by omega
    subst hn'
    rw [vcells] at hat
    have each : ∀ i, i < len → ∃ y : V, ∃ (A' : Option Addr) (c' : Nat), w.cells? 0 (a.add (i * 4)) 4 = some [.int .i64 y.k, .int .i64 y.n, .string y.s, .slice A' y.l.length c'] ∧ RS w n y.l (.slice A' y.l.length c') ∧ Ib y ∧ Lg y := by
      intro i hi
      have h1 := hat i hi
      rw [List.getElem?_eq_getElem (by omega), Option.bind_eq_some_iff] at h1
      obtain ⟨cs', hc, ht⟩ := h1
      obtain ⟨y, A', c', rfl, h2, h3, h4⟩ := hV cs' _ ht
      exact ⟨y, A', c', hc, h2, h3, h4⟩
    obtain ⟨l, hl, hq⟩ := list_of len each
    subst hl
    refine ⟨l, some a, cap, rfl, Nat.le_trans hlc hcm, ⟨some a, cap, rfl, hlc, fun i y hy => ?_⟩, IbL_of fun y hy => ?_, LgL_of fun y hy => ?_⟩
    · obtain ⟨A', c', h1, h2, _, _⟩ := hq i y hy
      obtain ⟨_, _, h3⟩ := World.cells?_some h1
      have hlt : i < l.length := (List.getElem?_eq_some_iff.1 hy).1
      have ha : a = ⟨a.block, a.off, none⟩ := by
        obtain ⟨y0, hy0⟩ : ∃ y0, l[0]? = some y0 := ⟨_, List.getElem?_eq_getElem (by omega)⟩
        obtain ⟨A0, c0, g1, _⟩ := hq 0 y0 hy0
        obtain ⟨_, _, g3⟩ := World.cells?_some g1
        have := g3 0 (by omega)
        simp [Addr.add] at this
        exact cell_spot this
      have hf : ∀ j, (a.add (i * 4)).add j = ⟨a.block, a.off + i * 4 + j, none⟩ := by
        intro j
        rw [add_form a _ ha, add_form _ _ rfl]
      have k0 := h3 0 (by omega)
      have k1 := h3 1 (by omega)
      have k2 := h3 2 (by omega)
      have k3 := h3 3 (by omega)
      rw [hf] at k0 k1 k2 k3
      refine ⟨a.block, a.off, .slice A' y.l.length c', by rw [← ha], World.block_lt_of_cell? w ⟨a.block, a.off + i * 4 + 0, none⟩ k0, k0, k1, k2, k3, h2⟩
    · obtain ⟨i, hi⟩ := List.mem_iff_getElem?.1 hy
      obtain ⟨_, _, _, _, h3, _⟩ := hq i y hi
      exact h3
    · obtain ⟨i, hi⟩ := List.mem_iff_getElem?.1 hy
      obtain ⟨_, _, _, _, _, h3⟩ := hq i y hi
      exact h3

theorem openV_any : ∀ (D : Nat) (cs : List Value) (x : DataW H × List MemPlace), DataW.trod enc Try.prog w 0 sp hd D 24 cs = some x → OpenV w D cs := by
  intro D
  induction D using Nat.strongRecOn with
  | _ D ih =>
    intro cs x h
    obtain ⟨xs, n, hn, rfl, hl, hlen, hf⟩ := DataW.trod_struct Try.underlying24 h
    rw [vcells] at hl
    obtain ⟨c0, c1, c2, c3, rfl⟩ : ∃ c0 c1 c2 c3, cs = [c0, c1, c2, c3] := by
      match cs, hl with
      | [c0, c1, c2, c3], _ => exact ⟨c0, c1, c2, c3, rfl⟩
    obtain ⟨y0, y1, y2, y3, rfl⟩ : ∃ c0 c1 c2 c3, xs = [c0, c1, c2, c3] := by
      match xs, hlen with
      | [c0, c1, c2, c3], _ => exact ⟨c0, c1, c2, c3, rfl⟩
    have f0 : DataW.trod enc Try.prog w 0 sp hd n 3 (([c0, c1, c2, c3].drop 0).take (Try.prog.cellsOf 3)) = some y0 := hf 0 _ rfl
    have f1 : DataW.trod enc Try.prog w 0 sp hd n 3 (([c0, c1, c2, c3].drop 1).take (Try.prog.cellsOf 3)) = some y1 := hf 1 _ rfl
    have f2 : DataW.trod enc Try.prog w 0 sp hd n 9 (([c0, c1, c2, c3].drop 2).take (Try.prog.cellsOf 9)) = some y2 := hf 2 _ rfl
    have f3 : DataW.trod enc Try.prog w 0 sp hd n 22 (([c0, c1, c2, c3].drop 3).take (Try.prog.cellsOf 22)) = some y3 := hf 3 _ rfl
    rw [icells] at f0 f1
    rw [scells] at f2
    rw [lcells] at f3
    obtain ⟨k, hk, _, _⟩ := DataW.trod_int Try.underlying3 f0
    obtain ⟨m, hm, _, hmw⟩ := DataW.trod_int Try.underlying3 f1
    obtain ⟨s, hs, _, hsl⟩ := DataW.trod_string Try.underlying9 f2
    replace hk : [c0] = [Value.int .i64 k] := hk
    replace hm : [c1] = [Value.int .i64 m] := hm
    replace hs : [c2] = [Value.string s] := hs
    injection hk with hk _
    injection hm with hm _
    injection hs with hs _
    subst hk hm hs
    replace f3 : DataW.trod enc Try.prog w 0 sp hd n 22 [c3] = some y3 := f3
    cases n with
    | zero => simp [DataW.trod] at f3
    | succ n =>
      obtain ⟨l, A, c, hc, hll, hr, hib, hlg⟩ := openL_of n (fun cs x hx => ih n (by omega) cs x hx) _ _ f3
      simp at hc
      subst hc
      refine ⟨⟨k, m, s, l⟩, A, c, rfl, hr.more (by omega), ?_, ?_⟩
      · simp only [Ib]; exact ⟨bounds_i64 hmw, hib⟩
      · simp only [Lg]; exact ⟨by unfold maxLen at hsl; omega, by unfold maxLen at hll; omega, hlg⟩

theorem open_value {r : Reach} {b0 : Nat} {v : Value} {d : DataW H} {p : List MemPlace} (hv : Value.okWide Try.prog w r b0 24 v) (h : DataW.Trod enc Try.prog w 0 sp hd 24 v d p) :
    ∃ (x : V) (A : Option Addr) (c D : Nat), v = vv x (.slice A x.l.length c) ∧ RS w D x.l (.slice A x.l.length c) ∧ Ib x ∧ Lg x := by
  obtain ⟨cs, rfl, _⟩ := okWide_struct Try.underlying24 hv
  obtain ⟨n, hn⟩ := h
  obtain ⟨x, A, c, he, h1, h2, h3⟩ := openV_any n _ _ hn
  refine ⟨x, A, c, n, ?_, h1, h2, h3⟩
  have he2 : cs.toList = [.int .i64 x.k, .int .i64 x.n, .string x.s, .slice A x.l.length c] := he
  have : cs = #[.int .i64 x.k, .int .i64 x.n, .string x.s, .slice A x.l.length c] := by
    rw [← Array.toArray_toList (xs := cs), he2]
  rw [this]

theorem open_values {r : Reach} {b0 : Nat} {v : Value} {d : DataW H} {p : List MemPlace} (hv : Value.okWide Try.prog w r b0 22 v) (h : DataW.Trod enc Try.prog w 0 sp hd 22 v d p) :
    ∃ (l : List V) (A : Option Addr) (c D : Nat), v = .slice A l.length c ∧ l.length ≤ maxLen ∧ RS w D l (.slice A l.length c) ∧ IbL l ∧ LgL l := by
  obtain ⟨a, m, cap, rfl⟩ := okWide_slice Try.underlying22 hv
  obtain ⟨n, hn⟩ := h
  cases n with
  | zero => simp [DataW.trod] at hn
  | succ n =>
    obtain ⟨l, A, c, he, h1, h2, h3, h4⟩ := openL_of n (fun cs x hx => openV_any n cs x hx) _ _ hn
    have he2 : [Value.slice a m cap] = [.slice A l.length c] := he
    simp at he2
    obtain ⟨rfl, rfl, rfl⟩ := he2
    exact ⟨l, a, cap, n + 1, rfl, h1, h2, h3, h4⟩

/-- bytes that lie in old memory -/
theorem open_bytes {r : Reach} {b0 : Nat} {v : Value} {d : DataW H} {p : List MemPlace} (hv : Value.okWide Try.prog w r b0 27 v) (h : DataW.Trod enc Try.prog w 0 sp hd 27 v d p) :
    ∃ (xs : List UInt8) (A : Option Addr) (c : Nat), v = .slice A xs.length c ∧ xs.length ≤ c ∧ xs.length ≤ maxLen ∧ ∀ q, w.heap.size ≤ q → RB w w.heap.size q A xs := by
  obtain ⟨a, m, cap, rfl⟩ := okWide_slice Try.underlying27 hv
  obtain ⟨n, hn⟩ := h
  have c1 : Try.prog.cellsOf 5 = 1 := by kernel_rfl
  rcases DataW.trod_slice Try.underlying27 hn with ⟨he, _⟩ | ⟨a', len, cap', elems, rest, n, rfl, he, _, _, hlc, hcm, hel, hat, _, _⟩
  · have he2 : [Value.slice a m cap] = [.slice none 0 0] := he
    simp at he2
    obtain ⟨rfl, rfl, rfl⟩ := he2
    exact ⟨[], none, 0, rfl, Nat.le_refl _, by simp [maxLen], fun q _ j b hb => by simp at hb⟩
  · have he2 : [Value.slice a m cap] = [.slice (some a') len cap'] := he
    simp at he2
    obtain ⟨rfl, rfl, rfl⟩ := he2
    rw [c1] at hat
    have each : ∀ i, i < m → ∃ b : UInt8, w.cell? (a'.add i) = some (bv b) := by
      intro i hi
      have h1 := hat i hi
      rw [List.getElem?_eq_getElem (by omega), Option.bind_eq_some_iff] at h1
      obtain ⟨cs', hc, ht⟩ := h1
      obtain ⟨z, rfl, _, hw⟩ := DataW.trod_int Try.underlying5 ht
      obtain ⟨_, _, h3⟩ := World.cells?_some hc
      have k0 := h3 0 (by omega)
      have e : (a'.add (i * 1)).add 0 = a'.add i := by rw [Nat.mul_one]; simp [Addr.add]
      rw [e] at k0
      have hb := bounds_u8 hw
      refine ⟨UInt8.ofNat z.toNat, k0.trans ?_⟩
      simp [bv]
      omega
    obtain ⟨l, hl, hq⟩ := list_of m each
    subst hl
    refine ⟨l, some a', cap, rfl, hlc, Nat.le_trans hlc hcm, fun q hq2 j b hb => ?_⟩
    have hc := hq j b hb
    have hlt := World.block_lt_of_cell? w _ hc
    have hbk : (a'.add j).block = a'.block := by unfold Addr.add; split <;> rfl
    rw [hbk] at hlt
    exact ⟨a', rfl, hlt, by omega, hc⟩

/-- an argument reads behind the call as before -/
theorem back {t : TypeId} (hr : Try.prog.readableRec t = true) (hrow : decide (t < Try.prog.types.size) = true) {W W' : World} {v : Value} {d : DataW H} {ps : List MemPlace} (hl : laidOutB Try.prog = true)
    (h : DataW.Trod enc Try.prog W 0 (fun _ => true) true t v d ps) (hb : Below W.heap.size W W') : DataW.Trod enc Try.prog W' 0 (fun b => decide (b < W.heap.size)) true t v d ps := by
  have hlt : ∀ p ∈ ps, p.block < W.heap.size := by
    obtain ⟨n, hn⟩ := h
    exact DataW.trod_lt n _ _ _ hn
  exact Go.WideElems.Trod_stays hl hr (of_decide_eq_true hrow) h (fun p hp => hb.same (hlt p hp)) (fun p hp => by simpa using hlt p hp)
end Go.Proofs.Ytofmkmjboekodaa
