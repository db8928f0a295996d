/- The walks of codec.formed and codec.Check. -/
import Derived.Test.YthokpfegfnpmhaaDoorVal
namespace Go.Proofs.YthokpfegfnpmhaaDoor
open Go.RowKit Cdc
set_option linter.unusedVariables false
set_option linter.unusedSimpArgs false

theorem fmL_snoc (l : List V) (x : V) : fmL (l ++ [x]) = match fmL l, fm x with
    | some a, some b => some (max a b)
    | _, _ => none := by
  induction l with
  | nil => simp only [List.nil_append, fmL]; cases fm x <;> simp
  | cons y l ih =>
    simp only [List.cons_append, fmL, ih]
    cases fm y with
    | none => rfl
    | some c => cases fmL l <;> cases fm x <;> simp [Nat.max_assoc]

theorem fmL_take_none {l : List V} {i : Nat} {x : V} (hx : l[i]? = some x) (h : fm x = none) : fmL l = none := by
  induction l generalizing i with
  | nil => simp at hx
  | cons y l ih =>
    cases i with
    | zero => simp at hx; subst hx; simp only [fmL, h]
    | succ i =>
      simp at hx
      simp only [fmL]
      cases fm y with
      | none => rfl
      | some c => simp [ih hx]

theorem take_snoc_some {α : Type} {l : List α} {i : Nat} {x : α} (h : l[i]? = some x) : l.take (i + 1) = l.take i ++ [x] := by
  rw [List.take_add_one, h]; rfl

/-- what formed answers -/
def fmD (x : V) : Int := ((fm x).getD 0 : Nat)
def fmOk (x : V) : Bool := (fm x).isSome

/-- what a walk wants of a list of values: at every later world each element's cells, and a contract P for it -/
def Els (w : World) (A : Option Addr) (l : List V) (P : V → Value → World → Prop) : Prop :=
  ∀ i y, l[i]? = some y → ∃ b o A' c', A = some ⟨b, o, none⟩ ∧ ∀ W, Below w.heap.size w W → b < W.heap.size ∧
      W.cell? ⟨b, o + i * 4, none⟩ = some (.int .i64 y.k) ∧ W.cell? ⟨b, o + i * 4 + 1, none⟩ = some (.int .i64 y.n) ∧ W.cell? ⟨b, o + i * 4 + 2, none⟩ = some (.string y.s) ∧
      W.cell? ⟨b, o + i * 4 + 3, none⟩ = some (.slice A' y.l.length c') ∧ P y (.slice A' y.l.length c') W

theorem Els.of_RS {w : World} {d : Nat} {l : List V} {A : Option Addr} {c : Nat} {P : V → Value → World → Prop} (h : RS w (d + 1) l (.slice A l.length c))
    (hP : ∀ y ∈ l, ∀ v' W, RS W d y.l v' → P y v' W) : Els w A l P := by
  obtain ⟨A', c', hv, hc, hi⟩ := h
  injection hv with e1 _ _
  subst e1
  intro i y hy
  obtain ⟨b, o, v', hA, hb, h0, h1, h2, h3, hr⟩ := hi i y hy
  obtain ⟨A', c', rfl⟩ := hr.form
  exact ⟨b, o, A', c', hA, fun W hW => ⟨Nat.lt_of_lt_of_le hb hW.size, (hW.cell (p := ⟨b, _, none⟩) hb).trans h0, (hW.cell (p := ⟨b, _, none⟩) hb).trans h1, (hW.cell (p := ⟨b, _, none⟩) hb).trans h2,
    (hW.cell (p := ⟨b, _, none⟩) hb).trans h3, hP y (List.mem_of_getElem? hy) _ W (hr.below hW)⟩⟩

theorem Els.nil (w : World) (A : Option Addr) (P : V → Value → World → Prop) : Els w A [] P := fun i y h => by simp at h

def FormedPost (x : V) (w : World) (e : Ending) (w' : World) : Prop := e = .returned (.tuple #[.int .i64 (fmD x), .bool (fmOk x)]) ∧ Below w.heap.size w w'

theorem fm_atom {k n : Int} {s : ByteArray} {l : List V} (h : ¬ k = 3) : fmD ⟨k, n, s, l⟩ = 0 ∧
    fmOk ⟨k, n, s, l⟩ = ((k == 1 && (s.size == 0 && l.length == 0)) || (k == 2 && ((n == 0) && l.length == 0))) := by
  unfold fmD fmOk
  simp only [fm]
  by_cases h1 : k = 1
  · subst h1
    by_cases h2 : s.size = 0 <;> by_cases h3 : l = [] <;> simp [h2, h3]
  · by_cases h2 : k = 2
    · subst h2
      by_cases h3 : n = 0 <;> by_cases h4 : l = [] <;> simp [h3, h4]
    · simp [h1, h2, h]

theorem fm_list (l : List V) : fm ⟨3, 0, ByteArray.empty, l⟩ = (fmL l).map (· + 1) := by
  rw [fm, if_neg (by decide), if_neg (by decide), if_pos rfl, if_pos ⟨rfl, rfl⟩]

set_option maxRecDepth 100000 in
set_option maxHeartbeats 1000000 in
theorem formed_list (l : List V) (A : Option Addr) (c : Nat) (w : World) (hl : l.length ≤ 1000000000000) (hd : dpL l ≤ 1000000000000)
    (hel : Els w A l fun y v' W => Calls Tryd.prog 103 #[vv y v'] W (FormedPost y W)) :
    Calls Tryd.prog 103 #[vv ⟨3, 0, ByteArray.empty, l⟩ (.slice A l.length c)] w (FormedPost ⟨3, 0, ByteArray.empty, l⟩ w) := by
  unfold vv
  dsimp only
  go_enter Tryd.func103, Tryd.ntmps103
  go_wp2
  obtain ⟨W0, hW0⟩ : ∃ W0, (w.alloc (Obj.cells #[Value.int IntKind.i64 3, Value.int IntKind.i64 0, Value.string ByteArray.empty, Value.slice A l.length c] 80)).alloc
      (Obj.cells #[Value.bool false, Value.bool ((l.length : Int) == 0), Value.bool ((l.length : Int) == 0), Value.bool true] 150) = W0 := ⟨_, rfl⟩
  have hB0 : Below w.heap.size w W0 := by rw [← hW0]; exact ((Below.refl _ w).alloc (Nat.le_refl _) _).alloc (by simp) _
  rw [hW0]
  clear hW0
  go_loopw [2, 57] (fun s2 s57 wr => ∃ (i a : Nat), i ≤ l.length ∧ Hid (fmL (l.take i) = some a) ∧ s2 = .int .i64 a ∧ s57 = .int .i64 i ∧ a ≤ 1000000000000 ∧ Below w.heap.size w wr) (fun _ s57 _ => l.length - (intOf s57).toNat)
  case atStart => exact ⟨0, 0, Nat.zero_le _, rfl, rfl, rfl, by omega, hB0⟩
  case round =>
    obtain ⟨i, a, hi, hfm, rfl, rfl, ha, hB⟩ := hrel
    by_cases hlt : i < l.length
    · obtain ⟨y, hy⟩ : ∃ y, l[i]? = some y := ⟨_, List.getElem?_eq_getElem hlt⟩
      obtain ⟨b, o, A', c', rfl, hat⟩ := hel i y hy
      obtain ⟨hb, h0, h1, h2, h3, _⟩ := hat wr hB
      have hB2 := hB.alloc hB.size (Obj.cells #[Value.int IntKind.i64 y.k, Value.int IntKind.i64 y.n, Value.string y.s, Value.slice A' y.l.length c'] 80)
      have hP := Lib.hid (hat _ hB2).2.2.2.2.2
      have hfs := fmL_snoc (l.take i) y
      rw [← take_snoc_some hy, hfm.out] at hfs
      have hdy := dp_mem (List.mem_of_getElem? hy)
      cases hy2 : fm y with
      | none =>
        have hno : Hid (fmL l = none) := fmL_take_none hy hy2
        have hP2 : Hid (Calls Tryd.prog 103 #[.agg #[.int .i64 y.k, .int .i64 y.n, .string y.s, Value.slice A' y.l.length c']] (wr.alloc (Obj.cells #[Value.int IntKind.i64 y.k, Value.int IntKind.i64 y.n, Value.string y.s, Value.slice A' y.l.length c'] 80)) fun e w' => e = .returned (.tuple #[.int .i64 0, .bool false]) ∧ Below (wr.heap.size + 1) (wr.alloc (Obj.cells #[Value.int IntKind.i64 y.k, Value.int IntKind.i64 y.n, Value.string y.s, Value.slice A' y.l.length c'] 80)) w') := by
          refine hP.out.mono fun e w' hh => ?_
          obtain ⟨he, hb'⟩ := hh
          unfold fmD fmOk at he
          rw [hy2] at he
          exact ⟨he, by simpa using hb'⟩
        clear hP hy2 hat hel hfs
        go_wp2_with fail
        refine hP2.out.mono ?_
        rintro e w' ⟨rfl, hb'⟩
        go_wp2_with fail
        go_ret2
        refine ⟨?_, hB2.trans (hb'.mono (by have := hB.size; omega))⟩
        unfold fmD fmOk
        rw [fm_list, hno.out]
        rfl
      | some a' =>
        have ha' := fm_le_dp y a' hy2
        have HF : Hid (fmL (l.take (i + 1)) = some (max a a')) := by rw [hfs, hy2]; rfl
        have hP2 : Hid (Calls Tryd.prog 103 #[.agg #[.int .i64 y.k, .int .i64 y.n, .string y.s, Value.slice A' y.l.length c']] (wr.alloc (Obj.cells #[Value.int IntKind.i64 y.k, Value.int IntKind.i64 y.n, Value.string y.s, Value.slice A' y.l.length c'] 80)) fun e w' => e = .returned (.tuple #[.int .i64 a', .bool true]) ∧ Below (wr.heap.size + 1) (wr.alloc (Obj.cells #[Value.int IntKind.i64 y.k, Value.int IntKind.i64 y.n, Value.string y.s, Value.slice A' y.l.length c'] 80)) w') := by
          refine hP.out.mono fun e w' hh => ?_
          obtain ⟨he, hb'⟩ := hh
          unfold fmD fmOk at he
          rw [hy2] at he
          exact ⟨he, by simpa using hb'⟩
        clear hP hy2 hat hel hfs
        go_wp2_with fail
        refine hP2.out.mono ?_
        rintro e w' ⟨rfl, hb'⟩
        go_wp2_with fail
        go_roundw
        case rel => exact ⟨i + 1, max a a', by omega, HF, by first | rfl | (congr 1; omega), by go_num, by omega, hB2.trans (hb'.mono (by have := hB.size; omega))⟩
        case measure => simp [intOf]; omega
    · obtain rfl : i = l.length := by omega
      clear hel
      have HF : Hid (fmL l = some a) := by have := hfm.out; rw [List.take_length] at this; exact this
      go_wp2
      go_ret2
      refine ⟨?_, hB⟩
      unfold fmD fmOk
      rw [fm_list, HF.out]
      rfl
end Go.Proofs.YthokpfegfnpmhaaDoor
