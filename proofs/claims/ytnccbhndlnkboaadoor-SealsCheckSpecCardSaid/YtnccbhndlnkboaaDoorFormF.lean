/- The walks of codec.formed and codec.Check. -/
import Derived.Test.YtnccbhndlnkboaaDoorBytesV
import Derived.Lib.Strings
namespace Go.Proofs.YtnccbhndlnkboaaDoor
open Go.RowKit Cdc
set_option linter.unusedVariables false
set_option linter.unusedSimpArgs false

theorem fmL_snoc (l : List V) (x : V) : fmL (l ++ [x]) = match fmL l, fm x with
    | some a, some b => some (max a b)
    | _, _ => none := by
  induction l with
  | nil => simp only [List.nil_append, fmL]; cases fm x <;> simp
  | cons y l ih =>
    simp only [List.cons_append, fmL, ih]
    cases fm y with
    | none => rfl
    | some c => cases fmL l <;> cases fm x <;> simp [Nat.max_assoc]

theorem fmL_take_none {l : List V} {i : Nat} {x : V} (hx : l[i]? = some x) (h : fm x = none) : fmL l = none := by
  induction l generalizing i with
  | nil => simp at hx
  | cons y l ih =>
    cases i with
    | zero => simp at hx; subst hx; simp only [fmL, h]
    | succ i =>
      simp at hx
      simp only [fmL]
      cases fm y with
      | none => rfl
      | some c => simp [ih hx]

theorem take_snoc_some {α : Type} {l : List α} {i : Nat} {x : α} (h : l[i]? = some x) : l.take (i + 1) = l.take i ++ [x] := by
  rw [List.take_add_one, h]; rfl

/-- what formed answers -/
def fmD (x : V) : Int := ((fm x).getD 0 : Nat)
def fmOk (x : V) : Bool := (fm x).isSome

/-- what a walk wants of a list of values: at every later world each element's cells, and a contract P for it -/
def Els (w : World) (A : Option Addr) (l : List V) (P : V → Value → World → Prop) : Prop :=
  ∀ i y, l[i]? = some y → ∃ b o A' c', A = some ⟨b, o, none⟩ ∧ ∀ W, Below w.heap.size w W → b < W.heap.size ∧
      W.cell? ⟨b, o + i * 4, none⟩ = some (.int .i64 y.k) ∧ W.cell? ⟨b, o + i * 4 + 1, none⟩ = some (.int .i64 y.n) ∧ W.cell? ⟨b, o + i * 4 + 2, none⟩ = some (.string y.s) ∧
      W.cell? ⟨b, o + i * 4 + 3, none⟩ = some (.slice A' y.l.length c') ∧ P y (.slice A' y.l.length c') W

theorem Els.of_RS {w : World} {d : Nat} {l : List V} {A : Option Addr} {c : Nat} {P : V → Value → World → Prop} (h : RS w (d + 1) l (.slice A l.length c))
    (hP : ∀ y ∈ l, ∀ v' W, RS W d y.l v' → P y v' W) : Els w A l P := by
  obtain ⟨A', c', hv, hc, hi⟩ := h
  injection hv with e1 _ _
  subst e1
  intro i y hy
  obtain ⟨b, o, v', hA, hb, h0, h1, h2, h3, hr⟩ := hi i y hy
  obtain ⟨A', c', rfl⟩ := hr.form
  exact ⟨b, o, A', c', hA, fun W hW => ⟨Nat.lt_of_lt_of_le hb hW.size, (hW.cell (p := ⟨b, _, none⟩) hb).trans h0, (hW.cell (p := ⟨b, _, none⟩) hb).trans h1, (hW.cell (p := ⟨b, _, none⟩) hb).trans h2,
    (hW.cell (p := ⟨b, _, none⟩) hb).trans h3, hP y (List.mem_of_getElem? hy) _ W (hr.below hW)⟩⟩

theorem Els.nil (w : World) (A : Option Addr) (P : V → Value → World → Prop) : Els w A [] P := fun i y h => by simp at h

def FormedPost (x : V) (w : World) (e : Ending) (w' : World) : Prop := e = .returned (.tuple #[.int .i64 (fmD x), .bool (fmOk x)]) ∧ Below w.heap.size w w'

theorem fm_atom {k n : Int} {s : ByteArray} {l : List V} (h : ¬ k = 3) : fmD ⟨k, n, s, l⟩ = 0 ∧
    fmOk ⟨k, n, s, l⟩ = ((k == 1 && (s.size == 0 && l.length == 0)) || (k == 2 && ((n == 0) && l.length == 0))) := by
  unfold fmD fmOk
  simp only [fm]
  by_cases h1 : k = 1
  · subst h1
    by_cases h2 : s.size = 0 <;> by_cases h3 : l = [] <;> simp [h2, h3]
  · by_cases h2 : k = 2
    · subst h2
      by_cases h3 : n = 0 <;> by_cases h4 : l = [] <;> simp [h3, h4]
    · simp [h1, h2, h]

theorem fm_list (l : List V) : fm ⟨3, 0, ByteArray.empty, l⟩ = (fmL l).map (· + 1) := by
  rw [fm, if_neg (by decide), if_neg (by decide), if_pos rfl, if_pos ⟨rfl, rfl⟩]

set_option maxRecDepth 100000 in
set_option maxHeartbeats 1000000 in
theorem formed_list (l : List V) (A : Option Addr) (c : Nat) (w : World) (hl : l.length ≤ 1000000000000) (hd : dpL l ≤ 1000000000000)
    (hel : Els w A l fun y v' W => Calls Tryd.prog 94 #[vv y v'] W (FormedPost y W)) :
    Calls Tryd.prog 94 #[vv ⟨3, 0, ByteArray.empty, l⟩ (.slice A l.length c)] w (FormedPost ⟨3, 0, ByteArray.empty, l⟩ w) := by
  unfold vv
  dsimp only
  go_enter Tryd.func94, Tryd.ntmps94
  go_wp2
  obtain ⟨W0, hW0⟩ : ∃ W0, (w.alloc (Obj.cells #[Value.int IntKind.i64 3, Value.int IntKind.i64 0, Value.string ByteArray.empty, Value.slice A l.length c] 96)).alloc
      (Obj.cells #[Value.bool false, Value.bool ((l.length : Int) == 0), Value.bool ((l.length : Int) == 0), Value.bool true] 161) = W0 := ⟨_, rfl⟩
  have hB0 : Below w.heap.size w W0 := by rw [← hW0]; exact ((Below.refl _ w).alloc (Nat.le_refl _) _).alloc (by simp) _
  rw [hW0]
  clear hW0
  go_loopw [2, 57] (fun s2 s57 wr => ∃ (i a : Nat), i ≤ l.length ∧ Hid (fmL (l.take i) = some a) ∧ s2 = .int .i64 a ∧ s57 = .int .i64 i ∧ a ≤ 1000000000000 ∧ Below w.heap.size w wr) (fun _ s57 _ => l.length - (intOf s57).toNat)
  case atStart => exact ⟨0, 0, Nat.zero_le _, rfl, rfl, rfl, by omega, hB0⟩
  case round =>
    obtain ⟨i, a, hi, hfm, rfl, rfl, ha, hB⟩ := hrel
    by_cases hlt : i < l.length
    · obtain ⟨y, hy⟩ : ∃ y, l[i]? = some y := ⟨_, List.getElem?_eq_getElem hlt⟩
      obtain ⟨b, o, A', c', rfl, hat⟩ := hel i y hy
      obtain ⟨hb, h0, h1, h2, h3, _⟩ := hat wr hB
      have hB2 := hB.alloc hB.size (Obj.cells #[Value.int IntKind.i64 y.k, Value.int IntKind.i64 y.n, Value.string y.s, Value.slice A' y.l.length c'] 96)
      have hP := Lib.hid (hat _ hB2).2.2.2.2.2
      have hfs := fmL_snoc (l.take i) y
      rw [← take_snoc_some hy, hfm.out] at hfs
      have hdy := dp_mem (List.mem_of_getElem? hy)
      cases hy2 : fm y with
      | none =>
        have hno : Hid (fmL l = none) := fmL_take_none hy hy2
        have hP2 : Hid (Calls Tryd.prog 94 #[.agg #[.int .i64 y.k, .int .i64 y.n, .string y.s, Value.slice A' y.l.length c']] (wr.alloc (Obj.cells #[Value.int IntKind.i64 y.k, Value.int IntKind.i64 y.n, Value.string y.s, Value.slice A' y.l.length c'] 96)) fun e w' => e = .returned (.tuple #[.int .i64 0, .bool false]) ∧ Below (wr.heap.size + 1) (wr.alloc (Obj.cells #[Value.int IntKind.i64 y.k, Value.int IntKind.i64 y.n, Value.string y.s, Value.slice A' y.l.length c'] 96)) w') := by
          refine hP.out.mono fun e w' hh => ?_
          obtain ⟨he, hb'⟩ := hh
          unfold fmD fmOk at he
          rw [hy2] at he
          exact ⟨he, by simpa using hb'⟩
        clear hP hy2 hat hel hfs
        go_wp2_with fail
        refine hP2.out.mono ?_
        rintro e w' ⟨rfl, hb'⟩
        go_wp2_with fail
        go_ret2
        refine ⟨?_, hB2.trans (hb'.mono (by have := hB.size; omega))⟩
        unfold fmD fmOk
        rw [fm_list, hno.out]
        rfl
      | some a' =>
        have ha' := fm_le_dp y a' hy2
        have HF : Hid (fmL (l.take (i + 1)) = some (max a a')) := by rw [hfs, hy2]; rfl
        have hP2 : Hid (Calls Tryd.prog 94 #[.agg #[.int .i64 y.k, .int .i64 y.n, .string y.s, Value.slice A' y.l.length c']] (wr.alloc (Obj.cells #[Value.int IntKind.i64 y.k, Value.int IntKind.i64 y.n, Value.string y.s, Value.slice A' y.l.length c'] 96)) fun e w' => e = .returned (.tuple #[.int .i64 a', .bool true]) ∧ Below (wr.heap.size + 1) (wr.alloc (Obj.cells #[Value.int IntKind.i64 y.k, Value.int IntKind.i64 y.n, Value.string y.s, Value.slice A' y.l.length c'] 96)) w') := by
          refine hP.out.mono fun e w' hh => ?_
          obtain ⟨he, hb'⟩ := hh
          unfold fmD fmOk at he
          rw [hy2] at he
          exact ⟨he, by simpa using hb'⟩
        clear hP hy2 hat hel hfs
        go_wp2_with fail
        refine hP2.out.mono ?_
        rintro e w' ⟨rfl, hb'⟩
        go_wp2_with fail
        go_roundw
        case rel => exact ⟨i + 1, max a a', by omega, HF, by first | rfl | (congr 1; omega), by go_num, by omega, hB2.trans (hb'.mono (by have := hB.size; omega))⟩
        case measure => simp [intOf]; omega
    · obtain rfl : i = l.length := by omega
      clear hel
      have HF : Hid (fmL l = some a) := by have := hfm.out; rw [List.take_length] at this; exact this
      go_wp2
      go_ret2
      refine ⟨?_, hB⟩
      unfold fmD fmOk
      rw [fm_list, HF.out]
      rfl
end Go.Proofs.YtnccbhndlnkboaaDoor
/- The walk of codec.formed at what is no list. -/
namespace Go.Proofs.YtnccbhndlnkboaaDoor
open Go.RowKit Cdc
set_option linter.unusedVariables false
set_option linter.unusedSimpArgs false

theorem str_ne {s : ByteArray} (h : ¬ s.size = 0) : s.toList.isEmpty = false := by
  rw [Lib.toList_data]
  cases hs : s.data.toList with
  | nil =>
    exfalso
    apply h
    have : s.data.toList.length = 0 := by rw [hs]; rfl
    simpa using this
  | cons _ _ => rfl

set_option maxRecDepth 100000 in
set_option maxHeartbeats 4000000 in
theorem formed_atom (k n : Int) (s : ByteArray) (m : Nat) (A : Option Addr) (c : Nat) (w : World) (b : Bool)
    (h : (k < 1 ∧ b = false) ∨ (3 < k ∧ b = false) ∨ (k = 1 ∧ ((b = true ∧ s = ByteArray.empty ∧ m = 0) ∨ (b = false ∧ (s.toList.isEmpty = false ∨ (s = ByteArray.empty ∧ 0 < m))))) ∨
      (k = 2 ∧ ((b = true ∧ n = 0 ∧ m = 0) ∨ (b = false ∧ ((n == 0) = false ∨ (n = 0 ∧ 0 < m))))) ∨ (k = 3 ∧ b = false ∧ ((n == 0) = false ∨ (n = 0 ∧ s.toList.isEmpty = false)))) :
    Calls Tryd.prog 94 #[.agg #[.int .i64 k, .int .i64 n, .string s, .slice A m c]] w fun e w' => e = .returned (.tuple #[.int .i64 0, .bool b]) ∧ Below w.heap.size w w' := by
  have hn : (n == 0) = true ∨ (n == 0) = false := by cases (n == 0) <;> simp
  have hs : s = ByteArray.empty ∨ s.toList.isEmpty = false := by
    by_cases h : s.size = 0
    · exact .inl (byte_empty h)
    · exact .inr (str_ne h)
  have hm : m = 0 ∨ 0 < m := by omega
  rcases h with ⟨h1, rfl⟩ | ⟨h1, rfl⟩ | ⟨rfl, h⟩ | ⟨rfl, h⟩ | ⟨rfl, rfl, h⟩
  · rcases hm with rfl | hm <;> rcases hs with rfl | hs <;> rcases hn with hn | hn
    all_goals
      go_enter Tryd.func94, Tryd.ntmps94
      go_wp2
      go_ret2
      exact ⟨rfl, ((Below.refl _ _).alloc (Nat.le_refl _) _).alloc (by simp) _⟩
  · have h2 : ¬ k < 1 := by omega
    rcases hm with rfl | hm <;> rcases hs with rfl | hs <;> rcases hn with hn | hn
    all_goals
      go_enter Tryd.func94, Tryd.ntmps94
      go_wp2
      go_ret2
      exact ⟨rfl, ((Below.refl _ _).alloc (Nat.le_refl _) _).alloc (by simp) _⟩
  · rcases h with ⟨rfl, rfl, rfl⟩ | ⟨rfl, hs | ⟨rfl, hm⟩⟩
    · rcases hn with hn | hn
      all_goals
        go_enter Tryd.func94, Tryd.ntmps94
        go_wp2
        go_ret2
        exact ⟨rfl, ((Below.refl _ _).alloc (Nat.le_refl _) _).alloc (by simp) _⟩
    · rcases hm with rfl | hm <;> rcases hn with hn | hn
      all_goals
        go_enter Tryd.func94, Tryd.ntmps94
        go_wp2
        go_ret2
        exact ⟨rfl, ((Below.refl _ _).alloc (Nat.le_refl _) _).alloc (by simp) _⟩
    · have hm2 : ((m : Int) == 0) = false := by simp; omega
      rcases hn with hn | hn
      all_goals
        go_enter Tryd.func94, Tryd.ntmps94
        go_wp2
        go_ret2
        exact ⟨rfl, ((Below.refl _ _).alloc (Nat.le_refl _) _).alloc (by simp) _⟩
  · rcases h with ⟨rfl, rfl, rfl⟩ | ⟨rfl, hn | ⟨rfl, hm⟩⟩
    · rcases hs with rfl | hs
      all_goals
        go_enter Tryd.func94, Tryd.ntmps94
        go_wp2
        go_ret2
        exact ⟨rfl, ((Below.refl _ _).alloc (Nat.le_refl _) _).alloc (by simp) _⟩
    · rcases hm with rfl | hm <;> rcases hs with rfl | hs
      all_goals
        go_enter Tryd.func94, Tryd.ntmps94
        go_wp2
        go_ret2
        exact ⟨rfl, ((Below.refl _ _).alloc (Nat.le_refl _) _).alloc (by simp) _⟩
    · have hm2 : ((m : Int) == 0) = false := by simp; omega
      rcases hs with rfl | hs
      all_goals
        go_enter Tryd.func94, Tryd.ntmps94
        go_wp2
        go_ret2
        exact ⟨rfl, ((Below.refl _ _).alloc (Nat.le_refl _) _).alloc (by simp) _⟩
  · rcases h with hn | ⟨rfl, hs⟩
    · rcases hm with rfl | hm <;> rcases hs with rfl | hs
      all_goals
        go_enter Tryd.func94, Tryd.ntmps94
        go_wp2
        go_ret2
        exact ⟨rfl, ((Below.refl _ _).alloc (Nat.le_refl _) _).alloc (by simp) _⟩
    · rcases hm with rfl | hm
      all_goals
        go_enter Tryd.func94, Tryd.ntmps94
        go_wp2
        go_ret2
        exact ⟨rfl, ((Below.refl _ _).alloc (Nat.le_refl _) _).alloc (by simp) _⟩

end Go.Proofs.YtnccbhndlnkboaaDoor
/- The walks of codec.formed (at every value) and codec.Check. -/
namespace Go.Proofs.YtnccbhndlnkboaaDoor
open Go.RowKit Cdc
set_option linter.unusedVariables false
set_option linter.unusedSimpArgs false

theorem size_empty : ByteArray.empty.size = 0 := rfl

theorem ne_empty {s : ByteArray} (h : ¬ s.size = 0) : ¬ s = ByteArray.empty := fun e => h (by rw [e]; rfl)

/-- what 'formed_atom' asks, of a value -/
theorem atom_case (k n : Int) (s : ByteArray) (l : List V) (h : ¬ (k = 3 ∧ n = 0 ∧ s = ByteArray.empty)) :
    fmD ⟨k, n, s, l⟩ = 0 ∧ ((k < 1 ∧ fmOk ⟨k, n, s, l⟩ = false) ∨ (3 < k ∧ fmOk ⟨k, n, s, l⟩ = false) ∨ (k = 1 ∧ ((fmOk ⟨k, n, s, l⟩ = true ∧ s = ByteArray.empty ∧ l.length = 0) ∨ (fmOk ⟨k, n, s, l⟩ = false ∧ (s.toList.isEmpty = false ∨ (s = ByteArray.empty ∧ 0 < l.length))))) ∨
      (k = 2 ∧ ((fmOk ⟨k, n, s, l⟩ = true ∧ n = 0 ∧ l.length = 0) ∨ (fmOk ⟨k, n, s, l⟩ = false ∧ ((n == 0) = false ∨ (n = 0 ∧ 0 < l.length))))) ∨ (k = 3 ∧ fmOk ⟨k, n, s, l⟩ = false ∧ ((n == 0) = false ∨ (n = 0 ∧ s.toList.isEmpty = false)))) := by
  unfold fmD fmOk
  simp only [fm]
  have hlen : l = [] ↔ l.length = 0 := List.length_eq_zero_iff.symm
  by_cases h1 : k = 1
  · subst h1
    rw [if_pos rfl]
    by_cases c : s.size = 0
    · obtain rfl := byte_empty c
      by_cases c2 : l.length = 0
      · rw [if_pos ⟨rfl, hlen.2 c2⟩]
        exact ⟨rfl, .inr (.inr (.inl ⟨rfl, .inl ⟨rfl, rfl, c2⟩⟩))⟩
      · rw [if_neg (fun e => c2 (hlen.1 e.2))]
        exact ⟨rfl, .inr (.inr (.inl ⟨rfl, .inr ⟨rfl, .inr ⟨rfl, by omega⟩⟩⟩))⟩
    · rw [if_neg (fun e => c e.1)]
      exact ⟨rfl, .inr (.inr (.inl ⟨rfl, .inr ⟨rfl, .inl (str_ne c)⟩⟩))⟩
  · rw [if_neg h1]
    by_cases h2 : k = 2
    · subst h2
      rw [if_pos rfl]
      by_cases c : n = 0
      · by_cases c2 : l.length = 0
        · rw [if_pos ⟨c, hlen.2 c2⟩]
          exact ⟨rfl, .inr (.inr (.inr (.inl ⟨rfl, .inl ⟨rfl, c, c2⟩⟩)))⟩
        · rw [if_neg (fun e => c2 (hlen.1 e.2))]
          exact ⟨rfl, .inr (.inr (.inr (.inl ⟨rfl, .inr ⟨rfl, .inr ⟨c, by omega⟩⟩⟩)))⟩
      · rw [if_neg (fun e => c e.1)]
        exact ⟨rfl, .inr (.inr (.inr (.inl ⟨rfl, .inr ⟨rfl, .inl (by simpa using c)⟩⟩)))⟩
    · rw [if_neg h2]
      by_cases h3 : k = 3
      · subst h3
        rw [if_pos rfl]
        by_cases c : n = 0
        · have c2 : ¬ s.size = 0 := fun e => h ⟨rfl, c, byte_empty e⟩
          rw [if_neg (fun e => c2 e.2)]
          exact ⟨rfl, .inr (.inr (.inr (.inr ⟨rfl, rfl, .inr ⟨c, str_ne c2⟩⟩)))⟩
        · rw [if_neg (fun e => c e.1)]
          exact ⟨rfl, .inr (.inr (.inr (.inr ⟨rfl, rfl, .inl (by simpa using c)⟩)))⟩
      · rw [if_neg h3]
        refine ⟨rfl, ?_⟩
        by_cases h4 : k < 1
        · exact .inl ⟨h4, rfl⟩
        · exact .inr (.inl ⟨by omega, rfl⟩)

mutual
/-- sizes that the walks of the codec can bear -/
def Sm : V → Prop
  | ⟨_, n, s, l⟩ => (-9223372036854775808 ≤ n ∧ n ≤ 9223372036854775807) ∧ s.size ≤ 1000000000 ∧ l.length ≤ 1000000000 ∧ SmL l
def SmL : List V → Prop
  | [] => True
  | x :: xs => Sm x ∧ SmL xs
end
theorem SmL_mem {l : List V} (h : SmL l) : ∀ x ∈ l, Sm x := by
  induction l with
  | nil => simp
  | cons x l ih =>
    simp only [SmL] at h
    intro y hy
    rcases List.mem_cons.1 hy with rfl | hy
    · exact h.1
    · exact ih h.2 y hy

theorem formed_any (d : Nat) : ∀ (x : V) (v : Value) (w : World), RS w d x.l v → Sm x → dp x ≤ 1000000000000 →
    Calls Tryd.prog 94 #[vv x v] w (FormedPost x w) := by
  induction d with
  | zero =>
    intro x v w hv hs hd
    obtain ⟨k, n, s, l⟩ := x
    obtain ⟨hl, A, c, rfl⟩ := hv
    dsimp only at hl
    subst hl
    by_cases h : k = 3 ∧ n = 0 ∧ s = ByteArray.empty
    · obtain ⟨rfl, rfl, rfl⟩ := h
      exact formed_list [] A c w (by simp) (by simp [dpL]) (Els.nil _ _ _)
    · obtain ⟨h0, h1⟩ := atom_case k n s [] h
      refine (formed_atom k n s 0 A c w _ h1).mono fun e w' hh => ⟨?_, hh.2⟩
      rw [h0]; exact hh.1
  | succ d ih =>
    intro x v w hv hs hd
    obtain ⟨k, n, s, l⟩ := x
    dsimp only at hv
    obtain ⟨A, c, rfl⟩ := hv.form
    simp only [Sm] at hs
    simp only [dp] at hd
    by_cases h : k = 3 ∧ n = 0 ∧ s = ByteArray.empty
    · obtain ⟨rfl, rfl, rfl⟩ := h
      exact formed_list l A c w (by omega) (by omega) (Els.of_RS hv fun y hy v' W hr => ih y v' W hr (SmL_mem hs.2.2.2 y hy) (by have := dp_mem hy; omega))
    · obtain ⟨h0, h1⟩ := atom_case k n s l h
      refine (formed_atom k n s l.length A c w _ h1).mono fun e w' hh => ⟨?_, hh.2⟩
      rw [h0]; exact hh.1

/-- what Check answers -/
def ckE (x : V) : Int := match fm x with
  | none => 1
  | some a => if 16 < a then 2 else 0

set_option maxHeartbeats 400000 in
theorem check_any (d : Nat) (x : V) (v : Value) (w : World) (hv : RS w d x.l v) (hs : Sm x) (hd : dp x ≤ 1000000000000) :
    Calls Tryd.prog 78 #[vv x v] w fun e w' => e = .returned (.int .i64 (ckE x)) ∧ Below w.heap.size w w' := by
  have hc := formed_any d x v (w.alloc (.cells #[.int .i64 x.k, .int .i64 x.n, .string x.s, v] 96)) (hv.below ((Below.refl _ _).alloc (Nat.le_refl _) _)) hs hd
  obtain ⟨A, c, rfl⟩ := hv.form
  cases hf : fm x with
  | none =>
    have hc2 : Hid (Calls Tryd.prog 94 #[.agg #[.int .i64 x.k, .int .i64 x.n, .string x.s, .slice A x.l.length c]] (w.alloc (.cells #[.int .i64 x.k, .int .i64 x.n, .string x.s, .slice A x.l.length c] 96)) fun e w' => e = .returned (.tuple #[.int .i64 0, .bool false]) ∧ Below w.heap.size w w') := by
      refine hc.mono fun e w' hh => ?_
      obtain ⟨he, hb'⟩ := hh
      unfold fmD fmOk at he
      rw [hf] at he
      exact ⟨he, ((Below.refl _ _).alloc (Nat.le_refl _) _).trans (hb'.mono (by simp))⟩
    have hE : ckE x = 1 := by unfold ckE; rw [hf]
    rw [hE]
    clear hc hf hE
    go_enter Tryd.func78, Tryd.ntmps78
    go_wp2_with (go_at_call 94; refine hc2.out.mono ?_; rintro e w' ⟨rfl, hb⟩)
    go_ret
    exact ⟨rfl, ‹Below _ _ _›⟩
  | some a =>
    have hc2 : Hid (Calls Tryd.prog 94 #[.agg #[.int .i64 x.k, .int .i64 x.n, .string x.s, .slice A x.l.length c]] (w.alloc (.cells #[.int .i64 x.k, .int .i64 x.n, .string x.s, .slice A x.l.length c] 96)) fun e w' => e = .returned (.tuple #[.int .i64 a, .bool true]) ∧ Below w.heap.size w w') := by
      refine hc.mono fun e w' hh => ?_
      obtain ⟨he, hb'⟩ := hh
      unfold fmD fmOk at he
      rw [hf] at he
      exact ⟨he, ((Below.refl _ _).alloc (Nat.le_refl _) _).trans (hb'.mono (by simp))⟩
    by_cases h16 : 16 < a
    · have hE : ckE x = 2 := by unfold ckE; rw [hf]; simp [h16]
      rw [hE]
      clear hc hf hE
      go_enter Tryd.func78, Tryd.ntmps78
      go_wp2_with (go_at_call 94; refine hc2.out.mono ?_; rintro e w' ⟨rfl, hb⟩)
      go_ret
      exact ⟨rfl, ‹Below _ _ _›⟩
    · have hE : ckE x = 0 := by unfold ckE; rw [hf]; simp [h16]
      have h16' : a ≤ 16 := by omega
      rw [hE]
      clear hc hf hE h16
      go_enter Tryd.func78, Tryd.ntmps78
      go_wp2_with (go_at_call 94; refine hc2.out.mono ?_; rintro e w' ⟨rfl, hb⟩)
      go_ret
      exact ⟨rfl, ‹Below _ _ _›⟩
end Go.Proofs.YtnccbhndlnkboaaDoor
