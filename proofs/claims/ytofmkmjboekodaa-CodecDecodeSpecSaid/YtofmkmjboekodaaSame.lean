/- The walks of codec.Same and the reference's Same. -/
import Derived.Test.YtofmkmjboekodaaRefFormed
namespace Go.Proofs.Ytofmkmjboekodaa
open Go.RowKit Cdc
set_option linter.unusedVariables false
set_option linter.unusedSimpArgs false

mutual
/-- are two values equal? -/
def sm : V → V → Bool
  | ⟨k, n, s, l⟩, ⟨k', n', s', l'⟩ => (k == k') && ((n == n') && ((s.toList == s'.toList) && smL l l'))
def smL : List V → List V → Bool
  | [], [] => true
  | x :: xs, y :: ys => sm x y && smL xs ys
  | _, _ => false
end

theorem smL_len {l l' : List V} (h : l.length ≠ l'.length) : smL l l' = false := by
  induction l generalizing l' with
  | nil => cases l' with
    | nil => exact absurd rfl h
    | cons y l' => rfl
  | cons x l ih => cases l' with
    | nil => rfl
    | cons y l' => simp only [smL]; rw [ih (by simp at h ⊢; exact h), Bool.and_false]
theorem smL_snoc {l l' : List V} (h : l.length = l'.length) (x y : V) : smL (l ++ [x]) (l' ++ [y]) = (smL l l' && sm x y) := by
  induction l generalizing l' with
  | nil => cases l' with
    | nil => simp [smL]
    | cons y l' => simp at h
  | cons x l ih => cases l' with
    | nil => simp at h
    | cons y l' => simp only [List.cons_append, smL]; rw [ih (by simpa using h), Bool.and_assoc]
theorem smL_at {l l' : List V} {i : Nat} {x y : V} (hx : l[i]? = some x) (hy : l'[i]? = some y) (h : sm x y = false) : smL l l' = false := by
  induction l generalizing l' i with
  | nil => simp at hx
  | cons a l ih => cases l' with
    | nil => simp at hy
    | cons b l' =>
      cases i with
      | zero => simp at hx hy; subst hx hy; simp only [smL]; rw [h, Bool.false_and]
      | succ i => simp at hx hy; simp only [smL]; rw [ih hx hy, Bool.and_false]

def SamePost (x y : V) (w : World) (e : Ending) (w' : World) : Prop := e = .returned (.bool (sm x y)) ∧ Below w.heap.size w w'

set_option maxRecDepth 100000 in
set_option maxHeartbeats 1000000 in
theorem equalFunc_any (l l' : List V) (A A' : Option Addr) (c c' : Nat) (w : World) (hl : l.length ≤ 1000000000) (hl' : l'.length ≤ 1000000000) (P P' : V → Value → World → Prop) (hel : Els w A l P) (hel' : Els w A' l' P')
    (hkeep : ∀ y v W W', P y v W → Below W.heap.size W W' → P y v W') (hkeep' : ∀ y v W W', P' y v W → Below W.heap.size W W' → P' y v W')
    (hC : ∀ y ∈ l, ∀ y' ∈ l', ∀ v v' W, P y v W → P' y' v' W → Calls Try.prog 21 #[vv y v, vv y' v'] W (SamePost y y' W)) :
    Calls Try.prog 35 #[.slice A l.length c, .slice A' l'.length c', .func (Fn.func 21) #[] #[]] w fun e w' => e = .returned (.bool (smL l l')) ∧ Below w.heap.size w w' := by
  by_cases hlen : l.length = l'.length
  · have h1 : ((l.length : Int) != (l'.length : Int)) = false := by simp; omega
    have hlenH := Lib.hid hlen
    clear hlen
    go_enter Try.func35, Try.ntmps35
    go_wp2
    go_loopw [17] (fun s17 wr => ∃ (i : Nat), i ≤ l.length ∧ Hid (smL (l.take i) (l'.take i) = true) ∧ s17 = .int .i64 i ∧ Below w.heap.size w wr) (fun s17 _ => l.length - (intOf s17).toNat)
    case atStart => exact ⟨0, Nat.zero_le _, rfl, rfl, Below.refl _ _⟩
    case round =>
      obtain ⟨i, hi, hsm, rfl, hB⟩ := hrel
      by_cases hlt : i < l.length
      · obtain ⟨y, hy⟩ : ∃ y, l[i]? = some y := ⟨_, List.getElem?_eq_getElem hlt⟩
        obtain ⟨y', hy'⟩ : ∃ y, l'[i]? = some y := ⟨_, List.getElem?_eq_getElem (by have := hlenH.out; omega)⟩
        obtain ⟨b, o, B, d, rfl, hat⟩ := hel i y hy
        obtain ⟨b', o', B', d', rfl, hat'⟩ := hel' i y' hy'
        obtain ⟨hb, h0, h1, h2, h3, hP⟩ := hat wr hB
        obtain ⟨hb', h0', h1', h2', h3', hP'⟩ := hat' wr hB
        have hq : ∀ W, Below wr.heap.size wr W → Calls Try.prog 21 #[vv y (.slice B y.l.length d), vv y' (.slice B' y'.l.length d')] W (SamePost y y' W) :=
          fun W hW => hC y (List.mem_of_getElem? hy) y' (List.mem_of_getElem? hy') _ _ W (hkeep _ _ _ _ hP hW) (hkeep' _ _ _ _ hP' hW)
        have hq2 := Lib.hid hq
        clear hq hel hel' hat hat' hP hP' hC
        have hlt' : i < l'.length := by have := hlenH.out; omega
        have hsn := smL_snoc (l := l.take i) (l' := l'.take i) (by have := hlenH.out; simp; omega) y y'
        rw [← take_snoc_some hy, ← take_snoc_some hy', hsm.out, Bool.true_and] at hsn
        cases hyy : sm y y' with
        | true =>
          unfold SamePost at hq2
          rw [hyy] at hq2 hsn
          have hsn2 := Lib.hid hsn
          clear hsn hyy
          go_wp2_with (go_at_call 21; refine (hq2.out _ (((Below.refl _ _).alloc (Nat.le_refl _) _).alloc (by simp) _)).mono ?_; rintro e w' ⟨rfl, hb2⟩)
          go_roundw
          case rel =>
            refine ⟨i + 1, by omega, hsn2, by go_num, ?_⟩
            exact hB.trans ((((Below.refl _ _).alloc (Nat.le_refl _) _).alloc (by simp) _).trans ((‹Below _ _ _› : Below _ _ _).mono (by simp; omega)) |>.mono hB.size)
          case measure => simp [intOf]; omega
        | false =>
          unfold SamePost at hq2
          rw [hyy] at hq2
          have hno : Hid (smL l l' = false) := smL_at hy hy' hyy
          clear hsn hyy
          go_wp2_with (go_at_call 21; refine (hq2.out _ (((Below.refl _ _).alloc (Nat.le_refl _) _).alloc (by simp) _)).mono ?_; rintro e w' ⟨rfl, hb2⟩)
          go_ret
          rw [hno.out]
          exact ⟨rfl, hB.trans ((((Below.refl _ _).alloc (Nat.le_refl _) _).alloc (by simp) _).trans ((‹Below _ _ _› : Below _ _ _).mono (by simp; omega)) |>.mono hB.size)⟩
      · obtain rfl : i = l.length := by omega
        clear hel hel' hC
        go_wp2
        go_ret
        have h1 := hsm.out
        rw [List.take_length, hlenH.out, List.take_length] at h1
        rw [h1]
        exact ⟨rfl, hB⟩
  · go_enter Try.func35, Try.ntmps35
    rw [smL_len hlen]
    have h1 : ((l.length : Int) != (l'.length : Int)) = true := by simp; omega
    go_wp2
    go_ret
    exact ⟨rfl, Below.refl _ _⟩

theorem Els.of_RS2 {w : World} {d : Nat} {l : List V} {v : Value} (h : RS w d l v) : ∃ A c, v = .slice A l.length c ∧ Els w A l fun y v' W => RS W (d - 1) y.l v' := by
  cases d with
  | zero =>
    obtain ⟨rfl, A, c, rfl⟩ := h
    exact ⟨A, c, rfl, Els.nil _ _ _⟩
  | succ d =>
    obtain ⟨A, c, rfl⟩ := h.form
    exact ⟨A, c, rfl, Els.of_RS h fun y hy v' W hr => hr⟩

theorem cmp_true {α : Type} [BEq α] [LawfulBEq α] {a b : α} (h : (a == b) = true) : a = b := by simpa using h

set_option maxRecDepth 100000 in
set_option maxHeartbeats 1000000 in
theorem same_at (k n k' n' : Int) (s s' : ByteArray) (m m' : Nat) (A A' : Option Addr) (c c' : Nat) (w : World) (b : Bool)
    (hC : ∀ W, Below w.heap.size w W → Calls Try.prog 35 #[.slice A m c, .slice A' m' c', .func (Fn.func 21) #[] #[]] W fun e w' => e = .returned (.bool b) ∧ Below W.heap.size W w') :
    Calls Try.prog 21 #[.agg #[.int .i64 k, .int .i64 n, .string s, .slice A m c], .agg #[.int .i64 k', .int .i64 n', .string s', .slice A' m' c']] w fun e w' => e = .returned (.bool ((k == k') && ((n == n') && ((s.toList == s'.toList) && b)))) ∧ Below w.heap.size w w' := by
  have hq := hC ((w.alloc (.cells #[.int .i64 k, .int .i64 n, .string s, .slice A m c] 24)).alloc (.cells #[.int .i64 k', .int .i64 n', .string s', .slice A' m' c'] 24)) (((Below.refl _ _).alloc (Nat.le_refl _) _).alloc (by simp) _)
  have hq2 := Lib.hid hq
  clear hq hC
  cases h1 : (k == k') with
  | false =>
    clear hq2
    go_enter Try.func21, Try.ntmps21
    go_wp2
    go_ret
    exact ⟨rfl, ((Below.refl _ _).alloc (Nat.le_refl _) _).alloc (by simp) _⟩
  | true =>
    cases h2 : (n == n') with
    | false =>
      clear hq2
      go_enter Try.func21, Try.ntmps21
      go_wp2
      go_ret
      exact ⟨rfl, ((Below.refl _ _).alloc (Nat.le_refl _) _).alloc (by simp) _⟩
    | true =>
      cases h3 : (s.toList == s'.toList) with
      | false =>
        clear hq2
        go_enter Try.func21, Try.ntmps21
        go_wp2
        go_ret
        exact ⟨rfl, ((Below.refl _ _).alloc (Nat.le_refl _) _).alloc (by simp) _⟩
      | true =>
        go_enter Try.func21, Try.ntmps21
        go_wp2_with (go_at_call 35; refine hq2.out.mono ?_; rintro e w' ⟨rfl, hb⟩)
        go_ret
        exact ⟨by simp, (((Below.refl _ _).alloc (Nat.le_refl _) _).alloc (by simp) _).trans (‹Below _ _ _›.mono (by simp; omega))⟩

theorem same_any (d : Nat) : ∀ (x y : V) (v v' : Value) (d' : Nat) (w : World), RS w d x.l v → RS w d' y.l v' → Sm x → Sm y →
    Calls Try.prog 21 #[vv x v, vv y v'] w (SamePost x y w) := by
  induction d with
  | zero =>
    intro x y v v' d' w hv hv' hs hs'
    obtain ⟨k, n, s, l⟩ := x
    obtain ⟨k', n', s', l'⟩ := y
    have hl := hv.zero_nil
    dsimp only at hl
    subst hl
    obtain ⟨A, c, rfl, hel⟩ := Els.of_RS2 hv
    obtain ⟨A', c', rfl, hel'⟩ := Els.of_RS2 hv'
    unfold SamePost
    simp only [sm]
    simp only [Sm] at hs hs'
    refine same_at k n k' n' s s' _ _ A A' c c' w _ fun W hW => ?_
    exact equalFunc_any [] l' A A' c c' W (by simp) hs'.2.2.1 (fun _ _ _ => True) (fun _ _ _ => True) (Els.nil _ _ _) (fun i y hy => by
      obtain ⟨b, o, B, d, hA, hat⟩ := hel' i y hy
      exact ⟨b, o, B, d, hA, fun W' hW' => by
        obtain ⟨h1, h2, h3, h4, h5, _⟩ := hat W' (hW.trans (hW'.mono hW.size))
        exact ⟨h1, h2, h3, h4, h5, trivial⟩⟩) (fun _ _ _ _ _ _ => trivial) (fun _ _ _ _ _ _ => trivial) (fun y hy => by simp at hy)
  | succ d ih =>
    intro x y v v' d' w hv hv' hs hs'
    obtain ⟨k, n, s, l⟩ := x
    obtain ⟨k', n', s', l'⟩ := y
    have hEl := fun W (hW : Below w.heap.size w W) => Els.of_RS2 (hv.below hW)
    have hEl' := fun W (hW : Below w.heap.size w W) => Els.of_RS2 (hv'.below hW)
    obtain ⟨A, c, rfl⟩ := hv.form
    obtain ⟨A', c', rfl⟩ := hv'.form
    unfold SamePost
    simp only [sm]
    simp only [Sm] at hs hs'
    refine same_at k n k' n' s s' _ _ A A' c c' w _ fun W hW => ?_
    obtain ⟨A1, c1, e1, hel⟩ := hEl W hW
    obtain ⟨A2, c2, e2, hel'⟩ := hEl' W hW
    injection e1 with e1 _ _
    injection e2 with e2 _ _
    subst e1 e2
    exact equalFunc_any l l' A A' c c' W hs.2.2.1 hs'.2.2.1 _ _ hel hel' (fun _ _ _ _ h hb => h.below hb) (fun _ _ _ _ h hb => h.below hb) (fun y hy y' hy' v v' W h h' => ih y y' v v' _ W h h' (SmL_mem hs.2.2.2 y hy) (SmL_mem hs'.2.2.2 y' hy'))
end Go.Proofs.Ytofmkmjboekodaa
