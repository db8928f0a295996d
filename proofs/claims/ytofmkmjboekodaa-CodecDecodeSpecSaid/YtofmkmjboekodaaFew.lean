/- Counting parts: the reference's count and Few. -/
import Derived.Test.YtofmkmjboekodaaFormed2
namespace Go.Proofs.Ytofmkmjboekodaa
open Go.RowKit Cdc
set_option linter.unusedVariables false
set_option linter.unusedSimpArgs false

mutual
def ct : V → Int → Int
  | ⟨_, _, s, l⟩, d => if d < 0 ∨ 150 < l.length then 1000 else ctL l (d - 1) (1 + (s.size : Int) / 200)
def ctL : List V → Int → Int → Int
  | [], _, n => n
  | x :: xs, d, n => if n ≤ 1000 then ctL xs d (n + ct x d) else n
end

mutual
/-- what memory can hold -/
def Lg : V → Prop
  | ⟨_, _, s, l⟩ => s.size ≤ 9223372036854775807 ∧ l.length ≤ 9223372036854775807 ∧ LgL l
def LgL : List V → Prop
  | [] => True
  | x :: xs => Lg x ∧ LgL xs
end

theorem LgL_mem {l : List V} (h : LgL l) : ∀ x ∈ l, Lg x := by
  induction l with
  | nil => simp
  | cons x l ih =>
    simp only [LgL] at h
    intro y hy
    rcases List.mem_cons.1 hy with rfl | hy
    · exact h.1
    · exact ih h.2 y hy

theorem ctL_stop (l : List V) (d n : Int) (h : ¬ n ≤ 1000) : ctL l d n = n := by
  cases l with
  | nil => rfl
  | cons x l => rw [ctL, if_neg h]

theorem ctL_more (l r : List V) (d n : Int) : ctL (l ++ r) d n = ctL r d (ctL l d n) := by
  induction l generalizing n with
  | nil => rfl
  | cons y l ih =>
    rw [List.cons_append, ctL, ctL]
    by_cases h : n ≤ 1000
    · rw [if_pos h, if_pos h]; exact ih _
    · rw [if_neg h, if_neg h, ctL_stop r d n h]

theorem ctL_snoc (l : List V) (x : V) (d n : Int) (h : ctL l d n ≤ 1000) : ctL (l ++ [x]) d n = ctL l d n + ct x d := by
  rw [ctL_more, ctL, if_pos h]; rfl

theorem ct_pos (x : V) : ∀ d, 1 ≤ ct x d := by
  refine V.ind (P := fun x => ∀ d, 1 ≤ ct x d) ?_ x
  intro k n s l ih d
  have hL : ∀ (l : List V), (∀ x ∈ l, ∀ d, 1 ≤ ct x d) → ∀ d m, 1 ≤ m → 1 ≤ ctL l d m := by
    intro l
    induction l with
    | nil => intro _ d m hm; exact hm
    | cons y l ihl =>
      intro hy d m hm
      rw [ctL]
      split
      · exact ihl (fun x hx => hy x (by simp [hx])) d _ (by have := hy y (by simp) d; omega)
      · exact hm
  rw [ct]
  split
  · decide
  · exact hL l ih _ _ (by omega)

theorem ct_le (x : V) : ∀ d : Nat, Lg x → ct x ((d : Int) - 1) ≤ 100000000000000000 + 1000 * d := by
  refine V.ind (P := fun x => ∀ d : Nat, Lg x → ct x ((d : Int) - 1) ≤ 100000000000000000 + 1000 * d) ?_ x
  intro k n s l ih d hx
  simp only [Lg] at hx
  rw [ct]
  split
  · omega
  · rename_i h
    obtain ⟨d, rfl⟩ : ∃ e, d = e + 1 := ⟨d - 1, by omega⟩
    have hL : ∀ (l : List V), (∀ x ∈ l, ∀ d : Nat, Lg x → ct x ((d : Int) - 1) ≤ 100000000000000000 + 1000 * d) → LgL l → ∀ m : Int, m ≤ 100000000000000000 + 1000 * (d + 1 : Nat) → ctL l ((d : Int) - 1) m ≤ 100000000000000000 + 1000 * (d + 1 : Nat) := by
      intro l
      induction l with
      | nil => intro _ _ m hm; exact hm
      | cons y l ihl =>
        intro hy hl m hm
        simp only [LgL] at hl
        rw [ctL]
        split
        · exact ihl (fun x hx => hy x (by simp [hx])) hl.2 _ (by have := hy y (by simp) d hl.1; omega)
        · exact hm
    have e : ((d + 1 : Nat) : Int) - 1 - 1 = (d : Int) - 1 := by omega
    rw [e]
    exact hL l ih hx.2.2 _ (by omega)

def CtPost (x : V) (d : Int) (w : World) (e : Ending) (w' : World) : Prop := e = .returned (.int .i64 (ct x d)) ∧ Below w.heap.size w w'

set_option maxRecDepth 100000 in
set_option maxHeartbeats 1000000 in
theorem count_list (k n : Int) (s : ByteArray) (l : List V) (A : Option Addr) (c : Nat) (w : World) (d : Nat) (hd : d ≤ 100) (hs : s.size ≤ 9223372036854775807) (hl : l.length ≤ 150) (hlg : LgL l)
    (hel : Els w A l fun y v' W => Calls Try.prog 36 #[vv y v', .int .i64 ((d : Int) - 1)] W (CtPost y ((d : Int) - 1) W)) :
    Calls Try.prog 36 #[.agg #[.int .i64 k, .int .i64 n, .string s, .slice A l.length c], .int .i64 d] w (CtPost ⟨k, n, s, l⟩ d w) := by
  have hct : ct ⟨k, n, s, l⟩ d = ctL l ((d : Int) - 1) (1 + (s.size : Int) / 200) := by rw [ct, if_neg (by omega)]
  unfold CtPost
  rw [hct]
  clear hct
  have hd0 : decide ((d : Int) < 0) = false := by
    simp only [decide_eq_false_iff_not]
    omega
  have hl0 : decide ((150 : Int) < (l.length : Int)) = false := by
    simp only [decide_eq_false_iff_not]
    omega
  go_enter Try.func36, Try.ntmps36
  go_wp2
  obtain ⟨W0, hW0⟩ : ∃ W0, w.alloc (Obj.cells #[Value.int IntKind.i64 k, Value.int IntKind.i64 n, Value.string s, Value.slice A l.length c] 24) = W0 := ⟨_, rfl⟩
  have hB0 : Below w.heap.size w W0 := by rw [← hW0]; exact ((Below.refl _ w).alloc (Nat.le_refl _) _)
  have hlt0 : w.heap.size < W0.heap.size := by rw [← hW0]; simp
  have hc0 : W0.cell? ⟨w.heap.size, 3, none⟩ = some (Value.slice A l.length c) := by rw [← hW0]; simp [go_sem]
  rw [hW0]
  clear hW0
  go_loopw [5, 6] (fun s5 s6 wr => ∃ (i : Nat) (m : Int), s5 = .int .i64 m ∧ s6 = .int .i64 i ∧ i ≤ l.length ∧ Hid (ctL (l.take i) ((d : Int) - 1) (1 + (s.size : Int) / 200) = m) ∧ 1 ≤ m ∧ m ≤ 200000000000000000 ∧ Below W0.heap.size W0 wr) (fun _ s6 _ => l.length - (intOf s6).toNat)
  case atStart => exact ⟨0, 1 + (s.size : Int) / 200, by go_num, rfl, Nat.zero_le _, rfl, by omega, by omega, Below.refl _ _⟩
  case round =>
    obtain ⟨i, m, rfl, rfl, hi, hm, hm1, hm2, hB⟩ := hrel
    have hcr : wr.cell? ⟨w.heap.size, 3, none⟩ = some (Value.slice A l.length c) := (hB.cell (p := ⟨w.heap.size, 3, none⟩) hlt0).trans hc0
    have hBw : Below w.heap.size w wr := hB0.trans (hB.mono hB0.size)
    by_cases hlt : i < l.length
    · obtain ⟨y, hy⟩ : ∃ y, l[i]? = some y := ⟨_, List.getElem?_eq_getElem hlt⟩
      by_cases hm3 : m ≤ 1000
      · obtain ⟨b, o, A', c', rfl, hat⟩ := hel i y hy
        obtain ⟨hb, h0, h1, h2, h3, hP⟩ := hat wr hBw
        have hsn := ctL_snoc (l.take i) y ((d : Int) - 1) (1 + (s.size : Int) / 200) (by rw [hm.out]; exact hm3)
        rw [← take_snoc_some hy, hm.out] at hsn
        have hp1 := ct_pos y ((d : Int) - 1)
        have hp2 := ct_le y d (LgL_mem hlg y (List.mem_of_getElem? hy))
        unfold CtPost at hP
        generalize ct y ((d : Int) - 1) = q at hP hsn hp1 hp2
        have hP2 := Lib.hid hP
        have hsn2 := Lib.hid hsn
        clear hP hsn hat hel hm
        go_wp2_with (go_at_call 36; refine hP2.out.mono ?_; rintro e w' ⟨rfl, hb'⟩)
        go_roundw
        case rel => exact ⟨i + 1, m + q, by go_num, by go_num, by omega, hsn2, by omega, by omega, hB.trans (‹Below wr.heap.size wr _›.mono hB.size)⟩
        case measure => simp [intOf]; omega
      · have hst : Hid (ctL l ((d : Int) - 1) (1 + (s.size : Int) / 200) = m) := by
          have h := ctL_more (l.take i) (l.drop i) ((d : Int) - 1) (1 + (s.size : Int) / 200)
          rw [List.take_append_drop, hm.out, ctL_stop _ _ _ hm3] at h
          exact h
        clear hel hm
        go_wp2
        go_ret
        rw [hst.out]
        exact ⟨rfl, hBw⟩
    · obtain rfl : i = l.length := by omega
      clear hel
      have hst : Hid (ctL l ((d : Int) - 1) (1 + (s.size : Int) / 200) = m) := by have := hm.out; rw [List.take_length] at this; exact this
      clear hm
      go_wp2
      go_ret
      rw [hst.out]
      exact ⟨rfl, hBw⟩

set_option maxRecDepth 100000 in
set_option maxHeartbeats 1000000 in
theorem count_stop (k n : Int) (s : ByteArray) (m : Nat) (A : Option Addr) (c : Nat) (w : World) (d : Int) (hd : -100 ≤ d ∧ d ≤ 100) (hs : s.size ≤ 9223372036854775807) (h : decide (d < 0) = true ∨ (decide (d < 0) = false ∧ decide ((150 : Int) < (m : Int)) = true)) :
    Calls Try.prog 36 #[.agg #[.int .i64 k, .int .i64 n, .string s, .slice A m c], .int .i64 d] w fun e w' => e = .returned (.int .i64 1000) ∧ Below w.heap.size w w' := by
  rcases h with h | ⟨h, h2⟩
  all_goals
    go_enter Try.func36, Try.ntmps36
    go_wp2
    go_ret
    exact ⟨rfl, (Below.refl _ _).alloc (Nat.le_refl _) _⟩

theorem ct_neg (x : V) (d : Int) (h : d < 0) : ct x d = 1000 := by
  obtain ⟨k, n, s, l⟩ := x
  rw [ct, if_pos (.inl h)]

theorem count_any (D : Nat) : ∀ (x : V) (v : Value) (d : Nat) (w : World), RS w D x.l v → Lg x → d ≤ 50 →
    Calls Try.prog 36 #[vv x v, .int .i64 ((d : Int) - 1)] w (CtPost x ((d : Int) - 1) w) := by
  have stop : ∀ (x : V) (A : Option Addr) (c : Nat) (d : Nat) (w : World), Lg x → d ≤ 50 → (d = 0 ∨ 150 < x.l.length) →
      Calls Try.prog 36 #[vv x (.slice A x.l.length c), .int .i64 ((d : Int) - 1)] w (CtPost x ((d : Int) - 1) w) := by
    intro x A c d w hlg hd h
    obtain ⟨k, n, s, l⟩ := x
    simp only [Lg] at hlg
    dsimp only at h
    have e : ct ⟨k, n, s, l⟩ ((d : Int) - 1) = 1000 := by rw [ct, if_pos (by omega)]
    unfold CtPost
    rw [e]
    refine count_stop k n s l.length A c w ((d : Int) - 1) (by omega) hlg.1 ?_
    by_cases h0 : d = 0
    · left; simp only [decide_eq_true_eq]; omega
    · right; simp only [decide_eq_true_eq, decide_eq_false_iff_not]; omega
  induction D with
  | zero =>
    intro x v d w hv hlg hd
    obtain ⟨A, c, rfl⟩ := hv.form
    by_cases h0 : d = 0 ∨ 150 < x.l.length
    · exact stop x A c d w hlg hd h0
    · obtain ⟨k, n, s, l⟩ := x
      have hl := hv.zero_nil
      dsimp only at hl
      subst hl
      simp only [Lg] at hlg
      obtain ⟨d, rfl⟩ : ∃ e, d = e + 1 := ⟨d - 1, by omega⟩
      have e : ((d + 1 : Nat) : Int) - 1 = (d : Int) := by omega
      rw [e]
      exact count_list k n s [] A c w d (by omega) hlg.1 (by simp) trivial (Els.nil _ _ _)
  | succ D ih =>
    intro x v d w hv hlg hd
    have hv' := hv
    obtain ⟨A, c, rfl⟩ := hv.form
    by_cases h0 : d = 0 ∨ 150 < x.l.length
    · exact stop x A c d w hlg hd h0
    · obtain ⟨k, n, s, l⟩ := x
      simp only [Lg] at hlg
      dsimp only at h0 hv'
      obtain ⟨d, rfl⟩ : ∃ e, d = e + 1 := ⟨d - 1, by omega⟩
      have e : ((d + 1 : Nat) : Int) - 1 = (d : Int) := by omega
      rw [e]
      exact count_list k n s l A c w d (by omega) hlg.1 (by omega) hlg.2.2 (Els.of_RS hv' fun y hy v' W hr => ih y v' d W hr (LgL_mem hlg.2.2 y hy) (by omega))

def fewB (x : V) : Bool := decide (ct x 20 ≤ 200)

set_option maxRecDepth 100000 in
set_option maxHeartbeats 1000000 in
theorem few_any (D : Nat) (x : V) (v : Value) (w : World) (hv : RS w D x.l v) (hlg : Lg x) :
    Calls Try.prog 25 #[vv x v, .int .i64 20] w fun e w' => e = .returned (.bool (fewB x)) ∧ Below w.heap.size w w' := by
  have hB0 : Below w.heap.size w (w.alloc (Obj.cells #[.int .i64 x.k, .int .i64 x.n, .string x.s, v] 24)) := (Below.refl _ _).alloc (Nat.le_refl _) _
  have hc := count_any D x v 21 _ (hv.below hB0) hlg (by omega)
  unfold CtPost at hc
  unfold fewB
  have e : ((21 : Nat) : Int) - 1 = 20 := by decide
  rw [e] at hc
  generalize ct x 20 = q at hc ⊢
  have hc2 := Lib.hid hc
  clear hc
  obtain ⟨A, c, rfl⟩ := hv.form
  go_enter Try.func25, Try.ntmps25
  go_wp2_with (go_at_call 36; refine hc2.out.mono ?_; rintro e w' ⟨rfl, hb'⟩)
  go_ret
  exact ⟨rfl, hB0.trans (‹Below _ _ _›.mono (by simp))⟩
end Go.Proofs.Ytofmkmjboekodaa
