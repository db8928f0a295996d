/- The walk of the reference's Same. -/
import Derived.Test.YtofmkmjboekodaaSame
import Derived.Deep.RegionHeld3
import Derived.Deep.Draws
namespace Go.Proofs.Ytofmkmjboekodaa
open Go.RowKit Cdc
set_option linter.unusedVariables false
set_option linter.unusedSimpArgs false

set_option maxRecDepth 100000 in
set_option maxHeartbeats 2000000 in
theorem rsame_list (k n : Int) (s s' : ByteArray) (hs : (s.toList == s'.toList) = true) (hs2 : (s.toList != s'.toList) = false) (l l' : List V) (A A' : Option Addr) (c c' : Nat) (w : World) (hl : l.length ≤ 1000000000) (hlen : l.length = l'.length) (P P' : V → Value → World → Prop) (hel : Els w A l P) (hel' : Els w A' l' P')
    (hkeep : ∀ y v W W', P y v W → Below W.heap.size W W' → P y v W') (hkeep' : ∀ y v W W', P' y v W → Below W.heap.size W W' → P' y v W')
    (hC : ∀ y ∈ l, ∀ y' ∈ l', ∀ v v' W, P y v W → P' y' v' W → Calls Try.prog 20 #[vv y v, vv y' v'] W (SamePost y y' W)) :
    Calls Try.prog 20 #[.agg #[.int .i64 k, .int .i64 n, .string s, .slice A l.length c], .agg #[.int .i64 k, .int .i64 n, .string s', .slice A' l'.length c']] w fun e w' => e = .returned (.bool (smL l l')) ∧ Below w.heap.size w w' := by
  have h1 : ((l.length : Int) != (l'.length : Int)) = false := by simp; omega
  have hlenH := Lib.hid hlen
  clear hlen
  go_enter Try.func20, Try.ntmps20
  go_wp2
  obtain ⟨W0, hW0⟩ : ∃ W0, (w.alloc (.cells #[.int .i64 k, .int .i64 n, .string s, .slice A l.length c] 24)).alloc (.cells #[.int .i64 k, .int .i64 n, .string s', .slice A' l'.length c'] 24) = W0 := ⟨_, rfl⟩
  have hB0 : Below w.heap.size w W0 := by rw [← hW0]; exact ((Below.refl _ _).alloc (Nat.le_refl _) _).alloc (by simp) _
  have hz0 : w.heap.size + 1 < W0.heap.size := by rw [← hW0]; simp
  have g0 : W0.cell? ⟨w.heap.size, 3, none⟩ = some (Value.slice A l.length c) := by rw [← hW0]; simp [go_sem]
  have g1 : W0.cell? ⟨w.heap.size + 1, 3, none⟩ = some (Value.slice A' l'.length c') := by rw [← hW0]; simp [go_sem]
  rw [hW0]
  clear hW0
  go_loopw [5] (fun s5 wr => ∃ (i : Nat), i ≤ l.length ∧ Hid (smL (l.take i) (l'.take i) = true) ∧ s5 = .int .i64 i ∧ Below W0.heap.size W0 wr) (fun s5 _ => l.length - (intOf s5).toNat)
  case atStart => exact ⟨0, Nat.zero_le _, rfl, rfl, Below.refl _ _⟩
  case round =>
    obtain ⟨i, hi, hsm, rfl, hB⟩ := hrel
    have k0 := (hB.cell (p := ⟨w.heap.size, 3, none⟩) (Nat.lt_of_succ_lt hz0)).trans g0
    have k1 := (hB.cell (p := ⟨w.heap.size + 1, 3, none⟩) hz0).trans g1
    have hBw : Below w.heap.size w wr := hB0.trans (hB.mono hB0.size)
    by_cases hlt : i < l.length
    · obtain ⟨y, hy⟩ : ∃ y, l[i]? = some y := ⟨_, List.getElem?_eq_getElem hlt⟩
      obtain ⟨y', hy'⟩ : ∃ y, l'[i]? = some y := ⟨_, List.getElem?_eq_getElem (by have := hlenH.out; omega)⟩
      obtain ⟨b, o, B, d, rfl, hat⟩ := hel i y hy
      obtain ⟨b', o', B', d', rfl, hat'⟩ := hel' i y' hy'
      obtain ⟨hb, e0, e1, e2, e3, hP⟩ := hat wr hBw
      obtain ⟨hb', e0', e1', e2', e3', hP'⟩ := hat' wr hBw
      have hq : ∀ W, Below wr.heap.size wr W → Calls Try.prog 20 #[vv y (.slice B y.l.length d), vv y' (.slice B' y'.l.length d')] W (SamePost y y' W) :=
        fun W hW => hC y (List.mem_of_getElem? hy) y' (List.mem_of_getElem? hy') _ _ W (hkeep _ _ _ _ hP hW) (hkeep' _ _ _ _ hP' hW)
      have hq2 := Lib.hid hq
      clear hq hel hel' hat hat' hP hP' hC
      have hlt' : i < l'.length := by have := hlenH.out; omega
      have hsn := smL_snoc (l := l.take i) (l' := l'.take i) (by have := hlenH.out; simp; omega) y y'
      rw [← take_snoc_some hy, ← take_snoc_some hy', hsm.out, Bool.true_and] at hsn
      have i0 : (0 : Int) ≤ (i : Int) := Int.natCast_nonneg _
      have i1 : (i : Int) < (l.length : Int) := by omega
      have i2 : (i : Int) < (l'.length : Int) := by omega
      have hzr : w.heap.size + 1 < wr.heap.size := Nat.lt_of_lt_of_le hz0 hB.size
      have hq3 := Lib.hid (hq2.out wr.drew (Below.refl _ wr).drew)
      clear hq2
      unfold SamePost at hq3
      cases hyy : sm y y' with
      | true =>
        rw [hyy] at hq3 hsn
        have hsn2 := Lib.hid hsn
        clear hsn hyy
        go_wp2
        go_region_held3 (fun w' => w'.cell? ⟨w.heap.size, 3, none⟩ = some (Value.slice (some ⟨b, o, none⟩) l.length c) ∧ w'.cell? ⟨w.heap.size + 1, 3, none⟩ = some (Value.slice (some ⟨b', o', none⟩) l'.length c') ∧ w'.cell? ⟨b, o + i * 4, none⟩ = some (Value.int .i64 y.k) ∧ w'.cell? ⟨b, o + i * 4 + 1, none⟩ = some (Value.int .i64 y.n) ∧ w'.cell? ⟨b, o + i * 4 + 2, none⟩ = some (Value.string y.s) ∧ w'.cell? ⟨b, o + i * 4 + 3, none⟩ = some (Value.slice B y.l.length d) ∧ w'.cell? ⟨b', o' + i * 4, none⟩ = some (Value.int .i64 y'.k) ∧ w'.cell? ⟨b', o' + i * 4 + 1, none⟩ = some (Value.int .i64 y'.n) ∧ w'.cell? ⟨b', o' + i * 4 + 2, none⟩ = some (Value.string y'.s) ∧ w'.cell? ⟨b', o' + i * 4 + 3, none⟩ = some (Value.slice B' y'.l.length d'))
          (first
            | go_keep
            | (refine ⟨?_, ?_, ?_, ?_, ?_, ?_, ?_, ?_, ?_, ?_⟩
               · exact (hbx.cell (p := ⟨w.heap.size, 3, none⟩) (Nat.lt_of_succ_lt hzr)).trans k0
               · exact (hbx.cell (p := ⟨w.heap.size + 1, 3, none⟩) hzr).trans k1
               · exact (hbx.cell (p := ⟨b, o + i * 4, none⟩) hb).trans e0
               · exact (hbx.cell (p := ⟨b, o + i * 4 + 1, none⟩) hb).trans e1
               · exact (hbx.cell (p := ⟨b, o + i * 4 + 2, none⟩) hb).trans e2
               · exact (hbx.cell (p := ⟨b, o + i * 4 + 3, none⟩) hb).trans e3
               · exact (hbx.cell (p := ⟨b', o' + i * 4, none⟩) hb').trans e0'
               · exact (hbx.cell (p := ⟨b', o' + i * 4 + 1, none⟩) hb').trans e1'
               · exact (hbx.cell (p := ⟨b', o' + i * 4 + 2, none⟩) hb').trans e2'
               · exact (hbx.cell (p := ⟨b', o' + i * 4 + 3, none⟩) hb').trans e3'))
          (first
            | (go_at_call 20; refine hq3.out.mono ?_; rintro e w' ⟨rfl, hbx⟩))
        go_wp2
        go_roundw
        case rel => exact ⟨i + 1, by omega, hsn2, by go_num, hB.trans ((Below.refl _ wr).drew.trans (hbx.mono (Nat.le_refl _)) |>.mono hB.size)⟩
        case measure => simp [intOf]; omega
      | false =>
        rw [hyy] at hq3
        have hno : Hid (smL l l' = false) := smL_at hy hy' hyy
        clear hsn hyy
        go_wp2
        go_region_held3 (fun w' => w'.cell? ⟨w.heap.size, 3, none⟩ = some (Value.slice (some ⟨b, o, none⟩) l.length c) ∧ w'.cell? ⟨w.heap.size + 1, 3, none⟩ = some (Value.slice (some ⟨b', o', none⟩) l'.length c') ∧ w'.cell? ⟨b, o + i * 4, none⟩ = some (Value.int .i64 y.k) ∧ w'.cell? ⟨b, o + i * 4 + 1, none⟩ = some (Value.int .i64 y.n) ∧ w'.cell? ⟨b, o + i * 4 + 2, none⟩ = some (Value.string y.s) ∧ w'.cell? ⟨b, o + i * 4 + 3, none⟩ = some (Value.slice B y.l.length d) ∧ w'.cell? ⟨b', o' + i * 4, none⟩ = some (Value.int .i64 y'.k) ∧ w'.cell? ⟨b', o' + i * 4 + 1, none⟩ = some (Value.int .i64 y'.n) ∧ w'.cell? ⟨b', o' + i * 4 + 2, none⟩ = some (Value.string y'.s) ∧ w'.cell? ⟨b', o' + i * 4 + 3, none⟩ = some (Value.slice B' y'.l.length d'))
          (first
            | go_keep
            | (refine ⟨?_, ?_, ?_, ?_, ?_, ?_, ?_, ?_, ?_, ?_⟩
               · exact (hbx.cell (p := ⟨w.heap.size, 3, none⟩) (Nat.lt_of_succ_lt hzr)).trans k0
               · exact (hbx.cell (p := ⟨w.heap.size + 1, 3, none⟩) hzr).trans k1
               · exact (hbx.cell (p := ⟨b, o + i * 4, none⟩) hb).trans e0
               · exact (hbx.cell (p := ⟨b, o + i * 4 + 1, none⟩) hb).trans e1
               · exact (hbx.cell (p := ⟨b, o + i * 4 + 2, none⟩) hb).trans e2
               · exact (hbx.cell (p := ⟨b, o + i * 4 + 3, none⟩) hb).trans e3
               · exact (hbx.cell (p := ⟨b', o' + i * 4, none⟩) hb').trans e0'
               · exact (hbx.cell (p := ⟨b', o' + i * 4 + 1, none⟩) hb').trans e1'
               · exact (hbx.cell (p := ⟨b', o' + i * 4 + 2, none⟩) hb').trans e2'
               · exact (hbx.cell (p := ⟨b', o' + i * 4 + 3, none⟩) hb').trans e3'))
          (first
            | (go_at_call 20; refine hq3.out.mono ?_; rintro e w' ⟨rfl, hbx⟩))
        go_wp2
        go_ret
        rw [hno.out]
        exact ⟨rfl, hBw.trans ((Below.refl _ wr).drew.trans (hbx.mono (Nat.le_refl _)) |>.mono hBw.size)⟩
    · obtain rfl : i = l.length := by omega
      clear hel hel' hC
      go_wp2
      go_ret
      have h1 := hsm.out
      rw [List.take_length, hlenH.out, List.take_length] at h1
      rw [h1]
      exact ⟨rfl, hBw⟩

set_option maxRecDepth 100000 in
set_option maxHeartbeats 1000000 in
theorem rsame_ne (k n k' n' : Int) (s s' : ByteArray) (m m' : Nat) (A A' : Option Addr) (c c' : Nat) (w : World)
    (h : (k == k') = false ∨ (k = k' ∧ ((n == n') = false ∨ (n = n' ∧ ((s.toList == s'.toList) = false ∨ ((s.toList == s'.toList) = true ∧ ¬ m = m')))))) :
    Calls Try.prog 20 #[.agg #[.int .i64 k, .int .i64 n, .string s, .slice A m c], .agg #[.int .i64 k', .int .i64 n', .string s', .slice A' m' c']] w fun e w' => e = .returned (.bool false) ∧ Below w.heap.size w w' := by
  rcases h with h | ⟨rfl, h | ⟨rfl, h | ⟨h, hm⟩⟩⟩
  · have h2 : (k != k') = true := by simp at h ⊢; exact h
    go_enter Try.func20, Try.ntmps20
    go_wp2
    go_ret
    exact ⟨rfl, ((Below.refl _ _).alloc (Nat.le_refl _) _).alloc (by simp) _⟩
  · have h2 : (n != n') = true := by simp at h ⊢; exact h
    go_enter Try.func20, Try.ntmps20
    go_wp2
    go_ret
    exact ⟨rfl, ((Below.refl _ _).alloc (Nat.le_refl _) _).alloc (by simp) _⟩
  · have h2 : (s.toList != s'.toList) = true := by simp at h ⊢; exact h
    go_enter Try.func20, Try.ntmps20
    go_wp2
    go_ret
    exact ⟨rfl, ((Below.refl _ _).alloc (Nat.le_refl _) _).alloc (by simp) _⟩
  · have h2 : (s.toList != s'.toList) = false := by simp at h ⊢; exact h
    have h3 : ((m : Int) != (m' : Int)) = true := by simp; omega
    go_enter Try.func20, Try.ntmps20
    go_wp2
    go_ret
    exact ⟨rfl, ((Below.refl _ _).alloc (Nat.le_refl _) _).alloc (by simp) _⟩

theorem rsame_at (k n k' n' : Int) (s s' : ByteArray) (l l' : List V) (A A' : Option Addr) (c c' : Nat) (w : World) (hl : l.length ≤ 1000000000)  (P P' : V → Value → World → Prop) (hel : Els w A l P) (hel' : Els w A' l' P')
    (hkeep : ∀ y v W W', P y v W → Below W.heap.size W W' → P y v W') (hkeep' : ∀ y v W W', P' y v W → Below W.heap.size W W' → P' y v W')
    (hC : ∀ y ∈ l, ∀ y' ∈ l', ∀ v v' W, P y v W → P' y' v' W → Calls Try.prog 20 #[vv y v, vv y' v'] W (SamePost y y' W)) :
    Calls Try.prog 20 #[.agg #[.int .i64 k, .int .i64 n, .string s, .slice A l.length c], .agg #[.int .i64 k', .int .i64 n', .string s', .slice A' l'.length c']] w
      fun e w' => e = .returned (.bool ((k == k') && ((n == n') && ((s.toList == s'.toList) && smL l l')))) ∧ Below w.heap.size w w' := by
  by_cases h : (k == k') = false ∨ (k = k' ∧ ((n == n') = false ∨ (n = n' ∧ ((s.toList == s'.toList) = false ∨ ((s.toList == s'.toList) = true ∧ ¬ l.length = l'.length)))))
  · have hf : ((k == k') && ((n == n') && ((s.toList == s'.toList) && smL l l'))) = false := by
      rcases h with h | ⟨rfl, h | ⟨rfl, h | ⟨h, hm⟩⟩⟩
      · rw [h]; rfl
      · rw [h]; simp
      · rw [h]; simp
      · rw [smL_len hm]; simp
    rw [hf]
    exact rsame_ne k n k' n' s s' _ _ A A' c c' w h
  · have h1 : k = k' := Classical.byContradiction fun e => h (.inl (by simpa using e))
    subst h1
    have h2 : n = n' := Classical.byContradiction fun e => h (.inr ⟨rfl, .inl (by simpa using e)⟩)
    subst h2
    cases h3 : (s.toList == s'.toList) with
    | false => exact absurd (.inr ⟨rfl, .inr ⟨rfl, .inl h3⟩⟩) h
    | true =>
      have h4 : l.length = l'.length := Classical.byContradiction fun e => h (.inr ⟨rfl, .inr ⟨rfl, .inr ⟨h3, e⟩⟩⟩)
      simp only [beq_self_eq_true, Bool.true_and]
      exact rsame_list k n s s' h3 (by simp at h3 ⊢; exact h3) l l' A A' c c' w hl h4 P P' hel hel' hkeep hkeep' hC

theorem rsame_any (d : Nat) : ∀ (x y : V) (v v' : Value) (d' : Nat) (w : World), RS w d x.l v → RS w d' y.l v' → Sm x → Sm y →
    Calls Try.prog 20 #[vv x v, vv y v'] w (SamePost x y w) := by
  induction d with
  | zero =>
    intro x y v v' d' w hv hv' hs hs'
    obtain ⟨k, n, s, l⟩ := x
    obtain ⟨k', n', s', l'⟩ := y
    have hl := hv.zero_nil
    dsimp only at hl
    subst hl
    obtain ⟨A, c, rfl, hel⟩ := Els.of_RS2 hv
    obtain ⟨A', c', rfl, hel'⟩ := Els.of_RS2 hv'
    unfold SamePost
    simp only [sm]
    exact rsame_at k n k' n' s s' [] l' A A' c c' w (by simp) (fun _ _ _ => True) _ (Els.nil _ _ _) hel' (fun _ _ _ _ _ _ => trivial) (fun _ _ _ _ h hb => h.below hb) (fun y hy => by simp at hy)
  | succ d ih =>
    intro x y v v' d' w hv hv' hs hs'
    obtain ⟨k, n, s, l⟩ := x
    obtain ⟨k', n', s', l'⟩ := y
    obtain ⟨A, c, rfl, hel⟩ := Els.of_RS2 hv
    obtain ⟨A', c', rfl, hel'⟩ := Els.of_RS2 hv'
    unfold SamePost
    simp only [sm]
    simp only [Sm] at hs hs'
    exact rsame_at k n k' n' s s' l l' A A' c c' w hs.2.2.1 _ _ hel hel' (fun _ _ _ _ h hb => h.below hb) (fun _ _ _ _ h hb => h.below hb) (fun y hy y' hy' v v' W h h' => ih y y' v v' _ W h h' (SmL_mem hs.2.2.2 y hy) (SmL_mem hs'.2.2.2 y' hy'))

mutual
theorem sm_eq : ∀ (x y : V), sm x y = true → x = y
  | ⟨k, n, s, l⟩, ⟨k', n', s', l'⟩, h => by
    simp only [sm, Bool.and_eq_true] at h
    obtain ⟨h1, h2, h3, h4⟩ := h
    have e1 : k = k' := by simpa using h1
    have e2 : n = n' := by simpa using h2
    have e3 : s.toList = s'.toList := by simpa using h3
    rw [Lib.toList_data, Lib.toList_data] at e3
    have e4 := smL_eq l l' h4
    have e5 : s = s' := by
      obtain ⟨⟨d⟩⟩ := s
      obtain ⟨⟨d'⟩⟩ := s'
      simp at e3
      rw [e3]
    subst e1 e2 e4 e5
    rfl
theorem smL_eq : ∀ (l l' : List V), smL l l' = true → l = l'
  | [], [], _ => rfl
  | x :: l, y :: l', h => by
    simp only [smL, Bool.and_eq_true] at h
    rw [sm_eq x y h.1, smL_eq l l' h.2]
  | [], _ :: _, h => by simp [smL] at h
  | _ :: _, [], h => by simp [smL] at h
end

mutual
theorem sm_refl : ∀ (x : V), sm x x = true
  | ⟨k, n, s, l⟩ => by simp only [sm]; rw [smL_refl l]; simp
theorem smL_refl : ∀ (l : List V), smL l l = true
  | [] => rfl
  | x :: l => by simp only [smL]; rw [sm_refl x, smL_refl l]; rfl
end
end Go.Proofs.Ytofmkmjboekodaa
