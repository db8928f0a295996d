/- The walk of the reference's Value at lists; Value of any bytes. -/
import Derived.Test.YtofmkmjboekodaaRText
namespace Go.Proofs.Ytofmkmjboekodaa
open Go.RowKit Cdc
set_option linter.unusedVariables false
set_option linter.unusedSimpArgs false

theorem pV_list {D : Nat} {b : List UInt8} {k u k' : Nat} (hx : b[k]? = some 3) (hp : pN 0 0 (b.drop (k + 1)) = some (u, b.drop k')) (hle : u ≤ b.length - k') :
    pV (D + 1) (b.drop k) = (pL (pV D) u (b.drop k')).map fun (l, r'') => (⟨3, 0, ⟨#[]⟩, l⟩, r'') := by
  rw [drop_cons hx]
  unfold pV
  rw [if_neg (by decide), if_neg (by decide), if_pos (by decide)]
  simp only
  rw [hp]
  simp only
  rw [if_pos (by rw [List.length_drop]; exact hle)]

theorem pV_list_bad {D : Nat} {b : List UInt8} {k : Nat} (hx : b[k]? = some 3) (h : D = 0 ∨ pN 0 0 (b.drop (k + 1)) = none ∨ ∃ u k', pN 0 0 (b.drop (k + 1)) = some (u, b.drop k') ∧ ¬ u ≤ b.length - k') :
    pV D (b.drop k) = none := by
  rw [drop_cons hx]
  unfold pV
  rw [if_neg (by decide), if_neg (by decide), if_pos (by decide)]
  cases D with
  | zero => rfl
  | succ D =>
    simp only
    rcases h with h | h | ⟨u, k', h, h2⟩
    · cases h
    · rw [h]
    · rw [h]
      simp only
      rw [if_neg (by rw [List.length_drop]; exact h2)]

set_option maxRecDepth 100000 in
set_option maxHeartbeats 2000000 in
/-- a list that is refused ahead of its elements -/
theorem rvalue_lbad (B r D : Nat) (hD : D ≤ 16) (b : List UInt8) (k : Nat) (w : World) (h : RAt w B r b k false) (hx : b[k]? = some 3) (hl : b.length ≤ 1000000000000)
    (hno : D = 0 ∨ pN 0 0 (b.drop (k + 1)) = none ∨ ∃ u k', pN 0 0 (b.drop (k + 1)) = some (u, b.drop k') ∧ ¬ u ≤ b.length - k') :
    Calls Try.prog 34 #[.pointer (some ⟨r, 0, none⟩), .int .i64 (16 - D : Nat)] w (RValPost w B r D b k) := by
  have hrlt := h.lt
  have hBl := h.le
  have hne : w.heap.size ≠ r := by omega
  have hb0 : 0 < b.length := by have := (List.getElem?_eq_some_iff.1 hx).1; omega
  have hn := Lib.hid (rhead_ok B r b k 3 w h hx hl)
  have hm := Lib.hid (fun w1 hh => rnum_head B r b (k + 1) w w1 hh hne hl)
  have hpv := Lib.hid (pV_list_bad (D := D) hx hno)
  have hnoH := Lib.hid hno
  obtain ⟨dd, hdd⟩ : ∃ dd : Nat, 16 - D = dd := ⟨_, rfl⟩
  have hdz : D = 0 → dd = 16 := by omega
  have hdH := Lib.hid hdz
  have hd16 : dd ≤ 16 := by omega
  rw [hdd]
  clear h hx hno hdd hdz
  go_enter Try.func34, Try.ntmps34
  go_wp2_with fail
  refine hn.out.mono ?_
  rintro e w1 ⟨rfl, hh⟩
  have hk := hm.out w1 hh
  obtain ⟨⟨q0, q1, q2, q3⟩, f0, f1, f2, f3⟩ := cells4 hh.blk
  go_wp2_with fail
  refine hk.mono ?_
  rintro e w2 ⟨u, k', bad, hu, rfl, hh2, hcase⟩
  clear q0 q1 q2 q3 f0 f1 f2 f3 hk hh hn hm
  obtain ⟨⟨q0, q1, q2, q3⟩, f0, f1, f2, f3⟩ := cells4 hh2.blk
  have hkle := hh2.rd.kle
  obtain ⟨ab, ao, c, hc1, hc2, hc3⟩ := hh2.rd.addr hb0
  obtain ⟨⟨p0, p1, p2⟩, z1, z2⟩ := cells3 hc1
  have W1 : IntKind.i64.wrap ((b.length : Int) - (k' : Int)) = (b.length : Int) - (k' : Int) := IntWalk.i64_in _ (by omega)
  have W2 : IntKind.u64.wrap ((b.length : Int) - (k' : Int)) = (b.length : Int) - (k' : Int) := by rw [wrap_u64]; omega
  have hblkd : ∀ (n o : Nat) (v : Value), ((w2.drewN n).setCell ⟨r, o, none⟩ v).heap[w.heap.size]? = some (.cells #[.int .i64 0, .int .i64 0, .string ⟨#[]⟩, .slice none 0 0] 24 (0, 0)) := fun n o v => (heap_setCell_other (w2.drewN n) ⟨r, o, none⟩ _ _ hne).trans hh2.blk
  replace hblkd := Lib.hid hblkd
  have hg : (bad = true) ∨ (bad = false ∧ decide ((b.length : Int) - (k' : Int) < (u : Int)) = true) ∨ (bad = false ∧ decide ((b.length : Int) - (k' : Int) < (u : Int)) = false ∧ dd = 16) := by
    rcases hcase with ⟨rfl, h2⟩ | ⟨h1, h2⟩
    · right
      by_cases hlt : (b.length : Int) - (k' : Int) < (u : Int)
      · exact .inl ⟨rfl, by simp only [decide_eq_true_eq]; exact hlt⟩
      · refine .inr ⟨rfl, by simp only [decide_eq_false_iff_not]; exact hlt, ?_⟩
        rcases hnoH.out with h | h | ⟨u2, k2, h3, h4⟩
        · exact hdH.out h
        · rw [h2] at h; cases h
        · rw [h2] at h3
          injection h3 with h3
          injection h3 with h5 h6
          exfalso
          have hlen : (b.drop k').length = (b.drop k2).length := by rw [h6]
          rw [List.length_drop, List.length_drop] at hlen
          omega
    · exact .inl h1
  clear hcase hc1 hc3 hnoH hdH
  rcases hg with rfl | ⟨rfl, hg⟩ | ⟨rfl, hg, rfl⟩
  all_goals
    go_wp2_with fail
    go_quiet (fail)
    go_wp2_with fail
    obtain ⟨hs1, hs2⟩ := (hh2.rd.drewN nq).setBad
    obtain ⟨hR3, hrd3⟩ := rall4_rd (hh2.R.trans hs2.fromDrewN) hs1 (Nat.le_refl _) hne hBl (.int .i64 0) (.int .i64 0) (.string ⟨#[]⟩) (.slice none 0 0)
    exact rvalue_end rfl rfl (all4_heap (hblkd.out nq _ _) _ _ _ _) ⟨hR3, ⟨0, 0, ⟨#[]⟩, []⟩, _, rfl, RSb.nil _ _ _, .inr ⟨hpv.out, k', hrd3⟩⟩

/-- Value at a deeper place: what the loop needs -/
theorem relem (B r D : Nat) (b : List UInt8) (m : Nat) (d2 : Nat) (hd2 : d2 ≤ 16) (wr : World) (vb : Nat) (row : Value) (hR : RAt wr B r b m false) (hvb : vb < wr.heap.size) (hvr : vb ≠ r)
    (hblk : wr.heap[vb]? = some (.cells #[.int .i64 3, .int .i64 0, .string ⟨#[]⟩, row] 24 (0, 0)))
    (ih : ∀ (W : World) (k : Nat), RAt W B r b k false → Calls Try.prog 34 #[.pointer (some ⟨r, 0, none⟩), .int .i64 d2] W (RValPost W B r D b k)) :
    Calls Try.prog 34 #[.pointer (some ⟨r, 0, none⟩), .int .i64 (IntKind.i64.wrap (d2 : Int))] wr.drew fun e w' => ∃ (x : V) (A : Option Addr) (c : Nat), e = .returned (vv x (.slice A x.l.length c)) ∧ Rd wr w' r ∧
      RSb (fun j => wr.heap.size ≤ j ∧ j < w'.heap.size) w' D x.l (.slice A x.l.length c) ∧ w'.heap[vb]? = some (.cells #[.int .i64 3, .int .i64 0, .string ⟨#[]⟩, row] 24 (0, 0)) ∧
      ((∃ m', pV D (b.drop m) = some (x, b.drop m') ∧ RAt w' B r b m' false) ∨ (pV D (b.drop m) = none ∧ ∃ m', RAt w' B r b m' true)) := by
  rw [wrap_i64_small d2 hd2]
  refine (ih wr.drew m hR.drew).mono ?_
  rintro e w' ⟨h1, x, v', h2, h3, h4⟩
  obtain ⟨A, c, rfl⟩ := h3.form
  exact ⟨x, A, c, h2, h1.fromDrew, h3, (h1.block _ hvb (fun e => by injection e with e; exact hvr e)).trans hblk, h4⟩

set_option maxRecDepth 100000 in
set_option maxHeartbeats 4000000 in
theorem rvalue_list (B r D : Nat) (hD : D < 16) (b : List UInt8) (k : Nat) (w : World) (h : RAt w B r b k false) (hx : b[k]? = some 3) (hl : b.length ≤ 100000000) (u0 k0 : Nat)
    (hok : pN 0 0 (b.drop (k + 1)) = some (u0, b.drop k0) ∧ u0 ≤ b.length - k0) (hk0 : k0 ≤ b.length)
    (ih : ∀ (W : World) (k : Nat), RAt W B r b k false → Calls Try.prog 34 #[.pointer (some ⟨r, 0, none⟩), .int .i64 (16 - D : Nat)] W (RValPost W B r D b k)) :
    Calls Try.prog 34 #[.pointer (some ⟨r, 0, none⟩), .int .i64 (15 - D : Nat)] w (RValPost w B r (D + 1) b k) := by
  have hrlt := h.lt
  have hBl := h.le
  have hne : w.heap.size ≠ r := by omega
  have hb0 : 0 < b.length := by have := (List.getElem?_eq_some_iff.1 hx).1; omega
  have hn := Lib.hid (rhead_ok B r b k 3 w h hx (by omega))
  have hm : ∀ w1, RHead w w1 B r b (k + 1) false → Calls Try.prog 49 #[.pointer (some ⟨r, 0, none⟩)] w1 fun e w' => ∃ k', e = .returned (.int .u64 u0) ∧ RHead w w' B r b k' false ∧ b.drop k' = b.drop k0 ∧ k' = k0 := by
    intro w1 hh
    refine (rnum_head B r b (k + 1) w w1 hh hne (by omega)).mono ?_
    rintro e w' ⟨u, k', bad, hu, rfl, hh2, hc⟩
    rcases hc with ⟨rfl, h2⟩ | ⟨_, h2⟩
    · rw [hok.1] at h2
      injection h2 with h2
      injection h2 with h3 h4
      subst h3
      have hlen : (b.drop k').length = (b.drop k0).length := by rw [h4]
      rw [List.length_drop, List.length_drop] at hlen
      have hkle := hh2.rd.kle
      exact ⟨k', rfl, hh2, h4.symm, by omega⟩
    · rw [hok.1] at h2; cases h2
  have hpv := Lib.hid (pV_list (D := D) hx hok.1 hok.2)
  have hle := hok.2
  have hu := (pN_len hok.1).2
  obtain ⟨dd, hdd⟩ : ∃ dd : Nat, 15 - D = dd := ⟨_, rfl⟩
  obtain ⟨d2, hd2⟩ : ∃ dd : Nat, 16 - D = dd := ⟨_, rfl⟩
  have hd12 : ((dd : Int) + 1) = (d2 : Int) := by omega
  have hd3 : d2 ≤ 16 := by omega
  have hdn : ((dd : Int) == 16) = false := by simp; omega
  rw [hdd]
  rw [hd2] at ih
  replace ih := Lib.hid ih
  replace hm := Lib.hid hm
  clear h hx hok hdd hd2
  go_enter Try.func34, Try.ntmps34
  go_wp2_with fail
  refine hn.out.mono ?_
  rintro e w1 ⟨rfl, hh⟩
  have hk := hm.out w1 hh
  obtain ⟨⟨q0, q1, q2, q3⟩, f0, f1, f2, f3⟩ := cells4 hh.blk
  go_wp2_with fail
  refine hk.mono ?_
  rintro e w2 ⟨k', rfl, hh2, _, rfl⟩
  clear q0 q1 q2 q3 f0 f1 f2 f3 hk hh hn hm
  obtain ⟨⟨q0, q1, q2, q3⟩, f0, f1, f2, f3⟩ := cells4 hh2.blk
  obtain ⟨ab, ao, c, hc1, hc2, hc3⟩ := hh2.rd.addr hb0
  obtain ⟨⟨p0, p1, p2⟩, z1, z2⟩ := cells3 hc1
  have Wa : IntKind.i64.wrap ((b.length : Int) - (k' : Int)) = (b.length : Int) - (k' : Int) := IntWalk.i64_in _ (by omega)
  have Wb : IntKind.u64.wrap ((b.length : Int) - (k' : Int)) = (b.length : Int) - (k' : Int) := by rw [wrap_u64]; omega
  have hg : decide ((b.length : Int) - (k' : Int) < (u0 : Int)) = false := by simp only [decide_eq_false_iff_not]; omega
  clear hc1 hc3
  go_wp2_with fail
  go_quiet (fail)
  have hh3 : RHead w (w2.drewN nq) B r b k' false := ⟨hh2.rd.drewN nq, hh2.R.toDrewN, hh2.blk⟩
  clear q0 q1 q2 q3 f0 f1 f2 f3 p0 p1 p2 z1 z2 hh2
  generalize w2.drewN nq = W2 at *
  have hrv := hh3.rd.lt
  have hwv : w.heap.size < W2.heap.size := (Array.getElem?_eq_some_iff.1 hh3.blk).1
  have hvr : W2.heap.size ≠ r := by omega
  have hBv : B ≤ W2.heap.size := hh3.rd.le
  have hA0 : RAt (W2.alloc (.cells #[.int .i64 3, .int .i64 0, .string ⟨#[]⟩, .slice none 0 0] 24)) B r b k' false := hh3.rd.of (World.grownBy_alloc _ _ _)
  have hR0 : Rd w (W2.alloc (.cells #[.int .i64 3, .int .i64 0, .string ⟨#[]⟩, .slice none 0 0] 24)) r := hh3.R.grown (World.grownBy_alloc _ _ none) (fun g hg => by cases hg)
  have hb0' : (W2.alloc (.cells #[.int .i64 3, .int .i64 0, .string ⟨#[]⟩, .slice none 0 0] 24)).heap[w.heap.size]? = some (.cells #[.int .i64 0, .int .i64 0, .string ⟨#[]⟩, .slice none 0 0] 24 (0, 0)) := (Below.heap_alloc _ _ _ hwv).trans hh3.blk
  have hv0' := heap_alloc_new W2 (.cells #[.int .i64 3, .int .i64 0, .string ⟨#[]⟩, .slice none 0 0] 24)
  have hrow0 := RowV.nil (W2.alloc (.cells #[.int .i64 3, .int .i64 0, .string ⟨#[]⟩, .slice none 0 0] 24)) W2.heap.size D
  replace hA0 := Lib.hid hA0
  replace hR0 := Lib.hid hR0
  replace hb0' := Lib.hid hb0'
  replace hv0' := Lib.hid hv0'
  go_wp2_with fail
  clear hh3 hg hdn
  go_loopw [9] (fun s9 wr => ∃ (i : Nat) (ps : List (V × Value)) (row : Value) (m : Nat) (bad : Bool), i ≤ u0 ∧ s9 = .int .u64 i ∧ ps.length = i ∧ RAt wr B r b m bad ∧ Rd w wr r ∧
      wr.heap[w.heap.size]? = some (.cells #[.int .i64 0, .int .i64 0, .string ⟨#[]⟩, .slice none 0 0] 24 (0, 0)) ∧
      wr.heap[W2.heap.size]? = some (.cells #[.int .i64 3, .int .i64 0, .string ⟨#[]⟩, row] 24 (0, 0)) ∧ RowV wr W2.heap.size D row ps ∧
      Hid ((bad = false ∧ pL (pV D) u0 (b.drop k') = (pL (pV D) (u0 - i) (b.drop m)).map fun q => (ps.map (·.1) ++ q.1, q.2)) ∨ (bad = true ∧ pL (pV D) u0 (b.drop k') = none))) (fun s9 _ => u0 - (intOf s9).toNat)
  case atStart => exact ⟨0, [], _, k', false, Nat.zero_le _, rfl, rfl, hA0.out, hR0.out, hb0'.out, hv0'.out, hrow0, .inl ⟨rfl, by simp⟩⟩
  case round =>
    clear hA0 hR0 hb0' hv0' hrow0
    obtain ⟨i, ps, row, m, bad, hi, rfl, hps, hrd, hR, hblk, hvblk, hrow, hpl⟩ := hrel
    obtain ⟨⟨q0, q1, q2, q3⟩, f0, f1, f2, f3⟩ := cells4 hblk
    obtain ⟨⟨t0, t1, t2, t3⟩, g0, g1, g2, g3⟩ := cells4 hvblk
    obtain ⟨A1, c1, hc1, _⟩ := hrd.cell
    obtain ⟨⟨p0, p1, p2⟩, z1, z2⟩ := cells3 hc1
    have hbs := (Array.getElem?_eq_some_iff.1 hvblk).1
    clear hc1
    by_cases hgo : i < u0 ∧ bad = false
    · obtain ⟨hlt, rfl⟩ := hgo
      have hi3 := Lib.hid (relem B r D b m d2 hd3 wr W2.heap.size row hrd hbs hvr hvblk ih.out)
      have hpl2 : pL (pV D) u0 (b.drop k') = (pL (pV D) ((u0 - (i + 1)) + 1) (b.drop m)).map fun q => (ps.map (·.1) ++ q.1, q.2) := by
        rcases hpl.out with ⟨_, h⟩ | ⟨h, _⟩
        · rw [h, show u0 - i = (u0 - (i + 1)) + 1 from by omega]
        · cases h
      replace hpl2 := Lib.hid hpl2
      clear hpl ih hpv
      go_wp2_with fail
      go_region_law (first
        | (refine step_appV _ (by rfl) (.tmp 129) (.tmp 134) (by rfl) W2.heap.size row ps (x, .slice A' x.l.length c') w2'.heap.size (by rfl) (by rfl) ((hrow.rd hR' (Nat.le_of_lt hrv)).own.alloc _) (heap_alloc_new _ _) ⟨A', c', rfl⟩ (by omega) (by have := hR'.size; simp at this ⊢; omega) ?_; intro row' w3 hown3 hg3 hlie3
           obtain ⟨g3, cap3, rfl, _, _⟩ := hown3.form (by simp)
           have hb3 : w3.heap[W2.heap.size]? = some (.cells #[.int .i64 3, .int .i64 0, .string ⟨#[]⟩, row] 24 (0, 0)) := by
             have z := hR'.size
             rw [hg3.block _ (by simp; omega) (fun e => by have := (hrow.lt e.symm).1; omega), Below.heap_alloc _ _ _ (by omega)]
             exact hblk'
           obtain ⟨⟨s0, s1, s2, s3⟩, _, _, _, e3⟩ := cells4 hb3)
        | (go_simp; go_at_call 34; refine hi3.out.mono ?_; rintro e w2' ⟨x, A', c', rfl, hR', hrs, hblk', hcase⟩; obtain ⟨⟨u0', u1', u2', u3'⟩, _, _, _, v3⟩ := cells4 hblk'; have nn : ∀ o, (w2'.alloc o).cell? ⟨W2.heap.size, 3, none⟩ = some row := fun o => (World.cell?_alloc_lt w2' o ⟨W2.heap.size, 3, none⟩ (Nat.lt_of_lt_of_le hbs hR'.size)).trans u3'))
      all_goals
        have hlen : (ps ++ [(x, Value.slice A' x.l.length c')]).length = i + 1 := by simp [hps]
        have hst : w3.grownBy (w3.setCell ⟨W2.heap.size, 3, none⟩ (.slice (some ⟨g3, 0, none⟩) (i + 1) cap3)) (some W2.heap.size) := ⟨rfl, rfl, rfl, by simp, fun k _ hk => heap_setCell_other w3 ⟨W2.heap.size, 3, none⟩ k _ (fun e => hk (by simp [e]))⟩
        have hrow2 := RowV.step hrow hrv hbs hR' hrs hown3 hg3 hlie3 hst
        rw [hlen] at hrow2
        have hlt3 : ∀ g, row.ownBlock = some g → W2.heap.size < g := fun g hg => (hrow.lt hg).1
        have hsz2 := hR'.size
        have hsz3 := hg3.size
        simp at hsz3
        have hk4 : ∀ j, j < W2.heap.size → (w3.setCell ⟨W2.heap.size, 3, none⟩ (.slice (some ⟨g3, 0, none⟩) (i + 1) cap3)).heap[j]? = w2'.heap[j]? := fun j hj => by
          rw [hst.block j (by omega) (fun e => by injection e with e; omega), hg3.block j (by simp; omega) (fun e => by have := hlt3 j e.symm; omega), Below.heap_alloc _ _ _ (by omega)]
        have hR4 : Rd w (w3.setCell ⟨W2.heap.size, 3, none⟩ (.slice (some ⟨g3, 0, none⟩) (i + 1) cap3)) r :=
          (Rd.grown ((hR.trans hR').grown (World.grownBy_alloc _ _ none) (fun g hg => by cases hg)) hg3 (fun g hg => by have := hlt3 g hg; omega)).set_new _ _ (Nat.le_of_lt hwv)
        have hblk4 : (w3.setCell ⟨W2.heap.size, 3, none⟩ (.slice (some ⟨g3, 0, none⟩) (i + 1) cap3)).heap[w.heap.size]? = some (.cells #[.int .i64 0, .int .i64 0, .string ⟨#[]⟩, .slice none 0 0] 24 (0, 0)) := by
          rw [hk4 _ hwv, hR'.block _ (by omega) (fun e => by injection e with e; exact hne e)]
          exact hblk
        have hvb4 := heap_setCell_same w3 W2.heap.size 3 _ _ (.slice (some ⟨g3, 0, none⟩) (i + 1) cap3) hb3
        have hcase4 : ∃ m' bad', RAt (w3.setCell ⟨W2.heap.size, 3, none⟩ (.slice (some ⟨g3, 0, none⟩) (i + 1) cap3)) B r b m' bad' ∧
            Hid ((bad' = false ∧ pL (pV D) u0 (b.drop k') = (pL (pV D) (u0 - (i + 1)) (b.drop m')).map fun q => ((ps ++ [(x, Value.slice A' x.l.length c')]).map (·.1) ++ q.1, q.2)) ∨ (bad' = true ∧ pL (pV D) u0 (b.drop k') = none)) := by
          have hsz4 : w2'.heap.size ≤ (w3.setCell ⟨W2.heap.size, 3, none⟩ (.slice (some ⟨g3, 0, none⟩) (i + 1) cap3)).heap.size := by simp; omega
          have hkk : ∀ j, j = r ∨ j < B → (w3.setCell ⟨W2.heap.size, 3, none⟩ (.slice (some ⟨g3, 0, none⟩) (i + 1) cap3)).heap[j]? = w2'.heap[j]? := fun j hj => hk4 j (by omega)
          rcases hcase with ⟨m', h1, h2⟩ | ⟨h1, m', h2⟩
          · refine ⟨m', false, h2.keep hsz4 hkk, .inl ⟨rfl, ?_⟩⟩
            rw [List.map_append]
            exact pL_more h1 _ _ hpl2.out
          · exact ⟨m', true, h2.keep hsz4 hkk, .inr ⟨rfl, pL_none h1 _ _ hpl2.out⟩⟩
        obtain ⟨m', bad', hrd4, hpl4⟩ := hcase4
        clear hi3 hcase hrs hown3 hg3 hlie3 hst hk4 q0 q1 q2 q3 f0 f1 f2 f3
        replace hrd4 := Lib.hid hrd4
        replace hR4 := Lib.hid hR4
        replace hblk4 := Lib.hid hblk4
        replace hvb4 := Lib.hid hvb4
        go_wp2_with fail
        go_roundw
        case rel => exact ⟨i + 1, ps ++ [(x, Value.slice A' x.l.length c')], _, m', bad', by omega, by go_num, by simp [hps], hrd4.out, hR4.out, hblk4.out, hvb4.out, hrow2, hpl4⟩
        case measure => simp [intOf]; omega
    · have hrs := hrow.rsb
      obtain ⟨A3, c3, rfl⟩ := hrs.form
      have hmap : (ps.map (·.1)).length = i := by simp [hps]
      rw [hmap] at hvblk t3 hrs
      have hend : RValPost w B r (D + 1) b k (.returned (.agg #[.int .i64 3, .int .i64 0, .string ⟨#[]⟩, .slice A3 i c3])) (all4 wr w.heap.size (.int .i64 3) (.int .i64 0) (.string ⟨#[]⟩) (.slice A3 i c3)) := by
        obtain ⟨hR4, hrd4⟩ := rall4_rd hR hrd (Nat.le_refl _) hne hBl (.int .i64 3) (.int .i64 0) (.string ⟨#[]⟩) (.slice A3 i c3)
        refine ⟨hR4, ⟨3, 0, ⟨#[]⟩, ps.map (·.1)⟩, .slice A3 i c3, rfl, hrs.keep (fun k hk => ⟨by omega, by rw [all4_size]; exact hk.2⟩) (fun k hk => all4_other (by omega) _ _ _ _), ?_⟩
        rcases hpl.out with ⟨h1, h2⟩ | ⟨h1, h2⟩
        · left
          subst h1
          have hiu : i = u0 := by
            apply Classical.byContradiction
            intro h
            exact hgo ⟨by omega, rfl⟩
          refine ⟨m, ?_, hrd4⟩
          rw [hpv.out, h2, hiu, Nat.sub_self]
          simp [pL]
        · right
          subst h1
          refine ⟨?_, m, hrd4⟩
          rw [hpv.out, h2]
          rfl
      replace hend := Lib.hid hend
      have hall := all4_heap (w := wr) hblk (.int .i64 3) (.int .i64 0) (.string ⟨#[]⟩) (.slice A3 i c3)
      replace hall := Lib.hid hall
      have hcond : (bad = true ∧ i < u0) ∨ (bad = true ∧ ¬ i < u0) ∨ (bad = false ∧ ¬ i < u0) := by
        cases bad with
        | true =>
          by_cases h : i < u0
          · exact .inl ⟨rfl, h⟩
          · exact .inr (.inl ⟨rfl, h⟩)
        | false => exact .inr (.inr ⟨rfl, fun h => hgo ⟨h, rfl⟩⟩)
      clear hpl ih hpv hgo hrow hrs hrd hR hblk hvblk hmap
      rcases hcond with ⟨rfl, hc⟩ | ⟨rfl, hc⟩ | ⟨rfl, hc⟩
      all_goals
        go_wp2_with fail
        exact rvalue_end rfl rfl hall.out hend.out

theorem drop_of {b rest : List UInt8} {k u : Nat} (h : pN 0 0 (b.drop (k + 1)) = some (u, rest)) (hk : k < b.length) : ∃ k0, k0 ≤ b.length ∧ rest = b.drop k0 := by
  obtain ⟨h1, _⟩ := pN0_some h
  have hlen : (b.drop (k + 1)).length = (num u).length + rest.length := by rw [h1, List.length_append]
  rw [List.length_drop] at hlen
  refine ⟨k + 1 + (num u).length, by omega, ?_⟩
  rw [← List.drop_drop, h1, List.drop_left]

theorem rvalue_any (B r : Nat) (b : List UInt8) (hl : b.length ≤ 100000000) (D : Nat) : D ≤ 16 → ∀ (W : World) (k : Nat), RAt W B r b k false →
    Calls Try.prog 34 #[.pointer (some ⟨r, 0, none⟩), .int .i64 (16 - D : Nat)] W (RValPost W B r D b k) := by
  have step : ∀ (D : Nat) (W : World) (k : Nat), D ≤ 16 → RAt W B r b k false → (∀ x, b[k]? = some x → x.toNat = 3 → Calls Try.prog 34 #[.pointer (some ⟨r, 0, none⟩), .int .i64 (16 - D : Nat)] W (RValPost W B r D b k)) →
      Calls Try.prog 34 #[.pointer (some ⟨r, 0, none⟩), .int .i64 (16 - D : Nat)] W (RValPost W B r D b k) := by
    intro D W k hD h h3
    by_cases hk : k < b.length
    · obtain ⟨x, hx⟩ : ∃ x, b[k]? = some x := ⟨_, List.getElem?_eq_getElem hk⟩
      by_cases e1 : x.toNat = 1
      · have : x = 1 := by rw [← UInt8.toNat_inj]; exact e1
        subst this
        exact rvalue_int B r D _ b k W h hx (by omega)
      · by_cases e2 : x.toNat = 2
        · have : x = 2 := by rw [← UInt8.toNat_inj]; exact e2
          subst this
          exact rvalue_text B r D _ b k W h hx (by omega)
        · by_cases e3 : x.toNat = 3
          · exact h3 x hx e3
          · refine rvalue_bad B r D _ b k (k + 1) false x.toNat W h.lt h.le ⟨e1, e2, e3⟩ ?_ (rhead_ok B r b k x W h hx (by omega))
            rw [drop_cons hx]
            unfold pV
            rw [if_neg e1, if_neg e2, if_neg e3]
    · have hkl : k = b.length := by have := h.kle; omega
      subst hkl
      refine rvalue_bad B r D _ b b.length b.length true 0 W h.lt h.le ⟨by decide, by decide, by decide⟩ ?_ (rhead_end B r b W h)
      rw [List.drop_length]
      cases D <;> rfl
  induction D with
  | zero =>
    intro hD W k h
    refine step 0 W k hD h fun x hx e3 => ?_
    have : x = 3 := by rw [← UInt8.toNat_inj]; exact e3
    subst this
    exact rvalue_lbad B r 0 (by omega) b k W h hx (by omega) (.inl rfl)
  | succ D ih =>
    intro hD W k h
    refine step (D + 1) W k hD h fun x hx e3 => ?_
    have : x = 3 := by rw [← UInt8.toNat_inj]; exact e3
    subst this
    have hk := (List.getElem?_eq_some_iff.1 hx).1
    cases hp : pN 0 0 (b.drop (k + 1)) with
    | none => exact rvalue_lbad B r (D + 1) hD b k W h hx (by omega) (.inr (.inl hp))
    | some y =>
      obtain ⟨u, rest⟩ := y
      obtain ⟨k0, hk0, rfl⟩ := drop_of hp hk
      by_cases hle : u ≤ b.length - k0
      · have e : 16 - (D + 1) = 15 - D := by omega
        rw [e]
        exact rvalue_list B r D (by omega) b k W h hx hl u k0 ⟨hp, hle⟩ hk0 fun W k h => ih (by omega) W k h
      · exact rvalue_lbad B r (D + 1) hD b k W h hx (by omega) (.inr (.inr ⟨u, k0, hp, hle⟩))
end Go.Proofs.Ytofmkmjboekodaa
