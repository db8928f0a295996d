/- The walk of codec.reader's value at a list. -/
import Derived.Test.YtofmkmjboekodaaRows4
import Derived.Deep.Draws
namespace Go.Proofs.Ytofmkmjboekodaa
open Go.RowKit Cdc
set_option linter.unusedVariables false
set_option linter.unusedSimpArgs false

theorem pL_more {p : List UInt8 → Option (V × List UInt8)} {k : Nat} {ys rest : List UInt8} {x : V} (h : p ys = some (x, rest)) (F : Option (List V × List UInt8)) (cs : List V)
    (hF : F = (pL p (k + 1) ys).map fun q => (cs ++ q.1, q.2)) : F = (pL p k rest).map fun q => ((cs ++ [x]) ++ q.1, q.2) := by
  rw [hF, pL, h]
  simp only
  cases pL p k rest with
  | none => rfl
  | some q => simp

theorem pL_none {p : List UInt8 → Option (V × List UInt8)} {k : Nat} {ys : List UInt8} (h : p ys = none) (F : Option (List V × List UInt8)) (cs : List V)
    (hF : F = (pL p (k + 1) ys).map fun q => (cs ++ q.1, q.2)) : F = none := by
  rw [hF, pL, h]; rfl

theorem Rd.ofDrew {w w' : World} {r : Nat} (h : Rd w.drew w' r) : Rd w w' r := ⟨h.os, h.tape, h.output, h.size, h.block⟩

theorem wrap_i64_small (n : Nat) (h : n ≤ 16) : IntKind.i64.wrap (n : Int) = n := by
  simp [IntKind.wrap, IntKind.bits, IntKind.signed]
  omega

set_option maxRecDepth 100000 in
set_option maxHeartbeats 600000 in
theorem value_list (B r D : Nat) (hD : D < 16) (xs : List UInt8) (w : World) (h : RdAt w B r (3 :: xs)) (hl : xs.length ≤ 100000000)
    (ih : ∀ (W : World) (ys : List UInt8), RdAt W B r ys → ys.length ≤ 100000000 → Calls Try.prog 32 #[.pointer (some ⟨r, 0, none⟩), .int .i64 (16 - D : Nat)] W (ValPost W B r D ys)) :
    Calls Try.prog 32 #[.pointer (some ⟨r, 0, none⟩), .int .i64 (15 - D : Nat)] w (ValPost w B r (D + 1) (3 :: xs)) := by
  have htk := Lib.hid (head_take B r 3 xs w h (by omega))
  have hrlt := h.lt
  have hBle := h.le
  have hne : ¬ (⟨w.heap.size, 0, none⟩ : Addr).block = r := by dsimp only; omega
  have hd1 : decide (((15 - D : Nat) : Int) < 16) = true := by simp; omega
  have hd2 : ((15 - D : Nat) : Int) + 1 = ((16 - D : Nat) : Int) := by omega
  have hnn : ∀ w1, Head w w1 B r xs → Calls Try.prog 47 #[.pointer (some ⟨r, 0, none⟩)] (w1.setCell ⟨w.heap.size, 0, none⟩ (.int .i64 3)) (LenPost (w1.setCell ⟨w.heap.size, 0, none⟩ (.int .i64 3)) B r xs) :=
    fun w1 hh => length_any B r xs _ (hh.rd.other _ _ hne hBle) (by omega)
  unfold ValPost
  by_cases hok : ∃ u rest, pN 0 0 xs = some (u, rest) ∧ u ≤ rest.length
  · obtain ⟨u, rest, hp, hle⟩ := hok
    obtain ⟨hl2, hu⟩ := pN_len hp
    have hv : pV (D + 1) (3 :: xs) = (pL (pV D) u rest).map fun (l, r'') => (⟨3, 0, ⟨#[]⟩, l⟩, r'') := by
      unfold pV
      rw [if_neg (by decide), if_neg (by decide), if_pos (by decide)]
      simp only
      rw [hp]
      simp only
      rw [if_pos hle]
    have hn : Hid (∀ w1, Head w w1 B r xs → Calls Try.prog 47 #[.pointer (some ⟨r, 0, none⟩)] (w1.setCell ⟨w.heap.size, 0, none⟩ (.int .i64 3))
        fun e w' => e = .returned (.int .i64 u) ∧ Rd w w' r ∧ RdAt w' B r rest ∧ w'.heap[w.heap.size]? = some (.cells #[.int .i64 3, .int .i64 0, .string ⟨#[]⟩, .slice none 0 0] 24 (0, 0))) := by
      intro w1 hh
      refine (hnn w1 hh).mono ?_
      rintro e w' ⟨h1, ⟨u2, rest2, h2, _, h3, h4⟩ | ⟨h2, _⟩⟩
      · rw [hp] at h2
        injection h2 with h2
        injection h2 with h5 h6
        subst h5 h6
        refine ⟨h3, (hh.R.set_new _ _ (Nat.le_refl _)).trans h1, h4, ?_⟩
        rw [h1.block _ (by simpa using (Array.getElem?_eq_some_iff.1 hh.blk).1) (fun e => by injection e with e; omega)]
        exact heap_setCell_same w1 w.heap.size 0 _ _ (.int .i64 3) hh.blk
      · exact absurd hle (h2 u rest hp)
    have ihH := Lib.hid ih
    have hvH := Lib.hid hv
    have hd1H := Lib.hid hd1
    clear h hp hnn ih hv
    obtain ⟨dd, hdd⟩ : ∃ dd : Nat, 15 - D = dd := ⟨_, rfl⟩
    obtain ⟨d2, hd2'⟩ : ∃ dd : Nat, 16 - D = dd := ⟨_, rfl⟩
    rw [hdd] at hd1 hd2 ⊢
    have hd3 : d2 ≤ 16 := by omega
    rw [hd2'] at hd2 ihH
    clear hd1H hdd hd2'
    go_enter Try.func32, Try.ntmps32
    go_wp2_with (first
      | (go_at_call 33; refine (want_true r _).mono ?_; rintro e w2 ⟨rfl, rfl⟩)
      | (go_at_call 47; refine (hn.out w1 hh).mono ?_; rintro e w2 ⟨rfl, hR2, hrd2, hb2⟩)
      | (go_at_call 44; refine htk.out.mono ?_; rintro e w1 ⟨ad, rfl, hcell, hh⟩; obtain ⟨⟨q0, q1, q2, q3⟩, f0, f1, f2, f3⟩ := cells4 hh.blk))
    clear htk hn hh q0 q1 q2 q3 f0 f1 f2 f3 hcell
    go_loopw [37] (fun s37 wr => ∃ (i : Nat) (ps : List (V × Value)) (ys : List UInt8) (row : Value), i ≤ u ∧ s37 = .int .i64 i ∧ ps.length = i ∧
        Hid (pL (pV D) u rest = (pL (pV D) (u - i) ys).map fun q => (ps.map (·.1) ++ q.1, q.2)) ∧ RdAt wr B r ys ∧ ys.length ≤ xs.length ∧ Rd w wr r ∧
        wr.heap[w.heap.size]? = some (.cells #[.int .i64 3, .int .i64 0, .string ⟨#[]⟩, row] 24 (0, 0)) ∧ RowV wr w.heap.size D row ps) (fun s37 _ => u - (intOf s37).toNat)
    case atStart => exact ⟨0, [], rest, _, Nat.zero_le _, rfl, rfl, by simp [Hid], hrd2, hl2, hR2, hb2, RowV.nil _ _ _⟩
    case round =>
      obtain ⟨i, ps, ys, row, hi, rfl, hps, hpl, hrd, hyl, hR, hblk, hrow⟩ := hrel
      by_cases hlt : i < u
      · have hu1 : u - i = (u - (i + 1)) + 1 := by omega
        rw [hu1] at hpl
        have hbs := (Array.getElem?_eq_some_iff.1 hblk).1
        obtain ⟨⟨q0, q1, q2, q3⟩, f0, f1, f2, f3⟩ := cells4 hblk
        cases hx : pV D ys with
        | none =>
          have hno : Hid (pL (pV D) u rest = none) := pL_none hx _ _ hpl.out
          have hi2 : Hid (∀ W, RdAt W B r ys → Calls Try.prog 32 #[.pointer (some ⟨r, 0, none⟩), .int .i64 (IntKind.i64.wrap (d2 : Int))] W fun e w' => e = errP ∧ Rd W w' r) := by
            intro W hW
            rw [wrap_i64_small d2 hd3]
            refine (ihH.out W ys hW (by omega)).mono ?_
            rintro e w' ⟨h1, ⟨x, rest, v', h2, _⟩ | ⟨_, h2⟩⟩
            · rw [hx] at h2; cases h2
            · exact ⟨h2, h1⟩
          have hvno : Hid (pV (D + 1) (3 :: xs) = none) := by
            have := hvH.out
            rw [hno.out] at this
            exact this
          have hi3 : Hid (Calls Try.prog 32 #[.pointer (some ⟨r, 0, none⟩), .int .i64 (IntKind.i64.wrap (d2 : Int))] wr.drew fun e w' => e = errP ∧ Rd w w' r) := by
            refine (hi2.out wr.drew (hrd.of ⟨rfl, rfl, rfl, Nat.le_refl _, fun _ _ _ => rfl⟩)).mono ?_
            rintro e w' ⟨h1, h2⟩
            exact ⟨h1, hR.trans h2.ofDrew⟩
          clear hpl ihH hx hi2
          go_wp2_with fail
          refine wp_region_any (by kernel_rfl) ?_
          change wpAny _ _ _ _ _ _ _ (World.drew _)
          refine wpAny_take (i := 0) (v := ?_) rfl (by kernel_rfl) (by kernel_rfl) (by kernel_rfl) (fun _ _ _ h => h) (Or.inl ⟨by rfl, ?hy0⟩) ?rest0
          case hy0 => intro w; go_simp; try with_reducible rfl
          refine wpAny_take (i := 2) (v := ?_) rfl (by kernel_rfl) (by kernel_rfl) (by kernel_rfl) (fun _ _ _ h => h) (Or.inl ⟨by rfl, ?hy2⟩) ?rest2
          case hy2 => intro w; go_simp; try with_reducible rfl
          refine wpAny_take (i := 3) (v := ?_) rfl (by kernel_rfl) (by kernel_rfl) (by kernel_rfl) (fun _ _ _ h => h) (Or.inl ⟨by rfl, ?hy3⟩) ?rest3
          case hy3 => intro w; go_simp; try with_reducible rfl
          refine wpAny_take (i := 4) (v := ?_) rfl (by kernel_rfl) (by kernel_rfl) (by kernel_rfl) (fun _ _ _ h => h) (Or.inl ⟨by rfl, ?hy4⟩) ?rest4
          case hy4 => intro w; go_simp; try with_reducible rfl
          refine wpAny_ready (rs := [1, 5]) (by kernel_rfl) (by simp) ?_
          refine AllReady.cons rfl (fun K hK => ?_) (AllReady.cons rfl (fun K hK => ?_) AllReady.nil)
          · go_simp
            refine hK _ _ ?_
            clear hK K
            refine wpAny_ready (rs := [5]) (by kernel_rfl) (by simp) ?_
            refine AllReady.cons rfl (fun K hK => ?_) AllReady.nil
            go_simp
            go_at_call 32
            refine hi3.out.mono ?_
            rintro e w' ⟨rfl, hR'⟩
            exact ⟨rfl, hR', .inr ⟨hvno.out, rfl⟩⟩
          · go_simp
            go_at_call 32
            refine hi3.out.mono ?_
            rintro e w' ⟨rfl, hR'⟩
            exact ⟨rfl, hR', .inr ⟨hvno.out, rfl⟩⟩
        | some y =>
          obtain ⟨x, ys'⟩ := y
          have hmo := Lib.hid (pL_more hx _ _ hpl.out)
          have hi2 : Hid (∀ W, RdAt W B r ys → Calls Try.prog 32 #[.pointer (some ⟨r, 0, none⟩), .int .i64 (IntKind.i64.wrap (d2 : Int))] W fun e w' => ∃ A c, e = .returned (vv x (.slice A x.l.length c)) ∧ Rd W w' r ∧ RdAt w' B r ys' ∧ RSb (fun k => W.heap.size ≤ k ∧ k < w'.heap.size) w' D x.l (.slice A x.l.length c)) := by
            intro W hW
            rw [wrap_i64_small d2 hd3]
            refine (ihH.out W ys hW (by omega)).mono ?_
            rintro e w' ⟨h1, ⟨x2, rest2, v', h2, h3, h4, h5⟩ | ⟨h2, _⟩⟩
            · rw [hx] at h2
              injection h2 with h2
              injection h2 with h6 h7
              subst h6 h7
              obtain ⟨A, c, rfl⟩ := h4.form
              exact ⟨A, c, h3, h1, h5, h4⟩
            · rw [hx] at h2; cases h2
          have hi3 : Hid (Calls Try.prog 32 #[.pointer (some ⟨r, 0, none⟩), .int .i64 (IntKind.i64.wrap (d2 : Int))] wr.drew fun e w' => ∃ A c, e = .returned (vv x (.slice A x.l.length c)) ∧ Rd wr w' r ∧ RdAt w' B r ys' ∧ RSb (fun k => wr.heap.size ≤ k ∧ k < w'.heap.size) w' D x.l (.slice A x.l.length c) ∧
              w'.heap[w.heap.size]? = some (.cells #[.int .i64 3, .int .i64 0, .string ⟨#[]⟩, row] 24 (0, 0))) := by
            refine (hi2.out wr.drew (hrd.of ⟨rfl, rfl, rfl, Nat.le_refl _, fun _ _ _ => rfl⟩)).mono ?_
            rintro e w' ⟨A, c, h1, h2, h3, h4⟩
            exact ⟨A, c, h1, h2.ofDrew, h3, h4, (h2.block _ hbs (fun e => by injection e with e; omega)).trans hblk⟩
          have hx2 := Lib.hid hx
          clear hpl ihH hx hi2
          go_wp2_with fail
          go_region_law (first
            | (refine step_appV _ (by rfl) (.tmp 40) (.tmp 45) (by rfl) w.heap.size row ps (x, .slice A' x.l.length c') w2'.heap.size (by rfl) (by rfl) ((hrow.rd hR' (Nat.le_of_lt hrlt)).own.alloc _) (heap_alloc_new _ _) ⟨A', c', rfl⟩ (by omega) (by have := hR'.size; simp at this ⊢; omega) ?_; intro row' w3 hown3 hg3 hlie3
               obtain ⟨g3, cap3, rfl, _, _⟩ := hown3.form (by simp)
               have hb3 : w3.heap[w.heap.size]? = some (.cells #[.int .i64 3, .int .i64 0, .string ⟨#[]⟩, row] 24 (0, 0)) := by
                 have z := hR'.size
                 rw [hg3.block _ (by simp; omega) (fun e => by have := (hrow.lt e.symm).1; omega), Below.heap_alloc _ _ _ (by omega)]
                 exact hblk'
               obtain ⟨⟨t0, t1, t2, t3⟩, _, _, _, s3⟩ := cells4 hb3)
            | (go_simp; go_at_call 32; refine hi3.out.mono ?_; rintro e w2' ⟨A', c', rfl, hR', hrd', hrs, hblk'⟩; obtain ⟨⟨u0, u1, u2, u3⟩, _, _, _, v3⟩ := cells4 hblk'; have nn : ∀ o, (w2'.alloc o).cell? ⟨w.heap.size, 3, none⟩ = some row := fun o => (World.cell?_alloc_lt w2' o ⟨w.heap.size, 3, none⟩ (Nat.lt_of_lt_of_le hbs hR'.size)).trans u3))
          all_goals
            have hlen : (ps ++ [(x, Value.slice A' x.l.length c')]).length = i + 1 := by simp [hps]
            have hst : w3.grownBy (w3.setCell ⟨w.heap.size, 3, none⟩ (.slice (some ⟨g3, 0, none⟩) (i + 1) cap3)) (some w.heap.size) := ⟨rfl, rfl, rfl, by simp, fun k _ hk => heap_setCell_other w3 ⟨w.heap.size, 3, none⟩ k _ (fun e => hk (by simp [e]))⟩
            have hrv := RowV.step hrow hrlt hbs hR' hrs hown3 hg3 hlie3 hst
            rw [hlen] at hrv
            have hys := pV_some D ys x ys' hx2.out (by have e : (2 : Nat) ^ 63 = 9223372036854775808 := by decide
                                                       omega)
            have hyl2 : ys'.length ≤ ys.length := by rw [hys.1]; simp
            have hlt3 : ∀ g, row.ownBlock = some g → w.heap.size < g := fun g hg => (hrow.lt hg).1
            go_wp2
            go_roundw
            case rel =>
              refine ⟨i + 1, ps ++ [(x, Value.slice A' x.l.length c')], ys', .slice (some ⟨g3, 0, none⟩) (i + 1) cap3, by omega, by go_num, by simp [hps], ?_, ?_, by omega, ?_, ?_, hrv⟩
              · have := hmo.out
                rw [List.map_append]
                exact this
              · exact ((RdAt.of hrd' (World.grownBy_alloc _ _ _)).grown hg3 (fun g hg => by have := hlt3 g hg; omega)).other _ _ hne hBle
              · exact (Rd.grown ((hR.trans hR').grown (World.grownBy_alloc _ _ none) (fun g hg => by cases hg)) hg3 (fun g hg => by have := hlt3 g hg; omega)).set_new _ _ (Nat.le_refl _)
              · exact heap_setCell_same w3 w.heap.size 3 _ _ _ hb3
            case measure => simp [intOf]; omega
      · obtain rfl : i = u := by omega
        have hpl2 : pL (pV D) i rest = some (ps.map (·.1), ys) := by
          rw [hpl.out, Nat.sub_self]
          simp [pL]
        have hv2 : pV (D + 1) (3 :: xs) = some (⟨3, 0, ⟨#[]⟩, ps.map (·.1)⟩, ys) := by
          rw [hvH.out, hpl2]; rfl
        have hrs := hrow.rsb
        obtain ⟨A3, c3, rfl⟩ := hrs.form
        have hv3 := Lib.hid hv2
        obtain ⟨⟨q0, q1, q2, q3⟩, f0, f1, f2, f3⟩ := cells4 hblk
        clear hpl hpl2 hv2 ihH
        go_wp2
        have hmap : (ps.map (·.1)).length = i := by simp [hps]
        obtain ⟨hR4, hrd4⟩ := all4_rd (b := w.heap.size) hR hrd (Nat.le_refl _) hne hBle (.int .i64 3) (.int .i64 0) (.string ⟨#[]⟩) (.slice A3 i c3)
        rw [hmap] at hrs hblk
        refine value_end rfl rfl (all4_heap hblk _ _ _ _) ⟨hR4, .inl ⟨_, ys, .slice A3 i c3, hv3.out, rfl, ?_, hrd4⟩⟩
        exact hrs.keep (fun k hk => ⟨Nat.le_of_lt hk.1, by simpa using hk.2⟩) fun k hk => all4_other (Nat.ne_of_gt hk.1) _ _ _ _
  · have hv : pV (D + 1) (3 :: xs) = none := by
      unfold pV
      rw [if_neg (by decide), if_neg (by decide), if_pos (by decide)]
      simp only
      cases hp : pN 0 0 xs with
      | none => rfl
      | some y =>
        obtain ⟨u, rest⟩ := y
        simp only
        rw [if_neg (fun hle => hok ⟨u, rest, hp, hle⟩)]
    have hn : Hid (∀ w1, Head w w1 B r xs → Calls Try.prog 47 #[.pointer (some ⟨r, 0, none⟩)] (w1.setCell ⟨w.heap.size, 0, none⟩ (.int .i64 3)) fun e w' => e = errP ∧ Rd w w' r) := by
      intro w1 hh
      refine (hnn w1 hh).mono ?_
      rintro e w' ⟨h1, ⟨u2, rest2, h2, h3, _⟩ | ⟨_, h2⟩⟩
      · exact absurd ⟨u2, rest2, h2, h3⟩ hok
      · exact ⟨h2, (hh.R.set_new _ _ (Nat.le_refl _)).trans h1⟩
    obtain ⟨dd, hdd⟩ : ∃ dd : Nat, 15 - D = dd := ⟨_, rfl⟩
    rw [hdd] at hd1 ⊢
    clear h hok hnn ih hd2 hdd
    go_enter Try.func32, Try.ntmps32
    go_wp2_with (first
      | (go_at_call 33; refine (want_true r _).mono ?_; rintro e w2 ⟨rfl, rfl⟩)
      | (go_at_call 47; refine (hn.out w1 hh).mono ?_; rintro e w2 ⟨rfl, hR2⟩)
      | (go_at_call 44; refine htk.out.mono ?_; rintro e w1 ⟨ad, rfl, hcell, hh⟩; obtain ⟨⟨q0, q1, q2, q3⟩, f0, f1, f2, f3⟩ := cells4 hh.blk))
    exact ⟨rfl, hR2, .inr ⟨hv, rfl⟩⟩

set_option maxRecDepth 100000 in
set_option maxHeartbeats 1000000 in
theorem value_deep (B r : Nat) (xs : List UInt8) (w : World) (h : RdAt w B r (3 :: xs)) (hl : xs.length ≤ 100000000) :
    Calls Try.prog 32 #[.pointer (some ⟨r, 0, none⟩), .int .i64 16] w (ValPost w B r 0 (3 :: xs)) := by
  have htk := Lib.hid (head_take B r 3 xs w h (by omega))
  have hv : pV 0 (3 :: xs) = none := by
    unfold pV
    rw [if_neg (by decide), if_neg (by decide), if_pos (by decide)]
  unfold ValPost
  clear h
  go_enter Try.func32, Try.ntmps32
  go_wp2_with (first
    | (go_at_call 33; refine (want_false r _).mono ?_; rintro e w2 ⟨rfl, rfl⟩)
    | (go_at_call 44; refine htk.out.mono ?_; rintro e w1 ⟨ad, rfl, hcell, hh⟩; obtain ⟨⟨q0, q1, q2, q3⟩, f0, f1, f2, f3⟩ := cells4 hh.blk))
  exact ⟨rfl, hh.R.set_new _ _ (Nat.le_refl _), .inr ⟨hv, rfl⟩⟩

theorem value_any (B r : Nat) (D : Nat) : D ≤ 16 → ∀ (w : World) (xs : List UInt8), RdAt w B r xs → xs.length ≤ 100000000 →
    Calls Try.prog 32 #[.pointer (some ⟨r, 0, none⟩), .int .i64 (16 - D : Nat)] w (ValPost w B r D xs) := by
  induction D with
  | zero =>
    intro _ w xs h hl
    cases xs with
    | nil => exact value_none B r 0 _ w h
    | cons c xs =>
      simp at hl
      by_cases h1 : c.toNat = 1
      · have : c = 1 := by rw [← UInt8.toNat_inj]; exact h1
        subst this
        exact value_int B r 0 _ xs w h (by omega)
      · by_cases h2 : c.toNat = 2
        · have : c = 2 := by rw [← UInt8.toNat_inj]; exact h2
          subst this
          exact value_text B r 0 _ xs w h (by omega)
        · by_cases h3 : c.toNat = 3
          · have : c = 3 := by rw [← UInt8.toNat_inj]; exact h3
            subst this
            exact value_deep B r xs w h (by omega)
          · exact value_bad B r 0 _ c xs w h (by omega) ⟨h1, h2, h3⟩
  | succ D ih =>
    intro hD w xs h hl
    cases xs with
    | nil => exact value_none B r _ _ w h
    | cons c xs =>
      simp at hl
      by_cases h1 : c.toNat = 1
      · have : c = 1 := by rw [← UInt8.toNat_inj]; exact h1
        subst this
        exact value_int B r _ _ xs w h (by omega)
      · by_cases h2 : c.toNat = 2
        · have : c = 2 := by rw [← UInt8.toNat_inj]; exact h2
          subst this
          exact value_text B r _ _ xs w h (by omega)
        · by_cases h3 : c.toNat = 3
          · have : c = 3 := by rw [← UInt8.toNat_inj]; exact h3
            subst this
            have e : 16 - (D + 1) = 15 - D := by omega
            rw [e]
            exact value_list B r D (by omega) xs w h (by omega) (fun W ys hW hy => ih (by omega) W ys hW hy)
          · exact value_bad B r _ _ c xs w h (by omega) ⟨h1, h2, h3⟩
end Go.Proofs.Ytofmkmjboekodaa
