/- The walk of the law CodecLists. -/
import Derived.Test.YtofmkmjboekodaaListsA
namespace Go.Proofs.Ytofmkmjboekodaa
open Go.RowKit Cdc
set_option linter.unusedVariables false
set_option linter.unusedSimpArgs false

theorem takeL {l : List V} {i : Nat} {y : V} (hy : l[i]? = some y) : encL (l.take (i + 1)) = encL (l.take i) ++ enc y := by rw [take_snoc_some hy, encL_append]; simp [encL]

theorem encL_take_le (l : List V) (i : Nat) : (encL (l.take i)).length ≤ (encL l).length := by
  have h2 : encL l = encL (l.take i) ++ encL (l.drop i) := by rw [← encL_append, List.take_append_drop]
  rw [h2]; simp

set_option maxRecDepth 100000 in
set_option maxHeartbeats 4000000 in
theorem lists_few (l : List V) (A : Option Addr) (c D : Nat) (w : World) (hr : RS w D l (.slice A l.length c)) (hlg : LgL l) (hsm : SmL l) (hdp : dpL l ≤ 1000) (hen : (encL l).length ≤ 900000) (hn : l.length ≤ 20) (hf : l.all fewB = true) :
    Calls Try.prog 8 #[.slice A l.length c] w fun e w' => e = .returned (.bool true) ∧ Below w.heap.size w w' := by
  have hel1 := Els.of_RS (hr.more (Nat.le_succ D)) (P := fun y v W => RS W D y.l v) fun y hy v' W hr => hr
  have hel : Els w A l (fun y v W => Calls Try.prog 12 #[vv y v] W (EncPost y W) ∧ Calls Try.prog 14 #[vv y v] W fun e w' => e = .returned (.tuple #[.int .i64 (lenB y), .int .i64 (ckE y)]) ∧ Below W.heap.size W w') :=
    Els.of_RS (hr.more (Nat.le_succ D)) fun y hy v' W hr => ⟨encode_any D y v' W hr (SmL_mem hsm y hy) (by have := dp_mem hy; omega) (by have := encL_mem hy; omega), size_any D y v' W hr (SmL_mem hsm y hy) (by have := dp_mem hy; omega) (by have := encL_mem hy; omega)⟩
  have k0 : ∀ W, Below w.heap.size w W → Calls Try.prog 11 #[.slice A l.length c] W fun e w' => e = .returned (.bool true) ∧ Below W.heap.size W w' := fun W h => by
    have := fews_any l A c W (by omega) (Els.of_RS ((hr.below h).more (Nat.le_succ D)) fun y hy v' W hr => ⟨D, hr⟩) hlg
    rw [hf] at this
    exact this
  have hSx : Sm (xL l) := by
    simp only [Sm]
    exact ⟨by decide, by decide, by omega, hsm⟩
  have hex : (enc (xL l)).length = 1 + (num l.length).length + (encL l).length := by rw [enc_xL]; simp; omega
  have hnl := num_len l.length (by have e64 : (2 : Nat) ^ 64 = 18446744073709551616 := by decide
                                   omega)
  have hnp := num_pos l.length
  have kL : ∀ W, Below w.heap.size w W → Calls Try.prog 12 #[.agg #[.int .i64 3, .int .i64 0, .string ⟨#[]⟩, .slice A l.length c]] W (EncPost (xL l) W) := fun W h =>
    encode_any D (xL l) (.slice A l.length c) W (hr.below h) hSx (by simp only [dp]; omega) (by omega)
  have kI := Lib.hid (fun W => int_any 0 W)
  have hlenT : ∀ i, (encL (l.take i)).length ≤ 900000 := fun i => Nat.le_trans (encL_take_le l i) hen
  have hlenH := Lib.hid hlenT
  have hbad := Lib.hid (fun y hy h => ck_list_bad (l := l) (y := y) hy h)
  have hgood := Lib.hid (ck_list (l := l))
  have hexH := Lib.hid hex
  have hm20 : decide ((20 : Int) < (l.length : Int)) = false := by
    simp only [decide_eq_false_iff_not]; omega
  replace hel := Lib.hid hel
  replace k0 := Lib.hid k0
  replace kL := Lib.hid kL
  have hmem : Hid (∀ i y, l[i]? = some y → (enc y).length ≤ 900000) := fun i y hy => by have := encL_mem (List.mem_of_getElem? hy); omega
  clear hr hlg hsm hdp hel1 hSx hlenT hf hex hen
  have HB := Below.refl w.heap.size w
  go_enter Try.func8, Try.ntmps8
  go_wp2_with fail
  refine (sane_any _).mono ?_
  rintro e w1 ⟨rfl, hb1⟩
  replace HB := bt HB hb1
  clear hb1
  go_wp2_with fail
  refine (k0.out _ HB).mono ?_
  rintro e w2 ⟨rfl, hb2⟩
  replace HB := bt HB hb2
  clear hb2 k0
  go_wp2_with fail
  go_loopw [3, 4, 5, 31] (fun s3 s4 s5 s31 wr => ∃ (i : Nat) (a z : Value), a = s3 ∧ z = s4 ∧ i ≤ l.length ∧ s31 = .int .i64 i ∧ s5 = .int .i64 ((encL (l.take i)).length : Nat) ∧ LR w wr a z (encL (l.take i)) i ∧ Hid (∀ y ∈ l.take i, ckE y = 0)) (fun _ _ _ s31 _ => l.length - (intOf s31).toNat)
  case atStart => exact ⟨0, _, _, rfl, rfl, Nat.zero_le _, rfl, rfl, LR.start w _ HB, (fun y hy => by simp at hy)⟩
  case round =>
    obtain ⟨i, a, z, rfl, rfl, hi, rfl, rfl, hLR, hck⟩ := hrel
    have hB := hLR.below
    by_cases hlt : i < l.length
    · obtain ⟨y, hy⟩ : ∃ y, l[i]? = some y := ⟨_, List.getElem?_eq_getElem hlt⟩
      obtain ⟨b, o, A', c', rfl, hat⟩ := hel.out i y hy
      obtain ⟨hb, h0, h1, h2, h3, _⟩ := hat wr hB
      have hB2 := hB.alloc hB.size (Obj.cells #[Value.int IntKind.i64 y.k, Value.int IntKind.i64 y.n, Value.string y.s, Value.slice A' y.l.length c'] 24)
      have hE := Lib.hid (hat _ hB2).2.2.2.2.2.1
      have hS := Lib.hid fun W hW => (hat W hW).2.2.2.2.2.2
      have hey := hmem.out i y hy
      have hle := hlenH.out i
      by_cases hcy : ckE y = 0
      · have hyn : enc y ≠ [] := by
          intro e
          have := enc_pos y
          rw [e] at this
          simp at this
        have hly : lenB y = ((enc y).length : Nat) := by unfold lenB; rw [encB_of hcy]
        have hE2 := hE.out
        have hS2 := hS.out
        unfold EncPost at hE2
        simp only [hcy, encB_of hcy, hly] at hE2 hS2
        have hck2 : Hid (∀ z ∈ l.take (i + 1), ckE z = 0) := fun z hz => by
          rw [take_snoc_some hy] at hz
          rcases List.mem_append.1 hz with hz | hz
          · exact hck.out z hz
          · simp at hz; subst hz; exact hcy
        have hT := Lib.hid (takeL hy)
        replace hE2 := Lib.hid hE2
        replace hS2 := Lib.hid hS2
        clear hE hS hat hcy hck hly
        go_wp2_with fail
        refine hE2.out.mono ?_
        rintro e w3 ⟨v3, rfl, own3, lies3, hb3⟩
        obtain ⟨g3, c3, rfl, hg3, hcell3⟩ := own3.addr hyn
        have hz3 := hb3.size
        simp at hz3
        have hB3 := hB2.trans (hb3.mono hB2.size)
        have q := VAt.below (VAt.new wr y (.slice A' y.l.length c') 24) (by simp) hb3
        obtain ⟨q0, q1, q2, q3⟩ := q
        have hLR3 := (hLR.to (ba (Below.refl _ _) _)).to hb3
        go_wp2_with fail
        refine (hS2.out _ hB3).mono ?_
        rintro e w4 ⟨rfl, hb4⟩
        have hB4 := bt hB3 hb4
        have own4 := own3.below hb4
        have hLR4 := hLR3.to hb4
        have hz4 := hb4.size
        have hcell4 : ∀ j u, ((enc y).map bv)[j]? = some u → w4.cell? ((⟨g3, 0, none⟩ : Addr).add j) = some u := World.ownsRow.cells own4 (g := g3) rfl
        clear own3 own4 hLR hLR3 hcell3 hb4 hb3 q0 q1 q2 q3 lies3 h0 h1 h2 h3 hB3
        have hcH := Lib.hid hcell4
        clear hcell4
        go_wp2_with (first
          | (at_builtin; refine wpList_app _ rfl (.tmp 68) (.tmp 69) rfl _ (encL (l.take i)) ⟨g3, 0, none⟩ _ c3 (enc y) rfl rfl hLR4.own rfl hcH.out (by omega) ?_; intro v5 w5 hown5 hg5))
        have hLR5 := hLR4.app hown5 hg5
        clear hown5 hg5 hLR4 hB4
        refine (kI.out _).mono ?_
        rintro e w6 ⟨rfl, hb6⟩
        have hLR6 := hLR5.to hb6
        clear hLR5 hb6
        have hLR7 := hLR6.to (ba (Below.refl _ _) (.cells #[.int .i64 1, .int .i64 0, .string ⟨#[]⟩, .slice none 0 0] 24))
        go_wp2_with (first
          | (at_builtin; refine wpList_appZ _ rfl (.tmp 71) (.tmp 73) rfl z i w6.heap.size rfl rfl hLR7.zs (heap_new _ _) (by omega) ?_; intro r8 w8 hz8 hg8 hl8))
        have hLR8 := hLR7.appz hz8 hg8 hl8
        clear hLR7 hz8 hg8 hl8 hLR6
        go_roundw
        case rel =>
          refine ⟨i + 1, _, _, rfl, rfl, by omega, by go_num, ?_, ?_, hck2⟩
          · rw [hT.out, List.length_append]
            go_num
          · rw [hT.out]
            exact hLR8
        case measure => simp [intOf]; omega
      · have hE2 := hE.out
        have hS2 := hS.out
        unfold EncPost at hE2
        have hcb := hbad.out y (List.mem_of_getElem? hy) hcy
        have hcn : (ckE y != 0) = true := by simpa using hcy
        have hce : (ckE y == 0) = false := by simpa using hcy
        have hcx : (ckE (xL l) != 0) = true := by simpa using hcb
        have kL2 := kL.out
        unfold EncPost at kL2
        generalize ckE y = ck at hE2 hS2 hcn hce
        generalize ckE (xL l) = cx at kL2 hcx
        generalize encB y = bs at hE2
        generalize lenB y = lb at hS2
        replace hE2 := Lib.hid hE2
        replace hS2 := Lib.hid hS2
        replace kL2 := Lib.hid kL2
        clear hE hS hat hcy hcb hck
        go_wp2_with fail
        refine hE2.out.mono ?_
        rintro e w3 ⟨v3, rfl, own3, lies3, hb3⟩
        have hz3 := hb3.size
        simp at hz3
        have hB3 := hB2.trans (hb3.mono hB2.size)
        have q := VAt.below (VAt.new wr y (.slice A' y.l.length c') 24) (by simp) hb3
        obtain ⟨q0, q1, q2, q3⟩ := q
        go_wp2_with fail
        refine (hS2.out _ hB3).mono ?_
        rintro e w4 ⟨rfl, hb4⟩
        have hB4 := bt hB3 hb4
        go_wp2_with fail
        refine (list_any _ _ _ _).mono ?_
        rintro e w5 ⟨rfl, hb5⟩
        have hB5 := bt hB4 hb5
        go_wp2_with fail
        refine (kL2.out _ hB5).mono ?_
        rintro e w6 ⟨v6, rfl, _, _, hb6⟩
        have hB6 := bt hB5 hb6
        go_wp2_with fail
        go_ret
        exact ⟨rfl, hB6⟩
    · obtain rfl : i = l.length := by omega
      have hck3 : Hid (∀ y ∈ l, ckE y = 0) := fun y hy => hck.out y (by rw [List.take_length]; exact hy)
      rw [List.take_length] at hLR
      clear hck
      by_cases hL : ckE (xL l) = 0
      · have kL2 := kL.out
        unfold EncPost at kL2
        simp only [hL, encB_of hL] at kL2
        have hexx := hexH.out
        obtain ⟨E, hEe⟩ : ∃ E, (encL l).length = E := ⟨_, rfl⟩
        obtain ⟨t, hte⟩ : ∃ t : ByteArray, t = ⟨(encL l).toArray⟩ := ⟨_, rfl⟩
        have hdrop : (enc (xL l)).drop (1 + (num l.length).length) = encL l := by
          rw [enc_xL, show 1 + (num l.length).length = (num l.length).length + 1 from by omega, List.drop_succ_cons, List.drop_left]
        replace hte := Lib.hid hte
        have hne : enc (xL l) ≠ [] := by rw [enc_xL]; simp
        obtain ⟨N, hNe⟩ : ∃ N, (num l.length).length = N := ⟨_, rfl⟩
        rw [hEe, hNe] at hexx
        rw [hNe] at hnl hnp hdrop
        replace hdrop := Lib.hid hdrop
        obtain ⟨zA, zc, rfl, hzr⟩ := hLR.zs.rs
        have hzl : lenB (xL (List.replicate l.length x0)) = 1 + (N : Int) + 2 * (l.length : Int) := by
          unfold lenB
          rw [encB_of (ck_zeros _), enc_xL, List.length_cons, List.length_append, encL_zeros_len, List.length_replicate, hNe]
          omega
        have kZ : ∀ W, Below wr.heap.size wr W → Calls Try.prog 14 #[.agg #[.int .i64 3, .int .i64 0, .string ⟨#[]⟩, .slice zA l.length zc]] W fun e w' => e = .returned (.tuple #[.int .i64 (1 + (N : Int) + 2 * (l.length : Int)), .int .i64 0]) ∧ Below W.heap.size W w' := by
          intro W hW
          have := size_any 1 (xL (List.replicate l.length x0)) (.slice zA l.length zc) W (hzr.below hW) (Sm_zeros _ (by omega)) (by have := dp_zeros l.length; omega) (by rw [enc_xL, List.length_cons, List.length_append, encL_zeros_len, List.length_replicate, hNe]; omega)
          rw [hzl, ck_zeros] at this
          exact this
        obtain ⟨aA, ac, rfl⟩ := hLR.own.form
        have hlE := hlenH.out l.length
        rw [List.take_length] at hlE
        replace kL2 := Lib.hid kL2
        replace kZ := Lib.hid kZ
        rw [hEe] at hlE
        replace hexx := Lib.hid hexx
        have HBr := Below.refl wr.heap.size wr
        have hown := Lib.hid hLR.own
        have hEH := Lib.hid hEe
        clear hNe hzl hzr hL kL hgood hbad hel hmem hlenH kI hLR
        rw [List.take_length, hEe]
        clear hEe
        go_wp2_with fail
        refine (list_any _ _ _ _).mono ?_
        rintro e w3 ⟨rfl, hb3⟩
        replace HBr := bt HBr hb3
        go_wp2_with fail
        refine (kL2.out _ (bt hB HBr)).mono ?_
        rintro e w4 ⟨v4, rfl, own4, _, hb4⟩
        obtain ⟨g4, d4, rfl, _, _⟩ := own4.addr hne
        have hd4 : 1 + N + E ≤ d4 := by
          obtain ⟨_, _, e, h, _⟩ := own4.rb _ (Nat.le_refl _)
          injection e with _ _ e
          rw [hexx.out] at h
          omega
        rw [hexx.out]
        replace own4 := Lib.hid own4
        replace HBr := bt HBr hb4
        go_wp2_with fail
        refine (list_any _ _ _ _).mono ?_
        rintro e w5 ⟨rfl, hb5⟩
        replace HBr := bt HBr hb5
        replace own4 := Lib.hid (own4.out.below hb5)
        go_wp2_with fail
        refine (kZ.out _ HBr).mono ?_
        rintro e w6 ⟨rfl, hb6⟩
        replace HBr := bt HBr hb6
        replace own4 := Lib.hid (own4.out.below hb6)
        go_wp2_with fail
        have HBc := Below.refl w6.heap.size w6
        by_cases hcap : d4 = 1 + N
        · have hE0 : E = 0 := by omega
          subst hE0 hcap
          have ht0 : t = ⟨#[]⟩ := by
            have := hte.out
            rw [List.length_eq_zero_iff.1 hEH.out] at this
            exact this
          have W1 : IntKind.i64.wrap (2 * (l.length : Int)) = 2 * (l.length : Int) := IntWalk.i64_in _ (by omega)
          have W2 : IntKind.i64.wrap (1 + (N : Int) + 2 * (l.length : Int) - 2 * (l.length : Int)) = 1 + (N : Int) := by rw [IntWalk.i64_in _ (by omega)]; omega
          have W4 : IntKind.i64.wrap (1 + (N : Int)) = 1 + (N : Int) := IntWalk.i64_in _ (by omega)
          have G1 : decide ((2 : Int) ≤ 1 + (N : Int)) = true := by simp only [decide_eq_true_eq]; omega
          have G2 : (0 : Int) ≤ 1 + (N : Int) := by omega
          have G4 : ((1 : Int) + (N : Int)).toNat = 1 + N := by omega
          have cvA : ∀ W, Below w6.heap.size w6 W → (convert 27 9 (.slice aA 0 ac)).run Try.prog W = .ok (.string t) W := fun W hW => by
            have := hown.out.convAt hte (bt HBr hW)
            rw [hEH.out] at this
            exact this
          have cvB : ∀ W, (convert 27 9 (.slice (some ⟨g4, 0, none⟩) 0 0)).run Try.prog W = .ok (.string t) W := fun W => own4.out.convEnd ht0 0
          replace cvA := Lib.hid cvA
          replace cvB := Lib.hid cvB
          clear ht0
          go_region_held3 (fun w' => (convert 27 9 (.slice aA 0 ac)).run Try.prog w' = .ok (.string t) w' ∧ (convert 27 9 (.slice (some ⟨g4, 0, none⟩) 0 0)).run Try.prog w' = .ok (.string t) w')
            (first | exact ⟨cvA.out _ HBc.drew, cvB.out _⟩ | exact ⟨cvA.out _ HBc, cvB.out _⟩)
            (fail)
          clear W1 W2 W4 G1 G2 G4
          go_wp2_with fail
          go_ret
          exact ⟨rfl, (bt hB HBr).drew⟩
        · have W1 : IntKind.i64.wrap (2 * (l.length : Int)) = 2 * (l.length : Int) := IntWalk.i64_in _ (by omega)
          have W2 : IntKind.i64.wrap (1 + (N : Int) + 2 * (l.length : Int) - 2 * (l.length : Int)) = 1 + (N : Int) := by rw [IntWalk.i64_in _ (by omega)]; omega
          have W4 : IntKind.i64.wrap (1 + (N : Int)) = 1 + (N : Int) := IntWalk.i64_in _ (by omega)
          have W3 : IntKind.i64.wrap (1 + (N : Int) + (E : Int)) = 1 + (N : Int) + (E : Int) := IntWalk.i64_in _ (by omega)
          have G1 : decide ((2 : Int) ≤ 1 + (N : Int)) = true := by simp only [decide_eq_true_eq]; omega
          have G2 : (0 : Int) ≤ 1 + (N : Int) := by omega
          have G3 : (1 : Int) + (N : Int) ≤ 1 + (N : Int) + (E : Int) := by omega
          have G4 : ((1 : Int) + (N : Int)).toNat = 1 + N := by omega
          have G5 : 1 + N + E - (1 + N) = E := by omega
          have cvA : ∀ W, Below w6.heap.size w6 W → (convert 27 9 (.slice aA E ac)).run Try.prog W = .ok (.string t) W := fun W hW => by
            have := hown.out.convAt hte (bt HBr hW)
            rw [hEH.out] at this
            exact this
          have cvB : ∀ W, Below w6.heap.size w6 W → (convert 27 9 (.slice (some ⟨g4, 1 + N, none⟩) E (d4 - (1 + N)))).run Try.prog W = .ok (.string t) W := fun W hW =>
            own4.out.convDrop rfl hcap (by rw [hdrop.out, hEH.out]) (by rw [hdrop.out]; exact hte.out) hW
          replace cvA := Lib.hid cvA
          replace cvB := Lib.hid cvB
          go_region_held3 (fun w' => (convert 27 9 (.slice aA E ac)).run Try.prog w' = .ok (.string t) w' ∧ (convert 27 9 (.slice (some ⟨g4, 1 + N, none⟩) E (d4 - (1 + N)))).run Try.prog w' = .ok (.string t) w')
            (first | exact ⟨cvA.out _ HBc.drew, cvB.out _ HBc.drew⟩ | exact ⟨cvA.out _ HBc, cvB.out _ HBc⟩)
            (fail)
          clear W1 W2 W3 W4 G1 G2 G3 G4 G5
          go_wp2_with fail
          go_ret
          exact ⟨rfl, (bt hB HBr).drew⟩
      · have h2 := hgood.out hck3.out hL
        have kL2 := kL.out
        unfold EncPost at kL2
        simp only [h2] at kL2
        generalize encB (xL l) = bs at kL2
        replace kL2 := Lib.hid kL2
        clear hel hL h2 kL
        go_wp2_with fail
        refine (list_any _ _ _ _).mono ?_
        rintro e w3 ⟨rfl, hb3⟩
        have hB3 := bt hB hb3
        go_wp2_with fail
        refine (kL2.out _ hB3).mono ?_
        rintro e w4 ⟨v4, rfl, _, _, hb4⟩
        have hB4 := bt hB3 hb4
        go_wp2_with fail
        go_ret
        exact ⟨rfl, hB4⟩

set_option maxRecDepth 100000 in
set_option maxHeartbeats 2000000 in
theorem lists_stop (l : List V) (A : Option Addr) (c D : Nat) (w : World) (hr : RS w D l (.slice A l.length c)) (hlg : LgL l) (hl : l.length ≤ maxLen) (b : Bool) (hf : l.all fewB = b) (hn : b = false ∨ (b = true ∧ decide ((20 : Int) < (l.length : Int)) = true)) :
    Calls Try.prog 8 #[.slice A l.length c] w fun e w' => e = .returned (.bool true) ∧ Below w.heap.size w w' := by
  have k0 : ∀ W, Below w.heap.size w W → Calls Try.prog 11 #[.slice A l.length c] W fun e w' => e = .returned (.bool b) ∧ Below W.heap.size W w' := fun W h => by
    have := fews_any l A c W (by unfold maxLen at hl; omega) (Els.of_RS ((hr.below h).more (Nat.le_succ D)) fun y hy v' W hr => ⟨D, hr⟩) hlg
    rw [hf] at this
    exact this
  replace k0 := Lib.hid k0
  clear hr hlg hl hf
  have HB := Below.refl w.heap.size w
  rcases hn with rfl | ⟨rfl, hn⟩
  all_goals
    go_enter Try.func8, Try.ntmps8
    go_wp2_with fail
    refine (sane_any _).mono ?_
    rintro e w1 ⟨rfl, hb1⟩
    replace HB := bt HB hb1
    clear hb1
    go_wp2_with fail
    refine (k0.out _ HB).mono ?_
    rintro e w2 ⟨rfl, hb2⟩
    replace HB := bt HB hb2
    clear hb2
    go_wp2_with fail
    go_ret
    exact ⟨rfl, HB⟩

theorem walk_CodecLists (l : List V) (A : Option Addr) (c D : Nat) (w : World) (hl : l.length ≤ maxLen) (hr : RS w D l (.slice A l.length c)) (hi : IbL l) (hlg : LgL l) :
    Calls Try.prog 8 #[.slice A l.length c] w fun e w' => e = .returned (.bool true) ∧ Below w.heap.size w w' := by
  cases hf : l.all fewB with
  | false => exact lists_stop l A c D w hr hlg hl false hf (.inl rfl)
  | true =>
    by_cases hn : l.length ≤ 20
    · have key : ∀ l : List V, IbL l → l.all fewB = true → SmL l ∧ dpL l ≤ 21 ∧ (encL l).length ≤ 42200 * l.length := by
        intro l
        induction l with
        | nil => intro _ _; exact ⟨trivial, by simp [dpL], by simp [encL]⟩
        | cons y l ih =>
          intro h1 h2
          simp only [IbL] at h1
          rw [List.all_cons, Bool.and_eq_true] at h2
          obtain ⟨a1, a2, a3⟩ := few_sm y h1.1 h2.1
          obtain ⟨b1, b2, b3⟩ := ih h1.2 h2.2
          exact ⟨⟨a1, b1⟩, by simp only [dpL]; omega, by simp only [encL, List.length_append, List.length_cons]; omega⟩
      obtain ⟨h1, h2, h3⟩ := key l hi hf
      exact lists_few l A c D w hr hlg h1 (by omega) (by omega) hn hf
    · exact lists_stop l A c D w hr hlg hl true hf (.inr ⟨rfl, by simp only [decide_eq_true_eq]; omega⟩)
end Go.Proofs.Ytofmkmjboekodaa
