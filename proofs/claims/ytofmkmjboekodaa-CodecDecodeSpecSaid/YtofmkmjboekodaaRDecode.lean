/- The walk of the reference's Decode. -/
import Derived.Test.YtofmkmjboekodaaRList
import Derived.Test.YtofmkmjboekodaaLawB
namespace Go.Proofs.Ytofmkmjboekodaa
open Go.RowKit Cdc
set_option linter.unusedVariables false
set_option linter.unusedSimpArgs false

/-- the world in which the reference's Value begins -/
abbrev RW (w : World) (A : Option Addr) (n c : Nat) : World := (w.alloc OV).alloc (.cells #[.slice A n c, .int .i64 0, .bool false] 62)

theorem RW_at (b : List UInt8) (A : Option Addr) (c : Nat) (w : World) (hc : b.length ≤ c) (rb : ∀ q, w.heap.size ≤ q → RB w w.heap.size q A b) : RAt (RW w A b.length c) w.heap.size (w.heap.size + 1) b 0 false := by
  refine ⟨by simp, by simp; omega, Nat.zero_le _, A, c, ?_, hc, (rb _ (by omega)).keep fun k hk _ => ?_⟩
  · have := heap_alloc_new (w.alloc OV) (.cells #[.slice A b.length c, .int .i64 0, .bool false] 62)
    simpa using this
  · rw [Below.heap_alloc _ _ _ (by simp; omega), Below.heap_alloc _ _ _ hk]

/-- Value's answer, cut to what Decode asks -/
theorem rdec_value (b : List UInt8) (A : Option Addr) (c : Nat) (w : World) (hl : b.length ≤ 100000000) (hc : b.length ≤ c) (rb : ∀ q, w.heap.size ≤ q → RB w w.heap.size q A b) :
    Calls Try.prog 34 #[.pointer (some ⟨w.heap.size + 1, 0, none⟩), .int .i64 0] (RW w A b.length c) fun e w' => ∃ (x : V) (A' : Option Addr) (c' : Nat), e = .returned (.agg #[.int .i64 x.k, .int .i64 x.n, .string x.s, .slice A' x.l.length c']) ∧ Below w.heap.size w w' ∧
      RSb (fun j => w.heap.size + 2 ≤ j ∧ j < w'.heap.size) w' 16 x.l (.slice A' x.l.length c') ∧ w'.heap[w.heap.size]? = some OV ∧
      ((∃ k', pV 16 b = some (x, b.drop k') ∧ RAt w' w.heap.size (w.heap.size + 1) b k' false) ∨ (pV 16 b = none ∧ ∃ k', RAt w' w.heap.size (w.heap.size + 1) b k' true)) := by
  have h := rvalue_any w.heap.size (w.heap.size + 1) b hl 16 (Nat.le_refl _) _ 0 (RW_at b A c w hc rb)
  refine h.mono ?_
  rintro e w' ⟨hR, x, v', h2, h3, h4⟩
  obtain ⟨A', c', rfl⟩ := h3.form
  have hs := hR.size
  simp at hs
  refine ⟨x, A', c', h2, ?_, h3.keep (fun k hk => ⟨by have := hk.1; simp at this; omega, hk.2⟩) (fun _ _ => rfl), ?_, by simpa using h4⟩
  · refine ⟨hR.os, hR.tape, hR.output, by omega, fun k hk => ?_⟩
    rw [hR.block k (by simp; omega) (fun e => by injection e with e; omega), Below.heap_alloc _ _ _ (by simp; omega), Below.heap_alloc _ _ _ hk]
  · rw [hR.block _ (by simp; omega) (fun e => by injection e with e; omega), Below.heap_alloc _ _ _ (by simp)]
    exact heap_alloc_new w OV

theorem rdecode_end {W : World} {b : Nat} {y0 y1 y2 y3 : Value} {n : Int} {R : Ending → World → Prop} {a : Act} (ha : a.tmps[2]? = some (.pointer (some ⟨b, 0, none⟩))) (ha3 : a.tmps[3]? = some (.int .i64 n)) (hd : a.defers = [])
    (h : W.heap[b]? = some (.cells #[y0, y1, y2, y3] 24 (0, 0))) (hR : R (.returned (.tuple #[.agg #[y0, y1, y2, y3], .int .i64 n])) W) : bodyPost Try.prog Try.f19 R .ret a W := by
  obtain ⟨⟨q0, q1, q2, q3⟩, _⟩ := cells4 h
  refine bodyPost_ret (v := .tuple #[.agg #[y0, y1, y2, y3], .int .i64 n]) ?_ hd hR
  simp [results, Try.results19, go_sem, ha, ha3, q0, q1, q2, q3]

set_option maxRecDepth 100000 in
set_option maxHeartbeats 2000000 in
theorem rdecode_none (b : List UInt8) (A : Option Addr) (c : Nat) (w : World) (hl : b.length ≤ 100000000) (hc : b.length ≤ c) (rb : ∀ q, w.heap.size ≤ q → RB w w.heap.size q A b) (hno : dcV b = none) :
    Calls Try.prog 19 #[.slice A b.length c] w fun e w' => e = .returned (.tuple #[.agg #[.int .i64 0, .int .i64 0, .string ⟨#[]⟩, .slice none 0 0], .int .i64 10]) ∧ Below w.heap.size w w' := by
  have hv := rdec_value b A c w hl hc rb
  have hcase : ∀ (x : V) (w' : World), ((∃ k', pV 16 b = some (x, b.drop k') ∧ RAt w' w.heap.size (w.heap.size + 1) b k' false) ∨ (pV 16 b = none ∧ ∃ k', RAt w' w.heap.size (w.heap.size + 1) b k' true)) →
      ∃ k' bad, RAt w' w.heap.size (w.heap.size + 1) b k' bad ∧ (bad = true ∨ (bad = false ∧ ((k' : Int) != (b.length : Int)) = true)) := by
    rintro x w' (⟨k', h1, h2⟩ | ⟨_, k', h2⟩)
    · refine ⟨k', false, h2, .inr ⟨rfl, ?_⟩⟩
      have hne : k' ≠ b.length := by
        intro e
        subst e
        rw [List.drop_length] at h1
        unfold dcV at hno
        rw [h1] at hno
        cases hno
      simp
      omega
    · exact ⟨k', true, h2, .inl rfl⟩
  replace hv := Lib.hid hv
  replace hcase := Lib.hid hcase
  clear rb hno
  go_enter Try.func19, Try.ntmps19
  go_wp2_with fail
  refine hv.out.mono ?_
  rintro e w1 ⟨x, A', c', rfl, hB, hrs, hblk, hc1⟩
  obtain ⟨k', bad, hrd, hg⟩ := hcase.out x w1 hc1
  obtain ⟨A1, c1, hh, _⟩ := hrd.cell
  obtain ⟨⟨p0, p1, p2⟩, z1, z2⟩ := cells3 hh
  have hsz := (Array.getElem?_eq_some_iff.1 hblk).1
  have hrl := hrd.lt
  have hW : Below w.heap.size w (w1.alloc (.cells #[.int .i64 x.k, .int .i64 x.n, .string x.s, .slice A' x.l.length c'] 24)) := hB.alloc hB.size _
  have hb2 : (w1.alloc (.cells #[.int .i64 x.k, .int .i64 x.n, .string x.s, .slice A' x.l.length c'] 24)).heap[w.heap.size]? = some OV := (Below.heap_alloc _ _ _ hsz).trans hblk
  have hne : w.heap.size ≠ w.heap.size + 1 := by omega
  clear hv hcase hc1 hh hrs
  replace hW := Lib.hid hW
  replace hb2 := Lib.hid hb2
  rcases hg with rfl | ⟨rfl, hg⟩
  all_goals
    go_wp2_with fail
    go_quiet (fail)
    generalize hWe : ((w1.alloc (.cells #[.int .i64 x.k, .int .i64 x.n, .string x.s, .slice A' x.l.length c'] 24)).drewN nq) = W at *
    have hWB : Below w.heap.size w W := by rw [← hWe]; exact ⟨hW.out.os, hW.out.tape, hW.out.output, hW.out.size, hW.out.block⟩
    have hWb : W.heap[w.heap.size]? = some OV := by rw [← hWe]; exact hb2.out
    clear hWe hblk
    obtain ⟨⟨q0, q1, q2, q3⟩, f0, f1, f2, f3⟩ := cells4 hWb
    go_wp2_with fail
    refine rdecode_end rfl rfl rfl (all4_heap hWb (.int .i64 0) (.int .i64 0) (.string ⟨#[]⟩) (.slice none 0 0)) ⟨rfl, ?_⟩
    exact (((hWB.setCell (p := ⟨w.heap.size, 0, none⟩) (Nat.le_refl _) _).setCell (p := ⟨w.heap.size, 1, none⟩) (Nat.le_refl _) _).setCell (p := ⟨w.heap.size, 2, none⟩) (Nat.le_refl _) _).setCell (p := ⟨w.heap.size, 3, none⟩) (Nat.le_refl _) _

set_option maxRecDepth 100000 in
set_option maxHeartbeats 4000000 in
theorem rdecode_some (b : List UInt8) (A : Option Addr) (c : Nat) (w : World) (x : V) (hl : b.length ≤ 10000000) (hc : b.length ≤ c) (rb : ∀ q, w.heap.size ≤ q → RB w w.heap.size q A b) (hx : dcV b = some x) :
    Calls Try.prog 19 #[.slice A b.length c] w fun e w' => ∃ A' c', e = .returned (.tuple #[.agg #[.int .i64 x.k, .int .i64 x.n, .string x.s, .slice A' x.l.length c'], .int .i64 0]) ∧ RS w' 16 x.l (.slice A' x.l.length c') ∧ Below w.heap.size w w' := by
  obtain ⟨hxe, hxk, hxs, hxd⟩ := dcV_some hx (by omega)
  have hp16 : pV 16 b = some (x, []) := by
    unfold dcV at hx
    cases h : pV 16 b with
    | none => rw [h] at hx; cases hx
    | some q =>
      obtain ⟨y, r⟩ := q
      rw [h] at hx
      cases r with
      | nil => injection hx with hx; rw [hx]
      | cons _ _ => cases hx
  obtain ⟨af, haf, _⟩ := ckE_zero.1 hxk
  have hv : Calls Try.prog 34 #[.pointer (some ⟨w.heap.size + 1, 0, none⟩), .int .i64 0] (RW w A b.length c) fun e w' => ∃ (A' : Option Addr) (c' : Nat), e = .returned (.agg #[.int .i64 x.k, .int .i64 x.n, .string x.s, .slice A' x.l.length c']) ∧ Below w.heap.size w w' ∧
      RSb (fun j => w.heap.size + 2 ≤ j ∧ j < w'.heap.size) w' 16 x.l (.slice A' x.l.length c') ∧ w'.heap[w.heap.size]? = some OV ∧ RAt w' w.heap.size (w.heap.size + 1) b b.length false := by
    refine (rdec_value b A c w (by omega) hc rb).mono ?_
    rintro e w' ⟨y, A', c', h1, h2, h3, h4, h5⟩
    rcases h5 with ⟨k', h5, h6⟩ | ⟨h5, _⟩
    · rw [hp16] at h5
      injection h5 with h5
      injection h5 with h7 h8
      subst h7
      have hk : k' = b.length := by
        have hlen : (b.drop k').length = 0 := by rw [← h8]; rfl
        rw [List.length_drop] at hlen
        have := h6.kle
        omega
      subst hk
      exact ⟨A', c', h1, h2, h3, h4, h6⟩
    · rw [hp16] at h5; cases h5
  have kC := fun W v (h : RS W 16 x.l v) => rcheck_any 16 x v W h hxs (by omega)
  have kE := fun W v (h : RS W 16 x.l v) => rencode_any 16 x v W af h hxs haf (by rw [← hxe]; omega)
  rw [hxk] at kC
  rw [← hxe] at kE
  unfold Fresh at kE
  obtain ⟨s, hse⟩ : ∃ s : ByteArray, s = ⟨b.toArray⟩ := ⟨_, rfl⟩
  replace hse := Lib.hid hse
  have kB := fun W (h : Below w.heap.size w W) => raw_conv rb c hse h
  replace kB := Lib.hid kB
  replace kC := Lib.hid kC
  replace kE := Lib.hid kE
  replace hv := Lib.hid hv
  clear rb hx hp16 hxe hxk haf hxs hxd
  go_enter Try.func19, Try.ntmps19
  go_wp2_with fail
  refine hv.out.mono ?_
  rintro e w1 ⟨A', c', rfl, hB, hrsb, hblk, hrd⟩
  have hrs : RS w1 16 x.l (.slice A' x.l.length c') := hrsb.rs fun k hk => hk.2
  obtain ⟨A1, c1, hh, _⟩ := hrd.cell
  obtain ⟨⟨p0, p1, p2⟩, z1, z2⟩ := cells3 hh
  have hsz := (Array.getElem?_eq_some_iff.1 hblk).1
  have hrl := hrd.lt
  clear hv hh hrd
  go_wp2_with fail
  have hB2 := hB.alloc hB.size (.cells #[.int .i64 x.k, .int .i64 x.n, .string x.s, .slice A' x.l.length c'] 24)
  have hrs2 := hrs.below ((Below.refl _ _).alloc (Nat.le_refl _) (.cells #[.int .i64 x.k, .int .i64 x.n, .string x.s, .slice A' x.l.length c'] 24))
  have hrb2 : RSb (fun j => w.heap.size + 2 ≤ j ∧ j < (w1.alloc (.cells #[.int .i64 x.k, .int .i64 x.n, .string x.s, .slice A' x.l.length c'] 24)).heap.size) (w1.alloc (.cells #[.int .i64 x.k, .int .i64 x.n, .string x.s, .slice A' x.l.length c'] 24)) 16 x.l (.slice A' x.l.length c') :=
    hrsb.keep (fun k hk => ⟨hk.1, by simp; omega⟩) (fun k hk => Below.heap_alloc _ _ _ hk.2)
  have hb2 : (w1.alloc (.cells #[.int .i64 x.k, .int .i64 x.n, .string x.s, .slice A' x.l.length c'] 24)).heap[w.heap.size]? = some OV := (Below.heap_alloc _ _ _ hsz).trans hblk
  have hv2 := VAt.new w1 x (.slice A' x.l.length c') 24
  have hlt2 : w1.heap.size < (w1.alloc (.cells #[.int .i64 x.k, .int .i64 x.n, .string x.s, .slice A' x.l.length c'] 24)).heap.size := by simp
  have hp0 : (w1.alloc (.cells #[.int .i64 x.k, .int .i64 x.n, .string x.s, .slice A' x.l.length c'] 24)).cell? ⟨w.heap.size + 1, 1, none⟩ = some (.int .i64 b.length) := (World.cell?_alloc_lt _ _ _ hrl).trans p1
  have hp2 : (w1.alloc (.cells #[.int .i64 x.k, .int .i64 x.n, .string x.s, .slice A' x.l.length c'] 24)).cell? ⟨w.heap.size + 1, 2, none⟩ = some (.bool false) := (World.cell?_alloc_lt _ _ _ hrl).trans p2
  have hne1 : w1.heap.size ≠ w.heap.size := by omega
  clear hB hrs hrsb hblk p0 p1 p2 z1 z2
  generalize (w1.alloc (.cells #[.int .i64 x.k, .int .i64 x.n, .string x.s, .slice A' x.l.length c'] 24)) = W at *
  generalize w1.heap.size = vb at *
  obtain ⟨y0, y1, y2, y3⟩ := hv2
  have HBc := Below.refl W.heap.size W
  have hRc := hrs2.below HBc
  have hRd : RS W.drew 16 x.l (.slice A' x.l.length c') := hrs2.keep (Nat.le_refl _) fun _ _ => rfl
  go_region_with (first
    | (go_at_call 17; refine (kC.out _ _ ?_).mono ?_; (first | exact hRc | exact hRd); rintro e w7 ⟨rfl, hb7⟩; (first | replace HBc := bt HBc hb7 | replace HBc := bt HBc.drew hb7)
       have cvB7 := kB.out w7 (hB2.trans (HBc.mono hB2.size))
       replace hRc := hrs2.below HBc
       obtain ⟨r0, r1, r2, r3⟩ := VAt.below (x := x) (v := .slice A' x.l.length c') ⟨y0, y1, y2, y3⟩ hlt2 HBc
       clear hb7)
    | (go_at_call 27; refine (kE.out _ _ ?_).mono ?_; (first | exact hRc | exact hRd); rintro e w8 ⟨v8, rfl, own8, _, hb8⟩; (first | replace HBc := bt HBc hb8 | replace HBc := bt HBc.drew hb8)
       have cvB8 := kB.out w8 (hB2.trans (HBc.mono hB2.size))
       have cvE8 := own8.convAt hse (Below.refl _ _)
       obtain ⟨s0, s1, s2, s3⟩ := VAt.below (x := x) (v := .slice A' x.l.length c') ⟨y0, y1, y2, y3⟩ hlt2 HBc
       clear hb8))
  all_goals
    have hb8 : w8.heap[w.heap.size]? = some OV := (HBc.block _ (Array.getElem?_eq_some_iff.1 hb2).1).trans hb2
    obtain ⟨⟨q0, q1, q2, q3⟩, f0, f1, f2, f3⟩ := cells4 hb8
    have hne2 : ¬ w.heap.size = vb := fun e => hne1 e.symm
    have hWB : Below w.heap.size w w8 := hB2.trans (HBc.mono hB2.size)
    have hall := all4_heap hb8 (.int .i64 x.k) (.int .i64 x.n) (.string x.s) (.slice A' x.l.length c')
    have hrfin : RS (all4 w8 w.heap.size (.int .i64 x.k) (.int .i64 x.n) (.string x.s) (.slice A' x.l.length c')) 16 x.l (.slice A' x.l.length c') :=
      RSb.rs (S := fun j => w.heap.size + 2 ≤ j ∧ j < (all4 w8 w.heap.size (.int .i64 x.k) (.int .i64 x.n) (.string x.s) (.slice A' x.l.length c')).heap.size) (fun k hk => hk.2)
        (hrb2.keep (fun k hk => ⟨hk.1, by rw [all4_size]; exact Nat.lt_of_lt_of_le hk.2 HBc.size⟩) (fun k hk => (all4_other (by omega) _ _ _ _).trans (HBc.block _ hk.2)))
    replace hall := Lib.hid hall
    replace hrfin := Lib.hid hrfin
    clear hb8 hb2 hrb2 hRc hRd
    go_wp2_with fail
    refine rdecode_end rfl rfl rfl hall.out ⟨A', c', rfl, hrfin.out, ?_⟩
    exact (((hWB.setCell (p := ⟨w.heap.size, 0, none⟩) (Nat.le_refl _) _).setCell (p := ⟨w.heap.size, 1, none⟩) (Nat.le_refl _) _).setCell (p := ⟨w.heap.size, 2, none⟩) (Nat.le_refl _) _).setCell (p := ⟨w.heap.size, 3, none⟩) (Nat.le_refl _) _
end Go.Proofs.Ytofmkmjboekodaa
