/- The walk of the reference's Value at texts. -/
import Derived.Test.YtofmkmjboekodaaRValue
namespace Go.Proofs.Ytofmkmjboekodaa
open Go.RowKit Cdc
set_option linter.unusedVariables false
set_option linter.unusedSimpArgs false

theorem pV_text {D : Nat} {b : List UInt8} {k u k' : Nat} (hx : b[k]? = some 2) (hp : pN 0 0 (b.drop (k + 1)) = some (u, b.drop k')) (hle : u ≤ b.length - k') :
    pV D (b.drop k) = some (⟨2, 0, ⟨((b.drop k').take u).toArray⟩, []⟩, b.drop (k' + u)) := by
  rw [drop_cons hx]
  unfold pV
  rw [if_neg (by decide), if_pos (by decide), hp]
  simp only
  rw [if_pos (by rw [List.length_drop]; exact hle), List.drop_drop]

theorem pV_text_bad {D : Nat} {b : List UInt8} {k : Nat} (hx : b[k]? = some 2) (h : pN 0 0 (b.drop (k + 1)) = none ∨ ∃ u k', pN 0 0 (b.drop (k + 1)) = some (u, b.drop k') ∧ ¬ u ≤ b.length - k') :
    pV D (b.drop k) = none := by
  rw [drop_cons hx]
  unfold pV
  rw [if_neg (by decide), if_pos (by decide)]
  rcases h with h | ⟨u, k', h, h2⟩
  · rw [h]
  · rw [h]
    simp only
    rw [if_neg (by rw [List.length_drop]; exact h2)]

/-- a reader's bytes have an address -/
theorem RAt.addr {w : World} {B r k : Nat} {b : List UInt8} {bad : Bool} (h : RAt w B r b k bad) (hb : 0 < b.length) : ∃ ab ao c, w.heap[r]? = some (.cells #[.slice (some ⟨ab, ao, none⟩) b.length c, .int .i64 k, .bool bad] 62 (0, 0)) ∧ b.length ≤ c ∧ RB w B r (some ⟨ab, ao, none⟩) b := by
  obtain ⟨A, c, hh, hc, hrb⟩ := h.cell
  obtain ⟨y0, hy0⟩ : ∃ y0, b[0]? = some y0 := ⟨_, List.getElem?_eq_getElem hb⟩
  obtain ⟨ad, rfl, _, _, h0⟩ := hrb 0 y0 hy0
  simp [Addr.add] at h0
  have had := cell_spot h0
  rw [had] at hh hrb
  exact ⟨_, _, c, hh, hc, hrb⟩

/-- a piece of a reader's bytes as a string -/
theorem RB.piece {w : World} {B r ab ao c : Nat} {b : List UInt8} (h : RB w B r (some ⟨ab, ao, none⟩) b) (hc : b.length ≤ c) (k u : Nat) (hu : u ≤ b.length - k) (hk : c ≠ k) (s : ByteArray) (hs : s = ⟨((b.drop k).take u).toArray⟩) :
    (convert 27 9 (.slice (some ⟨ab, ao + k, none⟩) u (c - k))).run Try.prog w = .ok (.string s) w := by
  subst hs
  have hcut := h.cut k c hc
  rw [if_neg hk] at hcut
  simp only [Option.map_some] at hcut
  rw [add_form ⟨ab, ao, none⟩ k rfl] at hcut
  have h2 : RB w B r (some ⟨ab, ao + k, none⟩) ((b.drop k).take u) := fun j x hj => hcut j x (by rw [List.getElem?_take] at hj; split at hj <;> simp_all)
  exact h2.conv _ _ (by simp; omega)

theorem RB.none_conv (W : World) (B r : Nat) (A : Option Addr) (n c : Nat) (hn : n = 0) (s : ByteArray) (hs : s = ⟨#[]⟩) : (convert 27 9 (.slice A n c)).run Try.prog W = .ok (.string s) W := by
  subst hs hn
  have hrb : RB W B r A [] := fun j b hb => by simp at hb
  exact hrb.conv _ _ rfl

set_option maxRecDepth 100000 in
set_option maxHeartbeats 4000000 in
theorem rvalue_text (B r D : Nat) (dep : Int) (b : List UInt8) (k : Nat) (w : World) (h : RAt w B r b k false) (hx : b[k]? = some 2) (hl : b.length ≤ 1000000000000) :
    Calls Try.prog 34 #[.pointer (some ⟨r, 0, none⟩), .int .i64 dep] w (RValPost w B r D b k) := by
  have hrlt := h.lt
  have hBl := h.le
  have hne : w.heap.size ≠ r := by omega
  have hb0 : 0 < b.length := by have := (List.getElem?_eq_some_iff.1 hx).1; omega
  have hn := Lib.hid (rhead_ok B r b k 2 w h hx hl)
  have hm := Lib.hid (fun w1 hh => rnum_head B r b (k + 1) w w1 hh hne hl)
  have hv := Lib.hid (fun u k' hp hle => pV_text (D := D) (b := b) (k := k) (u := u) (k' := k') hx hp hle)
  have hv0 := Lib.hid (pV_text_bad (D := D) (b := b) (k := k) hx)
  clear h hx
  go_enter Try.func34, Try.ntmps34
  go_wp2_with fail
  refine hn.out.mono ?_
  rintro e w1 ⟨rfl, hh⟩
  have hk := hm.out w1 hh
  obtain ⟨⟨q0, q1, q2, q3⟩, f0, f1, f2, f3⟩ := cells4 hh.blk
  go_wp2_with fail
  refine hk.mono ?_
  rintro e w2 ⟨u, k', bad, hu, rfl, hh2, hcase⟩
  clear q0 q1 q2 q3 f0 f1 f2 f3 hk hh hn hm
  obtain ⟨⟨q0, q1, q2, q3⟩, f0, f1, f2, f3⟩ := cells4 hh2.blk
  have hkle := hh2.rd.kle
  obtain ⟨ab, ao, c, hc1, hc2, hc3⟩ := hh2.rd.addr hb0
  obtain ⟨⟨p0, p1, p2⟩, z1, z2⟩ := cells3 hc1
  have W1 : IntKind.i64.wrap ((b.length : Int) - (k' : Int)) = (b.length : Int) - (k' : Int) := IntWalk.i64_in _ (by omega)
  have W2 : IntKind.u64.wrap ((b.length : Int) - (k' : Int)) = (b.length : Int) - (k' : Int) := by rw [wrap_u64]; omega
  have hblkd : ∀ (n o : Nat) (v : Value), ((w2.drewN n).setCell ⟨r, o, none⟩ v).heap[w.heap.size]? = some (.cells #[.int .i64 0, .int .i64 0, .string ⟨#[]⟩, .slice none 0 0] 24 (0, 0)) := fun n o v => (heap_setCell_other (w2.drewN n) ⟨r, o, none⟩ _ _ hne).trans hh2.blk
  replace hblkd := Lib.hid hblkd
  by_cases hbad : bad = true ∨ ¬ u ≤ b.length - k'
  · have hpv : pV D (b.drop k) = none := by
      rcases hcase with ⟨h1, h2⟩ | ⟨h1, h2⟩
      · subst h1
        exact hv0.out (.inr ⟨u, k', h2, by rcases hbad with h | h; cases h; exact h⟩)
      · exact hv0.out (.inl h2)
    replace hpv := Lib.hid hpv
    have hg : (bad = true) ∨ (bad = false ∧ decide ((b.length : Int) - (k' : Int) < (u : Int)) = true) := by
      cases bad with
      | true => exact .inl rfl
      | false =>
        refine .inr ⟨rfl, ?_⟩
        simp only [decide_eq_true_eq]
        rcases hbad with h | h
        · cases h
        · omega
    clear hcase hbad hc1 hc3
    rcases hg with rfl | ⟨rfl, hg⟩
    all_goals
      go_wp2_with fail
      go_quiet (fail)
      go_wp2_with fail
      obtain ⟨hs1, hs2⟩ := (hh2.rd.drewN nq).setBad
      obtain ⟨hR3, hrd3⟩ := rall4_rd (hh2.R.trans hs2.fromDrewN) hs1 (Nat.le_refl _) hne hBl (.int .i64 0) (.int .i64 0) (.string ⟨#[]⟩) (.slice none 0 0)
      exact rvalue_end rfl rfl (all4_heap (hblkd.out nq _ _) _ _ _ _) ⟨hR3, ⟨0, 0, ⟨#[]⟩, []⟩, _, rfl, RSb.nil _ _ _, .inr ⟨hpv.out, k', hrd3⟩⟩
  · have hbf : bad = false := by cases bad with
      | true => exact absurd (.inl rfl) hbad
      | false => rfl
    have hle : u ≤ b.length - k' := by
      apply Classical.byContradiction
      intro h
      exact hbad (.inr h)
    subst hbf
    have hpv : pV D (b.drop k) = some (⟨2, 0, ⟨((b.drop k').take u).toArray⟩, []⟩, b.drop (k' + u)) := by
      rcases hcase with ⟨_, h2⟩ | ⟨h1, _⟩
      · exact hv.out u k' h2 hle
      · cases h1
    replace hpv := Lib.hid hpv
    obtain ⟨s, hse⟩ : ∃ s : ByteArray, s = ⟨((b.drop k').take u).toArray⟩ := ⟨_, rfl⟩
    replace hse := Lib.hid hse
    have hg : decide ((b.length : Int) - (k' : Int) < (u : Int)) = false := by simp only [decide_eq_false_iff_not]; omega
    clear hbad hcase hv hv0
    have W3 : IntKind.i64.wrap ((k' : Int) + (u : Int) - (u : Int)) = (k' : Int) := by rw [IntWalk.i64_in _ (by omega)]; omega
    have W4 : IntKind.i64.wrap (k' : Int) = (k' : Int) := IntWalk.i64_in _ (by omega)
    have W5 : IntKind.i64.wrap (u : Int) = (u : Int) := IntWalk.i64_in _ (by omega)
    have G1 : (0 : Int) ≤ (k' : Int) := by omega
    have G2 : (k' : Int) ≤ (k' : Int) + (u : Int) := by omega
    have G3 : (k' : Int) + (u : Int) ≤ (c : Int) := by omega
    have G4 : k' + u - k' = u := by omega
    have G5 : ((k' : Int) + (u : Int)).toNat = k' + u := by omega
    replace hc1 := Lib.hid hc1
    replace hc3 := Lib.hid hc3
    by_cases hcap : c = k'
    · obtain rfl : k' = c := hcap.symm
      go_wp2_with fail
      go_quiet (fail)
      go_wp2_with fail
      obtain ⟨hr3, hd3⟩ := (hh2.rd.drewN nq).setAt (k' + u) (by omega) (.int .i64 ((k' : Int) + (u : Int))) (by go_num)
      have hR3 := hh2.R.trans hd3.fromDrewN
      have hne0 : (⟨r, 1, none⟩ : Addr) ≠ ⟨r, 0, none⟩ := by intro e; injection e with _ e _; cases e
      have y0 : ((w2.drewN nq).setCell ⟨r, 1, none⟩ (.int .i64 ((k' : Int) + (u : Int)))).cell? ⟨r, 0, none⟩ = some (.slice (some ⟨ab, ao, none⟩) b.length k') := by rw [World.cell?_setCell_other _ _ _ _ hne0]; exact p0
      obtain ⟨A', c', hh', _, _⟩ := hr3.cell
      have y1 := (cells3 hh').1.2.1
      have hblk3 := hblkd.out nq 1 (.int .i64 ((k' : Int) + (u : Int)))
      have hc4 : RB ((w2.drewN nq).setCell ⟨r, 1, none⟩ (.int .i64 ((k' : Int) + (u : Int)))) B r (some ⟨ab, ao, none⟩) b := hc3.out.keep fun j hj hne2 => heap_setCell_other (w2.drewN nq) ⟨r, 1, none⟩ _ _ hne2
      have hu0 : u = 0 := by omega
      have cv := fun (W : World) (hW : ∀ j, j < B → j ≠ r → W.heap[j]? = ((w2.drewN nq).setCell ⟨r, 1, none⟩ (.int .i64 ((k' : Int) + (u : Int)))).heap[j]?) => RB.none_conv W B r (some ⟨ab, ao, none⟩) u 0 hu0 s (by rw [hse.out, hu0]; rfl)
      replace hu0 := Lib.hid hu0
      clear hh' q0 q1 q2 q3 f0 f1 f2 f3 p0 p1 p2 z1 z2
      replace hr3 := Lib.hid hr3
      replace hblk3 := Lib.hid hblk3
      generalize ((w2.drewN nq).setCell ⟨r, 1, none⟩ (.int .i64 ((k' : Int) + (u : Int)))) = W at *
      obtain ⟨⟨q0, q1, q2, q3⟩, f0, f1, f2, f3⟩ := cells4 hblk3.out
      have hS : ∀ W', (∀ j, j = r ∨ j < B → W'.heap[j]? = W.heap[j]?) → W'.cell? ⟨r, 0, none⟩ = some (.slice (some ⟨ab, ao, none⟩) b.length k') ∧ W'.cell? ⟨r, 1, none⟩ = some (.int .i64 ((k' : Int) + (u : Int))) ∧
          (convert 27 9 (.slice (some ⟨ab, ao, none⟩) u 0)).run Try.prog W' = .ok (.string s) W' := fun W' hW => by
        refine ⟨?_, ?_, cv W' fun j hj _ => hW j (.inr hj)⟩
        · rw [World.cell?_of_block (w := W) (hW r (.inl rfl))]; exact y0
        · rw [World.cell?_of_block (w := W) (hW r (.inl rfl))]
          have e : ((k' + u : Nat) : Int) = (k' : Int) + (u : Int) := by omega
          rw [← e]
          exact y1
      have hjne : ∀ j, j = r ∨ j < B → j ≠ w.heap.size := fun j hj => by omega
      replace hS := Lib.hid hS
      clear cv
      go_region_held3 (fun w' => w'.cell? ⟨r, 0, none⟩ = some (.slice (some ⟨ab, ao, none⟩) b.length k') ∧ w'.cell? ⟨r, 1, none⟩ = some (.int .i64 ((k' : Int) + (u : Int))) ∧
          (convert 27 9 (.slice (some ⟨ab, ao, none⟩) u 0)).run Try.prog w' = .ok (.string s) w')
        (first | exact hS.out _ (fun _ _ => rfl) | exact hS.out _ (fun j hj => all4_other (hjne j hj) _ _ _ _))
        (fail)
      go_wp2_with fail
      obtain ⟨hR5, hrd5⟩ := rall4_rd (hR3.toDrew) hr3.out.drew (Nat.le_refl _) hne hBl (.int .i64 2) (.int .i64 0) (.string s) (.slice none 0 0)
      have hblk5 := all4_heap (w := W.drew) hblk3.out (.int .i64 2) (.int .i64 0) (.string s) (.slice none 0 0)
      refine rvalue_end rfl rfl hblk5 ⟨hR5, ⟨2, 0, s, []⟩, _, rfl, RSb.nil _ _ _, .inl ⟨k' + u, ?_, hrd5⟩⟩
      rw [hse.out]
      exact hpv.out
    · go_wp2_with fail
      go_quiet (fail)
      go_wp2_with fail
      obtain ⟨hr3, hd3⟩ := (hh2.rd.drewN nq).setAt (k' + u) (by omega) (.int .i64 ((k' : Int) + (u : Int))) (by go_num)
      have hR3 := hh2.R.trans hd3.fromDrewN
      have hne0 : (⟨r, 1, none⟩ : Addr) ≠ ⟨r, 0, none⟩ := by intro e; injection e with _ e _; cases e
      have y0 : ((w2.drewN nq).setCell ⟨r, 1, none⟩ (.int .i64 ((k' : Int) + (u : Int)))).cell? ⟨r, 0, none⟩ = some (.slice (some ⟨ab, ao, none⟩) b.length c) := by rw [World.cell?_setCell_other _ _ _ _ hne0]; exact p0
      obtain ⟨A', c', hh', _, _⟩ := hr3.cell
      have y1 := (cells3 hh').1.2.1
      have hblk3 := hblkd.out nq 1 (.int .i64 ((k' : Int) + (u : Int)))
      have hc4 : RB ((w2.drewN nq).setCell ⟨r, 1, none⟩ (.int .i64 ((k' : Int) + (u : Int)))) B r (some ⟨ab, ao, none⟩) b := hc3.out.keep fun j hj hne2 => heap_setCell_other (w2.drewN nq) ⟨r, 1, none⟩ _ _ hne2
      have cv := fun W (hW : ∀ j, j < B → j ≠ r → W.heap[j]? = ((w2.drewN nq).setCell ⟨r, 1, none⟩ (.int .i64 ((k' : Int) + (u : Int)))).heap[j]?) => (hc4.keep (w' := W) hW).piece hc2 k' u hle hcap s hse.out
      clear hh' q0 q1 q2 q3 f0 f1 f2 f3 p0 p1 p2 z1 z2
      replace hr3 := Lib.hid hr3
      replace hblk3 := Lib.hid hblk3
      generalize ((w2.drewN nq).setCell ⟨r, 1, none⟩ (.int .i64 ((k' : Int) + (u : Int)))) = W at *
      obtain ⟨⟨q0, q1, q2, q3⟩, f0, f1, f2, f3⟩ := cells4 hblk3.out
      have hS : ∀ W', (∀ j, j = r ∨ j < B → W'.heap[j]? = W.heap[j]?) → W'.cell? ⟨r, 0, none⟩ = some (.slice (some ⟨ab, ao, none⟩) b.length c) ∧ W'.cell? ⟨r, 1, none⟩ = some (.int .i64 ((k' : Int) + (u : Int))) ∧
          (convert 27 9 (.slice (some ⟨ab, ao + k', none⟩) u (c - k'))).run Try.prog W' = .ok (.string s) W' := fun W' hW => by
        refine ⟨?_, ?_, cv W' fun j hj _ => hW j (.inr hj)⟩
        · rw [World.cell?_of_block (w := W) (hW r (.inl rfl))]; exact y0
        · rw [World.cell?_of_block (w := W) (hW r (.inl rfl))]
          have e : ((k' + u : Nat) : Int) = (k' : Int) + (u : Int) := by omega
          rw [← e]
          exact y1
      have hjne : ∀ j, j = r ∨ j < B → j ≠ w.heap.size := fun j hj => by omega
      replace hS := Lib.hid hS
      clear cv
      go_region_held3 (fun w' => w'.cell? ⟨r, 0, none⟩ = some (.slice (some ⟨ab, ao, none⟩) b.length c) ∧ w'.cell? ⟨r, 1, none⟩ = some (.int .i64 ((k' : Int) + (u : Int))) ∧
          (convert 27 9 (.slice (some ⟨ab, ao + k', none⟩) u (c - k'))).run Try.prog w' = .ok (.string s) w')
        (first | exact hS.out _ (fun _ _ => rfl) | exact hS.out _ (fun j hj => all4_other (hjne j hj) _ _ _ _))
        (fail)
      go_wp2_with fail
      obtain ⟨hR5, hrd5⟩ := rall4_rd (hR3.toDrew) hr3.out.drew (Nat.le_refl _) hne hBl (.int .i64 2) (.int .i64 0) (.string s) (.slice none 0 0)
      have hblk5 := all4_heap (w := W.drew) hblk3.out (.int .i64 2) (.int .i64 0) (.string s) (.slice none 0 0)
      refine rvalue_end rfl rfl hblk5 ⟨hR5, ⟨2, 0, s, []⟩, _, rfl, RSb.nil _ _ _, .inl ⟨k' + u, ?_, hrd5⟩⟩
      rw [hse.out]
      exact hpv.out
end Go.Proofs.Ytofmkmjboekodaa
