/- The walks of codec.Encode and codec.Size. -/
import Derived.Test.YthokpfegfnpmhaaDoorWriter
namespace Go.Proofs.YthokpfegfnpmhaaDoor
open Go.RowKit Cdc
set_option linter.unusedVariables false
set_option linter.unusedSimpArgs false

/-- what Encode answers -/
def encB (x : V) : List UInt8 := if ckE x = 0 then enc x else []

def EncPost (x : V) (w : World) (e : Ending) (w' : World) : Prop :=
  ∃ v', e = .returned (.tuple #[v', .int .i64 (ckE x)]) ∧ Own w' v' (encB x) ∧ (∀ g, v'.ownBlock = some g → w.heap.size ≤ g) ∧ Below w.heap.size w w'

theorem ckE_cases (x : V) : ckE x = 0 ∨ ckE x = 1 ∨ ckE x = 2 := by
  unfold ckE
  split
  · exact .inr (.inl rfl)
  · split
    · exact .inr (.inr rfl)
    · exact .inl rfl

set_option maxRecDepth 100000 in
set_option maxHeartbeats 1000000 in
theorem encode_err (x : V) (c0 : Int) (hc0 : c0 = 1 ∨ c0 = 2) (A : Option Addr) (m c : Nat) (w : World)
    (hck : ∀ W, Below w.heap.size w W → Calls Tryd.prog 72 #[vv x (.slice A m c)] W fun e w' => e = .returned (.int .i64 c0) ∧ Below W.heap.size W w') :
    Calls Tryd.prog 46 #[vv x (.slice A m c)] w fun e w' => e = .returned (.tuple #[.slice none 0 0, .int .i64 c0]) ∧ Below w.heap.size w w' := by
  have hck2 := hck (w.alloc (Obj.cells #[Value.int IntKind.i64 x.k, Value.int IntKind.i64 x.n, Value.string x.s, Value.slice A m c] 80)) ((Below.refl _ _).alloc (Nat.le_refl _) _)
  have hck3 := Lib.hid hck2
  clear hck hck2
  rcases hc0 with rfl | rfl
  all_goals
    go_enter Tryd.func46, Tryd.ntmps46
    go_wp2_with (go_at_call 72; refine hck3.out.mono ?_; rintro e w' ⟨rfl, hb⟩)
    go_ret2
    exact ⟨rfl, ((Below.refl _ _).alloc (Nat.le_refl _) _).trans (‹Below _ _ _›.mono (by simp))⟩

theorem Writes.k1 {W0 : World} {bw : Nat} {n : Int} {s : ByteArray} {l : List V} {v' : Value} (h : Writes W0 bw ⟨1, n, s, l⟩ v') (w : World) (hB : Below W0.heap.size W0 w) (hl : (enc ⟨1, n, s, l⟩).length ≤ 10000000000) :
    Calls Tryd.prog 104 #[.slice none 0 0, vv ⟨1, n, s, l⟩ v'] w (AppPost (.slice none 0 0) (enc ⟨1, n, s, l⟩) w) := by
  rcases h w (.slice none 0 0) [] hB (Own.nil w) (fun g e => by cases e) (by simpa using hl) with ⟨hk, h⟩ | ⟨hk, h⟩ | ⟨hk, h⟩
  · exact h
  · exact absurd hk (by decide : ¬ ((1 : Int) = 2))
  · exact absurd hk (by decide : ¬ ((1 : Int) = 3))

theorem Writes.k2 {W0 : World} {bw : Nat} {n : Int} {s : ByteArray} {l : List V} {v' : Value} (h : Writes W0 bw ⟨2, n, s, l⟩ v') (w : World) (hB : Below W0.heap.size W0 w) (hl : (enc ⟨2, n, s, l⟩).length ≤ 10000000000) :
    Calls Tryd.prog 107 #[.slice none 0 0, vv ⟨2, n, s, l⟩ v'] w (AppPost (.slice none 0 0) (enc ⟨2, n, s, l⟩) w) := by
  rcases h w (.slice none 0 0) [] hB (Own.nil w) (fun g e => by cases e) (by simpa using hl) with ⟨hk, h⟩ | ⟨hk, h⟩ | ⟨hk, h⟩
  · exact absurd hk (by decide : ¬ ((2 : Int) = 1))
  · exact h
  · exact absurd hk (by decide : ¬ ((2 : Int) = 3))

theorem Writes.k3 {W0 : World} {bw : Nat} {n : Int} {s : ByteArray} {l : List V} {v' : Value} (h : Writes W0 bw ⟨3, n, s, l⟩ v') (w : World) (hB : Below W0.heap.size W0 w) (hl : (enc ⟨3, n, s, l⟩).length ≤ 10000000000) :
    Calls Tryd.prog 108 #[.slice none 0 0, vv ⟨3, n, s, l⟩ v', .pointer (some ⟨bw, 0, none⟩)] w (AppPost (.slice none 0 0) (enc ⟨3, n, s, l⟩) w) := by
  rcases h w (.slice none 0 0) [] hB (Own.nil w) (fun g e => by cases e) (by simpa using hl) with ⟨hk, h⟩ | ⟨hk, h⟩ | ⟨hk, h⟩
  · exact absurd hk (by decide : ¬ ((3 : Int) = 1))
  · exact absurd hk (by decide : ¬ ((3 : Int) = 2))
  · exact h

set_option maxRecDepth 100000 in
set_option maxHeartbeats 1000000 in
theorem encode_ok1 (n : Int) (s : ByteArray) (l : List V) (a : Nat) (A : Option Addr) (m c d : Nat) (w : World) (hr : RS w d l (.slice A m c)) (hs : Sm ⟨1, n, s, l⟩) (hf : fm ⟨1, n, s, l⟩ = some a) (hlen : (enc ⟨1, n, s, l⟩).length ≤ 1000000000)
    (hck : ∀ W, Below w.heap.size w W → Calls Tryd.prog 72 #[vv ⟨1, n, s, l⟩ (.slice A m c)] W fun e w' => e = .returned (.int .i64 0) ∧ Below W.heap.size W w') :
    Calls Tryd.prog 46 #[vv ⟨1, n, s, l⟩ (.slice A m c)] w fun e w' => ∃ v', e = .returned (.tuple #[v', .int .i64 0]) ∧ Own w' v' (enc ⟨1, n, s, l⟩) ∧ (∀ g, v'.ownBlock = some g → w.heap.size ≤ g) ∧ Below w.heap.size w w' := by
  have hck2 := hck (w.alloc (Obj.cells #[Value.int IntKind.i64 1, Value.int IntKind.i64 n, Value.string s, Value.slice A m c] 80)) ((Below.refl _ _).alloc (Nat.le_refl _) _)
  have hck3 := Lib.hid hck2
  clear hck hck2
  have hWA := fun (W00 : World) (ba bw : Nat) (hW : WAt W00 ba bw) (hb : Below w.heap.size w W00) => (write_any W00 ba bw hW d ⟨1, n, s, l⟩ _ a (hr.below hb) hs hf).k1
  have hWH := Lib.hid hWA
  clear hWA hr hs hf
  go_enter Tryd.func46, Tryd.ntmps46
  go_wp2_with (go_at_call 72; refine hck3.out.mono ?_; rintro e w1 ⟨rfl, hb⟩)
  clear hck3
  have hB1 : Below w.heap.size w w1 := ((Below.refl _ _).alloc (Nat.le_refl _) _).trans (hb.mono (by simp))
  have hs1 : w.heap.size < w1.heap.size := by have := hb.size; simp at this; omega
  have c0 : w1.cell? ⟨w.heap.size, 0, none⟩ = some (Value.int .i64 1) := by rw [hb.cell (by simp)]; simp [go_sem]
  have c1 : w1.cell? ⟨w.heap.size, 1, none⟩ = some (Value.int .i64 n) := by rw [hb.cell (by simp)]; simp [go_sem]
  have c2 : w1.cell? ⟨w.heap.size, 2, none⟩ = some (Value.string s) := by rw [hb.cell (by simp)]; simp [go_sem]
  have c3 : w1.cell? ⟨w.heap.size, 3, none⟩ = some (Value.slice A m c) := by rw [hb.cell (by simp)]; simp [go_sem]
  clear hb
  obtain ⟨b, hb⟩ : ∃ b, w.heap.size = b := ⟨_, rfl⟩
  have hbH := Lib.hid hb
  rw [hb] at hs1 c0 c1 c2 c3 hB1 hWH ⊢
  clear hb
  go_region_with (first
      | (go_at_call 73; refine (newWriter_any _).mono ?_; rintro e w2 ⟨rfl, hB2, hW2⟩; have k1 : w2.cell? ⟨w1.heap.size, 1, none⟩ = some (Value.func (Fn.func 104) #[] #[]) := hW2.c1
         have e0 := (hB2.cell (p := ⟨b, 0, none⟩) hs1).trans c0
         have e1 := (hB2.cell (p := ⟨b, 1, none⟩) hs1).trans c1
         have e2 := (hB2.cell (p := ⟨b, 2, none⟩) hs1).trans c2
         have e3 := (hB2.cell (p := ⟨b, 3, none⟩) hs1).trans c3)
      | (go_at_call 104; refine (hWH.out w2 _ _ hW2 (hB1.drew.trans (hB2.mono (Nat.le_of_lt hs1))) _ (Below.refl _ _) (by omega)).mono ?_; rintro e w3 ⟨v3, rfl, hown3, hg3⟩))
  all_goals
    go_wp2
    go_ret2
    rw [hbH.out]
    have hB3 : Below b w w2 := hB1.drew.trans (hB2.mono (Nat.le_of_lt hs1))
    refine ⟨v3, rfl, hown3, fun g hg => ?_, hB3.grown hg3.grown (Nat.le_trans (Nat.le_of_lt hs1) hB2.size) (fun g hg => by cases hg)⟩
    rcases hg3.lies with e | ⟨g', e, hg'⟩
    · rw [e] at hg; cases hg
    · rw [e] at hg; injection hg with hg; have h1 : w1.heap.size ≤ w2.heap.size := hB2.size; have h2 : w2.heap.size ≤ g' := hg'; omega

set_option maxRecDepth 100000 in
set_option maxHeartbeats 1000000 in
theorem encode_ok2 (n : Int) (s : ByteArray) (l : List V) (a : Nat) (A : Option Addr) (m c d : Nat) (w : World) (hr : RS w d l (.slice A m c)) (hs : Sm ⟨2, n, s, l⟩) (hf : fm ⟨2, n, s, l⟩ = some a) (hlen : (enc ⟨2, n, s, l⟩).length ≤ 1000000000)
    (hck : ∀ W, Below w.heap.size w W → Calls Tryd.prog 72 #[vv ⟨2, n, s, l⟩ (.slice A m c)] W fun e w' => e = .returned (.int .i64 0) ∧ Below W.heap.size W w') :
    Calls Tryd.prog 46 #[vv ⟨2, n, s, l⟩ (.slice A m c)] w fun e w' => ∃ v', e = .returned (.tuple #[v', .int .i64 0]) ∧ Own w' v' (enc ⟨2, n, s, l⟩) ∧ (∀ g, v'.ownBlock = some g → w.heap.size ≤ g) ∧ Below w.heap.size w w' := by
  have hck2 := hck (w.alloc (Obj.cells #[Value.int IntKind.i64 2, Value.int IntKind.i64 n, Value.string s, Value.slice A m c] 80)) ((Below.refl _ _).alloc (Nat.le_refl _) _)
  have hck3 := Lib.hid hck2
  clear hck hck2
  have hWA := fun (W00 : World) (ba bw : Nat) (hW : WAt W00 ba bw) (hb : Below w.heap.size w W00) => (write_any W00 ba bw hW d ⟨2, n, s, l⟩ _ a (hr.below hb) hs hf).k2
  have hWH := Lib.hid hWA
  clear hWA hr hs hf
  go_enter Tryd.func46, Tryd.ntmps46
  go_wp2_with (go_at_call 72; refine hck3.out.mono ?_; rintro e w1 ⟨rfl, hb⟩)
  clear hck3
  have hB1 : Below w.heap.size w w1 := ((Below.refl _ _).alloc (Nat.le_refl _) _).trans (hb.mono (by simp))
  have hs1 : w.heap.size < w1.heap.size := by have := hb.size; simp at this; omega
  have c0 : w1.cell? ⟨w.heap.size, 0, none⟩ = some (Value.int .i64 2) := by rw [hb.cell (by simp)]; simp [go_sem]
  have c1 : w1.cell? ⟨w.heap.size, 1, none⟩ = some (Value.int .i64 n) := by rw [hb.cell (by simp)]; simp [go_sem]
  have c2 : w1.cell? ⟨w.heap.size, 2, none⟩ = some (Value.string s) := by rw [hb.cell (by simp)]; simp [go_sem]
  have c3 : w1.cell? ⟨w.heap.size, 3, none⟩ = some (Value.slice A m c) := by rw [hb.cell (by simp)]; simp [go_sem]
  clear hb
  obtain ⟨b, hb⟩ : ∃ b, w.heap.size = b := ⟨_, rfl⟩
  have hbH := Lib.hid hb
  rw [hb] at hs1 c0 c1 c2 c3 hB1 hWH ⊢
  clear hb
  go_region_with (first
      | (go_at_call 73; refine (newWriter_any _).mono ?_; rintro e w2 ⟨rfl, hB2, hW2⟩; have k1 : w2.cell? ⟨w1.heap.size, 2, none⟩ = some (Value.func (Fn.func 107) #[] #[]) := hW2.c2
         have e0 := (hB2.cell (p := ⟨b, 0, none⟩) hs1).trans c0
         have e1 := (hB2.cell (p := ⟨b, 1, none⟩) hs1).trans c1
         have e2 := (hB2.cell (p := ⟨b, 2, none⟩) hs1).trans c2
         have e3 := (hB2.cell (p := ⟨b, 3, none⟩) hs1).trans c3)
      | (go_at_call 107; refine (hWH.out w2 _ _ hW2 (hB1.drew.trans (hB2.mono (Nat.le_of_lt hs1))) _ (Below.refl _ _) (by omega)).mono ?_; rintro e w3 ⟨v3, rfl, hown3, hg3⟩))
  all_goals
    go_wp2
    go_ret2
    rw [hbH.out]
    have hB3 : Below b w w2 := hB1.drew.trans (hB2.mono (Nat.le_of_lt hs1))
    refine ⟨v3, rfl, hown3, fun g hg => ?_, hB3.grown hg3.grown (Nat.le_trans (Nat.le_of_lt hs1) hB2.size) (fun g hg => by cases hg)⟩
    rcases hg3.lies with e | ⟨g', e, hg'⟩
    · rw [e] at hg; cases hg
    · rw [e] at hg; injection hg with hg; have h1 : w1.heap.size ≤ w2.heap.size := hB2.size; have h2 : w2.heap.size ≤ g' := hg'; omega

set_option maxRecDepth 100000 in
set_option maxHeartbeats 1000000 in
theorem encode_ok3 (n : Int) (s : ByteArray) (l : List V) (a : Nat) (A : Option Addr) (m c d : Nat) (w : World) (hr : RS w d l (.slice A m c)) (hs : Sm ⟨3, n, s, l⟩) (hf : fm ⟨3, n, s, l⟩ = some a) (hlen : (enc ⟨3, n, s, l⟩).length ≤ 1000000000)
    (hck : ∀ W, Below w.heap.size w W → Calls Tryd.prog 72 #[vv ⟨3, n, s, l⟩ (.slice A m c)] W fun e w' => e = .returned (.int .i64 0) ∧ Below W.heap.size W w') :
    Calls Tryd.prog 46 #[vv ⟨3, n, s, l⟩ (.slice A m c)] w fun e w' => ∃ v', e = .returned (.tuple #[v', .int .i64 0]) ∧ Own w' v' (enc ⟨3, n, s, l⟩) ∧ (∀ g, v'.ownBlock = some g → w.heap.size ≤ g) ∧ Below w.heap.size w w' := by
  have hck2 := hck (w.alloc (Obj.cells #[Value.int IntKind.i64 3, Value.int IntKind.i64 n, Value.string s, Value.slice A m c] 80)) ((Below.refl _ _).alloc (Nat.le_refl _) _)
  have hck3 := Lib.hid hck2
  clear hck hck2
  have hWA := fun (W00 : World) (ba bw : Nat) (hW : WAt W00 ba bw) (hb : Below w.heap.size w W00) => (write_any W00 ba bw hW d ⟨3, n, s, l⟩ _ a (hr.below hb) hs hf).k3
  have hWH := Lib.hid hWA
  clear hWA hr hs hf
  go_enter Tryd.func46, Tryd.ntmps46
  go_wp2_with (go_at_call 72; refine hck3.out.mono ?_; rintro e w1 ⟨rfl, hb⟩)
  clear hck3
  have hB1 : Below w.heap.size w w1 := ((Below.refl _ _).alloc (Nat.le_refl _) _).trans (hb.mono (by simp))
  have hs1 : w.heap.size < w1.heap.size := by have := hb.size; simp at this; omega
  have c0 : w1.cell? ⟨w.heap.size, 0, none⟩ = some (Value.int .i64 3) := by rw [hb.cell (by simp)]; simp [go_sem]
  have c1 : w1.cell? ⟨w.heap.size, 1, none⟩ = some (Value.int .i64 n) := by rw [hb.cell (by simp)]; simp [go_sem]
  have c2 : w1.cell? ⟨w.heap.size, 2, none⟩ = some (Value.string s) := by rw [hb.cell (by simp)]; simp [go_sem]
  have c3 : w1.cell? ⟨w.heap.size, 3, none⟩ = some (Value.slice A m c) := by rw [hb.cell (by simp)]; simp [go_sem]
  clear hb
  obtain ⟨b, hb⟩ : ∃ b, w.heap.size = b := ⟨_, rfl⟩
  have hbH := Lib.hid hb
  rw [hb] at hs1 c0 c1 c2 c3 hB1 hWH ⊢
  clear hb
  go_region_with (first
      | (go_at_call 73; refine (newWriter_any _).mono ?_; rintro e w2 ⟨rfl, hB2, hW2⟩; have k1 : w2.cell? ⟨w1.heap.size, 3, none⟩ = some (Value.func (Fn.func 108) #[] #[Value.pointer (some ⟨w1.heap.size + 1, 0, none⟩)]) := hW2.c3
         have e0 := (hB2.cell (p := ⟨b, 0, none⟩) hs1).trans c0
         have e1 := (hB2.cell (p := ⟨b, 1, none⟩) hs1).trans c1
         have e2 := (hB2.cell (p := ⟨b, 2, none⟩) hs1).trans c2
         have e3 := (hB2.cell (p := ⟨b, 3, none⟩) hs1).trans c3)
      | (go_at_call 108; refine (hWH.out w2 _ _ hW2 (hB1.drew.trans (hB2.mono (Nat.le_of_lt hs1))) _ (Below.refl _ _) (by omega)).mono ?_; rintro e w3 ⟨v3, rfl, hown3, hg3⟩))
  all_goals
    go_wp2
    go_ret2
    rw [hbH.out]
    have hB3 : Below b w w2 := hB1.drew.trans (hB2.mono (Nat.le_of_lt hs1))
    refine ⟨v3, rfl, hown3, fun g hg => ?_, hB3.grown hg3.grown (Nat.le_trans (Nat.le_of_lt hs1) hB2.size) (fun g hg => by cases hg)⟩
    rcases hg3.lies with e | ⟨g', e, hg'⟩
    · rw [e] at hg; cases hg
    · rw [e] at hg; injection hg with hg; have h1 : w1.heap.size ≤ w2.heap.size := hB2.size; have h2 : w2.heap.size ≤ g' := hg'; omega

theorem encode_any (d : Nat) (x : V) (v : Value) (w : World) (hv : RS w d x.l v) (hs : Sm x) (hd : dp x ≤ 1000000000000) (hlen : (enc x).length ≤ 1000000000) :
    Calls Tryd.prog 46 #[vv x v] w (EncPost x w) := by
  have hck : ∀ W, Below w.heap.size w W → Calls Tryd.prog 72 #[vv x v] W fun e w' => e = .returned (.int .i64 (ckE x)) ∧ Below W.heap.size W w' := fun W hB => check_any d x v W (hv.below hB) hs hd
  by_cases hc : ckE x = 0
  · rw [hc] at hck
    unfold EncPost encB
    rw [if_pos hc, hc]
    obtain ⟨A, c, rfl⟩ := hv.form
    have hf : ∃ a, fm x = some a := by
      unfold ckE at hc
      cases h : fm x with
      | none => rw [h] at hc; cases hc
      | some a => exact ⟨a, rfl⟩
    obtain ⟨a, hf⟩ := hf
    obtain ⟨k, n, s, l⟩ := x
    rcases enc_kind hf with h | h | h <;> dsimp only at h <;> subst h
    · exact encode_ok1 n s l a A _ c d w hv hs hf hlen hck
    · exact encode_ok2 n s l a A _ c d w hv hs hf hlen hck
    · exact encode_ok3 n s l a A _ c d w hv hs hf hlen hck
  · obtain ⟨A, c, rfl⟩ := hv.form
    refine (encode_err x (ckE x) ?_ A _ c w hck).mono ?_
    · rcases ckE_cases x with h | h
      · exact absurd h hc
      · exact h
    · rintro e w' ⟨rfl, hb⟩
      unfold EncPost encB
      rw [if_neg hc]
      exact ⟨_, rfl, Own.nil _, fun g hg => by (cases hg), hb⟩

def lenB (x : V) : Int := ((encB x).length : Nat)

end Go.Proofs.YthokpfegfnpmhaaDoor
