/- The walks of the closures of codec.newWriter, and of Encode. -/
import Derived.Test.YtnccbhndlnkboaaDoorNumR
import Derived.Test.YtnccbhndlnkboaaDoorFormF
import Derived.Deep.RegionHeld3
import Derived.Deep.Draws
import Derived.Laws.EntriesVeiled
namespace Go.Proofs.YtnccbhndlnkboaaDoor
open Go.RowKit Cdc
set_option linter.unusedVariables false
set_option linter.unusedSimpArgs false

theorem Own.drewN {w : World} {v : Value} {xs : List UInt8} (h : Own w v xs) (k : Nat) : Own (w.drewN k) v xs := h
theorem Grew.drewN {a b : World} {u v : Value} (h : Grew a b u v) (k : Nat) : Grew a (b.drewN k) u v := h.trans ⟨⟨rfl, rfl, rfl, Nat.le_refl _, fun _ _ _ => rfl⟩, .inl rfl⟩

set_option maxRecDepth 100000 in
set_option maxHeartbeats 1000000 in
theorem write_int (n : Int) (hn : -9223372036854775808 ≤ n ∧ n ≤ 9223372036854775807) (k : Int) (s : ByteArray) (l v : Value) (xs : List UInt8) (w : World) (hl : ∃ A m c, l = .slice A m c) (hv : Own w v xs) (hlen : xs.length ≤ 100000000000) :
    Calls Tryd.prog 95 #[v, .agg #[.int .i64 k, .int .i64 n, .string s, l]] w (AppPost v (xs ++ 1 :: num (uz n)) w) := by
  obtain ⟨A, m, c, rfl⟩ := hl
  have hu := uz_lt hn
  have hn2 := num_len (uz n) hu
  unfold AppPost
  go_enter Tryd.func95, Tryd.ntmps95
  go_wp2
  obtain ⟨W0, hW0⟩ : ∃ W0, w.alloc (Obj.cells #[Value.int IntKind.i64 k, Value.int IntKind.i64 n, Value.string s, Value.slice A m c] 96) = W0 := ⟨_, rfl⟩
  have hG0 : Grew w W0 v v := by rw [← hW0]; exact (Grew.refl _ _).alloc _
  have hv0 : Own W0 v xs := by rw [← hW0]; exact hv.alloc _
  have hc1 : W0.cell? ⟨w.heap.size, 1, none⟩ = some (Value.int IntKind.i64 n) := by rw [← hW0]; simp [go_sem]
  have hsz : w.heap.size < W0.heap.size := by rw [← hW0]; simp
  have hne : v.ownBlock ≠ some w.heap.size := fun e => by have := hv.lt e; omega
  generalize w.heap.size = b at hc1 hsz hne ⊢
  rw [hW0]
  clear hW0 hv
  go_region_held3 (fun w' => w'.cell? ⟨b, 1, none⟩ = some (.int .i64 n))
    (first
      | go_keep
      | (rw [hg2.cell (by simp; omega) hne]; go_keep)
      | (have hs2 := hg2.grown.size
         have hne2 := hg2.apart (g := b) (by simp; omega) hne
         rw [hg3.cell (by simp at hs2 ⊢; omega) hne2]; assumption))
    (first
      | (refine step_app _ (by rfl) (.tmp 5) (.tmp 6) (by rfl) v xs ⟨W0.heap.size, 0, none⟩ 1 1 [1] (by rfl) (by rfl) ((hv0.alloc _).drew) (by rfl) (one_new _ _ _) (by omega) ?_; intro v2 w2 hown2 hg2)
      | (go_at_call 97; refine (unsigned_any n hn _).mono ?_; rintro e w' ⟨rfl, rfl⟩)
      | (go_at_call 96; refine (numeral_any (uz n) (by simpa using hu) v2 (xs ++ [1]) _ hown2 (by simp; omega)).mono ?_; rintro e w' ⟨v3, rfl, hown3, hg3⟩))
  go_wp2
  go_ret
  refine ⟨v3, by simp, ?_, (((hG0.alloc _).drew).trans hg2).trans hg3⟩
  simpa using hown3

set_option maxRecDepth 100000 in
set_option maxHeartbeats 1000000 in
theorem write_text (s : ByteArray) (hs : s.size ≤ 1000000000) (k n : Int) (l v : Value) (xs : List UInt8) (w : World) (hl : ∃ A m c, l = .slice A m c) (hv : Own w v xs) (hlen : xs.length ≤ 100000000000) :
    Calls Tryd.prog 98 #[v, .agg #[.int .i64 k, .int .i64 n, .string s, l]] w (AppPost v (xs ++ 2 :: (num s.size ++ s.data.toList)) w) := by
  obtain ⟨A, m, c, rfl⟩ := hl
  have hn2 := num_len s.size (by have e : (2 : Nat) ^ 64 = 18446744073709551616 := by decide
                                 omega)
  have hwr : IntKind.u64.wrap (s.size : Int) = s.size := by rw [wrap_u64]; omega
  unfold AppPost
  go_enter Tryd.func98, Tryd.ntmps98
  go_wp2
  obtain ⟨W0, hW0⟩ : ∃ W0, w.alloc (Obj.cells #[Value.int IntKind.i64 k, Value.int IntKind.i64 n, Value.string s, Value.slice A m c] 96) = W0 := ⟨_, rfl⟩
  have hG0 : Grew w W0 v v := by rw [← hW0]; exact (Grew.refl _ _).alloc _
  have hv0 : Own W0 v xs := by rw [← hW0]; exact hv.alloc _
  have hc1 : W0.cell? ⟨w.heap.size, 2, none⟩ = some (Value.string s) := by rw [← hW0]; simp [go_sem]
  have hsz : w.heap.size < W0.heap.size := by rw [← hW0]; simp
  have hne : v.ownBlock ≠ some w.heap.size := fun e => by have := hv.lt e; omega
  generalize w.heap.size = b at hc1 hsz hne ⊢
  rw [hW0]
  clear hW0 hv
  go_region_held3 (fun w' => w'.cell? ⟨b, 2, none⟩ = some (.string s))
    (first
      | go_keep
      | (rw [hg2.cell (by simp; omega) hne]; go_keep)
      | (have hs2 := hg2.grown.size
         have hne2 := hg2.apart (g := b) (by simp; omega) hne
         rw [hg3.cell (by simp at hs2 ⊢; omega) hne2]; assumption)
      | (have hs2 := hg2.grown.size
         have hne2 := hg2.apart (g := b) (by simp; omega) hne
         have hs3 := hg3.grown.size
         have hne3 := hg3.apart (g := b) (by simp at hs2 ⊢; omega) hne2
         rw [hg4.cell (by simp at hs2 hs3 ⊢; omega) hne3]; assumption))
    (first
      | (refine step_app _ (by rfl) (.tmp 5) (.tmp 6) (by rfl) v xs ⟨W0.heap.size, 0, none⟩ 1 1 [2] (by rfl) (by rfl) ((hv0.alloc _).drew) (by rfl) (one_new _ _ _) (by omega) ?_; intro v2 w2 hown2 hg2)
      | (refine step_app_str _ (by rfl) (.tmp 12) (.tmp 14) (by rfl) v3 (xs ++ [2] ++ num s.size) s (by rfl) (by rfl) hown3 (by simp; omega) ?_; intro v4 w4 hown4 hg4)
      | (go_at_call 96; refine (numeral_any s.size (by omega) v2 (xs ++ [2]) _ hown2 (by simp; omega)).mono ?_; rintro e w' ⟨v3, rfl, hown3, hg3⟩))
  go_wp2
  go_ret
  refine ⟨v4, by simp, ?_, ((((hG0.alloc _).drew).trans hg2).trans hg3).trans hg4⟩
  simpa using hown4
end Go.Proofs.YtnccbhndlnkboaaDoor
/- The walk of codec.newWriter. -/
namespace Go.Proofs.YtnccbhndlnkboaaDoor
open Go.RowKit Cdc
set_option linter.unusedVariables false
set_option linter.unusedSimpArgs false

theorem Own.ne {w : World} {v : Value} {xs : List UInt8} (h : Own w v xs) : v.ownBlock ≠ some w.heap.size := fun e => absurd (h.lt e) (Nat.lt_irrefl _)

/-- a writer's array lies in block ba, the variable that holds it in block bw -/
structure WAt (w : World) (ba bw : Nat) : Prop where
  c1 : w.cell? ⟨ba, 1, none⟩ = some (Value.func (Fn.func 95) #[] #[])
  c2 : w.cell? ⟨ba, 2, none⟩ = some (Value.func (Fn.func 98) #[] #[])
  c3 : w.cell? ⟨ba, 3, none⟩ = some (Value.func (Fn.func 99) #[] #[Value.pointer (some ⟨bw, 0, none⟩)])
  cb : w.cell? ⟨bw, 0, none⟩ = some (Value.pointer (some ⟨ba, 0, none⟩))
  la : ba < w.heap.size
  lb : bw < w.heap.size

set_option maxRecDepth 100000 in
set_option maxHeartbeats 1000000 in
theorem newWriter_any (w : World) :
    Calls Tryd.prog 79 #[] w fun e w' => e = .returned (.pointer (some ⟨w.heap.size, 0, none⟩)) ∧ Below w.heap.size w w' ∧ WAt w' w.heap.size (w.heap.size + 1) := by
  go_enter Tryd.func79, Tryd.ntmps79
  go_wp2
  go_ret
  refine ⟨rfl, ((Below.refl _ _).alloc (Nat.le_refl _) _).alloc (by simp) _, ?_⟩
  constructor <;> simp [go_sem]

theorem Grew.belowB {B : Nat} {W0 w w' : World} {v v' : Value} (hB : Below B W0 w) (hg : Grew w w' v v') (hl : B ≤ w.heap.size) (hv : ∀ g, v.ownBlock = some g → B ≤ g) : Below B W0 w' :=
  hB.grown hg.grown hl hv
/-- writing the value y with the writer's function for its kind -/
def Writes (W0 : World) (bw : Nat) (y : V) (v' : Value) : Prop :=
  ∀ (w : World) (v : Value) (xs : List UInt8), Below W0.heap.size W0 w → Own w v xs → (∀ g, v.ownBlock = some g → W0.heap.size ≤ g) → xs.length + (enc y).length ≤ 10000000000 →
    (y.k = 1 ∧ Calls Tryd.prog 95 #[v, vv y v'] w (AppPost v (xs ++ enc y) w)) ∨ (y.k = 2 ∧ Calls Tryd.prog 98 #[v, vv y v'] w (AppPost v (xs ++ enc y) w)) ∨
    (y.k = 3 ∧ Calls Tryd.prog 99 #[v, vv y v', .pointer (some ⟨bw, 0, none⟩)] w (AppPost v (xs ++ enc y) w))

def ElsW (W0 : World) (bw : Nat) (A : Option Addr) (l : List V) : Prop :=
  ∀ i y, l[i]? = some y → ∃ b o A' c', A = some ⟨b, o, none⟩ ∧ b < W0.heap.size ∧
      W0.cell? ⟨b, o + i * 4, none⟩ = some (.int .i64 y.k) ∧ W0.cell? ⟨b, o + i * 4 + 1, none⟩ = some (.int .i64 y.n) ∧ W0.cell? ⟨b, o + i * 4 + 2, none⟩ = some (.string y.s) ∧
      W0.cell? ⟨b, o + i * 4 + 3, none⟩ = some (.slice A' y.l.length c') ∧ Writes W0 bw y (.slice A' y.l.length c')

set_option maxRecDepth 100000 in
set_option maxHeartbeats 1000000 in
theorem write_list (W00 : World) (ba bw : Nat) (hW : WAt W00 ba bw) (n : Int) (s : ByteArray) (l : List V) (A : Option Addr) (c : Nat) (v : Value) (xs : List UInt8) (w : World) (hl : l.length ≤ 1000000000) (hel : ElsW W00 bw A l)
    (hB : Below W00.heap.size W00 w) (hv : Own w v xs) (hhi : ∀ g, v.ownBlock = some g → W00.heap.size ≤ g) (hlen : xs.length + (1 + (num l.length).length + (encL l).length) ≤ 10000000000) :
    Calls Tryd.prog 99 #[v, .agg #[.int .i64 3, .int .i64 n, .string s, .slice A l.length c], .pointer (some ⟨bw, 0, none⟩)] w (AppPost v (xs ++ 3 :: (num l.length ++ encL l)) w) := by
  have hwr : IntKind.u64.wrap (l.length : Int) = l.length := by rw [wrap_u64]; omega
  have hBs := hB.size
  unfold AppPost
  go_enter Tryd.func99, Tryd.ntmps99
  go_wp2
  obtain ⟨W0, hW0⟩ : ∃ W0, w.alloc (Obj.cells #[Value.int IntKind.i64 3, Value.int IntKind.i64 n, Value.string s, Value.slice A l.length c] 96) = W0 := ⟨_, rfl⟩
  have hG0 : Grew w W0 v v := by rw [← hW0]; exact (Grew.refl _ _).alloc _
  have hv0 : Own W0 v xs := by rw [← hW0]; exact hv.alloc _
  have hc1 : W0.cell? ⟨w.heap.size, 3, none⟩ = some (Value.slice A l.length c) := by rw [← hW0]; simp [go_sem]
  have hsz : w.heap.size < W0.heap.size := by rw [← hW0]; simp
  have hne : v.ownBlock ≠ some w.heap.size := fun e => by have := hv.lt e; omega
  obtain ⟨b, hb⟩ : ∃ b, w.heap.size = b := ⟨_, rfl⟩
  rw [hb] at hc1 hsz hne ⊢
  rw [hW0]
  clear hW0 hv
  go_region_held3 (fun w' => w'.cell? ⟨b, 3, none⟩ = some (Value.slice A l.length c))
    (first
      | go_keep
      | (rw [hg2.cell (by simp; omega) hne]; go_keep)
      | (have hs2 := hg2.grown.size
         have hne2 := hg2.apart (g := b) (by simp; omega) hne
         rw [hg3.cell (by simp at hs2 ⊢; omega) hne2]; assumption))
    (first
      | (refine step_app _ (by rfl) (.tmp 8) (.tmp 9) (by rfl) v xs ⟨W0.heap.size, 0, none⟩ 1 1 [3] (by rfl) (by rfl) ((hv0.alloc _).drew) (by rfl) (one_new _ _ _) (by omega) ?_; intro v2 w2 hown2 hg2)
      | (go_at_call 96; refine (numeral_any l.length (by omega) v2 (xs ++ [3]) _ hown2 (by simp; omega)).mono ?_; rintro e w' ⟨v3, rfl, hown3, hg3⟩))
  have hg : Grew w w' v v3 := (((hG0.alloc _).drew).trans hg2).trans hg3
  have hcb : w'.cell? ⟨b, 3, none⟩ = some (Value.slice A l.length c) := by
    have hs2 := hg2.grown.size
    have hne2 := hg2.apart (g := b) (by simp; omega) hne
    rw [hg3.cell (by simp at hs2 ⊢; omega) hne2, hg2.cell (by simp; omega) hne]
    simpa using (World.cell?_alloc_lt W0 _ ⟨b, 3, none⟩ hsz).trans hc1
  clear hg2 hg3 hown2 hG0 hv0 hc1
  generalize w' = w3 at hg hcb hown3 ⊢
  go_wp2
  go_loopw [0, 19] (fun s0 s19 wr => ∃ (i : Nat), i ≤ l.length ∧ s19 = .int .i64 i ∧ Own wr s0 (xs ++ 3 :: (num l.length ++ encL (l.take i))) ∧ Grew w wr v s0) (fun _ s19 _ => l.length - (intOf s19).toNat)
  case atStart => exact ⟨0, Nat.zero_le _, rfl, by simpa [encL] using hown3, hg⟩
  case round =>
    obtain ⟨i, hi, rfl, hown, hgr⟩ := hrel

    have hBr := hgr.belowB hB hBs hhi
    have hhr := hgr.high hBs hhi
    by_cases hlt : i < l.length
    · obtain ⟨y, hy⟩ : ∃ y, l[i]? = some y := ⟨_, List.getElem?_eq_getElem hlt⟩
      obtain ⟨be, o, A', c', rfl, hbe, e0, e1, e2, e3, hwr⟩ := hel i y hy
      have f0 := (hBr.cell (p := ⟨be, o + i * 4, none⟩) hbe).trans e0
      have f1 := (hBr.cell (p := ⟨be, o + i * 4 + 1, none⟩) hbe).trans e1
      have f2 := (hBr.cell (p := ⟨be, o + i * 4 + 2, none⟩) hbe).trans e2
      have f3 := (hBr.cell (p := ⟨be, o + i * 4 + 3, none⟩) hbe).trans e3
      clear e0 e1 e2 e3
      obtain ⟨yk, yn, ys, yl⟩ := y
      dsimp only at f0 f1 f2 f3 hwr
      go_wp2
      obtain ⟨W1, hW1⟩ : ∃ W1, wr.alloc (Obj.cells #[Value.int IntKind.i64 yk, Value.int IntKind.i64 yn, Value.string ys, Value.slice A' yl.length c'] 96) = W1 := ⟨_, rfl⟩
      have hG1 : ∀ u, Grew wr W1 u u := by rw [← hW1]; exact fun u => (Grew.refl _ _).alloc _
      have hown1 := hown.alloc (Obj.cells #[Value.int IntKind.i64 yk, Value.int IntKind.i64 yn, Value.string ys, Value.slice A' yl.length c'] 96)
      rw [hW1] at hown1
      have g0 : W1.cell? ⟨wr.heap.size, 0, none⟩ = some (Value.int IntKind.i64 yk) := by rw [← hW1]; simp [go_sem]
      have g1 : W1.cell? ⟨wr.heap.size, 1, none⟩ = some (Value.int IntKind.i64 yn) := by rw [← hW1]; simp [go_sem]
      have g2 : W1.cell? ⟨wr.heap.size, 2, none⟩ = some (Value.string ys) := by rw [← hW1]; simp [go_sem]
      have g3 : W1.cell? ⟨wr.heap.size, 3, none⟩ = some (Value.slice A' yl.length c') := by rw [← hW1]; simp [go_sem]
      have hez : wr.heap.size < W1.heap.size := by rw [← hW1]; simp
      have hB1 : Below W00.heap.size W00 W1 := by rw [← hW1]; exact hBr.alloc hBr.size _
      have he1 := hown.ne
      obtain ⟨e, he⟩ : ∃ e, wr.heap.size = e := ⟨_, rfl⟩
      rw [hW1]
      rw [he] at g0 g1 g2 g3 hez he1 ⊢
      clear hW1
      have HB := (hB1.cell (p := ⟨bw, 0, none⟩) hW.lb).trans hW.cb
      have hlt2 : (encL (l.take i)).length + (enc ⟨yk, yn, ys, yl⟩).length ≤ (encL l).length := by
        have h1 : encL (l.take (i + 1)) = encL (l.take i) ++ enc ⟨yk, yn, ys, yl⟩ := by rw [take_snoc_some hy, encL_append]; simp [encL]
        have h2 : encL l = encL (l.take (i + 1)) ++ encL (l.drop (i + 1)) := by rw [← encL_append, List.take_append_drop]
        rw [h2, h1]; simp
      rcases hwr W1.drew _ _ hB1.drew hown1.drew hhr (by simp; omega) with ⟨hk, hP⟩ | ⟨hk, hP⟩ | ⟨hk, hP⟩
      · subst hk
        have hP2 := Lib.hid hP
        clear hP
        have HA := (hB1.cell (p := ⟨ba, 1, none⟩) hW.la).trans hW.c1
        go_region_held3 (fun w' => w'.cell? ⟨e, 0, none⟩ = some (Value.int .i64 1) ∧ w'.cell? ⟨e, 1, none⟩ = some (Value.int .i64 yn) ∧ w'.cell? ⟨e, 2, none⟩ = some (Value.string ys) ∧ w'.cell? ⟨e, 3, none⟩ = some (Value.slice A' yl.length c') ∧
            w'.cell? ⟨bw, 0, none⟩ = some (Value.pointer (some ⟨ba, 0, none⟩)) ∧ w'.cell? ⟨ba, 1, none⟩ = some (Value.func (Fn.func 95) #[] #[]))
          (first
            | go_keep
            | (refine ⟨?_, ?_, ?_, ?_, ?_, ?_⟩
               · exact (hg4.cell (p := ⟨e, 0, none⟩) hez he1).trans g0
               · exact (hg4.cell (p := ⟨e, 1, none⟩) hez he1).trans g1
               · exact (hg4.cell (p := ⟨e, 2, none⟩) hez he1).trans g2
               · exact (hg4.cell (p := ⟨e, 3, none⟩) hez he1).trans g3
               · exact (hg4.cell (p := ⟨bw, 0, none⟩) (Nat.lt_of_lt_of_le hW.lb hB1.size) (fun e => by have h1 := hhr _ e; have h2 := hW.lb; dsimp only at h1; omega)).trans HB
               · exact (hg4.cell (p := ⟨ba, 1, none⟩) (Nat.lt_of_lt_of_le hW.la hB1.size) (fun e => by have h1 := hhr _ e; have h2 := hW.la; dsimp only at h1; omega)).trans HA))
          (first
            | (go_at_call 95; refine hP2.out.mono ?_; rintro e w' ⟨v4, rfl, hown4, hg4⟩))
        go_wp2
        go_roundw
        case rel =>
          refine ⟨i + 1, by omega, by go_num, ?_, (hgr.trans (hG1 _).drew).trans hg4⟩
          rw [take_snoc_some hy, encL_append]
          simpa [encL] using hown4
        case measure => simp [intOf]; omega
      · subst hk
        have hP2 := Lib.hid hP
        clear hP
        have HA := (hB1.cell (p := ⟨ba, 2, none⟩) hW.la).trans hW.c2
        go_region_held3 (fun w' => w'.cell? ⟨e, 0, none⟩ = some (Value.int .i64 2) ∧ w'.cell? ⟨e, 1, none⟩ = some (Value.int .i64 yn) ∧ w'.cell? ⟨e, 2, none⟩ = some (Value.string ys) ∧ w'.cell? ⟨e, 3, none⟩ = some (Value.slice A' yl.length c') ∧
            w'.cell? ⟨bw, 0, none⟩ = some (Value.pointer (some ⟨ba, 0, none⟩)) ∧ w'.cell? ⟨ba, 2, none⟩ = some (Value.func (Fn.func 98) #[] #[]))
          (first
            | go_keep
            | (refine ⟨?_, ?_, ?_, ?_, ?_, ?_⟩
               · exact (hg4.cell (p := ⟨e, 0, none⟩) hez he1).trans g0
               · exact (hg4.cell (p := ⟨e, 1, none⟩) hez he1).trans g1
               · exact (hg4.cell (p := ⟨e, 2, none⟩) hez he1).trans g2
               · exact (hg4.cell (p := ⟨e, 3, none⟩) hez he1).trans g3
               · exact (hg4.cell (p := ⟨bw, 0, none⟩) (Nat.lt_of_lt_of_le hW.lb hB1.size) (fun e => by have h1 := hhr _ e; have h2 := hW.lb; dsimp only at h1; omega)).trans HB
               · exact (hg4.cell (p := ⟨ba, 2, none⟩) (Nat.lt_of_lt_of_le hW.la hB1.size) (fun e => by have h1 := hhr _ e; have h2 := hW.la; dsimp only at h1; omega)).trans HA))
          (first
            | (go_at_call 98; refine hP2.out.mono ?_; rintro e w' ⟨v4, rfl, hown4, hg4⟩))
        go_wp2
        go_roundw
        case rel =>
          refine ⟨i + 1, by omega, by go_num, ?_, (hgr.trans (hG1 _).drew).trans hg4⟩
          rw [take_snoc_some hy, encL_append]
          simpa [encL] using hown4
        case measure => simp [intOf]; omega
      · subst hk
        have hP2 := Lib.hid hP
        clear hP
        have HA := (hB1.cell (p := ⟨ba, 3, none⟩) hW.la).trans hW.c3
        go_region_held3 (fun w' => w'.cell? ⟨e, 0, none⟩ = some (Value.int .i64 3) ∧ w'.cell? ⟨e, 1, none⟩ = some (Value.int .i64 yn) ∧ w'.cell? ⟨e, 2, none⟩ = some (Value.string ys) ∧ w'.cell? ⟨e, 3, none⟩ = some (Value.slice A' yl.length c') ∧
            w'.cell? ⟨bw, 0, none⟩ = some (Value.pointer (some ⟨ba, 0, none⟩)) ∧ w'.cell? ⟨ba, 3, none⟩ = some (Value.func (Fn.func 99) #[] #[Value.pointer (some ⟨bw, 0, none⟩)]))
          (first
            | go_keep
            | (refine ⟨?_, ?_, ?_, ?_, ?_, ?_⟩
               · exact (hg4.cell (p := ⟨e, 0, none⟩) hez he1).trans g0
               · exact (hg4.cell (p := ⟨e, 1, none⟩) hez he1).trans g1
               · exact (hg4.cell (p := ⟨e, 2, none⟩) hez he1).trans g2
               · exact (hg4.cell (p := ⟨e, 3, none⟩) hez he1).trans g3
               · exact (hg4.cell (p := ⟨bw, 0, none⟩) (Nat.lt_of_lt_of_le hW.lb hB1.size) (fun e => by have h1 := hhr _ e; have h2 := hW.lb; dsimp only at h1; omega)).trans HB
               · exact (hg4.cell (p := ⟨ba, 3, none⟩) (Nat.lt_of_lt_of_le hW.la hB1.size) (fun e => by have h1 := hhr _ e; have h2 := hW.la; dsimp only at h1; omega)).trans HA))
          (first
            | (go_at_call 99; refine hP2.out.mono ?_; rintro e w' ⟨v4, rfl, hown4, hg4⟩))
        go_wp2
        go_roundw
        case rel =>
          refine ⟨i + 1, by omega, by go_num, ?_, (hgr.trans (hG1 _).drew).trans hg4⟩
          rw [take_snoc_some hy, encL_append]
          simpa [encL] using hown4
        case measure => simp [intOf]; omega
    · obtain rfl : i = l.length := by omega
      clear hel
      go_wp2
      go_ret
      refine ⟨_, rfl, ?_, hgr⟩
      rw [List.take_length] at hown
      exact hown

theorem enc_kind {x : V} {a : Nat} (h : fm x = some a) : x.k = 1 ∨ x.k = 2 ∨ x.k = 3 := by
  obtain ⟨k, n, s, l⟩ := x
  dsimp only
  rw [fm] at h
  by_cases h1 : k = 1
  · exact .inl h1
  · by_cases h2 : k = 2
    · exact .inr (.inl h2)
    · by_cases h3 : k = 3
      · exact .inr (.inr h3)
      · rw [if_neg h1, if_neg h2, if_neg h3] at h; cases h

theorem ElsW.of {W0 : World} {bw d : Nat} {l : List V} {A : Option Addr} {c : Nat} (h : RS W0 (d + 1) l (.slice A l.length c)) (hP : ∀ y ∈ l, ∀ v', RS W0 d y.l v' → Writes W0 bw y v') : ElsW W0 bw A l := by
  intro i y hy
  obtain ⟨A2, c2, he, hc, hi⟩ := h
  injection he with e1 _ e3
  subst e1 e3
  obtain ⟨b, o, v', hA, hb, h0, h1, h2, h3, hr⟩ := hi i y hy
  obtain ⟨A', c', rfl⟩ := hr.form
  exact ⟨b, o, A', c', hA, hb, h0, h1, h2, h3, hP y (List.mem_of_getElem? hy) _ hr⟩

theorem write_any (W00 : World) (ba bw : Nat) (hW : WAt W00 ba bw) (d : Nat) : ∀ (x : V) (v' : Value) (a : Nat), RS W00 d x.l v' → Sm x → fm x = some a → Writes W00 bw x v' := by
  induction d with
  | zero =>
    intro x v' a hr hs hf w v xs hB hv hhi hlen
    obtain ⟨k, n, s, l⟩ := x
    obtain ⟨A, c, rfl⟩ := hr.form
    have hl0 := hr.zero_nil
    dsimp only at hl0
    subst hl0
    simp only [Sm] at hs
    rcases enc_kind hf with h | h | h <;> dsimp only at h <;> subst h
    · refine .inl ⟨rfl, ?_⟩
      simp only [enc, if_true] at hlen ⊢
      exact write_int n hs.1 1 s _ v xs w ⟨A, _, c, rfl⟩ hv (by omega)
    · refine .inr (.inl ⟨rfl, ?_⟩)
      have he : enc ⟨2, n, s, []⟩ = 2 :: (num s.size ++ s.data.toList) := by rw [enc, if_neg (by decide), if_pos rfl]
      rw [he] at hlen ⊢
      exact write_text s hs.2.1 2 n _ v xs w ⟨A, _, c, rfl⟩ hv (by omega)
    · refine .inr (.inr ⟨rfl, ?_⟩)
      have he : enc ⟨3, n, s, []⟩ = 3 :: (num 0 ++ encL []) := by rw [enc, if_neg (by decide), if_neg (by decide)]; rfl
      rw [he] at hlen ⊢
      exact write_list W00 ba bw hW n s [] A c v xs w (by simp) (fun i y hy => by simp at hy) hB hv hhi (by simp at hlen ⊢; omega)
  | succ d ih =>
    intro x v' a hr hs hf w v xs hB hv hhi hlen
    obtain ⟨k, n, s, l⟩ := x
    dsimp only at hr
    obtain ⟨A, c, rfl⟩ := hr.form
    simp only [Sm] at hs
    rcases enc_kind hf with h | h | h <;> dsimp only at h <;> subst h
    · refine .inl ⟨rfl, ?_⟩
      simp only [enc, if_true] at hlen ⊢
      exact write_int n hs.1 1 s _ v xs w ⟨A, _, c, rfl⟩ hv (by omega)
    · refine .inr (.inl ⟨rfl, ?_⟩)
      have he : enc ⟨2, n, s, l⟩ = 2 :: (num s.size ++ s.data.toList) := by rw [enc, if_neg (by decide), if_pos rfl]
      rw [he] at hlen ⊢
      exact write_text s hs.2.1 2 n _ v xs w ⟨A, _, c, rfl⟩ hv (by omega)
    · refine .inr (.inr ⟨rfl, ?_⟩)
      have he : enc ⟨3, n, s, l⟩ = 3 :: (num l.length ++ encL l) := by rw [enc, if_neg (by decide), if_neg (by decide)]
      rw [he] at hlen ⊢
      have hm : ∀ y ∈ l, ∃ b, fm y = some b := by
        rw [fm, if_neg (by decide), if_neg (by decide), if_pos rfl] at hf
        split at hf
        · simp only [Option.map_eq_some_iff] at hf
          obtain ⟨b, hb, _⟩ := hf
          exact fun y hy => (fmL_some hb y hy).imp fun _ h => h.1
        · cases hf
      exact write_list W00 ba bw hW n s l A c v xs w hs.2.2.1 (ElsW.of hr fun y hy v' hr' => by
        obtain ⟨b, hb⟩ := hm y hy
        exact ih y v' b hr' (SmL_mem hs.2.2.2 y hy) hb) hB hv hhi (by simp at hlen ⊢; omega)
end Go.Proofs.YtnccbhndlnkboaaDoor
/- The walks of codec.Encode and codec.Size. -/
namespace Go.Proofs.YtnccbhndlnkboaaDoor
open Go.RowKit Cdc
set_option linter.unusedVariables false
set_option linter.unusedSimpArgs false

/-- what Encode answers -/
def encB (x : V) : List UInt8 := if ckE x = 0 then enc x else []

def EncPost (x : V) (w : World) (e : Ending) (w' : World) : Prop :=
  ∃ v', e = .returned (.tuple #[v', .int .i64 (ckE x)]) ∧ Own w' v' (encB x) ∧ (∀ g, v'.ownBlock = some g → w.heap.size ≤ g) ∧ Below w.heap.size w w'

theorem ckE_cases (x : V) : ckE x = 0 ∨ ckE x = 1 ∨ ckE x = 2 := by
  unfold ckE
  split
  · exact .inr (.inl rfl)
  · split
    · exact .inr (.inr rfl)
    · exact .inl rfl

set_option maxRecDepth 100000 in
set_option maxHeartbeats 1000000 in
theorem encode_err (x : V) (c0 : Int) (hc0 : c0 = 1 ∨ c0 = 2) (A : Option Addr) (m c : Nat) (w : World)
    (hck : ∀ W, Below w.heap.size w W → Calls Tryd.prog 78 #[vv x (.slice A m c)] W fun e w' => e = .returned (.int .i64 c0) ∧ Below W.heap.size W w') :
    Calls Tryd.prog 54 #[vv x (.slice A m c)] w fun e w' => e = .returned (.tuple #[.slice none 0 0, .int .i64 c0]) ∧ Below w.heap.size w w' := by
  have hck2 := hck (w.alloc (Obj.cells #[Value.int IntKind.i64 x.k, Value.int IntKind.i64 x.n, Value.string x.s, Value.slice A m c] 96)) ((Below.refl _ _).alloc (Nat.le_refl _) _)
  have hck3 := Lib.hid hck2
  clear hck hck2
  rcases hc0 with rfl | rfl
  all_goals
    go_enter Tryd.func54, Tryd.ntmps54
    go_wp2_with (go_at_call 78; refine hck3.out.mono ?_; rintro e w' ⟨rfl, hb⟩)
    go_ret2
    exact ⟨rfl, ((Below.refl _ _).alloc (Nat.le_refl _) _).trans (‹Below _ _ _›.mono (by simp))⟩

theorem Writes.k1 {W0 : World} {bw : Nat} {n : Int} {s : ByteArray} {l : List V} {v' : Value} (h : Writes W0 bw ⟨1, n, s, l⟩ v') (w : World) (hB : Below W0.heap.size W0 w) (hl : (enc ⟨1, n, s, l⟩).length ≤ 10000000000) :
    Calls Tryd.prog 95 #[.slice none 0 0, vv ⟨1, n, s, l⟩ v'] w (AppPost (.slice none 0 0) (enc ⟨1, n, s, l⟩) w) := by
  rcases h w (.slice none 0 0) [] hB (Own.nil w) (fun g e => by cases e) (by simpa using hl) with ⟨hk, h⟩ | ⟨hk, h⟩ | ⟨hk, h⟩
  · exact h
  · exact absurd hk (by decide : ¬ ((1 : Int) = 2))
  · exact absurd hk (by decide : ¬ ((1 : Int) = 3))

theorem Writes.k2 {W0 : World} {bw : Nat} {n : Int} {s : ByteArray} {l : List V} {v' : Value} (h : Writes W0 bw ⟨2, n, s, l⟩ v') (w : World) (hB : Below W0.heap.size W0 w) (hl : (enc ⟨2, n, s, l⟩).length ≤ 10000000000) :
    Calls Tryd.prog 98 #[.slice none 0 0, vv ⟨2, n, s, l⟩ v'] w (AppPost (.slice none 0 0) (enc ⟨2, n, s, l⟩) w) := by
  rcases h w (.slice none 0 0) [] hB (Own.nil w) (fun g e => by cases e) (by simpa using hl) with ⟨hk, h⟩ | ⟨hk, h⟩ | ⟨hk, h⟩
  · exact absurd hk (by decide : ¬ ((2 : Int) = 1))
  · exact h
  · exact absurd hk (by decide : ¬ ((2 : Int) = 3))

theorem Writes.k3 {W0 : World} {bw : Nat} {n : Int} {s : ByteArray} {l : List V} {v' : Value} (h : Writes W0 bw ⟨3, n, s, l⟩ v') (w : World) (hB : Below W0.heap.size W0 w) (hl : (enc ⟨3, n, s, l⟩).length ≤ 10000000000) :
    Calls Tryd.prog 99 #[.slice none 0 0, vv ⟨3, n, s, l⟩ v', .pointer (some ⟨bw, 0, none⟩)] w (AppPost (.slice none 0 0) (enc ⟨3, n, s, l⟩) w) := by
  rcases h w (.slice none 0 0) [] hB (Own.nil w) (fun g e => by cases e) (by simpa using hl) with ⟨hk, h⟩ | ⟨hk, h⟩ | ⟨hk, h⟩
  · exact absurd hk (by decide : ¬ ((3 : Int) = 1))
  · exact absurd hk (by decide : ¬ ((3 : Int) = 2))
  · exact h

set_option maxRecDepth 100000 in
set_option maxHeartbeats 1000000 in
theorem encode_ok1 (n : Int) (s : ByteArray) (l : List V) (a : Nat) (A : Option Addr) (m c d : Nat) (w : World) (hr : RS w d l (.slice A m c)) (hs : Sm ⟨1, n, s, l⟩) (hf : fm ⟨1, n, s, l⟩ = some a) (hlen : (enc ⟨1, n, s, l⟩).length ≤ 1000000000)
    (hck : ∀ W, Below w.heap.size w W → Calls Tryd.prog 78 #[vv ⟨1, n, s, l⟩ (.slice A m c)] W fun e w' => e = .returned (.int .i64 0) ∧ Below W.heap.size W w') :
    Calls Tryd.prog 54 #[vv ⟨1, n, s, l⟩ (.slice A m c)] w fun e w' => ∃ v', e = .returned (.tuple #[v', .int .i64 0]) ∧ Own w' v' (enc ⟨1, n, s, l⟩) ∧ (∀ g, v'.ownBlock = some g → w.heap.size ≤ g) ∧ Below w.heap.size w w' := by
  have hck2 := hck (w.alloc (Obj.cells #[Value.int IntKind.i64 1, Value.int IntKind.i64 n, Value.string s, Value.slice A m c] 96)) ((Below.refl _ _).alloc (Nat.le_refl _) _)
  have hck3 := Lib.hid hck2
  clear hck hck2
  have hWA := fun (W00 : World) (ba bw : Nat) (hW : WAt W00 ba bw) (hb : Below w.heap.size w W00) => (write_any W00 ba bw hW d ⟨1, n, s, l⟩ _ a (hr.below hb) hs hf).k1
  have hWH := Lib.hid hWA
  clear hWA hr hs hf
  go_enter Tryd.func54, Tryd.ntmps54
  go_wp2_with (go_at_call 78; refine hck3.out.mono ?_; rintro e w1 ⟨rfl, hb⟩)
  clear hck3
  have hB1 : Below w.heap.size w w1 := ((Below.refl _ _).alloc (Nat.le_refl _) _).trans (hb.mono (by simp))
  have hs1 : w.heap.size < w1.heap.size := by have := hb.size; simp at this; omega
  have c0 : w1.cell? ⟨w.heap.size, 0, none⟩ = some (Value.int .i64 1) := by rw [hb.cell (by simp)]; simp [go_sem]
  have c1 : w1.cell? ⟨w.heap.size, 1, none⟩ = some (Value.int .i64 n) := by rw [hb.cell (by simp)]; simp [go_sem]
  have c2 : w1.cell? ⟨w.heap.size, 2, none⟩ = some (Value.string s) := by rw [hb.cell (by simp)]; simp [go_sem]
  have c3 : w1.cell? ⟨w.heap.size, 3, none⟩ = some (Value.slice A m c) := by rw [hb.cell (by simp)]; simp [go_sem]
  clear hb
  obtain ⟨b, hb⟩ : ∃ b, w.heap.size = b := ⟨_, rfl⟩
  have hbH := Lib.hid hb
  rw [hb] at hs1 c0 c1 c2 c3 hB1 hWH ⊢
  clear hb
  go_region_with (first
      | (go_at_call 79; refine (newWriter_any _).mono ?_; rintro e w2 ⟨rfl, hB2, hW2⟩; have k1 : w2.cell? ⟨w1.heap.size, 1, none⟩ = some (Value.func (Fn.func 95) #[] #[]) := hW2.c1
         have e0 := (hB2.cell (p := ⟨b, 0, none⟩) hs1).trans c0
         have e1 := (hB2.cell (p := ⟨b, 1, none⟩) hs1).trans c1
         have e2 := (hB2.cell (p := ⟨b, 2, none⟩) hs1).trans c2
         have e3 := (hB2.cell (p := ⟨b, 3, none⟩) hs1).trans c3)
      | (go_at_call 95; refine (hWH.out w2 _ _ hW2 (hB1.drew.trans (hB2.mono (Nat.le_of_lt hs1))) _ (Below.refl _ _) (by omega)).mono ?_; rintro e w3 ⟨v3, rfl, hown3, hg3⟩))
  all_goals
    go_wp2
    go_ret2
    rw [hbH.out]
    have hB3 : Below b w w2 := hB1.drew.trans (hB2.mono (Nat.le_of_lt hs1))
    refine ⟨v3, rfl, hown3, fun g hg => ?_, hB3.grown hg3.grown (Nat.le_trans (Nat.le_of_lt hs1) hB2.size) (fun g hg => by cases hg)⟩
    rcases hg3.lies with e | ⟨g', e, hg'⟩
    · rw [e] at hg; cases hg
    · rw [e] at hg; injection hg with hg; have h1 : w1.heap.size ≤ w2.heap.size := hB2.size; have h2 : w2.heap.size ≤ g' := hg'; omega

set_option maxRecDepth 100000 in
set_option maxHeartbeats 1000000 in
theorem encode_ok2 (n : Int) (s : ByteArray) (l : List V) (a : Nat) (A : Option Addr) (m c d : Nat) (w : World) (hr : RS w d l (.slice A m c)) (hs : Sm ⟨2, n, s, l⟩) (hf : fm ⟨2, n, s, l⟩ = some a) (hlen : (enc ⟨2, n, s, l⟩).length ≤ 1000000000)
    (hck : ∀ W, Below w.heap.size w W → Calls Tryd.prog 78 #[vv ⟨2, n, s, l⟩ (.slice A m c)] W fun e w' => e = .returned (.int .i64 0) ∧ Below W.heap.size W w') :
    Calls Tryd.prog 54 #[vv ⟨2, n, s, l⟩ (.slice A m c)] w fun e w' => ∃ v', e = .returned (.tuple #[v', .int .i64 0]) ∧ Own w' v' (enc ⟨2, n, s, l⟩) ∧ (∀ g, v'.ownBlock = some g → w.heap.size ≤ g) ∧ Below w.heap.size w w' := by
  have hck2 := hck (w.alloc (Obj.cells #[Value.int IntKind.i64 2, Value.int IntKind.i64 n, Value.string s, Value.slice A m c] 96)) ((Below.refl _ _).alloc (Nat.le_refl _) _)
  have hck3 := Lib.hid hck2
  clear hck hck2
  have hWA := fun (W00 : World) (ba bw : Nat) (hW : WAt W00 ba bw) (hb : Below w.heap.size w W00) => (write_any W00 ba bw hW d ⟨2, n, s, l⟩ _ a (hr.below hb) hs hf).k2
  have hWH := Lib.hid hWA
  clear hWA hr hs hf
  go_enter Tryd.func54, Tryd.ntmps54
  go_wp2_with (go_at_call 78; refine hck3.out.mono ?_; rintro e w1 ⟨rfl, hb⟩)
  clear hck3
  have hB1 : Below w.heap.size w w1 := ((Below.refl _ _).alloc (Nat.le_refl _) _).trans (hb.mono (by simp))
  have hs1 : w.heap.size < w1.heap.size := by have := hb.size; simp at this; omega
  have c0 : w1.cell? ⟨w.heap.size, 0, none⟩ = some (Value.int .i64 2) := by rw [hb.cell (by simp)]; simp [go_sem]
  have c1 : w1.cell? ⟨w.heap.size, 1, none⟩ = some (Value.int .i64 n) := by rw [hb.cell (by simp)]; simp [go_sem]
  have c2 : w1.cell? ⟨w.heap.size, 2, none⟩ = some (Value.string s) := by rw [hb.cell (by simp)]; simp [go_sem]
  have c3 : w1.cell? ⟨w.heap.size, 3, none⟩ = some (Value.slice A m c) := by rw [hb.cell (by simp)]; simp [go_sem]
  clear hb
  obtain ⟨b, hb⟩ : ∃ b, w.heap.size = b := ⟨_, rfl⟩
  have hbH := Lib.hid hb
  rw [hb] at hs1 c0 c1 c2 c3 hB1 hWH ⊢
  clear hb
  go_region_with (first
      | (go_at_call 79; refine (newWriter_any _).mono ?_; rintro e w2 ⟨rfl, hB2, hW2⟩; have k1 : w2.cell? ⟨w1.heap.size, 2, none⟩ = some (Value.func (Fn.func 98) #[] #[]) := hW2.c2
         have e0 := (hB2.cell (p := ⟨b, 0, none⟩) hs1).trans c0
         have e1 := (hB2.cell (p := ⟨b, 1, none⟩) hs1).trans c1
         have e2 := (hB2.cell (p := ⟨b, 2, none⟩) hs1).trans c2
         have e3 := (hB2.cell (p := ⟨b, 3, none⟩) hs1).trans c3)
      | (go_at_call 98; refine (hWH.out w2 _ _ hW2 (hB1.drew.trans (hB2.mono (Nat.le_of_lt hs1))) _ (Below.refl _ _) (by omega)).mono ?_; rintro e w3 ⟨v3, rfl, hown3, hg3⟩))
  all_goals
    go_wp2
    go_ret2
    rw [hbH.out]
    have hB3 : Below b w w2 := hB1.drew.trans (hB2.mono (Nat.le_of_lt hs1))
    refine ⟨v3, rfl, hown3, fun g hg => ?_, hB3.grown hg3.grown (Nat.le_trans (Nat.le_of_lt hs1) hB2.size) (fun g hg => by cases hg)⟩
    rcases hg3.lies with e | ⟨g', e, hg'⟩
    · rw [e] at hg; cases hg
    · rw [e] at hg; injection hg with hg; have h1 : w1.heap.size ≤ w2.heap.size := hB2.size; have h2 : w2.heap.size ≤ g' := hg'; omega

set_option maxRecDepth 100000 in
set_option maxHeartbeats 1000000 in
theorem encode_ok3 (n : Int) (s : ByteArray) (l : List V) (a : Nat) (A : Option Addr) (m c d : Nat) (w : World) (hr : RS w d l (.slice A m c)) (hs : Sm ⟨3, n, s, l⟩) (hf : fm ⟨3, n, s, l⟩ = some a) (hlen : (enc ⟨3, n, s, l⟩).length ≤ 1000000000)
    (hck : ∀ W, Below w.heap.size w W → Calls Tryd.prog 78 #[vv ⟨3, n, s, l⟩ (.slice A m c)] W fun e w' => e = .returned (.int .i64 0) ∧ Below W.heap.size W w') :
    Calls Tryd.prog 54 #[vv ⟨3, n, s, l⟩ (.slice A m c)] w fun e w' => ∃ v', e = .returned (.tuple #[v', .int .i64 0]) ∧ Own w' v' (enc ⟨3, n, s, l⟩) ∧ (∀ g, v'.ownBlock = some g → w.heap.size ≤ g) ∧ Below w.heap.size w w' := by
  have hck2 := hck (w.alloc (Obj.cells #[Value.int IntKind.i64 3, Value.int IntKind.i64 n, Value.string s, Value.slice A m c] 96)) ((Below.refl _ _).alloc (Nat.le_refl _) _)
  have hck3 := Lib.hid hck2
  clear hck hck2
  have hWA := fun (W00 : World) (ba bw : Nat) (hW : WAt W00 ba bw) (hb : Below w.heap.size w W00) => (write_any W00 ba bw hW d ⟨3, n, s, l⟩ _ a (hr.below hb) hs hf).k3
  have hWH := Lib.hid hWA
  clear hWA hr hs hf
  go_enter Tryd.func54, Tryd.ntmps54
  go_wp2_with (go_at_call 78; refine hck3.out.mono ?_; rintro e w1 ⟨rfl, hb⟩)
  clear hck3
  have hB1 : Below w.heap.size w w1 := ((Below.refl _ _).alloc (Nat.le_refl _) _).trans (hb.mono (by simp))
  have hs1 : w.heap.size < w1.heap.size := by have := hb.size; simp at this; omega
  have c0 : w1.cell? ⟨w.heap.size, 0, none⟩ = some (Value.int .i64 3) := by rw [hb.cell (by simp)]; simp [go_sem]
  have c1 : w1.cell? ⟨w.heap.size, 1, none⟩ = some (Value.int .i64 n) := by rw [hb.cell (by simp)]; simp [go_sem]
  have c2 : w1.cell? ⟨w.heap.size, 2, none⟩ = some (Value.string s) := by rw [hb.cell (by simp)]; simp [go_sem]
  have c3 : w1.cell? ⟨w.heap.size, 3, none⟩ = some (Value.slice A m c) := by rw [hb.cell (by simp)]; simp [go_sem]
  clear hb
  obtain ⟨b, hb⟩ : ∃ b, w.heap.size = b := ⟨_, rfl⟩
  have hbH := Lib.hid hb
  rw [hb] at hs1 c0 c1 c2 c3 hB1 hWH ⊢
  clear hb
  go_region_with (first
      | (go_at_call 79; refine (newWriter_any _).mono ?_; rintro e w2 ⟨rfl, hB2, hW2⟩; have k1 : w2.cell? ⟨w1.heap.size, 3, none⟩ = some (Value.func (Fn.func 99) #[] #[Value.pointer (some ⟨w1.heap.size + 1, 0, none⟩)]) := hW2.c3
         have e0 := (hB2.cell (p := ⟨b, 0, none⟩) hs1).trans c0
         have e1 := (hB2.cell (p := ⟨b, 1, none⟩) hs1).trans c1
         have e2 := (hB2.cell (p := ⟨b, 2, none⟩) hs1).trans c2
         have e3 := (hB2.cell (p := ⟨b, 3, none⟩) hs1).trans c3)
      | (go_at_call 99; refine (hWH.out w2 _ _ hW2 (hB1.drew.trans (hB2.mono (Nat.le_of_lt hs1))) _ (Below.refl _ _) (by omega)).mono ?_; rintro e w3 ⟨v3, rfl, hown3, hg3⟩))
  all_goals
    go_wp2
    go_ret2
    rw [hbH.out]
    have hB3 : Below b w w2 := hB1.drew.trans (hB2.mono (Nat.le_of_lt hs1))
    refine ⟨v3, rfl, hown3, fun g hg => ?_, hB3.grown hg3.grown (Nat.le_trans (Nat.le_of_lt hs1) hB2.size) (fun g hg => by cases hg)⟩
    rcases hg3.lies with e | ⟨g', e, hg'⟩
    · rw [e] at hg; cases hg
    · rw [e] at hg; injection hg with hg; have h1 : w1.heap.size ≤ w2.heap.size := hB2.size; have h2 : w2.heap.size ≤ g' := hg'; omega

theorem encode_any (d : Nat) (x : V) (v : Value) (w : World) (hv : RS w d x.l v) (hs : Sm x) (hd : dp x ≤ 1000000000000) (hlen : (enc x).length ≤ 1000000000) :
    Calls Tryd.prog 54 #[vv x v] w (EncPost x w) := by
  have hck : ∀ W, Below w.heap.size w W → Calls Tryd.prog 78 #[vv x v] W fun e w' => e = .returned (.int .i64 (ckE x)) ∧ Below W.heap.size W w' := fun W hB => check_any d x v W (hv.below hB) hs hd
  by_cases hc : ckE x = 0
  · rw [hc] at hck
    unfold EncPost encB
    rw [if_pos hc, hc]
    obtain ⟨A, c, rfl⟩ := hv.form
    have hf : ∃ a, fm x = some a := by
      unfold ckE at hc
      cases h : fm x with
      | none => rw [h] at hc; cases hc
      | some a => exact ⟨a, rfl⟩
    obtain ⟨a, hf⟩ := hf
    obtain ⟨k, n, s, l⟩ := x
    rcases enc_kind hf with h | h | h <;> dsimp only at h <;> subst h
    · exact encode_ok1 n s l a A _ c d w hv hs hf hlen hck
    · exact encode_ok2 n s l a A _ c d w hv hs hf hlen hck
    · exact encode_ok3 n s l a A _ c d w hv hs hf hlen hck
  · obtain ⟨A, c, rfl⟩ := hv.form
    refine (encode_err x (ckE x) ?_ A _ c w hck).mono ?_
    · rcases ckE_cases x with h | h
      · exact absurd h hc
      · exact h
    · rintro e w' ⟨rfl, hb⟩
      unfold EncPost encB
      rw [if_neg hc]
      exact ⟨_, rfl, Own.nil _, fun g hg => by (cases hg), hb⟩

def lenB (x : V) : Int := ((encB x).length : Nat)

end Go.Proofs.YtnccbhndlnkboaaDoor
