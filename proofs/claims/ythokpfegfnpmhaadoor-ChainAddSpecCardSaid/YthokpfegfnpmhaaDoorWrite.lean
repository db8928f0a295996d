/- The walks of the closures of codec.newWriter, and of Encode. -/
import Derived.Test.YthokpfegfnpmhaaDoorNumeral
import Derived.Test.YthokpfegfnpmhaaDoorFormF
import Derived.Deep.RegionHeld3
import Derived.Deep.Draws
namespace Go.Proofs.YthokpfegfnpmhaaDoor
open Go.RowKit Cdc
set_option linter.unusedVariables false
set_option linter.unusedSimpArgs false

theorem Own.drewN {w : World} {v : Value} {xs : List UInt8} (h : Own w v xs) (k : Nat) : Own (w.drewN k) v xs := h
theorem Grew.drewN {a b : World} {u v : Value} (h : Grew a b u v) (k : Nat) : Grew a (b.drewN k) u v := h.trans ⟨⟨rfl, rfl, rfl, Nat.le_refl _, fun _ _ _ => rfl⟩, .inl rfl⟩

set_option maxRecDepth 100000 in
set_option maxHeartbeats 1000000 in
theorem write_int (n : Int) (hn : -9223372036854775808 ≤ n ∧ n ≤ 9223372036854775807) (k : Int) (s : ByteArray) (l v : Value) (xs : List UInt8) (w : World) (hl : ∃ A m c, l = .slice A m c) (hv : Own w v xs) (hlen : xs.length ≤ 100000000000) :
    Calls Tryd.prog 104 #[v, .agg #[.int .i64 k, .int .i64 n, .string s, l]] w (AppPost v (xs ++ 1 :: num (uz n)) w) := by
  obtain ⟨A, m, c, rfl⟩ := hl
  have hu := uz_lt hn
  have hn2 := num_len (uz n) hu
  unfold AppPost
  go_enter Tryd.func104, Tryd.ntmps104
  go_wp2
  obtain ⟨W0, hW0⟩ : ∃ W0, w.alloc (Obj.cells #[Value.int IntKind.i64 k, Value.int IntKind.i64 n, Value.string s, Value.slice A m c] 80) = W0 := ⟨_, rfl⟩
  have hG0 : Grew w W0 v v := by rw [← hW0]; exact (Grew.refl _ _).alloc _
  have hv0 : Own W0 v xs := by rw [← hW0]; exact hv.alloc _
  have hc1 : W0.cell? ⟨w.heap.size, 1, none⟩ = some (Value.int IntKind.i64 n) := by rw [← hW0]; simp [go_sem]
  have hsz : w.heap.size < W0.heap.size := by rw [← hW0]; simp
  have hne : v.ownBlock ≠ some w.heap.size := fun e => by have := hv.lt e; omega
  generalize w.heap.size = b at hc1 hsz hne ⊢
  rw [hW0]
  clear hW0 hv
  go_region_held3 (fun w' => w'.cell? ⟨b, 1, none⟩ = some (.int .i64 n))
    (first
      | go_keep
      | (rw [hg2.cell (by simp; omega) hne]; go_keep)
      | (have hs2 := hg2.grown.size
         have hne2 := hg2.apart (g := b) (by simp; omega) hne
         rw [hg3.cell (by simp at hs2 ⊢; omega) hne2]; assumption))
    (first
      | (refine step_app _ (by rfl) (.tmp 5) (.tmp 6) (by rfl) v xs ⟨W0.heap.size, 0, none⟩ 1 1 [1] (by rfl) (by rfl) ((hv0.alloc _).drew) (by rfl) (one_new _ _ _) (by omega) ?_; intro v2 w2 hown2 hg2)
      | (go_at_call 106; refine (unsigned_any n hn _).mono ?_; rintro e w' ⟨rfl, rfl⟩)
      | (go_at_call 105; refine (numeral_any (uz n) (by simpa using hu) v2 (xs ++ [1]) _ hown2 (by simp; omega)).mono ?_; rintro e w' ⟨v3, rfl, hown3, hg3⟩))
  go_wp2
  go_ret
  refine ⟨v3, by simp, ?_, (((hG0.alloc _).drew).trans hg2).trans hg3⟩
  simpa using hown3

set_option maxRecDepth 100000 in
set_option maxHeartbeats 1000000 in
theorem write_text (s : ByteArray) (hs : s.size ≤ 1000000000) (k n : Int) (l v : Value) (xs : List UInt8) (w : World) (hl : ∃ A m c, l = .slice A m c) (hv : Own w v xs) (hlen : xs.length ≤ 100000000000) :
    Calls Tryd.prog 107 #[v, .agg #[.int .i64 k, .int .i64 n, .string s, l]] w (AppPost v (xs ++ 2 :: (num s.size ++ s.data.toList)) w) := by
  obtain ⟨A, m, c, rfl⟩ := hl
  have hn2 := num_len s.size (by have e : (2 : Nat) ^ 64 = 18446744073709551616 := by decide
                                 omega)
  have hwr : IntKind.u64.wrap (s.size : Int) = s.size := by rw [wrap_u64]; omega
  unfold AppPost
  go_enter Tryd.func107, Tryd.ntmps107
  go_wp2
  obtain ⟨W0, hW0⟩ : ∃ W0, w.alloc (Obj.cells #[Value.int IntKind.i64 k, Value.int IntKind.i64 n, Value.string s, Value.slice A m c] 80) = W0 := ⟨_, rfl⟩
  have hG0 : Grew w W0 v v := by rw [← hW0]; exact (Grew.refl _ _).alloc _
  have hv0 : Own W0 v xs := by rw [← hW0]; exact hv.alloc _
  have hc1 : W0.cell? ⟨w.heap.size, 2, none⟩ = some (Value.string s) := by rw [← hW0]; simp [go_sem]
  have hsz : w.heap.size < W0.heap.size := by rw [← hW0]; simp
  have hne : v.ownBlock ≠ some w.heap.size := fun e => by have := hv.lt e; omega
  generalize w.heap.size = b at hc1 hsz hne ⊢
  rw [hW0]
  clear hW0 hv
  go_region_held3 (fun w' => w'.cell? ⟨b, 2, none⟩ = some (.string s))
    (first
      | go_keep
      | (rw [hg2.cell (by simp; omega) hne]; go_keep)
      | (have hs2 := hg2.grown.size
         have hne2 := hg2.apart (g := b) (by simp; omega) hne
         rw [hg3.cell (by simp at hs2 ⊢; omega) hne2]; assumption)
      | (have hs2 := hg2.grown.size
         have hne2 := hg2.apart (g := b) (by simp; omega) hne
         have hs3 := hg3.grown.size
         have hne3 := hg3.apart (g := b) (by simp at hs2 ⊢; omega) hne2
         rw [hg4.cell (by simp at hs2 hs3 ⊢; omega) hne3]; assumption))
    (first
      | (refine step_app _ (by rfl) (.tmp 5) (.tmp 6) (by rfl) v xs ⟨W0.heap.size, 0, none⟩ 1 1 [2] (by rfl) (by rfl) ((hv0.alloc _).drew) (by rfl) (one_new _ _ _) (by omega) ?_; intro v2 w2 hown2 hg2)
      | (refine step_app_str _ (by rfl) (.tmp 12) (.tmp 14) (by rfl) v3 (xs ++ [2] ++ num s.size) s (by rfl) (by rfl) hown3 (by simp; omega) ?_; intro v4 w4 hown4 hg4)
      | (go_at_call 105; refine (numeral_any s.size (by omega) v2 (xs ++ [2]) _ hown2 (by simp; omega)).mono ?_; rintro e w' ⟨v3, rfl, hown3, hg3⟩))
  go_wp2
  go_ret
  refine ⟨v4, by simp, ?_, ((((hG0.alloc _).drew).trans hg2).trans hg3).trans hg4⟩
  simpa using hown4
end Go.Proofs.YthokpfegfnpmhaaDoor
