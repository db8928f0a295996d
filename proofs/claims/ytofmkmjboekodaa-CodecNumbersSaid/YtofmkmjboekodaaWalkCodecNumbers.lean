/- The walk of the law CodecNumbers. -/
import Derived.Test.YtofmkmjboekodaaSaneW
namespace Go.Proofs.Ytofmkmjboekodaa
open Go.RowKit Cdc
set_option linter.unusedVariables false
set_option linter.unusedSimpArgs false

/-- a number as a value -/
abbrev xi (n : Int) : V := ⟨1, n, ⟨#[]⟩, []⟩

theorem num_mono : ∀ (v u : Nat), u ≤ v → (num u).length ≤ (num v).length := by
  intro v
  induction v using Nat.strongRecOn with
  | _ v ih =>
    intro u h
    by_cases hu : u < 128
    · rw [num_lt hu]; exact num_pos v
    · rw [num_ge hu, num_ge (by omega : ¬ v < 128)]
      simp only [List.length_cons]
      have := ih (v / 128) (by omega) (u / 128) (by omega)
      omega

theorem ck_i (n : Int) : ckE (xi n) = 0 := by unfold ckE; rw [fm, if_pos rfl, if_pos ⟨rfl, rfl⟩]; rfl
theorem sm_i {n : Int} (h : -9223372036854775808 ≤ n ∧ n ≤ 9223372036854775807) : Sm (xi n) := by
  simp only [Sm, SmL]
  exact ⟨h, by decide, by decide, trivial⟩
theorem enc_i (n : Int) : enc (xi n) = 1 :: num (uz n) := by simp [enc]
theorem len_i (n : Int) : lenB (xi n) = ((num (uz n)).length : Int) + 1 := by unfold lenB encB; rw [if_pos (ck_i n), enc_i]; simp
theorem ft_i {n : Int} (h : -9223372036854775808 ≤ n ∧ n ≤ 9223372036854775807) : fits (xi n) := by
  simp only [fits, fitsL]
  exact ⟨h, by decide, by decide, trivial⟩
theorem fm_i (n : Int) : fm (xi n) = some 0 := by rw [fm, if_pos rfl, if_pos ⟨rfl, rfl⟩]

theorem size_i (n : Int) (w : World) (h : -9223372036854775808 ≤ n ∧ n ≤ 9223372036854775807) (m : Int) (hm : lenB (xi n) = m) :
    Calls Try.prog 14 #[.agg #[.int .i64 1, .int .i64 n, .string ⟨#[]⟩, .slice none 0 0]] w fun e w' => e = .returned (.tuple #[.int .i64 m, .int .i64 0]) ∧ Below w.heap.size w w' := by
  have := size_any 0 (xi n) (.slice none 0 0) w (RS.nil _ _ _ _) (sm_i h) (by simp [dp, dpL]) (by rw [enc_i]; have := num_len (uz n) (uz_lt h); simp; omega)
  rw [ck_i, hm] at this
  exact this

theorem enc_ia (n : Int) (w : World) (h : -9223372036854775808 ≤ n ∧ n ≤ 9223372036854775807) :
    Calls Try.prog 12 #[.agg #[.int .i64 1, .int .i64 n, .string ⟨#[]⟩, .slice none 0 0]] w fun e w' => ∃ v', e = .returned (.tuple #[v', .int .i64 0]) ∧ Own w' v' (enc (xi n)) ∧ Below w.heap.size w w' :=
  enc_at 0 (xi n) (.slice none 0 0) w _ (RS.nil _ _ _ _) (sm_i h) (by simp [dp, dpL]) rfl (by rw [enc_i]; have := num_len (uz n) (uz_lt h); simp; omega) (ck_i n)

theorem dec_i (n : Int) (v : Value) (w : World) (h : -9223372036854775808 ≤ n ∧ n ≤ 9223372036854775807) (ho : Own w v (enc (xi n))) :
    Calls Try.prog 18 #[v] w fun e w' => ∃ A c, e = .returned (.tuple #[.agg #[.int .i64 1, .int .i64 n, .string ⟨#[]⟩, .slice A 0 c], .int .i64 0]) ∧ Below w.heap.size w w' := by
  refine (dec_at _ (xi n) v w (by rw [enc_i]; have := num_len (uz n) (uz_lt h); simp; omega) ho (dcV_enc (xi n) 0 (ft_i h) (fm_i n) (by decide))).mono ?_
  rintro e w' ⟨v', h1, h2, h3⟩
  obtain ⟨A, c, rfl⟩ := h2.form
  exact ⟨A, c, h1, h3⟩

set_option maxRecDepth 100000 in
set_option maxHeartbeats 2000000 in
theorem numbers_at (a b m n : Int) (w : World) (ha : -9223372036854775808 ≤ a ∧ a ≤ 9223372036854775807) (hb : -9223372036854775808 ≤ b ∧ b ≤ 9223372036854775807)
    (hm : Hid (lenB (xi a) = m)) (hn : Hid (lenB (xi b) = n)) (hm1 : 2 ≤ m) (hm2 : m ≤ 11) (hn1 : 2 ≤ n) (hn2 : n ≤ 11)
    (hc : (0 ≤ a ∧ a ≤ b ∧ m ≤ n) ∨ (0 ≤ a ∧ b < a) ∨ (a < 0 ∧ b ≤ a ∧ m ≤ n) ∨ (a < 0 ∧ a < b)) :
    Calls Try.prog 9 #[.int .i64 a, .int .i64 b] w fun e w' => e = .returned (.bool true) ∧ Below w.heap.size w w' := by
  have HB := Below.refl w.heap.size w
  rcases hc with ⟨h1, h2, h3⟩ | ⟨h1, h2⟩ | ⟨h1, h2, h3⟩ | ⟨h1, h2⟩
  all_goals
    go_enter Try.func9, Try.ntmps9
    go_wp2_with fail
    refine (sane_any _).mono ?_
    rintro e w1 ⟨rfl, hb1⟩
    replace HB := bt HB hb1
    clear hb1
    go_wp2_with fail
    refine (int_any _ _).mono ?_
    rintro e w2 ⟨rfl, hb1⟩
    replace HB := bt HB hb1
    clear hb1
    go_wp2_with fail
    refine (size_i _ _ ha _ hm.out).mono ?_
    rintro e w3 ⟨rfl, hb1⟩
    replace HB := bt HB hb1
    clear hb1
    go_wp2_with fail
    refine (int_any _ _).mono ?_
    rintro e w4 ⟨rfl, hb1⟩
    replace HB := bt HB hb1
    clear hb1
    go_wp2_with fail
    refine (size_i _ _ hb _ hn.out).mono ?_
    rintro e w5 ⟨rfl, hb1⟩
    replace HB := bt HB hb1
    clear hb1
    go_wp2_with fail
    refine (int_any _ _).mono ?_
    rintro e w6 ⟨rfl, hb1⟩
    replace HB := bt HB hb1
    clear hb1
    go_wp2_with fail
    refine (enc_ia _ _ ha).mono ?_
    rintro e w7 ⟨v', rfl, hown, hb1⟩
    replace HB := bt HB hb1
    clear hb1
    go_wp2_with fail
    refine (dec_i _ _ _ ha hown).mono ?_
    rintro e w8 ⟨A, c, rfl, hb1⟩
    replace HB := bt HB hb1
    clear hb1 hown
    go_wp2_with fail
    go_ret
    exact ⟨rfl, HB.alloc HB.size _⟩

theorem walk_CodecNumbers (a b : Int) (w : World) (ha : -9223372036854775808 ≤ a ∧ a ≤ 9223372036854775807) (hb : -9223372036854775808 ≤ b ∧ b ≤ 9223372036854775807) :
    Calls Try.prog 9 #[.int .i64 a, .int .i64 b] w fun e w' => e = .returned (.bool true) ∧ Below w.heap.size w w' := by
  have p1 := num_pos (uz a)
  have p2 := num_pos (uz b)
  have p3 := num_len (uz a) (uz_lt ha)
  have p4 := num_len (uz b) (uz_lt hb)
  have e1 := len_i a
  have e2 := len_i b
  refine numbers_at a b _ _ w ha hb (Lib.hid rfl) (Lib.hid rfl) (by omega) (by omega) (by omega) (by omega) ?_
  by_cases h1 : 0 ≤ a
  · by_cases h2 : a ≤ b
    · have := num_mono (uz b) (uz a) (by unfold uz; rw [if_pos h1, if_pos (by omega)]; omega)
      exact .inl ⟨h1, h2, by omega⟩
    · exact .inr (.inl ⟨h1, by omega⟩)
  · by_cases h2 : b ≤ a
    · have := num_mono (uz b) (uz a) (by unfold uz; rw [if_neg h1, if_neg (by omega)]; omega)
      exact .inr (.inr (.inl ⟨by omega, h2, by omega⟩))
    · exact .inr (.inr (.inr ⟨by omega, by omega⟩))
end Go.Proofs.Ytofmkmjboekodaa
