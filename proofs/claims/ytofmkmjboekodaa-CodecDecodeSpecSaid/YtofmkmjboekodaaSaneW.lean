/- The walk of the law's sane. -/
import Derived.Test.YtofmkmjboekodaaSane
namespace Go.Proofs.Ytofmkmjboekodaa
open Go.RowKit Cdc
set_option linter.unusedVariables false
set_option linter.unusedSimpArgs false

/-- two values without lists, in a new block -/
theorem RS.two (w : World) (x y : V) (hx : x.l = []) (hy : y.l = []) (t : TypeId) :
    RS (w.alloc (.cells #[.int .i64 x.k, .int .i64 x.n, .string x.s, .slice none 0 0, .int .i64 y.k, .int .i64 y.n, .string y.s, .slice none 0 0] t)) 1 [x, y] (.slice (some ⟨w.heap.size, 0, none⟩) 2 2) := by
  refine ⟨_, _, rfl, Nat.le_refl _, fun i z hz => ?_⟩
  match i, hz with
  | 0, hz =>
    simp at hz
    subst hz
    refine ⟨w.heap.size, 0, .slice none 0 0, rfl, by simp, ?_, ?_, ?_, ?_, ?_⟩
    · simp [go_sem]
    · simp [go_sem]
    · simp [go_sem]
    · simp [go_sem]
    · rw [hx]; exact RS.nil _ _ _ _
  | 1, hz =>
    simp at hz
    subst hz
    refine ⟨w.heap.size, 0, .slice none 0 0, rfl, by simp, ?_, ?_, ?_, ?_, ?_⟩
    · simp [go_sem]
    · simp [go_sem]
    · simp [go_sem]
    · simp [go_sem]
    · rw [hy]; exact RS.nil _ _ _ _
  | n + 2, hz => simp at hz

set_option maxRecDepth 100000 in
set_option maxHeartbeats 2000000 in
theorem sane_any (w : World) : Calls Try.prog 10 #[] w fun e w' => e = .returned (.bool true) ∧ Below w.heap.size w w' := by
  go_enter Try.func10, Try.ntmps10
  go_wp2_with fail
  refine (int_any _ _).mono ?_
  rintro e w1 ⟨rfl, hb1⟩
  go_wp2_with fail
  refine (enc_at 0 xm3 _ w1 [1, 5] (RS.nil w1 0 none 0) sm_m3 (by decide) enc_m3 (by decide) ck_m3).mono ?_
  rintro e w2 ⟨a, rfl, hown2, hb2⟩
  go_wp2_with fail
  refine (int_any _ _).mono ?_
  rintro e w3 ⟨rfl, hb3⟩
  go_wp2_with fail
  refine (text_any _ _).mono ?_
  rintro e w4 ⟨rfl, hb4⟩
  go_wp2_with fail
  refine (list_any _ _ _ _).mono ?_
  rintro e w5 ⟨rfl, hb5⟩
  go_wp2_with fail
  have hr5 : RS w5 1 xl.l (.slice (some ⟨w4.heap.size, 0, none⟩) 2 2) := (RS.two w4 x100 xab rfl rfl 24).below hb5
  have hr6 := hr5.below ((Below.refl _ _).alloc (Nat.le_refl _) (.cells #[.int .i64 3, .int .i64 0, .string ⟨#[]⟩, .slice (some ⟨w4.heap.size, 0, none⟩) 2 2] 24))
  refine (enc_at 1 xl _ _ [3, 2, 1, 200, 1, 2, 2, 97, 98] hr6 sm_l (by decide) enc_l (by decide) ck_l).mono ?_
  rintro e w6 ⟨b, rfl, hown6, hb6⟩
  go_wp2_with fail
  refine (dec_l _ _ hown6).mono ?_
  rintro e w7 ⟨A7, c7, rfl, hr7, hb7⟩
  have hsz5 := hb5.size
  have hsz6 := hb6.size
  have hsz7 := hb7.size
  simp at hsz5 hsz6
  have cell7 : ∀ (o : Nat) (u : Value), (w5.alloc (.cells #[.int .i64 3, .int .i64 0, .string ⟨#[]⟩, .slice (some ⟨w4.heap.size, 0, none⟩) 2 2] 24)).cell? ⟨w5.heap.size, o, none⟩ = some u → w7.cell? ⟨w5.heap.size, o, none⟩ = some u := by
    intro o u h
    rw [hb7.cell (p := ⟨w5.heap.size, o, none⟩) (by simp; omega), hb6.cell (p := ⟨w5.heap.size, o, none⟩) (by simp)]
    exact h
  have c70 := cell7 0 (.int .i64 3) (by simp [go_sem])
  have c71 := cell7 1 (.int .i64 0) (by simp [go_sem])
  have c72 := cell7 2 (.string ⟨#[]⟩) (by simp [go_sem])
  have c73 := cell7 3 (.slice (some ⟨w4.heap.size, 0, none⟩) 2 2) (by simp [go_sem])
  clear cell7
  have hlt57 : w5.heap.size < w7.heap.size := by omega
  have hne57 : ¬ w5.heap.size = w7.heap.size := by omega
  have hr7b := hr6.below (hb6.trans (hb7.mono (by simp; omega)))
  have hr8 := hr7b.below ((Below.refl _ _).alloc (Nat.le_refl _) (.cells #[.int .i64 3, .int .i64 0, .string ⟨#[]⟩, .slice A7 2 c7] 24))
  go_wp2_with fail
  refine (size_any 1 xl _ _ hr8 sm_l (by decide) (by rw [enc_l]; decide)).mono ?_
  rintro e w8 ⟨rfl, hb8⟩
  rw [len_l, ck_l]
  have cell8 : ∀ (b o : Nat) (u : Value), b < w7.heap.size + 1 → (w7.alloc (.cells #[.int .i64 3, .int .i64 0, .string ⟨#[]⟩, .slice A7 2 c7] 24)).cell? ⟨b, o, none⟩ = some u → w8.cell? ⟨b, o, none⟩ = some u := by
    intro b o u hb h
    rw [hb8.cell (p := ⟨b, o, none⟩) (by simpa using hb)]
    exact h
  have c80 := cell8 w5.heap.size 0 (.int .i64 3) (by omega) (by go_simp)
  have c81 := cell8 w5.heap.size 1 (.int .i64 0) (by omega) (by go_simp)
  have c82 := cell8 w5.heap.size 2 (.string ⟨#[]⟩) (by omega) (by go_simp)
  have c83 := cell8 w5.heap.size 3 (.slice (some ⟨w4.heap.size, 0, none⟩) 2 2) (by omega) (by go_simp)
  have d80 := cell8 w7.heap.size 0 (.int .i64 3) (by omega) (by go_simp)
  have d81 := cell8 w7.heap.size 1 (.int .i64 0) (by omega) (by go_simp)
  have d82 := cell8 w7.heap.size 2 (.string ⟨#[]⟩) (by omega) (by go_simp)
  have d83 := cell8 w7.heap.size 3 (.slice A7 2 c7) (by omega) (by go_simp)
  clear cell8 c70 c71 c72 c73
  have hsz8 := hb8.size
  simp at hsz8
  have b6 : Below w6.heap.size w6 w8 := bt (ba hb7 _) hb8
  have b3 : Below w2.heap.size w2 w8 := bt (bt (ba (bt (ba (bt hb3 hb4) _) hb5) _) hb6) b6
  have k1 : (convert 27 9 a).run Try.prog w8 = .ok (.string ⟨#[1, 5]⟩) w8 := (hown2.below b3).conv
  have k2 : (convert 27 9 b).run Try.prog w8 = .ok (.string ⟨#[3, 2, 1, 200, 1, 2, 2, 97, 98]⟩) w8 := (hown6.below b6).conv
  have hrA := hr8.below hb8
  have hrB := (hr7.below ((Below.refl _ _).alloc (Nat.le_refl _) (.cells #[.int .i64 3, .int .i64 0, .string ⟨#[]⟩, .slice A7 2 c7] 24))).below hb8
  go_wp2_with fail
  refine (same_any 1 xl xl _ _ 16 _ hrA hrB sm_l sm_l).mono ?_
  rintro e w9 ⟨rfl, hb9⟩
  rw [sm_refl]
  clear k1 k2
  go_wp2_with fail
  refine (text_any _ _).mono ?_
  rintro e w10 ⟨rfl, hb10⟩
  go_wp2_with fail
  refine (list_any _ _ _ _).mono ?_
  rintro e w11 ⟨rfl, hb11⟩
  go_wp2_with fail
  refine (same_any 1 ⟨2, 0, ⟨#[]⟩, []⟩ ⟨3, 0, ⟨#[]⟩, []⟩ _ _ 1 _ (RS.nil _ _ _ _) (RS.nil _ _ _ _) sm_e2 sm_e3).mono ?_
  rintro e w12 ⟨rfl, hb12⟩
  rw [sm_e23]
  go_wp2_with fail
  have hsz9 := hb9.size
  have hsz10 := hb10.size
  have hsz11 := hb11.size
  have hsz12 := hb12.size
  have hB12 : Below w.heap.size w w12 := bt (bt (bt (bt (bt (bt hb1 hb2) b3) hb9) hb10) hb11) hb12
  clear hown2 hb1 hb2 hb3 hb4 hb5 hr5 hr6 hown6 hb6 hr7 hb7 hsz5 hsz6 hsz7 hlt57 hne57 hr7b hr8 hb8 c80 c81 c82 c83 d80 d81 d82 d83 hsz8 b3 b6 hrA hrB hb9 hb10 hb11 hb12 hsz9 hsz10 hsz11 hsz12
  obtain ⟨W0, hW0⟩ : ∃ W0, w12.alloc (Obj.cells #[Value.string ⟨#[]⟩, Value.string ⟨#[1, 128, 0]⟩, Value.string ⟨#[1, 5, 0]⟩, Value.string ⟨#[2, 3, 97]⟩] 9) = W0 := ⟨_, rfl⟩
  have hB0 : Below w.heap.size w W0 := by rw [← hW0]; exact hB12.alloc hB12.size _
  have hlt0 : w12.heap.size < W0.heap.size := by rw [← hW0]; simp
  have hc0 : ∀ i, i < 4 → ∃ s : ByteArray, Hid (W0.cell? ⟨w12.heap.size, i, none⟩ = some (.string s)) ∧ Hid (dcV s.data.toList = none) ∧ s.size ≤ 1000000 := by
    intro i hi
    rw [← hW0]
    match i, hi with
    | 0, _ => exact ⟨_, Lib.hid (by simp [go_sem]), Lib.hid dc_b0, by decide⟩
    | 1, _ => exact ⟨_, Lib.hid (by simp [go_sem]), Lib.hid dc_b1, by decide⟩
    | 2, _ => exact ⟨_, Lib.hid (by simp [go_sem]), Lib.hid dc_b2, by decide⟩
    | 3, _ => exact ⟨_, Lib.hid (by simp [go_sem]), Lib.hid dc_b3, by decide⟩
  have hc1 := Lib.hid hc0
  clear hc0
  rw [hW0]
  clear hW0
  go_loopw [79] (fun s79 wr => ∃ i : Nat, i ≤ 4 ∧ s79 = .int .i64 i ∧ Below W0.heap.size W0 wr) (fun s79 _ => 4 - (intOf s79).toNat)
  case atStart => exact ⟨0, Nat.zero_le _, rfl, Below.refl _ _⟩
  case round =>
    obtain ⟨i, hi, rfl, hB⟩ := hrel
    by_cases hlt : i < 4
    · obtain ⟨s, h1, h2, h3⟩ := hc1.out i hlt
      have hcs : wr.cell? ⟨w12.heap.size, i, none⟩ = some (.string s) := (hB.cell (p := ⟨w12.heap.size, i, none⟩) hlt0).trans h1.out
      obtain ⟨c, W1, hk, hcl, hBk, hsk, hrb⟩ := conv_bytes s wr
      have hrb2 := Lib.hid hrb
      clear hrb
      go_wp2_with fail
      refine (dec_str s c _ W1 h3 hcl hrb2.out (by rw [hsk]; exact Nat.lt_succ_self _) h2.out).mono ?_
      rintro e w2 ⟨rfl, hb2⟩
      go_wp2_with fail
      go_roundw
      case rel => exact ⟨i + 1, by omega, by go_num, (bt (bt hB hBk) hb2).alloc (bt (bt hB hBk) hb2).size _⟩
      case measure => simp [intOf]; omega
    · obtain rfl : i = 4 := by omega
      go_wp2_with fail
      refine (check_any 0 ⟨0, 0, ⟨#[]⟩, []⟩ (.slice none 0 0) _ (RS.nil _ _ _ _) sm_0 (by decide)).mono ?_
      rintro e w2 ⟨rfl, hb2⟩
      rw [ck_0]
      go_wp2_with fail
      go_ret
      exact ⟨rfl, hB0.trans ((hB.mono hB0.size).trans (hb2.mono (Nat.le_trans hB0.size hB.size)))⟩
end Go.Proofs.Ytofmkmjboekodaa
