/- Plain words for the round trip. -/
import Derived.Test.YtofmkmjboekodaaLawA
namespace Go.Proofs.Ytofmkmjboekodaa
open Go.RowKit Cdc
set_option linter.unusedVariables false
set_option linter.unusedSimpArgs false

theorem ckE_zero {x : V} : ckE x = 0 ↔ ∃ a, fm x = some a ∧ a ≤ 16 := by
  unfold ckE
  cases fm x with
  | none => simp
  | some a =>
    simp only [Option.some.injEq, exists_eq_left']
    split
    · simp; omega
    · simp; omega

theorem fits_of_Sm (x : V) : Sm x → fits x := by
  refine V.ind (P := fun x => Sm x → fits x) ?_ x
  intro k n s l ih h
  simp only [Sm] at h
  simp only [fits]
  have e63 : (2 : Nat) ^ 63 = 9223372036854775808 := by decide
  refine ⟨h.1, by omega, by omega, ?_⟩
  have hL : ∀ (l : List V), (∀ y ∈ l, Sm y → fits y) → SmL l → fitsL l := by
    intro l
    induction l with
    | nil => intro _ _; trivial
    | cons y l ihl => intro hy hs; exact ⟨hy y (by simp) hs.1, ihl (fun z hz => hy z (by simp [hz])) hs.2⟩
  exact hL l ih h.2.2.2

theorem encL_mem {l : List V} {y : V} (h : y ∈ l) : (enc y).length ≤ (encL l).length := by
  induction l with
  | nil => cases h
  | cons z l ih =>
    simp only [encL, List.length_append]
    rcases List.mem_cons.1 h with rfl | h
    · omega
    · have := ih h; omega

theorem Sm_of_enc (x : V) : ∀ a, fits x → fm x = some a → (enc x).length ≤ 1000000000 → Sm x := by
  refine V.ind (P := fun x => ∀ a, fits x → fm x = some a → (enc x).length ≤ 1000000000 → Sm x) ?_ x
  intro k n s l ih a hf hm hl
  simp only [fits] at hf
  simp only [fm] at hm
  have hsl : s.data.toList.length = s.size := by rw [Array.length_toList]; rfl
  simp only [Sm]
  by_cases h1 : k = 1
  · subst h1
    rw [if_pos rfl] at hm
    by_cases hc : s.size = 0 ∧ l = []
    · obtain ⟨h0, rfl⟩ := hc
      exact ⟨hf.1, by omega, by simp, trivial⟩
    · rw [if_neg hc] at hm; cases hm
  · rw [if_neg h1] at hm
    by_cases h2 : k = 2
    · subst h2
      rw [if_pos rfl] at hm
      by_cases hc : n = 0 ∧ l = []
      · obtain ⟨h0, rfl⟩ := hc
        rw [enc, if_neg (by decide), if_pos rfl] at hl
        simp only [List.length_cons, List.length_append, hsl] at hl
        exact ⟨hf.1, by omega, by simp, trivial⟩
      · rw [if_neg hc] at hm; cases hm
    · rw [if_neg h2] at hm
      by_cases h3 : k = 3
      · subst h3
        rw [if_pos rfl] at hm
        by_cases hc : n = 0 ∧ s.size = 0
        · rw [if_pos hc] at hm
          simp only [Option.map_eq_some_iff] at hm
          obtain ⟨b, hb, rfl⟩ := hm
          rw [enc, if_neg (by decide), if_neg (by decide)] at hl
          simp only [List.length_cons, List.length_append] at hl
          have hle := encL_len l
          refine ⟨hf.1, by omega, by omega, ?_⟩
          have hL : ∀ y ∈ l, Sm y := fun y hy => by
            obtain ⟨c, hc, _⟩ := fmL_some hb y hy
            exact ih y hy c (fitsL_mem hf.2.2.2 y hy) hc (by have := encL_mem hy; omega)
          have hS : ∀ (l : List V), (∀ y ∈ l, Sm y) → SmL l := by
            intro l
            induction l with
            | nil => intro _; trivial
            | cons y l ihl => intro h; exact ⟨h y (by simp), ihl fun z hz => h z (by simp [hz])⟩
          exact hS l hL
        · rw [if_neg hc] at hm; cases hm
      · rw [if_neg h3] at hm; cases hm

theorem fm_dp (x : V) : ∀ a, fm x = some a → dp x ≤ a + 1 := by
  refine V.ind (P := fun x => ∀ a, fm x = some a → dp x ≤ a + 1) ?_ x
  intro k n s l ih a hm
  simp only [fm] at hm
  simp only [dp]
  by_cases h1 : k = 1
  · subst h1
    rw [if_pos rfl] at hm
    by_cases hc : s.size = 0 ∧ l = []
    · obtain ⟨h0, rfl⟩ := hc
      simp [dpL]
    · rw [if_neg hc] at hm; cases hm
  · rw [if_neg h1] at hm
    by_cases h2 : k = 2
    · subst h2
      rw [if_pos rfl] at hm
      by_cases hc : n = 0 ∧ l = []
      · obtain ⟨h0, rfl⟩ := hc
        simp [dpL]
      · rw [if_neg hc] at hm; cases hm
    · rw [if_neg h2] at hm
      by_cases h3 : k = 3
      · subst h3
        rw [if_pos rfl] at hm
        by_cases hc : n = 0 ∧ s.size = 0
        · rw [if_pos hc] at hm
          simp only [Option.map_eq_some_iff] at hm
          obtain ⟨b, hb, rfl⟩ := hm
          have hL : ∀ (l : List V) (b : Nat), fmL l = some b → (∀ y ∈ l, ∀ a, fm y = some a → dp y ≤ a + 1) → dpL l ≤ b + 1 := by
            intro l
            induction l with
            | nil => intro b _ _; simp [dpL]
            | cons y l ihl =>
              intro b hb hy
              simp only [fmL] at hb
              cases hfy : fm y with
              | none => rw [hfy] at hb; cases hb
              | some c =>
                rw [hfy] at hb
                simp only [Option.map_eq_some_iff] at hb
                obtain ⟨e, he, rfl⟩ := hb
                have := hy y (by simp) c hfy
                have := ihl e he (fun z hz => hy z (by simp [hz]))
                simp only [dpL]
                omega
          have := hL l b hb ih
          omega
        · rw [if_neg hc] at hm; cases hm
      · rw [if_neg h3] at hm; cases hm

/-- what is decoded is an encoding -/
theorem dcV_some {xs : List UInt8} {z : V} (h : dcV xs = some z) (hl : xs.length ≤ 1000000000) : xs = enc z ∧ ckE z = 0 ∧ Sm z ∧ dp z ≤ 17 := by
  unfold dcV at h
  cases hp : pV 16 xs with
  | none => rw [hp] at h; cases h
  | some q =>
    obtain ⟨y, r⟩ := q
    rw [hp] at h
    cases r with
    | cons _ _ => cases h
    | nil =>
      injection h with h
      subst h
      have e63 : (2 : Nat) ^ 63 = 9223372036854775808 := by decide
      obtain ⟨h1, ⟨a, ha, ha16⟩, hf⟩ := pV_some 16 xs y [] hp (by omega)
      rw [List.append_nil] at h1
      exact ⟨h1, ckE_zero.2 ⟨a, ha, ha16⟩, Sm_of_enc y a hf ha (by rw [← h1]; exact hl), by have := fm_dp y a ha; omega⟩

theorem dcV_of {x : V} (h : ckE x = 0) (hs : Sm x) : dcV (enc x) = some x := by
  obtain ⟨a, ha, h16⟩ := ckE_zero.1 h
  exact dcV_enc x a (fits_of_Sm x hs) ha h16

/-- bytes of an argument, at a later world -/
theorem rb_at {w W : World} {A : Option Addr} {xs : List UInt8} (rb : ∀ q, w.heap.size ≤ q → RB w w.heap.size q A xs) (hb : Below w.heap.size w W) (q : Nat) (hq : W.heap.size ≤ q) : RB W W.heap.size q A xs := by
  have h1 := (rb q (Nat.le_trans hb.size hq)).keep (w' := W) fun k hk _ => hb.block k hk
  intro j b hj
  obtain ⟨ad, hA, h2, h3, h4⟩ := h1 j b hj
  exact ⟨ad, hA, Nat.lt_of_lt_of_le h2 hb.size, h3, h4⟩

theorem raw_conv {w W : World} {A : Option Addr} {xs : List UInt8} {s : ByteArray} (rb : ∀ q, w.heap.size ≤ q → RB w w.heap.size q A xs) (c : Nat) (hs : Hid (s = ⟨xs.toArray⟩)) (hb : Below w.heap.size w W) :
    (convert 27 9 (.slice A xs.length c)).run Try.prog W = .ok (.string s) W := by
  have hs2 := hs.out
  subst hs2
  exact (rb_at rb hb W.heap.size (Nat.le_refl _)).conv _ _ rfl

/-- Decode of an argument's bytes that are an encoding, or none -/
theorem raw_some {w W : World} {A : Option Addr} {xs : List UInt8} {z : V} (rb : ∀ q, w.heap.size ≤ q → RB w w.heap.size q A xs) (c : Nat) (hc : xs.length ≤ c) (hl : xs.length ≤ 10000000) (h : dcV xs = some z) (hb : Below w.heap.size w W) :
    Calls Try.prog 18 #[.slice A xs.length c] W fun e w' => ∃ A' c', e = .returned (.tuple #[.agg #[.int .i64 z.k, .int .i64 z.n, .string z.s, .slice A' z.l.length c'], .int .i64 0]) ∧ RS w' 16 z.l (.slice A' z.l.length c') ∧ Below W.heap.size W w' := by
  refine (decode_any xs A c W hl hc (rb_at rb hb _ (by omega))).mono ?_
  rintro e w' ⟨h1, ⟨x2, v', h2, h3, h4⟩ | ⟨h2, _⟩⟩
  · rw [h] at h2
    injection h2 with h2
    subst h2
    obtain ⟨A', c', rfl⟩ := h4.form
    exact ⟨A', c', h3, h4, h1⟩
  · rw [h] at h2; cases h2

theorem raw_none {w W : World} {A : Option Addr} {xs : List UInt8} (rb : ∀ q, w.heap.size ≤ q → RB w w.heap.size q A xs) (c : Nat) (hc : xs.length ≤ c) (hl : xs.length ≤ 10000000) (h : dcV xs = none) (hb : Below w.heap.size w W) :
    Calls Try.prog 18 #[.slice A xs.length c] W fun e w' => e = .returned (.tuple #[.agg #[.int .i64 0, .int .i64 0, .string ⟨#[]⟩, .slice none 0 0], .int .i64 10]) ∧ Below W.heap.size W w' := by
  refine (decode_any xs A c W hl hc (rb_at rb hb _ (by omega))).mono ?_
  rintro e w' ⟨h1, ⟨x2, v', h2, h3, h4⟩ | ⟨_, h2⟩⟩
  · rw [h] at h2; cases h2
  · exact ⟨h2, h1⟩

/-- Decode of the call's own row that is an encoding -/
theorem own_some {W : World} {v : Value} {x : V} (hs : Sm x) (hck : ckE x = 0) (hl : (enc x).length ≤ 1000000) (ho : Own W v (enc x)) :
    Calls Try.prog 18 #[v] W fun e w' => ∃ A' c', e = .returned (.tuple #[.agg #[.int .i64 x.k, .int .i64 x.n, .string x.s, .slice A' x.l.length c'], .int .i64 0]) ∧ RS w' 16 x.l (.slice A' x.l.length c') ∧ Below W.heap.size W w' := by
  refine (dec_at _ x v W hl ho (dcV_of hck hs)).mono ?_
  rintro e w' ⟨v', h1, h2, h3⟩
  obtain ⟨A', c', rfl⟩ := h2.form
  exact ⟨A', c', h1, h2, h3⟩
theorem encB_of {x : V} (h : ckE x = 0) : encB x = enc x := by unfold encB; rw [if_pos h]
end Go.Proofs.Ytofmkmjboekodaa
