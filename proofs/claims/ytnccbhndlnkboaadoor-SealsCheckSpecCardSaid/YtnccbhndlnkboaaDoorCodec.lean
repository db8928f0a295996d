/- The plain codec: values, their encoding, the parser of encodings; the parser inverts the encoding. -/

namespace Cdc
set_option linter.unusedVariables false
set_option linter.unusedSimpArgs false

structure V where
  k : Int
  n : Int
  s : ByteArray
  l : List V

theorem V.ind {P : V → Prop} (h : ∀ k n s l, (∀ x ∈ l, P x) → P ⟨k, n, s, l⟩) (v : V) : P v :=
  V.rec (motive_1 := P) (motive_2 := fun l => ∀ x ∈ l, P x) (fun k n s l hl => h k n s l hl) (by simp) (fun x xs hx hxs => by simp; exact ⟨hx, hxs⟩) v

/-- a value's bytes of text -/
abbrev V.t (v : V) : List UInt8 := v.s.data.toList

mutual
/-- the depth of a well-formed value -/
def fm : V → Option Nat
  | ⟨k, n, s, l⟩ =>
    if k = 1 then (if s.size = 0 ∧ l = [] then some 0 else none)
    else if k = 2 then (if n = 0 ∧ l = [] then some 0 else none)
    else if k = 3 then (if n = 0 ∧ s.size = 0 then (fmL l).map (· + 1) else none)
    else none
/-- the greatest depth in a list -/
def fmL : List V → Option Nat
  | [] => some 0
  | x :: xs => match fm x with
    | none => none
    | some a => (fmL xs).map (max a)
end

/-- a numeral -/
def num (u : Nat) : List UInt8 := if u < 128 then [UInt8.ofNat u] else UInt8.ofNat (u % 128 + 128) :: num (u / 128)
/-- the unsigned form -/
def uz (n : Int) : Nat := if 0 ≤ n then (2 * n).toNat else (-2 * n - 1).toNat
/-- the integer of an unsigned form -/
def sz (u : Nat) : Int := if u % 2 = 0 then (u / 2 : Nat) else -((u / 2 : Nat) : Int) - 1

mutual
def enc : V → List UInt8
  | ⟨k, n, s, l⟩ =>
    if k = 1 then 1 :: num (uz n)
    else if k = 2 then 2 :: (num s.size ++ s.data.toList)
    else 3 :: (num l.length ++ encL l)
def encL : List V → List UInt8
  | [] => []
  | x :: xs => enc x ++ encL xs
end

/-- a numeral read from the digit i on -/
def pN (i u : Nat) : List UInt8 → Option (Nat × List UInt8)
  | [] => none
  | c :: r =>
    if (i = 0 ∨ c.toNat ≠ 0) ∧ (i < 9 ∨ c.toNat ≤ 1) then
      (if c.toNat < 128 then some (u + c.toNat % 128 * 2 ^ (7 * i), r) else pN (i + 1) (u + c.toNat % 128 * 2 ^ (7 * i)) r)
    else none

/-- n values, one after the other -/
def pL (p : List UInt8 → Option (V × List UInt8)) : Nat → List UInt8 → Option (List V × List UInt8)
  | 0, b => some ([], b)
  | n + 1, b => match p b with
    | none => none
    | some (v, r) => match pL p n r with
      | none => none
      | some (l, r') => some (v :: l, r')

/-- the value at the head of bytes, within d lists at most -/
def pV : Nat → List UInt8 → Option (V × List UInt8)
  | _, [] => none
  | d, c :: r =>
    if c.toNat = 1 then (pN 0 0 r).map fun (u, r') => (⟨1, sz u, ⟨#[]⟩, []⟩, r')
    else if c.toNat = 2 then match pN 0 0 r with
      | none => none
      | some (n, r') => if n ≤ r'.length then some (⟨2, 0, ⟨(r'.take n).toArray⟩, []⟩, r'.drop n) else none
    else if c.toNat = 3 then match d with
      | 0 => none
      | d + 1 => match pN 0 0 r with
        | none => none
        | some (n, r') => if n ≤ r'.length then (pL (pV d) n r').map fun (l, r'') => (⟨3, 0, ⟨#[]⟩, l⟩, r'') else none
    else none

theorem num_lt {u : Nat} (h : u < 128) : num u = [UInt8.ofNat u] := by rw [num, if_pos h]
theorem num_ge {u : Nat} (h : ¬ u < 128) : num u = UInt8.ofNat (u % 128 + 128) :: num (u / 128) := by rw [num, if_neg h]

theorem toNat_ofNat {u : Nat} (h : u < 256) : (UInt8.ofNat u).toNat = u := by
  simp; omega

theorem pow7 (i : Nat) : 2 ^ (7 * (i + 1)) = 128 * 2 ^ (7 * i) := by
  rw [Nat.mul_add, Nat.pow_add, Nat.mul_comm]

theorem pN_num : ∀ (u i acc : Nat) (rest : List UInt8), (i = 0 ∨ u ≠ 0) → u * 2 ^ (7 * i) < 2 ^ 64 → i ≤ 9 →
    pN i acc (num u ++ rest) = some (acc + u * 2 ^ (7 * i), rest) := by
  intro u
  induction u using Nat.strongRecOn with
  | _ u ih =>
    intro i acc rest h0 hb hi
    by_cases h : u < 128
    · rw [num_lt h]
      simp only [List.cons_append, List.nil_append, pN]
      rw [toNat_ofNat (by omega), Nat.mod_eq_of_lt h]
      have h9 : i < 9 ∨ u ≤ 1 := by
        by_cases c : i < 9
        · exact .inl c
        · have : i = 9 := by omega
          subst this
          right
          have e : 2 ^ (7 * 9) = 9223372036854775808 := by decide
          rw [e] at hb
          have e2 : 2 ^ 64 = 18446744073709551616 := by decide
          rw [e2] at hb
          omega
      rw [if_pos ⟨h0, h9⟩, if_pos h]
    · rw [num_ge h]
      simp only [List.cons_append, pN]
      rw [toNat_ofNat (by omega)]
      have h9 : i < 9 := by
        apply Classical.byContradiction
        intro c
        have : i = 9 := by omega
        subst this
        have e : 2 ^ (7 * 9) = 9223372036854775808 := by decide
        rw [e] at hb
        have e2 : 2 ^ 64 = 18446744073709551616 := by decide
        rw [e2] at hb
        omega
      rw [if_pos ⟨.inr (by omega), .inl h9⟩, if_neg (by omega)]
      have hm : (u % 128 + 128) % 128 = u % 128 := by omega
      have hd : u = 128 * (u / 128) + u % 128 := (Nat.div_add_mod u 128).symm
      have e : u * 2 ^ (7 * i) = u / 128 * 2 ^ (7 * (i + 1)) + u % 128 * 2 ^ (7 * i) := by
        conv => lhs; rw [hd]
        rw [pow7, Nat.add_mul]
        congr 1
        rw [Nat.mul_comm 128, Nat.mul_assoc]
      rw [ih (u / 128) (by omega) (i + 1) _ rest (.inr (by omega)) (by omega) (by omega), hm]
      rw [e]
      congr 2
      omega

theorem pN_some : ∀ (b : List UInt8) (i acc r : Nat) (rest : List UInt8), pN i acc b = some (r, rest) → i ≤ 9 →
    ∃ u, b = num u ++ rest ∧ r = acc + u * 2 ^ (7 * i) ∧ (i = 0 ∨ u ≠ 0) ∧ u * 2 ^ (7 * i) < 2 ^ 64 := by
  intro b
  induction b with
  | nil => intro i acc r rest h; cases h
  | cons c b ih =>
    intro i acc r rest h hi
    simp only [pN] at h
    by_cases hc : (i = 0 ∨ c.toNat ≠ 0) ∧ (i < 9 ∨ c.toNat ≤ 1)
    · rw [if_pos hc] at h
      have hp : 2 ^ (7 * i) ≤ 2 ^ 63 := Nat.pow_le_pow_right (by decide) (by omega)
      by_cases h1 : c.toNat < 128
      · rw [if_pos h1] at h
        injection h with h
        injection h with h2 h3
        refine ⟨c.toNat, ?_, ?_, hc.1, ?_⟩
        · rw [num_lt h1, UInt8.ofNat_toNat, ← h3]; rfl
        · rw [← h2, Nat.mod_eq_of_lt h1]
        · rcases hc.2 with h9 | h9
          · have hp2 : 2 ^ (7 * i) ≤ 2 ^ 56 := Nat.pow_le_pow_right (by decide) (by omega)
            have : c.toNat * 2 ^ (7 * i) ≤ 127 * 2 ^ 56 := Nat.mul_le_mul (by omega) hp2
            have : 127 * 2 ^ 56 < 2 ^ 64 := by decide
            omega
          · have : c.toNat * 2 ^ (7 * i) ≤ 1 * 2 ^ 63 := Nat.mul_le_mul h9 hp
            have : 1 * 2 ^ 63 < 2 ^ 64 := by decide
            omega
      · rw [if_neg h1] at h
        have h9 : i < 9 := by
          rcases hc.2 with h9 | h9
          · exact h9
          · omega
        obtain ⟨u, hb, hr, hu, hlt⟩ := ih (i + 1) _ r rest h (by omega)
        have hu' : u ≠ 0 := by
          rcases hu with e | e
          · omega
          · exact e
        have hcl := c.toNat_lt
        have hq : (128 * u + c.toNat % 128) / 128 = u := by omega
        have hm : (128 * u + c.toNat % 128) % 128 = c.toNat % 128 := by omega
        have hge : ¬ (128 * u + c.toNat % 128 < 128) := by omega
        have hcc : c.toNat % 128 + 128 = c.toNat := by omega
        have e : (128 * u + c.toNat % 128) * 2 ^ (7 * i) = u * 2 ^ (7 * (i + 1)) + c.toNat % 128 * 2 ^ (7 * i) := by
          rw [pow7, Nat.add_mul]
          congr 1
          rw [Nat.mul_comm 128, Nat.mul_assoc]
        refine ⟨128 * u + c.toNat % 128, ?_, ?_, .inr (by omega), ?_⟩
        · rw [num_ge hge, hm, hq, hcc, UInt8.ofNat_toNat, hb]; rfl
        · rw [hr, e]; omega
        · rw [e]
          -- u * 2 ^ (7 i + 7) < 2 ^ 64 is a multiple of 2 ^ (7 i + 7)
          have h7 : 7 * (i + 1) ≤ 64 := by omega
          have e64 : (2 : Nat) ^ 64 = 2 ^ (64 - 7 * (i + 1)) * 2 ^ (7 * (i + 1)) := by rw [← Nat.pow_add]; congr 1; omega
          rw [e64] at hlt ⊢
          have hul : u < 2 ^ (64 - 7 * (i + 1)) := Nat.lt_of_mul_lt_mul_right hlt
          have : (u + 1) * 2 ^ (7 * (i + 1)) ≤ 2 ^ (64 - 7 * (i + 1)) * 2 ^ (7 * (i + 1)) := Nat.mul_le_mul_right _ hul
          rw [Nat.add_mul, Nat.one_mul] at this
          have hx : c.toNat % 128 * 2 ^ (7 * i) < 128 * 2 ^ (7 * i) := Nat.mul_lt_mul_of_pos_right (by omega) (Nat.two_pow_pos _)
          rw [← pow7] at hx
          omega
    · rw [if_neg hc] at h; cases h

theorem pN0 {u : Nat} (h : u < 2 ^ 64) (rest : List UInt8) : pN 0 0 (num u ++ rest) = some (u, rest) := by
  have := pN_num u 0 0 rest (.inl rfl) (by simpa using h) (by omega)
  simpa using this
theorem pN0_some {b : List UInt8} {r : Nat} {rest : List UInt8} (h : pN 0 0 b = some (r, rest)) : b = num r ++ rest ∧ r < 2 ^ 64 := by
  obtain ⟨u, hb, hr, _, hl⟩ := pN_some b 0 0 r rest h (by omega)
  simp at hr hl
  subst hr
  exact ⟨hb, hl⟩

theorem sz_uz (n : Int) : sz (uz n) = n := by
  unfold sz uz
  split <;> split <;> omega
theorem uz_sz (u : Nat) : uz (sz u) = u := by
  unfold sz uz
  split <;> split <;> omega
theorem uz_lt {n : Int} (h : -9223372036854775808 ≤ n ∧ n ≤ 9223372036854775807) : uz n < 2 ^ 64 := by
  have e : (2 : Nat) ^ 64 = 18446744073709551616 := by decide
  rw [e]
  unfold uz
  split <;> omega
theorem sz_bd {u : Nat} (h : u < 2 ^ 64) : -9223372036854775808 ≤ sz u ∧ sz u ≤ 9223372036854775807 := by
  have e : (2 : Nat) ^ 64 = 18446744073709551616 := by decide
  rw [e] at h
  unfold sz
  split <;> omega

mutual
/-- a value that memory can hold: numbers of 64 bits, fewer than 2 ^ 63 bytes and elements -/
def fits : V → Prop
  | ⟨_, n, s, l⟩ => (-9223372036854775808 ≤ n ∧ n ≤ 9223372036854775807) ∧ s.size < 2 ^ 63 ∧ l.length < 2 ^ 63 ∧ fitsL l
def fitsL : List V → Prop
  | [] => True
  | x :: xs => fits x ∧ fitsL xs
end

theorem encL_append (a b : List V) : encL (a ++ b) = encL a ++ encL b := by
  induction a with
  | nil => simp [encL]
  | cons x a ih => simp [encL, ih]

theorem num_pos (u : Nat) : 1 ≤ (num u).length := by
  by_cases h : u < 128
  · rw [num_lt h]; simp
  · rw [num_ge h]; simp
theorem enc_pos (v : V) : 1 ≤ (enc v).length := by
  obtain ⟨k, n, s, l⟩ := v
  simp only [enc]
  split
  · simp
  · split <;> simp
theorem encL_len (l : List V) : l.length ≤ (encL l).length := by
  induction l with
  | nil => simp
  | cons x l ih => have := enc_pos x; simp [encL]; omega

theorem byte_empty {s : ByteArray} (h : s.size = 0) : s = ⟨#[]⟩ := by
  obtain ⟨d⟩ := s
  have : d.size = 0 := h
  simp at this
  subst this; rfl

theorem fmL_some {l : List V} {d : Nat} (h : fmL l = some d) : ∀ x ∈ l, ∃ a, fm x = some a ∧ a ≤ d := by
  induction l generalizing d with
  | nil => simp
  | cons x l ih =>
    simp only [fmL] at h
    cases hx : fm x with
    | none => rw [hx] at h; cases h
    | some a =>
      rw [hx] at h
      simp only [Option.map_eq_some_iff] at h
      obtain ⟨b, hb, rfl⟩ := h
      intro y hy
      rcases List.mem_cons.1 hy with rfl | hy
      · exact ⟨a, hx, by omega⟩
      · obtain ⟨c, hc, hle⟩ := ih hb y hy
        exact ⟨c, hc, by omega⟩

theorem fitsL_mem {l : List V} (h : fitsL l) : ∀ x ∈ l, fits x := by
  induction l with
  | nil => simp
  | cons x l ih =>
    simp only [fitsL] at h
    intro y hy
    rcases List.mem_cons.1 hy with rfl | hy
    · exact h.1
    · exact ih h.2 y hy

theorem pL_all (p : List UInt8 → Option (V × List UInt8)) : ∀ (l : List V) (rest : List UInt8), (∀ x ∈ l, ∀ rest, p (enc x ++ rest) = some (x, rest)) →
    pL p l.length (encL l ++ rest) = some (l, rest)
  | [], rest, _ => rfl
  | x :: l, rest, h => by
    simp only [List.length_cons, encL, List.append_assoc, pL]
    rw [h x (by simp)]
    simp only
    rw [pL_all p l rest (fun y hy => h y (by simp [hy]))]

/-- THE PARSER INVERTS THE ENCODING. -/
theorem pV_enc (v : V) : ∀ (d a : Nat) (rest : List UInt8), fits v → fm v = some a → a ≤ d → pV d (enc v ++ rest) = some (v, rest) := by
  refine V.ind (P := fun v => ∀ (d a : Nat) (rest : List UInt8), fits v → fm v = some a → a ≤ d → pV d (enc v ++ rest) = some (v, rest)) ?_ v
  intro k n s l ih d a rest hf hm ha
  simp only [fits] at hf
  obtain ⟨hn, hs, hl, hL⟩ := hf
  simp only [fm] at hm
  have e63 : (2 : Nat) ^ 63 = 9223372036854775808 := by decide
  have e64 : (2 : Nat) ^ 64 = 18446744073709551616 := by decide
  by_cases h1 : k = 1
  · subst h1
    rw [if_pos rfl] at hm
    by_cases hc : s.size = 0 ∧ l = []
    · obtain ⟨hs0, rfl⟩ := hc
      simp only [enc, if_true, List.cons_append]
      unfold pV
      rw [if_pos (show (1 : UInt8).toNat = 1 from rfl), pN0 (uz_lt hn), byte_empty hs0]
      simp [sz_uz]
    · rw [if_neg hc] at hm; cases hm
  · rw [if_neg h1] at hm
    by_cases h2 : k = 2
    · subst h2
      rw [if_pos rfl] at hm
      by_cases hc : n = 0 ∧ l = []
      · obtain ⟨rfl, rfl⟩ := hc
        rw [enc, if_neg (by decide), if_pos rfl]
        simp only [List.cons_append, List.append_assoc]
        unfold pV
        rw [if_neg (by decide), if_pos (show (2 : UInt8).toNat = 2 from rfl), pN0 (by omega)]
        have hlen : s.size = s.data.toList.length := by simp
        simp only
        rw [if_pos (by rw [hlen]; simp)]
        rw [hlen, List.take_left, List.drop_left]
      · rw [if_neg hc] at hm; cases hm
    · rw [if_neg h2] at hm
      by_cases h3 : k = 3
      · subst h3
        rw [if_pos rfl] at hm
        by_cases hc : n = 0 ∧ s.size = 0
        · rw [if_pos hc] at hm
          obtain ⟨rfl, hs0⟩ := hc
          simp only [Option.map_eq_some_iff] at hm
          obtain ⟨b, hb, rfl⟩ := hm
          obtain ⟨d, rfl⟩ : ∃ e, d = e + 1 := ⟨d - 1, by omega⟩
          rw [enc, if_neg (by decide), if_neg (by decide)]
          simp only [List.cons_append, List.append_assoc]
          unfold pV
          rw [if_neg (by decide), if_neg (by decide), if_pos (show (3 : UInt8).toNat = 3 from rfl)]
          simp only
          rw [pN0 (by omega)]
          simp only
          rw [if_pos (by rw [List.length_append]; have := encL_len l; omega)]
          rw [pL_all (pV d) l rest (fun x hx rest => by
            obtain ⟨c, hc, hle⟩ := fmL_some hb x hx
            exact ih x hx d c rest (fitsL_mem hL x hx) hc (by omega))]
          rw [byte_empty hs0]
          rfl
        · rw [if_neg hc] at hm; cases hm
      · rw [if_neg h3] at hm; cases hm

/-- what the parser accepts is an encoding of a well-formed value -/
theorem pV_some : ∀ (d : Nat) (b : List UInt8) (v : V) (r : List UInt8), pV d b = some (v, r) → b.length < 2 ^ 63 →
    b = enc v ++ r ∧ (∃ a, fm v = some a ∧ a ≤ d) ∧ fits v := by
  have e63 : (2 : Nat) ^ 63 = 9223372036854775808 := by decide
  have atoms : ∀ (d : Nat) (c : UInt8) (b : List UInt8) (v : V) (r : List UInt8), (c.toNat = 1 ∨ c.toNat = 2) → pV d (c :: b) = some (v, r) → (c :: b).length < 2 ^ 63 →
      c :: b = enc v ++ r ∧ (∃ a, fm v = some a ∧ a ≤ d) ∧ fits v := by
    intro d c b v r hc h hlen
    rcases hc with hc | hc
    · unfold pV at h
      rw [if_pos hc] at h
      simp only [Option.map_eq_some_iff] at h
      obtain ⟨⟨u, r'⟩, hu, he⟩ := h
      injection he with h1 h2
      obtain ⟨hb, hl⟩ := pN0_some hu
      subst h1 h2
      have c1 : c = 1 := by rw [← UInt8.toNat_inj]; exact hc
      refine ⟨?_, ⟨0, ?_, Nat.zero_le _⟩, ?_⟩
      · simp only [enc, if_true, uz_sz, List.cons_append]
        rw [hb, c1]
      · simp only [fm, if_true]; rw [if_pos ⟨rfl, trivial⟩]
      · simp only [fits, fitsL]; exact ⟨sz_bd hl, by decide, by decide, trivial⟩
    · unfold pV at h
      rw [if_neg (by omega), if_pos hc] at h
      cases hu : pN 0 0 b with
      | none => rw [hu] at h; cases h
      | some x =>
        obtain ⟨n, r'⟩ := x
        rw [hu] at h
        simp only at h
        obtain ⟨hb, hl⟩ := pN0_some hu
        by_cases hle : n ≤ r'.length
        · rw [if_pos hle] at h
          injection h with h
          injection h with h1 h2
          subst h1 h2
          have c1 : c = 2 := by rw [← UInt8.toNat_inj]; exact hc
          have hsz : (⟨(r'.take n).toArray⟩ : ByteArray).size = n := by
            show (r'.take n).toArray.size = n
            simp; omega
          have hlen' : n < 2 ^ 63 := by
            rw [hb] at hlen
            simp at hlen
            omega
          refine ⟨?_, ⟨0, ?_, Nat.zero_le _⟩, ?_⟩
          · rw [enc, if_neg (by decide), if_pos rfl, hsz, hb, c1]
            simp
          · rw [fm, if_neg (by decide), if_pos rfl, if_pos ⟨rfl, rfl⟩]
          · simp only [fits, fitsL]; exact ⟨by decide, by rw [hsz]; exact hlen', by decide, trivial⟩
        · rw [if_neg hle] at h; cases h
  intro d
  induction d with
  | zero =>
    intro b v r h hlen
    cases b with
    | nil => unfold pV at h; cases h
    | cons c b =>
      by_cases h1 : c.toNat = 1 ∨ c.toNat = 2
      · exact atoms 0 c b v r h1 h hlen
      · unfold pV at h
        rw [if_neg (by omega), if_neg (by omega)] at h
        split at h <;> cases h
  | succ d ih =>
    intro b v r h hlen
    cases b with
    | nil => unfold pV at h; cases h
    | cons c b =>
      by_cases h1 : c.toNat = 1 ∨ c.toNat = 2
      · exact atoms (d + 1) c b v r h1 h hlen
      · unfold pV at h
        rw [if_neg (by omega), if_neg (by omega)] at h
        by_cases h3 : c.toNat = 3
        · rw [if_pos h3] at h
          simp only at h
          cases hu : pN 0 0 b with
          | none => rw [hu] at h; cases h
          | some x =>
            obtain ⟨n, r'⟩ := x
            rw [hu] at h
            simp only at h
            obtain ⟨hb, hl⟩ := pN0_some hu
            by_cases hle : n ≤ r'.length
            · rw [if_pos hle] at h
              simp only [Option.map_eq_some_iff] at h
              obtain ⟨⟨l, r''⟩, hp, he⟩ := h
              injection he with h4 h5
              subst h4 h5
              have hr' : r'.length < 2 ^ 63 := by rw [hb] at hlen; simp at hlen; omega
              have key : ∀ (n : Nat) (r' : List UInt8) (l : List V) (r'' : List UInt8), r'.length < 2 ^ 63 → pL (pV d) n r' = some (l, r'') →
                  r' = encL l ++ r'' ∧ l.length = n ∧ (∃ a, fmL l = some a ∧ a ≤ d) ∧ fitsL l := by
                intro n
                induction n with
                | zero =>
                  intro r' l r'' _ h
                  simp only [pL] at h
                  injection h with h
                  injection h with h6 h7
                  subst h6 h7
                  exact ⟨rfl, rfl, ⟨0, rfl, Nat.zero_le _⟩, trivial⟩
                | succ n ihn =>
                  intro r' l r'' hl h
                  simp only [pL] at h
                  cases hv : pV d r' with
                  | none => rw [hv] at h; cases h
                  | some x =>
                    obtain ⟨v, q⟩ := x
                    rw [hv] at h
                    simp only at h
                    obtain ⟨he, ⟨a, ha, had⟩, hfit⟩ := ih r' v q hv hl
                    have hq : q.length < 2 ^ 63 := by rw [he] at hl; simp at hl; omega
                    cases hp : pL (pV d) n q with
                    | none => rw [hp] at h; cases h
                    | some y =>
                      obtain ⟨l', q'⟩ := y
                      rw [hp] at h
                      simp only at h
                      injection h with h
                      injection h with h6 h7
                      subst h6 h7
                      obtain ⟨he', hlen', ⟨a', ha', had'⟩, hfit'⟩ := ihn q l' q' hq hp
                      refine ⟨?_, by simp [hlen'], ⟨max a a', ?_, by omega⟩, ?_⟩
                      · rw [he, he']; simp [encL]
                      · simp only [fmL, ha, ha', Option.map_some]
                      · exact ⟨hfit, hfit'⟩
              obtain ⟨he, hlen', ⟨a, ha, had⟩, hfit⟩ := key n r' l r'' hr' hp
              have c1 : c = 3 := by rw [← UInt8.toNat_inj]; exact h3
              refine ⟨?_, ⟨a + 1, ?_, by omega⟩, ?_⟩
              · rw [enc, if_neg (by decide), if_neg (by decide), hlen', hb, c1, he]
                simp
              · rw [fm, if_neg (by decide), if_neg (by decide), if_pos rfl, if_pos ⟨rfl, rfl⟩, ha]
                rfl
              · simp only [fits]
                exact ⟨by decide, by decide, by rw [hlen']; omega, hfit⟩
            · rw [if_neg hle] at h; cases h
        · rw [if_neg h3] at h; cases h
end Cdc
