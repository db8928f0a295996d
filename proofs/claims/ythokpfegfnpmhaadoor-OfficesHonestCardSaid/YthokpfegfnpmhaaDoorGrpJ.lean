/- Plain number theory: sums, products, Gauss's count for odd moduli, the law of reciprocity for it. -/

namespace Jac

/-- f 1 + .. + f h -/
def S (f : Nat → Nat) : Nat → Nat
  | 0 => 0
  | h + 1 => S f h + f (h + 1)

theorem S_congr {f g : Nat → Nat} : ∀ h, (∀ k, 1 ≤ k → k ≤ h → f k = g k) → S f h = S g h
  | 0, _ => rfl
  | h + 1, H => by
    simp only [S]; rw [S_congr h (fun k a b => H k a (by omega)), H (h + 1) (by omega) (by omega)]

theorem S_add (f g : Nat → Nat) : ∀ h, S (fun k => f k + g k) h = S f h + S g h
  | 0 => rfl
  | h + 1 => by simp only [S]; rw [S_add f g h]; omega

theorem S_mul (c : Nat) (f : Nat → Nat) : ∀ h, S (fun k => c * f k) h = c * S f h
  | 0 => rfl
  | h + 1 => by simp only [S]; rw [S_mul c f h]; rw [Nat.mul_add]

theorem S_const (c : Nat) : ∀ h, S (fun _ => c) h = h * c
  | 0 => by simp [S]
  | h + 1 => by simp only [S]; rw [S_const c h, Nat.succ_mul]

theorem S_zero (h : Nat) : S (fun _ => 0) h = 0 := by rw [S_const]; omega

theorem S_swap (f : Nat → Nat → Nat) (m : Nat) : ∀ n, S (fun i => S (fun j => f i j) m) n = S (fun j => S (fun i => f i j) n) m
  | 0 => by simp only [S]; rw [S_zero]
  | n + 1 => by simp only [S]; rw [S_swap f m n, S_add]

/-- the sum of a list is S -/
theorem S_list (f : Nat → Nat) : ∀ h, S f h = ((List.range' 1 h).map f).sum
  | 0 => rfl
  | h + 1 => by
    rw [List.range'_1_concat]; simp only [S, List.map_append, List.sum_append, List.map_cons, List.map_nil, List.sum_cons, List.sum_nil]
    rw [S_list f h]; rw [show 1 + h = h + 1 by omega]; omega

/-- product of integers f 1 .. f h -/
def Pr (f : Nat → Int) : Nat → Int
  | 0 => 1
  | h + 1 => Pr f h * f (h + 1)

def prodL : List Int → Int
  | [] => 1
  | x :: l => x * prodL l

theorem prodL_append (a b : List Int) : prodL (a ++ b) = prodL a * prodL b := by
  induction a with
  | nil => simp [prodL]
  | cons x a ih => simp only [List.cons_append, prodL, ih, Int.mul_assoc]

theorem Pr_list (f : Nat → Int) : ∀ h, Pr f h = prodL ((List.range' 1 h).map f)
  | 0 => rfl
  | h + 1 => by
    rw [List.range'_1_concat]; simp only [Pr, List.map_append, prodL_append, List.map_cons, List.map_nil, prodL]
    rw [Pr_list f h]; rw [show 1 + h = h + 1 by omega]; simp

theorem prodL_perm {a b : List Int} (h : a.Perm b) : prodL a = prodL b := by
  induction h with
  | nil => rfl
  | cons x _ ih => simp only [prodL, ih]
  | swap x y l => simp only [prodL]; rw [← Int.mul_assoc, ← Int.mul_assoc, Int.mul_comm x y]
  | trans _ _ i j => rw [i, j]

theorem sum_perm {a b : List Nat} (h : a.Perm b) : a.sum = b.sum := by
  induction h with
  | nil => rfl
  | cons x _ ih => simp only [List.sum_cons, ih]
  | swap x y l => simp only [List.sum_cons]; omega
  | trans _ _ i j => rw [i, j]

theorem perm_of_sub : ∀ {a b : List Nat}, a.Nodup → (∀ x, x ∈ a → x ∈ b) → b.length ≤ a.length → a.Perm b
  | [], b, _, _, h => by
    have : b = [] := List.eq_nil_of_length_eq_zero (by simpa using h)
    subst this; exact List.Perm.refl _
  | x :: t, b, hn, hs, hl => by
    have hx : x ∈ b := hs x (by simp)
    have hp := List.perm_cons_erase hx
    have hxt : x ∉ t := (List.nodup_cons.mp hn).1
    have htn : t.Nodup := (List.nodup_cons.mp hn).2
    have hle : (b.erase x).length = b.length - 1 := List.length_erase_of_mem hx
    have ht : t.Perm (b.erase x) := perm_of_sub htn (fun y hy => by
      have : y ≠ x := fun e => hxt (e ▸ hy)
      exact (List.mem_erase_of_ne this).mpr (hs y (by simp [hy]))) (by simp at hl; omega)
    exact (List.Perm.cons x ht).trans hp.symm

/-- an injection of 1..h into itself permutes -/
theorem perm_inj (p : Nat → Nat) (h : Nat) (hr : ∀ k, 1 ≤ k → k ≤ h → 1 ≤ p k ∧ p k ≤ h)
    (hi : ∀ i j, 1 ≤ i → i ≤ h → 1 ≤ j → j ≤ h → p i = p j → i = j) : ((List.range' 1 h).map p).Perm (List.range' 1 h) := by
  apply perm_of_sub
  · rw [List.nodup_iff_pairwise_ne] 
    rw [List.pairwise_map]
    have := (List.nodup_range' (s := 1) (n := h) (step := 1) )
    rw [List.nodup_iff_pairwise_ne] at this
    refine this.imp_of_mem ?_
    intro a b ha hb hab e
    rw [List.mem_range'_1] at ha hb
    exact hab (hi a b (by omega) (by omega) (by omega) (by omega) e)
  · intro x hx
    obtain ⟨k, hk, rfl⟩ := List.mem_map.mp hx
    rw [List.mem_range'_1] at hk
    have := hr k (by omega) (by omega)
    rw [List.mem_range'_1]; omega
  · simp

theorem S_perm (f : Nat → Nat) (p : Nat → Nat) (h : Nat) (hr : ∀ k, 1 ≤ k → k ≤ h → 1 ≤ p k ∧ p k ≤ h)
    (hi : ∀ i j, 1 ≤ i → i ≤ h → 1 ≤ j → j ≤ h → p i = p j → i = j) : S (fun k => f (p k)) h = S f h := by
  rw [S_list, S_list]
  have := (perm_inj p h hr hi).map f
  rw [List.map_map] at this
  exact sum_perm this

theorem Pr_perm (f : Nat → Int) (p : Nat → Nat) (h : Nat) (hr : ∀ k, 1 ≤ k → k ≤ h → 1 ≤ p k ∧ p k ≤ h)
    (hi : ∀ i j, 1 ≤ i → i ≤ h → 1 ≤ j → j ≤ h → p i = p j → i = j) : Pr (fun k => f (p k)) h = Pr f h := by
  rw [Pr_list, Pr_list]
  have := (perm_inj p h hr hi).map f
  rw [List.map_map] at this
  exact prodL_perm this


/-! Gauss's count for an odd modulus n = 2 h + 1 -/

/-- is the remainder of k in the upper half? -/
def up (n k : Nat) : Nat := if 2 * (k % n) > n then 1 else 0
/-- the remainder nearest to 0, without its sign -/
def near (n k : Nat) : Nat := if 2 * (k % n) > n then n - k % n else k % n
/-- Gauss's count -/
def mu (a n : Nat) : Nat := S (fun k => up n (a * k)) (n / 2)

theorem up_le (n k : Nat) : up n k ≤ 1 := by unfold up; split <;> omega

theorem up_mod (n k : Nat) : up n (k % n) = up n k := by unfold up; rw [Nat.mod_mod]
theorem near_mod (n k : Nat) : near n (k % n) = near n k := by unfold near; rw [Nat.mod_mod]

theorem mu_mod (a n : Nat) : mu (a % n) n = mu a n := by
  unfold mu; apply S_congr; intro k _ _
  rw [← up_mod n (a % n * k), ← up_mod n (a * k)]
  rw [Nat.mod_mul_mod]

theorem coprime_mul_mod {a n k : Nat} (hc : Nat.Coprime a n) (h : (a * k) % n = 0) : k % n = 0 := by
  have : n ∣ a * k := Nat.dvd_of_mod_eq_zero h
  exact Nat.mod_eq_zero_of_dvd (hc.symm.dvd_of_dvd_mul_left this)

theorem near_range {a n k : Nat} (hodd : n % 2 = 1) (hc : Nat.Coprime a n) (h1 : 1 ≤ k) (h2 : k ≤ n / 2) :
    1 ≤ near n (a * k) ∧ near n (a * k) ≤ n / 2 := by
  have hn : 0 < n := by omega
  have hlt := Nat.mod_lt (a * k) hn
  have h0 : (a * k) % n ≠ 0 := fun e => by
    have := coprime_mul_mod hc e
    rw [Nat.mod_eq_of_lt (by omega)] at this; omega
  unfold near; split <;> omega

theorem near_inj {a n i j : Nat} (hodd : n % 2 = 1) (hc : Nat.Coprime a n) (h1 : 1 ≤ i) (h2 : i ≤ n / 2) (h3 : 1 ≤ j) (h4 : j ≤ n / 2)
    (e : near n (a * i) = near n (a * j)) : i = j := by
  have hn : 0 < n := by omega
  have key : ∀ i j, i ≤ j → 1 ≤ i → i ≤ n / 2 → 1 ≤ j → j ≤ n / 2 → near n (a * i) = near n (a * j) → i = j := by
    intro i j hij h1 h2 h3 h4 e
    have li := Nat.mod_lt (a * i) hn
    have lj := Nat.mod_lt (a * j) hn
    have di := Nat.div_add_mod (a * i) n
    have dj := Nat.div_add_mod (a * j) n
    have cases : (a * i) % n = (a * j) % n ∨ (a * i) % n + (a * j) % n = n := by
      unfold near at e; split at e <;> split at e <;> omega
    rcases cases with c | c
    · have hd : n ∣ a * (j - i) := by
        refine ⟨a * j / n - a * i / n, ?_⟩
        rw [Nat.mul_sub, Nat.mul_sub]; omega
      have := hc.symm.dvd_of_dvd_mul_left hd
      have := Nat.eq_zero_of_dvd_of_lt this (by omega)
      omega
    · have hd : n ∣ a * (i + j) := by
        refine ⟨a * i / n + a * j / n + 1, ?_⟩
        rw [Nat.mul_add, Nat.mul_add, Nat.mul_add, Nat.mul_one]; omega
      have := hc.symm.dvd_of_dvd_mul_left hd
      have := Nat.eq_zero_of_dvd_of_lt this (by omega)
      omega
  rcases Nat.le_total i j with h | h
  · exact key i j h h1 h2 h3 h4 e
  · exact (key j i h h3 h4 h1 h2 e.symm).symm

/-- products: the counts of two factors add up, modulo 2 -/
theorem up_mul {a b n k : Nat} (hodd : n % 2 = 1) (hab : (a * (b * k)) % n ≠ 0) :
    up n (a * (b * k)) % 2 = (up n (b * k) + up n (a * near n (b * k))) % 2 := by
  have hn : 0 < n := by omega
  have lb := Nat.mod_lt (b * k) hn
  have lab := Nat.mod_lt (a * (b * k)) hn
  have e1 : a * (b * k) % n = a * (b * k % n) % n := by rw [Nat.mul_mod_mod]
  unfold near
  by_cases hu : 2 * (b * k % n) > n
  · rw [if_pos hu]
    have hsum : a * (b * k % n) + a * (n - b * k % n) = a * n := by rw [← Nat.mul_add]; congr 1; omega
    have d1 := Nat.div_add_mod (a * (b * k % n)) n
    have d2 := Nat.div_add_mod (a * (n - b * k % n)) n
    have l2 := Nat.mod_lt (a * (n - b * k % n)) hn
    have hsum2 : (a * (b * k % n)) % n + (a * (n - b * k % n)) % n = n := by
      have hz : ((a * (b * k % n)) % n + (a * (n - b * k % n)) % n) % n = 0 := by
        rw [← Nat.add_mod, hsum, Nat.mul_mod_left]
      have l1 : (a * (b * k % n)) % n < n := Nat.mod_lt _ hn
      have hd := Nat.dvd_of_mod_eq_zero hz
      obtain ⟨c, hc⟩ := hd
      have : c = 1 := by
        rcases Nat.lt_or_ge c 1 with h | h
        · have : c = 0 := by omega
          subst this; omega
        · rcases Nat.lt_or_ge 1 c with h' | h'
          · have : n * 2 ≤ n * c := Nat.mul_le_mul_left n h'
            omega
          · omega
      subst this; omega
    unfold up
    rw [if_pos hu]
    rw [e1] at *
    split <;> split <;> omega
  · rw [if_neg hu]
    have : up n (b * k) = 0 := by unfold up; rw [if_neg hu]
    rw [this, Nat.zero_add]
    unfold up; rw [e1]

theorem S_mod2 {f g : Nat → Nat} : ∀ h, (∀ k, 1 ≤ k → k ≤ h → f k % 2 = g k % 2) → S f h % 2 = S g h % 2
  | 0, _ => rfl
  | h + 1, H => by
    simp only [S]
    have := S_mod2 h (fun k a b => H k a (by omega))
    have := H (h + 1) (by omega) (by omega)
    omega

theorem mu_mul {a b n : Nat} (hodd : n % 2 = 1) (ha : Nat.Coprime a n) (hb : Nat.Coprime b n) :
    mu (a * b) n % 2 = (mu a n + mu b n) % 2 := by
  have hn : 0 < n := by omega
  unfold mu
  rw [← S_perm (fun k => up n (a * k)) (fun k => near n (b * k)) (n / 2) (fun k h1 h2 => near_range hodd hb h1 h2)
    (fun i j h1 h2 h3 h4 e => near_inj hodd hb h1 h2 h3 h4 e), Nat.add_comm, ← S_add]
  apply S_mod2
  intro k h1 h2
  have hk : k % n ≠ 0 := by rw [Nat.mod_eq_of_lt (by omega)]; omega
  have hbk : (b * k) % n ≠ 0 := fun e => hk (coprime_mul_mod hb e)
  have habk : (a * (b * k)) % n ≠ 0 := fun e => hbk (coprime_mul_mod ha e)
  have := up_mul hodd habk
  rw [Nat.mul_assoc]; exact this

theorem S_ind (q h : Nat) (hq : q ≤ h) : S (fun k => if k > q then 1 else 0) h = h - q := by
  induction h with
  | zero => simp [S]
  | succ h ih =>
    simp only [S]
    by_cases e : q = h + 1
    · subst e
      have : S (fun k => if k > h + 1 then 1 else 0) h = S (fun _ => 0) h := S_congr h (fun k _ b => if_neg (by omega))
      rw [this, S_zero, if_neg (by omega)]; omega
    · rw [ih (by omega), if_pos (by omega)]; omega

theorem mu_two {n : Nat} (hodd : n % 2 = 1) : mu 2 n = n / 2 - n / 4 := by
  unfold mu
  have : S (fun k => up n (2 * k)) (n / 2) = S (fun k => if k > n / 4 then 1 else 0) (n / 2) := by
    apply S_congr; intro k h1 h2
    unfold up; rw [Nat.mod_eq_of_lt (by omega)]
    split <;> split <;> omega
  rw [this, S_ind _ _ (by omega)]

theorem mu_two_parity {n : Nat} (hodd : n % 2 = 1) : mu 2 n % 2 = if n % 8 = 3 ∨ n % 8 = 5 then 1 else 0 := by
  rw [mu_two hodd]; split <;> omega

theorem mu_one {n : Nat} : mu 1 n = 0 := by
  unfold mu
  rw [← S_zero (n / 2)]
  apply S_congr; intro k h1 h2
  unfold up; rw [if_neg]; rw [Nat.one_mul]
  have := Nat.mod_le k n; omega

/-- Eisenstein: for an odd factor the count is a sum of quotients, modulo 2 -/
theorem mu_quot {a n : Nat} (hodd : n % 2 = 1) (ha : a % 2 = 1) (hc : Nat.Coprime a n) :
    mu a n % 2 = S (fun k => a * k / n) (n / 2) % 2 := by
  have hn : 0 < n := by omega
  have e := S_perm (fun k => k) (fun k => near n (a * k)) (n / 2) (fun k h1 h2 => near_range hodd hc h1 h2)
    (fun i j h1 h2 h3 h4 e => near_inj hodd hc h1 h2 h3 h4 e)
  -- each k is, modulo 2, quotient + near + up
  have hs : S (fun k => k) (n / 2) % 2 = S (fun k => (a * k / n + near n (a * k)) + up n (a * k)) (n / 2) % 2 := by
    apply S_mod2; intro k h1 h2
    have d := Nat.div_add_mod (a * k) n
    have l := Nat.mod_lt (a * k) hn
    have p1 : (a * k) % 2 = k % 2 := by rw [Nat.mul_mod, ha, Nat.one_mul, Nat.mod_mod]
    have p2 : (n * (a * k / n)) % 2 = (a * k / n) % 2 := by rw [Nat.mul_mod, hodd, Nat.one_mul, Nat.mod_mod]
    unfold near up
    split <;> omega
  rw [S_add, S_add] at hs
  unfold mu
  have e' : S (fun k => near n (a * k)) (n / 2) = S (fun k => k) (n / 2) := e
  omega

/-- how many j of 1..h have j * b < c : at most h of them -/
theorem S_lt (b c h : Nat) (hb : 0 < b) (hne : ∀ j, 1 ≤ j → j ≤ h → j * b ≠ c) (hq : c / b ≤ h) :
    S (fun j => if j * b < c then 1 else 0) h = c / b := by
  have : S (fun j => if j * b < c then 1 else 0) h = S (fun j => 1 - (if j > c / b then 1 else 0)) h := by
    apply S_congr; intro j h1 h2
    have := hne j h1 h2
    by_cases hj : j > c / b
    · rw [if_pos hj, if_neg]
      have := (Nat.div_lt_iff_lt_mul hb).mp hj; omega
    · rw [if_neg hj, if_pos]
      have := (Nat.le_div_iff_mul_le hb).mp (Nat.le_of_not_lt hj); omega
  rw [this]
  have e : S (fun j => (1 - (if j > c / b then 1 else 0)) + (if j > c / b then 1 else 0)) h = h := by
    have : S (fun j => (1 - (if j > c / b then 1 else 0)) + (if j > c / b then 1 else 0)) h = S (fun _ => 1) h := by
      apply S_congr; intro j _ _; split <;> omega
    rw [this, S_const]; omega
  rw [S_add, S_ind _ _ hq] at e
  omega

theorem lattice {m n : Nat} (hm : m % 2 = 1) (hn : n % 2 = 1) (hc : Nat.Coprime m n) :
    S (fun k => m * k / n) (n / 2) + S (fun j => n * j / m) (m / 2) = n / 2 * (m / 2) := by
  have hne : ∀ k j, 1 ≤ k → k ≤ n / 2 → 1 ≤ j → j ≤ m / 2 → j * n ≠ m * k := by
    intro k j h1 h2 h3 h4 e
    have : n ∣ m * k := ⟨j, by rw [← e, Nat.mul_comm]⟩
    have := hc.symm.dvd_of_dvd_mul_left this
    have := Nat.eq_zero_of_dvd_of_lt this (by omega)
    omega
  have a1 : S (fun k => m * k / n) (n / 2) = S (fun k => S (fun j => if j * n < m * k then 1 else 0) (m / 2)) (n / 2) := by
    apply S_congr; intro k h1 h2
    rw [S_lt n (m * k) (m / 2) (by omega) (fun j h3 h4 => hne k j h1 h2 h3 h4)]
    have hlt : m * k / n < m / 2 + 1 := by
      rw [Nat.div_lt_iff_lt_mul (by omega)]
      have : m * (2 * k) ≤ m * (n - 1) := Nat.mul_le_mul_left m (by omega)
      have e1 : m * (2 * k) = 2 * (m * k) := by rw [Nat.mul_left_comm]
      have e2 : m * (n - 1) + m = m * n := by
        have : n = (n - 1) + 1 := by omega
        conv => rhs; rw [this, Nat.mul_add, Nat.mul_one]
      have e3 : (m / 2 + 1) * n * 2 = (m + 1) * n := by
        have : m + 1 = (m / 2 + 1) * 2 := by omega
        rw [this, Nat.mul_right_comm]
      have e4 : (m + 1) * n = m * n + n := by rw [Nat.add_mul, Nat.one_mul]
      omega
    omega
  have a2 : S (fun j => n * j / m) (m / 2) = S (fun j => S (fun k => if k * m < n * j then 1 else 0) (n / 2)) (m / 2) := by
    apply S_congr; intro j h1 h2
    rw [S_lt m (n * j) (n / 2) (by omega) (fun k h3 h4 e => hne k j h3 h4 h1 h2 (by rw [Nat.mul_comm j n, Nat.mul_comm m k]; exact e.symm))]
    have hlt : n * j / m < n / 2 + 1 := by
      rw [Nat.div_lt_iff_lt_mul (by omega)]
      have : n * (2 * j) ≤ n * (m - 1) := Nat.mul_le_mul_left n (by omega)
      have e1 : n * (2 * j) = 2 * (n * j) := by rw [Nat.mul_left_comm]
      have e2 : n * (m - 1) + n = n * m := by
        have : m = (m - 1) + 1 := by omega
        conv => rhs; rw [this, Nat.mul_add, Nat.mul_one]
      have e3 : (n / 2 + 1) * m * 2 = (n + 1) * m := by
        have : n + 1 = (n / 2 + 1) * 2 := by omega
        rw [this, Nat.mul_right_comm]
      have e4 : (n + 1) * m = n * m + m := by rw [Nat.add_mul, Nat.one_mul]
      omega
    omega
  rw [a1, a2, S_swap (fun j k => if k * m < n * j then 1 else 0), ← S_add]
  rw [show S (fun k => S (fun j => if j * n < m * k then 1 else 0) (m / 2) + S (fun j => if k * m < n * j then 1 else 0) (m / 2)) (n / 2) = S (fun _ => m / 2) (n / 2) from ?_]
  · rw [S_const]
  · apply S_congr; intro k h1 h2
    rw [← S_add]
    rw [show S (fun j => (if j * n < m * k then 1 else 0) + (if k * m < n * j then 1 else 0)) (m / 2) = S (fun _ => 1) (m / 2) from ?_]
    · rw [S_const]; omega
    · apply S_congr; intro j h3 h4
      have := hne k j h1 h2 h3 h4
      rw [Nat.mul_comm k m, Nat.mul_comm n j]
      split <;> split <;> omega

/-- the law of reciprocity, for odd numbers without a common factor -/
theorem reciprocity {m n : Nat} (hm : m % 2 = 1) (hn : n % 2 = 1) (hc : Nat.Coprime m n) :
    (mu m n + mu n m) % 2 = (n / 2 * (m / 2)) % 2 := by
  have := mu_quot hn hm hc
  have := mu_quot hm hn hc.symm
  have := lattice hm hn hc
  omega

theorem reciprocity' {m n : Nat} (hm : m % 2 = 1) (hn : n % 2 = 1) (hc : Nat.Coprime m n) :
    (mu m n + mu n m) % 2 = if m % 4 = 3 ∧ n % 4 = 3 then 1 else 0 := by
  rw [reciprocity hm hn hc, Nat.mul_mod]
  split
  · rename_i h
    have h1 : n / 2 % 2 = 1 := by omega
    have h2 : m / 2 % 2 = 1 := by omega
    rw [h1, h2]
  · rename_i h
    have : n / 2 % 2 = 0 ∨ m / 2 % 2 = 0 := by omega
    rcases this with h | h <;> rw [h] <;> simp
end Jac
/- Plain number theory of the group: the prime, Euler's criterion, powers modulo the prime. -/
namespace Jac
set_option linter.unusedVariables false
set_option linter.unusedSimpArgs false

/-- a number that the kernel can't reckon with -/
noncomputable def big (n : Nat) : Nat := Classical.choose (⟨n, rfl⟩ : ∃ q, q = n)
theorem big_eq (n : Nat) : big n = n := Classical.choose_spec (⟨n, rfl⟩ : ∃ q, q = n)

/-- no number from a to a + 2 ^ k - 1 divides n -/
def chk (n : Nat) : Nat → Nat → Bool
  | 0, a => !(Nat.beq (n % a) 0)
  | k + 1, a => chk n k a && chk n k (a + 2 ^ k)

theorem chk_spec {n : Nat} : ∀ {k a : Nat}, chk n k a = true → ∀ d, a ≤ d → d < a + 2 ^ k → n % d ≠ 0
  | 0, a, h, d, h1, h2 => by
    have : d = a := by simp at h2; omega
    subst this
    intro e
    simp [chk, e] at h
  | k + 1, a, h, d, h1, h2 => by
    simp only [chk, Bool.and_eq_true] at h
    rw [Nat.pow_succ] at h2
    by_cases c : d < a + 2 ^ k
    · exact chk_spec h.1 d h1 c
    · exact chk_spec h.2 d (by omega) (by omega)

theorem coprime_of_chk {n : Nat} (h : chk n 16 2 = true) (hn : n < 65536 * 65536) {x : Nat} (h1 : 1 ≤ x) (h2 : x < n) : Nat.Coprime x n := by
  rw [Nat.coprime_iff_gcd_eq_one]
  obtain ⟨e, he⟩ := Nat.gcd_dvd_right x n
  have hg : Nat.gcd x n ≤ x := Nat.gcd_le_left n (by omega)
  have hp : 0 < Nat.gcd x n := Nat.gcd_pos_of_pos_left n (by omega)
  generalize Nat.gcd x n = g at *
  apply Classical.byContradiction
  intro hg1
  have he1 : e ≠ 1 := fun c => by subst c; omega
  have he0 : e ≠ 0 := fun c => by subst c; omega
  by_cases c : g < 65536
  · exact chk_spec h g (by omega) (by omega) (by rw [he, Nat.mul_mod_right])
  · have : e < 65536 := by
      apply Classical.byContradiction
      intro c'
      have : 65536 * 65536 ≤ g * e := Nat.mul_le_mul (by omega) (by omega)
      omega
    exact chk_spec h e (by omega) (by omega) (by rw [he, Nat.mul_mod_left])

theorem chkP : chk 2147483579 16 2 = true := by decide +kernel
theorem chkQ : chk 1073741789 16 2 = true := by decide +kernel

theorem coprimeP {x : Nat} (h1 : 1 ≤ x) (h2 : x < 2147483579) : Nat.Coprime x 2147483579 := coprime_of_chk chkP (by decide) h1 h2
theorem coprimeQ {x : Nat} (h1 : 1 ≤ x) (h2 : x < 1073741789) : Nat.Coprime x 1073741789 := coprime_of_chk chkQ (by decide) h1 h2

/-! Euler's criterion for a prime n -/

theorem Pr_mod {n : Int} {f g : Nat → Int} : ∀ h, (∀ k, 1 ≤ k → k ≤ h → n ∣ f k - g k) → n ∣ Pr f h - Pr g h
  | 0, _ => by simp [Pr]
  | h + 1, H => by
    have h1 := Pr_mod h (fun k a b => H k a (by omega))
    have h2 := H (h + 1) (by omega) (by omega)
    simp only [Pr]
    have e : Pr f h * f (h + 1) - Pr g h * g (h + 1) = (Pr f h - Pr g h) * f (h + 1) + Pr g h * (f (h + 1) - g (h + 1)) := by
      rw [Int.sub_mul, Int.mul_sub]; omega
    rw [e]
    exact Int.dvd_add (Int.dvd_trans h1 (Int.dvd_mul_right _ _)) (Int.dvd_trans h2 (Int.dvd_mul_left _ _))

theorem Pr_mul (f g : Nat → Int) : ∀ h, Pr (fun k => f k * g k) h = Pr f h * Pr g h
  | 0 => rfl
  | h + 1 => by
    simp only [Pr]; rw [Pr_mul f g h, Int.mul_assoc, Int.mul_assoc, Int.mul_left_comm (Pr g h)]

theorem Pr_const (c : Int) : ∀ h, Pr (fun _ => c) h = c ^ h
  | 0 => by simp [Pr]
  | h + 1 => by simp only [Pr]; rw [Pr_const c h, Int.pow_succ]

/-- the sign of a remainder -/
def sgn (n k : Nat) : Int := if up n k = 1 then -1 else 1

theorem sgn_aux (s u : Nat) (h : u ≤ 1) : ((if s % 2 = 0 then 1 else -1) * (if u = 1 then -1 else 1) : Int) = if (s + u) % 2 = 0 then 1 else -1 := by
  have h2 : u = 0 ∨ u = 1 := by omega
  have h1 : s % 2 = 0 ∨ s % 2 = 1 := by omega
  rcases h1 with h1 | h1 <;> rcases h2 with h2 | h2 <;> subst h2 <;> simp [h1, Nat.add_mod]

theorem Pr_sgn (n a : Nat) : ∀ h, Pr (fun k => sgn n (a * k)) h = if S (fun k => up n (a * k)) h % 2 = 0 then 1 else -1
  | 0 => rfl
  | h + 1 => by
    simp only [Pr, S]; rw [Pr_sgn n a h]
    have := up_le n (a * (h + 1))
    unfold sgn
    exact sgn_aux _ _ this

theorem Pr_coprime {n : Nat} : ∀ h, (∀ k, 1 ≤ k → k ≤ h → Nat.Coprime k n) → Nat.Coprime (Pr (fun k => (k : Int)) h).natAbs n
  | 0, _ => by simp [Pr]
  | h + 1, H => by
    simp only [Pr]; rw [Int.natAbs_mul]
    exact Nat.Coprime.mul_left (Pr_coprime h (fun k a b => H k a (by omega))) (by rw [Int.natAbs_natCast]; exact H (h + 1) (by omega) (by omega))

theorem gauss {a n : Nat} (hodd : n % 2 = 1) (hprime : ∀ k, 1 ≤ k → k < n → Nat.Coprime k n) (hc : Nat.Coprime a n) :
    (n : Int) ∣ (a : Int) ^ (n / 2) - (if mu a n % 2 = 0 then 1 else -1) := by
  have hn : 0 < n := by omega
  have h1 : (n : Int) ∣ Pr (fun k => (a : Int) * (k : Int)) (n / 2) - Pr (fun k => sgn n (a * k) * (near n (a * k) : Int)) (n / 2) := by
    apply Pr_mod
    intro k hk1 hk2
    have d := Nat.div_add_mod (a * k) n
    have l := Nat.mod_lt (a * k) hn
    have e : (a : Int) * (k : Int) = (n : Int) * ((a * k / n : Nat) : Int) + ((a * k % n : Nat) : Int) := by
      have := congrArg (fun z : Nat => (z : Int)) d
      simp only [Int.natCast_add, Int.natCast_mul] at this
      omega
    rw [e]
    unfold sgn up near
    by_cases c : 2 * (a * k % n) > n
    · rw [if_pos c, if_pos c, if_pos rfl]
      refine ⟨((a * k / n : Nat) : Int) + 1, ?_⟩
      rw [Int.mul_add, Int.mul_one]
      have : ((n - a * k % n : Nat) : Int) = (n : Int) - ((a * k % n : Nat) : Int) := by omega
      rw [this]; omega
    · rw [if_neg c, if_neg c, if_neg (by decide)]
      exact ⟨((a * k / n : Nat) : Int), by omega⟩
  rw [Pr_mul, Pr_mul, Pr_const, Pr_sgn] at h1
  have hp := Pr_perm (fun k => (k : Int)) (fun k => near n (a * k)) (n / 2) (fun k h1 h2 => near_range hodd hc h1 h2)
    (fun i j h1 h2 h3 h4 e => near_inj hodd hc h1 h2 h3 h4 e)
  have hp' : Pr (fun k => (near n (a * k) : Int)) (n / 2) = Pr (fun k => (k : Int)) (n / 2) := hp
  rw [hp'] at h1
  have hco := Pr_coprime (n := n) (n / 2) (fun k a b => hprime k a (by omega))
  generalize Pr (fun k => (k : Int)) (n / 2) = F at h1 hco
  rw [← Int.sub_mul] at h1
  have h2 : n ∣ (((a : Int) ^ (n / 2) - (if S (fun k => up n (a * k)) (n / 2) % 2 = 0 then 1 else -1)) * F).natAbs := Int.ofNat_dvd_left.mp h1
  rw [Int.natAbs_mul] at h2
  have h3 := hco.symm.dvd_of_dvd_mul_right h2
  exact Int.ofNat_dvd_left.mpr h3

theorem euler {a n : Nat} (hodd : n % 2 = 1) (h3 : 2 < n) (hprime : ∀ k, 1 ≤ k → k < n → Nat.Coprime k n) (hc : Nat.Coprime a n) :
    a ^ (n / 2) % n = if mu a n % 2 = 0 then 1 else n - 1 := by
  have h := gauss hodd hprime hc
  have hz : (0 : Int) < n := by omega
  have hm : ((a ^ (n / 2) % n : Nat) : Int) = ((a : Int) ^ (n / 2)) % n := by simp
  obtain ⟨q, hq⟩ := h
  by_cases c : mu a n % 2 = 0
  · rw [if_pos c] at hq ⊢
    have e : (a : Int) ^ (n / 2) = 1 + n * q := by omega
    rw [e, Int.add_mul_emod_self_left, Int.emod_eq_of_lt (by omega) (by omega)] at hm
    omega
  · rw [if_neg c] at hq ⊢
    have e : (a : Int) ^ (n / 2) = (n - 1) + n * (q - 1) := by rw [Int.mul_sub, Int.mul_one]; omega
    rw [e, Int.add_mul_emod_self_left, Int.emod_eq_of_lt (by omega) (by omega)] at hm
    omega

noncomputable def Qn : Nat := big 1073741789
noncomputable def Pn : Nat := big 2147483579
theorem Qn_eq : Qn = 1073741789 := big_eq _
theorem Pn_eq : Pn = 2147483579 := big_eq _

/-- a power modulo the prime -/
def pw (a n : Nat) : Nat := a ^ n % 2147483579

theorem pw_Q {x : Nat} (h1 : 1 ≤ x) (h2 : x < 2147483579) : pw x Qn = if mu x Pn % 2 = 0 then 1 else 2147483578 := by
  have hp : ∀ k, 1 ≤ k → k < Pn → Nat.Coprime k Pn := fun k a b => by rw [Pn_eq] at b ⊢; exact coprimeP a b
  have h := euler (a := x) (n := Pn) (by rw [Pn_eq]) (by rw [Pn_eq]; decide) hp (hp x h1 (by rw [Pn_eq]; exact h2))
  have e : Pn / 2 = Qn := by rw [Pn_eq, Qn_eq]
  rw [e] at h
  unfold pw
  generalize x ^ Qn = y at *
  generalize mu x Pn % 2 = c at *
  rw [Pn_eq] at h
  exact h
end Jac
