/- How the codec's values lie in memory: a list of values read out of a slice, down to a depth. -/
import Derived.Test.YthokpfegfnpmhaaDoorCodec
import Derived.Test.YthokpfegfnpmhaaDoorRows
import Derived.WalkKit
import Derived.WalkSpells
import Derived.Lib.Hide
namespace Go.Proofs.YthokpfegfnpmhaaDoor
open Go.RowKit Cdc
set_option linter.unusedVariables false
set_option linter.unusedSimpArgs false

mutual
/-- how deep a value is nested -/
def dp : V → Nat
  | ⟨_, _, _, l⟩ => dpL l + 1
def dpL : List V → Nat
  | [] => 0
  | x :: xs => max (dp x) (dpL xs)
end

theorem dp_mem {l : List V} {x : V} (h : x ∈ l) : dp x ≤ dpL l := by
  induction l with
  | nil => cases h
  | cons y l ih =>
    simp only [dpL]
    rcases List.mem_cons.1 h with rfl | h
    · omega
    · have := ih h; omega

theorem fm_le_dp (x : V) : ∀ a, fm x = some a → a ≤ dp x := by
  refine V.ind (P := fun x => ∀ a, fm x = some a → a ≤ dp x) ?_ x
  intro k n s l ih a h
  have hL : ∀ (l : List V), (∀ x ∈ l, ∀ a, fm x = some a → a ≤ dp x) → ∀ b, fmL l = some b → b ≤ dpL l := by
    intro l
    induction l with
    | nil => intro _ b hb; simp only [fmL] at hb; injection hb with hb; omega
    | cons y l ihl =>
      intro hy b hb
      simp only [fmL] at hb
      simp only [dpL]
      cases h1 : fm y with
      | none => rw [h1] at hb; cases hb
      | some c =>
        rw [h1] at hb
        simp only [Option.map_eq_some_iff] at hb
        obtain ⟨e, he, rfl⟩ := hb
        have := hy y (by simp) c h1
        have := ihl (fun x hx => hy x (by simp [hx])) e he
        omega
  simp only [fm] at h
  simp only [dp]
  split at h
  · split at h
    · injection h with h; omega
    · cases h
  · split at h
    · split at h
      · injection h with h; omega
      · cases h
    · split at h
      · split at h
        · simp only [Option.map_eq_some_iff] at h
          obtain ⟨e, he, rfl⟩ := h
          have := hL l ih e he
          omega
        · cases h
      · cases h

/-- the slice v holds the values l, nested at most d deep -/
def RS (w : World) : Nat → List V → Value → Prop
  | 0, l, v => l = [] ∧ ∃ A c, v = .slice A 0 c
  | d + 1, l, v => ∃ A c, v = .slice A l.length c ∧ l.length ≤ c ∧ ∀ i y, l[i]? = some y → ∃ b o v', A = some ⟨b, o, none⟩ ∧ b < w.heap.size ∧
      w.cell? ⟨b, o + i * 4, none⟩ = some (.int .i64 y.k) ∧ w.cell? ⟨b, o + i * 4 + 1, none⟩ = some (.int .i64 y.n) ∧ w.cell? ⟨b, o + i * 4 + 2, none⟩ = some (.string y.s) ∧
      w.cell? ⟨b, o + i * 4 + 3, none⟩ = some v' ∧ RS w d y.l v'

theorem RS.form {w : World} {d : Nat} {l : List V} {v : Value} (h : RS w d l v) : ∃ A c, v = .slice A l.length c := by
  cases d with
  | zero => obtain ⟨rfl, A, c, rfl⟩ := h; exact ⟨A, c, rfl⟩
  | succ d => obtain ⟨A, c, hv, _⟩ := h; exact ⟨A, c, hv⟩

theorem RS.nil (w : World) (d : Nat) (A : Option Addr) (c : Nat) : RS w d [] (.slice A 0 c) := by
  cases d with
  | zero => exact ⟨rfl, A, c, rfl⟩
  | succ d => exact ⟨A, c, rfl, Nat.zero_le _, fun i y h => by simp at h⟩

theorem RS.keep {w w' : World} : ∀ {d : Nat} {l : List V} {v : Value}, RS w d l v → w.heap.size ≤ w'.heap.size → (∀ p : Addr, p.block < w.heap.size → w'.cell? p = w.cell? p) → RS w' d l v
  | 0, _, _, h, _, _ => h
  | d + 1, l, v, h, hs, hk => by
    obtain ⟨A, c, hv, hc, hi⟩ := h
    refine ⟨A, c, hv, hc, fun i y hy => ?_⟩
    obtain ⟨b, o, v', hA, hb, h0, h1, h2, h3, hr⟩ := hi i y hy
    exact ⟨b, o, v', hA, by omega, (hk ⟨b, _, none⟩ hb).trans h0, (hk ⟨b, _, none⟩ hb).trans h1, (hk ⟨b, _, none⟩ hb).trans h2, (hk ⟨b, _, none⟩ hb).trans h3, hr.keep hs hk⟩

theorem RS.below {w w' : World} {d : Nat} {l : List V} {v : Value} (h : RS w d l v) (hb : Below w.heap.size w w') : RS w' d l v :=
  h.keep hb.size fun _ hp => hb.cell hp

theorem RS.more {w : World} : ∀ {d d' : Nat} {l : List V} {v : Value}, RS w d l v → d ≤ d' → RS w d' l v
  | 0, d', l, v, h, _ => by obtain ⟨rfl, A, c, rfl⟩ := h; exact RS.nil w d' A c
  | d + 1, 0, l, v, h, hd => by omega
  | d + 1, d' + 1, l, v, h, hd => by
    obtain ⟨A, c, hv, hc, hi⟩ := h
    refine ⟨A, c, hv, hc, fun i y hy => ?_⟩
    obtain ⟨b, o, v', hA, hb, h0, h1, h2, h3, hr⟩ := hi i y hy
    exact ⟨b, o, v', hA, hb, h0, h1, h2, h3, hr.more (by omega)⟩

/-- a value as an argument -/
abbrev vv (x : V) (v : Value) : Value := .agg #[.int .i64 x.k, .int .i64 x.n, .string x.s, v]

theorem RS.zero_nil {w : World} {l : List V} {v : Value} (h : RS w 0 l v) : l = [] := h.1
end Go.Proofs.YthokpfegfnpmhaaDoor
