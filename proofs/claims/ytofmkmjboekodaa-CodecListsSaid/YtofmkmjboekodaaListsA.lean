/- Words for the law CodecLists. -/
import Derived.Test.YtofmkmjboekodaaLawB
namespace Go.Proofs.Ytofmkmjboekodaa
open Go.RowKit Cdc
set_option linter.unusedVariables false
set_option linter.unusedSimpArgs false

/-- a list as a value -/
abbrev xL (l : List V) : V := ⟨3, 0, ⟨#[]⟩, l⟩
/-- the number 0 as a value -/
abbrev x0 : V := ⟨1, 0, ⟨#[]⟩, []⟩

theorem fm_xL (l : List V) : fm (xL l) = (fmL l).map (· + 1) := by
  rw [fm, if_neg (by decide), if_neg (by decide), if_pos rfl, if_pos ⟨rfl, rfl⟩]

theorem ck_list_bad {l : List V} {y : V} (hy : y ∈ l) (h : ckE y ≠ 0) : ckE (xL l) ≠ 0 := by
  intro h0
  obtain ⟨a, ha, h16⟩ := ckE_zero.1 h0
  rw [fm_xL, Option.map_eq_some_iff] at ha
  obtain ⟨b, hb, rfl⟩ := ha
  obtain ⟨c, hc, hle⟩ := fmL_some hb y hy
  exact h (ckE_zero.2 ⟨c, hc, by omega⟩)

theorem ck_list {l : List V} (h : ∀ y ∈ l, ckE y = 0) (h0 : ckE (xL l) ≠ 0) : ckE (xL l) = 2 := by
  have : ∀ l : List V, (∀ y ∈ l, ckE y = 0) → ∃ a, fmL l = some a := by
    intro l
    induction l with
    | nil => intro _; exact ⟨0, rfl⟩
    | cons y l ih =>
      intro h
      obtain ⟨a, ha, _⟩ := ckE_zero.1 (h y (by simp))
      obtain ⟨b, hb⟩ := ih fun z hz => h z (by simp [hz])
      exact ⟨max a b, by simp only [fmL, ha, hb, Option.map_some]⟩
  obtain ⟨a, ha⟩ := this l h
  unfold ckE at h0 ⊢
  rw [fm_xL, ha] at h0 ⊢
  simp only [Option.map_some] at h0 ⊢
  split at h0
  · rename_i hlt
    rw [if_pos hlt]
  · simp at h0

theorem enc_xL (l : List V) : enc (xL l) = 3 :: (num l.length ++ encL l) := by rw [enc, if_neg (by decide), if_neg (by decide)]
theorem encL_zeros (n : Nat) : encL (List.replicate n x0) = (List.replicate n [1, 0]).flatten := by
  induction n with
  | zero => rfl
  | succ n ih =>
    rw [List.replicate_succ, List.replicate_succ, encL, ih]
    simp [enc, uz, num_lt]
theorem encL_zeros_len (n : Nat) : (encL (List.replicate n x0)).length = 2 * n := by
  rw [encL_zeros]
  induction n with
  | zero => rfl
  | succ n ih => rw [List.replicate_succ, List.flatten_cons, List.length_append, ih]; simp; omega
theorem ck_zeros (n : Nat) : ckE (xL (List.replicate n x0)) = 0 := by
  have : ∀ n, fmL (List.replicate n x0) = some 0 := by
    intro n
    induction n with
    | zero => rfl
    | succ n ih =>
      have h0 : fm x0 = some 0 := by rw [fm, if_pos rfl, if_pos ⟨rfl, rfl⟩]
      rw [List.replicate_succ, fmL, ih, h0]
      rfl
  exact ckE_zero.2 ⟨1, by rw [fm_xL, this n]; rfl, by omega⟩
theorem Sm_zeros (n : Nat) (hn : n ≤ 1000000000) : Sm (xL (List.replicate n x0)) := by
  have : ∀ n, SmL (List.replicate n x0) := by
    intro n
    induction n with
    | zero => trivial
    | succ n ih => rw [List.replicate_succ]; exact ⟨by simp [Sm, SmL]; decide, ih⟩
  simp only [Sm]
  exact ⟨by decide, by decide, by simpa using hn, this n⟩
theorem dp_zeros (n : Nat) : dp (xL (List.replicate n x0)) ≤ 2 := by
  have : ∀ n, dpL (List.replicate n x0) ≤ 1 := by
    intro n
    induction n with
    | zero => simp [dpL]
    | succ n ih => rw [List.replicate_succ, dpL]; simp only [dp, dpL]; omega
  simp only [dp]
  have := this n
  omega

/-- a row of n zeros as values -/
def OwnZ (w : World) (row : Value) (n : Nat) : Prop := w.ownsRow 0 24 4 row n (flat (List.replicate n (x0, .slice none 0 0)))

theorem OwnZ.kept {w w' : World} {row : Value} {n : Nat} (h : OwnZ w row n) {r : Option Nat} (hg : w.grownBy w' r) (hne : row.ownBlock = none ∨ row.ownBlock ≠ r) : OwnZ w' row n := World.ownsRow.kept h hg hne
theorem OwnZ.below {w w' : World} {row : Value} {n : Nat} (h : OwnZ w row n) (hb : Below w.heap.size w w') : OwnZ w' row n :=
  h.kept (r := none) ⟨hb.os, hb.tape, hb.output, hb.size, fun k hk _ => hb.block k hk⟩ (by cases row.ownBlock <;> simp)
theorem OwnZ.lt {w : World} {row : Value} {n : Nat} (h : OwnZ w row n) {g : Nat} (hg : row.ownBlock = some g) : g < w.heap.size := (World.ownsRow.lt h g hg).2
theorem OwnZ.rs {w : World} {row : Value} {n : Nat} (h : OwnZ w row n) : ∃ A c, row = .slice A n c ∧ RS w 1 (List.replicate n x0) (.slice A n c) := by
  rcases h.2 with ⟨rfl, rfl⟩ | ⟨g, cap, cur, rfl, hb, hh, hc, _⟩
  · exact ⟨_, _, rfl, RS.nil _ _ _ _⟩
  · refine ⟨_, _, rfl, some ⟨g, 0, none⟩, cap, by simp, by simpa using hc, fun i y hy => ?_⟩
    have hlt : i < n := by have := (List.getElem?_eq_some_iff.1 hy).1; simpa using this
    have hy2 : y = x0 := by
      rw [List.getElem?_replicate, if_pos hlt] at hy
      injection hy with hy
      exact hy.symm
    subst hy2
    have hp : (List.replicate n ((x0, Value.slice none 0 0) : V × Value))[i]? = some (x0, .slice none 0 0) := by rw [List.getElem?_replicate, if_pos hlt]
    obtain ⟨f0, f1, f2, f3⟩ := flat_at hp
    have hcell := fun j hj => World.ownsRow.cellAt h j hj
    refine ⟨g, 0, .slice none 0 0, rfl, (Array.getElem?_eq_some_iff.1 hh).1, ?_, ?_, ?_, ?_, RS.nil _ _ _ _⟩
    · rw [Nat.zero_add, hcell _ (by omega), f0]
    · rw [Nat.zero_add, hcell _ (by omega), f1]
    · rw [Nat.zero_add, hcell _ (by omega), f2]
    · rw [Nat.zero_add, hcell _ (by omega), f3]

/-- append of one value to a row of values, in a walk -/
theorem wpList_appZ {ops : Array Oper} {rest : List Oper} {o : Oper} {a : Act} {Q : Exit → Act → World → Prop} (w : World) (hgd : o.guard = none) (s x : Operand)
    (ho : o.op = .call { callee := .builtin .append, args := #[s, x], argTypes := #[22, 22] }) (row : Value) (n g : Nat)
    (hs : a.eval s = row) (hx : a.eval x = .slice (some ⟨g, 0, none⟩) 1 1) (hown : OwnZ w row n) (hg : w.heap[g]? = some (.cells #[.int .i64 1, .int .i64 0, .string ⟨#[]⟩, .slice none 0 0] 24 (0, 0)))
    (hl : n ≤ 1000000000000)
    (h : ∀ row' w', OwnZ w' row' (n + 1) → w.grownBy w' row.ownBlock → (row'.ownBlock = row.ownBlock ∨ row'.ownBlock = some w.heap.size) → wpList Try.prog ops Q rest (a.put o.dst row') w') : wpList Try.prog ops Q (o :: rest) a w := by
  refine wpList_plain hgd fun K hK => ?_
  obtain ⟨i0, hi0, hz0, hz1, hz2⟩ := info_parts v_info
  obtain ⟨v', w', hr, h2, h3, _, h5⟩ := run_append_own_at (P := Try.prog) w 0 22 o.type 24 i0 _ 4 56 Try.underlying22 hi0 hz0 hz1 hz2 rfl (by omega) row n (flat (List.replicate n (x0, .slice none 0 0))) hown ⟨g, 0, none⟩ 1 1
    [.int .i64 1, .int .i64 0, .string ⟨#[]⟩, .slice none 0 0] rfl (fun j u hu => by
      rw [← World.ownsRow.cells (w := w) (base := 0) (e := 24) (size := 4) (v := .slice (some ⟨g, 0, none⟩) 1 1) (n := 1) (xs := [.int .i64 1, .int .i64 0, .string ⟨#[]⟩, .slice none 0 0]) ⟨rfl, .inr ⟨g, 1, _, rfl, Nat.zero_le _, hg, Nat.le_refl _, by simp [maxLen], rfl, rfl⟩⟩ (g := g) rfl j u hu])
    (by intro u hu; simp at hu; rcases hu with rfl | rfl | rfl | rfl <;> rfl) (by simp only [maxLen]; omega) (by omega) (Nat.zero_le _)
  unfold Oper.wp execOp
  simp only [ho, resolve, invoke, builtin, Sem.run_bind, Sem.run_pure, Result.andThen_ok, List.map_toArray, List.map_cons, List.map_nil, hs, hx, hr]
  refine hK _ _ (h v' w' ?_ h3 h5)
  unfold OwnZ
  rw [List.replicate_succ', flat_append]
  simpa [flat] using h2

theorem heap_new (w : World) (o : Obj) : (w.alloc o).heap[w.heap.size]? = some o := by
  show (w.heap.push o)[w.heap.size]? = _
  simp

/-- what the loop of CodecLists keeps: the row of bytes a, the row of zeros z -/
structure LR (w wr : World) (a z : Value) (bs : List UInt8) (i : Nat) : Prop where
  own : Own wr a bs
  zs : OwnZ wr z i
  ga : ∀ g, a.ownBlock = some g → w.heap.size ≤ g ∧ z.ownBlock ≠ some g
  gz : ∀ g, z.ownBlock = some g → w.heap.size ≤ g
  below : Below w.heap.size w wr

theorem LR.start (w wr : World) (h : Below w.heap.size w wr) : LR w wr (.slice none 0 0) (.slice none 0 0) [] 0 :=
  ⟨Own.nil _, World.ownsRow_nil _ _ _ _, (fun g h => by cases h), (fun g h => by cases h), h⟩
theorem LR.to {w wr W : World} {a z : Value} {bs : List UInt8} {i : Nat} (h : LR w wr a z bs i) (hb : Below wr.heap.size wr W) : LR w W a z bs i :=
  ⟨h.own.below hb, h.zs.below hb, h.ga, h.gz, bt h.below hb⟩
theorem LR.app {w wr W : World} {a z v : Value} {bs ys : List UInt8} {i : Nat} (h : LR w wr a z bs i) (ho : Own W v (bs ++ ys)) (hg : Grew wr W a v) : LR w W v z (bs ++ ys) i := by
  refine ⟨ho, h.zs.kept hg.grown ?_, fun g hv => ?_, h.gz, h.below.grown hg.grown h.below.size (fun k hk => (h.ga k hk).1)⟩
  · cases ha : a.ownBlock with
    | none => cases hz : z.ownBlock <;> simp
    | some g => exact .inr (h.ga g ha).2
  · rcases hg.lies with e | ⟨g', e, hg'⟩
    · rw [e] at hv; exact h.ga g hv
    · rw [e] at hv
      injection hv with hv
      subst hv
      refine ⟨Nat.le_trans h.below.size hg', fun hz => ?_⟩
      have := h.zs.lt hz
      omega
theorem LR.appz {w wr W : World} {a z r : Value} {bs : List UInt8} {i : Nat} (h : LR w wr a z bs i) (hz : OwnZ W r (i + 1)) (hg : wr.grownBy W z.ownBlock) (hl : r.ownBlock = z.ownBlock ∨ r.ownBlock = some wr.heap.size) : LR w W a r bs (i + 1) := by
  refine ⟨World.ownsRow.kept h.own hg ?_, hz, fun g ha => ⟨(h.ga g ha).1, ?_⟩, fun g hr => ?_, h.below.grown hg h.below.size (fun k hk => h.gz k hk)⟩
  · cases ha : a.ownBlock with
    | none => exact .inl rfl
    | some g => exact .inr fun e => (h.ga g ha).2 e.symm
  · rcases hl with e | e
    · rw [e]; exact (h.ga g ha).2
    · rw [e]
      intro e2
      injection e2 with e2
      have := h.own.lt ha
      omega
  · rcases hl with e | e
    · rw [e] at hr; exact h.gz g hr
    · rw [e] at hr
      injection hr with hr
      subst hr
      exact h.below.size

/-- string(b[k:]) -/
theorem Own.convDrop {w W : World} {g n c m : Nat} {xs : List UInt8} {k : Nat} {s : ByteArray} (h : Own w (.slice (some ⟨g, 0, none⟩) n c) xs) (hn : xs.length = n) (hk : c ≠ k) (hm : m = (xs.drop k).length) (hs : s = ⟨(xs.drop k).toArray⟩) (hb : Below w.heap.size w W) :
    (convert 27 9 (.slice (some ⟨g, k, none⟩) m (c - k))).run Try.prog W = .ok (.string s) W := by
  subst hs
  obtain ⟨A2, c2, e, hc, hrb⟩ := (h.below hb).rb W.heap.size (Nat.le_refl _)
  injection e with e1 e2 e3
  subst e1 e3
  have hcut := hrb.cut k c hc
  rw [if_neg hk] at hcut
  have ha : (⟨g, 0, none⟩ : Addr).add k = ⟨g, k, none⟩ := by rw [add_form ⟨g, 0, none⟩ k rfl, Nat.zero_add]
  simp only [Option.map_some, ha] at hcut
  exact hcut.conv _ _ hm
theorem Own.convEnd {w W : World} {g n c : Nat} {xs : List UInt8} {s : ByteArray} (h : Own w (.slice (some ⟨g, 0, none⟩) n c) xs) (hs : s = ⟨#[]⟩) (m : Nat) :
    (convert 27 9 (.slice (some ⟨g, 0, none⟩) 0 m)).run Try.prog W = .ok (.string s) W := by
  subst hs
  have hrb : RB W W.heap.size W.heap.size (some ⟨g, 0, none⟩) [] := fun j b hb => by simp at hb
  exact hrb.conv _ _ rfl
end Go.Proofs.Ytofmkmjboekodaa
