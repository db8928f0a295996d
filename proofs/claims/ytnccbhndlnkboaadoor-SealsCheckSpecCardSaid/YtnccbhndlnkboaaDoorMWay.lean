/- What holds ahead of a round of merkle.climb. -/
import Derived.Test.YtnccbhndlnkboaaDoorMAdd
namespace Go.Proofs.YtnccbhndlnkboaaDoor
open Go.RowKit Go.Shelf Cdc Sha
set_option linter.unusedVariables false
set_option linter.unusedSimpArgs false

theorem stepsM_len : ∀ (n i : Nat), (stepsM n i).length ≤ n := by
  intro n
  induction n using Nat.strongRecOn with
  | ind n ih =>
    intro i
    by_cases h : 1 < n
    · rw [stepsM_big h, List.length_cons]
      have := ih ((n + 1) / 2) (by omega) (i / 2)
      omega
    · rw [stepsM_one h]; simp
/-- the whole way of a leaf -/
def climbM (n i : Nat) (leaf : List UInt8) (path : List (List UInt8)) : Option (List (List UInt8 × List UInt8)) := (wayM n i (lfD leaf) path).map ((lfD leaf, lfT leaf) :: ·)

/-- all cells but those of X stay -/
def KeepX (X : List (Option Nat)) (W W' : World) : Prop := W.heap.size ≤ W'.heap.size ∧ ∀ (g : Nat) (cs : Array Value) (t : TypeId) (fr : Nat × Nat), W.heap[g]? = some (.cells cs t fr) → some g ∉ X → W'.heap[g]? = some (.cells cs t fr)
theorem KeepX.of_below {X : List (Option Nat)} {W W' : World} (h : Below W.heap.size W W') : KeepX X W W' := ⟨h.size, fun g cs t fr hg _ => (h.block g (Array.getElem?_eq_some_iff.1 hg).1).trans hg⟩
theorem KeepX.of_only {b : Nat} {W W' : World} (h : Only (stOwn b) W W') : KeepX [some b, some (b + 1)] W W' := ⟨h.size, fun g cs t fr hg hn => (h.block g (Array.getElem?_eq_some_iff.1 hg).1 (fun e => hn (by rcases e with rfl | rfl <;> simp))).trans hg⟩
theorem KeepX.of_grown {X : List (Option Nat)} {W W' : World} {r : Option Nat} (h : W.grownBy W' r) (hr : ∀ k, r = some k → ∃ o : Obj, W.heap[k]? = some o ∧ o.isCells = false) : KeepX X W W' := ⟨h.size, fun g cs t fr hg _ => (h.block g (Array.getElem?_eq_some_iff.1 hg).1 (fun e => by
  obtain ⟨o, ho, hc⟩ := hr g e.symm
  rw [hg] at ho
  obtain rfl := Option.some.inj ho
  cases hc)).trans hg⟩
theorem cells_of_cell {W : World} {a : Addr} {v : Value} (h : W.cell? a = some v) : ∃ cs t fr, W.heap[a.block]? = some (.cells cs t fr) := by
  unfold World.cell? at h
  cases hb : W.heap[a.block]? with
  | none => rw [hb] at h; cases h
  | some o =>
    rw [hb] at h
    cases o <;> first | exact ⟨_, _, _, rfl⟩ | cases h
theorem TxA.keepX {W W' : World} {N X : List (Option Nat)} {v : Value} {x : List UInt8} (h : TxA W N v x) (hk : KeepX X W W') (hX : ∀ g, some g ∈ X → some g ∈ N) : TxA W' N v x := by
  obtain ⟨A, c, rfl, h1, h2, h3, h4⟩ := h
  refine ⟨A, c, rfl, h1, h2, fun j y hj => ?_, fun g o e hne => ⟨Nat.lt_of_lt_of_le (h4 g o e hne).1 hk.1, (h4 g o e hne).2⟩⟩
  obtain ⟨g, o, e, hc⟩ := h3 j y hj
  have hne : x ≠ [] := fun e => by rw [e] at hj; simp at hj
  obtain ⟨cs, t, fr, hh⟩ := cells_of_cell hc
  exact ⟨g, o, e, (World.cell?_of_block (w := W) (a := ⟨g, o + j, none⟩) ((hk.2 g cs t fr hh (fun hm => (h4 g o e hne).2 (hX g hm))).trans hh.symm)).trans hc⟩
theorem RowD.keepX {W W' : World} {b : Nat} {row : Value} {l : List (List UInt8)} {X : List (Option Nat)} (h : RowD W b row l) (hk : KeepX X W W') (hX : ∀ g, row.ownBlock = some g → some g ∉ X) : RowD W' b row l := by
  rcases h.2 with h0 | ⟨g, cap, cur, rfl, hb, hh, h3⟩
  · exact ⟨h.1, .inl h0⟩
  · exact ⟨h.1, .inr ⟨g, cap, cur, rfl, hb, hk.2 _ _ _ _ hh (hX g rfl), h3⟩⟩
theorem RowT.keepX {W W' : World} {b : Nat} {row : Value} {l : List Value} {X : List (Option Nat)} (h : RowT W b row l) (hk : KeepX X W W') (hX : ∀ g, row.ownBlock = some g → some g ∉ X) : RowT W' b row l := by
  rcases h.2 with h0 | ⟨g, cap, cur, rfl, hb, hh, h3⟩
  · exact ⟨h.1, .inl h0⟩
  · exact ⟨h.1, .inr ⟨g, cap, cur, rfl, hb, hk.2 _ _ _ _ hh (hX g rfl), h3⟩⟩
theorem WayAt.keepX {w0 W W' : World} {B : Nat} {D T : Value} {ds xs : List (List UInt8)} {ts : List Value} {X X2 : List (Option Nat)} (h : WayAt w0 W B D T ds xs ts X) (hk : KeepX X2 W W') (hsub : ∀ k ∈ X2, k ∈ X) (hB : some B ∉ X2) (hD : ∀ g, D.ownBlock = some g → some g ∉ X2) (hT : ∀ g, T.ownBlock = some g → some g ∉ X2) : WayAt w0 W' B D T ds xs ts X :=
  ⟨hk.2 _ _ _ _ h.cell hB, h.row.keepX hk hD, h.d32, h.rowT.keepX hk hT, h.lt, h.lx, fun i v x h1 h2 => (h.tx i v x h1 h2).keepX hk (fun g hg => by simp [hsub _ hg])⟩
theorem Boxed_keepX {X : List (Option Nat)} {W W' : World} {B : Nat} {t : TypeId} {v : Value} (h : Boxed W B t v) (hk : KeepX X W W') (hB : some B ∉ X) : Boxed W' B t v := hk.2 _ _ _ _ h hB
theorem keepsFrom_only {B : Nat} {own : Nat → Prop} {W W' : World} (ho : Only own W W') (hc : ∀ k, own k → ∀ o, W.heap[k]? = some o → o.isCells = true) : KeepsFrom B W W' :=
  ⟨ho.size, fun k o _ hk hn => (ho.block k (Array.getElem?_eq_some_iff.1 hk).1 (fun hown => by rw [hc k hown o hk] at hn; cases hn)).trans hk⟩

theorem TxA.ne_box {W : World} {N : List (Option Nat)} {v : Value} {x : List UInt8} {g : Nat} {t : TypeId} {bb : Bool} (h : TxA W N v x) (hb : Boxed W g t (.bool bb)) : TxA W (some g :: N) v x := by
  obtain ⟨A, c, rfl, h1, h2, h3, h4⟩ := h
  refine ⟨A, c, rfl, h1, h2, h3, fun g' o e hne => ⟨(h4 g' o e hne).1, fun hm => ?_⟩⟩
  rcases List.mem_cons.1 hm with hm | hm
  · obtain rfl := Option.some.inj hm
    obtain ⟨y, r, rfl⟩ : ∃ y r, x = y :: r := by
      cases x with
      | nil => exact absurd rfl hne
      | cons y r => exact ⟨y, r, rfl⟩
    obtain ⟨g2, o2, e2, hc⟩ := h3 0 y rfl
    rw [e] at e2
    cases e2
    rw [cell_of_row _ _ _ _ _ _ hb] at hc
    cases o with
    | zero => simp [by1] at hc
    | succ o => simp at hc
  · exact (h4 g' o e hne).2 hm
/-- the texts lie in the row -/
theorem texts_lv {W : World} {b k c : Nat} {A : Option Addr} {ts : List Value} {xs : List (List UInt8)} {N : List (Option Nat)} (hr : RowT W b (.slice A k c) ts) (hl : xs.length = ts.length) (ht : ∀ (i : Nat) (v : Value) (x : List UInt8), ts[i]? = some v → xs[i]? = some x → TxA W N v x) : LvAt W A xs := fun j x hx => by
  have hj : j < ts.length := by have := (List.getElem?_eq_some_iff.1 hx).1; omega
  obtain ⟨A2, c2, e, _, _, hre⟩ := hr.form
  injection e with e1 e2 e3
  subst e1
  obtain ⟨g8, e8, hc8⟩ := hre j _ (List.getElem?_eq_getElem hj)
  obtain ⟨At, ct, ev, t1, t2, t3, _⟩ := ht j _ x (List.getElem?_eq_getElem hj) hx
  rw [ev] at hc8
  exact ⟨g8, 0, At, ct, e8, by rw [Nat.zero_add]; exact hc8, t1, t2, t3⟩

/-- what holds ahead of a round of climb -/
structure ClI (w : World) (b n i : Nat) (d0 t0 : List UInt8) (path : List (List UInt8)) (F : Value) (pre : List (Bool × Bool)) (W : World) (n' i' : Nat) (p' : List (List UInt8)) (A' : Option Addr) (k' c' : Nat) (D T : Value) (acc : List (List UInt8 × List UInt8)) (ts : List Value) (dl : List UInt8) : Prop where
  st : stepsM n i = pre ++ stepsM n' i'
  nn : n' ≤ 65536
  ni : i' ≤ 65536
  wy : wayM n i d0 path = (wayM n' i' dl p').map (acc ++ ·)
  la : (d0 :: acc.map (·.1)).getLast? = some dl
  p32 : ∀ d ∈ p', d.length = 32
  lp : p'.length = k'
  bp : Boxed W w.heap.size 31 (.slice A' k' c')
  hc : k' ≤ c'
  ap : DsAt w A' p'
  way : WayAt w W (w.heap.size + 1) D T (d0 :: acc.map (·.1)) (t0 :: acc.map (·.2)) ts [some b, some (b + 1), some w.heap.size]
  br : Boxed W (w.heap.size + 1 + 1) 4 (.bool false)
  bf : Boxed W (w.heap.size + 1 + 1 + 1) 115 F
  bw : Below w.heap.size w W
  sz : b + 2 ≤ W.heap.size
  hb : w.heap.size + 4 ≤ b
  nD : ∀ k, D.ownBlock = some k → k ≠ b ∧ k ≠ b + 1
  nT : ∀ k, T.ownBlock = some k → k ≠ b ∧ k ≠ b + 1
  al : acc.length = pre.length
theorem ClI.keepX {w : World} {b n i : Nat} {d0 t0 : List UInt8} {path : List (List UInt8)} {F : Value} {pre : List (Bool × Bool)} {W W' : World} {n' i' : Nat} {p' : List (List UInt8)} {A' : Option Addr} {k' c' : Nat} {D T : Value} {acc : List (List UInt8 × List UInt8)} {ts : List Value} {dl : List UInt8}
    (h : ClI w b n i d0 t0 path F pre W n' i' p' A' k' c' D T acc ts dl) (hk : KeepX [some b, some (b + 1)] W W') (hB : Below w.heap.size w W') : ClI w b n i d0 t0 path F pre W' n' i' p' A' k' c' D T acc ts dl := by
  have hb := h.hb
  have nx : ∀ k, k ≠ b ∧ k ≠ b + 1 → some k ∉ [some b, some (b + 1)] := fun k hk => by simp; omega
  exact { h with
    bp := Boxed_keepX h.bp hk (nx _ (by omega)), way := h.way.keepX hk (fun k hk => by simp at hk ⊢; rcases hk with h | h <;> simp [h]) (nx _ (by omega)) (fun g e => nx g (h.nD g e)) (fun g e => nx g (h.nT g e)), br := Boxed_keepX h.br hk (nx _ (by omega)), bf := Boxed_keepX h.bf hk (nx _ (by omega)),
    bw := hB, sz := Nat.le_trans h.sz hk.1 }
/-- a round that goes on: the way has grown -/
theorem ClI.next {w : World} {b n i : Nat} {d0 t0 : List UInt8} {path : List (List UInt8)} {F : Value} {pre : List (Bool × Bool)} {W W' : World} {n' i' : Nat} {p' : List (List UInt8)} {A' : Option Addr} {k' c' : Nat} {D T : Value} {acc : List (List UInt8 × List UInt8)} {ts : List Value} {dl : List UInt8}
    (h : ClI w b n i d0 t0 path F pre W n' i' p' A' k' c' D T acc ts dl) (x : Bool × Bool) (h1 : 1 < n') (hx : stepsM n' i' = x :: stepsM ((n' + 1) / 2) (i' / 2)) (p2 : List (List UInt8)) (A2 : Option Addr) (k2 c2 : Nat) (D2 T2 : Value) (t d : List UInt8) (v : Value)
    (hwy : wayM n' i' dl p' = (wayM ((n' + 1) / 2) (i' / 2) d p2).map ((d, t) :: ·)) (hp2 : ∀ d ∈ p2, d.length = 32) (hl2 : p2.length = k2) (hbp : Boxed W' w.heap.size 31 (.slice A2 k2 c2)) (hc2 : k2 ≤ c2) (ha2 : DsAt w A2 p2)
    (hway : WayAt w W' (w.heap.size + 1) D2 T2 ((d0 :: acc.map (·.1)) ++ [d]) ((t0 :: acc.map (·.2)) ++ [t]) (ts ++ [v]) [some b, some (b + 1), some w.heap.size])
    (hbr : Boxed W' (w.heap.size + 1 + 1) 4 (.bool false)) (hbf : Boxed W' (w.heap.size + 1 + 1 + 1) 115 F) (hbw : Below w.heap.size w W') (hsz : W.heap.size ≤ W'.heap.size)
    (hD : ∀ k, D2.ownBlock = some k → D.ownBlock = some k ∨ W.heap.size ≤ k) (hT : ∀ k, T2.ownBlock = some k → T.ownBlock = some k ∨ W.heap.size ≤ k) :
    ClI w b n i d0 t0 path F (pre ++ [x]) W' ((n' + 1) / 2) (i' / 2) p2 A2 k2 c2 D2 T2 (acc ++ [(d, t)]) (ts ++ [v]) d := by
  have hs := h.sz
  have hn := h.nn
  have hi := h.ni
  exact ⟨by rw [h.st, hx]; simp, by omega, by omega, by rw [h.wy, hwy, Option.map_map]; congr 1; funext l; simp, by rw [show d0 :: (acc ++ [(d, t)]).map (·.1) = (d0 :: acc.map (·.1)) ++ [d] by simp]; exact List.getLast?_concat, hp2, hl2, hbp, hc2, ha2, by simpa using hway, hbr, hbf, hbw, Nat.le_trans hs hsz, h.hb,
    fun k e => by rcases hD k e with h1 | h1; exact h.nD k h1; omega, fun k e => by rcases hT k e with h1 | h1; exact h.nT k h1; omega, by simp [h.al]⟩
/-- the end of a round that goes on -/
theorem climb_fin {w : World} {b n i : Nat} {d0 t0 : List UInt8} {path : List (List UInt8)} {F : Value} {pre : List (Bool × Bool)} {W V w7 w8 : World} {n' i' : Nat} {p' : List (List UInt8)} {A' : Option Addr} {k' c' : Nat} {D T : Value} {acc : List (List UInt8 × List UInt8)} {ts : List Value} {dl : List UInt8} (Bz : Nat)
    (h : ClI w b n i d0 t0 path F pre W n' i' p' A' k' c' D T acc ts dl) (x : Bool × Bool) (h1 : 1 < n') (hx : stepsM n' i' = x :: stepsM ((n' + 1) / 2) (i' / 2)) (hWV : Below W.heap.size W V) (hon : Only (wyOwn (w.heap.size + 1) D T) V w7) (D2 T2 : Value) (t d : List UInt8) (v : Value)
    (hway : WayAt w w7 (w.heap.size + 1) D2 T2 ((d0 :: acc.map (·.1)) ++ [d]) ((t0 :: acc.map (·.2)) ++ [t]) (ts ++ [v]) [some b, some (b + 1), some w.heap.size])
    (hD : ∀ k, D2.ownBlock = some k → D.ownBlock = some k ∨ V.heap.size ≤ k) (hT : ∀ k, T2.ownBlock = some k → T.ownBlock = some k ∨ V.heap.size ≤ k)
    (p2 : List (List UInt8)) (A2 : Option Addr) (k2 c2 : Nat) (hwy : wayM n' i' dl p' = (wayM ((n' + 1) / 2) (i' / 2) d p2).map ((d, t) :: ·)) (hp2 : ∀ d ∈ p2, d.length = 32) (hl2 : p2.length = k2) (hc2 : k2 ≤ c2) (ha2 : DsAt w A2 p2)
    (h8 : Only (fun k => k = w.heap.size) w7 w8) (hb8 : Boxed w8 w.heap.size 31 (.slice A2 k2 c2)) :
    KeepsFrom Bz W w8 ∧ stKp b W w8 ∧ ClI w b n i d0 t0 path F (pre ++ [x]) w8 ((n' + 1) / 2) (i' / 2) p2 A2 k2 c2 D2 T2 (acc ++ [(d, t)]) (ts ++ [v]) d := by
  have hs := h.sz
  have hb := h.hb
  have hVs := hWV.size
  have h7s := hon.size
  have h8s := h8.size
  have nW : ∀ k, wyOwn (w.heap.size + 1) D T k → ∃ cs t fr, W.heap[k]? = some (.cells cs t fr) := fun k e => by
    rcases e with rfl | e | e
    · exact ⟨_, _, _, h.way.cell⟩
    · obtain ⟨cs, hc⟩ := h.way.row.at e; exact ⟨_, _, _, hc⟩
    · obtain ⟨cs, hc⟩ := h.way.rowT.at e; exact ⟨_, _, _, hc⟩
  have nDT : ∀ (k : Nat) (cs : Array Value) (ty : TypeId) (fr : Nat × Nat), W.heap[k]? = some (.cells cs ty fr) → ty ≠ 23 → ty ≠ 48 → k ≠ w.heap.size + 1 → ¬ wyOwn (w.heap.size + 1) D T k := fun k cs ty fr hk h2 h3 h4 e => by
    rcases e with e | e | e
    · exact h4 e
    · exact h.way.row.neT (b' := 0) hk h2 e
    · exact h.way.rowT.neT hk h3 e
  have keep : ∀ (k : Nat), k < W.heap.size → ¬ wyOwn (w.heap.size + 1) D T k → k ≠ w.heap.size → w8.heap[k]? = W.heap[k]? := fun k hk hn hne => (h8.block k (by omega) hne).trans ((hon.block k (by omega) hn).trans (hWV.block k hk))
  have hbr : Boxed w8 (w.heap.size + 1 + 1) 4 (.bool false) := (keep _ h.br.lt (nDT _ _ _ _ h.br (by decide) (by decide) (by omega)) (by omega)).trans h.br
  have hbf : Boxed w8 (w.heap.size + 1 + 1 + 1) 115 F := (keep _ h.bf.lt (nDT _ _ _ _ h.bf (by decide) (by decide) (by omega)) (by omega)).trans h.bf
  have hbp7 : Boxed w7 w.heap.size 31 (.slice A' k' c') := (hon.block _ (by omega) (nDT _ _ _ _ h.bp (by decide) (by decide) (by omega))).trans ((hWV.block _ (by omega)).trans h.bp)
  have hB7 : Below w.heap.size w w7 := (h.bw.trans (hWV.mono h.bw.size)).trans (hon.below (by have := h.bw.size; omega) (fun k hk e => by
    rcases e with e | e | e
    · omega
    · have := (h.way.row.high e).1; omega
    · have := (h.way.rowT.high e).1; omega))
  have hB8 : Below w.heap.size w w8 := hB7.trans (h8.below hB7.size (fun k hk e => by omega))
  have hk8 : KeepX [some w.heap.size] w7 w8 := ⟨h8s, fun g cs t fr hg hn => (h8.block g (Array.getElem?_eq_some_iff.1 hg).1 (fun e => hn (by simp [e]))).trans hg⟩
  have hway8 := hway.keepX hk8 (fun k hk => by simp at hk; subst hk; simp) (by simp) (fun g e hm => by
    have : g = w.heap.size := by simpa using hm
    subst this
    exact hway.row.neT (b' := 0) hbp7 (by decide) e) (fun g e hm => by
    have : g = w.heap.size := by simpa using hm
    subst this
    exact hway.rowT.neT hbp7 (by decide) e)
  refine ⟨⟨by omega, fun k o _ hk hn => (keep k (Array.getElem?_eq_some_iff.1 hk).1 (fun e => ?_) (fun e => ?_)).trans hk⟩, ⟨by omega, keep b (by omega) (fun e => ?_) (by omega), keep (b + 1) (by omega) (fun e => ?_) (by omega)⟩, h.next x h1 hx p2 A2 k2 c2 D2 T2 t d v hwy hp2 hl2 hb8 hc2 ha2 hway8 hbr hbf hB8 (by omega) (fun k e => ?_) (fun k e => ?_)⟩
  · obtain ⟨cs, t, fr, hc⟩ := nW k e
    rw [hk] at hc
    obtain rfl := Option.some.inj hc
    cases hn
  · subst e
    rw [show W.heap[w.heap.size]? = _ from h.bp] at hk
    obtain rfl := Option.some.inj hk
    cases hn
  · rcases e with e | e | e
    · omega
    · exact (h.nD _ e).1 rfl
    · exact (h.nT _ e).1 rfl
  · rcases e with e | e | e
    · omega
    · exact (h.nD _ e).2 rfl
    · exact (h.nT _ e).2 rfl
  · rcases hD k e with h | h
    · exact .inl h
    · exact .inr (by omega)
  · rcases hT k e with h | h
    · exact .inl h
    · exact .inr (by omega)
/-- the way of a leaf that is alone has grown -/
theorem way_alone {w0 W w2 : World} {B : Nat} {D T D2 T2 : Value} {ds xs : List (List UInt8)} {ts : List Value} {X : List (Option Nat)} {d : List UInt8} (hX : ∀ k, some k ∈ X → k < W.heap.size) (h : WayAt w0 W B D T ds xs ts X) (hd : d.length = 32)
    (ho : Only (fun k => D.ownBlock = some k ∨ T.ownBlock = some k) W w2) (hrow : RowD w2 w0.heap.size D2 (ds ++ [d])) (hrowT : RowT w2 w0.heap.size T2 (ts ++ [.slice none 0 0]))
    (hD : ∀ k, D2.ownBlock = some k → D.ownBlock = some k ∨ W.heap.size ≤ k) (hT : ∀ k, T2.ownBlock = some k → T.ownBlock = some k ∨ W.heap.size ≤ k) :
    WayAt w0 ((w2.setCell ⟨B, 1, none⟩ T2).setCell ⟨B, 0, none⟩ D2) B D2 T2 (ds ++ [d]) (xs ++ [[]]) (ts ++ [.slice none 0 0]) X ∧ Only (wyOwn B D T) W ((w2.setCell ⟨B, 1, none⟩ T2).setCell ⟨B, 0, none⟩ D2) := by
  have hneD : D.ownBlock ≠ some B := h.row.neT (b' := 0) h.cell (by decide)
  have hneT : T.ownBlock ≠ some B := h.rowT.neT h.cell (by decide)
  have hBlt : B < W.heap.size := (Array.getElem?_eq_some_iff.1 h.cell).1
  have hc2 : w2.heap[B]? = some (.cells #[D, T] 89 (0, 0)) := (ho.block B hBlt (fun e => by rcases e with e | e; exact hneD e; exact hneT e)).trans h.cell
  have hD2B : D2.ownBlock ≠ some B := hrow.neT (b' := 0) hc2 (by decide)
  have hT2B : T2.ownBlock ≠ some B := hrowT.neT hc2 (by decide)
  have g1 : w2.grownBy (w2.setCell ⟨B, 1, none⟩ T2) (some B) := setCell_grown w2 B 1 T2
  have g2 : (w2.setCell ⟨B, 1, none⟩ T2).grownBy ((w2.setCell ⟨B, 1, none⟩ T2).setCell ⟨B, 0, none⟩ D2) (some B) := setCell_grown _ B 0 D2
  have g := grown_trans g1 g2
  refine ⟨⟨way_set0 D2 (way_set1 T2 hc2), hrow.keptG g (fun k e h => by rw [← h] at e; exact hD2B e), fun y hy => ?_, hrowT.keptG g (fun k e h => by rw [← h] at e; exact hT2B e), by simp [h.lt], by simp [h.lx], fun j v x hv hx => ?_⟩, ?_⟩
  · rcases List.mem_append.1 hy with h1 | h1
    · exact h.d32 y h1
    · simp at h1; subst h1; exact hd
  · by_cases hj : j < ts.length
    · rw [List.getElem?_append_left hj] at hv
      rw [List.getElem?_append_left (by have := h.lt; have := h.lx; omega)] at hx
      have ht := h.tx j v x hv hx
      obtain ⟨A, c, rfl, h1, h2, h3, h4⟩ := ht
      refine ⟨A, c, rfl, h1, h2, fun q y hq => ?_, fun g' o e hne => ⟨Nat.lt_of_lt_of_le (h4 g' o e hne).1 (Nat.le_trans ho.size g.size), fun hm => ?_⟩⟩
      · obtain ⟨g', o, e, hc⟩ := h3 q y hq
        have hne : x ≠ [] := fun e => by rw [e] at hq; simp at hq
        obtain ⟨hlt, hn⟩ := h4 g' o e hne
        refine ⟨g', o, e, (World.cell?_of_block (w := W) (a := ⟨g', o + q, none⟩) ?_).trans hc⟩
        refine (g.block g' (Nat.lt_of_lt_of_le hlt ho.size) (fun e => hn (by rw [e]; simp))).trans (ho.block g' hlt (fun e => hn ?_))
        rcases e with e | e
        · rw [← e]; simp
        · rw [← e]; simp
      · obtain ⟨hlt, hn⟩ := h4 g' o e hne
        simp only [List.mem_cons] at hm hn
        rcases hm with e | e | e | e
        · rcases hD g' e.symm with h | h
          · exact hn (.inl h.symm)
          · omega
        · rcases hT g' e.symm with h | h
          · exact hn (.inr (.inl h.symm))
          · omega
        · exact hn (.inr (.inr (.inl e)))
        · exact hn (.inr (.inr (.inr e)))
    · have hj2 : j = ts.length := by
        have := (List.getElem?_eq_some_iff.1 hv).1
        simp at this; omega
      subst hj2
      rw [List.getElem?_append_right (Nat.le_refl _), Nat.sub_self] at hv
      rw [List.getElem?_append_right (by have := h.lt; have := h.lx; omega), show ts.length - xs.length = 0 by have := h.lt; have := h.lx; omega] at hx
      obtain rfl := Option.some.inj hv
      obtain rfl := Option.some.inj hx
      exact ⟨none, 0, rfl, Nat.le_refl _, by omega, fun q y hq => by simp at hq, fun g' o e => by cases e⟩
  · refine ⟨g.os.trans ho.os, g.tape.trans ho.tape, g.output.trans ho.output, Nat.le_trans ho.size g.size, fun k hk hno => (g.block k (Nat.lt_of_lt_of_le hk ho.size) (fun e => hno (.inl (Option.some.inj e)))).trans (ho.block k hk (fun e => hno (.inr e)))⟩
end Go.Proofs.YtnccbhndlnkboaaDoor
