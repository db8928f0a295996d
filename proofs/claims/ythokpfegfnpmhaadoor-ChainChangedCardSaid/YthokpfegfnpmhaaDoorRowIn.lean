/- An operation's plain walk serves inside the widest fence, and in a round of a range over a function. -/
import Derived.Test.YthokpfegfnpmhaaDoorRowLaw
import Derived.Test.YthokpfegfnpmhaaDoorRoundQ
import Derived.TacticsInMore
import Derived.Deep.MidRow
namespace Go
open Go.RowKit
set_option linter.unusedVariables false
set_option linter.unusedSimpArgs false

theorem Oper.wpIn_of_wp {n : Nat} {P : Program} {o : Oper} {a : Act} {w : World} {K : Act → World → Prop} {Q : Exit → Act → World → Prop} (h : o.wp P a w K Q) : o.wpIn Fence.wide n P a w K Q := by
  refine ⟨fun _ _ => trivial, ?_⟩
  have e : Fence.wide.round = none := rfl
  rw [e, Oper.semAt_none]
  unfold Oper.wp at h
  generalize (execOp a.eval o).run P w = r at *
  cases r with
  | ok x w' =>
    cases x <;> simp only [Oper.upon, Oper.uponIn] at h ⊢ <;> first
      | exact h
      | exact ⟨fun hd => by simp [Fence.wide] at hd, callsIn_wide.2 h⟩
      | exact ⟨fun hd => by simp [Fence.wide] at hd, fun c cs _ => let ⟨v, w', r, s⟩ := h c cs; ⟨v, w', r, stepsIn_wide.2 s⟩⟩
  | halt x w' => cases x <;> simp only [Oper.upon, Oper.uponIn] at h ⊢ <;> exact h

theorem wpListIn_of_wp {n : Nat} {P : Program} {ops : Array Oper} {Q : Exit → Act → World → Prop} {a : Act} {w : World} {rest : List Oper} {o : Oper} (hgd : o.guard = none)
    (h : o.wp P a w (wpListIn Fence.wide n P ops Q rest) Q) : wpListIn Fence.wide n P ops Q (o :: rest) a w := by
  unfold wpListIn
  rw [if_pos (by simp [Region.wanted, hgd])]
  exact Oper.wpIn_of_wp h
theorem wpListIn_round_of_wp {n l : Nat} {P : Program} {ops : Array Oper} {Q : Exit → Act → World → Prop} {a : Act} {w : World} {rest : List Oper} {o : Oper} (hgd : o.guard = none) (hnd : ∀ c, o.op ≠ .defer c)
    (h : o.wp P a w (wpListIn (Fence.wide.inRound l) n P ops Q rest) Q) : wpListIn (Fence.wide.inRound l) n P ops Q (o :: rest) a w := by
  unfold wpListIn
  rw [if_pos (by simp [Region.wanted, hgd])]
  exact Oper.wpIn_inRound l rfl hnd (fun _ _ h => h) (Oper.wpIn_of_wp h)

/-- a row is stored into the block that has just been made -/
theorem wp_new_row' {P : Program} {o : Oper} {a : Act} {w0 : World} {K : Act → World → Prop} {Q : Exit → Act → World → Prop} (ty : TypeId) (x y : Operand) (ho : o.op = .store ty x y) (hd : o.dst = none)
    (D : Array Value) (g : Nat) (hx : a.eval x = .pointer (some ⟨g, 0, none⟩)) (hg : g = w0.heap.size) (hy : a.eval y = .agg D) (t : TypeId) (z : Array Value) (hi : (P.info? ty).map (·.size) = some D.size) (hz : z.size = D.size) (h1 : D.all (·.oneCell') = true)
    (h : ∀ W : World, W.heap[g]? = some (.cells D t (0, 0)) → W.heap.size = g + 1 → Below g w0 W → K a W) : o.wp P a (w0.alloc (.cells z t)) K Q := by
  subst hg
  refine wp_store_row ty x y ho w0.heap.size D hx hy t z (heap_alloc_new w0 _) hi hz h1 ?_
  rw [hd]
  refine h _ (setRow_heap _ _ z D t _ (heap_alloc_new w0 _)) ?_ (below_setRow ((Below.refl _ _).alloc (Nat.le_refl _) _) (Nat.le_refl _) _)
  simp [World.setRow]

/-- a row is read in a plain quiet walk -/
theorem quiet_load_mid {P : Program} {C : World → Prop} {op : Oper} {a : Act} {K : Act → Prop} (ty : TypeId) (x : Operand) (ho : op.op = .load ty x)
    (b o : Nat) (hx : a.eval x = .pointer (some ⟨b, o, none⟩)) (cs : List Value) (d : TypeDesc) (hc : ∀ w, C w → w.rangeAt b o cs)
    (hu : P.underlying ty = some d) (hd : d.isRow = true) (hi : (P.info? ty).map (·.size) = some cs.length)
    (hk : K (a.put op.dst (.agg cs.toArray))) : op.quiet P a C K :=
  ⟨_, fun w hw => by
    unfold Oper.quietAt execOp
    simp only [ho, hx, Instr.loadAt, Instr.sureAddr, Sem.run_bind, Sem.run_pure, Result.andThen_ok, run_loadVar_mid w b o ty cs d (hc w hw) hu hd hi]
    exact ⟨rfl, rfl⟩, hk⟩
/-- a row is read in a quiet walk -/
theorem quietIn_load_mid {F : Fence} {n : Nat} {P : Program} {C : World → Prop} {op : Oper} {a : Act} {K : Act → Prop} (ty : TypeId) (x : Operand) (ho : op.op = .load ty x)
    (b o : Nat) (hx : a.eval x = .pointer (some ⟨b, o, none⟩)) (cs : List Value) (d : TypeDesc) (hc : ∀ w, C w → w.rangeAt b o cs)
    (hu : P.underlying ty = some d) (hd : d.isRow = true) (hi : (P.info? ty).map (·.size) = some cs.length)
    (hk : K (a.put op.dst (.agg cs.toArray))) : op.quietIn F n P a C K :=
  ⟨_, fun w hw => by
    unfold Oper.quietAtIn execOp
    simp only [ho, hx, Instr.loadAt, Instr.sureAddr, Sem.run_bind, Sem.run_pure, Result.andThen_ok, run_loadVar_mid w b o ty cs d (hc w hw) hu hd hi]
    exact ⟨rfl, rfl⟩, hk⟩
end Go
