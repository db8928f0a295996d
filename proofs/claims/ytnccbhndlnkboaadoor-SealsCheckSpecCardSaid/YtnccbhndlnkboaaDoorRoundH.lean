/- A region that draws its order, within a round of a range over a function: walked as outside of one. -/
import Derived.Test.YtnccbhndlnkboaaDoorRoundR
import Derived.Test.YtnccbhndlnkboaaDoorMoreA
namespace Go.Proofs.YtnccbhndlnkboaaDoor
open Go Go.RowKit
set_option linter.unusedVariables false
set_option linter.unusedSimpArgs false

/-- the end of the text alone -/
def npQ (Q : Exit → Act → World → Prop) (e : Exit) (a : Act) (w : World) : Prop := match e with
  | .normal => Q .normal a w
  | _ => False
theorem np_normal {Q : Exit → Act → World → Prop} {a : Act} {w : World} (h : Q .normal a w) : npQ Q .normal a w := h
theorem wpIn_np {F : Fence} {n : Nat} {P : Program} {c : Code} {Q : Exit → Act → World → Prop} {a : Act} {w : World} (h : c.wpIn F n P (npQ Q) a w) : c.wpIn F n P Q a w :=
  Code.wpIn_mono (Q := npQ Q) (fun e a w h => by cases e <;> first | exact h | exact h.elim) h

/-- no way out of the model -/
def strictQ (Q : Exit → Act → World → Prop) (e : Exit) (a : Act) (w : World) : Prop := match e with
  | .outgrown => False
  | e => Q e a w
theorem strictQ_out (Q : Exit → Act → World → Prop) : ¬ LetsOut (strictQ Q) := fun ⟨_, _, h⟩ => h
theorem strictQ_of {Q : Exit → Act → World → Prop} {e : Exit} {a : Act} {w : World} (h : strictQ Q e a w) : Q e a w := by
  cases e <;> first | exact h | exact h.elim

theorem strict_normal {Q : Exit → Act → World → Prop} {a : Act} {w : World} (h : Q .normal a w) : strictQ Q .normal a w := h
theorem wpAnyIn_of_any {n : Nat} {P : Program} {md : Region.Mode} {ops : Array Oper} {Q : Exit → Act → World → Prop} (hlo : ¬ LetsOut Q) :
    ∀ (fuel : Nat) (listed : Array Bool) (a : Act) (w : World), wpAny P md ops Q fuel listed a w → wpAnyIn Fence.wide n P md ops Q fuel listed a w
  | 0, _, _, _, h => h
  | fuel + 1, listed, a, w, h => by
    refine ⟨h.1, fun i hi => ?_⟩
    have h1 := h.2 i hi
    unfold wpOp at h1
    unfold wpOpIn
    cases ho : ops[i]? with
    | none => rw [ho] at h1; exact wpAnyIn_of_any hlo _ _ _ _ h1
    | some o =>
      rw [ho] at h1
      dsimp only at h1 ⊢
      split
      · rename_i hw
        rw [if_pos hw] at h1
        rcases h1 with h1 | ⟨_, h1⟩
        · exact Oper.wpIn_of_wp (Oper.wp_mono (fun a w => wpAnyIn_of_any hlo _ _ a w) h1)
        · exact absurd h1 hlo
      · rename_i hw
        rw [if_neg hw] at h1
        exact ⟨fun _ _ => trivial, wpAnyIn_of_any hlo _ _ _ _ h1⟩

theorem wpIn_round_any {n : Nat} {P : Program} {id r : Nat} {Q : Exit → Act → World → Prop} {a : Act} {w : World} {l : List Oper} (hm : P.follows .mixedOrders = true) (hnd : noDefer l = true)
    (h : wpAny P .any l.toArray (strictQ Q) l.toArray.size (Array.replicate l.toArray.size false) a w.drew) : (Code.region id l.toArray true).wpIn (Fence.wide.inRound r) n P Q a w :=
  Code.wpIn_mono (Q := strictQ Q) (fun _ _ _ => strictQ_of) (wpIn_region_any hm (wpAnyIn_inRound r rfl (fun i o c ho => noDefer_at hnd i o ho c) _ _ _ _ (wpAnyIn_of_any (strictQ_out Q) _ _ _ _ h)))
theorem wpIn_round_held {n : Nat} {P : Program} {id r : Nat} {Q : Exit → Act → World → Prop} {a : Act} {w : World} {l : List Oper} (S : World → Prop) (hm : P.follows .mixedOrders = true) (hnd : noDefer l = true) (hS : S w.drew)
    (h : S w.drew → wpAnyH P .any l.toArray (strictQ Q) S l.toArray.size (Array.replicate l.toArray.size false) a w.drew) : (Code.region id l.toArray true).wpIn (Fence.wide.inRound r) n P Q a w :=
  wpIn_round_any hm hnd (wpAny_of_held _ _ _ _ (h hS))
theorem wpIn_round_T {n : Nat} {P : Program} {id r : Nat} {Q : Exit → Act → World → Prop} {a : Act} {w : World} {l : List Oper} (z : Nat) (S : World → Prop) (hm : P.follows .mixedOrders = true) (hnd : noDefer l = true) (hS : S w.drew)
    (h : S w.drew → wpAnyT P .any l.toArray (strictQ Q) S z l.toArray.size (Array.replicate l.toArray.size false) a w.drew) : (Code.region id l.toArray true).wpIn (Fence.wide.inRound r) n P Q a w :=
  wpIn_round_any hm hnd (wpAny_of_T _ _ _ _ (h hS))
end Go.Proofs.YtnccbhndlnkboaaDoor
