/- A region that draws its order: operations that may all come up now and that yield, in every world of a class, one value each: one walk serves their orders. -/
import Derived.OrdersHeld
import Derived.Deep.RegionHeld
import Derived.Deep.Quiet
namespace Go.Proofs.YtnccbhndlnkboaaDoor
open Go
set_option linter.unusedVariables false
set_option linter.unusedSimpArgs false
section
variable {P : Program} {ops : Array Oper} {Q : Exit → Act → World → Prop} {md : Region.Mode} {S C : World → Prop}

/-- the operations G, and they alone, come up, one after another, in whatever order -/
def grpOk (md : Region.Mode) (ops : Array Oper) : Nat → List Nat → Array Bool → Bool
  | 0, _, _ => true
  | n + 1, G, listed => decide (Region.ready md ops listed = G) && G.all fun i => grpOk md ops n (G.erase i) (listed.setIfInBounds i true)

def setG (listed : Array Bool) (G : List (Nat × Oper × Value)) : Array Bool := G.foldl (fun l x => l.setIfInBounds x.1 true) listed
def putG (a : Act) (G : List (Nat × Oper × Value)) : Act := G.foldl (fun a x => a.put x.2.1.dst x.2.2) a

theorem set_comm_true (l : Array Bool) (i j : Nat) : (l.setIfInBounds i true).setIfInBounds j true = (l.setIfInBounds j true).setIfInBounds i true := by
  by_cases h : i = j
  · rw [h]
  · exact Array.setIfInBounds_comm _ _ h

theorem wpAnyH_grp (hCS : ∀ w, C w → S w) (fuel : Nat) : ∀ (n : Nat) (G : List (Nat × Oper × Value)) (listed : Array Bool) (a : Act) (w : World), G.length = n → C w →
    grpOk md ops n (G.map (·.1)) listed = true → (G.map (·.1)).Nodup →
    (∀ x ∈ G, ops[x.1]? = some x.2.1 ∧ YieldsIn P ops C x.2.1 x.2.2 a ∧ ∀ cs b, x.2.1.op ≠ .select cs b) →
    (∀ x ∈ G, ∀ y ∈ G, x.1 ≠ y.1 → x.2.1.apart ops y.2.1 = true) →
    (∀ w', C w' → wpAnyH P md ops Q S fuel (setG listed G) (putG a G) w') → wpAnyH P md ops Q S (fuel + n) listed a w
  | 0, G, listed, a, w, hn, hC, _, _, _, _, H => by
    obtain rfl := List.length_eq_zero_iff.1 hn
    exact H w hC
  | n + 1, G, listed, a, w, hn, hC, hok, hnd, hy, hap, H => by
    simp only [grpOk, Bool.and_eq_true, decide_eq_true_eq, List.all_eq_true] at hok
    obtain ⟨hr, hall⟩ := hok
    refine wpAnyH_all (rs := G.map (·.1)) hr (fun e => by have := congrArg List.length e; simp at this; simp [this] at hn) fun i hi => ?_
    obtain ⟨x, hx, rfl⟩ := List.mem_map.1 hi
    obtain ⟨h1, h2, h3⟩ := hy x hx
    obtain ⟨s, t, rfl⟩ := List.append_of_mem hx
    have hxs : x.1 ∉ s.map (·.1) := fun hm => by
      rw [List.map_append, List.map_cons] at hnd
      exact (List.nodup_append.1 hnd).2.2 x.1 hm x.1 (by simp) rfl
    have hperm : (s ++ x :: t).Perm (x :: (s ++ t)) := List.perm_middle
    have hne : ∀ y ∈ s ++ t, x.1 ≠ y.1 := fun y hy' e => by
      have hn2 := (hperm.map (·.1)).nodup_iff.1 hnd
      rw [List.map_cons, List.nodup_cons] at hn2
      exact hn2.1 (List.mem_map.2 ⟨y, hy', e.symm⟩)
    have hmem : ∀ y ∈ s ++ t, y ∈ s ++ x :: t := fun y hy' => hperm.mem_iff.2 (by simp only [List.mem_cons]; exact .inr hy')
    refine wpOp_of_qOp (C := C) hC (K := fun a' => a' = a.put x.2.1.dst x.2.2) (fun a' w' hw' he => ?_) (h2.qOp h1 rfl)
    subst he
    refine ⟨hCS _ hw', wpAnyH_grp hCS fuel n (s ++ t) _ _ w' ?_ hw' ?_ ?_ (fun y hy' => ?_) (fun y hy' z hz' => hap y (hmem y hy') z (hmem z hz')) (fun w2 hw2 => ?_)⟩
    · simp at hn ⊢; omega
    · have := hall x.1 hi
      rw [List.map_append, List.map_cons, List.erase_append_right _ hxs, List.erase_cons_head] at this
      rw [List.map_append]
      exact this
    · have hn2 := (hperm.map (·.1)).nodup_iff.1 hnd
      rw [List.map_cons, List.nodup_cons] at hn2
      exact hn2.2
    · obtain ⟨g1, g2, g3⟩ := hy y (hmem y hy')
      obtain ⟨k1, k2, k3⟩ := Oper.apart_spec (hap x hx y (hmem y hy') (hne y hy'))
      exact ⟨g1, g2.of_same (execOp_put y.2.1 g3 a x.2.1.dst x.2.2 k1) (wanted_put y.2.1 a x.2.1.dst x.2.2 k1), g3⟩
    · have e1 : setG (listed.setIfInBounds x.1 true) (s ++ t) = setG listed (s ++ x :: t) := by
        unfold setG
        rw [hperm.foldl_eq' (fun y _ z _ l => set_comm_true l y.1 z.1)]
        rfl
      have e2 : putG (a.put x.2.1.dst x.2.2) (s ++ t) = putG a (s ++ x :: t) := by
        unfold putG
        rw [hperm.foldl_eq' (fun y hy' z hz' b => ?_)]
        · rfl
        · by_cases hyz : y.1 = z.1
          · obtain ⟨g1, _⟩ := hy y hy'
            have hyz2 : y = z := by
              rcases List.getElem_of_mem hy' with ⟨p, hp, rfl⟩
              rcases List.getElem_of_mem hz' with ⟨q, hq, rfl⟩
              have : p = q := by
                have hlen : p < ((s ++ x :: t).map (·.1)).length := by simpa using hp
                have hlen2 : q < ((s ++ x :: t).map (·.1)).length := by simpa using hq
                exact (List.getElem_inj hnd (h₀ := hlen) (h₁ := hlen2)).1 (by rw [List.getElem_map, List.getElem_map]; exact hyz)
              subst this
              rfl
            rw [hyz2]
          · obtain ⟨k1, k2, k3⟩ := Oper.apart_spec (hap y hy' z hz' hyz)
            exact Act.put_comm b y.2.2 z.2.2 k2
      rw [e1, e2]
      exact H w2 hw2

def aparts (ops : Array Oper) (G : List Oper) : Bool := match G with
  | [] => true
  | x :: r => (r.all fun y => x.apart ops y && y.apart ops x) && aparts ops r
theorem wpAnyH_group (G : List (Nat × Oper × Value)) {fuel : Nat} {listed : Array Bool} {a : Act} {w : World} (C : World → Prop) (hCS : ∀ w, C w → S w) (hC : C w)
    (hok : grpOk md ops G.length (G.map (·.1)) listed = true) (hnd : decide (G.map (·.1)).Nodup = true)
    (hat : ∀ x ∈ G, ops[x.1]? = some x.2.1) (hsel : Region.noSelect ops = true)
    (hap : ∀ x ∈ G, ∀ y ∈ G, x.1 ≠ y.1 → x.2.1.apart ops y.2.1 = true)
    (hy : ∀ x ∈ G, YieldsIn P ops C x.2.1 x.2.2 a)
    (H : ∀ w', C w' → wpAnyH P md ops Q S fuel (setG listed G) (putG a G) w') : wpAnyH P md ops Q S (fuel + G.length) listed a w :=
  wpAnyH_grp hCS fuel G.length G listed a w rfl hC hok (of_decide_eq_true hnd) (fun x hx => ⟨hat x hx, hy x hx, fun cs b => Region.noSelect_spec hsel _ _ cs b (hat x hx)⟩) hap H

/-- a call whose contract gives one value in every world of the class -/
theorem yields_call {o : Oper} {a : Act} {f : FuncId} {xs : Array Operand} {ts : Array TypeId} {vs : Array Value} {v : Value} (hgd : o.guard = none) (ho : o.op = .call { callee := .value (.func f), args := xs, argTypes := ts }) (hargs : xs.map a.eval = vs) (hcf : ∀ w, (callFunc f vs).run P w = .ok (.enter f vs) w)
    (h : ∀ w, C w → Calls P f vs w fun e w' => e = .returned v ∧ C w') : YieldsIn P ops C o v a := by
  refine .inl ⟨by simp [Region.wanted, hgd], fun w hw => ?_⟩
  unfold Oper.quietAt execOp
  simp only [ho, resolve, invoke, Sem.run_bind, Sem.run_pure, Result.andThen_ok]
  simp [Deferred.ofValue, Act.eval, go_sem, hargs]
  rw [hcf]
  exact ⟨rfl, h w hw⟩
end
end Go.Proofs.YtnccbhndlnkboaaDoor
