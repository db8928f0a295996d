/- The walks of group.Valid (at every number) and group.Pow. -/
import Derived.Test.YtallnbbdacngnaaDoorValid
import Derived.Test.YtallnbbdacngnaaDoorSquares
namespace Go.Proofs.YtallnbbdacngnaaDoor
open Go.RowKit Go.Shelf Jac
set_option linter.unusedVariables false
set_option linter.unusedSimpArgs false
attribute [local go_sem] Oper.semAt_some

/-- is x an element? -/
noncomputable def validB (x : Int) : Bool := decide (1 ≤ x ∧ x < 2147483579) && decide (mu x.toNat Pn % 2 = 0)

theorem validB_in {x : Int} (h : 1 ≤ x ∧ x < 2147483579) : validB x = decide (mu x.toNat Pn % 2 = 0) := by
  unfold validB; rw [decide_eq_true h, Bool.true_and]
theorem validB_out {x : Int} (h : ¬ (1 ≤ x ∧ x < 2147483579)) : validB x = false := by
  unfold validB; rw [decide_eq_false h, Bool.false_and]
theorem validB_range {x : Int} (h : validB x = true) : 1 ≤ x ∧ x < 2147483579 := by
  apply Classical.byContradiction
  intro c
  rw [validB_out c] at h
  cases h

set_option maxHeartbeats 400000 in
theorem valid_out (x : Int) (w : World) (h : ¬ (1 ≤ x ∧ x < 2147483579)) :
    Calls Tryd.prog 39 #[.int .i64 x] w fun e w' => e = .returned (.bool false) ∧ w' = w := by
  by_cases h1 : x < 1
  · clear h
    go_enter Tryd.func39, Tryd.ntmps39
    go_wp2
    go_step3
    go_wp2
    rw [Exit.noGoto_ret]
    go_ret
    exact ⟨rfl, rfl⟩
  · have h2 : 2147483579 ≤ x := by omega
    clear h
    go_enter Tryd.func39, Tryd.ntmps39
    go_wp2
    go_step3
    go_wp2
    rw [Exit.noGoto_ret]
    go_ret
    exact ⟨rfl, rfl⟩

theorem valid_any (x : Int) (w : World) :
    Calls Tryd.prog 39 #[.int .i64 x] w fun e w' => e = .returned (.bool (validB x)) ∧ w' = w := by
  by_cases h : 1 ≤ x ∧ x < 2147483579
  · obtain ⟨n, rfl⟩ : ∃ n : Nat, x = n := ⟨x.toNat, by omega⟩
    have := valid_in n Pn w Pn_eq (by omega) (by omega) (by rw [Pn_eq]; exact coprimeP (by omega) (by omega))
    rw [validB_in h, Int.toNat_natCast]
    exact this
  · rw [validB_out h]
    exact valid_out x w h

/-- the power as the rounds reckon it -/
def powF (l : List (Int × Bool)) : Nat := l.foldl (fun c x => if x.2 then c * x.1.toNat % 2147483579 else c) 1

theorem powF_snoc (l : List (Int × Bool)) (x : Int × Bool) : powF (l ++ [x]) = if x.2 then powF l * x.1.toNat % 2147483579 else powF l := by
  simp [powF]

theorem powF_lt : ∀ l, powF l < 2147483579 := by
  intro l
  have key : ∀ (l : List (Int × Bool)) (c : Nat), c < 2147483579 → l.foldl (fun c x => if x.2 then c * x.1.toNat % 2147483579 else c) c < 2147483579 := by
    intro l
    induction l with
    | nil => intro c h; exact h
    | cons x l ih =>
      intro c h
      simp only [List.foldl_cons]
      apply ih
      split
      · exact Nat.mod_lt _ (by decide)
      · exact h
  exact key l 1 (by decide)

theorem powF_sqs : ∀ (n a c : Nat), (sqs a n).foldl (fun c x => if x.2 then c * x.1.toNat % 2147483579 else c) c % 2147483579 = c * a ^ n % 2147483579 := by
  intro n
  induction n using Nat.strongRecOn with
  | _ n ih =>
    intro a c
    by_cases h : n = 0
    · subst h; rw [sqs_zero]; simp
    · rw [sqs_pos (by omega)]
      simp only [List.foldl_cons]
      rw [ih (n / 2) (by omega)]
      have e : a ^ n = (a * a) ^ (n / 2) * a ^ (n % 2) := by
        rw [← Nat.pow_two, ← Nat.pow_mul, ← Nat.pow_add, Nat.div_add_mod]
      have sq : (a * a % 2147483579) ^ (n / 2) % 2147483579 = (a * a) ^ (n / 2) % 2147483579 := (Nat.pow_mod (a * a) (n / 2) 2147483579).symm
      rw [e]
      by_cases o : n % 2 = 1
      · simp only [o, decide_true, if_true, Int.toNat_natCast, Nat.pow_one]
        rw [Nat.mul_mod, sq, Nat.mod_mod, ← Nat.mul_mod]
        rw [Nat.mul_assoc, Nat.mul_comm a]
      · have o' : n % 2 = 0 := by omega
        simp only [o', Nat.pow_zero, Nat.mul_one]
        rw [Nat.mul_mod, sq, ← Nat.mul_mod]
        simp

theorem powF_eq (a n : Nat) : powF (sqs a n) = pw a n := by
  have h := powF_sqs n a 1
  have l := powF_lt (sqs a n)
  unfold pw
  rw [Nat.one_mul] at h
  rw [← h]
  exact (Nat.mod_eq_of_lt l).symm

theorem sqs_lt : ∀ (n a : Nat), a < 2147483579 → ∀ x ∈ sqs a n, ∃ y : Nat, y < 2147483579 ∧ x.1 = (y : Int) := by
  intro n
  induction n using Nat.strongRecOn with
  | _ n ih =>
    intro a ha x hx
    by_cases h : n = 0
    · subst h; rw [sqs_zero] at hx; cases hx
    · rw [sqs_pos (by omega)] at hx
      rcases List.mem_cons.1 hx with rfl | hx
      · exact ⟨a, ha, rfl⟩
      · exact ih (n / 2) (by omega) _ (Nat.mod_lt _ (by decide)) x hx

theorem sqs_elem {a m : Nat} {pre : List (Int × Bool)} {z : Int} {bit : Bool} (ha : (a : Int) < 2147483579) (h : pre ++ [(z, bit)] <+: sqs a m) : ∃ y : Nat, y < 2147483579 ∧ z = (y : Int) :=
  sqs_lt m a (by omega) (z, bit) (h.subset (by simp))

/-- what Pow answers -/
noncomputable def powV (a n : Int) : Value :=
  if validB a then .tuple #[.int .i64 (pw a.toNat (n % 1073741789).toNat), .int .i64 0] else .tuple #[.int .i64 0, .int .i64 100]

set_option maxRecDepth 100000 in
set_option maxHeartbeats 1000000 in
theorem pow_in (a : Nat) (n : Int) (w : World) (ha : validB a = true) :
    Calls Tryd.prog 38 #[.int .i64 a, .int .i64 n] w fun e w' =>
      e = .returned (.tuple #[.int .i64 (pw a (n % 1073741789).toNat), .int .i64 0]) ∧ Below w.heap.size w w' := by
  have hr := validB_range ha
  have HV := Lib.hid ha
  clear ha
  refine (callsIn_wide (n := 8)).1 ?_
  refine callsIn_of_wp_marks Tryd.func38 rfl trivial ?_ rfl
  simp only [Tryd.ntmps38, List.size_toArray, List.length_cons, List.length_nil, Nat.reduceAdd, Nat.reduceSub, Array.replicate_succ, Array.replicate_zero, List.push_toArray, List.append_toArray, List.nil_append, List.cons_append]
  gi_wp2_with (first
    | (refine ⟨trivial, ?_⟩; gi_at_call 39; refine (callsIn_wide.2 (valid_any _ _)).mono ?_; rintro e w' ⟨rfl, rfl⟩; rw [HV.out])
    | (refine ⟨trivial, ?_⟩; gi_at_call 73; refine (callsIn_wide.2 (least_one n _ _ (by simp))).mono ?_; rintro e w' ⟨rfl, rfl⟩)
    | (refine ⟨trivial, ?_⟩; gi_at_call 72; refine (callsIn_wide.2 (squares_any _ _ _)).mono ?_; rintro e w' ⟨rfl, rfl⟩))
  obtain ⟨m, hm⟩ : ∃ m : Nat, n % 1073741789 = m := ⟨(n % 1073741789).toNat, by omega⟩
  have hm2 : m < 1073741789 := by omega
  rw [hm]
  have HN := Lib.hid hm
  clear hm
  obtain ⟨W0, hW0⟩ : ∃ W0, ((((w.alloc (Obj.cells #[Value.int IntKind.i64 1] 3)).alloc (Obj.cells #[Value.int IntKind.i64 n] 3)).alloc (Obj.cells #[Value.int IntKind.i64 ↑a] 3)).alloc (Obj.cells #[Value.int IntKind.i64 m] 3)) = W0 := ⟨_, rfl⟩
  have hc0 : W0.cell? ⟨w.heap.size, 0, none⟩ = some (.int .i64 1) := by rw [← hW0]; simp [go_sem]
  have hf0 : W0.frozen? ⟨w.heap.size, 0, none⟩ = false := by rw [← hW0]; simp [go_sem]
  have hca : W0.cell? ⟨w.heap.size + 1 + 1, 0, none⟩ = some (.int .i64 a) := by rw [← hW0]; simp [go_sem]
  have hfa : W0.frozen? ⟨w.heap.size + 1 + 1, 0, none⟩ = false := by rw [← hW0]; simp [go_sem]
  have hcn : W0.cell? ⟨w.heap.size + 1 + 1 + 1, 0, none⟩ = some (.int .i64 m) := by rw [← hW0]; simp [go_sem]
  have hfn : W0.frozen? ⟨w.heap.size + 1 + 1 + 1, 0, none⟩ = false := by rw [← hW0]; simp [go_sem]
  have hsz : W0.heap.size = w.heap.size + 4 := by rw [← hW0]; simp
  have hb0 : Below w.heap.size w W0 := by
    rw [← hW0]; exact ((((Below.refl _ w).alloc (Nat.le_refl _) _).alloc (by simp) _).alloc (by simp; omega) _).alloc (by simp; omega) _
  rw [hW0]
  clear hW0
  refine wpIn_rangeFunc_st (F := Fence.wide) (n := 8) rfl (by decide) (gf := 89) (lb := #[.pointer (some ⟨w.heap.size + 1 + 1 + 1, 0, none⟩), .pointer (some ⟨w.heap.size + 1 + 1, 0, none⟩)]) rfl trivial (enters_of Tryd.func89 (by kernel_rfl) rfl)
    (fun W1 hb1 _ => squares_seq 7 a m (w.heap.size + 1 + 1) W1 (by decide) (by omega) hm2 ((hb1.cell (by simp; omega)).trans hca) ((hb1.frozen (by simp; omega)).trans hfa) ((hb1.cell (by simp; omega)).trans hcn) ((hb1.frozen (by simp; omega)).trans hfn))
    (fun A B h k o hk hA _ => by rw [h.block k (Array.getElem?_eq_some_iff.1 hA).1 (by unfold sqOwn; omega)]; exact hA)
    (fun h k => ⟨Nat.le_trans h.1 k.1, k.2.1.trans h.2.1, k.2.2.trans h.2.2⟩)
    (fun W l o o' hl hW _ _ => ⟨by simp, World.putObj_heap_other (by omega), World.putObj_heap_other (by omega)⟩)
    (fun _ => rfl)
    (fun pre W => W.cell? ⟨w.heap.size, 0, none⟩ = some (.int .i64 (powF pre)) ∧ W.frozen? ⟨w.heap.size, 0, none⟩ = false ∧ Below w.heap.size w W ∧ w.heap.size + 4 ≤ W.heap.size)
    (fun _ _ _ => False) ?hI ?hIx ?hIs ?hIxs ⟨hc0, hf0, hb0, by omega⟩
    (fun x => { tmps := #[.int .i64 a, .int .i64 n, undef, undef, .pointer (some ⟨w.heap.size, 0, none⟩), .int .i64 0, .int .i64 x.1, .bool x.2, .int .i64 a, .bool true, .bool false, .int .i64 a,
          .int .i64 n, .slice (some ⟨w.heap.size + 1, 0, none⟩) 1 1, .int .i64 m,
          .func (.func 89) #[] #[.pointer (some ⟨w.heap.size + 1 + 1 + 1, 0, none⟩), .pointer (some ⟨w.heap.size + 1 + 1, 0, none⟩)],
          .int .i64 x.1, .bool x.2, undef, undef, undef, undef, undef, undef], defers := [] }) ?assign ?body ?done ?stop
  case hI => exact fun s A B row hs hg hr => ⟨cell_kept hs.1 hg (fun r e => (hr r e).2), (frozen_kept hs.1 hg (fun r e => (hr r e).2)).trans hs.2.1, hs.2.2.1.grown hg hs.2.2.1.size (fun k e => by have := (hr k e).1; omega), Nat.le_trans hs.2.2.2 hg.size⟩
  case hIx => exact fun _ _ _ _ _ hs _ _ => hs
  case hIs =>
    exact fun s A B hs h => by
      have hlt : w.heap.size < A.heap.size := by have := hs.2.2.2; omega
      have hb := h.block w.heap.size hlt (by unfold sqOwn; omega)
      exact ⟨(World.cell?_of_block (w := A) hb).trans hs.1, (World.frozen?_of_block (w := A) hb).trans hs.2.1, hs.2.2.1.trans (h.below hs.2.2.1.size (by unfold sqOwn; omega)), Nat.le_trans hs.2.2.2 h.size⟩
  case hIxs => exact fun _ _ _ _ hs _ => hs
  case assign =>
    intro l x W K hK
    gi_wp2
    exact hK
  case body =>
    rintro l pre ⟨z, bit⟩ W ⟨hc, hf, hB, hsz'⟩ hnx _
    obtain ⟨y, hy, rfl⟩ := sqs_elem hr.2 hnx
    have hp := powF_lt pre
    have hs := powF_snoc pre ((y : Int), bit)
    have hsq1 : ((powF pre : Int) * (y : Int)) ≤ 4611686018427387904 := by
      have : powF pre * y ≤ 2147483579 * 2147483579 := Nat.mul_le_mul (by omega) (by omega)
      have e : ((powF pre * y : Nat) : Int) = (powF pre : Int) * y := Int.natCast_mul _ _
      omega
    have hsq0 : 0 ≤ (powF pre : Int) * (y : Int) := by
      have e : ((powF pre * y : Nat) : Int) = (powF pre : Int) * y := Int.natCast_mul _ _
      omega
    cases bit
    · have HS := Lib.hid hs
      clear hs
      gi_wp2
      exact ⟨(KeepsOthers.refl W).from _, ⟨Nat.le_refl _, rfl, rfl⟩, by rw [HS.out]; exact hc, hf, hB, hsz'⟩
    · have HS := Lib.hid hs
      clear hs
      gi_wp2
      refine ⟨(KeepsOthers.setCell _ _ _).from _, ⟨by simp, Below.heap_setCell _ _ _ _ (by simp; omega), Below.heap_setCell _ _ _ _ (by simp; omega)⟩, ?_, ?_, hB.setCell (p := ⟨w.heap.size, 0, none⟩) (Nat.le_refl _) _, by simpa using hsz'⟩
      · rw [HS.out, World.cell?_setCell_same' _ _ _ (by rw [hc]; rfl)]
        rfl
      · rw [World.frozen?_setCell]; exact hf
  case done =>
    rintro D xs W hD rfl ⟨hc, hf, hB, hsz'⟩ hK
    gi_wp2
    have hK' := (KeepsOthers.setCell W ⟨w.heap.size, 0, none⟩ (.int .i64 (powF (sqs a m)))).same D _ hK rfl
    refine ⟨by simp, .inl ⟨_, _, rfl, run_takeDeferred hK', ?_⟩⟩
    have hcell : ((W.setCell ⟨w.heap.size, 0, none⟩ (.int .i64 (powF (sqs a m)))).putObj D (.deferred none)).cell? ⟨w.heap.size, 0, none⟩ = some (.int .i64 (powF (sqs a m))) :=
      cell_kept (World.cell?_setCell_same' _ _ _ (by rw [hc]; rfl)) (grownBy_putObj' _ D (.deferred none)) (fun r e => by cases e; exact ⟨_, hK', rfl⟩)
    have hB2 : Below w.heap.size w ((W.setCell ⟨w.heap.size, 0, none⟩ (.int .i64 (powF (sqs a m)))).putObj D (.deferred none)) :=
      (hB.setCell (p := ⟨w.heap.size, 0, none⟩) (Nat.le_refl _) _).trans (belowK_b (w := w) (Nat.le_refl _) _ D _ _ (by omega) hK' rfl rfl)
    generalize (W.setCell ⟨w.heap.size, 0, none⟩ (.int .i64 (powF (sqs a m)))).putObj D (.deferred none) = W9 at hcell hB2 ⊢
    refine ⟨.tuple #[.int .i64 (powF (sqs a m)), .int .i64 0], by simp [results, Tryd.results38, go_sem, hcell], ?_, hB2⟩
    rw [powF_eq, HN.out, Int.toNat_natCast]
  case stop =>
    rintro D c pre W _ _ h _
    exact h.elim
end Go.Proofs.YtallnbbdacngnaaDoor
