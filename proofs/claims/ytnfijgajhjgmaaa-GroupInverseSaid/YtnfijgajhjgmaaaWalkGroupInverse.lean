/- The walk of the statement GroupInverse. -/
import Derived.Test.YtnfijgajhjgmaaaLaw10A
namespace Go.Proofs.Ytnfijgajhjgmaaa
open Go.RowKit Go.Shelf Jac

theorem elC_out {n : Int} (h : n < 1 ∨ 1073741789 < n) : elC n = 0 := by unfold elC; rw [if_pos h]
theorem elE_out {n : Int} (h : n < 1 ∨ 1073741789 < n) : elE n = 1 := by unfold elE; rw [if_pos h]
theorem elE_in {n : Int} (h : 1 ≤ n ∧ n ≤ 1073741789) : elE n = 0 := by unfold elE; rw [if_neg (by omega)]
theorem elC_valid {n : Int} (h : 1 ≤ n ∧ n ≤ 1073741789) (v : validB n = true) : elC n = n := by unfold elC; rw [if_neg (by omega), if_pos v]
theorem elC_not {n : Int} (h : 1 ≤ n ∧ n ≤ 1073741789) (v : validB n = false) : elC n = 2147483579 - n := by unfold elC; rw [if_neg (by omega), if_neg (by rw [v]; decide)]
theorem numC_valid {n : Int} (v : validB n = true) : numC n = min n (2147483579 - n) := by unfold numC; rw [if_pos v]
theorem numE_valid {n : Int} (v : validB n = true) : numE n = 0 := by unfold numE; rw [if_pos v]
theorem numC_not {n : Int} (v : validB n = false) : numC n = 0 := by unfold numC; rw [if_neg (by rw [v]; decide)]
theorem numE_not {n : Int} (v : validB n = false) : numE n = 100 := by unfold numE; rw [if_neg (by rw [v]; decide)]
theorem elC_inj {n m : Int} (hn : 1 ≤ n ∧ n ≤ 1073741789) (hm : 1 ≤ m ∧ m ≤ 1073741789) (e : elC n = elC m) : n = m := by
  cases hv : validB n <;> cases hw : validB m
  · rw [elC_not hn hv, elC_not hm hw] at e; omega
  · rw [elC_not hn hv, elC_valid hm hw] at e; omega
  · rw [elC_valid hn hv, elC_not hm hw] at e; omega
  · rw [elC_valid hn hv, elC_valid hm hw] at e; exact e

set_option maxRecDepth 100000 in
set_option maxHeartbeats 2000000 in
theorem inv_out (n m : Int) (w : World) (h : n < 1 ∨ 1073741789 < n) :
    Calls Try.prog 7 #[.int .i64 n, .int .i64 m] w fun e w' => e = .returned (.bool true) ∧ Below w.heap.size w w' := by
  have A1 := Lib.hid (elC_out h)
  have A2 := Lib.hid (elE_out h)
  have HB := Below.refl w.heap.size w
  cases v : validB n
  · have D1 := Lib.hid (numC_not v)
    have D2 := Lib.hid (numE_not v)
    have VN := Lib.hid v
    clear v
    rcases h with h | h
    all_goals
      go_enter Try.func7, Try.ntmps7
      go_wp2_with (first
        | (go_at_call 8; refine (sane_any _).mono ?_; rintro e w' ⟨rfl, hb⟩; replace HB := HB.trans (hb.mono HB.size); clear hb)
        | (go_at_call 18; refine (element_any _ _).mono ?_; rintro e w' ⟨rfl, rfl⟩; rw [A1.out, A2.out])
        | (go_at_call 19; refine (number_any _ _).mono ?_; rintro e w' ⟨rfl, rfl⟩; rw [D1.out, D2.out])
        | (go_at_call 13; refine (valid_any _ _).mono ?_; rintro e w' ⟨rfl, rfl⟩; rw [VN.out]))
      go_ret
      exact ⟨rfl, HB⟩
  · have hr := validB_range v
    have h' : 1073741789 < n := by omega
    have hk : min n (2147483579 - n) = 2147483579 - n := by omega
    have D1 : Hid (numC n = 2147483579 - n) := by rw [numC_valid v, hk]; rfl
    have D2 := Lib.hid (numE_valid v)
    have VN := Lib.hid v
    have vk : validB (2147483579 - n) = false := by rw [valid_neg hr, v]; rfl
    have K1 : Hid (elC (2147483579 - n) = n) := by rw [elC_not (by omega) vk]; show _ = _; omega
    have K2 : Hid (elE (2147483579 - n) = 0) := elE_in (by omega)
    clear v h hk vk
    go_enter Try.func7, Try.ntmps7
    go_wp2_with (first
      | (go_at_call 8; refine (sane_any _).mono ?_; rintro e w' ⟨rfl, hb⟩; replace HB := HB.trans (hb.mono HB.size); clear hb)
      | (go_at_call 18; refine (element_any _ _).mono ?_; rintro e w' ⟨rfl, rfl⟩; first | rw [A1.out, A2.out] | rw [K1.out, K2.out])
      | (go_at_call 19; refine (number_any _ _).mono ?_; rintro e w' ⟨rfl, rfl⟩; rw [D1.out, D2.out])
      | (go_at_call 13; refine (valid_any _ _).mono ?_; rintro e w' ⟨rfl, rfl⟩; rw [VN.out]))
    go_ret
    exact ⟨congrArg (fun b => Ending.returned (.bool b)) (decide_eq_true (by omega)), HB⟩


set_option maxRecDepth 100000 in
set_option maxHeartbeats 4000000 in
theorem inv_in (n m : Int) (w : World) (h : 1 ≤ n ∧ n ≤ 1073741789) :
    Calls Try.prog 7 #[.int .i64 n, .int .i64 m] w fun e w' => e = .returned (.bool true) ∧ Below w.heap.size w w' := by
  have A2 := Lib.hid (elE_in h)
  have HB := Below.refl w.heap.size w
  obtain ⟨y, g, tm, hC1, hC2, hg⟩ : ∃ y g tm, elC m = y ∧ elE m = g ∧ ((g = 1) ∨ (g = 0 ∧ (elC n == y) = tm ∧ (n == m) = tm)) := by
    by_cases hm : 1 ≤ m ∧ m ≤ 1073741789
    · refine ⟨elC m, 0, (n == m), rfl, elE_in hm, .inr ⟨rfl, ?_, rfl⟩⟩
      by_cases e : n = m
      · rw [e, beq_self_eq_true, beq_self_eq_true]
      · have e2 : elC n ≠ elC m := fun c => e (elC_inj h hm c)
        rw [beq_eq_false_iff_ne.mpr e, beq_eq_false_iff_ne.mpr e2]
    · exact ⟨_, _, true, rfl, elE_out (by omega), .inl rfl⟩
  have C1 := Lib.hid hC1
  have C2 := Lib.hid hC2
  clear hC1 hC2
  cases v : validB n
  · have hx := elC_not h v
    rw [hx] at hg
    have A1 := Lib.hid hx
    have VX : Hid (validB (2147483579 - n) = true) := by rw [valid_neg (by omega), v]; rfl
    have hk : min (2147483579 - n) (2147483579 - (2147483579 - n)) = n := by omega
    have B1 : Hid (numC (2147483579 - n) = n) := by rw [numC_valid VX.out, hk]; rfl
    have B2 := Lib.hid (numE_valid VX.out)
    have D1 := Lib.hid (numC_not v)
    have D2 := Lib.hid (numE_not v)
    have VN := Lib.hid v
    clear v hx hk
    obtain ⟨h1, h2⟩ := h
    rcases hg with rfl | ⟨rfl, g1, g2⟩
    · go_enter Try.func7, Try.ntmps7
      go_wp2_with (first
        | (go_at_call 8; refine (sane_any _).mono ?_; rintro e w' ⟨rfl, hb⟩; replace HB := HB.trans (hb.mono HB.size); clear hb)
        | (go_at_call 18; refine (element_any _ _).mono ?_; rintro e w' ⟨rfl, rfl⟩; first | rw [A1.out, A2.out] | rw [C1.out, C2.out])
        | (go_at_call 19; refine (number_any _ _).mono ?_; rintro e w' ⟨rfl, rfl⟩; first | rw [B1.out, B2.out] | rw [D1.out, D2.out])
        | (go_at_call 13; refine (valid_any _ _).mono ?_; rintro e w' ⟨rfl, rfl⟩; first | rw [VX.out] | rw [VN.out]))
      all_goals
        go_ret
        exact ⟨rfl, HB⟩
    · cases tm
      all_goals
        go_enter Try.func7, Try.ntmps7
        go_wp2_with (first
          | (go_at_call 8; refine (sane_any _).mono ?_; rintro e w' ⟨rfl, hb⟩; replace HB := HB.trans (hb.mono HB.size); clear hb)
          | (go_at_call 18; refine (element_any _ _).mono ?_; rintro e w' ⟨rfl, rfl⟩; first | rw [A1.out, A2.out] | rw [C1.out, C2.out])
          | (go_at_call 19; refine (number_any _ _).mono ?_; rintro e w' ⟨rfl, rfl⟩; first | rw [B1.out, B2.out] | rw [D1.out, D2.out])
          | (go_at_call 13; refine (valid_any _ _).mono ?_; rintro e w' ⟨rfl, rfl⟩; first | rw [VX.out] | rw [VN.out]))
      all_goals
        go_ret
        exact ⟨rfl, HB⟩
  · have hx := elC_valid h v
    rw [hx] at hg
    have A1 := Lib.hid hx
    have hk : min n (2147483579 - n) = n := by omega
    have D1 : Hid (numC n = n) := by rw [numC_valid v, hk]; rfl
    have D2 := Lib.hid (numE_valid v)
    have VN := Lib.hid v
    clear v hx hk
    obtain ⟨h1, h2⟩ := h
    rcases hg with rfl | ⟨rfl, g1, g2⟩
    · go_enter Try.func7, Try.ntmps7
      go_wp2_with (first
        | (go_at_call 8; refine (sane_any _).mono ?_; rintro e w' ⟨rfl, hb⟩; replace HB := HB.trans (hb.mono HB.size); clear hb)
        | (go_at_call 18; refine (element_any _ _).mono ?_; rintro e w' ⟨rfl, rfl⟩; first | rw [A1.out, A2.out] | rw [C1.out, C2.out])
        | (go_at_call 19; refine (number_any _ _).mono ?_; rintro e w' ⟨rfl, rfl⟩; rw [D1.out, D2.out])
        | (go_at_call 13; refine (valid_any _ _).mono ?_; rintro e w' ⟨rfl, rfl⟩; rw [VN.out]))
      all_goals
        go_ret
        exact ⟨rfl, HB⟩
    · cases tm
      all_goals
        go_enter Try.func7, Try.ntmps7
        go_wp2_with (first
          | (go_at_call 8; refine (sane_any _).mono ?_; rintro e w' ⟨rfl, hb⟩; replace HB := HB.trans (hb.mono HB.size); clear hb)
          | (go_at_call 18; refine (element_any _ _).mono ?_; rintro e w' ⟨rfl, rfl⟩; first | rw [A1.out, A2.out] | rw [C1.out, C2.out])
          | (go_at_call 19; refine (number_any _ _).mono ?_; rintro e w' ⟨rfl, rfl⟩; rw [D1.out, D2.out])
          | (go_at_call 13; refine (valid_any _ _).mono ?_; rintro e w' ⟨rfl, rfl⟩; rw [VN.out]))
      all_goals
        go_ret
        exact ⟨rfl, HB⟩

theorem walk_GroupInverse (n m : Int) (w : World) :
    Calls Try.prog 7 #[.int .i64 n, .int .i64 m] w fun e w' => e = .returned (.bool true) ∧ Below w.heap.size w w' := by
  by_cases h : 1 ≤ n ∧ n ≤ 1073741789
  · exact inv_in n m w h
  · exact inv_out n m w (by omega)
end Go.Proofs.Ytnfijgajhjgmaaa
