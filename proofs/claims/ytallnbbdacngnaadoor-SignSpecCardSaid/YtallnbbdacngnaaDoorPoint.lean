/- The walk of fastilaw11.point; a list of three that lies in one row. -/
import Derived.Test.YtallnbbdacngnaaDoorSSane
namespace Go.Proofs.YtallnbbdacngnaaDoor
open Go.RowKit Go.Shelf Jac Cdc Sha
set_option linter.unusedVariables false
set_option linter.unusedSimpArgs false

theorem powC_ok {a : Int} (ha : validB a = true) (n : Int) : validB (powC a n) = true := by
  have hr := validB_range ha
  obtain ⟨k, rfl⟩ : ∃ k : Nat, a = (k : Int) := ⟨a.toNat, by omega⟩
  rw [powC_valid ha]
  exact valid_pow ha _

set_option maxRecDepth 100000 in
set_option maxHeartbeats 1000000 in
theorem point_any (key E S : Int) (w : World) (h : 0 ≤ E ∧ E < 1073741789 ∧ 0 ≤ S ∧ S < 1073741789) (hv : validB key = true) :
    Calls Tryd.prog 40 #[.int .i64 key, .agg #[.int .i64 E, .int .i64 S]] w fun e w' => e = .returned (.tuple #[.int .i64 (ptC key E S), .bool true]) ∧ Below w.heap.size w w' := by
  have e4 : powE 4 = 0 := by unfold powE; rw [valid_four]; rfl
  have ek : powE key = 0 := by unfold powE; rw [hv]; rfl
  have em : mulE (powC 4 S) (powC key (-E)) = 0 := by unfold mulE; rw [pow4_valid, powC_ok hv]; rfl
  have hr := heap_alloc_new w (.cells #[.int .i64 E, .int .i64 S] 50)
  have hB := (Below.refl w.heap.size w).alloc (Nat.le_refl _) (.cells #[.int .i64 E, .int .i64 S] 50)
  replace em := Lib.hid em
  go_enter Tryd.func40, Tryd.ntmps40
  go_wp2_with fail
  refine (pow_any _ _ _).mono ?_
  rintro e w1 ⟨rfl, hb⟩
  rw [e4]
  replace hr := (hb.block w.heap.size (Array.getElem?_eq_some_iff.1 hr).1).trans hr
  replace hB := hB.trans (hb.mono hB.size)
  have c0 : w1.cell? ⟨w.heap.size, 0, none⟩ = some (.int .i64 E) := by rw [cell_of_row _ _ _ _ _ _ hr]; rfl
  clear hb
  go_wp2_with fail
  refine (pow_any _ _ _).mono ?_
  rintro e w2 ⟨rfl, hb⟩
  rw [ek]
  replace hB := hB.trans (hb.mono hB.size)
  clear hb
  go_wp2_with fail
  refine (mul_any _ _ _).mono ?_
  rintro e w3 ⟨rfl, rfl⟩
  rw [em.out]
  go_wp2_with fail
  go_ret2
  exact ⟨rfl, hB⟩

theorem flat_rs (w : World) (l : List V) (C : Array Value) (hC : C = (flatF l).toArray) (k c n : Nat) (hk : k = w.heap.size) (hn : l.length = n) (hc : n ≤ c) (hl : ∀ y ∈ l, y.l = []) : RS (w.alloc (.cells C 64)) 1 l (.slice (some ⟨k, 0, none⟩) n c) := by
  subst hC hk hn
  refine ⟨some ⟨w.heap.size, 0, none⟩, c, rfl, hc, fun i y hy => ?_⟩
  obtain ⟨f0, f1, f2, f3⟩ := flatF_at hy
  have hcell := fun j => cell_of_row (w.alloc (.cells (flatF l).toArray 64)) w.heap.size j _ _ _ (heap_alloc_new w (.cells (flatF l).toArray 64))
  refine ⟨w.heap.size, 0, .slice none 0 0, rfl, by simp, ?_, ?_, ?_, ?_, hl y (List.mem_of_getElem? hy), none, 0, rfl⟩
  · rw [show 0 + i * 4 = i * 4 by omega, hcell]; simpa using f0
  · rw [show 0 + i * 4 + 1 = i * 4 + 1 by omega, hcell]; simpa using f1
  · rw [show 0 + i * 4 + 2 = i * 4 + 2 by omega, hcell]; simpa using f2
  · rw [show 0 + i * 4 + 3 = i * 4 + 3 by omega, hcell]; simpa using f3

theorem ck3 (m n : Int) (bs : List UInt8) (hb : bs.length ≤ 1000000) : ckE (lV [iV m, iV n, tV bs]) = 0 := by
  have hs := bsize bs
  have he : (⟨#[]⟩ : ByteArray) = ByteArray.empty := rfl
  simp [lV, iV, tV, ckE, fm, fmL, hs, he]
end Go.Proofs.YtallnbbdacngnaaDoor
