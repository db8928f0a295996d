/- The walk of the reference's Few. -/
import Derived.Test.YthokpfegfnpmhaaDoorChainHead
namespace Go.Proofs.YthokpfegfnpmhaaDoor
open Go.RowKit Cdc Sha
set_option linter.unusedVariables false
set_option linter.unusedSimpArgs false

def smallC (x : Lk) : Bool := decide (x.data.length ≤ 300)
def fewC (l : List Lk) : Bool := decide (l.length ≤ 16) && l.all smallC

theorem all_take_succ {l : List Lk} {i : Nat} {x : Lk} (h : l[i]? = some x) (ha : (l.take i).all smallC = true) (hx : smallC x = true) : (l.take (i + 1)).all smallC = true := by
  rw [List.take_add_one, h, List.all_append, ha]
  simp [hx]
theorem all_false {l : List Lk} {i : Nat} {x : Lk} (h : l[i]? = some x) (hx : smallC x = false) : l.all smallC = false := by
  rw [List.all_eq_false]
  exact ⟨x, List.mem_of_getElem? h, by rw [hx]; decide⟩

set_option maxRecDepth 100000 in
set_option maxHeartbeats 1000000 in
theorem few_many (n : Nat) (A : Option Addr) (c : Nat) (w : World) (h : 16 < n) :
    Calls Tryd.prog 14 #[.slice A n c] w fun e w' => e = .returned (.bool false) ∧ w' = w := by
  go_enter Tryd.func14, Tryd.ntmps14
  go_wp2
  go_ret
  exact ⟨rfl, rfl⟩

set_option maxRecDepth 100000 in
set_option maxHeartbeats 2000000 in
theorem few_in (l : List Lk) (n : Nat) (A : Option Addr) (c : Nat) (w : World) (hn : l.length = n) (h16 : n ≤ 16) (hc : n ≤ c) (h : LsAt w A l) (hp : ∀ x ∈ l, x.prev.length = 32) :
    Calls Tryd.prog 14 #[.slice A n c] w fun e w' => e = .returned (.bool (l.all smallC)) ∧ w' = w := by
  replace h := Lib.hid h
  replace hn := Lib.hid hn
  replace hp := Lib.hid hp
  go_enter Tryd.func14, Tryd.ntmps14
  go_wp2
  go_loop [3] (fun s => ∃ i : Nat, i ≤ n ∧ s = .int .i64 i ∧ Hid ((l.take i).all smallC = true)) (fun s => n - (intOf s).toNat)
  case atStart => exact ⟨0, Nat.zero_le _, rfl, rfl⟩
  case round =>
    obtain ⟨i, hi, rfl, ha⟩ := hrel
    by_cases hlt : i < n
    · obtain ⟨x, hx⟩ : ∃ x, l[i]? = some x := ⟨_, List.getElem?_eq_getElem (by rw [hn.out]; omega)⟩
      obtain ⟨b, o, D, rfl, hr, A2, c2, rfl, hdl, hdc, hdat⟩ := h.out i x hx
      have hcell : w.cell? ⟨b, o + i * 35 + 34, none⟩ = some (.slice A2 x.data.length c2) := hr 34 _ (lkC_data (hp.out x (List.mem_of_getElem? hx)) _)
      have h1 := fun e => Lib.hid (all_take_succ hx ha.out e)
      have h2 := fun e => Lib.hid (all_false hx e)
      unfold smallC at h1 h2
      obtain ⟨m, hm⟩ : ∃ m, x.data.length = m := ⟨_, rfl⟩
      rw [hm] at h1 h2 hcell hdl
      clear hr hdat hm hx
      by_cases hs : m ≤ 300
      · replace h1 := h1 (decide_eq_true hs)
        clear h2
        go_wp2
        go_round
        case rel => exact ⟨i + 1, by omega, by go_num, h1⟩
        case measure => simp [intOf]; omega
      · replace h2 := h2 (decide_eq_false hs)
        clear h1
        go_wp2
        go_ret
        exact ⟨by rw [← h2.out]; rfl, rfl⟩
    · have e : l.take i = l := List.take_of_length_le (by rw [hn.out]; omega)
      rw [e] at ha
      go_wp2
      go_ret
      refine ⟨?_, rfl⟩
      rw [ha.out]
      rfl

theorem few_any (l : List Lk) (n : Nat) (A : Option Addr) (c : Nat) (w : World) (hn : l.length = n) (hc : n ≤ c) (h : LsAt w A l) (hp : ∀ x ∈ l, x.prev.length = 32) :
    Calls Tryd.prog 14 #[.slice A n c] w fun e w' => e = .returned (.bool (fewC l)) ∧ w' = w := by
  unfold fewC
  rw [hn]
  by_cases h16 : n ≤ 16
  · rw [decide_eq_true h16, Bool.true_and]
    exact few_in l n A c w hn h16 hc h hp
  · rw [decide_eq_false h16, Bool.false_and]
    exact few_many n A c w (by omega)
end Go.Proofs.YthokpfegfnpmhaaDoor
