/- The walk of digest.put. -/
import Derived.Test.YtnccbhndlnkboaaDoorAbsorb
namespace Go.Proofs.YtnccbhndlnkboaaDoor
open Go.RowKit Sha
set_option linter.unusedVariables false
set_option linter.unusedSimpArgs false

/-- a byte as a value -/
abbrev by1 (x : UInt8) : Value := .int .u8 (x.toNat : Int)

/-- the last i bytes of a number lie ahead of e -/
def putI (l : List UInt8) (e v i : Nat) : List UInt8 := l.mapIdx fun j x => if e - i ≤ j ∧ j < e then UInt8.ofNat (v / 256 ^ (e - 1 - j)) else x
theorem putI_len (l : List UInt8) (e v i : Nat) : (putI l e v i).length = l.length := by simp [putI]
theorem putI_zero (l : List UInt8) (e v : Nat) : putI l e v 0 = l := by
  apply List.ext_getElem?
  intro j
  rw [putI, List.getElem?_mapIdx]
  cases h : l[j]? with
  | none => rfl
  | some x =>
    have : ¬ (e - 0 ≤ j ∧ j < e) := by omega
    simp only [Option.map_some, if_neg this]
theorem putI_step (l : List UInt8) (e v i : Nat) (hi : i < e) (he : e ≤ l.length) : (putI l e v i).set (e - 1 - i) (UInt8.ofNat (v / 256 ^ i)) = putI l e v (i + 1) := by
  apply List.ext_getElem?
  intro j
  rw [List.getElem?_set, putI_len]
  by_cases hj : e - 1 - i = j
  · subst hj
    have h1 : e - 1 - i < l.length := by omega
    have h2 : e - (i + 1) ≤ e - 1 - i ∧ e - 1 - i < e := by omega
    have h3 : e - 1 - (e - 1 - i) = i := by omega
    rw [if_pos rfl, if_pos h1, putI, List.getElem?_mapIdx, List.getElem?_eq_getElem h1, Option.map_some, if_pos h2, h3]
  · rw [if_neg hj, putI, putI, List.getElem?_mapIdx, List.getElem?_mapIdx]
    cases h : l[j]? with
    | none => rfl
    | some x =>
      by_cases hc : e - i ≤ j ∧ j < e
      · have hc2 : e - (i + 1) ≤ j ∧ j < e := by omega
        simp only [Option.map_some, if_pos hc, if_pos hc2]
      · have hc2 : ¬ (e - (i + 1) ≤ j ∧ j < e) := by omega
        simp only [Option.map_some, if_neg hc, if_neg hc2]
theorem putI_val (v i : Nat) : ((v : Int) / 2 ^ (8 * i)) % 256 = ((UInt8.ofNat (v / 256 ^ i)).toNat : Int) := by
  have e : (2 : Int) ^ (8 * i) = ((256 ^ i : Nat) : Int) := by
    rw [Int.pow_mul, Int.natCast_pow]
    congr 1
  rw [e, UInt8.toNat_ofNat']
  have e2 : (2 : Nat) ^ 8 = 256 := by decide
  rw [e2]
  omega
theorem rowAt {w : World} {ab : Nat} {l : List UInt8} {ty : TypeId} (h : w.heap[ab]? = some (.cells (l.map by1).toArray ty (0, 0))) {j : Nat} {y : UInt8} (hy : l[j]? = some y) : w.cell? ⟨ab, j, none⟩ = some (by1 y) := by
  simp [World.cell?, h, hy]

set_option maxRecDepth 100000 in
set_option maxHeartbeats 1000000 in
theorem put_any (l : List UInt8) (ty : TypeId) (v : Nat) (hv : v < 18446744073709551616) (ab ao n c : Nat) (hn : n ≤ 8) (hc : n ≤ c) (hcm : c ≤ 9223372036854775807) (hl : ao + n ≤ l.length) (w : World)
    (h : w.heap[ab]? = some (.cells (l.map by1).toArray ty (0, 0))) :
    Calls Tryd.prog 91 #[.slice (some ⟨ab, ao, none⟩) n c, .int .u64 (v : Int)] w fun e w' => e = .returned (.tuple #[]) ∧ w'.heap[ab]? = some (.cells ((putI l (ao + n) v n).map by1).toArray ty (0, 0)) ∧ w.grownBy w' (some ab) := by
  go_enter Tryd.func91, Tryd.ntmps91
  replace h := Lib.hid h
  go_wp2_with fail
  go_loopw [7] (fun s7 wr => ∃ i : Nat, i ≤ n ∧ s7 = .int .i64 i ∧ wr.heap[ab]? = some (.cells ((putI l (ao + n) v i).map by1).toArray ty (0, 0)) ∧ w.grownBy wr (some ab)) (fun s7 _ => n - (intOf s7).toNat)
  case atStart => exact ⟨0, by omega, rfl, by rw [putI_zero]; exact h.out, World.grownBy.refl _ _⟩
  case round =>
    obtain ⟨i, hi, rfl, hm, hg⟩ := hrel
    by_cases hlt : i < n
    · have hlen := putI_len l (ao + n) v i
      obtain ⟨y, hy⟩ : ∃ y, (putI l (ao + n) v i)[ao + (n - 1 - i)]? = some y := ⟨_, List.getElem?_eq_getElem (by omega)⟩
      have ca := rowAt hm hy
      have cf := frozen_of_row wr ab (ao + (n - 1 - i)) _ _ hm
      have hset := Lib.hid (putI_step l (ao + n) v i (by omega) hl)
      have hval := Lib.hid (putI_val v i)
      have W1 : IntKind.i64.wrap ((n : Int) - 1) = (n : Int) - 1 := IntWalk.i64_in _ (by omega)
      have W2 : IntKind.i64.wrap ((n : Int) - 1 - (i : Int)) = (n : Int) - 1 - (i : Int) := IntWalk.i64_in _ (by omega)
      have W3 : IntKind.i64.wrap (8 * (i : Int)) = 8 * (i : Int) := IntWalk.i64_in _ (by omega)
      have T1 : ((n : Int) - 1 - (i : Int)).toNat = n - 1 - i := by omega
      have T3 : (8 * (i : Int)).toNat = 8 * i := by omega
      have G0 : (0 : Int) ≤ (n : Int) - 1 - (i : Int) := by omega
      have G1 : (n : Int) - 1 - (i : Int) < (n : Int) := by omega
      have G2 : (0 : Int) ≤ 8 * (i : Int) := by omega
      have G3 : 8 * (i : Int) < 64 := by omega
      have G4 : 8 * i < 64 := by omega
      replace hm := Lib.hid hm
      clear hy hlen
      go_wp2_with fail
      go_roundw
      case rel =>
        rw [hval.out]
        have h1 := heap_setCell_same wr ab (ao + (n - 1 - i)) _ _ (by1 (UInt8.ofNat (v / 256 ^ i))) hm.out
        refine ⟨i + 1, by omega, by go_num, ?_, Lib.grownBy_setB hg _ _⟩
        rw [← hset.out]
        refine Eq.trans h1 ?_
        have e : ao + n - 1 - i = ao + (n - 1 - i) := by omega
        rw [e]
        simp
      case measure => simp [intOf]; omega
    · have hin : i = n := by omega
      have hm2 : wr.heap[ab]? = some (.cells ((putI l (ao + n) v n).map by1).toArray ty (0, 0)) := by rw [← hin]; rw [← hin] at hm; exact hm
      clear hin
      go_wp2_with fail
      go_end0
      exact ⟨rfl, hm2, hg⟩
end Go.Proofs.YtnccbhndlnkboaaDoor
/- SHA-256: the padded text as the program lays it (an end block of 64 or 128 bytes behind the whole blocks). -/
namespace Go.Proofs.YtnccbhndlnkboaaDoor
open Go.RowKit Sha
set_option linter.unusedVariables false
set_option linter.unusedSimpArgs false

/-- the end block(s) ahead of the length -/
def endL (r : List UInt8) : List UInt8 := r ++ 0x80 :: List.replicate (127 - r.length) 0
theorem endL_len (r : List UInt8) (h : r.length < 64) : (endL r).length = 128 := by simp [endL]; omega
theorem endL_set (r : List UInt8) (h : r.length < 64) : (r ++ List.replicate (128 - r.length) 0).set r.length 0x80 = endL r := by
  have e : 128 - r.length = (127 - r.length) + 1 := by omega
  rw [e, List.replicate_succ, List.set_append_right _ _ (Nat.le_refl _), Nat.sub_self]
  rfl
theorem be8_len (v : Nat) : (be8 v).length = 8 := by simp [be8]
theorem be8_at (v t : Nat) (h : t < 8) : (be8 v)[t]? = some (UInt8.ofNat (v / 256 ^ (7 - t))) := by simp [be8, h]
theorem putI_end (l : List UInt8) (e v : Nat) (he : 8 ≤ e) (hl : e ≤ l.length) : putI l e v 8 = l.take (e - 8) ++ (be8 v ++ l.drop e) := by
  have hb := be8_len v
  apply List.ext_getElem?
  intro j
  rw [putI, List.getElem?_mapIdx]
  by_cases h1 : j < e - 8
  · rw [List.getElem?_append_left (by rw [List.length_take]; omega), List.getElem?_take, if_pos h1]
    cases l[j]? with
    | none => rfl
    | some x => simp only [Option.map_some, if_neg (show ¬ (e - 8 ≤ j ∧ j < e) by omega)]
  · rw [List.getElem?_append_right (by rw [List.length_take]; omega), List.length_take]
    have hm : min (e - 8) l.length = e - 8 := by omega
    rw [hm]
    by_cases h2 : j < e
    · rw [List.getElem?_append_left (by omega), be8_at v _ (by omega), List.getElem?_eq_getElem (by omega), Option.map_some, if_pos (show e - 8 ≤ j ∧ j < e by omega), show 7 - (j - (e - 8)) = e - 1 - j by omega]
    · rw [List.getElem?_append_right (by omega), hb, List.getElem?_drop, show e + (j - (e - 8) - 8) = j by omega]
      cases l[j]? with
      | none => rfl
      | some x => simp only [Option.map_some, if_neg (show ¬ (e - 8 ≤ j ∧ j < e) by omega)]
theorem blocks_pre (s : St) (a c : List UInt8) (n : Nat) (h : 64 * n ≤ a.length) : blocks s (a ++ c) n = blocks s a n := by
  induction n with
  | zero => rfl
  | succ n ih =>
    rw [blocks, blocks, ih (by omega), List.drop_append_of_le_length (by omega), List.take_append_of_le_length (by rw [List.length_drop]; omega)]
theorem blocks_app (s : St) (a c : List UInt8) (k m : Nat) (h : a.length = 64 * k) : blocks s (a ++ c) (k + m) = blocks (blocks s a k) c m := by
  induction m with
  | zero => exact blocks_pre s a c k (by omega)
  | succ m ih =>
    rw [← Nat.add_assoc, blocks, ih, blocks]
    congr 2
    rw [List.drop_append, List.drop_eq_nil_of_le (by omega), List.nil_append, h, show 64 * (k + m) - 64 * k = 64 * m by omega]
theorem sha_of (bs : List UInt8) (k : Nat) (r e x : List UInt8) (E : Nat) (hr : bs.drop (64 * k) = r) (hk : 64 * k ≤ bs.length) (he : r ++ 0x80 :: (List.replicate ((119 - bs.length % 64) % 64) 0 ++ be8 (8 * bs.length)) = e) (hE : e.length = 64 * E) :
    sha bs = out (blocks (blocks init bs k) (e ++ x) E) := by
  have hp : pad bs = bs.take (64 * k) ++ e := by
    rw [pad, ← he, ← hr, ← List.append_assoc, List.take_append_drop]
  have hl : (bs.take (64 * k)).length = 64 * k := by rw [List.length_take]; omega
  have hd : (pad bs).length / 64 = k + E := by rw [hp, List.length_append, hl, hE]; omega
  rw [sha, hd, hp, blocks_app _ _ _ _ _ hl, blocks_pre _ _ _ _ (by omega)]
  congr 2
  have h2 := blocks_pre init (bs.take (64 * k)) (bs.drop (64 * k)) k (by omega)
  rw [List.take_append_drop] at h2
  exact h2.symm
theorem sha_long (bs : List UInt8) (k : Nat) (r : List UInt8) (hr : bs.drop (64 * k) = r) (hk : 64 * k ≤ bs.length) (hl : r.length < 64) (h : 55 < r.length) : sha bs = out (blocks (blocks init bs k) (putI (endL r) (120 + 8) (bs.length * 8) 8) (128 / 64)) := by
  have hrl : r.length = bs.length - 64 * k := by rw [← hr, List.length_drop]
  have hm : (119 - bs.length % 64) % 64 = 119 - r.length := by omega
  have hE := endL_len r hl
  rw [putI_end _ _ _ (by omega) (by omega), ← List.append_assoc]
  refine sha_of bs k r _ _ 2 hr hk ?_ ?_
  · rw [hm, endL, List.take_append, List.take_of_length_le (by omega), show 120 + 8 - 8 - r.length = (119 - r.length) + 1 by omega, List.take_succ_cons, List.take_replicate, Nat.min_eq_left (by omega), List.append_assoc, List.cons_append, Nat.mul_comm]
  · rw [List.length_append, be8_len, List.length_take, hE]; rfl
theorem sha_short (bs : List UInt8) (k : Nat) (r : List UInt8) (hr : bs.drop (64 * k) = r) (hk : 64 * k ≤ bs.length) (hl : r.length < 64) (h : ¬ 55 < r.length) : sha bs = out (blocks (blocks init bs k) (putI (endL r) (56 + 8) (bs.length * 8) 8) (64 / 64)) := by
  have hrl : r.length = bs.length - 64 * k := by rw [← hr, List.length_drop]
  have hm : (119 - bs.length % 64) % 64 = 55 - r.length := by omega
  have hE := endL_len r hl
  rw [putI_end _ _ _ (by omega) (by omega), ← List.append_assoc]
  refine sha_of bs k r _ _ 1 hr hk ?_ ?_
  · rw [hm, endL, List.take_append, List.take_of_length_le (by omega), show 56 + 8 - 8 - r.length = (55 - r.length) + 1 by omega, List.take_succ_cons, List.take_replicate, Nat.min_eq_left (by omega), List.append_assoc, List.cons_append, Nat.mul_comm]
  · rw [List.length_append, be8_len, List.length_take, hE]; rfl
theorem sha_len (bs : List UInt8) : (sha bs).length = 32 := rfl
end Go.Proofs.YtnccbhndlnkboaaDoor
