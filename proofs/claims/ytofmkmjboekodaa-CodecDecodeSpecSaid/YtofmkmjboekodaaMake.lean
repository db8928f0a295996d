/- The walks of the reference's Int, Text, List; the law's few. -/
import Derived.Test.YtofmkmjboekodaaSmall
import Derived.Test.YtofmkmjboekodaaValue
namespace Go.Proofs.Ytofmkmjboekodaa
open Go.RowKit Cdc
set_option linter.unusedVariables false
set_option linter.unusedSimpArgs false

set_option maxRecDepth 100000 in
set_option maxHeartbeats 1000000 in
theorem int_any (n : Int) (w : World) :
    Calls Try.prog 23 #[.int .i64 n] w fun e w' => e = .returned (vv ⟨1, n, ⟨#[]⟩, []⟩ (.slice none 0 0)) ∧ Below w.heap.size w w' := by
  go_enter Try.func23, Try.ntmps23
  go_wp2
  refine bodyPost_ret (v := .agg #[.int .i64 1, .int .i64 n, .string ⟨#[]⟩, .slice none 0 0]) ?_ rfl ⟨rfl, ?_⟩
  · simp [results, Try.results23, go_sem]
  · exact (Below.refl _ _).alloc (Nat.le_refl _) _

set_option maxRecDepth 100000 in
set_option maxHeartbeats 1000000 in
theorem text_any (s : ByteArray) (w : World) :
    Calls Try.prog 24 #[.string s] w fun e w' => e = .returned (vv ⟨2, 0, s, []⟩ (.slice none 0 0)) ∧ Below w.heap.size w w' := by
  go_enter Try.func24, Try.ntmps24
  go_wp2
  refine bodyPost_ret (v := .agg #[.int .i64 2, .int .i64 0, .string s, .slice none 0 0]) ?_ rfl ⟨rfl, ?_⟩
  · simp [results, Try.results24, go_sem]
  · exact (Below.refl _ _).alloc (Nat.le_refl _) _

set_option maxRecDepth 100000 in
set_option maxHeartbeats 1000000 in
theorem list_any (A : Option Addr) (n c : Nat) (w : World) :
    Calls Try.prog 22 #[.slice A n c] w fun e w' => e = .returned (.agg #[.int .i64 3, .int .i64 0, .string ⟨#[]⟩, .slice A n c]) ∧ Below w.heap.size w w' := by
  go_enter Try.func22, Try.ntmps22
  go_wp2
  refine bodyPost_ret (v := .agg #[.int .i64 3, .int .i64 0, .string ⟨#[]⟩, .slice A n c]) ?_ rfl ⟨rfl, ?_⟩
  · simp [results, Try.results22, go_sem]
  · exact (Below.refl _ _).alloc (Nat.le_refl _) _

set_option maxRecDepth 100000 in
set_option maxHeartbeats 1000000 in
theorem fews_any (l : List V) (A : Option Addr) (c : Nat) (w : World) (hl : l.length ≤ 9223372036854775807)
    (hel : Els w A l fun y v' W => ∃ D, RS W D y.l v') (hlg : LgL l) :
    Calls Try.prog 11 #[.slice A l.length c] w fun e w' => e = .returned (.bool (l.all fewB)) ∧ Below w.heap.size w w' := by
  go_enter Try.func11, Try.ntmps11
  go_wp2
  go_loopw [7] (fun s7 wr => ∃ (i : Nat), i ≤ l.length ∧ Hid ((l.take i).all fewB = true) ∧ s7 = .int .i64 i ∧ Below w.heap.size w wr) (fun s7 _ => l.length - (intOf s7).toNat)
  case atStart => exact ⟨0, Nat.zero_le _, rfl, rfl, Below.refl _ _⟩
  case round =>
    obtain ⟨i, hi, hf, rfl, hB⟩ := hrel
    by_cases hlt : i < l.length
    · obtain ⟨y, hy⟩ : ∃ y, l[i]? = some y := ⟨_, List.getElem?_eq_getElem hlt⟩
      obtain ⟨b, o, A', c', rfl, hat⟩ := hel i y hy
      obtain ⟨hb, h0, h1, h2, h3, D, hP⟩ := hat wr hB
      have hB1 : ∀ o, Below wr.heap.size wr (wr.alloc o) := fun o => (Below.refl _ _).alloc (Nat.le_refl _) _
      have hq := fun o => few_any D y (.slice A' y.l.length c') (wr.alloc o) (hP.below (hB1 o)) (LgL_mem hlg y (List.mem_of_getElem? hy))
      have hsn : (l.take (i + 1)).all fewB = fewB y := by rw [take_snoc_some hy, List.all_append, hf.out]; simp
      cases hyy : fewB y with
      | true =>
        rw [hyy] at hq hsn
        have hq2 := Lib.hid hq
        have hsn2 := Lib.hid hsn
        clear hq hsn hyy hel hat hP hf
        go_wp2_with (go_at_call 25; refine (hq2.out _).mono ?_; rintro e w' ⟨rfl, hb2⟩)
        go_roundw
        case rel => exact ⟨i + 1, by omega, hsn2, by go_num, hB.trans ((hB1 _).trans (‹Below _ _ w'›.mono (by simp)) |>.mono hB.size)⟩
        case measure => simp [intOf]; omega
      | false =>
        rw [hyy] at hq
        have hno : Hid (l.all fewB = false) := by
          cases h : l.all fewB with
          | false => rfl
          | true =>
            rw [List.all_eq_true] at h
            have := h y (List.mem_of_getElem? hy)
            rw [hyy] at this; cases this
        have hq2 := Lib.hid hq
        clear hq hsn hyy hel hat hP hf
        go_wp2_with (go_at_call 25; refine (hq2.out _).mono ?_; rintro e w' ⟨rfl, hb2⟩)
        go_ret
        rw [hno.out]
        exact ⟨rfl, hB.trans ((hB1 _).trans (‹Below _ _ w'›.mono (by simp)) |>.mono hB.size)⟩
    · obtain rfl : i = l.length := by omega
      clear hel
      have h1 : Hid (l.all fewB = true) := by have := hf.out; rw [List.take_length] at this; exact this
      clear hf
      go_wp2
      go_ret
      rw [h1.out]
      exact ⟨rfl, hB⟩
end Go.Proofs.Ytofmkmjboekodaa
