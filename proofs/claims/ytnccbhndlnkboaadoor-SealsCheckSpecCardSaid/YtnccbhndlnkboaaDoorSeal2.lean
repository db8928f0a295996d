/- The walk of seals' leaf. -/
import Derived.Test.YtnccbhndlnkboaaDoorSeal1
namespace Go.Proofs.YtnccbhndlnkboaaDoor
open Go.RowKit Go.Shelf Cdc Sha
set_option linter.unusedVariables false
set_option linter.unusedSimpArgs false

def tV (bs : List UInt8) : V := ⟨2, 0, ⟨bs.toArray⟩, []⟩
theorem sm_mk (k n : Int) (s : ByteArray) (l : List V) (h1 : I64 n) (h2 : s.size ≤ 1000000000) (h3 : l.length ≤ 1000000000) (h4 : SmL l) : Sm ⟨k, n, s, l⟩ := ⟨h1, h2, h3, h4⟩
theorem i64_zero : I64 0 := ⟨by omega, by omega⟩
theorem bsize (bs : List UInt8) : (⟨bs.toArray⟩ : ByteArray).size = bs.length := by simp [ByteArray.size]
theorem sm_iV {n : Int} (h : I64 n) : Sm (iV n) := sm_mk _ _ _ _ h (by decide) (by decide) trivial
theorem sm_tV (bs : List UInt8) (h : bs.length ≤ 1000000) : Sm (tV bs) := sm_mk _ _ _ _ i64_zero (by rw [bsize]; omega) (by decide) trivial
theorem enc_iV {n : Int} (h : I64 n) : (enc (iV n)).length ≤ 11 := by
  have := num_len (uz n) (uz_lt h)
  simp [iV, enc]; omega
theorem enc_tV (bs : List UInt8) (h : bs.length ≤ 1000000) : (enc (tV bs)).length ≤ bs.length + 11 := by
  have := num_len bs.length (by have e : (2 : Nat) ^ 64 = 18446744073709551616 := by decide
                                omega)
  simp [tV, enc, V.t, ByteArray.size]; omega
theorem encB_le (x : V) : (encB x).length ≤ (enc x).length := by
  unfold encB
  split
  · exact Nat.le_refl _
  · simp

theorem flat_rs (w : World) (l : List V) (C : Array Value) (hC : C = (flatF l).toArray) (k c n : Nat) (hk : k = w.heap.size) (hn : l.length = n) (hc : n ≤ c) (hl : ∀ y ∈ l, y.l = []) : RS (w.alloc (.cells C 96)) 1 l (.slice (some ⟨k, 0, none⟩) n c) := by
  subst hC hk hn
  refine ⟨some ⟨w.heap.size, 0, none⟩, c, rfl, hc, fun i y hy => ?_⟩
  obtain ⟨f0, f1, f2, f3⟩ := flatF_at hy
  have hcell := fun j => cell_of_row (w.alloc (.cells (flatF l).toArray 96)) w.heap.size j _ _ _ (heap_alloc_new w (.cells (flatF l).toArray 96))
  refine ⟨w.heap.size, 0, .slice none 0 0, rfl, by simp, ?_, ?_, ?_, ?_, hl y (List.mem_of_getElem? hy), none, 0, rfl⟩
  · rw [show 0 + i * 4 = i * 4 by omega, hcell]; simpa using f0
  · rw [show 0 + i * 4 + 1 = i * 4 + 1 by omega, hcell]; simpa using f1
  · rw [show 0 + i * 4 + 2 = i * 4 + 2 by omega, hcell]; simpa using f2
  · rw [show 0 + i * 4 + 3 = i * 4 + 3 by omega, hcell]; simpa using f3

theorem sm_lV {l : List V} (hn : l.length ≤ 1000000000) (h : ∀ x ∈ l, Sm x) : Sm (lV l) := sm_mk _ _ _ _ i64_zero (by decide) hn (by
  induction l with
  | nil => trivial
  | cons x l ih => exact ⟨h x (by simp), ih (by simp at hn ⊢; omega) fun y hy => h y (by simp [hy])⟩)
theorem enc_lV_len (l : List V) (hn : l.length ≤ 1000000000) (k : Nat) (h : ∀ x ∈ l, (enc x).length ≤ k) : (enc (lV l)).length ≤ 11 + l.length * k := by
  have h1 := num_len l.length (by have e : (2 : Nat) ^ 64 = 18446744073709551616 := by decide
                                  omega)
  have h2 : (encL l).length ≤ l.length * k := by
    clear hn h1
    induction l with
    | nil => simp [encL]
    | cons x l ih =>
      have h3 := h x (by simp)
      have h4 := ih fun y hy => h y (by simp [hy])
      have e : (l.length + 1) * k = l.length * k + k := by rw [Nat.add_mul, Nat.one_mul]
      simp only [encL, List.length_append, List.length_cons, e]
      omega
  simp only [lV, enc]
  rw [if_neg (by decide), if_neg (by decide)]
  simp only [List.length_cons, List.length_append]
  omega

theorem leaf_sm {t d n : Int} {b : Bool} (ht : I64 t) (hd : I64 d) (hn : I64 n) : Sm (leafV t d b n) ∧ (leafM t d b n).length ≤ 1000 := by
  have h5 : Sm (sV dayBs) ∧ (enc (sV dayBs)).length ≤ 20 := by
    refine ⟨sm_mk _ _ _ _ i64_zero (by decide) (by decide) trivial, ?_⟩
    simp [sV, enc, dayBs, num_lt, V.t, ByteArray.size]
  have hb : I64 (if b then (1 : Int) else 0) := by cases b <;> simp [I64]
  have hm : ∀ x ∈ [sV dayBs, iV t, iV d, iV (if b then 1 else 0), iV n], Sm x ∧ (enc x).length ≤ 60 := by
    intro x hx
    simp only [List.mem_cons, List.not_mem_nil, or_false] at hx
    rcases hx with rfl | rfl | rfl | rfl | rfl
    · exact ⟨h5.1, by omega⟩
    · exact ⟨sm_iV ht, by have := enc_iV ht; omega⟩
    · exact ⟨sm_iV hd, by have := enc_iV hd; omega⟩
    · exact ⟨sm_iV hb, by have := enc_iV hb; omega⟩
    · exact ⟨sm_iV hn, by have := enc_iV hn; omega⟩
  refine ⟨sm_lV (by simp) fun x hx => (hm x hx).1, ?_⟩
  have := enc_lV_len [sV dayBs, iV t, iV d, iV (if b then 1 else 0), iV n] (by simp) 60 fun x hx => (hm x hx).2
  unfold leafM leafV
  simp at this ⊢
  omega
theorem leafM_pos (t d n : Int) (b : Bool) : leafM t d b n ≠ [] := by
  unfold leafM leafV lV
  simp [enc]
theorem EncPost.join {x : V} {w : World} {e : Ending} {w' : World} (h : EncPost x w e w') (hck : ckE x = 0) : ∃ (A : Option Addr) (c : Nat), e = .returned (.tuple #[.slice A (enc x).length c, .int .i64 0]) ∧ (enc x).length ≤ c ∧ c ≤ 9223372036854775807 ∧ AtO w' A (enc x) ∧ Below w.heap.size w w' ∧ ∀ g o, A = some ⟨g, o, none⟩ → enc x ≠ [] → w.heap.size ≤ g ∧ g < w'.heap.size := by
  unfold EncPost at h
  rw [hck, show encB x = enc x by unfold encB; rw [if_pos hck]] at h
  obtain ⟨v', rfl, ho, hh, hB⟩ := h
  obtain ⟨A, c, rfl⟩ := ho.form
  have hc := ho.cap
  refine ⟨A, c, rfl, hc.1, hc.2, ho.atO, hB, fun g o e hne => ?_⟩
  subst e
  refine ⟨hh g ?_, ?_⟩
  · rcases ho.2 with ⟨e, _⟩ | ⟨g', cap, cur, e, _⟩
    · cases e
    · injection e with e1; cases e1; rfl
  · obtain ⟨y, r, hy⟩ : ∃ y r, enc x = y :: r := by
      cases h : enc x with
      | nil => exact absurd h hne
      | cons y r => exact ⟨y, r, rfl⟩
    obtain ⟨g2, o2, e2, hcell⟩ := ho.atO 0 y (by rw [hy]; rfl)
    cases e2
    exact World.block_lt_of_cell? w' _ hcell

set_option maxRecDepth 100000 in
set_option maxHeartbeats 2000000 in
theorem leaf_any8 (t f m d n : Int) (b : Bool) (ht : I64 t) (hd : I64 d) (hn : I64 n) (w : World) : Calls Tryd.prog 44 #[.agg #[.int .i64 t, .int .i64 f, .int .i64 m], .int .i64 d, .bool b, .int .i64 n] w (JoinC (leafM t d b n) w) := by
  obtain ⟨hsm, hlen⟩ := leaf_sm (b := b) ht hd hn
  have hE : Hid (∀ (V : World) (A : Option Addr) (m c : Nat), RS V 1 [sV dayBs, iV t, iV d, iV (if b then 1 else 0), iV n] (.slice A m c) → Calls Tryd.prog 54 #[.agg #[.int .i64 3, .int .i64 0, .string ⟨#[]⟩, .slice A m c]] V fun e w' => ∃ (A : Option Addr) (c : Nat), e = .returned (.tuple #[.slice A (leafM t d b n).length c, .int .i64 0]) ∧ (leafM t d b n).length ≤ c ∧ c ≤ 9223372036854775807 ∧ AtO w' A (leafM t d b n) ∧ Below V.heap.size V w' ∧ ∀ g o, A = some ⟨g, o, none⟩ → leafM t d b n ≠ [] → V.heap.size ≤ g ∧ g < w'.heap.size) := Lib.hid fun V A m c hR =>
    (encode_any 1 (leafV t d b n) (.slice A m c) V hR hsm (by simp [leafV, lV, sV, iV, dp, dpL]) (by have := hlen; unfold leafM at this; omega)).mono fun e w' h => h.join (leaf_ck t d b n)
  have hl : Hid (∀ (V : World) (cb : Nat), V.cell? ⟨cb, 0, none⟩ = some (.int .i64 t) → V.cell? ⟨cb, 1, none⟩ = some (.int .i64 d) → V.cell? ⟨cb, 2, none⟩ = some (.int .i64 (if b then 1 else 0)) → V.cell? ⟨cb, 3, none⟩ = some (.int .i64 n) → Calls Tryd.prog 68 #[.string dayBs, .slice (some ⟨cb, 0, none⟩) 4 4] V fun e w' => ∃ (A : Option Addr) (m c' : Nat), e = .returned (.agg #[.int .i64 3, .int .i64 0, .string ⟨#[]⟩, .slice A m c']) ∧ RS w' 1 [sV dayBs, iV t, iV d, iV (if b then 1 else 0), iV n] (.slice A m c') ∧ Below V.heap.size V w') := Lib.hid fun V cb h0 h1 h2 h3 => slist_any dayBs [t, d, if b then 1 else 0, n] cb 4 4 rfl (by decide) V fun i y hy => by
    match i, hy with
    | 0, hy => obtain rfl := Option.some.inj hy; exact h0
    | 1, hy => obtain rfl := Option.some.inj hy; exact h1
    | 2, hy => obtain rfl := Option.some.inj hy; exact h2
    | 3, hy => obtain rfl := Option.some.inj hy; exact h3
  obtain ⟨L, hL⟩ : ∃ L, leafM t d b n = L := ⟨_, rfl⟩
  rw [hL] at hE ⊢
  have hB1 : Below w.heap.size w (w.alloc (.cells #[.int .i64 t, .int .i64 f, .int .i64 m] 69)) := (Below.refl _ _).alloc (Nat.le_refl _) _
  have hnew : Hid (∀ (V : World) (x : Int), (V.alloc (.cells #[.int .i64 t, .int .i64 d, .int .i64 x, .int .i64 n] 3)).cell? ⟨V.heap.size, 0, none⟩ = some (.int .i64 t) ∧ (V.alloc (.cells #[.int .i64 t, .int .i64 d, .int .i64 x, .int .i64 n] 3)).cell? ⟨V.heap.size, 1, none⟩ = some (.int .i64 d) ∧ (V.alloc (.cells #[.int .i64 t, .int .i64 d, .int .i64 x, .int .i64 n] 3)).cell? ⟨V.heap.size, 2, none⟩ = some (.int .i64 x) ∧ (V.alloc (.cells #[.int .i64 t, .int .i64 d, .int .i64 x, .int .i64 n] 3)).cell? ⟨V.heap.size, 3, none⟩ = some (.int .i64 n)) := Lib.hid fun V x => by
    have h := heap_alloc_new V (.cells #[.int .i64 t, .int .i64 d, .int .i64 x, .int .i64 n] 3)
    exact ⟨by rw [cell_of_row _ _ _ _ _ _ h]; rfl, by rw [cell_of_row _ _ _ _ _ _ h]; rfl, by rw [cell_of_row _ _ _ _ _ _ h]; rfl, by rw [cell_of_row _ _ _ _ _ _ h]; rfl⟩
  clear hL hsm hlen ht hd hn
  have hsz : (w.alloc (.cells #[.int .i64 t, .int .i64 f, .int .i64 m] 69)).heap.size = w.heap.size + 1 := by simp
  replace hsz := Lib.hid hsz
  cases b with
  | false =>
    simp only [Bool.false_eq_true, if_false] at hl hE
    go_enter Tryd.func44, Tryd.ntmps44
    go_wp2_with fail
    have h49 := hnew.out (w.alloc (.cells #[.int .i64 t, .int .i64 f, .int .i64 m] 69)) 0
    generalize w.alloc (.cells #[.int .i64 t, .int .i64 f, .int .i64 m] 69) = W1 at *
    obtain ⟨x0, x1, x2, x3⟩ := h49
    rw [hsz.out] at x0 x1 x2 x3
    refine (hl.out _ (w.heap.size + 1) x0 x1 x2 x3).mono ?_
    rintro e w2 ⟨A2, m2, c2, rfl, hR2, hb2⟩
    have hB2 := (hB1.alloc hB1.size (.cells #[.int .i64 t, .int .i64 d, .int .i64 0, .int .i64 n] 3)).trans (hb2.mono (hB1.alloc hB1.size _).size)
    replace hR2 := Lib.hid hR2
    clear x0 x1 x2 x3 hb2
    go_wp2_with fail
    refine (hE.out w2 A2 m2 c2 hR2.out).mono ?_
    rintro e w3 ⟨A3, c3, rfl, h31, h32, h33, h34, h35⟩
    replace h33 := Lib.hid h33
    go_wp2_with fail
    refine bodyPost_ret (v := .slice A3 L.length c3) (by simp [results, Tryd.results44, go_sem]) rfl ⟨A3, c3, rfl, h31, h32, h33.out, hB2.trans (h34.mono hB2.size), fun g o e hne => ⟨Nat.le_trans hB2.size (h35 g o e hne).1, (h35 g o e hne).2⟩⟩
  | true =>
    simp only [if_true] at hl hE
    go_enter Tryd.func44, Tryd.ntmps44
    go_wp2_with fail
    have h49 := hnew.out (w.alloc (.cells #[.int .i64 t, .int .i64 f, .int .i64 m] 69)) 1
    generalize w.alloc (.cells #[.int .i64 t, .int .i64 f, .int .i64 m] 69) = W1 at *
    obtain ⟨x0, x1, x2, x3⟩ := h49
    rw [hsz.out] at x0 x1 x2 x3
    refine (hl.out _ (w.heap.size + 1) x0 x1 x2 x3).mono ?_
    rintro e w2 ⟨A2, m2, c2, rfl, hR2, hb2⟩
    have hB2 := (hB1.alloc hB1.size (.cells #[.int .i64 t, .int .i64 d, .int .i64 1, .int .i64 n] 3)).trans (hb2.mono (hB1.alloc hB1.size _).size)
    replace hR2 := Lib.hid hR2
    clear x0 x1 x2 x3 hb2
    go_wp2_with fail
    refine (hE.out w2 A2 m2 c2 hR2.out).mono ?_
    rintro e w3 ⟨A3, c3, rfl, h31, h32, h33, h34, h35⟩
    replace h33 := Lib.hid h33
    go_wp2_with fail
    refine bodyPost_ret (v := .slice A3 L.length c3) (by simp [results, Tryd.results44, go_sem]) rfl ⟨A3, c3, rfl, h31, h32, h33.out, hB2.trans (h34.mono hB2.size), fun g o e hne => ⟨Nat.le_trans hB2.size (h35 g o e hne).1, (h35 g o e hne).2⟩⟩
end Go.Proofs.YtnccbhndlnkboaaDoor
