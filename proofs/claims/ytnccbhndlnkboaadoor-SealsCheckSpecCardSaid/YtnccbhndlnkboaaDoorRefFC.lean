/- The walks of the reference's Formed, Depth and Check. -/
import Derived.Test.YtnccbhndlnkboaaDoorFormF
import Derived.Test.YtnccbhndlnkboaaDoorNumR
import Derived.Test.YtnccbhndlnkboaaDoorWriteE
namespace Go.Proofs.YtnccbhndlnkboaaDoor
open Go.RowKit Cdc
set_option linter.unusedVariables false
set_option linter.unusedSimpArgs false

mutual
/-- the reference's depth: of every value, well-formed or not -/
def rd : V → Nat
  | ⟨k, _, _, l⟩ => if k = 3 then rdL l + 1 else 0
def rdL : List V → Nat
  | [] => 0
  | x :: xs => max (rd x) (rdL xs)
end

theorem rdL_snoc (l : List V) (x : V) : rdL (l ++ [x]) = max (rdL l) (rd x) := by
  induction l with
  | nil => simp [rdL]
  | cons y l ih => simp only [List.cons_append, rdL, ih]; omega

theorem rd_le_dp (x : V) : rd x ≤ dp x := by
  refine V.ind (P := fun x => rd x ≤ dp x) ?_ x
  intro k n s l ih
  have hL : ∀ (l : List V), (∀ x ∈ l, rd x ≤ dp x) → rdL l ≤ dpL l := by
    intro l
    induction l with
    | nil => intro _; simp [rdL, dpL]
    | cons y l ihl =>
      intro hy
      simp only [rdL, dpL]
      have := hy y (by simp)
      have := ihl (fun x hx => hy x (by simp [hx]))
      omega
  have := hL l ih
  simp only [rd, dp]
  split <;> omega

theorem rd_fm (x : V) : ∀ a, fm x = some a → rd x = a := by
  refine V.ind (P := fun x => ∀ a, fm x = some a → rd x = a) ?_ x
  intro k n s l ih a h
  have hL : ∀ (l : List V), (∀ x ∈ l, ∀ a, fm x = some a → rd x = a) → ∀ b, fmL l = some b → rdL l = b := by
    intro l
    induction l with
    | nil => intro _ b hb; simp only [fmL] at hb; injection hb
    | cons y l ihl =>
      intro hy b hb
      simp only [fmL] at hb
      simp only [rdL]
      cases h1 : fm y with
      | none => rw [h1] at hb; cases hb
      | some c =>
        rw [h1] at hb
        simp only [Option.map_eq_some_iff] at hb
        obtain ⟨e, he, rfl⟩ := hb
        rw [hy y (by simp) c h1, ihl (fun x hx => hy x (by simp [hx])) e he]
  simp only [fm] at h
  simp only [rd]
  by_cases h1 : k = 1
  · subst h1
    rw [if_pos rfl] at h
    split at h
    · injection h with h
    · cases h
  · rw [if_neg h1] at h
    by_cases h2 : k = 2
    · subst h2
      rw [if_pos rfl] at h
      split at h
      · injection h with h
      · cases h
    · rw [if_neg h2] at h
      by_cases h3 : k = 3
      · rw [if_pos h3] at h ⊢
        split at h
        · simp only [Option.map_eq_some_iff] at h
          obtain ⟨e, he, rfl⟩ := h
          rw [hL l ih e he]
        · cases h
      · rw [if_neg h3] at h; cases h

def DepthPost (x : V) (w : World) (e : Ending) (w' : World) : Prop := e = .returned (.int .i64 (rd x)) ∧ Below w.heap.size w w'

set_option maxRecDepth 100000 in
set_option maxHeartbeats 1000000 in
theorem depth_list (n : Int) (s : ByteArray) (l : List V) (A : Option Addr) (c : Nat) (w : World) (hl : l.length ≤ 1000000000000) (hd : dpL l ≤ 1000000000000)
    (hel : Els w A l fun y v' W => Calls Tryd.prog 104 #[vv y v'] W (DepthPost y W)) :
    Calls Tryd.prog 104 #[vv ⟨3, n, s, l⟩ (.slice A l.length c)] w (DepthPost ⟨3, n, s, l⟩ w) := by
  unfold vv
  dsimp only
  go_enter Tryd.func104, Tryd.ntmps104
  go_wp2
  obtain ⟨W0, hW0⟩ : ∃ W0, w.alloc (Obj.cells #[Value.int IntKind.i64 3, Value.int IntKind.i64 n, Value.string s, Value.slice A l.length c] 96) = W0 := ⟨_, rfl⟩
  have hB0 : Below w.heap.size w W0 := by rw [← hW0]; exact ((Below.refl _ w).alloc (Nat.le_refl _) _)
  have hlt0 : w.heap.size < W0.heap.size := by rw [← hW0]; simp
  have hc0 : W0.cell? ⟨w.heap.size, 3, none⟩ = some (Value.slice A l.length c) := by rw [← hW0]; simp [go_sem]
  rw [hW0]
  clear hW0
  go_loopw [3, 4] (fun s3 s4 wr => ∃ (i a : Nat), i ≤ l.length ∧ Hid (rdL (l.take i) = a) ∧ s3 = .int .i64 a ∧ s4 = .int .i64 i ∧ a ≤ 1000000000000 ∧ Below W0.heap.size W0 wr) (fun _ s4 _ => l.length - (intOf s4).toNat)
  case atStart => exact ⟨0, 0, Nat.zero_le _, rfl, rfl, rfl, by omega, Below.refl _ _⟩
  case round =>
    obtain ⟨i, a, hi, hfm, rfl, rfl, ha, hB⟩ := hrel
    have hcr : wr.cell? ⟨w.heap.size, 3, none⟩ = some (Value.slice A l.length c) := (hB.cell (p := ⟨w.heap.size, 3, none⟩) hlt0).trans hc0
    have hBw : Below w.heap.size w wr := hB0.trans (hB.mono hB0.size)
    clear hc0
    by_cases hlt : i < l.length
    · obtain ⟨y, hy⟩ : ∃ y, l[i]? = some y := ⟨_, List.getElem?_eq_getElem hlt⟩
      obtain ⟨b, o, A', c', rfl, hat⟩ := hel i y hy
      obtain ⟨hb, h0, h1, h2, h3, hP⟩ := hat wr hBw
      have hP2 := Lib.hid hP
      have hfs := rdL_snoc (l.take i) y
      rw [← take_snoc_some hy, hfm.out] at hfs
      have hdy := dp_mem (List.mem_of_getElem? hy)
      have hry := rd_le_dp y
      have HF := Lib.hid hfs
      clear hP hat hel hfs
      go_wp2_with (go_at_call 104; refine hP2.out.mono ?_; rintro e w' ⟨rfl, hb'⟩)
      go_roundw
      case rel => exact ⟨i + 1, max a (rd y), by omega, HF, by first | rfl | (congr 1; omega), by go_num, by omega, hB.trans (‹Below wr.heap.size wr _›.mono hB.size)⟩
      case measure => simp [intOf]; omega
    · obtain rfl : i = l.length := by omega
      clear hel
      have HF : Hid (rdL l = a) := by have := hfm.out; rw [List.take_length] at this; exact this
      go_wp2
      go_ret
      refine ⟨?_, hBw⟩
      simp only [rd, if_true]
      rw [HF.out]
      rfl

set_option maxHeartbeats 400000 in
theorem depth_atom (k n : Int) (s : ByteArray) (l : List V) (v : Value) (w : World) (h : (k != 3) = true) (hv : ∃ A m c, v = .slice A m c) :
    Calls Tryd.prog 104 #[vv ⟨k, n, s, l⟩ v] w (DepthPost ⟨k, n, s, l⟩ w) := by
  obtain ⟨A, m, c, rfl⟩ := hv
  have h2 : ¬ k = 3 := by simpa using h
  have hr : rd ⟨k, n, s, l⟩ = 0 := by simp only [rd]; rw [if_neg h2]
  unfold DepthPost
  rw [hr]
  clear hr h2
  unfold vv
  dsimp only
  go_enter Tryd.func104, Tryd.ntmps104
  go_wp2
  go_ret
  exact ⟨rfl, ((Below.refl _ _).alloc (Nat.le_refl _) _)⟩

theorem depth_any (d : Nat) : ∀ (x : V) (v : Value) (w : World), RS w d x.l v → Sm x → dp x ≤ 1000000000000 →
    Calls Tryd.prog 104 #[vv x v] w (DepthPost x w) := by
  induction d with
  | zero =>
    intro x v w hv hs hd
    obtain ⟨k, n, s, l⟩ := x
    obtain ⟨hl, A, c, rfl⟩ := hv
    dsimp only at hl
    subst hl
    by_cases h : k = 3
    · subst h
      exact depth_list n s [] A c w (by simp) (by simp [dpL]) (Els.nil _ _ _)
    · exact depth_atom k n s [] _ w (by simpa using h) ⟨A, 0, c, rfl⟩
  | succ d ih =>
    intro x v w hv hs hd
    obtain ⟨k, n, s, l⟩ := x
    dsimp only at hv
    obtain ⟨A, c, rfl⟩ := hv.form
    simp only [Sm] at hs
    simp only [dp] at hd
    by_cases h : k = 3
    · subst h
      exact depth_list n s l A c w (by omega) (by omega) (Els.of_RS hv fun y hy v' W hr => ih y v' W hr (SmL_mem hs.2.2.2 y hy) (by have := dp_mem hy; omega))
    · exact depth_atom k n s l _ w (by simpa using h) ⟨A, _, c, rfl⟩

def RFormedPost (x : V) (w : World) (e : Ending) (w' : World) : Prop := e = .returned (.bool (fmOk x)) ∧ Below w.heap.size w w'

theorem fmOk_list (n : Int) (s : ByteArray) (l : List V) : fmOk ⟨3, n, s, l⟩ = ((n == 0 && s.toList.isEmpty) && (fmL l).isSome) := by
  unfold fmOk
  rw [fm, if_neg (by decide), if_neg (by decide), if_pos rfl]
  by_cases h1 : n = 0
  · by_cases h2 : s.size = 0
    · rw [if_pos ⟨h1, h2⟩, byte_empty h2, h1]
      cases fmL l <;> simp
    · rw [if_neg (fun e => h2 e.2), str_ne h2, h1]
      simp
  · rw [if_neg (fun e => h1 e.1)]
    simp [h1]

set_option maxRecDepth 100000 in
set_option maxHeartbeats 1000000 in
theorem rformed_list (n : Int) (s : ByteArray) (l : List V) (A : Option Addr) (c : Nat) (w : World) (hl : l.length ≤ 1000000000000)
    (hel : Els w A l fun y v' W => Calls Tryd.prog 103 #[vv y v'] W (RFormedPost y W)) :
    Calls Tryd.prog 103 #[vv ⟨3, n, s, l⟩ (.slice A l.length c)] w (RFormedPost ⟨3, n, s, l⟩ w) := by
  unfold vv RFormedPost
  rw [fmOk_list]
  dsimp only
  go_enter Tryd.func103, Tryd.ntmps103
  go_wp2
  obtain ⟨W0, hW0⟩ : ∃ W0, w.alloc (Obj.cells #[Value.int IntKind.i64 3, Value.int IntKind.i64 n, Value.string s, Value.slice A l.length c] 96) = W0 := ⟨_, rfl⟩
  have hB0 : Below w.heap.size w W0 := by rw [← hW0]; exact ((Below.refl _ w).alloc (Nat.le_refl _) _)
  have hlt0 : w.heap.size < W0.heap.size := by rw [← hW0]; simp
  have hc0 : W0.cell? ⟨w.heap.size, 3, none⟩ = some (Value.slice A l.length c) := by rw [← hW0]; simp [go_sem]
  have hc1 : W0.cell? ⟨w.heap.size, 1, none⟩ = some (Value.int IntKind.i64 n) := by rw [← hW0]; simp [go_sem]
  have hc2 : W0.cell? ⟨w.heap.size, 2, none⟩ = some (Value.string s) := by rw [← hW0]; simp [go_sem]
  rw [hW0]
  clear hW0
  go_loopw [3] (fun s3 wr => ∃ (i : Nat), i ≤ l.length ∧ Hid ((fmL (l.take i)).isSome = true) ∧ s3 = .int .i64 i ∧ Below W0.heap.size W0 wr) (fun s3 _ => l.length - (intOf s3).toNat)
  case atStart => exact ⟨0, Nat.zero_le _, rfl, rfl, Below.refl _ _⟩
  case round =>
    obtain ⟨i, hi, hfm, rfl, hB⟩ := hrel
    have hcr : wr.cell? ⟨w.heap.size, 3, none⟩ = some (Value.slice A l.length c) := (hB.cell (p := ⟨w.heap.size, 3, none⟩) hlt0).trans hc0
    have hcr1 : wr.cell? ⟨w.heap.size, 1, none⟩ = some (Value.int IntKind.i64 n) := (hB.cell (p := ⟨w.heap.size, 1, none⟩) hlt0).trans hc1
    have hcr2 : wr.cell? ⟨w.heap.size, 2, none⟩ = some (Value.string s) := (hB.cell (p := ⟨w.heap.size, 2, none⟩) hlt0).trans hc2
    have hBw : Below w.heap.size w wr := hB0.trans (hB.mono hB0.size)
    clear hc0 hc1 hc2
    by_cases hlt : i < l.length
    · obtain ⟨y, hy⟩ : ∃ y, l[i]? = some y := ⟨_, List.getElem?_eq_getElem hlt⟩
      obtain ⟨b, o, A', c', rfl, hat⟩ := hel i y hy
      obtain ⟨hb, h0, h1, h2, h3, hP⟩ := hat wr hBw
      have hfs := fmL_snoc (l.take i) y
      rw [← take_snoc_some hy] at hfs
      obtain ⟨a, ha⟩ := Option.isSome_iff_exists.1 hfm.out
      rw [ha] at hfs
      unfold RFormedPost fmOk at hP
      cases hy2 : fm y with
      | none =>
        rw [hy2] at hP
        have hno : Hid ((fmL l).isSome = false) := by rw [fmL_take_none hy hy2]; rfl
        have hP2 := Lib.hid hP
        clear hP hy2 hat hel hfs
        go_wp2_with (go_at_call 103; refine hP2.out.mono ?_; rintro e w' ⟨rfl, hb'⟩)
        go_ret
        refine ⟨?_, hBw.trans (‹Below wr.heap.size wr _›.mono hBw.size)⟩
        rw [hno.out, Bool.and_false]
        rfl
      | some a' =>
        rw [hy2] at hP hfs
        have hP2 := Lib.hid hP
        have HF : Hid ((fmL (l.take (i + 1))).isSome = true) := by rw [hfs]; rfl
        clear hP hy2 hat hel hfs
        go_wp2_with (go_at_call 103; refine hP2.out.mono ?_; rintro e w' ⟨rfl, hb'⟩)
        go_roundw
        case rel => exact ⟨i + 1, by omega, HF, by go_num, hB.trans (‹Below wr.heap.size wr _›.mono hB.size)⟩
        case measure => simp [intOf]; omega
    · obtain rfl : i = l.length := by omega
      clear hel
      have HF : Hid ((fmL l).isSome = true) := by have := hfm.out; rw [List.take_length] at this; exact this
      by_cases h1 : n = 0
      · subst h1
        go_wp2
        go_ret
        refine ⟨?_, hBw⟩
        rw [HF.out, Bool.and_true]
        rfl
      · have h2 : (n == 0) = false := by simpa using h1
        clear h1
        go_wp2
        go_ret
        refine ⟨?_, hBw⟩
        rw [HF.out, Bool.and_true]
        first | rfl | (rw [h2]; rfl)
end Go.Proofs.YtnccbhndlnkboaaDoor
/- The walks of the reference's Formed (at every value) and Check. -/
namespace Go.Proofs.YtnccbhndlnkboaaDoor
open Go.RowKit Cdc
set_option linter.unusedVariables false
set_option linter.unusedSimpArgs false

set_option maxRecDepth 100000 in
set_option maxHeartbeats 1000000 in
theorem rformed_atom (k n : Int) (s : ByteArray) (m : Nat) (A : Option Addr) (c : Nat) (w : World) (b : Bool)
    (h : (k = 1 ∧ b = (s.toList.isEmpty && ((m : Int) == 0))) ∨ (k = 2 ∧ b = ((n == 0) && ((m : Int) == 0))) ∨ ((k == 1) = false ∧ (k == 2) = false ∧ (k == 3) = false ∧ b = false)) :
    Calls Tryd.prog 103 #[.agg #[.int .i64 k, .int .i64 n, .string s, .slice A m c]] w fun e w' => e = .returned (.bool b) ∧ Below w.heap.size w w' := by
  rcases h with ⟨rfl, rfl⟩ | ⟨rfl, rfl⟩ | ⟨h1, h2, h3, rfl⟩
  · by_cases hs : s.size = 0
    · obtain rfl := byte_empty hs
      go_enter Tryd.func103, Tryd.ntmps103
      go_wp2
      go_ret
      refine ⟨?_, ((Below.refl _ _).alloc (Nat.le_refl _) _)⟩
      simp
    · have h := str_ne hs
      go_enter Tryd.func103, Tryd.ntmps103
      go_wp2
      go_ret
      refine ⟨?_, ((Below.refl _ _).alloc (Nat.le_refl _) _)⟩
      first | rfl | simp [h]
  · cases hn : (n == 0) with
    | true =>
      go_enter Tryd.func103, Tryd.ntmps103
      go_wp2
      go_ret
      refine ⟨?_, ((Below.refl _ _).alloc (Nat.le_refl _) _)⟩
      first | rfl | simp
    | false =>
      go_enter Tryd.func103, Tryd.ntmps103
      go_wp2
      go_ret
      refine ⟨?_, ((Below.refl _ _).alloc (Nat.le_refl _) _)⟩
      first | rfl | simp
  · go_enter Tryd.func103, Tryd.ntmps103
    go_wp2
    go_ret
    exact ⟨rfl, ((Below.refl _ _).alloc (Nat.le_refl _) _)⟩

theorem fmOk_case (k n : Int) (s : ByteArray) (l : List V) (h3 : ¬ k = 3) :
    (k = 1 ∧ fmOk ⟨k, n, s, l⟩ = (s.toList.isEmpty && ((l.length : Int) == 0))) ∨ (k = 2 ∧ fmOk ⟨k, n, s, l⟩ = ((n == 0) && ((l.length : Int) == 0))) ∨ ((k == 1) = false ∧ (k == 2) = false ∧ (k == 3) = false ∧ fmOk ⟨k, n, s, l⟩ = false) := by
  unfold fmOk
  rw [fm]
  have hlen : l = [] ↔ l.length = 0 := List.length_eq_zero_iff.symm
  have hl : ((l.length : Int) == 0) = decide (l = []) := by
    by_cases c : l.length = 0
    · rw [decide_eq_true (hlen.2 c)]; simp [c]
    · rw [decide_eq_false (fun e => c (hlen.1 e))]
      have : ¬ ((l.length : Int) = 0) := by omega
      simpa using this
  by_cases h1 : k = 1
  · subst h1
    rw [if_pos rfl, hl]
    refine .inl ⟨rfl, ?_⟩
    by_cases c : s.size = 0
    · have : s.toList.isEmpty = true := by rw [byte_empty c]; simp
      rw [this]
      by_cases c2 : l = []
      · rw [if_pos ⟨c, c2⟩]; simp [c2]
      · rw [if_neg (fun e => c2 e.2)]; simp [c2]
    · rw [str_ne c, if_neg (fun e => c e.1)]; rfl
  · rw [if_neg h1]
    by_cases h2 : k = 2
    · subst h2
      rw [if_pos rfl, hl]
      refine .inr (.inl ⟨rfl, ?_⟩)
      by_cases c : n = 0
      · by_cases c2 : l = []
        · rw [if_pos ⟨c, c2⟩]; simp [c, c2]
        · rw [if_neg (fun e => c2 e.2)]; simp [c, c2]
      · rw [if_neg (fun e => c e.1)]; simp [c]
    · rw [if_neg h2, if_neg h3]
      refine .inr (.inr ⟨by simpa using h1, by simpa using h2, by simpa using h3, rfl⟩)

theorem rformed_any (d : Nat) : ∀ (x : V) (v : Value) (w : World), RS w d x.l v → Sm x →
    Calls Tryd.prog 103 #[vv x v] w (RFormedPost x w) := by
  induction d with
  | zero =>
    intro x v w hv hs
    obtain ⟨k, n, s, l⟩ := x
    obtain ⟨hl, A, c, rfl⟩ := hv
    dsimp only at hl
    subst hl
    by_cases h : k = 3
    · subst h
      exact rformed_list n s [] A c w (by simp) (Els.nil _ _ _)
    · exact rformed_atom k n s 0 A c w _ (fmOk_case k n s [] h)
  | succ d ih =>
    intro x v w hv hs
    obtain ⟨k, n, s, l⟩ := x
    dsimp only at hv
    obtain ⟨A, c, rfl⟩ := hv.form
    simp only [Sm] at hs
    by_cases h : k = 3
    · subst h
      exact rformed_list n s l A c w (by omega) (Els.of_RS hv fun y hy v' W hr => ih y v' W hr (SmL_mem hs.2.2.2 y hy))
    · exact rformed_atom k n s l.length A c w _ (fmOk_case k n s l h)

set_option maxRecDepth 100000 in
set_option maxHeartbeats 1000000 in
/-- the cells of a boxed value, in a later world -/
theorem box_cells (x : V) (A : Option Addr) (c : Nat) (w W : World) (h : Below (w.alloc (.cells #[.int .i64 x.k, .int .i64 x.n, .string x.s, .slice A x.l.length c] 96)).heap.size (w.alloc (.cells #[.int .i64 x.k, .int .i64 x.n, .string x.s, .slice A x.l.length c] 96)) W) :
    W.cell? ⟨w.heap.size, 0, none⟩ = some (.int .i64 x.k) ∧ W.cell? ⟨w.heap.size, 1, none⟩ = some (.int .i64 x.n) ∧ W.cell? ⟨w.heap.size, 2, none⟩ = some (.string x.s) ∧ W.cell? ⟨w.heap.size, 3, none⟩ = some (.slice A x.l.length c) := by
  refine ⟨?_, ?_, ?_, ?_⟩ <;> (rw [h.cell (by simp)]; simp [go_sem])

set_option maxRecDepth 100000 in
set_option maxHeartbeats 1000000 in
theorem rcheck_any (d : Nat) (x : V) (v : Value) (w : World) (hv : RS w d x.l v) (hs : Sm x) (hd : dp x ≤ 1000000000000) :
    Calls Tryd.prog 88 #[vv x v] w fun e w' => e = .returned (.int .i64 (ckE x)) ∧ Below w.heap.size w w' := by
  have hf := fun W (hW : Below w.heap.size w W) => rformed_any d x v W (hv.below hW) hs
  have hdp := fun W (hW : Below w.heap.size w W) => depth_any d x v W (hv.below hW) hs hd
  obtain ⟨A, c, rfl⟩ := hv.form
  have hB0 : Below w.heap.size w (w.alloc (.cells #[.int .i64 x.k, .int .i64 x.n, .string x.s, .slice A x.l.length c] 96)) := (Below.refl _ _).alloc (Nat.le_refl _) _
  have hf2 := hf _ hB0
  unfold RFormedPost fmOk at hf2
  cases h : fm x with
  | none =>
    have hE : ckE x = 1 := by unfold ckE; rw [h]
    rw [hE]
    rw [h] at hf2
    have hf3 := Lib.hid hf2
    clear hf hdp hf2 h hE
    go_enter Tryd.func88, Tryd.ntmps88
    go_wp2_with (go_at_call 103; refine hf3.out.mono ?_; rintro e w' ⟨rfl, hb⟩)
    go_ret
    exact ⟨rfl, hB0.trans (‹Below _ _ w'›.mono hB0.size)⟩
  | some a =>
    rw [h] at hf2
    have hf3 := Lib.hid hf2
    have hrd : rd x = a := rd_fm x a h
    have hd2 := Lib.hid hdp
    have hx : a ≤ 1000000000000 := by have := fm_le_dp x a h; omega
    unfold DepthPost at hd2
    rw [hrd] at hd2
    by_cases h16 : 16 < a
    · have hE : ckE x = 2 := by unfold ckE; rw [h]; simp [h16]
      rw [hE]
      clear hf hdp hf2 h hE hrd
      go_enter Tryd.func88, Tryd.ntmps88
      go_wp2_with (first
        | (go_at_call 103; refine hf3.out.mono ?_; rintro e w1 ⟨rfl, hb⟩; obtain ⟨q0, q1, q2, q3⟩ := box_cells x A c w w1 hb)
        | (go_at_call 104; refine (hd2.out w1 (hB0.trans (hb.mono hB0.size))).mono ?_; rintro e w2 ⟨rfl, hb2⟩))
      go_ret
      exact ⟨rfl, (hB0.trans (hb.mono hB0.size)).trans (hb2.mono (Nat.le_trans hB0.size hb.size))⟩
    · have hE : ckE x = 0 := by unfold ckE; rw [h]; simp [h16]
      have h16' : a ≤ 16 := by omega
      rw [hE]
      clear hf hdp hf2 h hE hrd h16
      go_enter Tryd.func88, Tryd.ntmps88
      go_wp2_with (first
        | (go_at_call 103; refine hf3.out.mono ?_; rintro e w1 ⟨rfl, hb⟩; obtain ⟨q0, q1, q2, q3⟩ := box_cells x A c w w1 hb)
        | (go_at_call 104; refine (hd2.out w1 (hB0.trans (hb.mono hB0.size))).mono ?_; rintro e w2 ⟨rfl, hb2⟩))
      go_ret
      exact ⟨rfl, (hB0.trans (hb.mono hB0.size)).trans (hb2.mono (Nat.le_trans hB0.size hb.size))⟩
end Go.Proofs.YtnccbhndlnkboaaDoor
/- The walks of the reference's encode, Encode and Size. -/
namespace Go.Proofs.YtnccbhndlnkboaaDoor
open Go.RowKit Cdc
set_option linter.unusedVariables false
set_option linter.unusedSimpArgs false

set_option maxRecDepth 100000 in
set_option maxHeartbeats 1000000 in
theorem rencode_int (n : Int) (hn : -9223372036854775808 ≤ n ∧ n ≤ 9223372036854775807) (s : ByteArray) (A : Option Addr) (m c : Nat) (w : World) :
    Calls Tryd.prog 89 #[.agg #[.int .i64 1, .int .i64 n, .string s, .slice A m c]] w (Fresh (1 :: num (uz n)) w) := by
  have hu := uz_lt hn
  have hn2 := num_len (uz n) hu
  unfold Fresh
  go_enter Tryd.func89, Tryd.ntmps89
  go_wp2_with (first
    | (go_at_call 106; refine (runsigned_any n hn _).mono ?_; rintro e w' ⟨rfl, rfl⟩)
    | (go_at_call 105; refine (rnumeral_any (uz n) _ (by simpa using hu)).mono ?_; rintro e w1 ⟨v1, rfl, hown, hh, hbl⟩; obtain ⟨g, cc, rfl, hg, hcell⟩ := hown.addr (num_ne _))
    | (at_builtin; refine wpList_app _ rfl (.tmp 9) (.tmp 13) rfl _ [1] ⟨g, 0, none⟩ _ cc (num (uz n)) rfl rfl ((Own.one2 _ 1 _ rfl _ (by simp)).below hbl) rfl hcell (by simp; omega) ?_; intro v2 w2 hown2 hg2))
  go_ret
  refine ⟨v2, rfl, hown2, hg2.high (B := w.heap.size) (by have := hbl.size; simp at this; omega) (fun g hg => by injection hg with hg; dsimp only at hg; omega), ?_⟩
  exact ((((Below.refl _ _).alloc (Nat.le_refl _) _).alloc (by simp) _).trans (hbl.mono (by simp; omega))).grown hg2.grown (by have := hbl.size; simp at this; omega) (fun g hg => by injection hg with hg; dsimp only at hg; omega)

set_option maxRecDepth 100000 in
set_option maxHeartbeats 1000000 in
theorem rencode_text (s : ByteArray) (hs : s.size ≤ 1000000000) (n : Int) (A : Option Addr) (m c : Nat) (w : World) :
    Calls Tryd.prog 89 #[.agg #[.int .i64 2, .int .i64 n, .string s, .slice A m c]] w (Fresh (2 :: (num s.size ++ s.data.toList)) w) := by
  have hn2 := num_len s.size (by have e : (2 : Nat) ^ 64 = 18446744073709551616 := by decide
                                 omega)
  have hwr : IntKind.u64.wrap (s.size : Int) = s.size := by rw [wrap_u64]; omega
  unfold Fresh
  go_enter Tryd.func89, Tryd.ntmps89
  go_wp2
  obtain ⟨W0, hW0⟩ : ∃ W0, w.alloc (Obj.cells #[Value.int IntKind.i64 2, Value.int IntKind.i64 n, Value.string s, Value.slice A m c] 96) = W0 := ⟨_, rfl⟩
  have hB0 : Below w.heap.size w W0 := by rw [← hW0]; exact (Below.refl _ _).alloc (Nat.le_refl _) _
  have hc1 : W0.cell? ⟨w.heap.size, 2, none⟩ = some (Value.string s) := by rw [← hW0]; simp [go_sem]
  have hsz : w.heap.size < W0.heap.size := by rw [← hW0]; simp
  rw [hW0]
  clear hW0
  go_region_held3 (fun w' => w'.cell? ⟨w.heap.size, 2, none⟩ = some (Value.string s))
    (first
      | go_keep
      | (rw [hbl.cell (by simp; omega)]; go_keep)
      | (have z1 := hbl.size
         try simp at z1
         rw [hg2.cell (by first | omega | (simp; omega)) (fun e => by injection e with e; dsimp only at e; omega)]; assumption)
      | (have z1 := hbl.size
         try simp at z1
         have z2 := hg2.grown.size
         try simp at z2
         have n2 := hg2.apart (g := w.heap.size) (by first | omega | (simp; omega)) (fun e => by injection e with e; dsimp only at e; omega)
         rw [hg3.cell (by first | omega | (simp; omega)) n2]; assumption))
    (first
      | (refine step_app _ (by rfl) (.tmp 17) (.tmp 22) (by rfl) (.slice (some ⟨W0.heap.size, 0, none⟩) 1 1) [2] ⟨g, 0, none⟩ _ cc (num s.size) (by rfl) (by rfl) (by first | exact (Own.one2 W0 2 _ rfl _ rfl).below hbl | exact (Own.one2 W0 2 _ rfl _ rfl).drew.below hbl | exact ((Own.one2 W0 2 _ rfl _ rfl).below hbl).drew | exact ((Own.one2 W0 2 _ rfl _ rfl).drew.below hbl).drew) rfl hcell (by simp; omega) ?_; intro v2 w2 hown2 hg2)
      | (refine step_app _ (by rfl) (.tmp 17) (.tmp 22) (by rfl) (.slice (some ⟨w1.heap.size, 0, none⟩) 1 1) [2] ⟨g, 0, none⟩ _ cc (num s.size) (by rfl) (by rfl) (by first | exact Own.one2 w1 2 _ rfl _ rfl | exact (Own.one2 w1 2 _ rfl _ rfl).drew) rfl (World.ownsRow.cells (hown1.alloc _) (g := g) rfl) (by simp; omega) ?_; intro v2 w2 hown2 hg2)
      | (refine step_app_str _ (by rfl) (.tmp 23) (.tmp 25) (by rfl) v2 ([2] ++ num s.size) s (by rfl) (by rfl) hown2 (by simp; omega) ?_; intro v3 w3 hown3 hg3)
      | (go_at_call 105; refine (rnumeral_any s.size _ (by omega)).mono ?_; rintro e w1 ⟨v1, rfl, hown1, hh1, hbl⟩; obtain ⟨g, cc, rfl, hg, hcell⟩ := hown1.addr (num_ne _)))
  all_goals
    go_wp2
    go_ret
    have z0 := hB0.size
    have z1 := hbl.size
    try simp at z1
    have hG := hg2.trans hg3
    refine ⟨v3, rfl, by simpa using hown3, hG.high (B := w.heap.size) (by first | omega | (simp; omega)) (fun g hg => by injection hg with hg; dsimp only at hg; omega), ?_⟩
    have hB1 : Below w.heap.size w w1 := by
      first
        | exact hB0.drew.trans (hbl.mono (by simp; omega))
        | exact (hB0.alloc (by omega) _).drew.trans (hbl.mono (by simp; omega))
    first
      | exact hB1.grown hG.grown (by first | omega | (simp; omega)) (fun g hg => by injection hg with hg; dsimp only at hg; omega)
      | exact (hB1.alloc (by omega) _).grown hG.grown (by first | omega | (simp; omega)) (fun g hg => by injection hg with hg; dsimp only at hg; omega)
      | exact (hB1.alloc (by omega) _).drew.grown hG.grown (by first | omega | (simp; omega)) (fun g hg => by injection hg with hg; dsimp only at hg; omega)

theorem enc_ne (x : V) : enc x ≠ [] := fun e => by have := enc_pos x; rw [e] at this; simp at this

set_option maxRecDepth 100000 in
set_option maxHeartbeats 1000000 in
theorem rencode_list (k n : Int) (hk : (k == 1) = false ∧ (k == 2) = false) (s : ByteArray) (l : List V) (A : Option Addr) (c : Nat) (w : World) (hl : l.length ≤ 1000000000) (hlen : (encL l).length ≤ 10000000000)
    (hel : Els w A l fun y v' W => Calls Tryd.prog 89 #[vv y v'] W (Fresh (enc y) W)) :
    Calls Tryd.prog 89 #[.agg #[.int .i64 k, .int .i64 n, .string s, .slice A l.length c]] w (Fresh (3 :: (num l.length ++ encL l)) w) := by
  have hn2 := num_len l.length (by have e : (2 : Nat) ^ 64 = 18446744073709551616 := by decide
                                   omega)
  have hwr : IntKind.u64.wrap (l.length : Int) = l.length := by rw [wrap_u64]; omega
  obtain ⟨hk1, hk2⟩ := hk
  have hbox : ∀ w1, Below ((w.alloc (.cells #[.int .i64 k, .int .i64 n, .string s, .slice A l.length c] 96)).alloc (.cells #[.int .u8 3] 5)).heap.size ((w.alloc (.cells #[.int .i64 k, .int .i64 n, .string s, .slice A l.length c] 96)).alloc (.cells #[.int .u8 3] 5)) w1 →
      w1.cell? ⟨w.heap.size, 3, none⟩ = some (.slice A l.length c) := fun w1 hb => by rw [hb.cell (by simp; omega)]; simp [go_sem]
  have hbox2 := Lib.hid hbox
  clear hbox
  unfold Fresh
  go_enter Tryd.func89, Tryd.ntmps89
  go_wp2_with (first
    | (go_at_call 105; refine (rnumeral_any l.length _ (by omega)).mono ?_; rintro e w1 ⟨v1, rfl, hown, hh, hbl⟩; obtain ⟨g, cc, rfl, hg, hcell⟩ := hown.addr (num_ne _))
    | (at_builtin; refine wpList_app _ rfl (.tmp 27) (.tmp 32) rfl _ [3] ⟨g, 0, none⟩ _ cc (num l.length) rfl rfl ((Own.one2 _ 3 _ rfl _ (by simp)).below hbl) rfl hcell (by simp; omega) ?_; intro v2 w2 hown2 hg2))
  have z1 := hbl.size
  simp at z1
  have hb2 : w2.cell? ⟨w.heap.size, 3, none⟩ = some (.slice A l.length c) := by
    rw [hg2.cell (by dsimp only; omega) (fun e => by injection e with e; dsimp only at e; omega)]
    exact hbox2.out w1 hbl
  have hi2 : ∀ g, v2.ownBlock = some g → w.heap.size + 1 ≤ g := hg2.high (by omega) (fun g hg => by injection hg with hg; dsimp only at hg; omega)
  have hB2 : Below w.heap.size w w2 := ((((Below.refl _ _).alloc (Nat.le_refl _) _).alloc (by simp) _).trans (hbl.mono (by simp; omega))).grown hg2.grown (by omega) (fun g hg => by injection hg with hg; dsimp only at hg; omega)
  have hz2 : w.heap.size + 1 < w2.heap.size := by have := hg2.grown.size; omega
  clear hg2 hbl hbox2 hcell hown hh
  go_wp2
  go_loopw [3, 4] (fun s3 s4 wr => ∃ (i : Nat), i ≤ l.length ∧ s4 = .int .i64 i ∧ Own wr s3 (3 :: (num l.length ++ encL (l.take i))) ∧ Grew w2 wr v2 s3) (fun _ s4 _ => l.length - (intOf s4).toNat)
  case atStart => exact ⟨0, Nat.zero_le _, rfl, by simpa [encL] using hown2, Grew.refl _ _⟩
  case round =>
    obtain ⟨i, hi, rfl, hown, hgr⟩ := hrel
    have hbr : wr.cell? ⟨w.heap.size, 3, none⟩ = some (.slice A l.length c) := (hgr.cell (p := ⟨w.heap.size, 3, none⟩) (by dsimp only; omega) (fun e => by have := hi2 _ e; dsimp only at this; omega)).trans hb2
    have hBr : Below w.heap.size w wr := hB2.grown hgr.grown (by omega) (fun g hg => by have := hi2 _ hg; omega)
    have hir := hgr.high (B := w.heap.size + 1) (by omega) hi2
    have hzr := hgr.grown.size
    by_cases hlt : i < l.length
    · obtain ⟨y, hy⟩ : ∃ y, l[i]? = some y := ⟨_, List.getElem?_eq_getElem hlt⟩
      obtain ⟨be, o, A', c', rfl, hat⟩ := hel i y hy
      obtain ⟨hb, h0, h1, h2, h3, hP⟩ := hat wr hBr
      have hlt2 : (encL (l.take i)).length + (enc y).length ≤ (encL l).length := by
        have h1 : encL (l.take (i + 1)) = encL (l.take i) ++ enc y := by rw [take_snoc_some hy, encL_append]; simp [encL]
        have h2 : encL l = encL (l.take (i + 1)) ++ encL (l.drop (i + 1)) := by rw [← encL_append, List.take_append_drop]
        rw [h2, h1]; simp
      have hP2 := Lib.hid hP
      clear hP hat hel
      go_wp2_with (first
        | (go_at_call 89; refine hP2.out.mono ?_; rintro e w3 ⟨v3, rfl, hown3, hh3, hbl3⟩; obtain ⟨g3, cc3, rfl, hg3, hcell3⟩ := hown3.addr (enc_ne _))
        | (at_builtin; refine wpList_app _ rfl (.tmp 41) (.tmp 47) rfl _ (3 :: (num l.length ++ encL (l.take i))) ⟨g3, 0, none⟩ _ cc3 (enc y) rfl rfl (hown.below hbl3) rfl hcell3 (by simp; omega) ?_; intro v4 w4 hown4 hg4))
      go_roundw
      case rel =>
        refine ⟨i + 1, by omega, by go_num, ?_, ?_⟩
        · rw [take_snoc_some hy, encL_append]
          simpa [encL] using hown4
        · refine (hgr.trans ?_).trans hg4
          exact ⟨⟨hbl3.os, hbl3.tape, hbl3.output, hbl3.size, fun k hk _ => hbl3.block k hk⟩, .inl rfl⟩
      case measure => simp [intOf]; omega
    · obtain rfl : i = l.length := by omega
      clear hel
      go_wp2
      go_ret
      rw [List.take_length] at hown
      exact ⟨_, rfl, hown, fun g hg => by have := hir g hg; omega, hBr⟩

theorem rencode_any (d : Nat) : ∀ (x : V) (v : Value) (w : World) (a : Nat), RS w d x.l v → Sm x → fm x = some a → (enc x).length ≤ 10000000000 → Calls Tryd.prog 89 #[vv x v] w (Fresh (enc x) w) := by
  induction d with
  | zero =>
    intro x v w a hv hs hf hlen
    obtain ⟨k, n, s, l⟩ := x
    obtain ⟨hl, A, c, rfl⟩ := hv
    dsimp only at hl
    subst hl
    simp only [Sm] at hs
    rcases enc_kind hf with h | h | h <;> dsimp only at h <;> subst h
    · simp only [enc, if_true]
      exact rencode_int n hs.1 s A 0 c w
    · rw [enc, if_neg (by decide), if_pos rfl]
      exact rencode_text s hs.2.1 n A 0 c w
    · rw [enc, if_neg (by decide), if_neg (by decide)]
      exact rencode_list 3 n ⟨rfl, rfl⟩ s [] A c w (by simp) (by simp [encL]) (Els.nil _ _ _)
  | succ d ih =>
    intro x v w a hv hs hf hlen
    obtain ⟨k, n, s, l⟩ := x
    dsimp only at hv
    obtain ⟨A, c, rfl⟩ := hv.form
    simp only [Sm] at hs
    rcases enc_kind hf with h | h | h <;> dsimp only at h <;> subst h
    · simp only [enc, if_true]
      exact rencode_int n hs.1 s A _ c w
    · rw [enc, if_neg (by decide), if_pos rfl]
      exact rencode_text s hs.2.1 n A _ c w
    · rw [enc, if_neg (by decide), if_neg (by decide)] at hlen ⊢
      have hm : ∀ y ∈ l, ∃ b, fm y = some b := by
        rw [fm, if_neg (by decide), if_neg (by decide), if_pos rfl] at hf
        split at hf
        · simp only [Option.map_eq_some_iff] at hf
          obtain ⟨b, hb, _⟩ := hf
          exact fun y hy => (fmL_some hb y hy).imp fun _ h => h.1
        · cases hf
      have hel : ∀ y ∈ l, (enc y).length ≤ (encL l).length := by
        intro y hy
        obtain ⟨l1, l2, rfl⟩ := List.append_of_mem hy
        rw [encL_append]
        simp [encL]
        omega
      simp at hlen
      exact rencode_list 3 n ⟨rfl, rfl⟩ s l A c w hs.2.2.1 (by omega) (Els.of_RS hv fun y hy v' W hr => by
        obtain ⟨b, hb⟩ := hm y hy
        exact ih y v' W b hr (SmL_mem hs.2.2.2 y hy) hb (by have := hel y hy; omega))

set_option maxRecDepth 100000 in
set_option maxHeartbeats 1000000 in
theorem rEncode_any (d : Nat) (x : V) (v : Value) (w : World) (hv : RS w d x.l v) (hs : Sm x) (hd : dp x ≤ 1000000000000) (hlen : (enc x).length ≤ 1000000000) :
    Calls Tryd.prog 71 #[vv x v] w (EncPost x w) := by
  have hck := fun W (hW : Below w.heap.size w W) => rcheck_any d x v W (hv.below hW) hs hd
  have hen := fun W (hW : Below w.heap.size w W) a (hf : fm x = some a) => rencode_any d x v W a (hv.below hW) hs hf (by omega)
  obtain ⟨A, c, rfl⟩ := hv.form
  have hB0 : Below w.heap.size w (w.alloc (.cells #[.int .i64 x.k, .int .i64 x.n, .string x.s, .slice A x.l.length c] 96)) := (Below.refl _ _).alloc (Nat.le_refl _) _
  have hck2 := Lib.hid (hck _ hB0)
  unfold EncPost encB
  by_cases hc : ckE x = 0
  · have hf : ∃ a, fm x = some a := by
      unfold ckE at hc
      cases h : fm x with
      | none => rw [h] at hc; cases hc
      | some a => exact ⟨a, rfl⟩
    obtain ⟨a, hf⟩ := hf
    have hen2 := Lib.hid (fun W hW => hen W hW a hf)
    rw [hc] at hck2 ⊢
    rw [if_pos rfl]
    clear hck hen hf hc
    go_enter Tryd.func71, Tryd.ntmps71
    go_wp2_with (first
      | (go_at_call 88; refine hck2.out.mono ?_; rintro e w1 ⟨rfl, hb⟩; obtain ⟨q0, q1, q2, q3⟩ := box_cells x A c w w1 hb)
      | (go_at_call 89; refine (hen2.out w1 (hB0.trans (hb.mono hB0.size))).mono ?_; rintro e w2 ⟨v2, rfl, hown, hh, hb2⟩))
    go_ret2
    have z := hB0.size
    have z1 := hb.size
    exact ⟨v2, rfl, hown, fun g hg => by have := hh g hg; omega, (hB0.trans (hb.mono hB0.size)).trans (hb2.mono (by omega))⟩
  · rw [if_neg hc]
    clear hck hen
    rcases (ckE_cases x).resolve_left hc with h | h
    all_goals
      rw [h] at hck2 ⊢
      clear h hc
      go_enter Tryd.func71, Tryd.ntmps71
      go_wp2_with (go_at_call 88; refine hck2.out.mono ?_; rintro e w1 ⟨rfl, hb⟩)
      go_ret2
      exact ⟨_, rfl, Own.nil _, fun g hg => by (cases hg), hB0.trans (hb.mono hB0.size)⟩

end Go.Proofs.YtnccbhndlnkboaaDoor
