/- The walks of the reference's encode, Encode and Size. -/
import Derived.Test.YthokpfegfnpmhaaDoorNumR
import Derived.Test.YthokpfegfnpmhaaDoorRefFC
import Derived.Test.YthokpfegfnpmhaaDoorWriteE
namespace Go.Proofs.YthokpfegfnpmhaaDoor
open Go.RowKit Cdc
set_option linter.unusedVariables false
set_option linter.unusedSimpArgs false

set_option maxRecDepth 100000 in
set_option maxHeartbeats 1000000 in
theorem rencode_int (n : Int) (hn : -9223372036854775808 ≤ n ∧ n ≤ 9223372036854775807) (s : ByteArray) (A : Option Addr) (m c : Nat) (w : World) :
    Calls Tryd.prog 98 #[.agg #[.int .i64 1, .int .i64 n, .string s, .slice A m c]] w (Fresh (1 :: num (uz n)) w) := by
  have hu := uz_lt hn
  have hn2 := num_len (uz n) hu
  unfold Fresh
  go_enter Tryd.func98, Tryd.ntmps98
  go_wp2_with (first
    | (go_at_call 115; refine (runsigned_any n hn _).mono ?_; rintro e w' ⟨rfl, rfl⟩)
    | (go_at_call 114; refine (rnumeral_any (uz n) _ (by simpa using hu)).mono ?_; rintro e w1 ⟨v1, rfl, hown, hh, hbl⟩; obtain ⟨g, cc, rfl, hg, hcell⟩ := hown.addr (num_ne _))
    | (at_builtin; refine wpList_app _ rfl (.tmp 9) (.tmp 13) rfl _ [1] ⟨g, 0, none⟩ _ cc (num (uz n)) rfl rfl ((Own.one2 _ 1 _ rfl _ (by simp)).below hbl) rfl hcell (by simp; omega) ?_; intro v2 w2 hown2 hg2))
  go_ret
  refine ⟨v2, rfl, hown2, hg2.high (B := w.heap.size) (by have := hbl.size; simp at this; omega) (fun g hg => by injection hg with hg; dsimp only at hg; omega), ?_⟩
  exact ((((Below.refl _ _).alloc (Nat.le_refl _) _).alloc (by simp) _).trans (hbl.mono (by simp; omega))).grown hg2.grown (by have := hbl.size; simp at this; omega) (fun g hg => by injection hg with hg; dsimp only at hg; omega)

set_option maxRecDepth 100000 in
set_option maxHeartbeats 1000000 in
theorem rencode_text (s : ByteArray) (hs : s.size ≤ 1000000000) (n : Int) (A : Option Addr) (m c : Nat) (w : World) :
    Calls Tryd.prog 98 #[.agg #[.int .i64 2, .int .i64 n, .string s, .slice A m c]] w (Fresh (2 :: (num s.size ++ s.data.toList)) w) := by
  have hn2 := num_len s.size (by have e : (2 : Nat) ^ 64 = 18446744073709551616 := by decide
                                 omega)
  have hwr : IntKind.u64.wrap (s.size : Int) = s.size := by rw [wrap_u64]; omega
  unfold Fresh
  go_enter Tryd.func98, Tryd.ntmps98
  go_wp2
  obtain ⟨W0, hW0⟩ : ∃ W0, w.alloc (Obj.cells #[Value.int IntKind.i64 2, Value.int IntKind.i64 n, Value.string s, Value.slice A m c] 80) = W0 := ⟨_, rfl⟩
  have hB0 : Below w.heap.size w W0 := by rw [← hW0]; exact (Below.refl _ _).alloc (Nat.le_refl _) _
  have hc1 : W0.cell? ⟨w.heap.size, 2, none⟩ = some (Value.string s) := by rw [← hW0]; simp [go_sem]
  have hsz : w.heap.size < W0.heap.size := by rw [← hW0]; simp
  rw [hW0]
  clear hW0
  go_region_held3 (fun w' => w'.cell? ⟨w.heap.size, 2, none⟩ = some (Value.string s))
    (first
      | go_keep
      | (rw [hbl.cell (by simp; omega)]; go_keep)
      | (have z1 := hbl.size
         try simp at z1
         rw [hg2.cell (by first | omega | (simp; omega)) (fun e => by injection e with e; dsimp only at e; omega)]; assumption)
      | (have z1 := hbl.size
         try simp at z1
         have z2 := hg2.grown.size
         try simp at z2
         have n2 := hg2.apart (g := w.heap.size) (by first | omega | (simp; omega)) (fun e => by injection e with e; dsimp only at e; omega)
         rw [hg3.cell (by first | omega | (simp; omega)) n2]; assumption))
    (first
      | (refine step_app _ (by rfl) (.tmp 17) (.tmp 22) (by rfl) (.slice (some ⟨W0.heap.size, 0, none⟩) 1 1) [2] ⟨g, 0, none⟩ _ cc (num s.size) (by rfl) (by rfl) (by first | exact (Own.one2 W0 2 _ rfl _ rfl).below hbl | exact (Own.one2 W0 2 _ rfl _ rfl).drew.below hbl | exact ((Own.one2 W0 2 _ rfl _ rfl).below hbl).drew | exact ((Own.one2 W0 2 _ rfl _ rfl).drew.below hbl).drew) rfl hcell (by simp; omega) ?_; intro v2 w2 hown2 hg2)
      | (refine step_app _ (by rfl) (.tmp 17) (.tmp 22) (by rfl) (.slice (some ⟨w1.heap.size, 0, none⟩) 1 1) [2] ⟨g, 0, none⟩ _ cc (num s.size) (by rfl) (by rfl) (by first | exact Own.one2 w1 2 _ rfl _ rfl | exact (Own.one2 w1 2 _ rfl _ rfl).drew) rfl (World.ownsRow.cells (hown1.alloc _) (g := g) rfl) (by simp; omega) ?_; intro v2 w2 hown2 hg2)
      | (refine step_app_str _ (by rfl) (.tmp 23) (.tmp 25) (by rfl) v2 ([2] ++ num s.size) s (by rfl) (by rfl) hown2 (by simp; omega) ?_; intro v3 w3 hown3 hg3)
      | (go_at_call 114; refine (rnumeral_any s.size _ (by omega)).mono ?_; rintro e w1 ⟨v1, rfl, hown1, hh1, hbl⟩; obtain ⟨g, cc, rfl, hg, hcell⟩ := hown1.addr (num_ne _)))
  all_goals
    go_wp2
    go_ret
    have z0 := hB0.size
    have z1 := hbl.size
    try simp at z1
    have hG := hg2.trans hg3
    refine ⟨v3, rfl, by simpa using hown3, hG.high (B := w.heap.size) (by first | omega | (simp; omega)) (fun g hg => by injection hg with hg; dsimp only at hg; omega), ?_⟩
    have hB1 : Below w.heap.size w w1 := by
      first
        | exact hB0.drew.trans (hbl.mono (by simp; omega))
        | exact (hB0.alloc (by omega) _).drew.trans (hbl.mono (by simp; omega))
    first
      | exact hB1.grown hG.grown (by first | omega | (simp; omega)) (fun g hg => by injection hg with hg; dsimp only at hg; omega)
      | exact (hB1.alloc (by omega) _).grown hG.grown (by first | omega | (simp; omega)) (fun g hg => by injection hg with hg; dsimp only at hg; omega)
      | exact (hB1.alloc (by omega) _).drew.grown hG.grown (by first | omega | (simp; omega)) (fun g hg => by injection hg with hg; dsimp only at hg; omega)

theorem enc_ne (x : V) : enc x ≠ [] := fun e => by have := enc_pos x; rw [e] at this; simp at this

set_option maxRecDepth 100000 in
set_option maxHeartbeats 1000000 in
theorem rencode_list (k n : Int) (hk : (k == 1) = false ∧ (k == 2) = false) (s : ByteArray) (l : List V) (A : Option Addr) (c : Nat) (w : World) (hl : l.length ≤ 1000000000) (hlen : (encL l).length ≤ 10000000000)
    (hel : Els w A l fun y v' W => Calls Tryd.prog 98 #[vv y v'] W (Fresh (enc y) W)) :
    Calls Tryd.prog 98 #[.agg #[.int .i64 k, .int .i64 n, .string s, .slice A l.length c]] w (Fresh (3 :: (num l.length ++ encL l)) w) := by
  have hn2 := num_len l.length (by have e : (2 : Nat) ^ 64 = 18446744073709551616 := by decide
                                   omega)
  have hwr : IntKind.u64.wrap (l.length : Int) = l.length := by rw [wrap_u64]; omega
  obtain ⟨hk1, hk2⟩ := hk
  have hbox : ∀ w1, Below ((w.alloc (.cells #[.int .i64 k, .int .i64 n, .string s, .slice A l.length c] 80)).alloc (.cells #[.int .u8 3] 5)).heap.size ((w.alloc (.cells #[.int .i64 k, .int .i64 n, .string s, .slice A l.length c] 80)).alloc (.cells #[.int .u8 3] 5)) w1 →
      w1.cell? ⟨w.heap.size, 3, none⟩ = some (.slice A l.length c) := fun w1 hb => by rw [hb.cell (by simp; omega)]; simp [go_sem]
  have hbox2 := Lib.hid hbox
  clear hbox
  unfold Fresh
  go_enter Tryd.func98, Tryd.ntmps98
  go_wp2_with (first
    | (go_at_call 114; refine (rnumeral_any l.length _ (by omega)).mono ?_; rintro e w1 ⟨v1, rfl, hown, hh, hbl⟩; obtain ⟨g, cc, rfl, hg, hcell⟩ := hown.addr (num_ne _))
    | (at_builtin; refine wpList_app _ rfl (.tmp 27) (.tmp 32) rfl _ [3] ⟨g, 0, none⟩ _ cc (num l.length) rfl rfl ((Own.one2 _ 3 _ rfl _ (by simp)).below hbl) rfl hcell (by simp; omega) ?_; intro v2 w2 hown2 hg2))
  have z1 := hbl.size
  simp at z1
  have hb2 : w2.cell? ⟨w.heap.size, 3, none⟩ = some (.slice A l.length c) := by
    rw [hg2.cell (by dsimp only; omega) (fun e => by injection e with e; dsimp only at e; omega)]
    exact hbox2.out w1 hbl
  have hi2 : ∀ g, v2.ownBlock = some g → w.heap.size + 1 ≤ g := hg2.high (by omega) (fun g hg => by injection hg with hg; dsimp only at hg; omega)
  have hB2 : Below w.heap.size w w2 := ((((Below.refl _ _).alloc (Nat.le_refl _) _).alloc (by simp) _).trans (hbl.mono (by simp; omega))).grown hg2.grown (by omega) (fun g hg => by injection hg with hg; dsimp only at hg; omega)
  have hz2 : w.heap.size + 1 < w2.heap.size := by have := hg2.grown.size; omega
  clear hg2 hbl hbox2 hcell hown hh
  go_wp2
  go_loopw [3, 4] (fun s3 s4 wr => ∃ (i : Nat), i ≤ l.length ∧ s4 = .int .i64 i ∧ Own wr s3 (3 :: (num l.length ++ encL (l.take i))) ∧ Grew w2 wr v2 s3) (fun _ s4 _ => l.length - (intOf s4).toNat)
  case atStart => exact ⟨0, Nat.zero_le _, rfl, by simpa [encL] using hown2, Grew.refl _ _⟩
  case round =>
    obtain ⟨i, hi, rfl, hown, hgr⟩ := hrel
    have hbr : wr.cell? ⟨w.heap.size, 3, none⟩ = some (.slice A l.length c) := (hgr.cell (p := ⟨w.heap.size, 3, none⟩) (by dsimp only; omega) (fun e => by have := hi2 _ e; dsimp only at this; omega)).trans hb2
    have hBr : Below w.heap.size w wr := hB2.grown hgr.grown (by omega) (fun g hg => by have := hi2 _ hg; omega)
    have hir := hgr.high (B := w.heap.size + 1) (by omega) hi2
    have hzr := hgr.grown.size
    by_cases hlt : i < l.length
    · obtain ⟨y, hy⟩ : ∃ y, l[i]? = some y := ⟨_, List.getElem?_eq_getElem hlt⟩
      obtain ⟨be, o, A', c', rfl, hat⟩ := hel i y hy
      obtain ⟨hb, h0, h1, h2, h3, hP⟩ := hat wr hBr
      have hlt2 : (encL (l.take i)).length + (enc y).length ≤ (encL l).length := by
        have h1 : encL (l.take (i + 1)) = encL (l.take i) ++ enc y := by rw [take_snoc_some hy, encL_append]; simp [encL]
        have h2 : encL l = encL (l.take (i + 1)) ++ encL (l.drop (i + 1)) := by rw [← encL_append, List.take_append_drop]
        rw [h2, h1]; simp
      have hP2 := Lib.hid hP
      clear hP hat hel
      go_wp2_with (first
        | (go_at_call 98; refine hP2.out.mono ?_; rintro e w3 ⟨v3, rfl, hown3, hh3, hbl3⟩; obtain ⟨g3, cc3, rfl, hg3, hcell3⟩ := hown3.addr (enc_ne _))
        | (at_builtin; refine wpList_app _ rfl (.tmp 41) (.tmp 47) rfl _ (3 :: (num l.length ++ encL (l.take i))) ⟨g3, 0, none⟩ _ cc3 (enc y) rfl rfl (hown.below hbl3) rfl hcell3 (by simp; omega) ?_; intro v4 w4 hown4 hg4))
      go_roundw
      case rel =>
        refine ⟨i + 1, by omega, by go_num, ?_, ?_⟩
        · rw [take_snoc_some hy, encL_append]
          simpa [encL] using hown4
        · refine (hgr.trans ?_).trans hg4
          exact ⟨⟨hbl3.os, hbl3.tape, hbl3.output, hbl3.size, fun k hk _ => hbl3.block k hk⟩, .inl rfl⟩
      case measure => simp [intOf]; omega
    · obtain rfl : i = l.length := by omega
      clear hel
      go_wp2
      go_ret
      rw [List.take_length] at hown
      exact ⟨_, rfl, hown, fun g hg => by have := hir g hg; omega, hBr⟩

theorem rencode_any (d : Nat) : ∀ (x : V) (v : Value) (w : World) (a : Nat), RS w d x.l v → Sm x → fm x = some a → (enc x).length ≤ 10000000000 → Calls Tryd.prog 98 #[vv x v] w (Fresh (enc x) w) := by
  induction d with
  | zero =>
    intro x v w a hv hs hf hlen
    obtain ⟨k, n, s, l⟩ := x
    obtain ⟨hl, A, c, rfl⟩ := hv
    dsimp only at hl
    subst hl
    simp only [Sm] at hs
    rcases enc_kind hf with h | h | h <;> dsimp only at h <;> subst h
    · simp only [enc, if_true]
      exact rencode_int n hs.1 s A 0 c w
    · rw [enc, if_neg (by decide), if_pos rfl]
      exact rencode_text s hs.2.1 n A 0 c w
    · rw [enc, if_neg (by decide), if_neg (by decide)]
      exact rencode_list 3 n ⟨rfl, rfl⟩ s [] A c w (by simp) (by simp [encL]) (Els.nil _ _ _)
  | succ d ih =>
    intro x v w a hv hs hf hlen
    obtain ⟨k, n, s, l⟩ := x
    dsimp only at hv
    obtain ⟨A, c, rfl⟩ := hv.form
    simp only [Sm] at hs
    rcases enc_kind hf with h | h | h <;> dsimp only at h <;> subst h
    · simp only [enc, if_true]
      exact rencode_int n hs.1 s A _ c w
    · rw [enc, if_neg (by decide), if_pos rfl]
      exact rencode_text s hs.2.1 n A _ c w
    · rw [enc, if_neg (by decide), if_neg (by decide)] at hlen ⊢
      have hm : ∀ y ∈ l, ∃ b, fm y = some b := by
        rw [fm, if_neg (by decide), if_neg (by decide), if_pos rfl] at hf
        split at hf
        · simp only [Option.map_eq_some_iff] at hf
          obtain ⟨b, hb, _⟩ := hf
          exact fun y hy => (fmL_some hb y hy).imp fun _ h => h.1
        · cases hf
      have hel : ∀ y ∈ l, (enc y).length ≤ (encL l).length := by
        intro y hy
        obtain ⟨l1, l2, rfl⟩ := List.append_of_mem hy
        rw [encL_append]
        simp [encL]
        omega
      simp at hlen
      exact rencode_list 3 n ⟨rfl, rfl⟩ s l A c w hs.2.2.1 (by omega) (Els.of_RS hv fun y hy v' W hr => by
        obtain ⟨b, hb⟩ := hm y hy
        exact ih y v' W b hr (SmL_mem hs.2.2.2 y hy) hb (by have := hel y hy; omega))

set_option maxRecDepth 100000 in
set_option maxHeartbeats 1000000 in
theorem rEncode_any (d : Nat) (x : V) (v : Value) (w : World) (hv : RS w d x.l v) (hs : Sm x) (hd : dp x ≤ 1000000000000) (hlen : (enc x).length ≤ 1000000000) :
    Calls Tryd.prog 67 #[vv x v] w (EncPost x w) := by
  have hck := fun W (hW : Below w.heap.size w W) => rcheck_any d x v W (hv.below hW) hs hd
  have hen := fun W (hW : Below w.heap.size w W) a (hf : fm x = some a) => rencode_any d x v W a (hv.below hW) hs hf (by omega)
  obtain ⟨A, c, rfl⟩ := hv.form
  have hB0 : Below w.heap.size w (w.alloc (.cells #[.int .i64 x.k, .int .i64 x.n, .string x.s, .slice A x.l.length c] 80)) := (Below.refl _ _).alloc (Nat.le_refl _) _
  have hck2 := Lib.hid (hck _ hB0)
  unfold EncPost encB
  by_cases hc : ckE x = 0
  · have hf : ∃ a, fm x = some a := by
      unfold ckE at hc
      cases h : fm x with
      | none => rw [h] at hc; cases hc
      | some a => exact ⟨a, rfl⟩
    obtain ⟨a, hf⟩ := hf
    have hen2 := Lib.hid (fun W hW => hen W hW a hf)
    rw [hc] at hck2 ⊢
    rw [if_pos rfl]
    clear hck hen hf hc
    go_enter Tryd.func67, Tryd.ntmps67
    go_wp2_with (first
      | (go_at_call 97; refine hck2.out.mono ?_; rintro e w1 ⟨rfl, hb⟩; obtain ⟨q0, q1, q2, q3⟩ := box_cells x A c w w1 hb)
      | (go_at_call 98; refine (hen2.out w1 (hB0.trans (hb.mono hB0.size))).mono ?_; rintro e w2 ⟨v2, rfl, hown, hh, hb2⟩))
    go_ret2
    have z := hB0.size
    have z1 := hb.size
    exact ⟨v2, rfl, hown, fun g hg => by have := hh g hg; omega, (hB0.trans (hb.mono hB0.size)).trans (hb2.mono (by omega))⟩
  · rw [if_neg hc]
    clear hck hen
    rcases (ckE_cases x).resolve_left hc with h | h
    all_goals
      rw [h] at hck2 ⊢
      clear h hc
      go_enter Tryd.func67, Tryd.ntmps67
      go_wp2_with (go_at_call 97; refine hck2.out.mono ?_; rintro e w1 ⟨rfl, hb⟩)
      go_ret2
      exact ⟨_, rfl, Own.nil _, fun g hg => by (cases hg), hB0.trans (hb.mono hB0.size)⟩

end Go.Proofs.YthokpfegfnpmhaaDoor
