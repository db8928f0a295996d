/- The walk of the law's sane. -/
import Derived.Test.YtofmkmjboekodaaUse
import Derived.Test.YtofmkmjboekodaaRefSame
namespace Go.Proofs.Ytofmkmjboekodaa
open Go.RowKit Cdc
set_option linter.unusedVariables false
set_option linter.unusedSimpArgs false

def xm3 : V := ⟨1, -3, ⟨#[]⟩, []⟩
def x100 : V := ⟨1, 100, ⟨#[]⟩, []⟩
def xab : V := ⟨2, 0, ⟨#[97, 98]⟩, []⟩
def xl : V := ⟨3, 0, ⟨#[]⟩, [x100, xab]⟩

theorem n1 (u : Nat) (h : u < 128) (b : UInt8) (hb : UInt8.ofNat u = b) : num u = [b] := by rw [num_lt h, hb]
theorem num200 : num 200 = [200, 1] := by
  rw [num_ge (by decide), n1 (200 / 128) (by decide) 1 (by decide)]
  rfl
theorem enc_m3 : enc xm3 = [1, 5] := by
  unfold xm3
  simp only [enc, if_true]
  have : uz (-3) = 5 := by decide
  rw [this, n1 5 (by decide) 5 (by decide)]
theorem enc_100 : enc x100 = [1, 200, 1] := by
  unfold x100
  simp only [enc, if_true]
  have : uz 100 = 200 := by decide
  rw [this, num200]
theorem enc_ab : enc xab = [2, 2, 97, 98] := by
  unfold xab
  rw [enc, if_neg (by decide), if_pos rfl]
  have : (⟨#[97, 98]⟩ : ByteArray).size = 2 := by decide
  rw [this, n1 2 (by decide) 2 (by decide)]
  rfl
theorem enc_l : enc xl = [3, 2, 1, 200, 1, 2, 2, 97, 98] := by
  unfold xl
  rw [enc, if_neg (by decide), if_neg (by decide)]
  simp only [encL, enc_100, enc_ab]
  have : [x100, xab].length = 2 := rfl
  rw [this, n1 2 (by decide) 2 (by decide)]
  rfl
theorem fm_m3 : fm xm3 = some 0 := by unfold xm3; rw [fm, if_pos rfl, if_pos ⟨rfl, rfl⟩]
theorem fm_100 : fm x100 = some 0 := by unfold x100; rw [fm, if_pos rfl, if_pos ⟨rfl, rfl⟩]
theorem fm_ab : fm xab = some 0 := by unfold xab; rw [fm, if_neg (by decide), if_pos rfl, if_pos ⟨rfl, rfl⟩]
theorem fm_l : fm xl = some 1 := by
  unfold xl
  rw [fm, if_neg (by decide), if_neg (by decide), if_pos rfl, if_pos ⟨rfl, rfl⟩]
  simp only [fmL, fm_100, fm_ab]
  rfl

theorem sm_m3 : Sm xm3 := by unfold xm3; simp [Sm, SmL]; decide
theorem sm_l : Sm xl := by unfold xl x100 xab; simp [Sm, SmL]; decide
theorem ck_m3 : ckE xm3 = 0 := by unfold ckE; rw [fm_m3]; rfl
theorem ck_l : ckE xl = 0 := by unfold ckE; rw [fm_l]; rfl

theorem ft_l : fits xl := by unfold xl x100 xab; simp [fits, fitsL]; decide
theorem dc_l : dcV [3, 2, 1, 200, 1, 2, 2, 97, 98] = some xl := by
  have := dcV_enc xl 1 ft_l fm_l (by decide)
  rw [enc_l] at this
  exact this
theorem ft_m3 : fits xm3 := by unfold xm3; simp [fits, fitsL]; decide
theorem len_l : lenB xl = 9 := by unfold lenB encB; rw [if_pos ck_l, enc_l]; rfl

theorem sm_e2 : Sm ⟨2, 0, ⟨#[]⟩, []⟩ := by simp [Sm, SmL]; decide
theorem sm_e3 : Sm ⟨3, 0, ⟨#[]⟩, []⟩ := by simp [Sm, SmL]; decide
theorem sm_e23 : sm ⟨2, 0, ⟨#[]⟩, []⟩ ⟨3, 0, ⟨#[]⟩, []⟩ = false := by simp [sm]

theorem bt {a b c : World} (h : Below a.heap.size a b) (k : Below b.heap.size b c) : Below a.heap.size a c := h.trans (k.mono h.size)
theorem ba {a b : World} (h : Below a.heap.size a b) (o : Obj) : Below a.heap.size a (b.alloc o) := h.alloc h.size o

/-- Encode of a known value -/
theorem enc_at (d : Nat) (x : V) (v : Value) (w : World) (bs : List UInt8) (hv : RS w d x.l v) (hs : Sm x) (hd : dp x ≤ 1000) (he : enc x = bs) (hl : bs.length ≤ 100000) (hc : ckE x = 0) :
    Calls Try.prog 12 #[vv x v] w fun e w' => ∃ v', e = .returned (.tuple #[v', .int .i64 0]) ∧ Own w' v' bs ∧ Below w.heap.size w w' := by
  refine (encode_any d x v w hv hs (by omega) (by rw [he]; omega)).mono ?_
  rintro e w' ⟨v', h1, h2, _, h3⟩
  unfold encB at h2
  rw [if_pos hc, he] at h2
  rw [hc] at h1
  exact ⟨v', h1, h2, h3⟩

/-- Decode of a row that is known to be an encoding -/
theorem dec_at (bs : List UInt8) (x : V) (v : Value) (w : World) (hl : bs.length ≤ 1000000) (h : Own w v bs) (hx : dcV bs = some x) :
    Calls Try.prog 18 #[v] w fun e w' => ∃ v', e = .returned (.tuple #[vv x v', .int .i64 0]) ∧ RS w' 16 x.l v' ∧ Below w.heap.size w w' := by
  refine (decode_own bs v w (by omega) h).mono ?_
  rintro e w' ⟨h1, ⟨x2, v', h2, h3, h4⟩ | ⟨h2, _⟩⟩
  · rw [hx] at h2
    injection h2 with h2
    subst h2
    exact ⟨v', h3, h4, h1⟩
  · rw [hx] at h2; cases h2

theorem dec_l (v : Value) (w : World) (h : Own w v [3, 2, 1, 200, 1, 2, 2, 97, 98]) :
    Calls Try.prog 18 #[v] w fun e w' => ∃ A c, e = .returned (.tuple #[.agg #[.int .i64 3, .int .i64 0, .string ⟨#[]⟩, .slice A 2 c], .int .i64 0]) ∧ RS w' 16 xl.l (.slice A 2 c) ∧ Below w.heap.size w w' := by
  refine (dec_at _ xl v w (by decide) h dc_l).mono ?_
  rintro e w' ⟨v', h1, h2, h3⟩
  obtain ⟨A, c, rfl⟩ := h2.form
  exact ⟨A, c, h1, h2, h3⟩

/-- Decode of a row that is no encoding -/
theorem dec_no (bs : List UInt8) (v : Value) (w : World) (hl : bs.length ≤ 1000000) (h : Own w v bs) (hx : dcV bs = none) :
    Calls Try.prog 18 #[v] w fun e w' => e = .returned (.tuple #[.agg #[.int .i64 0, .int .i64 0, .string ⟨#[]⟩, .slice none 0 0], .int .i64 10]) ∧ Below w.heap.size w w' := by
  refine (decode_own bs v w (by omega) h).mono ?_
  rintro e w' ⟨h1, ⟨x2, v', h2, h3, h4⟩ | ⟨_, h2⟩⟩
  · rw [hx] at h2; cases h2
  · exact ⟨h2, h1⟩

/-- []byte(s): a new row -/
theorem conv_bytes (s : ByteArray) (w : World) : ∃ c W, (convert 9 27 (.string s)).run Try.prog w = .ok (.slice (some ⟨w.heap.size, 0, none⟩) s.size c) W ∧ s.size ≤ c ∧ Below w.heap.size w W ∧ W.heap.size = w.heap.size + 1 ∧
    ∀ r, w.heap.size < r → RB W W.heap.size r (some ⟨w.heap.size, 0, none⟩) s.data.toList := by
  refine ⟨_, _, run_bytes_of_string w _ _ 5 s Try.underlying9 Try.underlying27 Try.underlying5, grownCap_ge _ _ _ _, ((Below.refl _ _).drew).alloc (Nat.le_refl _) _, by simp, ?_⟩
  intro r hr j b hb
  refine ⟨⟨w.heap.size, 0, none⟩, rfl, by simp, ?_, ?_⟩
  · show w.heap.size ≠ r
    omega
  · have h : ∀ (C : Array Value) (m : Nat × Nat) (u : Value), C[j]? = some u → (w.drew.alloc (.cells C 5 m)).cell? ((⟨w.heap.size, 0, none⟩ : Addr).add j) = some u := by
      intro C m u hu
      have hh : (w.drew.alloc (.cells C 5 m)).heap[w.heap.size]? = some (.cells C 5 m) := by
        show (w.heap.push _)[w.heap.size]? = _
        simp
      unfold Addr.add
      split
      · rename_i h0
        subst h0
        unfold World.cell?
        simp only [hh]
        exact hu
      · unfold World.cell?
        simp only [hh, Nat.zero_add]
        exact hu
    refine h _ _ _ ?_
    have hlt : j < s.data.toList.length := (List.getElem?_eq_some_iff.1 hb).1
    rw [Array.length_toList] at hlt
    unfold bytesRow
    rw [Array.getElem?_append_left (by simpa using hlt)]
    rw [Array.getElem?_map]
    rw [← Array.getElem?_toList, hb]
    rfl

/-- Decode of a string's bytes that are no encoding -/
theorem dec_str (s : ByteArray) (c : Nat) (ad : Addr) (w : World) (hl : s.size ≤ 1000000) (hc : s.size ≤ c) (h : ∀ r, ad.block < r → RB w w.heap.size r (some ad) s.data.toList) (hb : ad.block < w.heap.size) (hx : dcV s.data.toList = none) :
    Calls Try.prog 18 #[.slice (some ad) s.size c] w fun e w' => e = .returned (.tuple #[.agg #[.int .i64 0, .int .i64 0, .string ⟨#[]⟩, .slice none 0 0], .int .i64 10]) ∧ Below w.heap.size w w' := by
  have hsl : s.data.toList.length = s.size := by rw [Array.length_toList]; rfl
  have hd := decode_any s.data.toList (some ad) c w (by omega) (by omega) (h _ (by omega))
  rw [hsl] at hd
  refine hd.mono ?_
  rintro e w' ⟨h1, ⟨x2, v', h2, h3, h4⟩ | ⟨_, h2⟩⟩
  · rw [hx] at h2; cases h2
  · exact ⟨h2, h1⟩

theorem dc_b0 : dcV (⟨#[]⟩ : ByteArray).data.toList = none := by simp [dcV, pV]
theorem dc_b1 : dcV (⟨#[1, 128, 0]⟩ : ByteArray).data.toList = none := by simp [dcV, pV, pN]
theorem dc_b2 : dcV (⟨#[1, 5, 0]⟩ : ByteArray).data.toList = none := by simp [dcV, pV, pN]
theorem dc_b3 : dcV (⟨#[2, 3, 97]⟩ : ByteArray).data.toList = none := by simp [dcV, pV, pN]
theorem ck_0 : ckE ⟨0, 0, ⟨#[]⟩, []⟩ = 1 := by simp [ckE, fm]
theorem sm_0 : Sm ⟨0, 0, ⟨#[]⟩, []⟩ := by simp [Sm, SmL]; decide
end Go.Proofs.Ytofmkmjboekodaa
