/- The walks of codec.numeral, unsigned, signed. -/
import Derived.Test.YtnccbhndlnkboaaDoorBytesV
import Derived.Laws.BitsAllLaws
namespace Go.Proofs.YtnccbhndlnkboaaDoor
open Go.RowKit Cdc
set_option linter.unusedVariables false
set_option linter.unusedSimpArgs false

theorem num_len (u : Nat) (h : u < 2 ^ 64) : (num u).length ≤ 10 := by
  have key : ∀ (k u : Nat), u < 128 ^ (k + 1) → (num u).length ≤ k + 1 := by
    intro k
    induction k with
    | zero => intro u h; rw [num_lt (by simpa using h)]; simp
    | succ k ih =>
      intro u h
      by_cases c : u < 128
      · rw [num_lt c]; simp
      · rw [num_ge c]
        have := ih (u / 128) (by rw [Nat.pow_succ] at h; omega)
        simp; omega
  exact key 9 u (Nat.lt_trans h (by decide))

theorem or_128 (r : Nat) : bits BinOp.or IntKind.u8 ((r : Int) % 256) 128 = ((r % 128 + 128 : Nat) : Int) := by
  have key : ∀ q : Fin 256, bits BinOp.or IntKind.u8 (q.val : Int) 128 = ((q.val % 128 + 128 : Nat) : Int) := by decide +kernel
  have := key ⟨r % 256, Nat.mod_lt _ (by decide)⟩
  dsimp only at this
  rw [Nat.mod_mod_of_dvd r (by decide : 128 ∣ 256)] at this
  rw [← this]; rfl

theorem xor_ones (a : Nat) (ha : a < 18446744073709551616) : bits .xor .u64 (a : Int) 18446744073709551615 = 18446744073709551615 - (a : Int) := by
  show IntKind.u64.wrap ((BitVec.ofInt 64 (a : Int) ^^^ BitVec.ofInt 64 (18446744073709551615 : Int)).toNat : Int) = _
  have h1 : BitVec.ofInt 64 (18446744073709551615 : Int) = BitVec.allOnes 64 := by decide
  rw [h1, BitVec.xor_allOnes, BitVec.toNat_not, ofInt_u64 a ha]
  simp [IntKind.wrap, IntKind.bits, IntKind.signed]
  omega

theorem xor_ones_i (a : Nat) (ha : a < 9223372036854775808) : bits .xor .i64 (a : Int) (-1) = -1 - (a : Int) := by
  show IntKind.i64.wrap ((BitVec.ofInt 64 (a : Int) ^^^ BitVec.ofInt 64 (-1)).toNat : Int) = _
  have h1 : BitVec.ofInt 64 (-1) = BitVec.allOnes 64 := by decide
  rw [h1, BitVec.xor_allOnes, BitVec.toNat_not, ofInt_u64 a (by omega)]
  simp [IntKind.wrap, IntKind.bits, IntKind.signed]
  omega

theorem xor_zero_i (a : Nat) (ha : a < 9223372036854775808) : bits .xor .i64 (a : Int) 0 = (a : Int) := by
  show IntKind.i64.wrap ((BitVec.ofInt 64 (a : Int) ^^^ BitVec.ofInt 64 0).toNat : Int) = _
  have h1 : BitVec.ofInt 64 0 = 0#64 := by decide
  rw [h1, BitVec.xor_zero, ofInt_u64 a (by omega)]
  simp [IntKind.wrap, IntKind.bits, IntKind.signed]
  omega

theorem wrap_u64 (n : Int) : IntKind.u64.wrap n = n % 18446744073709551616 := by simp [IntKind.wrap, IntKind.bits, IntKind.signed]

theorem uz_bits (n : Int) (hn : -9223372036854775808 ≤ n ∧ n ≤ 9223372036854775807) :
    bits BinOp.xor IntKind.u64 (IntKind.u64.wrap (IntKind.u64.wrap n * 2)) (IntKind.u64.wrap (n / 9223372036854775808)) = (uz n : Int) := by
  rw [wrap_u64, wrap_u64, wrap_u64]
  by_cases h : 0 ≤ n
  · obtain ⟨m, rfl⟩ := Int.eq_ofNat_of_zero_le h
    have e1 : ((m : Int) % 18446744073709551616 * 2) % 18446744073709551616 = ((2 * m : Nat) : Int) := by omega
    have e2 : ((m : Int) / 9223372036854775808) % 18446744073709551616 = ((0 : Nat) : Int) := by omega
    rw [e1, e2, u64_xor_nat _ _ (by omega) (by omega), Nat.xor_zero]
    unfold uz
    rw [if_pos h]
    omega
  · have e1 : (n % 18446744073709551616 * 2) % 18446744073709551616 = (((2 * n + 18446744073709551616).toNat : Nat) : Int) := by omega
    have e2 : (n / 9223372036854775808) % 18446744073709551616 = 18446744073709551615 := by omega
    rw [e1, e2, xor_ones _ (by omega)]
    unfold uz
    rw [if_neg h]
    omega

theorem sz_bits (u : Nat) (hu : u < 18446744073709551616) :
    bits BinOp.xor IntKind.i64 ((u : Int) / 2) (wrap64 (-wrap64 (bits BinOp.and IntKind.u64 (u : Int) 1))) = sz u := by
  have e : bits BinOp.and IntKind.u64 (u : Int) 1 = ((u % 2 : Nat) : Int) := by
    have := u64_and_nat u 1 hu (by omega)
    rw [nat_mask1] at this
    exact this
  rw [e]
  have e1 : (u : Int) / 2 = ((u / 2 : Nat) : Int) := by omega
  rw [e1]
  unfold sz
  by_cases h : u % 2 = 0
  · rw [if_pos h, h]
    have e2 : wrap64 (-wrap64 ((0 : Nat) : Int)) = 0 := by unfold wrap64; omega
    rw [e2, xor_zero_i _ (by omega)]
  · have h1 : u % 2 = 1 := by omega
    rw [if_neg h, h1]
    have e2 : wrap64 (-wrap64 ((1 : Nat) : Int)) = -1 := by unfold wrap64; omega
    rw [e2, xor_ones_i _ (by omega)]
    omega

def AppPost (v : Value) (xs : List UInt8) (w : World) (e : Ending) (w' : World) : Prop := ∃ v', e = .returned v' ∧ Own w' v' xs ∧ Grew w w' v v'

set_option maxRecDepth 100000 in
set_option maxHeartbeats 1000000 in
theorem numeral_any (u : Nat) (hu : u < 18446744073709551616) (v : Value) (xs : List UInt8) (w : World) (hv : Own w v xs) (hl : xs.length ≤ 1000000000000) :
    Calls Tryd.prog 96 #[v, .int .u64 u] w (AppPost v (xs ++ num u) w) := by
  unfold AppPost
  have hlen := num_len u (by simpa using hu)
  go_enter Tryd.func96, Tryd.ntmps96
  go_wp2
  go_loopw [0, 1] (fun s0 s1 wr => ∃ (ys : List UInt8) (r : Nat), s1 = .int .u64 r ∧ Hid (ys ++ num r = num u) ∧ r < 18446744073709551616 ∧ Own wr s0 (xs ++ ys) ∧ Grew w wr v s0) (fun _ s1 _ => (intOf s1).toNat)
  case atStart => exact ⟨[], u, rfl, rfl, hu, by simpa using hv, Grew.refl _ _⟩
  case round =>
    obtain ⟨ys, r, rfl, hd, hr, hown, hg⟩ := hrel
    by_cases c : r < 128
    · have hb : bv (UInt8.ofNat r) = .int .u8 r := by unfold bv; rw [toNat_ofNat (by omega)]
      have hlen2 : ys.length + 1 ≤ 10 := by rw [← hd.out, num_lt c] at hlen; simpa using hlen
      have he : ys ++ [UInt8.ofNat r] = num u := by rw [← hd.out, num_lt c]
      clear hd
      go_wp2_with (at_builtin; refine wpList_app _ rfl (.tmp 15) (.tmp 18) rfl _ (xs ++ ys) ⟨wr.heap.size, 0, none⟩ 1 1 [UInt8.ofNat r] rfl rfl (hown.alloc _) rfl (one_new2 _ _ _ _ hb.symm) (by simp; omega) ?_; intro v2 w2 hown2 hg2)
      go_ret
      refine ⟨_, rfl, ?_, (hg.alloc _).trans hg2⟩
      rw [← he, ← List.append_assoc]
      exact hown2
    · have hor := or_128 r
      have hb : bv (UInt8.ofNat (r % 128 + 128)) = .int .u8 (r % 128 + 128 : Nat) := by unfold bv; rw [toNat_ofNat (by omega)]
      have he : (ys ++ [UInt8.ofNat (r % 128 + 128)]) ++ num (r / 128) = num u := by rw [← hd.out, num_ge c]; simp
      have hlen2 : ys.length + 2 ≤ 10 := by rw [← he] at hlen; have := num_pos (r / 128); simp at hlen; omega
      clear hd
      go_wp2_with (at_builtin; refine wpList_app _ rfl (.tmp 9) (.tmp 13) rfl _ (xs ++ ys) ⟨wr.heap.size, 0, none⟩ 1 1 [UInt8.ofNat (r % 128 + 128)] rfl rfl (hown.alloc _) rfl (one_new2 _ _ _ _ (by first | exact hb.symm | (rw [hor]; exact hb.symm))) (by simp; omega) ?_; intro v2 w2 hown2 hg2)
      refine ⟨⟨_, r / 128, by congr 1, he, by omega, ?_, (hg.alloc _).trans hg2⟩, by simp [intOf]; omega⟩
      rw [← List.append_assoc]
      exact hown2

theorem unsigned_any (n : Int) (hn : -9223372036854775808 ≤ n ∧ n ≤ 9223372036854775807) (w : World) :
    Calls Tryd.prog 97 #[.int .i64 n] w fun e w' => e = .returned (.int .u64 (uz n)) ∧ w' = w := by
  go_enter Tryd.func97, Tryd.ntmps97
  go_wp2
  go_ret
  refine ⟨?_, rfl⟩
  show Ending.returned (Value.int IntKind.u64 _) = _
  rw [uz_bits n hn]

end Go.Proofs.YtnccbhndlnkboaaDoor
/- The walks of the reference's numeral, unsigned. -/
namespace Go.Proofs.YtnccbhndlnkboaaDoor
open Go.RowKit Cdc
set_option linter.unusedVariables false
set_option linter.unusedSimpArgs false

theorem Own.below {w w' : World} {v : Value} {xs : List UInt8} (h : Own w v xs) (hb : Below w.heap.size w w') : Own w' v xs :=
  World.ownsRow.kept (row := none) h ⟨hb.os, hb.tape, hb.output, hb.size, fun k hk _ => hb.block k hk⟩ (by cases v.ownBlock <;> simp)

theorem Own.addr {w : World} {v : Value} {xs : List UInt8} (h : Own w v xs) (hx : xs ≠ []) :
    ∃ g c, v = .slice (some ⟨g, 0, none⟩) xs.length c ∧ g < w.heap.size ∧ ∀ j u, (xs.map bv)[j]? = some u → w.cell? ((⟨g, 0, none⟩ : Addr).add j) = some u := by
  rcases h.2 with ⟨_, h0⟩ | ⟨g, cap, cur, rfl, _, hh, _⟩
  · exact absurd (List.length_eq_zero_iff.1 h0) hx
  · exact ⟨g, cap, rfl, (Array.getElem?_eq_some_iff.1 hh).1, World.ownsRow.cells h (g := g) rfl⟩

/-- a fresh row of one byte -/
theorem Own.one (w : World) (b : UInt8) (x : Value) (hx : x = bv b) : Own (w.alloc (.cells #[x] 5)) (.slice (some ⟨w.heap.size, 0, none⟩) 1 1) [b] := by
  subst hx
  exact World.ownsRow_lit (e := 5) (size := 1) (base := 0) w #[bv b] 1 (Nat.zero_le _) (by simp [maxLen]) rfl

theorem Own.one2 (w : World) (b : UInt8) (x : Value) (hx : x = bv b) (k : Nat) (hk : k = w.heap.size) : Own (w.alloc (.cells #[x] 5)) (.slice (some ⟨k, 0, none⟩) 1 1) [b] := by
  subst hk; exact Own.one w b x hx

/-- a fresh row of bytes -/
def Fresh (xs : List UInt8) (w : World) (e : Ending) (w' : World) : Prop := ∃ v', e = .returned v' ∧ Own w' v' xs ∧ (∀ g, v'.ownBlock = some g → w.heap.size ≤ g) ∧ Below w.heap.size w w'

theorem Grew.high {B : Nat} {w w' : World} {v v' : Value} (hg : Grew w w' v v') (hl : B ≤ w.heap.size) (hv : ∀ g, v.ownBlock = some g → B ≤ g) : ∀ g, v'.ownBlock = some g → B ≤ g := by
  intro g h
  rcases hg.lies with e | ⟨g', e, hg'⟩
  · exact hv g (by rw [← e]; exact h)
  · rw [e] at h; injection h with h; omega

theorem num_ne (u : Nat) : num u ≠ [] := fun e => by have := num_pos u; rw [e] at this; simp at this

set_option maxRecDepth 100000 in
set_option maxHeartbeats 1000000 in
theorem rnumeral_any (u : Nat) : ∀ (w : World), u < 18446744073709551616 → Calls Tryd.prog 105 #[.int .u64 u] w (Fresh (num u) w) := by
  induction u using Nat.strongRecOn with
  | _ u ih =>
    intro w hu
    unfold Fresh
    by_cases c : u < 128
    · have hb : bv (UInt8.ofNat u) = .int .u8 u := by unfold bv; rw [toNat_ofNat (by omega)]
      rw [num_lt c]
      clear ih
      go_enter Tryd.func105, Tryd.ntmps105
      go_wp2
      go_ret
      refine ⟨_, rfl, Own.one w _ _ hb.symm, fun g hg => ?_, (Below.refl _ _).alloc (Nat.le_refl _) _⟩
      injection hg with hg
      exact Nat.le_of_eq hg
    · have hq := fun W => ih (u / 128) (by omega) W (by omega)
      have hq2 := Lib.hid hq
      have hb : bv (UInt8.ofNat (u % 128 + 128)) = .int .u8 ((u : Int) % 128 + 128) := by unfold bv; rw [toNat_ofNat (by omega)]; rfl
      have hlen := num_len (u / 128) (by have e : (2 : Nat) ^ 64 = 18446744073709551616 := by decide
                                         omega)
      rw [num_ge c]
      clear ih hq
      go_enter Tryd.func105, Tryd.ntmps105
      go_wp2_with (first
        | (go_at_call 105; refine (hq2.out _).mono ?_; rintro e w1 ⟨v1, rfl, hown, hh, hbl⟩; obtain ⟨g, cc, rfl, hg, hcell⟩ := hown.addr (num_ne _))
        | (at_builtin; refine wpList_app _ rfl (.tmp 12) (.tmp 15) rfl _ [UInt8.ofNat (u % 128 + 128)] ⟨g, 0, none⟩ _ cc (num (u / 128)) rfl rfl ((Own.one w _ _ hb.symm).below hbl) rfl hcell (by simp; omega) ?_; intro v2 w2 hown2 hg2))
      go_ret
      refine ⟨v2, rfl, hown2, hg2.high (B := w.heap.size) (by have := hbl.size; simp at this; omega) (fun g hg => by injection hg with hg; exact Nat.le_of_eq hg), ?_⟩
      exact (((Below.refl _ _).alloc (Nat.le_refl _) _).trans (hbl.mono (by simp))).grown hg2.grown (by have := hbl.size; simp at this; omega) (fun g hg => by injection hg with hg; exact Nat.le_of_eq hg)

set_option maxRecDepth 100000 in
theorem runsigned_any (n : Int) (hn : -9223372036854775808 ≤ n ∧ n ≤ 9223372036854775807) (w : World) :
    Calls Tryd.prog 106 #[.int .i64 n] w fun e w' => e = .returned (.int .u64 (uz n)) ∧ w' = w := by
  by_cases h : 0 ≤ n
  · go_enter Tryd.func106, Tryd.ntmps106
    go_wp2
    go_ret
    refine ⟨?_, rfl⟩
    have e : 2 * n = (uz n : Int) := by unfold uz; rw [if_pos h]; omega
    rw [← e]
    rfl
  · go_enter Tryd.func106, Tryd.ntmps106
    go_wp2
    go_ret
    refine ⟨?_, rfl⟩
    have e : 2 * -(n + 1) + 1 = (uz n : Int) := by unfold uz; rw [if_neg (by omega)]; omega
    rw [← e]
    rfl
end Go.Proofs.YtnccbhndlnkboaaDoor
