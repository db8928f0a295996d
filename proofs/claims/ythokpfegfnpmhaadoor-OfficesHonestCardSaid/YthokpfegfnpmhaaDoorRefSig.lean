/- The walks of the reference of sign (Mod, Times, Hash, Point, Verify, Sign) and of the makers of values. -/
import Derived.Test.YthokpfegfnpmhaaDoorCalF
import Derived.Test.YthokpfegfnpmhaaDoorSigA
import Derived.Test.YthokpfegfnpmhaaDoorRVM
import Derived.Test.YthokpfegfnpmhaaDoorRefEncode
import Derived.Test.YthokpfegfnpmhaaDoorRTagged
import Derived.Deep.RegionHeld3
namespace Go.Proofs.YthokpfegfnpmhaaDoor
open Go.RowKit Go.Shelf Jac Cdc Sha
set_option linter.unusedVariables false
set_option linter.unusedSimpArgs false

set_option maxHeartbeats 400000 in
theorem rmod_any (n : Int) (w : World) :
    Calls Tryd.prog 110 #[.int .i64 n] w fun e w' => e = .returned (.int .i64 (n % 1073741789)) ∧ w' = w := by
  have b1 : -1073741789 < n.tmod 1073741789 := Int.lt_tmod_of_pos _ (by decide)
  have b2 : n.tmod 1073741789 < 1073741789 := Int.tmod_lt_of_pos _ (by decide)
  have HV := Lib.hid (tmod_val n)
  by_cases h : n.tmod 1073741789 < 0
  all_goals
    go_enter Tryd.func110, Tryd.ntmps110
    go_wp2
    go_ret
    refine ⟨congrArg (fun t : Int => Ending.returned (.int .i64 t)) ?_, rfl⟩
    rw [← HV.out]
    first | rw [if_pos h] | rw [if_neg (by omega)]

set_option maxHeartbeats 400000 in
theorem rtimes_any (a b : Int) (w : World) :
    Calls Tryd.prog 89 #[.int .i64 a, .int .i64 b] w fun e w' => e = .returned (.int .i64 ((a % 1073741789) * (b % 1073741789) % 1073741789)) ∧ w' = w := by
  obtain ⟨x, hx⟩ : ∃ x, a % 1073741789 = x := ⟨_, rfl⟩
  obtain ⟨y, hy⟩ : ∃ y, b % 1073741789 = y := ⟨_, rfl⟩
  have hx0 : 0 ≤ x ∧ x < 1073741789 := by omega
  have hy0 : 0 ≤ y ∧ y < 1073741789 := by omega
  have h1 : 0 ≤ x * y := Int.mul_nonneg hx0.1 hy0.1
  have h2 : x * y ≤ 1073741789 * 1073741789 := Int.mul_le_mul (by omega) (by omega) hy0.1 (by omega)
  have h3 : x * y ≤ 9223372036854775807 := by omega
  have ha := Lib.hid (fun w => hx ▸ rmod_any a w)
  have hb := Lib.hid (fun w => hy ▸ rmod_any b w)
  rw [hx, hy]
  clear hx hy
  go_enter Tryd.func89, Tryd.ntmps89
  go_wp2_with fail
  refine (ha.out _).mono ?_
  rintro e w' ⟨rfl, rfl⟩
  go_wp2_with fail
  refine (hb.out _).mono ?_
  rintro e w' ⟨rfl, rfl⟩
  go_wp2_with fail
  go_ret
  exact ⟨rfl, rfl⟩

set_option maxRecDepth 100000 in
set_option maxHeartbeats 1000000 in
theorem mint_any (n : Int) (w : World) :
    Calls Tryd.prog 68 #[.int .i64 n] w fun e w' => e = .returned (.agg #[.int .i64 1, .int .i64 n, .string ⟨#[]⟩, .slice none 0 0]) ∧ Below w.heap.size w w' := by
  go_enter Tryd.func68, Tryd.ntmps68
  go_wp2
  refine bodyPost_ret (v := .agg #[.int .i64 1, .int .i64 n, .string ⟨#[]⟩, .slice none 0 0]) ?_ rfl ⟨rfl, ?_⟩
  · simp [results, Tryd.results68, go_sem]
  · exact (Below.refl _ _).alloc (Nat.le_refl _) _

set_option maxRecDepth 100000 in
set_option maxHeartbeats 1000000 in
theorem mtext_any (s : ByteArray) (w : World) :
    Calls Tryd.prog 86 #[.string s] w fun e w' => e = .returned (.agg #[.int .i64 2, .int .i64 0, .string s, .slice none 0 0]) ∧ Below w.heap.size w w' := by
  go_enter Tryd.func86, Tryd.ntmps86
  go_wp2
  refine bodyPost_ret (v := .agg #[.int .i64 2, .int .i64 0, .string s, .slice none 0 0]) ?_ rfl ⟨rfl, ?_⟩
  · simp [results, Tryd.results86, go_sem]
  · exact (Below.refl _ _).alloc (Nat.le_refl _) _

set_option maxRecDepth 100000 in
set_option maxHeartbeats 1000000 in
theorem mlist_any (A : Option Addr) (n c : Nat) (w : World) :
    Calls Tryd.prog 65 #[.slice A n c] w fun e w' => e = .returned (.agg #[.int .i64 3, .int .i64 0, .string ⟨#[]⟩, .slice A n c]) ∧ Below w.heap.size w w' := by
  go_enter Tryd.func65, Tryd.ntmps65
  go_wp2
  refine bodyPost_ret (v := .agg #[.int .i64 3, .int .i64 0, .string ⟨#[]⟩, .slice A n c]) ?_ rfl ⟨rfl, ?_⟩
  · simp [results, Tryd.results65, go_sem]
  · exact (Below.refl _ _).alloc (Nat.le_refl _) _

/-- the reference encodes a flat list that lies in one row; the hash of what it gives -/
def EncHash (tag : ByteArray) (l : List V) (W : World) (e : Ending) (w' : World) : Prop :=
  ∃ A1 m c1, e = .returned (.tuple #[.slice A1 m c1, .int .i64 (ckE (lV l))]) ∧ Below W.heap.size W w' ∧
    Calls Tryd.prog 87 #[.string tag, .slice A1 m c1] w' fun e w2 => e = .returned (.int .i64 (hN tag l)) ∧ Below w'.heap.size w' w2
theorem renc_flat (tag : ByteArray) (ht : tag.size ≤ 1000) (l : List V) (W : World) (A : Option Addr) (n c : Nat) (hrs : RS W 1 l (.slice A n c)) (hsm : Sm (lV l) ∧ (enc (lV l)).length ≤ 1000000) (hat : ∀ y ∈ l, y.l = []) :
    Calls Tryd.prog 67 #[.agg #[.int .i64 3, .int .i64 0, .string ⟨#[]⟩, .slice A n c]] W (EncHash tag l W) := by
  refine (rEncode_any 1 (lV l) (.slice A n c) W hrs hsm.1 (by have := dpL_atoms hat; simp only [lV, dp]; omega) (by omega)).mono ?_
  unfold EncPost EncHash
  rintro e w' ⟨v', rfl, ho, hh, hB⟩
  obtain ⟨A1, c1, rfl⟩ := ho.form
  have hl := encB_le (lV l)
  exact ⟨A1, _, c1, rfl, hB, rhash_any tag (by omega) (encB (lV l)) _ rfl (by omega) A1 c1 w' ho.atO⟩

set_option maxRecDepth 100000 in
set_option maxHeartbeats 4000000 in
theorem rhash3_any (p key : Int) (bs : List UInt8) (A : Option Addr) (n c : Nat) (w : World) (hp : I64 p) (hk : I64 key) (hn : bs.length = n) (hb : n ≤ 100000) (hA : AtO w A bs) :
    Calls Tryd.prog 88 #[.int .i64 p, .int .i64 key, .slice A n c] w fun e w' => e = .returned (.int .i64 (hN signB [iV p, iV key, tV bs])) ∧ Below w.heap.size w w' := by
  have hs3 := sm3 p key bs hp hk (by omega)
  have henc : Hid (∀ (W : World) (k : Nat), k = W.heap.size → ∀ W2, Below (W.alloc (.cells #[.int .i64 1, .int .i64 p, .string ⟨#[]⟩, .slice none 0 0, .int .i64 1, .int .i64 key, .string ⟨#[]⟩, .slice none 0 0, .int .i64 2, .int .i64 0, .string ⟨bs.toArray⟩, .slice none 0 0] 80)).heap.size (W.alloc (.cells #[.int .i64 1, .int .i64 p, .string ⟨#[]⟩, .slice none 0 0, .int .i64 1, .int .i64 key, .string ⟨#[]⟩, .slice none 0 0, .int .i64 2, .int .i64 0, .string ⟨bs.toArray⟩, .slice none 0 0] 80)) W2 →
      Calls Tryd.prog 67 #[.agg #[.int .i64 3, .int .i64 0, .string ⟨#[]⟩, .slice (some ⟨k, 0, none⟩) 3 3]] W2 (EncHash signB [iV p, iV key, tV bs] W2)) := Lib.hid fun W k hk W2 hB =>
    renc_flat signB (by decide) _ W2 _ 3 3 ((flat_rs W _ _ rfl k 3 3 hk rfl (by omega) (by simp [iV, tV])).below hB) ⟨hs3.1, by omega⟩ (by simp [iV, tV])
  have hcv := fun (W : World) (h : AtO W A bs) => h.conv n c hn
  replace hA := Lib.hid hA
  clear hs3
  have hS := Lib.hid (fun (W : World) (hb : Below w.heap.size w W) => hcv W (hA.out.below hb))
  have hi1 : Hid (∀ W : World, Calls Tryd.prog 68 #[.int .i64 p] W fun e w' => e = .returned (.agg #[.int .i64 1, .int .i64 p, .string ⟨#[]⟩, .slice none 0 0]) ∧ Below W.heap.size W w') := Lib.hid fun W => mint_any p W
  have hi2 : Hid (∀ W : World, Calls Tryd.prog 68 #[.int .i64 key] W fun e w' => e = .returned (.agg #[.int .i64 1, .int .i64 key, .string ⟨#[]⟩, .slice none 0 0]) ∧ Below W.heap.size W w') := Lib.hid fun W => mint_any key W
  have HB : Below w.heap.size w w.drew := (Below.refl _ _).drew
  clear hcv
  go_enter Tryd.func88, Tryd.ntmps88
  go_wp2_with fail
  go_region_held3 (fun w' => (convert 23 9 (.slice A n c)).run Tryd.prog w' = .ok (.string ⟨bs.toArray⟩) w')
    (first
      | exact hS.out _ HB
      | exact hS.out _ (HB.alloc HB.size _)
      | exact hS.out _ (Below.refl _ _)
      | go_keep)
    (first
      | (go_at_call 68; (with_reducible refine (hi1.out _).mono ?_); rintro e w1 ⟨rfl, hb⟩; replace HB := HB.trans (hb.mono HB.size); clear hb)
      | (go_at_call 68; (with_reducible refine (hi2.out _).mono ?_); rintro e w2 ⟨rfl, hb⟩; replace HB := HB.trans (hb.mono HB.size); clear hb)
      | (go_at_call 86; refine (mtext_any _ _).mono ?_; rintro e w3 ⟨rfl, hb⟩; replace HB := HB.trans (hb.mono HB.size); clear hb)
      | (go_at_call 65; refine (mlist_any _ _ _ _).mono ?_; rintro e w4 ⟨rfl, hb4⟩; replace HB := (HB.alloc HB.size _).trans (hb4.mono (HB.alloc HB.size _).size))
      | (go_at_call 67; refine (henc.out _ _ rfl _ hb4).mono ?_; unfold EncHash; rintro e w5 ⟨A5, m5, c5, rfl, hb5, hH5⟩; replace HB := HB.trans (hb5.mono HB.size)))
  go_wp2_with fail
  refine hH5.mono ?_
  rintro e w6 ⟨rfl, hb6⟩
  go_wp2_with fail
  go_ret
  exact ⟨rfl, HB.trans (hb6.mono HB.size)⟩

set_option maxRecDepth 100000 in
set_option maxHeartbeats 1000000 in
theorem rpoint_any (key E S : Int) (w : World) (h : 0 ≤ E ∧ E < 1073741789 ∧ 0 ≤ S ∧ S < 1073741789) (hv : validB key = true) :
    Calls Tryd.prog 93 #[.int .i64 key, .agg #[.int .i64 E, .int .i64 S]] w fun e w' => e = .returned (.int .i64 (ptC key E S)) ∧ Below w.heap.size w w' := by
  have hr := heap_alloc_new w (.cells #[.int .i64 E, .int .i64 S] 47)
  have hB := (Below.refl w.heap.size w).alloc (Nat.le_refl _) (.cells #[.int .i64 E, .int .i64 S] 47)
  go_enter Tryd.func93, Tryd.ntmps93
  go_wp2_with fail
  refine (rpow_any _ _ _).mono ?_
  rintro e w1 ⟨rfl, rfl⟩
  go_wp2_with fail
  refine (rpow_any _ _ _).mono ?_
  rintro e w2 ⟨rfl, rfl⟩
  go_wp2_with fail
  refine (rmul_any _ _ _).mono ?_
  rintro e w3 ⟨rfl, rfl⟩
  go_wp2_with fail
  go_ret
  exact ⟨rfl, hB⟩

set_option maxRecDepth 100000 in
set_option maxHeartbeats 4000000 in
theorem rverify_in (key : Int) (bs : List UInt8) (E S : Int) (A : Option Addr) (n c : Nat) (w : World) (h : 0 ≤ E ∧ E < 1073741789 ∧ 0 ≤ S ∧ S < 1073741789) (hv : validB key = true) (hn : bs.length = n) (hb : n ≤ 100000) (hA : AtO w A bs) :
    Calls Tryd.prog 62 #[.int .i64 key, .slice A n c, .agg #[.int .i64 E, .int .i64 S]] w fun e w' => e = .returned (.bool (E == hN signB [iV (ptC key E S), iV key, tV bs])) ∧ Below w.heap.size w w' := by
  have h0 := Lib.hid h
  obtain ⟨h1, h2, h3, h4⟩ := h
  have hkr := validB_range hv
  have hkI : I64 key := ⟨by omega, by omega⟩
  have hptI : I64 (ptC key E S) := i64_of (mulC_bd (powC 4 S) (powC key (-E)))
  have hr := heap_alloc_new w (.cells #[.int .i64 E, .int .i64 S] 47)
  have hB := (Below.refl w.heap.size w).alloc (Nat.le_refl _) (.cells #[.int .i64 E, .int .i64 S] 47)
  have hp1 : Hid (∀ W : World, Calls Tryd.prog 93 #[.int .i64 key, .agg #[.int .i64 E, .int .i64 S]] W fun e w' => e = .returned (.int .i64 (ptC key E S)) ∧ Below W.heap.size W w') := Lib.hid fun W => rpoint_any key E S W h0.out hv
  have hh1 : Hid (∀ W : World, Below w.heap.size w W → Calls Tryd.prog 88 #[.int .i64 (ptC key E S), .int .i64 key, .slice A n c] W fun e w' => e = .returned (.int .i64 (hN signB [iV (ptC key E S), iV key, tV bs])) ∧ Below W.heap.size W w') := Lib.hid fun W hW => rhash3_any (ptC key E S) key bs A n c W hptI hkI hn hb (hA.below hW)
  have hv2 := Lib.hid hv
  clear hv hn hA
  go_enter Tryd.func62, Tryd.ntmps62
  go_wp2_with (go_at_call 92; refine (rvalid_any _ _).mono ?_; rintro e w' ⟨rfl, rfl⟩; rw [hv2.out])
  obtain ⟨W0, hW0⟩ : ∃ W0, w.alloc (Obj.cells #[Value.int IntKind.i64 E, Value.int IntKind.i64 S] 47) = W0 := ⟨_, rfl⟩
  rw [hW0] at hr hB ⊢
  clear hW0
  have hlt0 := (Array.getElem?_eq_some_iff.1 hr).1
  have c0 : W0.cell? ⟨w.heap.size, 0, none⟩ = some (.int .i64 E) := by rw [cell_of_row _ _ _ _ _ _ hr]; rfl
  have c1 : W0.cell? ⟨w.heap.size, 1, none⟩ = some (.int .i64 S) := by rw [cell_of_row _ _ _ _ _ _ hr]; rfl
  obtain ⟨b, hbe⟩ : ∃ b, w.heap.size = b := ⟨_, rfl⟩
  have hSS : Hid (∀ W, Below W0.heap.size W0 W → W.cell? ⟨b, 0, none⟩ = some (.int .i64 E) ∧ W.cell? ⟨b, 1, none⟩ = some (.int .i64 S)) := Lib.hid fun W hW => ⟨(hW.cell (p := ⟨b, 0, none⟩) (by rw [← hbe]; exact hlt0)).trans (by rw [← hbe]; exact c0), (hW.cell (p := ⟨b, 1, none⟩) (by rw [← hbe]; exact hlt0)).trans (by rw [← hbe]; exact c1)⟩
  have hB2 := Lib.hid hB
  rw [hbe] at c0 c1 ⊢
  replace hbe := Lib.hid hbe
  clear hr hlt0 hB
  have HB : Below W0.heap.size W0 W0.drew := (Below.refl _ _).drew
  go_region_held3 (fun w' => w'.cell? ⟨b, 0, none⟩ = some (.int .i64 E) ∧ w'.cell? ⟨b, 1, none⟩ = some (.int .i64 S))
    (first
      | exact hSS.out _ HB
      | go_keep)
    (first
      | (go_at_call 93; refine (hp1.out _).mono ?_; rintro e w1 ⟨rfl, hb⟩; replace HB := HB.trans (hb.mono HB.size); clear hb)
      | (go_at_call 88; refine (hh1.out _ (hB2.out.trans (HB.mono hB2.out.size))).mono ?_; rintro e w2 ⟨rfl, hb⟩; replace HB := HB.trans (hb.mono HB.size); clear hb))
  go_wp2_with fail
  go_ret
  rw [hbe.out.symm]
  exact ⟨rfl, hB2.out.trans (HB.mono hB2.out.size)⟩

set_option maxRecDepth 100000 in
set_option maxHeartbeats 4000000 in
theorem rverify_bad (key E S : Int) (A : Option Addr) (n c : Nat) (w : World) (hv : validB key = false) :
    Calls Tryd.prog 62 #[.int .i64 key, .slice A n c, .agg #[.int .i64 E, .int .i64 S]] w fun e w' => e = .returned (.bool false) ∧ Below w.heap.size w w' := by
  replace hv := Lib.hid hv
  have hB := (Below.refl w.heap.size w).alloc (Nat.le_refl _) (.cells #[.int .i64 E, .int .i64 S] 47)
  go_enter Tryd.func62, Tryd.ntmps62
  go_wp2_with (go_at_call 92; refine (rvalid_any _ _).mono ?_; rintro e w' ⟨rfl, rfl⟩; rw [hv.out])
  go_ret
  exact ⟨rfl, hB⟩

set_option maxRecDepth 100000 in
set_option maxHeartbeats 4000000 in
theorem rverify_o1 (key E S : Int) (A : Option Addr) (n c : Nat) (w : World) (hv : validB key = true) (h1 : E < 0) :
    Calls Tryd.prog 62 #[.int .i64 key, .slice A n c, .agg #[.int .i64 E, .int .i64 S]] w fun e w' => e = .returned (.bool false) ∧ Below w.heap.size w w' := by
  replace hv := Lib.hid hv
  have hB := (Below.refl w.heap.size w).alloc (Nat.le_refl _) (.cells #[.int .i64 E, .int .i64 S] 47)
  go_enter Tryd.func62, Tryd.ntmps62
  go_wp2_with (go_at_call 92; refine (rvalid_any _ _).mono ?_; rintro e w' ⟨rfl, rfl⟩; rw [hv.out])
  go_ret
  exact ⟨rfl, hB⟩

set_option maxRecDepth 100000 in
set_option maxHeartbeats 4000000 in
theorem rverify_o2 (key E S : Int) (A : Option Addr) (n c : Nat) (w : World) (hv : validB key = true) (h1 : ¬ E < 0) (h2 : 1073741789 ≤ E) :
    Calls Tryd.prog 62 #[.int .i64 key, .slice A n c, .agg #[.int .i64 E, .int .i64 S]] w fun e w' => e = .returned (.bool false) ∧ Below w.heap.size w w' := by
  replace hv := Lib.hid hv
  have hB := (Below.refl w.heap.size w).alloc (Nat.le_refl _) (.cells #[.int .i64 E, .int .i64 S] 47)
  go_enter Tryd.func62, Tryd.ntmps62
  go_wp2_with (go_at_call 92; refine (rvalid_any _ _).mono ?_; rintro e w' ⟨rfl, rfl⟩; rw [hv.out])
  go_ret
  exact ⟨rfl, hB⟩

set_option maxRecDepth 100000 in
set_option maxHeartbeats 4000000 in
theorem rverify_o3 (key E S : Int) (A : Option Addr) (n c : Nat) (w : World) (hv : validB key = true) (h1 : ¬ E < 0) (h2 : ¬ 1073741789 ≤ E) (h3 : S < 0) :
    Calls Tryd.prog 62 #[.int .i64 key, .slice A n c, .agg #[.int .i64 E, .int .i64 S]] w fun e w' => e = .returned (.bool false) ∧ Below w.heap.size w w' := by
  replace hv := Lib.hid hv
  have hB := (Below.refl w.heap.size w).alloc (Nat.le_refl _) (.cells #[.int .i64 E, .int .i64 S] 47)
  go_enter Tryd.func62, Tryd.ntmps62
  go_wp2_with (go_at_call 92; refine (rvalid_any _ _).mono ?_; rintro e w' ⟨rfl, rfl⟩; rw [hv.out])
  go_ret
  exact ⟨rfl, hB⟩

set_option maxRecDepth 100000 in
set_option maxHeartbeats 4000000 in
theorem rverify_o4 (key E S : Int) (A : Option Addr) (n c : Nat) (w : World) (hv : validB key = true) (h1 : ¬ E < 0) (h2 : ¬ 1073741789 ≤ E) (h3 : ¬ S < 0) (h4 : 1073741789 ≤ S) :
    Calls Tryd.prog 62 #[.int .i64 key, .slice A n c, .agg #[.int .i64 E, .int .i64 S]] w fun e w' => e = .returned (.bool false) ∧ Below w.heap.size w w' := by
  replace hv := Lib.hid hv
  have hB := (Below.refl w.heap.size w).alloc (Nat.le_refl _) (.cells #[.int .i64 E, .int .i64 S] 47)
  go_enter Tryd.func62, Tryd.ntmps62
  go_wp2_with (go_at_call 92; refine (rvalid_any _ _).mono ?_; rintro e w' ⟨rfl, rfl⟩; rw [hv.out])
  go_ret
  exact ⟨rfl, hB⟩

theorem rverify_any (key : Int) (bs : List UInt8) (E S : Int) (A : Option Addr) (n c : Nat) (w : World) (hn : bs.length = n) (hb : n ≤ 100000) (hA : AtO w A bs) :
    Calls Tryd.prog 62 #[.int .i64 key, .slice A n c, .agg #[.int .i64 E, .int .i64 S]] w fun e w' => e = .returned (.bool (vfB key bs E S)) ∧ Below w.heap.size w w' := by
  by_cases hv : validB key = true
  · by_cases h : 0 ≤ E ∧ E < 1073741789 ∧ 0 ≤ S ∧ S < 1073741789
    · refine (rverify_in key bs E S A n c w h hv hn hb hA).mono ?_
      rintro e w' ⟨rfl, hB⟩
      refine ⟨?_, hB⟩
      unfold vfB
      rw [decide_eq_true h, hv]
      rfl
    · have hf : vfB key bs E S = false := by unfold vfB; rw [decide_eq_false h]; rfl
      rw [hf]
      by_cases h1 : E < 0
      · exact rverify_o1 key E S A n c w hv h1
      by_cases h2 : 1073741789 ≤ E
      · exact rverify_o2 key E S A n c w hv h1 h2
      by_cases h3 : S < 0
      · exact rverify_o3 key E S A n c w hv h1 h2 h3
      · exact rverify_o4 key E S A n c w hv h1 h2 h3 (by omega)
  · have hv2 : validB key = false := by simpa using hv
    have hf : vfB key bs E S = false := by unfold vfB; rw [hv2]; simp
    rw [hf]
    exact rverify_bad key E S A n c w hv2

set_option maxRecDepth 100000 in
set_option maxHeartbeats 4000000 in
theorem rsign_out (x : Int) (A : Option Addr) (n c : Nat) (w : World) (h : x < 1 ∨ 1073741789 ≤ x) :
    Calls Tryd.prog 59 #[.int .i64 x, .slice A n c] w fun e w' => e = .returned (.tuple #[.agg #[.int .i64 0, .int .i64 0], .int .i64 110]) ∧ Below w.heap.size w w' := by
  rcases h with h | h
  · go_enter Tryd.func59, Tryd.ntmps59
    go_wp2_with fail
    exact bodyPost_ret (v := .tuple #[.agg #[.int .i64 0, .int .i64 0], .int .i64 110]) (by simp [results, Tryd.results59, go_sem]) rfl ⟨rfl, (Below.refl _ _).alloc (Nat.le_refl _) _⟩
  · have h2 : ¬ x < 1 := by omega
    go_enter Tryd.func59, Tryd.ntmps59
    go_wp2_with fail
    exact bodyPost_ret (v := .tuple #[.agg #[.int .i64 0, .int .i64 0], .int .i64 110]) (by simp [results, Tryd.results59, go_sem]) rfl ⟨rfl, (Below.refl _ _).alloc (Nat.le_refl _) _⟩

set_option maxRecDepth 100000 in
set_option maxHeartbeats 4000000 in
theorem rsign_zero (x : Int) (bs : List UInt8) (A : Option Addr) (n c : Nat) (w : World) (hx : 1 ≤ x) (hx2 : x < 1073741789) (hn : bs.length = n) (hb : n ≤ 100000) (hA : AtO w A bs) (hz : hN nonceB [iV x, tV bs] = 0) :
    Calls Tryd.prog 59 #[.int .i64 x, .slice A n c] w fun e w' => e = .returned (.tuple #[.agg #[.int .i64 (sgE x bs), .int .i64 (sgS x bs)], .int .i64 0]) ∧ Below w.heap.size w w' := by
  have hx3 : ¬ x < 1 := by omega
  have hx4 : ¬ 1073741789 ≤ x := by omega
  have hxI : I64 x := ⟨by omega, by omega⟩
  have hs2 := sm2 x bs hxI (by omega)
  have hNb := hN_bd nonceB [iV x, tV bs]
  obtain ⟨hn0, hh0⟩ : ∃ q, hN nonceB [iV x, tV bs] = q := ⟨_, rfl⟩
  obtain ⟨kk, hkk⟩ : ∃ kk, sgK x bs = kk := ⟨_, rfl⟩
  have hkv : kk = 1 := by
    rw [← hkk]
    unfold sgK
    rw [hh0] at hNb hz ⊢
    omega
  rw [hh0] at hz hNb
  have hkb := sgK_bd x bs
  rw [hkk] at hkb
  obtain ⟨E, hE⟩ : ∃ E, sgE x bs = E := ⟨_, rfl⟩
  obtain ⟨S, hS⟩ : ∃ S, sgS x bs = S := ⟨_, rfl⟩
  have hEb : 0 ≤ E ∧ E < 1073741789 := by rw [← hE]; exact hN_bd _ _
  have hSv : Hid ((kk + E * x % 1073741789) % 1073741789 = S) := Lib.hid (by rw [← hS, ← hE, ← hkk]; unfold sgS; omega)
  have hSw : Hid ((kk + E * x) % 1073741789 = S) := Lib.hid (by rw [← hS, ← hE, ← hkk]; rfl)
  have hhE : Hid (hN signB [iV (powC 4 kk), iV (powC 4 x), tV bs] = E) := Lib.hid (by rw [← hE]; unfold sgE; rw [hkk])
  have hp1 := i64_of (powC_bd 4 kk)
  have hp2 := i64_of (powC_bd 4 x)
  have hrp1 : Hid (∀ W : World, Calls Tryd.prog 64 #[.int .i64 4, .int .i64 x] W fun e w' => e = .returned (.tuple #[.int .i64 (powC 4 x), .int .i64 (powE 4)]) ∧ w' = W) := Lib.hid fun W => rpow_any 4 x W
  have hrp2 : Hid (∀ W : World, Calls Tryd.prog 64 #[.int .i64 4, .int .i64 kk] W fun e w' => e = .returned (.tuple #[.int .i64 (powC 4 kk), .int .i64 (powE 4)]) ∧ w' = W) := Lib.hid fun W => rpow_any 4 kk W
  have hrh : Hid (∀ W : World, Below w.heap.size w W → Calls Tryd.prog 88 #[.int .i64 (powC 4 kk), .int .i64 (powC 4 x), .slice A n c] W fun e w' => e = .returned (.int .i64 E) ∧ Below W.heap.size W w') := Lib.hid fun W hW => hhE.out ▸ rhash3_any (powC 4 kk) (powC 4 x) bs A n c W hp1 hp2 hn hb (hA.below hW)
  have hrt : Hid (∀ W : World, Calls Tryd.prog 89 #[.int .i64 E, .int .i64 x] W fun e w' => e = .returned (.int .i64 (E * x % 1073741789)) ∧ w' = W) := Lib.hid fun W => by
    have := rtimes_any E x W
    rw [Int.emod_eq_of_lt hEb.1 hEb.2, Int.emod_eq_of_lt (a := x) (by omega) hx2] at this
    exact this
  have hEx : 0 ≤ E * x % 1073741789 ∧ E * x % 1073741789 < 1073741789 := by omega
  have henc : Hid (∀ (W : World) (k : Nat), k = W.heap.size → ∀ W2, Below (W.alloc (.cells #[.int .i64 1, .int .i64 x, .string ⟨#[]⟩, .slice none 0 0, .int .i64 2, .int .i64 0, .string ⟨bs.toArray⟩, .slice none 0 0] 80)).heap.size (W.alloc (.cells #[.int .i64 1, .int .i64 x, .string ⟨#[]⟩, .slice none 0 0, .int .i64 2, .int .i64 0, .string ⟨bs.toArray⟩, .slice none 0 0] 80)) W2 →
      Calls Tryd.prog 67 #[.agg #[.int .i64 3, .int .i64 0, .string ⟨#[]⟩, .slice (some ⟨k, 0, none⟩) 2 2]] W2 (EncHash nonceB [iV x, tV bs] W2)) := Lib.hid fun W k hk W2 hB =>
    renc_flat nonceB (by decide) _ W2 _ 2 2 ((flat_rs W _ _ rfl k 2 2 hk rfl (by omega) (by simp [iV, tV])).below hB) ⟨hs2.1, by omega⟩ (by simp [iV, tV])
  have hSS := Lib.hid (fun (W : World) (hb : Below w.heap.size w W) => (hA.below hb).conv n c hn)
  have hrow := heap_alloc_new w (.cells #[.int .i64 0, .int .i64 0] 47)
  have hB0 := (Below.refl w.heap.size w).alloc (Nat.le_refl _) (.cells #[.int .i64 0, .int .i64 0] 47)
  rw [hE, hS]
  replace hh0 := Lib.hid hh0
  clear hs2 hE hS hp1 hp2 hkk hxI hA
  go_enter Tryd.func59, Tryd.ntmps59
  go_wp2_with fail
  obtain ⟨W0, hW0⟩ : ∃ W0, w.alloc (.cells #[.int .i64 0, .int .i64 0] 47) = W0 := ⟨_, rfl⟩
  rw [hW0] at hrow hB0 ⊢
  clear hW0
  have HB : Below W0.heap.size W0 W0.drew := (Below.refl _ _).drew
  have hT := Lib.hid (fun (W : World) (hb : Below W0.heap.size W0 W) => hSS.out W (hB0.trans (hb.mono hB0.size)))
  go_region_held3 (fun w' => (convert 23 9 (.slice A n c)).run Tryd.prog w' = .ok (.string ⟨bs.toArray⟩) w')
    (first
      | exact hT.out _ HB
      | exact hT.out _ (HB.alloc HB.size _)
      | exact hT.out _ (Below.refl _ _)
      | go_keep)
    (first
      | (go_at_call 68; refine (mint_any _ _).mono ?_; rintro e w1 ⟨rfl, hb⟩; replace HB := HB.trans (hb.mono HB.size); clear hb)
      | (go_at_call 86; refine (mtext_any _ _).mono ?_; rintro e w3 ⟨rfl, hb⟩; replace HB := HB.trans (hb.mono HB.size); clear hb)
      | (go_at_call 65; refine (mlist_any _ _ _ _).mono ?_; rintro e w4 ⟨rfl, hb4⟩; replace HB := (HB.alloc HB.size _).trans (hb4.mono (HB.alloc HB.size _).size))
      | (go_at_call 67; refine (henc.out _ _ rfl _ hb4).mono ?_; unfold EncHash; rintro e w5 ⟨A5, m5, c5, rfl, hb5, hH5⟩; replace HB := HB.trans (hb5.mono HB.size)))
  clear hT hSS henc hb4 hb5
  go_wp2_with fail
  refine hH5.mono ?_
  rintro e w6 ⟨rfl, hb⟩
  rw [hh0.out]
  replace HB := HB.trans (hb.mono HB.size)
  clear hb hH5
  subst hz
  subst hkv
  go_wp2_with fail
  refine (hrp1.out _).mono ?_
  rintro e w7 ⟨rfl, rfl⟩
  go_wp2_with fail
  refine (hrp2.out _).mono ?_
  rintro e w7 ⟨rfl, rfl⟩
  go_wp2_with fail
  refine (hrh.out _ (hB0.trans (HB.mono hB0.size))).mono ?_
  rintro e w8 ⟨rfl, hb⟩
  replace HB := HB.trans (hb.mono HB.size)
  clear hb hrh hrp1 hrp2
  have hlt := (Array.getElem?_eq_some_iff.1 hrow).1
  have hrow8 := (HB.block w.heap.size hlt).trans hrow
  have hB8 := hB0.trans (HB.mono hB0.size)
  have hc0 : w8.cell? ⟨w.heap.size, 0, none⟩ = some (.int .i64 0) := by rw [cell_of_row _ _ _ _ _ _ hrow8]; rfl
  have hc1 : w8.cell? ⟨w.heap.size, 1, none⟩ = some (.int .i64 0) := by rw [cell_of_row _ _ _ _ _ _ hrow8]; rfl
  have hf0 := frozen_of_row w8 w.heap.size 0 _ _ hrow8
  have hf1 := frozen_of_row w8 w.heap.size 1 _ _ hrow8
  have hlt8 := (Array.getElem?_eq_some_iff.1 hrow8).1
  clear hrow HB hB0 hlt
  go_wp2_with fail
  refine (hrt.out _).mono ?_
  rintro e w9 ⟨rfl, rfl⟩
  go_wp2_with fail
  try rw [hSv.out]
  try rw [hSw.out]
  have r1 := heap_setCell_same w9 w.heap.size 0 _ _ (.int .i64 E) hrow8
  have r2 := heap_setCell_same _ w.heap.size 1 _ _ (.int .i64 S) r1
  have hB9 := (hB8.setCell (p := ⟨w.heap.size, 0, none⟩) (Nat.le_refl _) (.int .i64 E)).setCell (p := ⟨w.heap.size, 1, none⟩) (Nat.le_refl _) (.int .i64 S)
  clear r1 hrow8 hc0 hc1 hf0 hf1 hB8 hlt8
  generalize (w9.setCell ⟨w.heap.size, 0, none⟩ (.int .i64 E)).setCell ⟨w.heap.size, 1, none⟩ (.int .i64 S) = w10 at *
  have g0 : w10.cell? ⟨w.heap.size, 0, none⟩ = some (.int .i64 E) := by rw [cell_of_row _ _ _ _ _ _ r2]; simp
  have g1 : w10.cell? ⟨w.heap.size, 1, none⟩ = some (.int .i64 S) := by rw [cell_of_row _ _ _ _ _ _ r2]; simp
  refine bodyPost_ret (v := .tuple #[.agg #[.int .i64 E, .int .i64 S], .int .i64 0]) ?_ rfl ⟨rfl, hB9⟩
  simp [results, Tryd.results59, go_sem, g0, g1]

set_option maxRecDepth 100000 in
set_option maxHeartbeats 4000000 in
theorem rsign_some (x : Int) (bs : List UInt8) (A : Option Addr) (n c : Nat) (w : World) (hx : 1 ≤ x) (hx2 : x < 1073741789) (hn : bs.length = n) (hb : n ≤ 100000) (hA : AtO w A bs) (hz : ¬ hN nonceB [iV x, tV bs] = 0) :
    Calls Tryd.prog 59 #[.int .i64 x, .slice A n c] w fun e w' => e = .returned (.tuple #[.agg #[.int .i64 (sgE x bs), .int .i64 (sgS x bs)], .int .i64 0]) ∧ Below w.heap.size w w' := by
  have hx3 : ¬ x < 1 := by omega
  have hx4 : ¬ 1073741789 ≤ x := by omega
  have hxI : I64 x := ⟨by omega, by omega⟩
  have hs2 := sm2 x bs hxI (by omega)
  have hNb := hN_bd nonceB [iV x, tV bs]
  obtain ⟨hn0, hh0⟩ : ∃ q, hN nonceB [iV x, tV bs] = q := ⟨_, rfl⟩
  obtain ⟨kk, hkk⟩ : ∃ kk, sgK x bs = kk := ⟨_, rfl⟩
  have hkv : kk = hn0 := by
    rw [← hkk]
    unfold sgK
    rw [hh0] at hNb hz ⊢
    omega
  rw [hh0] at hz hNb
  have hkb := sgK_bd x bs
  rw [hkk] at hkb
  obtain ⟨E, hE⟩ : ∃ E, sgE x bs = E := ⟨_, rfl⟩
  obtain ⟨S, hS⟩ : ∃ S, sgS x bs = S := ⟨_, rfl⟩
  have hEb : 0 ≤ E ∧ E < 1073741789 := by rw [← hE]; exact hN_bd _ _
  have hSv : Hid ((kk + E * x % 1073741789) % 1073741789 = S) := Lib.hid (by rw [← hS, ← hE, ← hkk]; unfold sgS; omega)
  have hSw : Hid ((kk + E * x) % 1073741789 = S) := Lib.hid (by rw [← hS, ← hE, ← hkk]; rfl)
  have hhE : Hid (hN signB [iV (powC 4 kk), iV (powC 4 x), tV bs] = E) := Lib.hid (by rw [← hE]; unfold sgE; rw [hkk])
  have hp1 := i64_of (powC_bd 4 kk)
  have hp2 := i64_of (powC_bd 4 x)
  have hrp1 : Hid (∀ W : World, Calls Tryd.prog 64 #[.int .i64 4, .int .i64 x] W fun e w' => e = .returned (.tuple #[.int .i64 (powC 4 x), .int .i64 (powE 4)]) ∧ w' = W) := Lib.hid fun W => rpow_any 4 x W
  have hrp2 : Hid (∀ W : World, Calls Tryd.prog 64 #[.int .i64 4, .int .i64 kk] W fun e w' => e = .returned (.tuple #[.int .i64 (powC 4 kk), .int .i64 (powE 4)]) ∧ w' = W) := Lib.hid fun W => rpow_any 4 kk W
  have hrh : Hid (∀ W : World, Below w.heap.size w W → Calls Tryd.prog 88 #[.int .i64 (powC 4 kk), .int .i64 (powC 4 x), .slice A n c] W fun e w' => e = .returned (.int .i64 E) ∧ Below W.heap.size W w') := Lib.hid fun W hW => hhE.out ▸ rhash3_any (powC 4 kk) (powC 4 x) bs A n c W hp1 hp2 hn hb (hA.below hW)
  have hrt : Hid (∀ W : World, Calls Tryd.prog 89 #[.int .i64 E, .int .i64 x] W fun e w' => e = .returned (.int .i64 (E * x % 1073741789)) ∧ w' = W) := Lib.hid fun W => by
    have := rtimes_any E x W
    rw [Int.emod_eq_of_lt hEb.1 hEb.2, Int.emod_eq_of_lt (a := x) (by omega) hx2] at this
    exact this
  have hEx : 0 ≤ E * x % 1073741789 ∧ E * x % 1073741789 < 1073741789 := by omega
  have henc : Hid (∀ (W : World) (k : Nat), k = W.heap.size → ∀ W2, Below (W.alloc (.cells #[.int .i64 1, .int .i64 x, .string ⟨#[]⟩, .slice none 0 0, .int .i64 2, .int .i64 0, .string ⟨bs.toArray⟩, .slice none 0 0] 80)).heap.size (W.alloc (.cells #[.int .i64 1, .int .i64 x, .string ⟨#[]⟩, .slice none 0 0, .int .i64 2, .int .i64 0, .string ⟨bs.toArray⟩, .slice none 0 0] 80)) W2 →
      Calls Tryd.prog 67 #[.agg #[.int .i64 3, .int .i64 0, .string ⟨#[]⟩, .slice (some ⟨k, 0, none⟩) 2 2]] W2 (EncHash nonceB [iV x, tV bs] W2)) := Lib.hid fun W k hk W2 hB =>
    renc_flat nonceB (by decide) _ W2 _ 2 2 ((flat_rs W _ _ rfl k 2 2 hk rfl (by omega) (by simp [iV, tV])).below hB) ⟨hs2.1, by omega⟩ (by simp [iV, tV])
  have hSS := Lib.hid (fun (W : World) (hb : Below w.heap.size w W) => (hA.below hb).conv n c hn)
  have hrow := heap_alloc_new w (.cells #[.int .i64 0, .int .i64 0] 47)
  have hB0 := (Below.refl w.heap.size w).alloc (Nat.le_refl _) (.cells #[.int .i64 0, .int .i64 0] 47)
  rw [hE, hS]
  replace hh0 := Lib.hid hh0
  clear hs2 hE hS hp1 hp2 hkk hxI hA
  go_enter Tryd.func59, Tryd.ntmps59
  go_wp2_with fail
  obtain ⟨W0, hW0⟩ : ∃ W0, w.alloc (.cells #[.int .i64 0, .int .i64 0] 47) = W0 := ⟨_, rfl⟩
  rw [hW0] at hrow hB0 ⊢
  clear hW0
  have HB : Below W0.heap.size W0 W0.drew := (Below.refl _ _).drew
  have hT := Lib.hid (fun (W : World) (hb : Below W0.heap.size W0 W) => hSS.out W (hB0.trans (hb.mono hB0.size)))
  go_region_held3 (fun w' => (convert 23 9 (.slice A n c)).run Tryd.prog w' = .ok (.string ⟨bs.toArray⟩) w')
    (first
      | exact hT.out _ HB
      | exact hT.out _ (HB.alloc HB.size _)
      | exact hT.out _ (Below.refl _ _)
      | go_keep)
    (first
      | (go_at_call 68; refine (mint_any _ _).mono ?_; rintro e w1 ⟨rfl, hb⟩; replace HB := HB.trans (hb.mono HB.size); clear hb)
      | (go_at_call 86; refine (mtext_any _ _).mono ?_; rintro e w3 ⟨rfl, hb⟩; replace HB := HB.trans (hb.mono HB.size); clear hb)
      | (go_at_call 65; refine (mlist_any _ _ _ _).mono ?_; rintro e w4 ⟨rfl, hb4⟩; replace HB := (HB.alloc HB.size _).trans (hb4.mono (HB.alloc HB.size _).size))
      | (go_at_call 67; refine (henc.out _ _ rfl _ hb4).mono ?_; unfold EncHash; rintro e w5 ⟨A5, m5, c5, rfl, hb5, hH5⟩; replace HB := HB.trans (hb5.mono HB.size)))
  clear hT hSS henc hb4 hb5
  go_wp2_with fail
  refine hH5.mono ?_
  rintro e w6 ⟨rfl, hb⟩
  rw [hh0.out]
  replace HB := HB.trans (hb.mono HB.size)
  clear hb hH5
  
  subst hkv
  go_wp2_with fail
  refine (hrp1.out _).mono ?_
  rintro e w7 ⟨rfl, rfl⟩
  go_wp2_with fail
  refine (hrp2.out _).mono ?_
  rintro e w7 ⟨rfl, rfl⟩
  go_wp2_with fail
  refine (hrh.out _ (hB0.trans (HB.mono hB0.size))).mono ?_
  rintro e w8 ⟨rfl, hb⟩
  replace HB := HB.trans (hb.mono HB.size)
  clear hb hrh hrp1 hrp2
  have hlt := (Array.getElem?_eq_some_iff.1 hrow).1
  have hrow8 := (HB.block w.heap.size hlt).trans hrow
  have hB8 := hB0.trans (HB.mono hB0.size)
  have hc0 : w8.cell? ⟨w.heap.size, 0, none⟩ = some (.int .i64 0) := by rw [cell_of_row _ _ _ _ _ _ hrow8]; rfl
  have hc1 : w8.cell? ⟨w.heap.size, 1, none⟩ = some (.int .i64 0) := by rw [cell_of_row _ _ _ _ _ _ hrow8]; rfl
  have hf0 := frozen_of_row w8 w.heap.size 0 _ _ hrow8
  have hf1 := frozen_of_row w8 w.heap.size 1 _ _ hrow8
  have hlt8 := (Array.getElem?_eq_some_iff.1 hrow8).1
  clear hrow HB hB0 hlt
  go_wp2_with fail
  refine (hrt.out _).mono ?_
  rintro e w9 ⟨rfl, rfl⟩
  go_wp2_with fail
  try rw [hSv.out]
  try rw [hSw.out]
  have r1 := heap_setCell_same w9 w.heap.size 0 _ _ (.int .i64 E) hrow8
  have r2 := heap_setCell_same _ w.heap.size 1 _ _ (.int .i64 S) r1
  have hB9 := (hB8.setCell (p := ⟨w.heap.size, 0, none⟩) (Nat.le_refl _) (.int .i64 E)).setCell (p := ⟨w.heap.size, 1, none⟩) (Nat.le_refl _) (.int .i64 S)
  clear r1 hrow8 hc0 hc1 hf0 hf1 hB8 hlt8
  generalize (w9.setCell ⟨w.heap.size, 0, none⟩ (.int .i64 E)).setCell ⟨w.heap.size, 1, none⟩ (.int .i64 S) = w10 at *
  have g0 : w10.cell? ⟨w.heap.size, 0, none⟩ = some (.int .i64 E) := by rw [cell_of_row _ _ _ _ _ _ r2]; simp
  have g1 : w10.cell? ⟨w.heap.size, 1, none⟩ = some (.int .i64 S) := by rw [cell_of_row _ _ _ _ _ _ r2]; simp
  refine bodyPost_ret (v := .tuple #[.agg #[.int .i64 E, .int .i64 S], .int .i64 0]) ?_ rfl ⟨rfl, hB9⟩
  simp [results, Tryd.results59, go_sem, g0, g1]

theorem rsign_in (x : Int) (bs : List UInt8) (A : Option Addr) (n c : Nat) (w : World) (hx : 1 ≤ x) (hx2 : x < 1073741789) (hn : bs.length = n) (hb : n ≤ 100000) (hA : AtO w A bs) :
    Calls Tryd.prog 59 #[.int .i64 x, .slice A n c] w fun e w' => e = .returned (.tuple #[.agg #[.int .i64 (sgE x bs), .int .i64 (sgS x bs)], .int .i64 0]) ∧ Below w.heap.size w w' := by
  by_cases hz : hN nonceB [iV x, tV bs] = 0
  · exact rsign_zero x bs A n c w hx hx2 hn hb hA hz
  · exact rsign_some x bs A n c w hx hx2 hn hb hA hz

end Go.Proofs.YthokpfegfnpmhaaDoor
