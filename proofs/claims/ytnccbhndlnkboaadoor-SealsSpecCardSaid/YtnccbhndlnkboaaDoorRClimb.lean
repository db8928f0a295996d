/- The walks of the reference's Climb, Form, salt and Leaf. -/
import Derived.Test.YtnccbhndlnkboaaDoorRefG
import Derived.Test.YtnccbhndlnkboaaDoorSealM
import Derived.Test.YtnccbhndlnkboaaDoorLLeaf
import Derived.Test.YtnccbhndlnkboaaDoorRefFC
namespace Go.Proofs.YtnccbhndlnkboaaDoor
open Go.RowKit Go.Shelf Cdc Sha
set_option linter.unusedVariables false
set_option linter.unusedSimpArgs false

theorem built_z7 : Tryd.prog.built 23 [] = some (dg zero32) := by kernel_rfl
set_option maxRecDepth 100000 in
set_option maxHeartbeats 4000000 in
theorem rclimb7_bad (n i : Int) (h : 65536 < n ∨ i < 0 ∨ n ≤ i) (m : Nat) (A : Option Addr) (c k : Nat) (P : Option Addr) (cp : Nat) (w : World) :
    Calls Tryd.prog 52 #[.int .i64 n, .int .i64 i, .slice A m c, .slice P k cp] w fun e w' => e = .returned (.tuple #[.agg (dg zero32), .int .i64 1]) ∧ Below w.heap.size w w' := by
  have hi := Lib.hid (dg_info zero32 zero32_len)
  have ho := Lib.hid (dg_one zero32)
  have hz := heap_alloc_new w (.cells (dg zero32) 23)
  have hb : Below w.heap.size w (w.alloc (.cells (dg zero32) 23)) := (Below.refl _ _).alloc (Nat.le_refl _) _
  have cases3 : (decide (65536 < n) = true) ∨ (decide (65536 < n) = false ∧ decide (i < 0) = true) ∨ (decide (65536 < n) = false ∧ decide (i < 0) = false ∧ decide (n ≤ i) = true) := by
    by_cases a : 65536 < n
    · exact .inl (decide_eq_true a)
    · by_cases b : i < 0
      · exact .inr (.inl ⟨decide_eq_false a, decide_eq_true b⟩)
      · exact .inr (.inr ⟨decide_eq_false a, decide_eq_false b, decide_eq_true (by omega)⟩)
  replace hz := Lib.hid hz
  clear h
  rcases cases3 with h1 | ⟨h1, h2⟩ | ⟨h1, h2, h3⟩
  all_goals
    go_enter Tryd.func52, Tryd.ntmps52
    go_wp2_with (first
      | (refine wpList_buildG (by rfl) 23 #[] (by rfl) (dg zero32) built_z7 ?_)
      | (refine wpList_set_row (by rfl) 23 (.tmp 8) (.tmp 23) (by rfl) (by rfl) w.heap.size (dg zero32) (by rfl) (by rfl) 23 _ hz.out hi.out rfl ho.out ?_; intro w6 hd6 hz6 hg6; replace hd6 := Lib.hid hd6))
    refine bodyPost_ret (v := .tuple #[.agg (dg zero32), .int .i64 1]) (results_row_tmp rfl _ _ w.heap.size 23 (dg zero32) (0, 0) _ _ rfl rfl hd6.out Tryd.underlying23 (by rfl) hi.out) rfl ⟨rfl, hb.grown hg6 hb.size (fun k e => by have := Option.some.inj e; omega)⟩
set_option maxRecDepth 100000 in
set_option maxHeartbeats 4000000 in
theorem rclimb7_short (n i : Nat) (hn : n ≤ 65536) (hi : i < n) (m : Nat) (A : Option Addr) (c k : Nat) (P : Option Addr) (cp : Nat) (hk : k ≠ lenM n i) (w : World) :
    Calls Tryd.prog 52 #[.int .i64 n, .int .i64 i, .slice A m c, .slice P k cp] w fun e w' => e = .returned (.tuple #[.agg (dg zero32), .int .i64 70]) ∧ Below w.heap.size w w' := by
  have hI := Lib.hid (dg_info zero32 zero32_len)
  have ho := Lib.hid (dg_one zero32)
  have hz := heap_alloc_new w (.cells (dg zero32) 23)
  have hb : Below w.heap.size w (w.alloc (.cells (dg zero32) 23)) := (Below.refl _ _).alloc (Nat.le_refl _) _
  have d1 : decide ((65536 : Int) < (n : Int)) = false := decide_eq_false (by omega)
  have d2 : decide ((i : Int) < 0) = false := decide_eq_false (by omega)
  have d3 : decide ((n : Int) ≤ (i : Int)) = false := decide_eq_false (by omega)
  have d4 : decide (n ≤ i) = false := decide_eq_false (by omega)
  have hLn := Lib.hid (fun V => rlen7_any n i hn hi V)
  obtain ⟨z, hz9⟩ : ∃ z, lenM n i = z := ⟨_, rfl⟩
  rw [hz9] at hLn hk
  have d5 : ((k : Int) != (z : Int)) = true := by simp; omega
  have d6 : (k != z) = true := by simp; omega
  have d7 : decide (k = z) = false := decide_eq_false hk
  replace hz := Lib.hid hz
  clear hk
  go_enter Tryd.func52, Tryd.ntmps52
  go_wp2_with fail
  refine (hLn.out _).mono ?_
  rintro e w4 ⟨rfl, hw4⟩
  subst hw4
  go_wp2_with (first
    | (refine wpList_buildG (by rfl) 23 #[] (by rfl) (dg zero32) built_z7 ?_)
    | (refine wpList_set_row (by rfl) 23 (.tmp 8) (.tmp 30) (by rfl) (by rfl) w.heap.size (dg zero32) (by rfl) (by rfl) 23 _ hz.out hI.out rfl ho.out ?_; intro w6 hd6 hz6 hg6; replace hd6 := Lib.hid hd6))
  refine bodyPost_ret (v := .tuple #[.agg (dg zero32), .int .i64 70]) (results_row_tmp rfl _ _ w.heap.size 23 (dg zero32) (0, 0) _ _ rfl rfl hd6.out Tryd.underlying23 (by rfl) hI.out) rfl ⟨rfl, hb.grown hg6 hb.size (fun k e => by have := Option.some.inj e; omega)⟩
set_option maxRecDepth 100000 in
set_option maxHeartbeats 4000000 in
theorem rclimb7_in (n i : Nat) (hn : n ≤ 65536) (hi : i < n) (leaf : List UInt8) (m : Nat) (hm : leaf.length = m) (hms : m ≤ 1000000) (A : Option Addr) (c : Nat) (path : List (List UInt8)) (k : Nat) (hk : path.length = k) (P : Option Addr) (cp : Nat) (hcp : k ≤ cp) (hkl : k = lenM n i) (l : List (List UInt8 × List UInt8)) (hl : wayM n i (lfD leaf) path = some l) (w : World) (hlf : AtO w A leaf) (hp : DsAt w P path) (hp32 : ∀ d ∈ path, d.length = 32) :
    Calls Tryd.prog 52 #[.int .i64 n, .int .i64 i, .slice A m c, .slice P k cp] w fun e w' => e = .returned (.tuple #[.agg (dg (lastM ((lfD leaf, lfT leaf) :: l))), .int .i64 0]) ∧ Below w.heap.size w w' := by
  have hW : Hid (∀ V, Below w.heap.size w V → Calls Tryd.prog 70 #[.int .i64 n, .int .i64 i, .slice A m c, .slice P k cp] V fun e w' => ∃ (A' : Option Addr) (L c' : Nat) (T : Value), e = .returned (.tuple #[.slice A' L c', T]) ∧ (lfD leaf :: l.map (·.1)).length = L ∧ L ≤ c' ∧ DsAt w' A' (lfD leaf :: l.map (·.1)) ∧ Below V.heap.size V w') := Lib.hid fun V hV =>
    rway_any n i hn hi leaf m hm hms A c path k hk P cp hcp (by have := lenM_le n i; omega) (lfD leaf :: l.map (·.1)) ⟨l, hl, rfl⟩ V (hlf.below hV) (hp.below hV) hp32
  have hl9 : l.length ≤ n := wayM_len n i _ _ _ hl
  have h32 : ∀ x ∈ ((lfD leaf, lfT leaf) :: l), x.1.length = 32 := fun x hx => by
    rcases List.mem_cons.1 hx with rfl | hx
    · exact lfD_len leaf
    · exact wayM_32 n i _ _ _ (lfD_len leaf) hl x hx
  obtain ⟨q, hq⟩ : ∃ q, ((lfD leaf, lfT leaf) :: l).length = q + 1 := ⟨l.length, rfl⟩
  have hqn : q = l.length := by simp at hq; omega
  obtain ⟨x, hx⟩ : ∃ x, ((lfD leaf, lfT leaf) :: l).getLast? = some x := ⟨_, List.getLast?_eq_some_getLast (by simp)⟩
  have hlast : lastM ((lfD leaf, lfT leaf) :: l) = x.1 := by rw [lastM, hx]
  have hxq : (lfD leaf :: l.map (·.1))[q]? = some x.1 := by
    rw [List.getLast?_eq_getElem?, hq] at hx
    rw [show lfD leaf :: l.map (·.1) = ((lfD leaf, lfT leaf) :: l).map (·.1) from rfl, List.getElem?_map, show q = q + 1 - 1 by omega, hx]; rfl
  have hx32 := h32 x (List.mem_of_getLast? hx)
  have hfl : (lfD leaf :: l.map (·.1)).length = q + 1 := by rw [List.length_cons, List.length_map, hqn]
  obtain ⟨full, hfull⟩ : ∃ full, lfD leaf :: l.map (·.1) = full := ⟨_, rfl⟩
  rw [hfull] at hW hxq hfl
  rw [hlast]
  obtain ⟨d, hd⟩ : ∃ d, x.1 = d := ⟨_, rfl⟩
  rw [hd] at hxq hx32 ⊢
  have hqb : q ≤ 1000000 := by omega
  have hI := Lib.hid (dg_info zero32 zero32_len)
  have hz := heap_alloc_new w (.cells (dg zero32) 23)
  have hb : Below w.heap.size w (w.alloc (.cells (dg zero32) 23)) := (Below.refl _ _).alloc (Nat.le_refl _) _
  have hzs : w.heap.size < (w.alloc (.cells (dg zero32) 23)).heap.size := by simp
  have d1 : decide ((65536 : Int) < (n : Int)) = false := decide_eq_false (by omega)
  have d2 : decide ((i : Int) < 0) = false := decide_eq_false (by omega)
  have d3 : decide ((n : Int) ≤ (i : Int)) = false := decide_eq_false (by omega)
  have d4 : decide (n ≤ i) = false := decide_eq_false (by omega)
  have hLn : Hid (∀ V, Calls Tryd.prog 72 #[.int .i64 n, .int .i64 i] V fun e w' => e = .returned (.int .i64 k) ∧ w' = V) := Lib.hid (fun V => by rw [hkl]; exact rlen7_any n i hn hi V)
  have pd := Lib.hid (dc_info hx32)
  have pd2 := Lib.hid (dg_info d hx32)
  have po := Lib.hid (dg_one d)
  have ps := Lib.hid (show (dg zero32).size = (dg d).size by rw [dg_size, dg_size, hx32, zero32_len])
  have k4 : (q : Int) < (q : Int) + 1 := by omega
  have k2 : (0 : Int) ≤ (q : Int) := by omega
  have hflh := Lib.hid hfl
  have hxqh := Lib.hid hxq
  clear hlf hp hp32 hkl hl hl9 h32 hq hqn hx hlast hxq hx32 hfl hfull hd hk hm
  go_enter Tryd.func52, Tryd.ntmps52
  go_wp2_with fail
  refine (hLn.out _).mono ?_
  rintro e w4 ⟨rfl, hw4⟩
  subst hw4
  go_wp2_with fail
  refine (hW.out _ hb).mono ?_
  rintro e w5 ⟨A5, L5, c5, T5, rfl, hL5, hc5, hd5, hb5⟩
  rw [hflh.out] at hL5
  subst hL5
  obtain ⟨g, o, eA, hgl, hrg⟩ := hd5 q d hxqh.out
  subst eA
  have hz5 := Lib.hid ((hb5.block w.heap.size hzs).trans hz)
  have hB5 := Lib.hid (hb.trans (hb5.mono hb.size))
  replace hrg := Lib.hid hrg
  clear hd5 hb5 hb hz hzs hgl
  go_wp2_with (first
    | (refine wpList_load_mid (by rfl) 23 (.tmp 43) (by rfl) g (o + q * 32) (by rfl) (dc d) _ hrg.out Tryd.underlying23 (by rfl) pd.out ?_)
    | (refine wpList_set_row (by rfl) 23 (.tmp 8) (.tmp 44) (by rfl) (by rfl) w.heap.size (dg d) (by rfl) (by rfl) 23 _ hz5.out pd2.out ps.out po.out ?_; intro w6 hd6 hz6 hg6; replace hd6 := Lib.hid hd6))
  refine bodyPost_ret (v := .tuple #[.agg (dg d), .int .i64 0]) (results_row_tmp rfl _ _ w.heap.size 23 (dg d) (0, 0) _ _ rfl rfl hd6.out Tryd.underlying23 (by rfl) pd2.out) rfl ⟨rfl, hB5.out.grown hg6 hB5.out.size (fun k e => by have := Option.some.inj e; omega)⟩
theorem rclimb7_any (n i : Int) (leaf : List UInt8) (m : Nat) (hm : leaf.length = m) (hms : m ≤ 1000000) (A : Option Addr) (c : Nat) (path : List (List UInt8)) (k : Nat) (hk : path.length = k) (P : Option Addr) (cp : Nat) (hcp : k ≤ cp) (w : World) (hlf : AtO w A leaf) (hp : DsAt w P path) (hp32 : ∀ d ∈ path, d.length = 32) :
    Calls Tryd.prog 52 #[.int .i64 n, .int .i64 i, .slice A m c, .slice P k cp] w fun e w' => e = .returned (.tuple #[.agg (dg (clV n i leaf path).1), .int .i64 (clV n i leaf path).2]) ∧ Below w.heap.size w w' := by
  by_cases h : 65536 < n ∨ i < 0 ∨ n ≤ i
  · have e : clV n i leaf path = (zero32, 1) := if_pos h
    rw [e]
    exact rclimb7_bad n i h m A c k P cp w
  · obtain ⟨n', rfl⟩ : ∃ n' : Nat, n = n' := ⟨n.toNat, by omega⟩
    obtain ⟨i', rfl⟩ : ∃ i' : Nat, i = i' := ⟨i.toNat, by omega⟩
    have hs := wayM_some n' i' (lfD leaf) path
    unfold clV
    rw [if_neg h, Int.toNat_natCast, Int.toNat_natCast, climbM]
    cases hw : wayM n' i' (lfD leaf) path with
    | none =>
      rw [hw] at hs
      have := of_decide_eq_false hs.symm
      exact rclimb7_short n' i' (by omega) (by omega) m A c k P cp (by omega) w
    | some l =>
      rw [hw] at hs
      have := of_decide_eq_true hs.symm
      exact rclimb7_in n' i' (by omega) (by omega) leaf m hm hms A c path k hk P cp hcp (by omega) l hw w hlf hp hp32

theorem rsalt_any (n : Int) (w : World) : Calls Tryd.prog 51 #[.int .i64 n] w fun e w' => e = .returned (.bool (salB n)) ∧ w' = w := by
  by_cases a : 0 ≤ n
  · have d1 : decide (0 ≤ n) = true := decide_eq_true a
    obtain ⟨v, hv⟩ : ∃ v, decide (n ≤ 1099511627776) = v := ⟨_, rfl⟩
    have e : salB n = v := by rw [← hv]; exact decide_eq_decide.2 ⟨fun h => h.2, fun h => ⟨a, h⟩⟩
    rw [e]
    clear e
    go_enter Tryd.func51, Tryd.ntmps51
    go_wp2
    go_ret
    exact ⟨rfl, rfl⟩
  · have d1 : decide (0 ≤ n) = false := decide_eq_false a
    have e : salB n = false := decide_eq_false (fun h => a h.1)
    rw [e]
    go_enter Tryd.func51, Tryd.ntmps51
    go_wp2
    go_ret
    exact ⟨rfl, rfl⟩

set_option maxRecDepth 100000 in
set_option maxHeartbeats 2000000 in
theorem rform_any (s : Sl) (w : World) : Calls Tryd.prog 50 #[.agg (slA s)] w fun e w' => e = .returned (.bool (dayB s.t s.f s.m)) ∧ Below w.heap.size w w' := by
  have hB := Lib.hid (show Below w.heap.size w (w.alloc (.cells (slA s) 25)) from (Below.refl _ _).alloc (Nat.le_refl _) _)
  have x0 : (slA s)[0]? = some (.int .i64 s.t) := rfl
  have x1 : (slA s)[1]? = some (.int .i64 s.f) := rfl
  have x2 : (slA s)[2]? = some (.int .i64 s.m) := rfl
  obtain ⟨q, hq⟩ : ∃ q, dayB s.t s.f s.m = q := ⟨_, rfl⟩
  rw [hq]
  replace hq := Lib.hid hq
  by_cases a0 : 0 ≤ s.t
  · have d0 : decide (0 ≤ s.t) = true := decide_eq_true a0
    by_cases a1 : s.t ≤ 63
    · have d1 : decide (s.t ≤ 63) = true := decide_eq_true a1
      by_cases a2 : 1 ≤ s.m
      · have d2 : decide (1 ≤ s.m) = true := decide_eq_true a2
        by_cases a3 : s.m ≤ 512
        · have d3 : decide (s.m ≤ 512) = true := decide_eq_true a3
          by_cases a4 : 0 ≤ s.f
          · have d4 : decide (0 ≤ s.f) = true := decide_eq_true a4
            obtain ⟨w1, w2⟩ := wrap_days s.m (by omega) (by omega)
            by_cases a5 : s.f ≤ 73048 - s.m + 1
            · have d5 : decide (s.f ≤ 73048 - s.m + 1) = true := decide_eq_true a5
              obtain rfl : q = true := by rw [← hq.out]; exact decide_eq_true (by omega)
              clear hq
              go_enter Tryd.func50, Tryd.ntmps50
              go_wp2
              go_ret
              exact ⟨rfl, hB.out⟩
            · have d5 : decide (s.f ≤ 73048 - s.m + 1) = false := decide_eq_false a5
              obtain rfl : q = false := by rw [← hq.out]; exact decide_eq_false (by omega)
              clear hq
              go_enter Tryd.func50, Tryd.ntmps50
              go_wp2
              go_ret
              exact ⟨rfl, hB.out⟩
          · have d4 : decide (0 ≤ s.f) = false := decide_eq_false a4
            obtain rfl : q = false := by rw [← hq.out]; exact decide_eq_false (by omega)
            clear hq
            go_enter Tryd.func50, Tryd.ntmps50
            go_wp2
            go_ret
            exact ⟨rfl, hB.out⟩
        · have d3 : decide (s.m ≤ 512) = false := decide_eq_false a3
          obtain rfl : q = false := by rw [← hq.out]; exact decide_eq_false (by omega)
          clear hq
          go_enter Tryd.func50, Tryd.ntmps50
          go_wp2
          go_ret
          exact ⟨rfl, hB.out⟩
      · have d2 : decide (1 ≤ s.m) = false := decide_eq_false a2
        obtain rfl : q = false := by rw [← hq.out]; exact decide_eq_false (by omega)
        clear hq
        go_enter Tryd.func50, Tryd.ntmps50
        go_wp2
        go_ret
        exact ⟨rfl, hB.out⟩
    · have d1 : decide (s.t ≤ 63) = false := decide_eq_false a1
      obtain rfl : q = false := by rw [← hq.out]; exact decide_eq_false (by omega)
      clear hq
      go_enter Tryd.func50, Tryd.ntmps50
      go_wp2
      go_ret
      exact ⟨rfl, hB.out⟩
  · have d0 : decide (0 ≤ s.t) = false := decide_eq_false a0
    obtain rfl : q = false := by rw [← hq.out]; exact decide_eq_false (by omega)
    clear hq
    go_enter Tryd.func50, Tryd.ntmps50
    go_wp2
    go_ret
    exact ⟨rfl, hB.out⟩

set_option maxRecDepth 100000 in
set_option maxHeartbeats 4000000 in
theorem rleaf_any (t d n : Int) (b : Bool) (ht : I64 t) (hd : I64 d) (hn : I64 n) (w : World) : Calls Tryd.prog 47 #[.int .i64 t, .int .i64 d, .bool b, .int .i64 n] w (JoinC (leafM t d b n) w) := by
  obtain ⟨hsm, hlen⟩ := leaf_sm (b := b) ht hd hn
  have hE : Hid (∀ (V : World) (A : Option Addr) (m c : Nat), RS V 1 [sV dayBs, iV t, iV d, iV (if b then 1 else 0), iV n] (.slice A m c) → Calls Tryd.prog 71 #[.agg #[.int .i64 3, .int .i64 0, .string ⟨#[]⟩, .slice A m c]] V fun e w' => ∃ (A : Option Addr) (c : Nat), e = .returned (.tuple #[.slice A (leafM t d b n).length c, .int .i64 0]) ∧ (leafM t d b n).length ≤ c ∧ c ≤ 9223372036854775807 ∧ AtO w' A (leafM t d b n) ∧ Below V.heap.size V w' ∧ ∀ g o, A = some ⟨g, o, none⟩ → leafM t d b n ≠ [] → V.heap.size ≤ g ∧ g < w'.heap.size) := Lib.hid fun V A m c hR =>
    (rEncode_any 1 (leafV t d b n) (.slice A m c) V hR hsm (by simp [leafV, lV, sV, iV, dp, dpL]) (by have := hlen; unfold leafM at this; omega)).mono fun e w' h => h.join (leaf_ck t d b n)
  obtain ⟨L, hL⟩ : ∃ L, leafM t d b n = L := ⟨_, rfl⟩
  rw [hL] at hE ⊢
  clear hL hsm hlen ht hd hn
  cases b with
  | false =>
    simp only [Bool.false_eq_true, if_false] at hE
    have hbu := Lib.hid (built_v5 t d 0 n)
    go_enter Tryd.func47, Tryd.ntmps47
    go_wp2_with fail
    have HB := Below.refl w.heap.size w
    refine (mtext_any _ _).mono ?_
    rintro e v1 ⟨rfl, hb⟩
    replace HB := HB.trans (hb.mono HB.size)
    clear hb
    go_wp2_with fail
    refine (mint_any _ _).mono ?_
    rintro e v2 ⟨rfl, hb⟩
    replace HB := HB.trans (hb.mono HB.size)
    clear hb
    go_wp2_with fail
    refine (mint_any _ _).mono ?_
    rintro e v3 ⟨rfl, hb⟩
    replace HB := HB.trans (hb.mono HB.size)
    clear hb
    go_wp2_with fail
    refine (mint_any _ _).mono ?_
    rintro e v4 ⟨rfl, hb⟩
    replace HB := HB.trans (hb.mono HB.size)
    clear hb
    go_wp2_with fail
    refine (mint_any _ _).mono ?_
    rintro e v5 ⟨rfl, hb⟩
    replace HB := HB.trans (hb.mono HB.size)
    clear hb
    go_wp2_with (refine wpList_built (by rfl) 94 96 5 #[(0, .tmp 14), (1, .tmp 16), (2, .tmp 18), (3, .tmp 20), (4, .tmp 22)] (by rfl) Tryd.underlying94 #[.int .i64 2, .int .i64 0, .string dayBs, .slice none 0 0, .int .i64 1, .int .i64 t, .string ⟨#[]⟩, .slice none 0 0, .int .i64 1, .int .i64 d, .string ⟨#[]⟩, .slice none 0 0, .int .i64 1, .int .i64 0, .string ⟨#[]⟩, .slice none 0 0, .int .i64 1, .int .i64 n, .string ⟨#[]⟩, .slice none 0 0] (by simp only [List.map_toArray, List.map_cons, List.map_nil]; exact hbu.out) ?_)
    have HB9 := HB.alloc HB.size (.cells #[.int .i64 2, .int .i64 0, .string dayBs, .slice none 0 0, .int .i64 1, .int .i64 t, .string ⟨#[]⟩, .slice none 0 0, .int .i64 1, .int .i64 d, .string ⟨#[]⟩, .slice none 0 0, .int .i64 1, .int .i64 0, .string ⟨#[]⟩, .slice none 0 0, .int .i64 1, .int .i64 n, .string ⟨#[]⟩, .slice none 0 0] 96)
    have hrs := Lib.hid (flat_rs v5 [sV dayBs, iV t, iV d, iV 0, iV n] #[.int .i64 2, .int .i64 0, .string dayBs, .slice none 0 0, .int .i64 1, .int .i64 t, .string ⟨#[]⟩, .slice none 0 0, .int .i64 1, .int .i64 d, .string ⟨#[]⟩, .slice none 0 0, .int .i64 1, .int .i64 0, .string ⟨#[]⟩, .slice none 0 0, .int .i64 1, .int .i64 n, .string ⟨#[]⟩, .slice none 0 0] (by simp [flatF, fl, sV, iV]) v5.heap.size 5 5 rfl rfl (by omega) (by simp [sV, iV]))
    refine (mlist_any _ _ _ _).mono ?_
    rintro e v6 ⟨rfl, hb⟩
    have hrs6 := Lib.hid (hrs.out.below hb)
    have HB6 := HB9.trans (hb.mono HB9.size)
    clear hb HB9 HB hrs
    go_wp2_with fail
    refine (hE.out _ _ _ _ hrs6.out).mono ?_
    rintro e v7 ⟨A7, c7, rfl, h71, h72, h73, hb, h74⟩
    have h75 := HB6.size
    have HB7 := HB6.trans (hb.mono HB6.size)
    replace h73 := Lib.hid h73
    clear hb
    go_wp2_with fail
    refine bodyPost_ret (v := .slice A7 L.length c7) (by simp [results, Tryd.results47, go_sem]) rfl ⟨A7, c7, rfl, h71, h72, h73.out, HB7, fun g o e hne => ⟨Nat.le_trans h75 (h74 g o e hne).1, (h74 g o e hne).2⟩⟩
  | true =>
    simp only [if_true] at hE
    have hbu := Lib.hid (built_v5 t d 1 n)
    go_enter Tryd.func47, Tryd.ntmps47
    go_wp2_with fail
    have HB := Below.refl w.heap.size w
    refine (mtext_any _ _).mono ?_
    rintro e v1 ⟨rfl, hb⟩
    replace HB := HB.trans (hb.mono HB.size)
    clear hb
    go_wp2_with fail
    refine (mint_any _ _).mono ?_
    rintro e v2 ⟨rfl, hb⟩
    replace HB := HB.trans (hb.mono HB.size)
    clear hb
    go_wp2_with fail
    refine (mint_any _ _).mono ?_
    rintro e v3 ⟨rfl, hb⟩
    replace HB := HB.trans (hb.mono HB.size)
    clear hb
    go_wp2_with fail
    refine (mint_any _ _).mono ?_
    rintro e v4 ⟨rfl, hb⟩
    replace HB := HB.trans (hb.mono HB.size)
    clear hb
    go_wp2_with fail
    refine (mint_any _ _).mono ?_
    rintro e v5 ⟨rfl, hb⟩
    replace HB := HB.trans (hb.mono HB.size)
    clear hb
    go_wp2_with (refine wpList_built (by rfl) 94 96 5 #[(0, .tmp 14), (1, .tmp 16), (2, .tmp 18), (3, .tmp 20), (4, .tmp 22)] (by rfl) Tryd.underlying94 #[.int .i64 2, .int .i64 0, .string dayBs, .slice none 0 0, .int .i64 1, .int .i64 t, .string ⟨#[]⟩, .slice none 0 0, .int .i64 1, .int .i64 d, .string ⟨#[]⟩, .slice none 0 0, .int .i64 1, .int .i64 1, .string ⟨#[]⟩, .slice none 0 0, .int .i64 1, .int .i64 n, .string ⟨#[]⟩, .slice none 0 0] (by simp only [List.map_toArray, List.map_cons, List.map_nil]; exact hbu.out) ?_)
    have HB9 := HB.alloc HB.size (.cells #[.int .i64 2, .int .i64 0, .string dayBs, .slice none 0 0, .int .i64 1, .int .i64 t, .string ⟨#[]⟩, .slice none 0 0, .int .i64 1, .int .i64 d, .string ⟨#[]⟩, .slice none 0 0, .int .i64 1, .int .i64 1, .string ⟨#[]⟩, .slice none 0 0, .int .i64 1, .int .i64 n, .string ⟨#[]⟩, .slice none 0 0] 96)
    have hrs := Lib.hid (flat_rs v5 [sV dayBs, iV t, iV d, iV 1, iV n] #[.int .i64 2, .int .i64 0, .string dayBs, .slice none 0 0, .int .i64 1, .int .i64 t, .string ⟨#[]⟩, .slice none 0 0, .int .i64 1, .int .i64 d, .string ⟨#[]⟩, .slice none 0 0, .int .i64 1, .int .i64 1, .string ⟨#[]⟩, .slice none 0 0, .int .i64 1, .int .i64 n, .string ⟨#[]⟩, .slice none 0 0] (by simp [flatF, fl, sV, iV]) v5.heap.size 5 5 rfl rfl (by omega) (by simp [sV, iV]))
    refine (mlist_any _ _ _ _).mono ?_
    rintro e v6 ⟨rfl, hb⟩
    have hrs6 := Lib.hid (hrs.out.below hb)
    have HB6 := HB9.trans (hb.mono HB9.size)
    clear hb HB9 HB hrs
    go_wp2_with fail
    refine (hE.out _ _ _ _ hrs6.out).mono ?_
    rintro e v7 ⟨A7, c7, rfl, h71, h72, h73, hb, h74⟩
    have h75 := HB6.size
    have HB7 := HB6.trans (hb.mono HB6.size)
    replace h73 := Lib.hid h73
    clear hb
    go_wp2_with fail
    refine bodyPost_ret (v := .slice A7 L.length c7) (by simp [results, Tryd.results47, go_sem]) rfl ⟨A7, c7, rfl, h71, h72, h73.out, HB7, fun g o e hne => ⟨Nat.le_trans h75 (h74 g o e hne).1, (h74 g o e hne).2⟩⟩
end Go.Proofs.YtnccbhndlnkboaaDoor
