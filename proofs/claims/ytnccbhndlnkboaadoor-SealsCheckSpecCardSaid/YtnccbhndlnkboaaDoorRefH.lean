/- The walks of the reference's Climb, Form, salt and Leaf. -/
import Derived.Test.YtnccbhndlnkboaaDoorRefG
import Derived.Test.YtnccbhndlnkboaaDoorSealM
import Derived.Test.YtnccbhndlnkboaaDoorLLeaf
import Derived.Test.YtnccbhndlnkboaaDoorRefFC
import Derived.Test.YtnccbhndlnkboaaDoorSCheck
import Derived.Test.YtnccbhndlnkboaaDoorMoreA
namespace Go.Proofs.YtnccbhndlnkboaaDoor
open Go.RowKit Go.Shelf Cdc Sha
set_option linter.unusedVariables false
set_option linter.unusedSimpArgs false

theorem built_z7 : Tryd.prog.built 23 [] = some (dg zero32) := by kernel_rfl
set_option maxRecDepth 100000 in
set_option maxHeartbeats 4000000 in
theorem rclimb7_bad (n i : Int) (h : 65536 < n ∨ i < 0 ∨ n ≤ i) (m : Nat) (A : Option Addr) (c k : Nat) (P : Option Addr) (cp : Nat) (w : World) :
    Calls Tryd.prog 52 #[.int .i64 n, .int .i64 i, .slice A m c, .slice P k cp] w fun e w' => e = .returned (.tuple #[.agg (dg zero32), .int .i64 1]) ∧ Below w.heap.size w w' := by
  have hi := Lib.hid (dg_info zero32 zero32_len)
  have ho := Lib.hid (dg_one zero32)
  have hz := heap_alloc_new w (.cells (dg zero32) 23)
  have hb : Below w.heap.size w (w.alloc (.cells (dg zero32) 23)) := (Below.refl _ _).alloc (Nat.le_refl _) _
  have cases3 : (decide (65536 < n) = true) ∨ (decide (65536 < n) = false ∧ decide (i < 0) = true) ∨ (decide (65536 < n) = false ∧ decide (i < 0) = false ∧ decide (n ≤ i) = true) := by
    by_cases a : 65536 < n
    · exact .inl (decide_eq_true a)
    · by_cases b : i < 0
      · exact .inr (.inl ⟨decide_eq_false a, decide_eq_true b⟩)
      · exact .inr (.inr ⟨decide_eq_false a, decide_eq_false b, decide_eq_true (by omega)⟩)
  replace hz := Lib.hid hz
  clear h
  rcases cases3 with h1 | ⟨h1, h2⟩ | ⟨h1, h2, h3⟩
  all_goals
    go_enter Tryd.func52, Tryd.ntmps52
    go_wp2_with (first
      | (refine wpList_buildG (by rfl) 23 #[] (by rfl) (dg zero32) built_z7 ?_)
      | (refine wpList_set_row (by rfl) 23 (.tmp 8) (.tmp 23) (by rfl) (by rfl) w.heap.size (dg zero32) (by rfl) (by rfl) 23 _ hz.out hi.out rfl ho.out ?_; intro w6 hd6 hz6 hg6; replace hd6 := Lib.hid hd6))
    refine bodyPost_ret (v := .tuple #[.agg (dg zero32), .int .i64 1]) (results_row_tmp rfl _ _ w.heap.size 23 (dg zero32) (0, 0) _ _ rfl rfl hd6.out Tryd.underlying23 (by rfl) hi.out) rfl ⟨rfl, hb.grown hg6 hb.size (fun k e => by have := Option.some.inj e; omega)⟩
set_option maxRecDepth 100000 in
set_option maxHeartbeats 4000000 in
theorem rclimb7_short (n i : Nat) (hn : n ≤ 65536) (hi : i < n) (m : Nat) (A : Option Addr) (c k : Nat) (P : Option Addr) (cp : Nat) (hk : k ≠ lenM n i) (w : World) :
    Calls Tryd.prog 52 #[.int .i64 n, .int .i64 i, .slice A m c, .slice P k cp] w fun e w' => e = .returned (.tuple #[.agg (dg zero32), .int .i64 70]) ∧ Below w.heap.size w w' := by
  have hI := Lib.hid (dg_info zero32 zero32_len)
  have ho := Lib.hid (dg_one zero32)
  have hz := heap_alloc_new w (.cells (dg zero32) 23)
  have hb : Below w.heap.size w (w.alloc (.cells (dg zero32) 23)) := (Below.refl _ _).alloc (Nat.le_refl _) _
  have d1 : decide ((65536 : Int) < (n : Int)) = false := decide_eq_false (by omega)
  have d2 : decide ((i : Int) < 0) = false := decide_eq_false (by omega)
  have d3 : decide ((n : Int) ≤ (i : Int)) = false := decide_eq_false (by omega)
  have d4 : decide (n ≤ i) = false := decide_eq_false (by omega)
  have hLn := Lib.hid (fun V => rlen7_any n i hn hi V)
  obtain ⟨z, hz9⟩ : ∃ z, lenM n i = z := ⟨_, rfl⟩
  rw [hz9] at hLn hk
  have d5 : ((k : Int) != (z : Int)) = true := by simp; omega
  have d6 : (k != z) = true := by simp; omega
  have d7 : decide (k = z) = false := decide_eq_false hk
  replace hz := Lib.hid hz
  clear hk
  go_enter Tryd.func52, Tryd.ntmps52
  go_wp2_with fail
  refine (hLn.out _).mono ?_
  rintro e w4 ⟨rfl, hw4⟩
  subst hw4
  go_wp2_with (first
    | (refine wpList_buildG (by rfl) 23 #[] (by rfl) (dg zero32) built_z7 ?_)
    | (refine wpList_set_row (by rfl) 23 (.tmp 8) (.tmp 30) (by rfl) (by rfl) w.heap.size (dg zero32) (by rfl) (by rfl) 23 _ hz.out hI.out rfl ho.out ?_; intro w6 hd6 hz6 hg6; replace hd6 := Lib.hid hd6))
  refine bodyPost_ret (v := .tuple #[.agg (dg zero32), .int .i64 70]) (results_row_tmp rfl _ _ w.heap.size 23 (dg zero32) (0, 0) _ _ rfl rfl hd6.out Tryd.underlying23 (by rfl) hI.out) rfl ⟨rfl, hb.grown hg6 hb.size (fun k e => by have := Option.some.inj e; omega)⟩
set_option maxRecDepth 100000 in
set_option maxHeartbeats 4000000 in
theorem rclimb7_in (n i : Nat) (hn : n ≤ 65536) (hi : i < n) (leaf : List UInt8) (m : Nat) (hm : leaf.length = m) (hms : m ≤ 1000000) (A : Option Addr) (c : Nat) (path : List (List UInt8)) (k : Nat) (hk : path.length = k) (P : Option Addr) (cp : Nat) (hcp : k ≤ cp) (hkl : k = lenM n i) (l : List (List UInt8 × List UInt8)) (hl : wayM n i (lfD leaf) path = some l) (w : World) (hlf : AtO w A leaf) (hp : DsAt w P path) (hp32 : ∀ d ∈ path, d.length = 32) :
    Calls Tryd.prog 52 #[.int .i64 n, .int .i64 i, .slice A m c, .slice P k cp] w fun e w' => e = .returned (.tuple #[.agg (dg (lastM ((lfD leaf, lfT leaf) :: l))), .int .i64 0]) ∧ Below w.heap.size w w' := by
  have hW : Hid (∀ V, Below w.heap.size w V → Calls Tryd.prog 70 #[.int .i64 n, .int .i64 i, .slice A m c, .slice P k cp] V fun e w' => ∃ (A' : Option Addr) (L c' : Nat) (T : Value), e = .returned (.tuple #[.slice A' L c', T]) ∧ (lfD leaf :: l.map (·.1)).length = L ∧ L ≤ c' ∧ DsAt w' A' (lfD leaf :: l.map (·.1)) ∧ Below V.heap.size V w') := Lib.hid fun V hV =>
    rway_any n i hn hi leaf m hm hms A c path k hk P cp hcp (by have := lenM_le n i; omega) (lfD leaf :: l.map (·.1)) ⟨l, hl, rfl⟩ V (hlf.below hV) (hp.below hV) hp32
  have hl9 : l.length ≤ n := wayM_len n i _ _ _ hl
  have h32 : ∀ x ∈ ((lfD leaf, lfT leaf) :: l), x.1.length = 32 := fun x hx => by
    rcases List.mem_cons.1 hx with rfl | hx
    · exact lfD_len leaf
    · exact wayM_32 n i _ _ _ (lfD_len leaf) hl x hx
  obtain ⟨q, hq⟩ : ∃ q, ((lfD leaf, lfT leaf) :: l).length = q + 1 := ⟨l.length, rfl⟩
  have hqn : q = l.length := by simp at hq; omega
  obtain ⟨x, hx⟩ : ∃ x, ((lfD leaf, lfT leaf) :: l).getLast? = some x := ⟨_, List.getLast?_eq_some_getLast (by simp)⟩
  have hlast : lastM ((lfD leaf, lfT leaf) :: l) = x.1 := by rw [lastM, hx]
  have hxq : (lfD leaf :: l.map (·.1))[q]? = some x.1 := by
    rw [List.getLast?_eq_getElem?, hq] at hx
    rw [show lfD leaf :: l.map (·.1) = ((lfD leaf, lfT leaf) :: l).map (·.1) from rfl, List.getElem?_map, show q = q + 1 - 1 by omega, hx]; rfl
  have hx32 := h32 x (List.mem_of_getLast? hx)
  have hfl : (lfD leaf :: l.map (·.1)).length = q + 1 := by rw [List.length_cons, List.length_map, hqn]
  obtain ⟨full, hfull⟩ : ∃ full, lfD leaf :: l.map (·.1) = full := ⟨_, rfl⟩
  rw [hfull] at hW hxq hfl
  rw [hlast]
  obtain ⟨d, hd⟩ : ∃ d, x.1 = d := ⟨_, rfl⟩
  rw [hd] at hxq hx32 ⊢
  have hqb : q ≤ 1000000 := by omega
  have hI := Lib.hid (dg_info zero32 zero32_len)
  have hz := heap_alloc_new w (.cells (dg zero32) 23)
  have hb : Below w.heap.size w (w.alloc (.cells (dg zero32) 23)) := (Below.refl _ _).alloc (Nat.le_refl _) _
  have hzs : w.heap.size < (w.alloc (.cells (dg zero32) 23)).heap.size := by simp
  have d1 : decide ((65536 : Int) < (n : Int)) = false := decide_eq_false (by omega)
  have d2 : decide ((i : Int) < 0) = false := decide_eq_false (by omega)
  have d3 : decide ((n : Int) ≤ (i : Int)) = false := decide_eq_false (by omega)
  have d4 : decide (n ≤ i) = false := decide_eq_false (by omega)
  have hLn : Hid (∀ V, Calls Tryd.prog 72 #[.int .i64 n, .int .i64 i] V fun e w' => e = .returned (.int .i64 k) ∧ w' = V) := Lib.hid (fun V => by rw [hkl]; exact rlen7_any n i hn hi V)
  have pd := Lib.hid (dc_info hx32)
  have pd2 := Lib.hid (dg_info d hx32)
  have po := Lib.hid (dg_one d)
  have ps := Lib.hid (show (dg zero32).size = (dg d).size by rw [dg_size, dg_size, hx32, zero32_len])
  have k4 : (q : Int) < (q : Int) + 1 := by omega
  have k2 : (0 : Int) ≤ (q : Int) := by omega
  have hflh := Lib.hid hfl
  have hxqh := Lib.hid hxq
  clear hlf hp hp32 hkl hl hl9 h32 hq hqn hx hlast hxq hx32 hfl hfull hd hk hm
  go_enter Tryd.func52, Tryd.ntmps52
  go_wp2_with fail
  refine (hLn.out _).mono ?_
  rintro e w4 ⟨rfl, hw4⟩
  subst hw4
  go_wp2_with fail
  refine (hW.out _ hb).mono ?_
  rintro e w5 ⟨A5, L5, c5, T5, rfl, hL5, hc5, hd5, hb5⟩
  rw [hflh.out] at hL5
  subst hL5
  obtain ⟨g, o, eA, hgl, hrg⟩ := hd5 q d hxqh.out
  subst eA
  have hz5 := Lib.hid ((hb5.block w.heap.size hzs).trans hz)
  have hB5 := Lib.hid (hb.trans (hb5.mono hb.size))
  replace hrg := Lib.hid hrg
  clear hd5 hb5 hb hz hzs hgl
  go_wp2_with (first
    | (refine wpList_load_mid (by rfl) 23 (.tmp 43) (by rfl) g (o + q * 32) (by rfl) (dc d) _ hrg.out Tryd.underlying23 (by rfl) pd.out ?_)
    | (refine wpList_set_row (by rfl) 23 (.tmp 8) (.tmp 44) (by rfl) (by rfl) w.heap.size (dg d) (by rfl) (by rfl) 23 _ hz5.out pd2.out ps.out po.out ?_; intro w6 hd6 hz6 hg6; replace hd6 := Lib.hid hd6))
  refine bodyPost_ret (v := .tuple #[.agg (dg d), .int .i64 0]) (results_row_tmp rfl _ _ w.heap.size 23 (dg d) (0, 0) _ _ rfl rfl hd6.out Tryd.underlying23 (by rfl) pd2.out) rfl ⟨rfl, hB5.out.grown hg6 hB5.out.size (fun k e => by have := Option.some.inj e; omega)⟩
theorem rclimb7_any (n i : Int) (leaf : List UInt8) (m : Nat) (hm : leaf.length = m) (hms : m ≤ 1000000) (A : Option Addr) (c : Nat) (path : List (List UInt8)) (k : Nat) (hk : path.length = k) (P : Option Addr) (cp : Nat) (hcp : k ≤ cp) (w : World) (hlf : AtO w A leaf) (hp : DsAt w P path) (hp32 : ∀ d ∈ path, d.length = 32) :
    Calls Tryd.prog 52 #[.int .i64 n, .int .i64 i, .slice A m c, .slice P k cp] w fun e w' => e = .returned (.tuple #[.agg (dg (clV n i leaf path).1), .int .i64 (clV n i leaf path).2]) ∧ Below w.heap.size w w' := by
  by_cases h : 65536 < n ∨ i < 0 ∨ n ≤ i
  · have e : clV n i leaf path = (zero32, 1) := if_pos h
    rw [e]
    exact rclimb7_bad n i h m A c k P cp w
  · obtain ⟨n', rfl⟩ : ∃ n' : Nat, n = n' := ⟨n.toNat, by omega⟩
    obtain ⟨i', rfl⟩ : ∃ i' : Nat, i = i' := ⟨i.toNat, by omega⟩
    have hs := wayM_some n' i' (lfD leaf) path
    unfold clV
    rw [if_neg h, Int.toNat_natCast, Int.toNat_natCast, climbM]
    cases hw : wayM n' i' (lfD leaf) path with
    | none =>
      rw [hw] at hs
      have := of_decide_eq_false hs.symm
      exact rclimb7_short n' i' (by omega) (by omega) m A c k P cp (by omega) w
    | some l =>
      rw [hw] at hs
      have := of_decide_eq_true hs.symm
      exact rclimb7_in n' i' (by omega) (by omega) leaf m hm hms A c path k hk P cp hcp (by omega) l hw w hlf hp hp32

theorem rsalt_any (n : Int) (w : World) : Calls Tryd.prog 51 #[.int .i64 n] w fun e w' => e = .returned (.bool (salB n)) ∧ w' = w := by
  by_cases a : 0 ≤ n
  · have d1 : decide (0 ≤ n) = true := decide_eq_true a
    obtain ⟨v, hv⟩ : ∃ v, decide (n ≤ 1099511627776) = v := ⟨_, rfl⟩
    have e : salB n = v := by rw [← hv]; exact decide_eq_decide.2 ⟨fun h => h.2, fun h => ⟨a, h⟩⟩
    rw [e]
    clear e
    go_enter Tryd.func51, Tryd.ntmps51
    go_wp2
    go_ret
    exact ⟨rfl, rfl⟩
  · have d1 : decide (0 ≤ n) = false := decide_eq_false a
    have e : salB n = false := decide_eq_false (fun h => a h.1)
    rw [e]
    go_enter Tryd.func51, Tryd.ntmps51
    go_wp2
    go_ret
    exact ⟨rfl, rfl⟩

set_option maxRecDepth 100000 in
set_option maxHeartbeats 2000000 in
theorem rform_any (s : Sl) (w : World) : Calls Tryd.prog 50 #[.agg (slA s)] w fun e w' => e = .returned (.bool (dayB s.t s.f s.m)) ∧ Below w.heap.size w w' := by
  have hB := Lib.hid (show Below w.heap.size w (w.alloc (.cells (slA s) 25)) from (Below.refl _ _).alloc (Nat.le_refl _) _)
  have x0 : (slA s)[0]? = some (.int .i64 s.t) := rfl
  have x1 : (slA s)[1]? = some (.int .i64 s.f) := rfl
  have x2 : (slA s)[2]? = some (.int .i64 s.m) := rfl
  obtain ⟨q, hq⟩ : ∃ q, dayB s.t s.f s.m = q := ⟨_, rfl⟩
  rw [hq]
  replace hq := Lib.hid hq
  by_cases a0 : 0 ≤ s.t
  · have d0 : decide (0 ≤ s.t) = true := decide_eq_true a0
    by_cases a1 : s.t ≤ 63
    · have d1 : decide (s.t ≤ 63) = true := decide_eq_true a1
      by_cases a2 : 1 ≤ s.m
      · have d2 : decide (1 ≤ s.m) = true := decide_eq_true a2
        by_cases a3 : s.m ≤ 512
        · have d3 : decide (s.m ≤ 512) = true := decide_eq_true a3
          by_cases a4 : 0 ≤ s.f
          · have d4 : decide (0 ≤ s.f) = true := decide_eq_true a4
            obtain ⟨w1, w2⟩ := wrap_days s.m (by omega) (by omega)
            by_cases a5 : s.f ≤ 73048 - s.m + 1
            · have d5 : decide (s.f ≤ 73048 - s.m + 1) = true := decide_eq_true a5
              obtain rfl : q = true := by rw [← hq.out]; exact decide_eq_true (by omega)
              clear hq
              go_enter Tryd.func50, Tryd.ntmps50
              go_wp2
              go_ret
              exact ⟨rfl, hB.out⟩
            · have d5 : decide (s.f ≤ 73048 - s.m + 1) = false := decide_eq_false a5
              obtain rfl : q = false := by rw [← hq.out]; exact decide_eq_false (by omega)
              clear hq
              go_enter Tryd.func50, Tryd.ntmps50
              go_wp2
              go_ret
              exact ⟨rfl, hB.out⟩
          · have d4 : decide (0 ≤ s.f) = false := decide_eq_false a4
            obtain rfl : q = false := by rw [← hq.out]; exact decide_eq_false (by omega)
            clear hq
            go_enter Tryd.func50, Tryd.ntmps50
            go_wp2
            go_ret
            exact ⟨rfl, hB.out⟩
        · have d3 : decide (s.m ≤ 512) = false := decide_eq_false a3
          obtain rfl : q = false := by rw [← hq.out]; exact decide_eq_false (by omega)
          clear hq
          go_enter Tryd.func50, Tryd.ntmps50
          go_wp2
          go_ret
          exact ⟨rfl, hB.out⟩
      · have d2 : decide (1 ≤ s.m) = false := decide_eq_false a2
        obtain rfl : q = false := by rw [← hq.out]; exact decide_eq_false (by omega)
        clear hq
        go_enter Tryd.func50, Tryd.ntmps50
        go_wp2
        go_ret
        exact ⟨rfl, hB.out⟩
    · have d1 : decide (s.t ≤ 63) = false := decide_eq_false a1
      obtain rfl : q = false := by rw [← hq.out]; exact decide_eq_false (by omega)
      clear hq
      go_enter Tryd.func50, Tryd.ntmps50
      go_wp2
      go_ret
      exact ⟨rfl, hB.out⟩
  · have d0 : decide (0 ≤ s.t) = false := decide_eq_false a0
    obtain rfl : q = false := by rw [← hq.out]; exact decide_eq_false (by omega)
    clear hq
    go_enter Tryd.func50, Tryd.ntmps50
    go_wp2
    go_ret
    exact ⟨rfl, hB.out⟩

set_option maxRecDepth 100000 in
set_option maxHeartbeats 4000000 in
theorem rleaf_any (t d n : Int) (b : Bool) (ht : I64 t) (hd : I64 d) (hn : I64 n) (w : World) : Calls Tryd.prog 47 #[.int .i64 t, .int .i64 d, .bool b, .int .i64 n] w (JoinC (leafM t d b n) w) := by
  obtain ⟨hsm, hlen⟩ := leaf_sm (b := b) ht hd hn
  have hE : Hid (∀ (V : World) (A : Option Addr) (m c : Nat), RS V 1 [sV dayBs, iV t, iV d, iV (if b then 1 else 0), iV n] (.slice A m c) → Calls Tryd.prog 71 #[.agg #[.int .i64 3, .int .i64 0, .string ⟨#[]⟩, .slice A m c]] V fun e w' => ∃ (A : Option Addr) (c : Nat), e = .returned (.tuple #[.slice A (leafM t d b n).length c, .int .i64 0]) ∧ (leafM t d b n).length ≤ c ∧ c ≤ 9223372036854775807 ∧ AtO w' A (leafM t d b n) ∧ Below V.heap.size V w' ∧ ∀ g o, A = some ⟨g, o, none⟩ → leafM t d b n ≠ [] → V.heap.size ≤ g ∧ g < w'.heap.size) := Lib.hid fun V A m c hR =>
    (rEncode_any 1 (leafV t d b n) (.slice A m c) V hR hsm (by simp [leafV, lV, sV, iV, dp, dpL]) (by have := hlen; unfold leafM at this; omega)).mono fun e w' h => h.join (leaf_ck t d b n)
  obtain ⟨L, hL⟩ : ∃ L, leafM t d b n = L := ⟨_, rfl⟩
  rw [hL] at hE ⊢
  clear hL hsm hlen ht hd hn
  cases b with
  | false =>
    simp only [Bool.false_eq_true, if_false] at hE
    have hbu := Lib.hid (built_v5 t d 0 n)
    go_enter Tryd.func47, Tryd.ntmps47
    go_wp2_with fail
    have HB := Below.refl w.heap.size w
    refine (mtext_any _ _).mono ?_
    rintro e v1 ⟨rfl, hb⟩
    replace HB := HB.trans (hb.mono HB.size)
    clear hb
    go_wp2_with fail
    refine (mint_any _ _).mono ?_
    rintro e v2 ⟨rfl, hb⟩
    replace HB := HB.trans (hb.mono HB.size)
    clear hb
    go_wp2_with fail
    refine (mint_any _ _).mono ?_
    rintro e v3 ⟨rfl, hb⟩
    replace HB := HB.trans (hb.mono HB.size)
    clear hb
    go_wp2_with fail
    refine (mint_any _ _).mono ?_
    rintro e v4 ⟨rfl, hb⟩
    replace HB := HB.trans (hb.mono HB.size)
    clear hb
    go_wp2_with fail
    refine (mint_any _ _).mono ?_
    rintro e v5 ⟨rfl, hb⟩
    replace HB := HB.trans (hb.mono HB.size)
    clear hb
    go_wp2_with (refine wpList_built (by rfl) 94 96 5 #[(0, .tmp 14), (1, .tmp 16), (2, .tmp 18), (3, .tmp 20), (4, .tmp 22)] (by rfl) Tryd.underlying94 #[.int .i64 2, .int .i64 0, .string dayBs, .slice none 0 0, .int .i64 1, .int .i64 t, .string ⟨#[]⟩, .slice none 0 0, .int .i64 1, .int .i64 d, .string ⟨#[]⟩, .slice none 0 0, .int .i64 1, .int .i64 0, .string ⟨#[]⟩, .slice none 0 0, .int .i64 1, .int .i64 n, .string ⟨#[]⟩, .slice none 0 0] (by simp only [List.map_toArray, List.map_cons, List.map_nil]; exact hbu.out) ?_)
    have HB9 := HB.alloc HB.size (.cells #[.int .i64 2, .int .i64 0, .string dayBs, .slice none 0 0, .int .i64 1, .int .i64 t, .string ⟨#[]⟩, .slice none 0 0, .int .i64 1, .int .i64 d, .string ⟨#[]⟩, .slice none 0 0, .int .i64 1, .int .i64 0, .string ⟨#[]⟩, .slice none 0 0, .int .i64 1, .int .i64 n, .string ⟨#[]⟩, .slice none 0 0] 96)
    have hrs := Lib.hid (flat_rs v5 [sV dayBs, iV t, iV d, iV 0, iV n] #[.int .i64 2, .int .i64 0, .string dayBs, .slice none 0 0, .int .i64 1, .int .i64 t, .string ⟨#[]⟩, .slice none 0 0, .int .i64 1, .int .i64 d, .string ⟨#[]⟩, .slice none 0 0, .int .i64 1, .int .i64 0, .string ⟨#[]⟩, .slice none 0 0, .int .i64 1, .int .i64 n, .string ⟨#[]⟩, .slice none 0 0] (by simp [flatF, fl, sV, iV]) v5.heap.size 5 5 rfl rfl (by omega) (by simp [sV, iV]))
    refine (mlist_any _ _ _ _).mono ?_
    rintro e v6 ⟨rfl, hb⟩
    have hrs6 := Lib.hid (hrs.out.below hb)
    have HB6 := HB9.trans (hb.mono HB9.size)
    clear hb HB9 HB hrs
    go_wp2_with fail
    refine (hE.out _ _ _ _ hrs6.out).mono ?_
    rintro e v7 ⟨A7, c7, rfl, h71, h72, h73, hb, h74⟩
    have h75 := HB6.size
    have HB7 := HB6.trans (hb.mono HB6.size)
    replace h73 := Lib.hid h73
    clear hb
    go_wp2_with fail
    refine bodyPost_ret (v := .slice A7 L.length c7) (by simp [results, Tryd.results47, go_sem]) rfl ⟨A7, c7, rfl, h71, h72, h73.out, HB7, fun g o e hne => ⟨Nat.le_trans h75 (h74 g o e hne).1, (h74 g o e hne).2⟩⟩
  | true =>
    simp only [if_true] at hE
    have hbu := Lib.hid (built_v5 t d 1 n)
    go_enter Tryd.func47, Tryd.ntmps47
    go_wp2_with fail
    have HB := Below.refl w.heap.size w
    refine (mtext_any _ _).mono ?_
    rintro e v1 ⟨rfl, hb⟩
    replace HB := HB.trans (hb.mono HB.size)
    clear hb
    go_wp2_with fail
    refine (mint_any _ _).mono ?_
    rintro e v2 ⟨rfl, hb⟩
    replace HB := HB.trans (hb.mono HB.size)
    clear hb
    go_wp2_with fail
    refine (mint_any _ _).mono ?_
    rintro e v3 ⟨rfl, hb⟩
    replace HB := HB.trans (hb.mono HB.size)
    clear hb
    go_wp2_with fail
    refine (mint_any _ _).mono ?_
    rintro e v4 ⟨rfl, hb⟩
    replace HB := HB.trans (hb.mono HB.size)
    clear hb
    go_wp2_with fail
    refine (mint_any _ _).mono ?_
    rintro e v5 ⟨rfl, hb⟩
    replace HB := HB.trans (hb.mono HB.size)
    clear hb
    go_wp2_with (refine wpList_built (by rfl) 94 96 5 #[(0, .tmp 14), (1, .tmp 16), (2, .tmp 18), (3, .tmp 20), (4, .tmp 22)] (by rfl) Tryd.underlying94 #[.int .i64 2, .int .i64 0, .string dayBs, .slice none 0 0, .int .i64 1, .int .i64 t, .string ⟨#[]⟩, .slice none 0 0, .int .i64 1, .int .i64 d, .string ⟨#[]⟩, .slice none 0 0, .int .i64 1, .int .i64 1, .string ⟨#[]⟩, .slice none 0 0, .int .i64 1, .int .i64 n, .string ⟨#[]⟩, .slice none 0 0] (by simp only [List.map_toArray, List.map_cons, List.map_nil]; exact hbu.out) ?_)
    have HB9 := HB.alloc HB.size (.cells #[.int .i64 2, .int .i64 0, .string dayBs, .slice none 0 0, .int .i64 1, .int .i64 t, .string ⟨#[]⟩, .slice none 0 0, .int .i64 1, .int .i64 d, .string ⟨#[]⟩, .slice none 0 0, .int .i64 1, .int .i64 1, .string ⟨#[]⟩, .slice none 0 0, .int .i64 1, .int .i64 n, .string ⟨#[]⟩, .slice none 0 0] 96)
    have hrs := Lib.hid (flat_rs v5 [sV dayBs, iV t, iV d, iV 1, iV n] #[.int .i64 2, .int .i64 0, .string dayBs, .slice none 0 0, .int .i64 1, .int .i64 t, .string ⟨#[]⟩, .slice none 0 0, .int .i64 1, .int .i64 d, .string ⟨#[]⟩, .slice none 0 0, .int .i64 1, .int .i64 1, .string ⟨#[]⟩, .slice none 0 0, .int .i64 1, .int .i64 n, .string ⟨#[]⟩, .slice none 0 0] (by simp [flatF, fl, sV, iV]) v5.heap.size 5 5 rfl rfl (by omega) (by simp [sV, iV]))
    refine (mlist_any _ _ _ _).mono ?_
    rintro e v6 ⟨rfl, hb⟩
    have hrs6 := Lib.hid (hrs.out.below hb)
    have HB6 := HB9.trans (hb.mono HB9.size)
    clear hb HB9 HB hrs
    go_wp2_with fail
    refine (hE.out _ _ _ _ hrs6.out).mono ?_
    rintro e v7 ⟨A7, c7, rfl, h71, h72, h73, hb, h74⟩
    have h75 := HB6.size
    have HB7 := HB6.trans (hb.mono HB6.size)
    replace h73 := Lib.hid h73
    clear hb
    go_wp2_with fail
    refine bodyPost_ret (v := .slice A7 L.length c7) (by simp [results, Tryd.results47, go_sem]) rfl ⟨A7, c7, rfl, h71, h72, h73.out, HB7, fun g o e hne => ⟨Nat.le_trans h75 (h74 g o e hne).1, (h74 g o e hne).2⟩⟩
end Go.Proofs.YtnccbhndlnkboaaDoor
/- The walk of the reference's Check of an opening. -/
namespace Go.Proofs.YtnccbhndlnkboaaDoor
open Go.RowKit Go.Shelf Cdc Sha
set_option linter.unusedVariables false
set_option linter.unusedSimpArgs false

set_option maxRecDepth 100000 in
set_option maxHeartbeats 8000000 in
theorem rchk_day (s : Sl) (hs : SlI s) (d n : Int) (b : Bool) (p : List (List UInt8)) (ho : OpI ⟨d, n, b, p⟩) (k : Nat) (hk : p.length = k) (P : Option Addr) (cp : Nat) (hcp : k ≤ cp) (w : World) (hp : DsAt w P p) (c1 : dayB s.t s.f s.m = false) : Calls Tryd.prog 24 #[.agg (slA s), .agg #[.int .i64 d, .int .i64 n, .bool b, .slice P k cp]] w fun e w' => e = .returned (.bool (chkS s ⟨d, n, b, p⟩)) ∧ Below w.heap.size w w' := by
  have r1 := (Below.heap_alloc (w.alloc (.cells (slA s) 25)) (.cells #[.int .i64 d, .int .i64 n, .bool b, .slice P k cp] 33) w.heap.size (by simp)).trans (heap_alloc_new w (.cells (slA s) 25))
  have r2 := heap_alloc_new (w.alloc (.cells (slA s) 25)) (.cells #[.int .i64 d, .int .i64 n, .bool b, .slice P k cp] 33)
  rw [World.size_alloc] at r2
  have hB2 : Below w.heap.size w ((w.alloc (.cells (slA s) 25)).alloc (.cells #[.int .i64 d, .int .i64 n, .bool b, .slice P k cp] 33)) := ((Below.refl _ _).alloc (Nat.le_refl _) _).alloc (by simp) _
  obtain ⟨W2, hW2⟩ : ∃ W2, W2 = ((w.alloc (.cells (slA s) 25)).alloc (.cells #[.int .i64 d, .int .i64 n, .bool b, .slice P k cp] 33)) := ⟨_, rfl⟩
  rw [← hW2] at r1 r2 hB2
  have hsp : Hid (∀ V, Below W2.heap.size W2 V → (V.cell? ⟨w.heap.size, 0, none⟩ = some (.int .i64 s.t) ∧ V.cell? ⟨w.heap.size, 1, none⟩ = some (.int .i64 s.f) ∧ V.cell? ⟨w.heap.size, 2, none⟩ = some (.int .i64 s.m) ∧ V.rangeAt w.heap.size 3 (dc s.root)) ∧ (V.cell? ⟨w.heap.size + 1, 0, none⟩ = some (.int .i64 d) ∧ V.cell? ⟨w.heap.size + 1, 1, none⟩ = some (.int .i64 n) ∧ V.cell? ⟨w.heap.size + 1, 2, none⟩ = some (.bool b) ∧ V.cell? ⟨w.heap.size + 1, 3, none⟩ = some (.slice P k cp))) := Lib.hid fun V hV => by
    have h1 := (hV.block w.heap.size (Array.getElem?_eq_some_iff.1 r1).1).trans r1
    have h2 := (hV.block (w.heap.size + 1) (Array.getElem?_eq_some_iff.1 r2).1).trans r2
    refine ⟨⟨by rw [cell_of_row _ _ _ _ _ _ h1]; rfl, by rw [cell_of_row _ _ _ _ _ _ h1]; rfl, by rw [cell_of_row _ _ _ _ _ _ h1]; rfl, fun j v hj => ?_⟩, ⟨by rw [cell_of_row _ _ _ _ _ _ h2]; rfl, by rw [cell_of_row _ _ _ _ _ _ h2]; rfl, by rw [cell_of_row _ _ _ _ _ _ h2]; rfl, by rw [cell_of_row _ _ _ _ _ _ h2]; rfl⟩⟩
    rw [cell_of_row _ _ _ _ _ _ h1, show 3 + j = j + 1 + 1 + 1 by omega]
    simpa [slA, slC] using hj
  have hsl : Hid (∀ V, Below W2.heap.size W2 V → V.rangeAt w.heap.size 0 (slC s)) := Lib.hid fun V hV => row_range7 (cs := slC s) ((hV.block w.heap.size (Array.getElem?_eq_some_iff.1 r1).1).trans r1)
  have pl : Hid ((Tryd.prog.info? 25).map (·.size) = some (slC s).length) := Lib.hid (by have := sl_info hs.root; simpa [slA] using this)
  have hFm : Hid (∀ V, Calls Tryd.prog 50 #[.agg (slC s).toArray] V fun e w' => e = .returned (.bool (dayB s.t s.f s.m)) ∧ Below V.heap.size V w') := Lib.hid fun V => rform_any s V
  replace hB2 := Lib.hid hB2
  clear r1 r2
  obtain ⟨z, hz⟩ : ∃ z, chkS s ⟨d, n, b, p⟩ = z := ⟨_, rfl⟩
  rw [hz]
  replace hz := Lib.hid hz
  obtain rfl : z = false := by rw [← hz.out]; simp [chkS, c1]
  clear hz
  clear hs hp
  go_enter Tryd.func24, Tryd.ntmps24
  go_wp2_with (rw [← hW2]; refine wpList_load_mid (by rfl) 25 (.tmp 2) (by rfl) w.heap.size 0 (by rfl) (slC s) _ (hsl.out _ (Below.refl _ _)) Tryd.underlying25 (by rfl) pl.out ?_)
  rw [← hW2]
  refine (hFm.out _).mono ?_
  rintro e w3 ⟨rfl, hb3⟩
  clear hW2
  have HB3 := Lib.hid (hB2.out.trans (hb3.mono hB2.out.size))
  obtain ⟨⟨x0, x1, x2, xr⟩, ⟨y0, y1, y2, y3⟩⟩ := hsp.out _ hb3
  rw [c1]
  go_wp2_with fail
  go_ret
  exact ⟨rfl, HB3.out⟩
set_option maxRecDepth 100000 in
set_option maxHeartbeats 8000000 in
theorem rchk_early (s : Sl) (hs : SlI s) (d n : Int) (b : Bool) (p : List (List UInt8)) (ho : OpI ⟨d, n, b, p⟩) (k : Nat) (hk : p.length = k) (P : Option Addr) (cp : Nat) (hcp : k ≤ cp) (w : World) (hp : DsAt w P p) (c1 : dayB s.t s.f s.m = true) (h2 : d < s.f) : Calls Tryd.prog 24 #[.agg (slA s), .agg #[.int .i64 d, .int .i64 n, .bool b, .slice P k cp]] w fun e w' => e = .returned (.bool (chkS s ⟨d, n, b, p⟩)) ∧ Below w.heap.size w w' := by
  have r1 := (Below.heap_alloc (w.alloc (.cells (slA s) 25)) (.cells #[.int .i64 d, .int .i64 n, .bool b, .slice P k cp] 33) w.heap.size (by simp)).trans (heap_alloc_new w (.cells (slA s) 25))
  have r2 := heap_alloc_new (w.alloc (.cells (slA s) 25)) (.cells #[.int .i64 d, .int .i64 n, .bool b, .slice P k cp] 33)
  rw [World.size_alloc] at r2
  have hB2 : Below w.heap.size w ((w.alloc (.cells (slA s) 25)).alloc (.cells #[.int .i64 d, .int .i64 n, .bool b, .slice P k cp] 33)) := ((Below.refl _ _).alloc (Nat.le_refl _) _).alloc (by simp) _
  obtain ⟨W2, hW2⟩ : ∃ W2, W2 = ((w.alloc (.cells (slA s) 25)).alloc (.cells #[.int .i64 d, .int .i64 n, .bool b, .slice P k cp] 33)) := ⟨_, rfl⟩
  rw [← hW2] at r1 r2 hB2
  have hsp : Hid (∀ V, Below W2.heap.size W2 V → (V.cell? ⟨w.heap.size, 0, none⟩ = some (.int .i64 s.t) ∧ V.cell? ⟨w.heap.size, 1, none⟩ = some (.int .i64 s.f) ∧ V.cell? ⟨w.heap.size, 2, none⟩ = some (.int .i64 s.m) ∧ V.rangeAt w.heap.size 3 (dc s.root)) ∧ (V.cell? ⟨w.heap.size + 1, 0, none⟩ = some (.int .i64 d) ∧ V.cell? ⟨w.heap.size + 1, 1, none⟩ = some (.int .i64 n) ∧ V.cell? ⟨w.heap.size + 1, 2, none⟩ = some (.bool b) ∧ V.cell? ⟨w.heap.size + 1, 3, none⟩ = some (.slice P k cp))) := Lib.hid fun V hV => by
    have h1 := (hV.block w.heap.size (Array.getElem?_eq_some_iff.1 r1).1).trans r1
    have h2 := (hV.block (w.heap.size + 1) (Array.getElem?_eq_some_iff.1 r2).1).trans r2
    refine ⟨⟨by rw [cell_of_row _ _ _ _ _ _ h1]; rfl, by rw [cell_of_row _ _ _ _ _ _ h1]; rfl, by rw [cell_of_row _ _ _ _ _ _ h1]; rfl, fun j v hj => ?_⟩, ⟨by rw [cell_of_row _ _ _ _ _ _ h2]; rfl, by rw [cell_of_row _ _ _ _ _ _ h2]; rfl, by rw [cell_of_row _ _ _ _ _ _ h2]; rfl, by rw [cell_of_row _ _ _ _ _ _ h2]; rfl⟩⟩
    rw [cell_of_row _ _ _ _ _ _ h1, show 3 + j = j + 1 + 1 + 1 by omega]
    simpa [slA, slC] using hj
  have hsl : Hid (∀ V, Below W2.heap.size W2 V → V.rangeAt w.heap.size 0 (slC s)) := Lib.hid fun V hV => row_range7 (cs := slC s) ((hV.block w.heap.size (Array.getElem?_eq_some_iff.1 r1).1).trans r1)
  have pl : Hid ((Tryd.prog.info? 25).map (·.size) = some (slC s).length) := Lib.hid (by have := sl_info hs.root; simpa [slA] using this)
  have hFm : Hid (∀ V, Calls Tryd.prog 50 #[.agg (slC s).toArray] V fun e w' => e = .returned (.bool (dayB s.t s.f s.m)) ∧ Below V.heap.size V w') := Lib.hid fun V => rform_any s V
  replace hB2 := Lib.hid hB2
  clear r1 r2
  obtain ⟨z, hz⟩ : ∃ z, chkS s ⟨d, n, b, p⟩ = z := ⟨_, rfl⟩
  rw [hz]
  replace hz := Lib.hid hz
  obtain rfl : z = false := by rw [← hz.out]; simp [chkS, c1, show hasB s.f s.m d = false from decide_eq_false (by omega)]
  clear hz
  have d1 : decide (d < s.f) = true := decide_eq_true h2
  clear hs hp
  go_enter Tryd.func24, Tryd.ntmps24
  go_wp2_with (rw [← hW2]; refine wpList_load_mid (by rfl) 25 (.tmp 2) (by rfl) w.heap.size 0 (by rfl) (slC s) _ (hsl.out _ (Below.refl _ _)) Tryd.underlying25 (by rfl) pl.out ?_)
  rw [← hW2]
  refine (hFm.out _).mono ?_
  rintro e w3 ⟨rfl, hb3⟩
  clear hW2
  have HB3 := Lib.hid (hB2.out.trans (hb3.mono hB2.out.size))
  obtain ⟨⟨x0, x1, x2, xr⟩, ⟨y0, y1, y2, y3⟩⟩ := hsp.out _ hb3
  rw [c1]
  go_wp2_with fail
  go_ret
  exact ⟨rfl, HB3.out⟩
set_option maxRecDepth 100000 in
set_option maxHeartbeats 8000000 in
theorem rchk_late (s : Sl) (hs : SlI s) (d n : Int) (b : Bool) (p : List (List UInt8)) (ho : OpI ⟨d, n, b, p⟩) (k : Nat) (hk : p.length = k) (P : Option Addr) (cp : Nat) (hcp : k ≤ cp) (w : World) (hp : DsAt w P p) (c1 : dayB s.t s.f s.m = true) (h2 : ¬ d < s.f) (h3 : s.f + s.m ≤ d) : Calls Tryd.prog 24 #[.agg (slA s), .agg #[.int .i64 d, .int .i64 n, .bool b, .slice P k cp]] w fun e w' => e = .returned (.bool (chkS s ⟨d, n, b, p⟩)) ∧ Below w.heap.size w w' := by
  have r1 := (Below.heap_alloc (w.alloc (.cells (slA s) 25)) (.cells #[.int .i64 d, .int .i64 n, .bool b, .slice P k cp] 33) w.heap.size (by simp)).trans (heap_alloc_new w (.cells (slA s) 25))
  have r2 := heap_alloc_new (w.alloc (.cells (slA s) 25)) (.cells #[.int .i64 d, .int .i64 n, .bool b, .slice P k cp] 33)
  rw [World.size_alloc] at r2
  have hB2 : Below w.heap.size w ((w.alloc (.cells (slA s) 25)).alloc (.cells #[.int .i64 d, .int .i64 n, .bool b, .slice P k cp] 33)) := ((Below.refl _ _).alloc (Nat.le_refl _) _).alloc (by simp) _
  obtain ⟨W2, hW2⟩ : ∃ W2, W2 = ((w.alloc (.cells (slA s) 25)).alloc (.cells #[.int .i64 d, .int .i64 n, .bool b, .slice P k cp] 33)) := ⟨_, rfl⟩
  rw [← hW2] at r1 r2 hB2
  have hsp : Hid (∀ V, Below W2.heap.size W2 V → (V.cell? ⟨w.heap.size, 0, none⟩ = some (.int .i64 s.t) ∧ V.cell? ⟨w.heap.size, 1, none⟩ = some (.int .i64 s.f) ∧ V.cell? ⟨w.heap.size, 2, none⟩ = some (.int .i64 s.m) ∧ V.rangeAt w.heap.size 3 (dc s.root)) ∧ (V.cell? ⟨w.heap.size + 1, 0, none⟩ = some (.int .i64 d) ∧ V.cell? ⟨w.heap.size + 1, 1, none⟩ = some (.int .i64 n) ∧ V.cell? ⟨w.heap.size + 1, 2, none⟩ = some (.bool b) ∧ V.cell? ⟨w.heap.size + 1, 3, none⟩ = some (.slice P k cp))) := Lib.hid fun V hV => by
    have h1 := (hV.block w.heap.size (Array.getElem?_eq_some_iff.1 r1).1).trans r1
    have h2 := (hV.block (w.heap.size + 1) (Array.getElem?_eq_some_iff.1 r2).1).trans r2
    refine ⟨⟨by rw [cell_of_row _ _ _ _ _ _ h1]; rfl, by rw [cell_of_row _ _ _ _ _ _ h1]; rfl, by rw [cell_of_row _ _ _ _ _ _ h1]; rfl, fun j v hj => ?_⟩, ⟨by rw [cell_of_row _ _ _ _ _ _ h2]; rfl, by rw [cell_of_row _ _ _ _ _ _ h2]; rfl, by rw [cell_of_row _ _ _ _ _ _ h2]; rfl, by rw [cell_of_row _ _ _ _ _ _ h2]; rfl⟩⟩
    rw [cell_of_row _ _ _ _ _ _ h1, show 3 + j = j + 1 + 1 + 1 by omega]
    simpa [slA, slC] using hj
  have hsl : Hid (∀ V, Below W2.heap.size W2 V → V.rangeAt w.heap.size 0 (slC s)) := Lib.hid fun V hV => row_range7 (cs := slC s) ((hV.block w.heap.size (Array.getElem?_eq_some_iff.1 r1).1).trans r1)
  have pl : Hid ((Tryd.prog.info? 25).map (·.size) = some (slC s).length) := Lib.hid (by have := sl_info hs.root; simpa [slA] using this)
  have hFm : Hid (∀ V, Calls Tryd.prog 50 #[.agg (slC s).toArray] V fun e w' => e = .returned (.bool (dayB s.t s.f s.m)) ∧ Below V.heap.size V w') := Lib.hid fun V => rform_any s V
  replace hB2 := Lib.hid hB2
  clear r1 r2
  obtain ⟨z, hz⟩ : ∃ z, chkS s ⟨d, n, b, p⟩ = z := ⟨_, rfl⟩
  rw [hz]
  replace hz := Lib.hid hz
  obtain rfl : z = false := by rw [← hz.out]; simp [chkS, c1, show hasB s.f s.m d = false from decide_eq_false (by omega)]
  clear hz
  have hd9 := of_decide_eq_true c1
  have w1 : IntKind.i64.wrap (s.f + s.m) = s.f + s.m := IntWalk.i64_in _ (by omega)
  have d1 : decide (d < s.f) = false := decide_eq_false h2
  have d2 : decide (s.f + s.m ≤ d) = true := decide_eq_true h3
  clear hd9
  clear hs hp
  go_enter Tryd.func24, Tryd.ntmps24
  go_wp2_with (rw [← hW2]; refine wpList_load_mid (by rfl) 25 (.tmp 2) (by rfl) w.heap.size 0 (by rfl) (slC s) _ (hsl.out _ (Below.refl _ _)) Tryd.underlying25 (by rfl) pl.out ?_)
  rw [← hW2]
  refine (hFm.out _).mono ?_
  rintro e w3 ⟨rfl, hb3⟩
  clear hW2
  have HB3 := Lib.hid (hB2.out.trans (hb3.mono hB2.out.size))
  obtain ⟨⟨x0, x1, x2, xr⟩, ⟨y0, y1, y2, y3⟩⟩ := hsp.out _ hb3
  rw [c1]
  go_wp2_with fail
  go_ret
  exact ⟨rfl, HB3.out⟩
set_option maxRecDepth 100000 in
set_option maxHeartbeats 8000000 in
theorem rchk_salt (s : Sl) (hs : SlI s) (d n : Int) (b : Bool) (p : List (List UInt8)) (ho : OpI ⟨d, n, b, p⟩) (k : Nat) (hk : p.length = k) (P : Option Addr) (cp : Nat) (hcp : k ≤ cp) (w : World) (hp : DsAt w P p) (c1 : dayB s.t s.f s.m = true) (h2 : ¬ d < s.f) (h3 : ¬ s.f + s.m ≤ d) (c3 : salB n = false) : Calls Tryd.prog 24 #[.agg (slA s), .agg #[.int .i64 d, .int .i64 n, .bool b, .slice P k cp]] w fun e w' => e = .returned (.bool (chkS s ⟨d, n, b, p⟩)) ∧ Below w.heap.size w w' := by
  have r1 := (Below.heap_alloc (w.alloc (.cells (slA s) 25)) (.cells #[.int .i64 d, .int .i64 n, .bool b, .slice P k cp] 33) w.heap.size (by simp)).trans (heap_alloc_new w (.cells (slA s) 25))
  have r2 := heap_alloc_new (w.alloc (.cells (slA s) 25)) (.cells #[.int .i64 d, .int .i64 n, .bool b, .slice P k cp] 33)
  rw [World.size_alloc] at r2
  have hB2 : Below w.heap.size w ((w.alloc (.cells (slA s) 25)).alloc (.cells #[.int .i64 d, .int .i64 n, .bool b, .slice P k cp] 33)) := ((Below.refl _ _).alloc (Nat.le_refl _) _).alloc (by simp) _
  obtain ⟨W2, hW2⟩ : ∃ W2, W2 = ((w.alloc (.cells (slA s) 25)).alloc (.cells #[.int .i64 d, .int .i64 n, .bool b, .slice P k cp] 33)) := ⟨_, rfl⟩
  rw [← hW2] at r1 r2 hB2
  have hsp : Hid (∀ V, Below W2.heap.size W2 V → (V.cell? ⟨w.heap.size, 0, none⟩ = some (.int .i64 s.t) ∧ V.cell? ⟨w.heap.size, 1, none⟩ = some (.int .i64 s.f) ∧ V.cell? ⟨w.heap.size, 2, none⟩ = some (.int .i64 s.m) ∧ V.rangeAt w.heap.size 3 (dc s.root)) ∧ (V.cell? ⟨w.heap.size + 1, 0, none⟩ = some (.int .i64 d) ∧ V.cell? ⟨w.heap.size + 1, 1, none⟩ = some (.int .i64 n) ∧ V.cell? ⟨w.heap.size + 1, 2, none⟩ = some (.bool b) ∧ V.cell? ⟨w.heap.size + 1, 3, none⟩ = some (.slice P k cp))) := Lib.hid fun V hV => by
    have h1 := (hV.block w.heap.size (Array.getElem?_eq_some_iff.1 r1).1).trans r1
    have h2 := (hV.block (w.heap.size + 1) (Array.getElem?_eq_some_iff.1 r2).1).trans r2
    refine ⟨⟨by rw [cell_of_row _ _ _ _ _ _ h1]; rfl, by rw [cell_of_row _ _ _ _ _ _ h1]; rfl, by rw [cell_of_row _ _ _ _ _ _ h1]; rfl, fun j v hj => ?_⟩, ⟨by rw [cell_of_row _ _ _ _ _ _ h2]; rfl, by rw [cell_of_row _ _ _ _ _ _ h2]; rfl, by rw [cell_of_row _ _ _ _ _ _ h2]; rfl, by rw [cell_of_row _ _ _ _ _ _ h2]; rfl⟩⟩
    rw [cell_of_row _ _ _ _ _ _ h1, show 3 + j = j + 1 + 1 + 1 by omega]
    simpa [slA, slC] using hj
  have hsl : Hid (∀ V, Below W2.heap.size W2 V → V.rangeAt w.heap.size 0 (slC s)) := Lib.hid fun V hV => row_range7 (cs := slC s) ((hV.block w.heap.size (Array.getElem?_eq_some_iff.1 r1).1).trans r1)
  have pl : Hid ((Tryd.prog.info? 25).map (·.size) = some (slC s).length) := Lib.hid (by have := sl_info hs.root; simpa [slA] using this)
  have hFm : Hid (∀ V, Calls Tryd.prog 50 #[.agg (slC s).toArray] V fun e w' => e = .returned (.bool (dayB s.t s.f s.m)) ∧ Below V.heap.size V w') := Lib.hid fun V => rform_any s V
  replace hB2 := Lib.hid hB2
  clear r1 r2
  obtain ⟨z, hz⟩ : ∃ z, chkS s ⟨d, n, b, p⟩ = z := ⟨_, rfl⟩
  rw [hz]
  replace hz := Lib.hid hz
  obtain rfl : z = false := by rw [← hz.out]; simp [chkS, c1, c3]
  clear hz
  have hd9 := of_decide_eq_true c1
  have w1 : IntKind.i64.wrap (s.f + s.m) = s.f + s.m := IntWalk.i64_in _ (by omega)
  have d1 : decide (d < s.f) = false := decide_eq_false h2
  have d2 : decide (s.f + s.m ≤ d) = false := decide_eq_false h3
  clear hd9
  clear hs hp
  go_enter Tryd.func24, Tryd.ntmps24
  go_wp2_with (rw [← hW2]; refine wpList_load_mid (by rfl) 25 (.tmp 2) (by rfl) w.heap.size 0 (by rfl) (slC s) _ (hsl.out _ (Below.refl _ _)) Tryd.underlying25 (by rfl) pl.out ?_)
  rw [← hW2]
  refine (hFm.out _).mono ?_
  rintro e w3 ⟨rfl, hb3⟩
  clear hW2
  have HB3 := Lib.hid (hB2.out.trans (hb3.mono hB2.out.size))
  obtain ⟨⟨x0, x1, x2, xr⟩, ⟨y0, y1, y2, y3⟩⟩ := hsp.out _ hb3
  rw [c1]
  go_wp2_with fail
  refine (rsalt_any _ _).mono ?_
  rintro e w4 ⟨rfl, hw4⟩
  have hw4b := hw4.symm
  clear hw4
  subst hw4b
  rw [c3]
  go_wp2_with fail
  go_ret
  exact ⟨rfl, HB3.out⟩
set_option maxRecDepth 100000 in
set_option maxHeartbeats 8000000 in
theorem rchk_in (s : Sl) (hs : SlI s) (d n : Int) (b : Bool) (p : List (List UInt8)) (ho : OpI ⟨d, n, b, p⟩) (k : Nat) (hk : p.length = k) (P : Option Addr) (cp : Nat) (hcp : k ≤ cp) (w : World) (hp : DsAt w P p) (c1 : dayB s.t s.f s.m = true) (h2 : ¬ d < s.f) (h3 : ¬ s.f + s.m ≤ d) (c3 : salB n = true) : Calls Tryd.prog 24 #[.agg (slA s), .agg #[.int .i64 d, .int .i64 n, .bool b, .slice P k cp]] w fun e w' => e = .returned (.bool (chkS s ⟨d, n, b, p⟩)) ∧ Below w.heap.size w w' := by
  have r1 := (Below.heap_alloc (w.alloc (.cells (slA s) 25)) (.cells #[.int .i64 d, .int .i64 n, .bool b, .slice P k cp] 33) w.heap.size (by simp)).trans (heap_alloc_new w (.cells (slA s) 25))
  have r2 := heap_alloc_new (w.alloc (.cells (slA s) 25)) (.cells #[.int .i64 d, .int .i64 n, .bool b, .slice P k cp] 33)
  rw [World.size_alloc] at r2
  have hB2 : Below w.heap.size w ((w.alloc (.cells (slA s) 25)).alloc (.cells #[.int .i64 d, .int .i64 n, .bool b, .slice P k cp] 33)) := ((Below.refl _ _).alloc (Nat.le_refl _) _).alloc (by simp) _
  obtain ⟨W2, hW2⟩ : ∃ W2, W2 = ((w.alloc (.cells (slA s) 25)).alloc (.cells #[.int .i64 d, .int .i64 n, .bool b, .slice P k cp] 33)) := ⟨_, rfl⟩
  rw [← hW2] at r1 r2 hB2
  have hsp : Hid (∀ V, Below W2.heap.size W2 V → (V.cell? ⟨w.heap.size, 0, none⟩ = some (.int .i64 s.t) ∧ V.cell? ⟨w.heap.size, 1, none⟩ = some (.int .i64 s.f) ∧ V.cell? ⟨w.heap.size, 2, none⟩ = some (.int .i64 s.m) ∧ V.rangeAt w.heap.size 3 (dc s.root)) ∧ (V.cell? ⟨w.heap.size + 1, 0, none⟩ = some (.int .i64 d) ∧ V.cell? ⟨w.heap.size + 1, 1, none⟩ = some (.int .i64 n) ∧ V.cell? ⟨w.heap.size + 1, 2, none⟩ = some (.bool b) ∧ V.cell? ⟨w.heap.size + 1, 3, none⟩ = some (.slice P k cp))) := Lib.hid fun V hV => by
    have h1 := (hV.block w.heap.size (Array.getElem?_eq_some_iff.1 r1).1).trans r1
    have h2 := (hV.block (w.heap.size + 1) (Array.getElem?_eq_some_iff.1 r2).1).trans r2
    refine ⟨⟨by rw [cell_of_row _ _ _ _ _ _ h1]; rfl, by rw [cell_of_row _ _ _ _ _ _ h1]; rfl, by rw [cell_of_row _ _ _ _ _ _ h1]; rfl, fun j v hj => ?_⟩, ⟨by rw [cell_of_row _ _ _ _ _ _ h2]; rfl, by rw [cell_of_row _ _ _ _ _ _ h2]; rfl, by rw [cell_of_row _ _ _ _ _ _ h2]; rfl, by rw [cell_of_row _ _ _ _ _ _ h2]; rfl⟩⟩
    rw [cell_of_row _ _ _ _ _ _ h1, show 3 + j = j + 1 + 1 + 1 by omega]
    simpa [slA, slC] using hj
  have hsl : Hid (∀ V, Below W2.heap.size W2 V → V.rangeAt w.heap.size 0 (slC s)) := Lib.hid fun V hV => row_range7 (cs := slC s) ((hV.block w.heap.size (Array.getElem?_eq_some_iff.1 r1).1).trans r1)
  have pl : Hid ((Tryd.prog.info? 25).map (·.size) = some (slC s).length) := Lib.hid (by have := sl_info hs.root; simpa [slA] using this)
  have hFm : Hid (∀ V, Calls Tryd.prog 50 #[.agg (slC s).toArray] V fun e w' => e = .returned (.bool (dayB s.t s.f s.m)) ∧ Below V.heap.size V w') := Lib.hid fun V => rform_any s V
  replace hB2 := Lib.hid hB2
  clear r1 r2
  obtain ⟨z, hz⟩ : ∃ z, chkS s ⟨d, n, b, p⟩ = z := ⟨_, rfl⟩
  rw [hz]
  replace hz := Lib.hid hz
  have hd9 := of_decide_eq_true c1
  have w1 : IntKind.i64.wrap (s.f + s.m) = s.f + s.m := IntWalk.i64_in _ (by omega)
  have d1 : decide (d < s.f) = false := decide_eq_false h2
  have d2 : decide (s.f + s.m ≤ d) = false := decide_eq_false h3
  obtain ⟨L, hL5⟩ : ∃ L, leafM s.t d b n = L := ⟨_, rfl⟩
  obtain ⟨q, hq⟩ : ∃ q, (leafM s.t d b n).length = q := ⟨_, rfl⟩
  have hqn : q ≤ 1000 := hq ▸ (leaf_sm (b := b) hs.t ho.day ho.salt).2
  have hLf : Hid (∀ V, Calls Tryd.prog 47 #[.int .i64 s.t, .int .i64 d, .bool b, .int .i64 n] V (JoinC L V)) := Lib.hid fun V => hL5 ▸ rleaf_any s.t d n b hs.t ho.day ho.salt V
  obtain ⟨rt, hrt⟩ : ∃ rt, (clV s.m (d - s.f) (leafM s.t d b n) p).1 = rt := ⟨_, rfl⟩
  obtain ⟨er, her⟩ : ∃ er, (clV s.m (d - s.f) (leafM s.t d b n) p).2 = er := ⟨_, rfl⟩
  have hrt32 : rt.length = 32 := hrt ▸ clV_32 _ _ _ _
  have pr1 := Lib.hid (dc_info hrt32)
  have pr2 := Lib.hid (dg_info rt hrt32)
  have por := Lib.hid (dg_one rt)
  have psr := Lib.hid (show (dg zero32).size = (dg rt).size by rw [dg_size, dg_size, hrt32, zero32_len])
  have psr1 := Lib.hid (dc_info hs.root)
  have hEq : ∀ V, (Op.equalIn 10000 23 (.agg (dc rt).toArray) (.agg (dc s.root).toArray)).run Tryd.prog V = .ok (decide (rt = s.root)) V := eq_dg rt s.root hrt32 hs.root
  have hwr : IntKind.i64.wrap (d - s.f) = d - s.f := IntWalk.i64_in _ (by omega)
  have hC : Hid (∀ V A c, Below w.heap.size w V → AtO V A L → Calls Tryd.prog 52 #[.int .i64 s.m, .int .i64 (d - s.f), .slice A q c, .slice P k cp] V fun e w' => e = .returned (.tuple #[.agg (dg rt), .int .i64 er]) ∧ Below V.heap.size V w') := Lib.hid fun V A c hV hat => by
    have := rclimb7_any s.m (d - s.f) (leafM s.t d b n) q hq (by omega) A c p k hk P cp hcp V (hL5 ▸ hat) (hp.below hV) ho.path
    rw [hrt, her] at this
    exact this
  have hfin : Hid (z = (decide (er = 0) && decide (rt = s.root))) := Lib.hid (by rw [← hz.out]; simp [chkS, c1, c3, hrt, her, show hasB s.f s.m d = true from decide_eq_true (by omega)])
  have hq2 : Hid (L.length = q) := Lib.hid (hL5 ▸ hq)
  clear hq hqn hrt her hrt32 hL5 hd9 hz
  clear hs hp
  go_enter Tryd.func24, Tryd.ntmps24
  go_wp2_with (rw [← hW2]; refine wpList_load_mid (by rfl) 25 (.tmp 2) (by rfl) w.heap.size 0 (by rfl) (slC s) _ (hsl.out _ (Below.refl _ _)) Tryd.underlying25 (by rfl) pl.out ?_)
  rw [← hW2]
  refine (hFm.out _).mono ?_
  rintro e w3 ⟨rfl, hb3⟩
  clear hW2
  have HB3 := Lib.hid (hB2.out.trans (hb3.mono hB2.out.size))
  obtain ⟨⟨x0, x1, x2, xr⟩, ⟨y0, y1, y2, y3⟩⟩ := hsp.out _ hb3
  rw [c1]
  go_wp2_with fail
  refine (rsalt_any _ _).mono ?_
  rintro e w4 ⟨rfl, hw4⟩
  have hw4b := hw4.symm
  clear hw4
  subst hw4b
  rw [c3]
  clear x0 x1 x2 xr y0 y1 y2 y3
  have hsp3 : Hid (∀ V, Below w3.heap.size w3 V → (V.cell? ⟨w.heap.size, 0, none⟩ = some (.int .i64 s.t) ∧ V.cell? ⟨w.heap.size, 1, none⟩ = some (.int .i64 s.f) ∧ V.cell? ⟨w.heap.size, 2, none⟩ = some (.int .i64 s.m) ∧ V.rangeAt w.heap.size 3 (dc s.root)) ∧ (V.cell? ⟨w.heap.size + 1, 0, none⟩ = some (.int .i64 d) ∧ V.cell? ⟨w.heap.size + 1, 1, none⟩ = some (.int .i64 n) ∧ V.cell? ⟨w.heap.size + 1, 2, none⟩ = some (.bool b) ∧ V.cell? ⟨w.heap.size + 1, 3, none⟩ = some (.slice P k cp))) := Lib.hid fun V hV => hsp.out V (hb3.trans (hV.mono hb3.size))
  obtain ⟨⟨x0, x1, x2, xr⟩, ⟨y0, y1, y2, y3⟩⟩ := hsp3.out _ (Below.refl _ _)
  go_wp2_with fail
  clear x0 x1 x2 xr y0 y1 y2 y3
  have HB : Below w3.heap.size w3 w3.drew := (Below.refl _ _).drew
  refine wp_region_T 23 (fun w' => (w'.cell? ⟨w.heap.size, 0, none⟩ = some (.int .i64 s.t) ∧ w'.cell? ⟨w.heap.size, 1, none⟩ = some (.int .i64 s.f) ∧ w'.cell? ⟨w.heap.size, 2, none⟩ = some (.int .i64 s.m) ∧ w'.rangeAt w.heap.size 3 (dc s.root)) ∧ (w'.cell? ⟨w.heap.size + 1, 0, none⟩ = some (.int .i64 d) ∧ w'.cell? ⟨w.heap.size + 1, 1, none⟩ = some (.int .i64 n) ∧ w'.cell? ⟨w.heap.size + 1, 2, none⟩ = some (.bool b) ∧ w'.cell? ⟨w.heap.size + 1, 3, none⟩ = some (.slice P k cp))) (by kernel_rfl) (by exact hsp3.out _ HB) (fun hHeld => ?_)
  refine wpAnyT_pure (i := 0) (oi := { dst := some 34, op := Op.fieldAddr 25 (Operand.tmp 2) 2, type := 0, pos := "ref.go:81", after := #[], guard := none }) (v := ?_) rfl (by kernel_rfl) (by kernel_rfl) (by kernel_rfl) (fun _ _ _ h => h) (Or.inl ⟨by rfl, ?hyb1⟩) ?restb1
  case hyb1 =>
    intro w hSw
    go_simp
    try with_reducible rfl
  try simp only [Act.put, List.setIfInBounds_toArray, List.set_cons_zero, List.set_cons_succ]
  refine wpAnyT_take (i := 1) (oi := { dst := some 35, op := Op.load 3 (Operand.tmp 34), type := 3, pos := "ref.go:81", after := #[{ on := 0, ground := Ground.data }], guard := none }) (v := ?_) rfl (by kernel_rfl) (by kernel_rfl) (by kernel_rfl) (by kernel_rfl) (fun _ _ _ h => h) (Or.inl ⟨by rfl, ?hyb2⟩) hHeld ?restb2
  case hyb2 =>
    intro w hSw
    try dsimp only at hSw
    go_simp
    try with_reducible rfl
  try simp only [Act.put, List.setIfInBounds_toArray, List.set_cons_zero, List.set_cons_succ]
  refine wpAnyT_pure (i := 2) (oi := { dst := some 36, op := Op.fieldAddr 33 (Operand.tmp 3) 0, type := 0, pos := "ref.go:81", after := #[], guard := none }) (v := ?_) rfl (by kernel_rfl) (by kernel_rfl) (by kernel_rfl) (fun _ _ _ h => h) (Or.inl ⟨by rfl, ?hyb3⟩) ?restb3
  case hyb3 =>
    intro w hSw
    go_simp
    try with_reducible rfl
  try simp only [Act.put, List.setIfInBounds_toArray, List.set_cons_zero, List.set_cons_succ]
  refine wpAnyT_take (i := 3) (oi := { dst := some 37, op := Op.load 3 (Operand.tmp 36), type := 3, pos := "ref.go:81", after := #[{ on := 2, ground := Ground.data }], guard := none }) (v := ?_) rfl (by kernel_rfl) (by kernel_rfl) (by kernel_rfl) (by kernel_rfl) (fun _ _ _ h => h) (Or.inl ⟨by rfl, ?hyb4⟩) hHeld ?restb4
  case hyb4 =>
    intro w hSw
    try dsimp only at hSw
    go_simp
    try with_reducible rfl
  try simp only [Act.put, List.setIfInBounds_toArray, List.set_cons_zero, List.set_cons_succ]
  refine wpAnyT_pure (i := 4) (oi := { dst := some 38, op := Op.fieldAddr 25 (Operand.tmp 2) 1, type := 0, pos := "ref.go:81", after := #[], guard := none }) (v := ?_) rfl (by kernel_rfl) (by kernel_rfl) (by kernel_rfl) (fun _ _ _ h => h) (Or.inl ⟨by rfl, ?hyb5⟩) ?restb5
  case hyb5 =>
    intro w hSw
    go_simp
    try with_reducible rfl
  try simp only [Act.put, List.setIfInBounds_toArray, List.set_cons_zero, List.set_cons_succ]
  refine wpAnyT_take (i := 5) (oi := { dst := some 39, op := Op.load 3 (Operand.tmp 38), type := 3, pos := "ref.go:81", after := #[{ on := 4, ground := Ground.data }], guard := none }) (v := ?_) rfl (by kernel_rfl) (by kernel_rfl) (by kernel_rfl) (by kernel_rfl) (fun _ _ _ h => h) (Or.inl ⟨by rfl, ?hyb6⟩) hHeld ?restb6
  case hyb6 =>
    intro w hSw
    try dsimp only at hSw
    go_simp
    try with_reducible rfl
  try simp only [Act.put, List.setIfInBounds_toArray, List.set_cons_zero, List.set_cons_succ]
  refine wpAnyT_pure (i := 6) (oi := { dst := some 40, op := Op.binOp BinOp.sub 3 (Operand.tmp 37) (Operand.tmp 39) 3, type := 3, pos := "ref.go:81", after := #[{ on := 3, ground := Ground.data }, { on := 5, ground := Ground.data }], guard := none }) (v := ?_) rfl (by kernel_rfl) (by kernel_rfl) (by kernel_rfl) (fun _ _ _ h => h) (Or.inl ⟨by rfl, ?hyb7⟩) ?restb7
  case hyb7 =>
    intro w hSw
    go_simp
    try with_reducible rfl
  try simp only [Act.put, List.setIfInBounds_toArray, List.set_cons_zero, List.set_cons_succ]
  refine wpAnyT_pure (i := 7) (oi := { dst := some 41, op := Op.fieldAddr 25 (Operand.tmp 2) 0, type := 0, pos := "ref.go:81", after := #[], guard := none }) (v := ?_) rfl (by kernel_rfl) (by kernel_rfl) (by kernel_rfl) (fun _ _ _ h => h) (Or.inl ⟨by rfl, ?hyb8⟩) ?restb8
  case hyb8 =>
    intro w hSw
    go_simp
    try with_reducible rfl
  try simp only [Act.put, List.setIfInBounds_toArray, List.set_cons_zero, List.set_cons_succ]
  refine wpAnyT_take (i := 8) (oi := { dst := some 42, op := Op.load 3 (Operand.tmp 41), type := 3, pos := "ref.go:81", after := #[{ on := 7, ground := Ground.data }], guard := none }) (v := ?_) rfl (by kernel_rfl) (by kernel_rfl) (by kernel_rfl) (by kernel_rfl) (fun _ _ _ h => h) (Or.inl ⟨by rfl, ?hyb9⟩) hHeld ?restb9
  case hyb9 =>
    intro w hSw
    try dsimp only at hSw
    go_simp
    try with_reducible rfl
  try simp only [Act.put, List.setIfInBounds_toArray, List.set_cons_zero, List.set_cons_succ]
  refine wpAnyT_pure (i := 9) (oi := { dst := some 43, op := Op.fieldAddr 33 (Operand.tmp 3) 0, type := 0, pos := "ref.go:81", after := #[], guard := none }) (v := ?_) rfl (by kernel_rfl) (by kernel_rfl) (by kernel_rfl) (fun _ _ _ h => h) (Or.inl ⟨by rfl, ?hyb10⟩) ?restb10
  case hyb10 =>
    intro w hSw
    go_simp
    try with_reducible rfl
  try simp only [Act.put, List.setIfInBounds_toArray, List.set_cons_zero, List.set_cons_succ]
  refine wpAnyT_take (i := 10) (oi := { dst := some 44, op := Op.load 3 (Operand.tmp 43), type := 3, pos := "ref.go:81", after := #[{ on := 9, ground := Ground.data }], guard := none }) (v := ?_) rfl (by kernel_rfl) (by kernel_rfl) (by kernel_rfl) (by kernel_rfl) (fun _ _ _ h => h) (Or.inl ⟨by rfl, ?hyb11⟩) hHeld ?restb11
  case hyb11 =>
    intro w hSw
    try dsimp only at hSw
    go_simp
    try with_reducible rfl
  try simp only [Act.put, List.setIfInBounds_toArray, List.set_cons_zero, List.set_cons_succ]
  refine wpAnyT_pure (i := 11) (oi := { dst := some 45, op := Op.fieldAddr 33 (Operand.tmp 3) 2, type := 0, pos := "ref.go:81", after := #[], guard := none }) (v := ?_) rfl (by kernel_rfl) (by kernel_rfl) (by kernel_rfl) (fun _ _ _ h => h) (Or.inl ⟨by rfl, ?hyb12⟩) ?restb12
  case hyb12 =>
    intro w hSw
    go_simp
    try with_reducible rfl
  try simp only [Act.put, List.setIfInBounds_toArray, List.set_cons_zero, List.set_cons_succ]
  refine wpAnyT_take (i := 12) (oi := { dst := some 46, op := Op.load 4 (Operand.tmp 45), type := 4, pos := "ref.go:81", after := #[{ on := 11, ground := Ground.data }], guard := none }) (v := ?_) rfl (by kernel_rfl) (by kernel_rfl) (by kernel_rfl) (by kernel_rfl) (fun _ _ _ h => h) (Or.inl ⟨by rfl, ?hyb13⟩) hHeld ?restb13
  case hyb13 =>
    intro w hSw
    try dsimp only at hSw
    go_simp
    try with_reducible rfl
  try simp only [Act.put, List.setIfInBounds_toArray, List.set_cons_zero, List.set_cons_succ]
  refine wpAnyT_pure (i := 13) (oi := { dst := some 47, op := Op.fieldAddr 33 (Operand.tmp 3) 1, type := 0, pos := "ref.go:81", after := #[], guard := none }) (v := ?_) rfl (by kernel_rfl) (by kernel_rfl) (by kernel_rfl) (fun _ _ _ h => h) (Or.inl ⟨by rfl, ?hyb14⟩) ?restb14
  case hyb14 =>
    intro w hSw
    go_simp
    try with_reducible rfl
  try simp only [Act.put, List.setIfInBounds_toArray, List.set_cons_zero, List.set_cons_succ]
  refine wpAnyT_take (i := 14) (oi := { dst := some 48, op := Op.load 3 (Operand.tmp 47), type := 3, pos := "ref.go:81", after := #[{ on := 13, ground := Ground.data }], guard := none }) (v := ?_) rfl (by kernel_rfl) (by kernel_rfl) (by kernel_rfl) (by kernel_rfl) (fun _ _ _ h => h) (Or.inl ⟨by rfl, ?hyb15⟩) hHeld ?restb15
  case hyb15 =>
    intro w hSw
    try dsimp only at hSw
    go_simp
    try with_reducible rfl
  try simp only [Act.put, List.setIfInBounds_toArray, List.set_cons_zero, List.set_cons_succ]
  refine wpAnyT_pure (i := 16) (oi := { dst := some 50, op := Op.fieldAddr 33 (Operand.tmp 3) 3, type := 0, pos := "ref.go:81", after := #[], guard := none }) (v := ?_) rfl (by kernel_rfl) (by kernel_rfl) (by kernel_rfl) (fun _ _ _ h => h) (Or.inl ⟨by rfl, ?hyb16⟩) ?restb16
  case hyb16 =>
    intro w hSw
    go_simp
    try with_reducible rfl
  try simp only [Act.put, List.setIfInBounds_toArray, List.set_cons_zero, List.set_cons_succ]
  refine wpAnyT_take (i := 17) (oi := { dst := some 51, op := Op.load 31 (Operand.tmp 50), type := 31, pos := "ref.go:81", after := #[{ on := 16, ground := Ground.data }], guard := none }) (v := ?_) rfl (by kernel_rfl) (by kernel_rfl) (by kernel_rfl) (by kernel_rfl) (fun _ _ _ h => h) (Or.inl ⟨by rfl, ?hyb17⟩) hHeld ?restb17
  case hyb17 =>
    intro w hSw
    try dsimp only at hSw
    go_simp
    try with_reducible rfl
  try simp only [Act.put, List.setIfInBounds_toArray, List.set_cons_zero, List.set_cons_succ]
  refine wpAnyT_two (i := 15) (j := 22) (o := { dst := some 49, op := Op.call { callee := Callee.value (Operand.func 47), args := #[Operand.tmp 42, Operand.tmp 44, Operand.tmp 46, Operand.tmp 48], argTypes := #[3, 3, 4, 3] }, type := 48, pos := "ref.go:81", after := #[{ on := 8, ground := Ground.data }, { on := 10, ground := Ground.data }, { on := 12, ground := Ground.data }, { on := 14, ground := Ground.data }], guard := none }) (o2 := { dst := some 5, op := Op.alloc 23, type := 0, pos := "ref.go:81", after := #[], guard := none }) (by kernel_rfl) rfl rfl (fun K hK => ?_) (fun K hK => ?_)
  · go_simp
    go_at_call 47
    refine (hLf.out _).mono ?_
    unfold JoinC
    rw [hq2.out]
    rintro e w7 ⟨A7, c7, rfl, h71, h72, h73, hbx, -⟩
    have HB2 := HB.trans (hbx.mono HB.size)
    clear HB hbx
    have HB := HB2
    clear HB2
    refine hK.out _ _ (by exact hsp3.out _ HB) (fun hHeld' => ?_)
    clear hK K hHeld
    have hHeld := hHeld'
    clear hHeld'
    try simp only [Act.put, List.setIfInBounds_toArray, List.set_cons_zero, List.set_cons_succ]
    refine wpAnyT_two (i := 18) (j := 22) (o := { dst := some 52, op := Op.call { callee := Callee.value (Operand.func 52), args := #[Operand.tmp 35, Operand.tmp 40, Operand.tmp 49, Operand.tmp 51], argTypes := #[3, 3, 48, 31] }, type := 53, pos := "ref.go:81", after := #[{ on := 1, ground := Ground.data }, { on := 6, ground := Ground.data }, { on := 15, ground := Ground.data }, { on := 17, ground := Ground.data }, { on := 15, ground := Ground.chain }], guard := none }) (o2 := { dst := some 5, op := Op.alloc 23, type := 0, pos := "ref.go:81", after := #[], guard := none }) (by kernel_rfl) rfl rfl (fun K hK => ?_) (fun K hK => ?_)
    · go_simp
      go_at_call 52
      refine (hC.out _ A7 c7 (HB3.out.trans (HB.mono HB3.out.size)) h73).mono ?_
      rintro e w8 ⟨rfl, hbx⟩
      have HB2 := HB.trans (hbx.mono HB.size)
      clear HB hbx
      have HB := HB2
      clear HB2
      refine hK.out _ _ (by exact hsp3.out _ HB) (fun hHeld' => ?_)
      clear hK K hHeld
      have hHeld := hHeld'
      clear hHeld'
      try simp only [Act.put, List.setIfInBounds_toArray, List.set_cons_zero, List.set_cons_succ]
      refine wpAnyT_pure (i := 19) (oi := { dst := some 33, op := Op.move (Operand.tmp 52), type := 53, pos := "ref.go:81", after := #[{ on := 18, ground := Ground.data }], guard := none }) (v := ?_) rfl (by kernel_rfl) (by kernel_rfl) (by kernel_rfl) (fun _ _ _ h => h) (Or.inl ⟨by rfl, ?hyb18⟩) ?restb18
      case hyb18 =>
        intro w hSw
        go_simp
        try with_reducible rfl
      try simp only [Act.put, List.setIfInBounds_toArray, List.set_cons_zero, List.set_cons_succ]
      refine wpAnyT_pure (i := 20) (oi := { dst := some 53, op := Op.extract (Operand.tmp 33) 0, type := 23, pos := "ref.go:81", after := #[{ on := 19, ground := Ground.data }], guard := none }) (v := ?_) rfl (by kernel_rfl) (by kernel_rfl) (by kernel_rfl) (fun _ _ _ h => h) (Or.inl ⟨by rfl, ?hyb19⟩) ?restb19
      case hyb19 =>
        intro w hSw
        go_simp
        try with_reducible rfl
      try simp only [Act.put, List.setIfInBounds_toArray, List.set_cons_zero, List.set_cons_succ]
      refine wpAnyT_pure (i := 21) (oi := { dst := some 54, op := Op.extract (Operand.tmp 33) 1, type := 35, pos := "ref.go:81", after := #[{ on := 19, ground := Ground.data }, { on := 23, ground := Ground.gcOnly Departure.lateStores }], guard := none }) (v := ?_) rfl (by kernel_rfl) (by kernel_rfl) (by kernel_rfl) (fun _ _ _ h => h) (Or.inl ⟨by rfl, ?hyb20⟩) ?restb20
      case hyb20 =>
        intro w hSw
        go_simp
        try with_reducible rfl
      try simp only [Act.put, List.setIfInBounds_toArray, List.set_cons_zero, List.set_cons_succ]
      refine wpAnyT_one (i := 22) (o := { dst := some 5, op := Op.alloc 23, type := 0, pos := "ref.go:81", after := #[], guard := none }) (by kernel_rfl) rfl (fun K hK => ?_)
      go_simp
      have hz1 := heap_alloc_new w8 (.cells ((List.replicate 32 (0 : UInt8)).map by1).toArray 23)
      have hs21 : w3.heap.size ≤ w8.heap.size := HB.size
      have HB2 := HB.alloc HB.size (.cells ((List.replicate 32 (0 : UInt8)).map by1).toArray 23)
      clear HB
      have HB := HB2
      clear HB2
      refine hK.out _ _ (by exact hsp3.out _ HB) (fun hHeld' => ?_)
      clear hK K hHeld
      have hHeld := hHeld'
      clear hHeld'
      try simp only [Act.put, List.setIfInBounds_toArray, List.set_cons_zero, List.set_cons_succ]
      refine wpAnyT_tail (i := 23) (o := { dst := none, op := Op.store 23 (Operand.tmp 5) (Operand.tmp 53), type := 0, pos := "ref.go:81", after := #[{ on := 22, ground := Ground.data }, { on := 20, ground := Ground.data }, { on := 18, ground := Ground.chain }, { on := 0, ground := Ground.phase }, { on := 1, ground := Ground.phase }, { on := 2, ground := Ground.phase }, { on := 3, ground := Ground.phase }, { on := 4, ground := Ground.phase }, { on := 5, ground := Ground.phase }, { on := 6, ground := Ground.phase }, { on := 7, ground := Ground.phase }, { on := 8, ground := Ground.phase }, { on := 9, ground := Ground.phase }, { on := 10, ground := Ground.phase }, { on := 11, ground := Ground.phase }, { on := 12, ground := Ground.phase }, { on := 13, ground := Ground.phase }, { on := 14, ground := Ground.phase }, { on := 15, ground := Ground.phase }, { on := 16, ground := Ground.phase }, { on := 17, ground := Ground.phase }, { on := 18, ground := Ground.phase }, { on := 19, ground := Ground.phase }, { on := 20, ground := Ground.phase }, { on := 21, ground := Ground.textOnly Departure.lateStores }, { on := 22, ground := Ground.phase }], guard := none }) (by kernel_rfl) rfl (by rfl) (fun K hK => ?_)
      rw [if_pos (by rfl)]
      refine wp_set_row 23 (.tmp 5) (.tmp 53) (by rfl) (by rfl) w8.heap.size (dg rt) (by rfl) (by rfl) 23 _ hz1 pr2.out psr.out por.out ?_
      intro w9 hd9 hz9 hg9
      refine hK.out _ _ ?_
      clear hK K
      try simp only [Act.put, List.setIfInBounds_toArray, List.set_cons_zero, List.set_cons_succ]
      refine wpAnyT_pure (i := 24) (oi := { dst := some 6, op := Op.assign (Operand.tmp 54), type := 35, pos := "ref.go:81", after := #[{ on := 21, ground := Ground.data }, { on := 23, ground := Ground.chain }, { on := 0, ground := Ground.phase }, { on := 1, ground := Ground.phase }, { on := 2, ground := Ground.phase }, { on := 3, ground := Ground.phase }, { on := 4, ground := Ground.phase }, { on := 5, ground := Ground.phase }, { on := 6, ground := Ground.phase }, { on := 7, ground := Ground.phase }, { on := 8, ground := Ground.phase }, { on := 9, ground := Ground.phase }, { on := 10, ground := Ground.phase }, { on := 11, ground := Ground.phase }, { on := 12, ground := Ground.phase }, { on := 13, ground := Ground.phase }, { on := 14, ground := Ground.phase }, { on := 15, ground := Ground.phase }, { on := 16, ground := Ground.phase }, { on := 17, ground := Ground.phase }, { on := 18, ground := Ground.phase }, { on := 19, ground := Ground.phase }, { on := 20, ground := Ground.phase }, { on := 21, ground := Ground.phase }, { on := 22, ground := Ground.phase }, { on := 23, ground := Ground.phase }], guard := none }) (v := ?_) rfl (by kernel_rfl) (by kernel_rfl) (by kernel_rfl) (fun _ _ _ h => h) (Or.inl ⟨by rfl, ?hyb21⟩) ?restb21
      case hyb21 =>
        intro w hSw
        go_simp
        try with_reducible rfl
      try simp only [Act.put, List.setIfInBounds_toArray, List.set_cons_zero, List.set_cons_succ]
      refine wpAnyT_done (by kernel_rfl) ?_ _
      have hgd4 : w3.heap.size ≤ w8.heap.size := by first | exact hs21 | (have := hs21; omega)
      have hB9 := HB.grown hg9 HB.size (fun j e => by have := Option.some.inj e; omega)
      obtain ⟨⟨x0, x1, x2, xr⟩, ⟨y0, y1, y2, y3⟩⟩ := hsp3.out _ hB9
      have HF := HB3.out.trans (hB9.mono HB3.out.size)
      clear hg9 hz9 hz1 HB hHeld hB9 h71 h72 h73 hgd4
      try clear hs21
      by_cases he0 : er = 0
      · subst he0
        obtain rfl : z = decide (rt = s.root) := by rw [hfin.out]; simp
        go_wp2_with (first
          | (refine wpList_load_midG (by rfl) 23 (.tmp 5) (by rfl) w8.heap.size 0 (by rfl) (dc rt) _ (row_range7 (cs := dc rt) hd9) Tryd.underlying23 (by rfl) pr1.out ?_)
          | (refine wpList_load_midG (by rfl) 23 (.tmp 59) (by rfl) w.heap.size 3 (by rfl) (dc s.root) _ xr Tryd.underlying23 (by rfl) psr1.out ?_))
        go_ret
        exact ⟨rfl, HF⟩
      · have d8 : (er == 0) = false := by simpa using he0
        obtain rfl : z = false := by rw [hfin.out]; simp [he0]
        go_wp2_with fail
        go_ret
        exact ⟨rfl, HF⟩
    · go_simp
      have hz1 := heap_alloc_new w7 (.cells ((List.replicate 32 (0 : UInt8)).map by1).toArray 23)
      have hs21 : w3.heap.size ≤ w7.heap.size := HB.size
      have h73b := h73.below ((Below.refl w7.heap.size w7).alloc (Nat.le_refl _) (.cells ((List.replicate 32 (0 : UInt8)).map by1).toArray 23))
      clear h73
      have h73 := h73b
      clear h73b
      have HB2 := HB.alloc HB.size (.cells ((List.replicate 32 (0 : UInt8)).map by1).toArray 23)
      clear HB
      have HB := HB2
      clear HB2
      refine hK.out _ _ (by exact hsp3.out _ HB) (fun hHeld' => ?_)
      clear hK K hHeld
      have hHeld := hHeld'
      clear hHeld'
      try simp only [Act.put, List.setIfInBounds_toArray, List.set_cons_zero, List.set_cons_succ]
      refine wpAnyT_one (i := 18) (o := { dst := some 52, op := Op.call { callee := Callee.value (Operand.func 52), args := #[Operand.tmp 35, Operand.tmp 40, Operand.tmp 49, Operand.tmp 51], argTypes := #[3, 3, 48, 31] }, type := 53, pos := "ref.go:81", after := #[{ on := 1, ground := Ground.data }, { on := 6, ground := Ground.data }, { on := 15, ground := Ground.data }, { on := 17, ground := Ground.data }, { on := 15, ground := Ground.chain }], guard := none }) (by kernel_rfl) rfl (fun K hK => ?_)
      go_simp
      go_at_call 52
      refine (hC.out _ A7 c7 (HB3.out.trans (HB.mono HB3.out.size)) h73).mono ?_
      rintro e w8 ⟨rfl, hbx⟩
      have hz2 := (hbx.block _ (Array.getElem?_eq_some_iff.1 hz1).1).trans hz1
      clear hz1
      have hz1 := hz2
      clear hz2
      have HB2 := HB.trans (hbx.mono HB.size)
      clear HB hbx
      have HB := HB2
      clear HB2
      refine hK.out _ _ (by exact hsp3.out _ HB) (fun hHeld' => ?_)
      clear hK K hHeld
      have hHeld := hHeld'
      clear hHeld'
      try simp only [Act.put, List.setIfInBounds_toArray, List.set_cons_zero, List.set_cons_succ]
      refine wpAnyT_pure (i := 19) (oi := { dst := some 33, op := Op.move (Operand.tmp 52), type := 53, pos := "ref.go:81", after := #[{ on := 18, ground := Ground.data }], guard := none }) (v := ?_) rfl (by kernel_rfl) (by kernel_rfl) (by kernel_rfl) (fun _ _ _ h => h) (Or.inl ⟨by rfl, ?hyb22⟩) ?restb22
      case hyb22 =>
        intro w hSw
        go_simp
        try with_reducible rfl
      try simp only [Act.put, List.setIfInBounds_toArray, List.set_cons_zero, List.set_cons_succ]
      refine wpAnyT_pure (i := 20) (oi := { dst := some 53, op := Op.extract (Operand.tmp 33) 0, type := 23, pos := "ref.go:81", after := #[{ on := 19, ground := Ground.data }], guard := none }) (v := ?_) rfl (by kernel_rfl) (by kernel_rfl) (by kernel_rfl) (fun _ _ _ h => h) (Or.inl ⟨by rfl, ?hyb23⟩) ?restb23
      case hyb23 =>
        intro w hSw
        go_simp
        try with_reducible rfl
      try simp only [Act.put, List.setIfInBounds_toArray, List.set_cons_zero, List.set_cons_succ]
      refine wpAnyT_pure (i := 21) (oi := { dst := some 54, op := Op.extract (Operand.tmp 33) 1, type := 35, pos := "ref.go:81", after := #[{ on := 19, ground := Ground.data }, { on := 23, ground := Ground.gcOnly Departure.lateStores }], guard := none }) (v := ?_) rfl (by kernel_rfl) (by kernel_rfl) (by kernel_rfl) (fun _ _ _ h => h) (Or.inl ⟨by rfl, ?hyb24⟩) ?restb24
      case hyb24 =>
        intro w hSw
        go_simp
        try with_reducible rfl
      try simp only [Act.put, List.setIfInBounds_toArray, List.set_cons_zero, List.set_cons_succ]
      refine wpAnyT_tail (i := 23) (o := { dst := none, op := Op.store 23 (Operand.tmp 5) (Operand.tmp 53), type := 0, pos := "ref.go:81", after := #[{ on := 22, ground := Ground.data }, { on := 20, ground := Ground.data }, { on := 18, ground := Ground.chain }, { on := 0, ground := Ground.phase }, { on := 1, ground := Ground.phase }, { on := 2, ground := Ground.phase }, { on := 3, ground := Ground.phase }, { on := 4, ground := Ground.phase }, { on := 5, ground := Ground.phase }, { on := 6, ground := Ground.phase }, { on := 7, ground := Ground.phase }, { on := 8, ground := Ground.phase }, { on := 9, ground := Ground.phase }, { on := 10, ground := Ground.phase }, { on := 11, ground := Ground.phase }, { on := 12, ground := Ground.phase }, { on := 13, ground := Ground.phase }, { on := 14, ground := Ground.phase }, { on := 15, ground := Ground.phase }, { on := 16, ground := Ground.phase }, { on := 17, ground := Ground.phase }, { on := 18, ground := Ground.phase }, { on := 19, ground := Ground.phase }, { on := 20, ground := Ground.phase }, { on := 21, ground := Ground.textOnly Departure.lateStores }, { on := 22, ground := Ground.phase }], guard := none }) (by kernel_rfl) rfl (by rfl) (fun K hK => ?_)
      rw [if_pos (by rfl)]
      refine wp_set_row 23 (.tmp 5) (.tmp 53) (by rfl) (by rfl) w7.heap.size (dg rt) (by rfl) (by rfl) 23 _ hz1 pr2.out psr.out por.out ?_
      intro w9 hd9 hz9 hg9
      refine hK.out _ _ ?_
      clear hK K
      try simp only [Act.put, List.setIfInBounds_toArray, List.set_cons_zero, List.set_cons_succ]
      refine wpAnyT_pure (i := 24) (oi := { dst := some 6, op := Op.assign (Operand.tmp 54), type := 35, pos := "ref.go:81", after := #[{ on := 21, ground := Ground.data }, { on := 23, ground := Ground.chain }, { on := 0, ground := Ground.phase }, { on := 1, ground := Ground.phase }, { on := 2, ground := Ground.phase }, { on := 3, ground := Ground.phase }, { on := 4, ground := Ground.phase }, { on := 5, ground := Ground.phase }, { on := 6, ground := Ground.phase }, { on := 7, ground := Ground.phase }, { on := 8, ground := Ground.phase }, { on := 9, ground := Ground.phase }, { on := 10, ground := Ground.phase }, { on := 11, ground := Ground.phase }, { on := 12, ground := Ground.phase }, { on := 13, ground := Ground.phase }, { on := 14, ground := Ground.phase }, { on := 15, ground := Ground.phase }, { on := 16, ground := Ground.phase }, { on := 17, ground := Ground.phase }, { on := 18, ground := Ground.phase }, { on := 19, ground := Ground.phase }, { on := 20, ground := Ground.phase }, { on := 21, ground := Ground.phase }, { on := 22, ground := Ground.phase }, { on := 23, ground := Ground.phase }], guard := none }) (v := ?_) rfl (by kernel_rfl) (by kernel_rfl) (by kernel_rfl) (fun _ _ _ h => h) (Or.inl ⟨by rfl, ?hyb25⟩) ?restb25
      case hyb25 =>
        intro w hSw
        go_simp
        try with_reducible rfl
      try simp only [Act.put, List.setIfInBounds_toArray, List.set_cons_zero, List.set_cons_succ]
      refine wpAnyT_done (by kernel_rfl) ?_ _
      have hgd4 : w3.heap.size ≤ w7.heap.size := by first | exact hs21 | (have := hs21; omega)
      have hB9 := HB.grown hg9 HB.size (fun j e => by have := Option.some.inj e; omega)
      obtain ⟨⟨x0, x1, x2, xr⟩, ⟨y0, y1, y2, y3⟩⟩ := hsp3.out _ hB9
      have HF := HB3.out.trans (hB9.mono HB3.out.size)
      clear hg9 hz9 hz1 HB hHeld hB9 h71 h72 h73 hgd4
      try clear hs21
      by_cases he0 : er = 0
      · subst he0
        obtain rfl : z = decide (rt = s.root) := by rw [hfin.out]; simp
        go_wp2_with (first
          | (refine wpList_load_midG (by rfl) 23 (.tmp 5) (by rfl) w7.heap.size 0 (by rfl) (dc rt) _ (row_range7 (cs := dc rt) hd9) Tryd.underlying23 (by rfl) pr1.out ?_)
          | (refine wpList_load_midG (by rfl) 23 (.tmp 59) (by rfl) w.heap.size 3 (by rfl) (dc s.root) _ xr Tryd.underlying23 (by rfl) psr1.out ?_))
        go_ret
        exact ⟨rfl, HF⟩
      · have d8 : (er == 0) = false := by simpa using he0
        obtain rfl : z = false := by rw [hfin.out]; simp [he0]
        go_wp2_with fail
        go_ret
        exact ⟨rfl, HF⟩
  · go_simp
    have hz1 := heap_alloc_new w3.drew (.cells ((List.replicate 32 (0 : UInt8)).map by1).toArray 23)
    have hs21 : w3.heap.size ≤ w3.heap.size := HB.size
    have HB2 := HB.alloc HB.size (.cells ((List.replicate 32 (0 : UInt8)).map by1).toArray 23)
    clear HB
    have HB := HB2
    clear HB2
    refine hK.out _ _ (by exact hsp3.out _ HB) (fun hHeld' => ?_)
    clear hK K hHeld
    have hHeld := hHeld'
    clear hHeld'
    try simp only [Act.put, List.setIfInBounds_toArray, List.set_cons_zero, List.set_cons_succ]
    refine wpAnyT_one (i := 15) (o := { dst := some 49, op := Op.call { callee := Callee.value (Operand.func 47), args := #[Operand.tmp 42, Operand.tmp 44, Operand.tmp 46, Operand.tmp 48], argTypes := #[3, 3, 4, 3] }, type := 48, pos := "ref.go:81", after := #[{ on := 8, ground := Ground.data }, { on := 10, ground := Ground.data }, { on := 12, ground := Ground.data }, { on := 14, ground := Ground.data }], guard := none }) (by kernel_rfl) rfl (fun K hK => ?_)
    go_simp
    go_at_call 47
    refine (hLf.out _).mono ?_
    unfold JoinC
    rw [hq2.out]
    rintro e w7 ⟨A7, c7, rfl, h71, h72, h73, hbx, -⟩
    have hz2 := (hbx.block _ (Array.getElem?_eq_some_iff.1 hz1).1).trans hz1
    clear hz1
    have hz1 := hz2
    clear hz2
    have HB2 := HB.trans (hbx.mono HB.size)
    clear HB hbx
    have HB := HB2
    clear HB2
    refine hK.out _ _ (by exact hsp3.out _ HB) (fun hHeld' => ?_)
    clear hK K hHeld
    have hHeld := hHeld'
    clear hHeld'
    try simp only [Act.put, List.setIfInBounds_toArray, List.set_cons_zero, List.set_cons_succ]
    refine wpAnyT_one (i := 18) (o := { dst := some 52, op := Op.call { callee := Callee.value (Operand.func 52), args := #[Operand.tmp 35, Operand.tmp 40, Operand.tmp 49, Operand.tmp 51], argTypes := #[3, 3, 48, 31] }, type := 53, pos := "ref.go:81", after := #[{ on := 1, ground := Ground.data }, { on := 6, ground := Ground.data }, { on := 15, ground := Ground.data }, { on := 17, ground := Ground.data }, { on := 15, ground := Ground.chain }], guard := none }) (by kernel_rfl) rfl (fun K hK => ?_)
    go_simp
    go_at_call 52
    refine (hC.out _ A7 c7 (HB3.out.trans (HB.mono HB3.out.size)) h73).mono ?_
    rintro e w8 ⟨rfl, hbx⟩
    have hz2 := (hbx.block _ (Array.getElem?_eq_some_iff.1 hz1).1).trans hz1
    clear hz1
    have hz1 := hz2
    clear hz2
    have HB2 := HB.trans (hbx.mono HB.size)
    clear HB hbx
    have HB := HB2
    clear HB2
    refine hK.out _ _ (by exact hsp3.out _ HB) (fun hHeld' => ?_)
    clear hK K hHeld
    have hHeld := hHeld'
    clear hHeld'
    try simp only [Act.put, List.setIfInBounds_toArray, List.set_cons_zero, List.set_cons_succ]
    refine wpAnyT_pure (i := 19) (oi := { dst := some 33, op := Op.move (Operand.tmp 52), type := 53, pos := "ref.go:81", after := #[{ on := 18, ground := Ground.data }], guard := none }) (v := ?_) rfl (by kernel_rfl) (by kernel_rfl) (by kernel_rfl) (fun _ _ _ h => h) (Or.inl ⟨by rfl, ?hyb26⟩) ?restb26
    case hyb26 =>
      intro w hSw
      go_simp
      try with_reducible rfl
    try simp only [Act.put, List.setIfInBounds_toArray, List.set_cons_zero, List.set_cons_succ]
    refine wpAnyT_pure (i := 20) (oi := { dst := some 53, op := Op.extract (Operand.tmp 33) 0, type := 23, pos := "ref.go:81", after := #[{ on := 19, ground := Ground.data }], guard := none }) (v := ?_) rfl (by kernel_rfl) (by kernel_rfl) (by kernel_rfl) (fun _ _ _ h => h) (Or.inl ⟨by rfl, ?hyb27⟩) ?restb27
    case hyb27 =>
      intro w hSw
      go_simp
      try with_reducible rfl
    try simp only [Act.put, List.setIfInBounds_toArray, List.set_cons_zero, List.set_cons_succ]
    refine wpAnyT_pure (i := 21) (oi := { dst := some 54, op := Op.extract (Operand.tmp 33) 1, type := 35, pos := "ref.go:81", after := #[{ on := 19, ground := Ground.data }, { on := 23, ground := Ground.gcOnly Departure.lateStores }], guard := none }) (v := ?_) rfl (by kernel_rfl) (by kernel_rfl) (by kernel_rfl) (fun _ _ _ h => h) (Or.inl ⟨by rfl, ?hyb28⟩) ?restb28
    case hyb28 =>
      intro w hSw
      go_simp
      try with_reducible rfl
    try simp only [Act.put, List.setIfInBounds_toArray, List.set_cons_zero, List.set_cons_succ]
    refine wpAnyT_tail (i := 23) (o := { dst := none, op := Op.store 23 (Operand.tmp 5) (Operand.tmp 53), type := 0, pos := "ref.go:81", after := #[{ on := 22, ground := Ground.data }, { on := 20, ground := Ground.data }, { on := 18, ground := Ground.chain }, { on := 0, ground := Ground.phase }, { on := 1, ground := Ground.phase }, { on := 2, ground := Ground.phase }, { on := 3, ground := Ground.phase }, { on := 4, ground := Ground.phase }, { on := 5, ground := Ground.phase }, { on := 6, ground := Ground.phase }, { on := 7, ground := Ground.phase }, { on := 8, ground := Ground.phase }, { on := 9, ground := Ground.phase }, { on := 10, ground := Ground.phase }, { on := 11, ground := Ground.phase }, { on := 12, ground := Ground.phase }, { on := 13, ground := Ground.phase }, { on := 14, ground := Ground.phase }, { on := 15, ground := Ground.phase }, { on := 16, ground := Ground.phase }, { on := 17, ground := Ground.phase }, { on := 18, ground := Ground.phase }, { on := 19, ground := Ground.phase }, { on := 20, ground := Ground.phase }, { on := 21, ground := Ground.textOnly Departure.lateStores }, { on := 22, ground := Ground.phase }], guard := none }) (by kernel_rfl) rfl (by rfl) (fun K hK => ?_)
    rw [if_pos (by rfl)]
    refine wp_set_row 23 (.tmp 5) (.tmp 53) (by rfl) (by rfl) w3.heap.size (dg rt) (by rfl) (by rfl) 23 _ hz1 pr2.out psr.out por.out ?_
    intro w9 hd9 hz9 hg9
    refine hK.out _ _ ?_
    clear hK K
    try simp only [Act.put, List.setIfInBounds_toArray, List.set_cons_zero, List.set_cons_succ]
    refine wpAnyT_pure (i := 24) (oi := { dst := some 6, op := Op.assign (Operand.tmp 54), type := 35, pos := "ref.go:81", after := #[{ on := 21, ground := Ground.data }, { on := 23, ground := Ground.chain }, { on := 0, ground := Ground.phase }, { on := 1, ground := Ground.phase }, { on := 2, ground := Ground.phase }, { on := 3, ground := Ground.phase }, { on := 4, ground := Ground.phase }, { on := 5, ground := Ground.phase }, { on := 6, ground := Ground.phase }, { on := 7, ground := Ground.phase }, { on := 8, ground := Ground.phase }, { on := 9, ground := Ground.phase }, { on := 10, ground := Ground.phase }, { on := 11, ground := Ground.phase }, { on := 12, ground := Ground.phase }, { on := 13, ground := Ground.phase }, { on := 14, ground := Ground.phase }, { on := 15, ground := Ground.phase }, { on := 16, ground := Ground.phase }, { on := 17, ground := Ground.phase }, { on := 18, ground := Ground.phase }, { on := 19, ground := Ground.phase }, { on := 20, ground := Ground.phase }, { on := 21, ground := Ground.phase }, { on := 22, ground := Ground.phase }, { on := 23, ground := Ground.phase }], guard := none }) (v := ?_) rfl (by kernel_rfl) (by kernel_rfl) (by kernel_rfl) (fun _ _ _ h => h) (Or.inl ⟨by rfl, ?hyb29⟩) ?restb29
    case hyb29 =>
      intro w hSw
      go_simp
      try with_reducible rfl
    try simp only [Act.put, List.setIfInBounds_toArray, List.set_cons_zero, List.set_cons_succ]
    refine wpAnyT_done (by kernel_rfl) ?_ _
    have hgd4 : w3.heap.size ≤ w3.heap.size := by omega
    have hB9 := HB.grown hg9 HB.size (fun j e => by have := Option.some.inj e; omega)
    obtain ⟨⟨x0, x1, x2, xr⟩, ⟨y0, y1, y2, y3⟩⟩ := hsp3.out _ hB9
    have HF := HB3.out.trans (hB9.mono HB3.out.size)
    clear hg9 hz9 hz1 HB hHeld hB9 h71 h72 h73 hgd4
    try clear hs21
    by_cases he0 : er = 0
    · subst he0
      obtain rfl : z = decide (rt = s.root) := by rw [hfin.out]; simp
      go_wp2_with (first
        | (refine wpList_load_midG (by rfl) 23 (.tmp 5) (by rfl) w3.heap.size 0 (by rfl) (dc rt) _ (row_range7 (cs := dc rt) hd9) Tryd.underlying23 (by rfl) pr1.out ?_)
        | (refine wpList_load_midG (by rfl) 23 (.tmp 59) (by rfl) w.heap.size 3 (by rfl) (dc s.root) _ xr Tryd.underlying23 (by rfl) psr1.out ?_))
      go_ret
      exact ⟨rfl, HF⟩
    · have d8 : (er == 0) = false := by simpa using he0
      obtain rfl : z = false := by rw [hfin.out]; simp [he0]
      go_wp2_with fail
      go_ret
      exact ⟨rfl, HF⟩

theorem rchk_any (s : Sl) (hs : SlI s) (d n : Int) (b : Bool) (p : List (List UInt8)) (ho : OpI ⟨d, n, b, p⟩) (k : Nat) (hk : p.length = k) (P : Option Addr) (cp : Nat) (hcp : k ≤ cp) (w : World) (hp : DsAt w P p) : Calls Tryd.prog 24 #[.agg (slA s), .agg #[.int .i64 d, .int .i64 n, .bool b, .slice P k cp]] w fun e w' => e = .returned (.bool (chkS s ⟨d, n, b, p⟩)) ∧ Below w.heap.size w w' := by
  by_cases c1 : dayB s.t s.f s.m = true
  · by_cases h2 : d < s.f
    · exact rchk_early s hs d n b p ho k hk P cp hcp w hp c1 h2
    · by_cases h3 : s.f + s.m ≤ d
      · exact rchk_late s hs d n b p ho k hk P cp hcp w hp c1 h2 h3
      · by_cases c3 : salB n = true
        · exact rchk_in s hs d n b p ho k hk P cp hcp w hp c1 h2 h3 c3
        · exact rchk_salt s hs d n b p ho k hk P cp hcp w hp c1 h2 h3 (by simpa using c3)
  · exact rchk_day s hs d n b p ho k hk P cp hcp w hp (by simpa using c1)
end Go.Proofs.YtnccbhndlnkboaaDoor
