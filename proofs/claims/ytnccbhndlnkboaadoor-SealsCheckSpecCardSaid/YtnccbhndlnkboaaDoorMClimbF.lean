/- The walk of merkle.Climb. -/
import Derived.Test.YtnccbhndlnkboaaDoorMClimb
namespace Go.Proofs.YtnccbhndlnkboaaDoor
open Go.RowKit Go.Shelf Cdc Sha
set_option linter.unusedVariables false
set_option linter.unusedSimpArgs false

theorem results_row_tmp {P : Program} {fn : Func} {p q : Tmp} {ty : TypeId} (h : fn.results = #[.cell p ty, .tmp q]) (tmps : Array Value) (w : World) (g : Nat) (t : TypeId) (cs : Array Value) (fr : Nat × Nat) (d : TypeDesc) (u : Value)
    (hp : tmps.getD p undef = .pointer (some ⟨g, 0, none⟩)) (hq : tmps.getD q undef = u) (hg : w.heap[g]? = some (.cells cs t fr))
    (hu : P.underlying ty = some d) (hd : (match d with | .struct _ | .array _ _ => true | _ => false) = true) (hi : (P.info? ty).map (·.size) = some cs.size) :
    (results fn tmps).run P w = .ok (.tuple #[.agg cs, u]) w := by
  have hp' : tmps[p]?.getD undef = .pointer (some ⟨g, 0, none⟩) := by simpa using hp
  have hq' : tmps[q]?.getD undef = u := by simpa using hq
  simp [results, h, hp', hq', asAddr, run_loadVar_row w g t ty cs fr d hg hu hd hi]
def zero32 : List UInt8 := List.replicate 32 0
theorem zero32_len : zero32.length = 32 := by decide
/-- the last digest of a way -/
def lastM (l : List (List UInt8 × List UInt8)) : List UInt8 := match l.getLast? with
  | some x => x.1
  | none => []
/-- what Climb answers -/
def clV (n i : Int) (leaf : List UInt8) (path : List (List UInt8)) : List UInt8 × Int :=
  if 65536 < n ∨ i < 0 ∨ n ≤ i then (zero32, 1) else match climbM n.toNat i.toNat leaf path with
    | none => (zero32, 70)
    | some l => (lastM l, 0)
theorem climbM_ne {n i : Nat} {leaf : List UInt8} {path : List (List UInt8)} {l : List (List UInt8 × List UInt8)} (h : climbM n i leaf path = some l) : l ≠ [] := by
  unfold climbM at h
  obtain ⟨l', _, rfl⟩ := Option.map_eq_some_iff.1 h
  simp
theorem wayM_32 : ∀ (n i : Nat) (d : List UInt8) (p : List (List UInt8)) (l : List (List UInt8 × List UInt8)), d.length = 32 → wayM n i d p = some l → ∀ x ∈ l, x.1.length = 32 := by
  intro n
  induction n using Nat.strongRecOn with
  | ind n ih =>
    intro i d p l hd hl x hx
    by_cases h : 1 < n
    · by_cases k : n ≤ xr i
      · rw [wayM_alone h k] at hl
        obtain ⟨l', h', rfl⟩ := Option.map_eq_some_iff.1 hl
        rcases List.mem_cons.1 hx with rfl | hx
        · exact hd
        · exact ih _ (by omega) _ d p l' hd h' x hx
      · cases p with
        | nil => rw [wayM_short h k] at hl; cases hl
        | cons q p =>
          rw [wayM_node h k] at hl
          obtain ⟨l', h', rfl⟩ := Option.map_eq_some_iff.1 hl
          rcases List.mem_cons.1 hx with rfl | hx
          · exact sha_len _
          · exact ih _ (by omega) _ _ p l' (sha_len _) h' x hx
    · rw [wayM_end h] at hl
      split at hl
      · obtain rfl := Option.some.inj hl; cases hx
      · cases hl
theorem wayM_len : ∀ (n i : Nat) (d : List UInt8) (p : List (List UInt8)) (l : List (List UInt8 × List UInt8)), wayM n i d p = some l → l.length ≤ n := by
  intro n
  induction n using Nat.strongRecOn with
  | ind n ih =>
    intro i d p l hl
    by_cases h : 1 < n
    · by_cases k : n ≤ xr i
      · rw [wayM_alone h k] at hl
        obtain ⟨l', h', rfl⟩ := Option.map_eq_some_iff.1 hl
        have := ih _ (by omega) _ d p l' h'
        rw [List.length_cons]; omega
      · cases p with
        | nil => rw [wayM_short h k] at hl; cases hl
        | cons q p =>
          rw [wayM_node h k] at hl
          obtain ⟨l', h', rfl⟩ := Option.map_eq_some_iff.1 hl
          have := ih _ (by omega) _ _ p l' h'
          rw [List.length_cons]; omega
    · rw [wayM_end h] at hl
      split at hl
      · obtain rfl := Option.some.inj hl; simp
      · cases hl
theorem climbM_len {n i : Nat} {leaf : List UInt8} {path : List (List UInt8)} {l : List (List UInt8 × List UInt8)} (h : climbM n i leaf path = some l) : l.length ≤ n + 1 := by
  unfold climbM at h
  obtain ⟨l', h', rfl⟩ := Option.map_eq_some_iff.1 h
  have := wayM_len _ _ _ _ _ h'
  rw [List.length_cons]; omega
theorem climbM_32 {n i : Nat} {leaf : List UInt8} {path : List (List UInt8)} {l : List (List UInt8 × List UInt8)} (h : climbM n i leaf path = some l) : ∀ x ∈ l, x.1.length = 32 := fun x hx => by
  unfold climbM at h
  obtain ⟨l', h', rfl⟩ := Option.map_eq_some_iff.1 h
  rcases List.mem_cons.1 hx with rfl | hx
  · exact lfD_len _
  · exact wayM_32 _ _ _ _ l' (lfD_len _) h' x hx

set_option maxRecDepth 100000 in
set_option maxHeartbeats 4000000 in
theorem mClimb_bad (n i : Int) (h : 65536 < n ∨ i < 0 ∨ n ≤ i) (m : Nat) (A : Option Addr) (c k : Nat) (P : Option Addr) (cp : Nat) (w : World) :
    Calls Tryd.prog 25 #[.int .i64 n, .int .i64 i, .slice A m c, .slice P k cp] w fun e w' => e = .returned (.tuple #[.agg (dg zero32), .int .i64 1]) ∧ Below w.heap.size w w' := by
  have hi := Lib.hid (dg_info zero32 zero32_len)
  have hi' := Lib.hid (dc_info zero32_len)
  have ho := Lib.hid (dg_one zero32)
  have hz := heap_alloc_new w (.cells (dg zero32) 23)
  have hb : Below w.heap.size w (w.alloc (.cells (dg zero32) 23)) := (Below.refl _ _).alloc (Nat.le_refl _) _
  have hr : (w.alloc (.cells (dg zero32) 23)).rangeAt w.heap.size 0 (dc zero32) := fun j v hj => by rw [Nat.zero_add, cell_of_row _ _ _ _ _ _ hz]; simpa [dg] using hj
  have cases3 : (decide (65536 < n) = true) ∨ (decide (65536 < n) = false ∧ decide (i < 0) = true) ∨ (decide (65536 < n) = false ∧ decide (i < 0) = false ∧ decide (n ≤ i) = true) := by
    by_cases a : 65536 < n
    · exact .inl (decide_eq_true a)
    · by_cases b : i < 0
      · exact .inr (.inl ⟨decide_eq_false a, decide_eq_true b⟩)
      · exact .inr (.inr ⟨decide_eq_false a, decide_eq_false b, decide_eq_true (by omega)⟩)
  replace hr := Lib.hid hr
  replace hz := Lib.hid hz
  clear h
  rcases cases3 with h1 | ⟨h1, h2⟩ | ⟨h1, h2, h3⟩
  all_goals
    go_enter Tryd.func25, Tryd.ntmps25
    go_wp2_with (first
      | (refine wpList_load_mid (by rfl) 23 (.tmp 8) (by rfl) w.heap.size 0 (by rfl) (dc zero32) _ hr.out Tryd.underlying23 (by rfl) hi'.out ?_)
      | (refine wpList_set_row (by rfl) 23 (.tmp 8) (.tmp 23) (by rfl) (by rfl) w.heap.size (dg zero32) (by rfl) (by rfl) 23 _ hz.out hi.out rfl ho.out ?_; intro w6 hd6 hz6 hg6; replace hd6 := Lib.hid hd6))
    refine bodyPost_ret (v := .tuple #[.agg (dg zero32), .int .i64 1]) (results_row_tmp rfl _ _ w.heap.size 23 (dg zero32) (0, 0) _ _ rfl rfl hd6.out Tryd.underlying23 (by rfl) hi.out) rfl ⟨rfl, hb.grown hg6 hb.size (fun k e => by have := Option.some.inj e; omega)⟩

set_option maxRecDepth 100000 in
set_option maxHeartbeats 4000000 in
theorem mClimb_in (n i : Nat) (hn : n ≤ 65536) (hi : i < n) (leaf : List UInt8) (m : Nat) (hm : leaf.length = m) (hms : m ≤ 1000000) (A : Option Addr) (c : Nat) (path : List (List UInt8)) (k : Nat) (hk : path.length = k) (P : Option Addr) (cp : Nat) (hcp : k ≤ cp) (hks : k ≤ 1000000) (w : World) (hlf : AtO w A leaf) (hp : DsAt w P path) (hp32 : ∀ d ∈ path, d.length = 32) (hL : Laid w) :
    Calls Tryd.prog 25 #[.int .i64 (n : Int), .int .i64 (i : Int), .slice A m c, .slice P k cp] w fun e w' => e = .returned (.tuple #[.agg (dg (clV n i leaf path).1), .int .i64 (clV n i leaf path).2]) ∧ Below w.heap.size w w' := by
  have hcv : clV n i leaf path = match climbM n i leaf path with
      | none => (zero32, 70)
      | some l => (lastM l, 0) := by
    rw [clV, if_neg (by omega)]; rfl
  have hC : Hid (∀ V, Below w.heap.size w V → Calls Tryd.prog 53 #[.int .i64 (n : Int), .int .i64 (i : Int), .slice A m c, .slice P k cp] V (ClC (climbM n i leaf path) V)) := Lib.hid fun V hV => climb_any V n i hn (by omega) leaf m hm hms A c (hlf.below hV) path k hk P cp hcp hks (hp.below hV) hp32 (hL.below hV)
  have d1 : decide ((65536 : Int) < (n : Int)) = false := decide_eq_false (by omega)
  have d2 : decide ((i : Int) < 0) = false := decide_eq_false (by omega)
  have d3 : decide ((n : Int) ≤ (i : Int)) = false := decide_eq_false (by omega)
  have hiZ := Lib.hid (dg_info zero32 zero32_len)
  have hiZ' := Lib.hid (dc_info zero32_len)
  have hoZ := Lib.hid (dg_one zero32)
  have hz := Lib.hid (heap_alloc_new w (.cells (dg zero32) 23))
  have hb0 : Below w.heap.size w (w.alloc (.cells (dg zero32) 23)) := (Below.refl _ _).alloc (Nat.le_refl _) _
  obtain ⟨full, hfu⟩ : ∃ full, climbM n i leaf path = full := ⟨_, rfl⟩
  have h32 : ∀ l, full = some l → l ≠ [] ∧ (∀ x ∈ l, x.1.length = 32) ∧ l.length ≤ n + 1 := fun l e => ⟨climbM_ne (hfu.trans e), climbM_32 (hfu.trans e), climbM_len (hfu.trans e)⟩
  rw [hfu] at hC hcv
  rw [hcv]
  clear hfu hcv hlf hp hp32 hL hm hk
  go_enter Tryd.func25, Tryd.ntmps25
  go_wp2_with fail
  refine (hC.out _ hb0).mono ?_
  unfold ClC
  rintro e w2 ⟨A9, m9, c9, A8, m8, c8, ok, rfl, hok, hb2, hsome⟩
  have hd2 := Lib.hid ((hb2.block w.heap.size (by simp)).trans hz.out)
  have hB2 := hb0.trans (hb2.mono (by simp))
  clear hC hz hb0 hb2
  cases full with
  | none =>
    obtain rfl : ok = false := hok
    have hr : Hid (∀ V, Below w2.heap.size w2 V → V.rangeAt w.heap.size 0 (dc zero32) ∧ V.heap[w.heap.size]? = some (.cells (dg zero32) 23 (0, 0))) := Lib.hid fun V hV => by
      have h9 := (hV.block w.heap.size (Array.getElem?_eq_some_iff.1 hd2.out).1).trans hd2.out
      exact ⟨fun j v hj => by rw [Nat.zero_add, cell_of_row _ _ _ _ _ _ h9]; simpa [dg] using hj, h9⟩
    have hbA : ∀ o : Obj, Below w2.heap.size w2 (w2.alloc o) := fun o => (Below.refl _ _).alloc (Nat.le_refl _) o
    go_wp2_with (first
      | (refine wpList_load_mid (by rfl) 23 (.tmp 8) (by rfl) w.heap.size 0 (by rfl) (dc zero32) _ (hr.out _ (hbA _)).1 Tryd.underlying23 (by rfl) hiZ'.out ?_)
      | (refine wpList_set_row (by rfl) 23 (.tmp 8) (.tmp 34) (by rfl) (by rfl) w.heap.size (dg zero32) (by rfl) (by rfl) 23 _ (hr.out _ (hbA _)).2 hiZ.out rfl hoZ.out ?_; intro w6 hd6 hz6 hg6; replace hd6 := Lib.hid hd6))
    refine bodyPost_ret (v := .tuple #[.agg (dg zero32), .int .i64 70]) (results_row_tmp rfl _ _ w.heap.size 23 (dg zero32) (0, 0) _ _ rfl rfl hd6.out Tryd.underlying23 (by rfl) hiZ.out) rfl ⟨rfl, (hB2.alloc hB2.size _).grown hg6 (hB2.alloc hB2.size _).size (fun k e => by have := Option.some.inj e; omega)⟩
  | some l =>
    obtain rfl : ok = true := hok
    obtain ⟨e1, e2, e3, e4, e5⟩ := hsome l rfl
    obtain ⟨hne, hl32, hll⟩ := h32 l rfl
    obtain ⟨q, hq⟩ : ∃ q, l.length = q + 1 := ⟨l.length - 1, by have := List.length_pos_iff.2 hne; omega⟩
    obtain ⟨x, hx⟩ : ∃ x, l.getLast? = some x := ⟨_, List.getLast?_eq_some_getLast hne⟩
    have hlast : lastM l = x.1 := by rw [lastM, hx]
    have hxq : (l.map (·.1))[q]? = some x.1 := by
      rw [List.getLast?_eq_getElem?, hq] at hx
      rw [List.getElem?_map, show q = q + 1 - 1 by omega, hx]; rfl
    have hx32 := hl32 x (List.mem_of_getLast? hx)
    have hqb : q ≤ 1000000 := by omega
    subst e1 e4
    rw [hq] at e2 ⊢
    obtain ⟨g, o, eA, hgl, hrg⟩ := e3 q x.1 hxq
    subst eA
    obtain ⟨d, hd⟩ : ∃ d, x.1 = d := ⟨_, rfl⟩
    have hld := Lib.hid (hd.symm.trans hlast.symm)
    rw [hd] at hrg hx32
    have hr : Hid (∀ V, Below w2.heap.size w2 V → V.rangeAt g (o + q * 32) (dc d) ∧ V.heap[w.heap.size]? = some (.cells (dg zero32) 23 (0, 0))) := Lib.hid fun V hV => ⟨range_belowB hrg hgl hV, (hV.block w.heap.size (Array.getElem?_eq_some_iff.1 hd2.out).1).trans hd2.out⟩
    have hbA : ∀ o : Obj, Below w2.heap.size w2 (w2.alloc o) := fun o => (Below.refl _ _).alloc (Nat.le_refl _) o
    have pd := Lib.hid (dc_info hx32)
    have pd2 := Lib.hid (dg_info d hx32)
    have po := Lib.hid (dg_one d)
    have ps := Lib.hid (show (dg zero32).size = (dg d).size by rw [dg_size, dg_size, hx32, zero32_len])
    have k4 : (q : Int) < (q : Int) + 1 := by omega
    have k2 : (0 : Int) ≤ (q : Int) := by omega
    clear hsome e5 e3 hxq hx hlast hd hq hl32 h32
    go_wp2_with (first
      | (refine wpList_load_mid (by rfl) 23 (.tmp 41) (by rfl) g (o + q * 32) (by rfl) (dc d) _ (hr.out _ (hbA _)).1 Tryd.underlying23 (by rfl) pd.out ?_)
      | (refine wpList_set_row (by rfl) 23 (.tmp 8) (.tmp 42) (by rfl) (by rfl) w.heap.size (dg d) (by rfl) (by rfl) 23 _ (hr.out _ (hbA _)).2 pd2.out ps.out po.out ?_; intro w6 hd6 hz6 hg6; replace hd6 := Lib.hid hd6))
    refine bodyPost_ret (v := .tuple #[.agg (dg d), .int .i64 0]) (results_row_tmp rfl _ _ w.heap.size 23 (dg d) (0, 0) _ _ rfl rfl hd6.out Tryd.underlying23 (by rfl) pd2.out) rfl ⟨by rw [hld.out], (hB2.alloc hB2.size _).grown hg6 (hB2.alloc hB2.size _).size (fun k e => by have := Option.some.inj e; omega)⟩

theorem mClimb_any (n i : Int) (leaf : List UInt8) (m : Nat) (hm : leaf.length = m) (hms : m ≤ 1000000) (A : Option Addr) (c : Nat) (path : List (List UInt8)) (k : Nat) (hk : path.length = k) (P : Option Addr) (cp : Nat) (hcp : k ≤ cp) (hks : k ≤ 1000000) (w : World) (hlf : AtO w A leaf) (hp : DsAt w P path) (hp32 : ∀ d ∈ path, d.length = 32) (hL : Laid w) :
    Calls Tryd.prog 25 #[.int .i64 n, .int .i64 i, .slice A m c, .slice P k cp] w fun e w' => e = .returned (.tuple #[.agg (dg (clV n i leaf path).1), .int .i64 (clV n i leaf path).2]) ∧ Below w.heap.size w w' := by
  by_cases h : 65536 < n ∨ i < 0 ∨ n ≤ i
  · have e : clV n i leaf path = (zero32, 1) := if_pos h
    rw [e]
    exact mClimb_bad n i h m A c k P cp w
  · obtain ⟨n', rfl⟩ : ∃ n' : Nat, n = n' := ⟨n.toNat, by omega⟩
    obtain ⟨i', rfl⟩ : ∃ i' : Nat, i = i' := ⟨i.toNat, by omega⟩
    exact mClimb_in n' i' (by omega) (by omega) leaf m hm hms A c path k hk P cp hcp hks w hlf hp hp32 hL
end Go.Proofs.YtnccbhndlnkboaaDoor
