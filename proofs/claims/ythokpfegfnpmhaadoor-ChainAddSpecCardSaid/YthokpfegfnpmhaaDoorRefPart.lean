/- The walk of the reference's Part. -/
import Derived.Test.YthokpfegfnpmhaaDoorRefHC
import Derived.Test.YthokpfegfnpmhaaDoorPartTwo
namespace Go.Proofs.YthokpfegfnpmhaaDoor
open Go.RowKit Cdc Sha
set_option linter.unusedVariables false
set_option linter.unusedSimpArgs false

set_option maxRecDepth 100000 in
set_option maxHeartbeats 8000000 in
theorem rpart_ka (a b : List Lk) (n m : Nat) (A B : Option Addr) (c d : Nat) (w : World) (hn : a.length = n) (hm : b.length = m) (hnm : n ≤ 1000) (hmm : m ≤ 1000) (hc : n ≤ c) (hd : m ≤ d) (hA : LsAt w A a) (hB : LsAt w B b) (hpa : ∀ x ∈ a, LkOk x) (hpb : ∀ x ∈ b, LkOk x) (oa : ¬ OkL a) (P : (partC a b) = (0, false, 80)) :
    Calls Tryd.prog 18 #[.slice A n c, .slice B m d] w fun e w' => e = .returned (.tuple #[.int .i64 ((partC a b).1 : Int), .bool (partC a b).2.1, .int .i64 (partC a b).2.2]) ∧ Below w.heap.size w w' := by
  have h1 : Hid (Calls Tryd.prog 42 #[.slice A n c] w fun e w' => e = .returned (.int .i64 (ckC a)) ∧ Below w.heap.size w w') := Lib.hid (rcheck8_any a n A c w hn hnm hc hA hpa)
  have h2 : Hid (∀ V, Below w.heap.size w V → Calls Tryd.prog 42 #[.slice B m d] V fun e w' => e = .returned (.int .i64 (ckC b)) ∧ Below V.heap.size V w') := Lib.hid fun V h => rcheck8_any b m B d V hm hmm hd (hB.below h) hpb
  rw [ckC_bad oa] at h1
  rw [P]
  clear hA hB hpa hpb hn hm h2 P
  go_enter Tryd.func18, Tryd.ntmps18
  go_wp2_with (go_at_call 42; (with_reducible refine h1.out.mono ?_); rintro e w1 ⟨rfl, hb1⟩)
  refine bodyPost_ret (v := .tuple #[.int .i64 0, .bool false, .int .i64 80]) (by simp [results, Tryd.results18, go_sem]) rfl ⟨rfl, hb1⟩
set_option maxRecDepth 100000 in
set_option maxHeartbeats 8000000 in
theorem rpart_kb (a b : List Lk) (n m : Nat) (A B : Option Addr) (c d : Nat) (w : World) (hn : a.length = n) (hm : b.length = m) (hnm : n ≤ 1000) (hmm : m ≤ 1000) (hc : n ≤ c) (hd : m ≤ d) (hA : LsAt w A a) (hB : LsAt w B b) (hpa : ∀ x ∈ a, LkOk x) (hpb : ∀ x ∈ b, LkOk x) (oa : OkL a) (ob : ¬ OkL b) (P : (partC a b) = (0, false, 80)) :
    Calls Tryd.prog 18 #[.slice A n c, .slice B m d] w fun e w' => e = .returned (.tuple #[.int .i64 ((partC a b).1 : Int), .bool (partC a b).2.1, .int .i64 (partC a b).2.2]) ∧ Below w.heap.size w w' := by
  have h1 : Hid (Calls Tryd.prog 42 #[.slice A n c] w fun e w' => e = .returned (.int .i64 (ckC a)) ∧ Below w.heap.size w w') := Lib.hid (rcheck8_any a n A c w hn hnm hc hA hpa)
  have h2 : Hid (∀ V, Below w.heap.size w V → Calls Tryd.prog 42 #[.slice B m d] V fun e w' => e = .returned (.int .i64 (ckC b)) ∧ Below V.heap.size V w') := Lib.hid fun V h => rcheck8_any b m B d V hm hmm hd (hB.below h) hpb
  rw [ckC_ok oa] at h1
  rw [ckC_bad ob] at h2
  rw [P]
  clear hA hB hpa hpb hn hm P
  go_enter Tryd.func18, Tryd.ntmps18
  go_wp2_with (first
    | (go_at_call 42; (with_reducible refine h1.out.mono ?_); rintro e w1 ⟨rfl, hb1⟩)
    | (go_at_call 42; (with_reducible refine (h2.out _ hb1).mono ?_); rintro e w2 ⟨rfl, hb2⟩))
  refine bodyPost_ret (v := .tuple #[.int .i64 0, .bool false, .int .i64 80]) (by simp [results, Tryd.results18, go_sem]) rfl ⟨rfl, hb1.trans (hb2.mono hb1.size)⟩
set_option maxRecDepth 100000 in
set_option maxHeartbeats 8000000 in
theorem rpart_nodes (a b : List Lk) (n m : Nat) (A B : Option Addr) (c d : Nat) (w : World) (hn : a.length = n) (hm : b.length = m) (hnm : n ≤ 1000) (hmm : m ≤ 1000) (hc : n ≤ c) (hd : m ≤ d) (hA : LsAt w A a) (hB : LsAt w B b) (hpa : ∀ x ∈ a, LkOk x) (hpb : ∀ x ∈ b, LkOk x) (oa : OkL a) (ob : OkL b) (b1 o1 b2 o2 : Nat) (xn yn : Int) (hA1 : A = some ⟨b1, o1, none⟩) (hB1 : B = some ⟨b2, o2, none⟩) (hN : 0 < n) (hM : 0 < m) (hc1 : Hid (∀ V, Below w.heap.size w V → V.cell? ⟨b1, o1, none⟩ = some (.int .i64 xn))) (hc2 : Hid (∀ V, Below w.heap.size w V → V.cell? ⟨b2, o2, none⟩ = some (.int .i64 yn))) (hne : xn ≠ yn) (P : (partC a b) = (0, false, 80)) :
    Calls Tryd.prog 18 #[.slice A n c, .slice B m d] w fun e w' => e = .returned (.tuple #[.int .i64 ((partC a b).1 : Int), .bool (partC a b).2.1, .int .i64 (partC a b).2.2]) ∧ Below w.heap.size w w' := by
  have h1 : Hid (Calls Tryd.prog 42 #[.slice A n c] w fun e w' => e = .returned (.int .i64 (ckC a)) ∧ Below w.heap.size w w') := Lib.hid (rcheck8_any a n A c w hn hnm hc hA hpa)
  have h2 : Hid (∀ V, Below w.heap.size w V → Calls Tryd.prog 42 #[.slice B m d] V fun e w' => e = .returned (.int .i64 (ckC b)) ∧ Below V.heap.size V w') := Lib.hid fun V h => rcheck8_any b m B d V hm hmm hd (hB.below h) hpb
  subst hA1 hB1
  rw [ckC_ok oa] at h1
  rw [ckC_ok ob] at h2
  rw [P]
  have e1 : (xn != yn) = true := by simpa using hne
  clear hA hB hpa hpb hn hm P hne
  go_enter Tryd.func18, Tryd.ntmps18
  go_wp2_with (first
    | (go_at_call 42; (with_reducible refine h1.out.mono ?_); rintro e w1 ⟨rfl, hb1⟩)
    | (go_at_call 42; (with_reducible refine (h2.out _ hb1).mono ?_); rintro e w2 ⟨rfl, hb2⟩))
  have HB := hb1.trans (hb2.mono hb1.size)
  have c1 := hc1.out _ HB
  have c2 := hc2.out _ HB
  go_quiet (fail)
  have HB2 := below_drewN HB nq
  go_wp2
  refine bodyPost_ret (v := .tuple #[.int .i64 0, .bool false, .int .i64 80]) (by simp [results, Tryd.results18, go_sem]) rfl ⟨rfl, HB2⟩
set_option maxRecDepth 100000 in
set_option maxHeartbeats 8000000 in
theorem rpart_n0 (a b : List Lk) (n m : Nat) (A B : Option Addr) (c d : Nat) (w : World) (hn : a.length = n) (hm : b.length = m) (hnm : n ≤ 1000) (hmm : m ≤ 1000) (hc : n ≤ c) (hd : m ≤ d) (hA : LsAt w A a) (hB : LsAt w B b) (hpa : ∀ x ∈ a, LkOk x) (hpb : ∀ x ∈ b, LkOk x) (oa : OkL a) (ob : OkL b) (h0 : n = 0) (P : partC a b = ((diffC a b).getD 0, (diffC a b).isSome, 0)) :
    Calls Tryd.prog 18 #[.slice A n c, .slice B m d] w fun e w' => e = .returned (.tuple #[.int .i64 ((partC a b).1 : Int), .bool (partC a b).2.1, .int .i64 (partC a b).2.2]) ∧ Below w.heap.size w w' := by
  have h1 : Hid (Calls Tryd.prog 42 #[.slice A n c] w fun e w' => e = .returned (.int .i64 (ckC a)) ∧ Below w.heap.size w w') := Lib.hid (rcheck8_any a n A c w hn hnm hc hA hpa)
  have h2 : Hid (∀ V, Below w.heap.size w V → Calls Tryd.prog 42 #[.slice B m d] V fun e w' => e = .returned (.int .i64 (ckC b)) ∧ Below V.heap.size V w') := Lib.hid fun V h => rcheck8_any b m B d V hm hmm hd (hB.below h) hpb
  subst h0
  have hdn : Hid (diffC a b = none) := Lib.hid (by rw [List.length_eq_zero_iff.1 hn]; cases b <;> rfl)
  rw [ckC_ok oa] at h1
  rw [ckC_ok ob] at h2
  have hnH := Lib.hid hn
  have hmH := Lib.hid hm
  have hAH := Lib.hid hA
  have hBH := Lib.hid hB
  have hpaH := Lib.hid hpa
  have hpbH := Lib.hid hpb
  replace P := Lib.hid P
  clear hA hB hpa hpb hn hm
  go_enter Tryd.func18, Tryd.ntmps18
  go_wp2_with (first
    | (go_at_call 42; (with_reducible refine h1.out.mono ?_); rintro e w1 ⟨rfl, hb1⟩)
    | (go_at_call 42; (with_reducible refine (h2.out _ hb1).mono ?_); rintro e w2 ⟨rfl, hb2⟩))
  have HB := hb1.trans (hb2.mono hb1.size)
  go_quiet (fail)
  have HB2 := below_drewN HB nq
  generalize w2.drewN nq = w5 at HB2 ⊢
  go_wp2
  have hbB := Lib.hid HB2
  clear HB2
  go_loopw [9] (fun s wr => s = .int .i64 0 ∧ Hid (Below w.heap.size w wr)) (fun s _ => 0)
  case atStart => exact ⟨rfl, hbB⟩
  case round =>
    obtain ⟨rfl, hbw⟩ := hrel
    have HBe := hbw.out
    go_wp2
    refine bodyPost_ret (v := .tuple #[.int .i64 0, .bool false, .int .i64 0]) (by simp [results, Tryd.results18, go_sem]) rfl ⟨by rw [P.out, hdn.out]; rfl, HBe⟩
set_option maxRecDepth 100000 in
set_option maxHeartbeats 8000000 in
theorem rpart_m0 (a b : List Lk) (n m : Nat) (A B : Option Addr) (c d : Nat) (w : World) (hn : a.length = n) (hm : b.length = m) (hnm : n ≤ 1000) (hmm : m ≤ 1000) (hc : n ≤ c) (hd : m ≤ d) (hA : LsAt w A a) (hB : LsAt w B b) (hpa : ∀ x ∈ a, LkOk x) (hpb : ∀ x ∈ b, LkOk x) (oa : OkL a) (ob : OkL b) (hN : 0 < n) (h0 : m = 0) (P : partC a b = ((diffC a b).getD 0, (diffC a b).isSome, 0)) :
    Calls Tryd.prog 18 #[.slice A n c, .slice B m d] w fun e w' => e = .returned (.tuple #[.int .i64 ((partC a b).1 : Int), .bool (partC a b).2.1, .int .i64 (partC a b).2.2]) ∧ Below w.heap.size w w' := by
  have h1 : Hid (Calls Tryd.prog 42 #[.slice A n c] w fun e w' => e = .returned (.int .i64 (ckC a)) ∧ Below w.heap.size w w') := Lib.hid (rcheck8_any a n A c w hn hnm hc hA hpa)
  have h2 : Hid (∀ V, Below w.heap.size w V → Calls Tryd.prog 42 #[.slice B m d] V fun e w' => e = .returned (.int .i64 (ckC b)) ∧ Below V.heap.size V w') := Lib.hid fun V h => rcheck8_any b m B d V hm hmm hd (hB.below h) hpb
  subst h0
  have hdn : Hid (diffC a b = none) := Lib.hid (by rw [List.length_eq_zero_iff.1 hm]; cases a <;> rfl)
  rw [ckC_ok oa] at h1
  rw [ckC_ok ob] at h2
  have hnH := Lib.hid hn
  have hmH := Lib.hid hm
  have hAH := Lib.hid hA
  have hBH := Lib.hid hB
  have hpaH := Lib.hid hpa
  have hpbH := Lib.hid hpb
  replace P := Lib.hid P
  clear hA hB hpa hpb hn hm
  go_enter Tryd.func18, Tryd.ntmps18
  go_wp2_with (first
    | (go_at_call 42; (with_reducible refine h1.out.mono ?_); rintro e w1 ⟨rfl, hb1⟩)
    | (go_at_call 42; (with_reducible refine (h2.out _ hb1).mono ?_); rintro e w2 ⟨rfl, hb2⟩))
  have HB := hb1.trans (hb2.mono hb1.size)
  go_quiet (fail)
  have HB2 := below_drewN HB nq
  generalize w2.drewN nq = w5 at HB2 ⊢
  go_wp2
  have hbB := Lib.hid HB2
  clear HB2
  go_loopw [9] (fun s wr => s = .int .i64 0 ∧ Hid (Below w.heap.size w wr)) (fun s _ => 0)
  case atStart => exact ⟨rfl, hbB⟩
  case round =>
    obtain ⟨rfl, hbw⟩ := hrel
    have HBe := hbw.out
    go_wp2
    refine bodyPost_ret (v := .tuple #[.int .i64 0, .bool false, .int .i64 0]) (by simp [results, Tryd.results18, go_sem]) rfl ⟨by rw [P.out, hdn.out]; rfl, HBe⟩
set_option maxRecDepth 100000 in
set_option maxHeartbeats 8000000 in
theorem rpart_nm (a b : List Lk) (n m : Nat) (A B : Option Addr) (c d : Nat) (w : World) (hn : a.length = n) (hm : b.length = m) (hnm : n ≤ 1000) (hmm : m ≤ 1000) (hc : n ≤ c) (hd : m ≤ d) (hA : LsAt w A a) (hB : LsAt w B b) (hpa : ∀ x ∈ a, LkOk x) (hpb : ∀ x ∈ b, LkOk x) (oa : OkL a) (ob : OkL b) (b1 o1 b2 o2 : Nat) (xn : Int) (hA1 : A = some ⟨b1, o1, none⟩) (hB1 : B = some ⟨b2, o2, none⟩) (hN : 0 < n) (hM : 0 < m) (hc1 : Hid (∀ V, Below w.heap.size w V → V.cell? ⟨b1, o1, none⟩ = some (.int .i64 xn))) (hc2 : Hid (∀ V, Below w.heap.size w V → V.cell? ⟨b2, o2, none⟩ = some (.int .i64 xn))) (P : partC a b = ((diffC a b).getD 0, (diffC a b).isSome, 0)) :
    Calls Tryd.prog 18 #[.slice A n c, .slice B m d] w fun e w' => e = .returned (.tuple #[.int .i64 ((partC a b).1 : Int), .bool (partC a b).2.1, .int .i64 (partC a b).2.2]) ∧ Below w.heap.size w w' := by
  have h1 : Hid (Calls Tryd.prog 42 #[.slice A n c] w fun e w' => e = .returned (.int .i64 (ckC a)) ∧ Below w.heap.size w w') := Lib.hid (rcheck8_any a n A c w hn hnm hc hA hpa)
  have h2 : Hid (∀ V, Below w.heap.size w V → Calls Tryd.prog 42 #[.slice B m d] V fun e w' => e = .returned (.int .i64 (ckC b)) ∧ Below V.heap.size V w') := Lib.hid fun V h => rcheck8_any b m B d V hm hmm hd (hB.below h) hpb
  subst hA1 hB1
  have e1 : (xn != xn) = false := by simp
  rw [ckC_ok oa] at h1
  rw [ckC_ok ob] at h2
  have hnH := Lib.hid hn
  have hmH := Lib.hid hm
  have hAH := Lib.hid hA
  have hBH := Lib.hid hB
  have hpaH := Lib.hid hpa
  have hpbH := Lib.hid hpb
  replace P := Lib.hid P
  clear hA hB hpa hpb hn hm
  go_enter Tryd.func18, Tryd.ntmps18
  go_wp2_with (first
    | (go_at_call 42; (with_reducible refine h1.out.mono ?_); rintro e w1 ⟨rfl, hb1⟩)
    | (go_at_call 42; (with_reducible refine (h2.out _ hb1).mono ?_); rintro e w2 ⟨rfl, hb2⟩))
  have HB := hb1.trans (hb2.mono hb1.size)
  have c1 := hc1.out _ HB
  have c2 := hc2.out _ HB
  go_quiet (fail)
  have HB2 := below_drewN HB nq
  generalize w2.drewN nq = w5 at HB2 ⊢
  go_wp2
  have hbB := Lib.hid HB2
  clear HB2
  go_loopw [9] (fun s wr => ∃ i : Nat, i ≤ 1000 ∧ s = .int .i64 i ∧ Hid (∀ j u v, j < i → a[j]? = some u → b[j]? = some v → u = v) ∧ Hid (Below w.heap.size w wr)) (fun s _ => n - (intOf s).toNat)
  case atStart => exact ⟨0, Nat.zero_le _, rfl, Lib.hid (fun j u v hj => by omega), hbB⟩
  case round =>
    obtain ⟨i, hi9, rfl, ha, hbw⟩ := hrel
    by_cases hlt : i < n
    · by_cases hlm : i < m
      · obtain ⟨x, hx⟩ : ∃ x, a[i]? = some x := ⟨_, List.getElem?_eq_getElem (by rw [hnH.out]; omega)⟩
        obtain ⟨y, hy⟩ : ∃ y, b[i]? = some y := ⟨_, List.getElem?_eq_getElem (by rw [hmH.out]; omega)⟩
        have px := (hpaH.out x (List.mem_of_getElem? hx)).p32
        have py := (hpbH.out y (List.mem_of_getElem? hy)).p32
        obtain ⟨e1, f1, e2, f2, A1, c1, A2, c2, hAe, hBe, hV⟩ := two_at hAH.out hBH.out hbw.out hx hy
        cases hAe
        cases hBe
        have hu := Lib.hid Tryd.underlying37
        have i1 := Lib.hid (lk_info' px (.slice A1 x.data.length c1))
        have i2 := Lib.hid (lk_info' py (.slice A2 y.data.length c2))
        have s1 : Hid (∀ V, (∃ p : Regrown, V = Go.Sort.grow (redrawn wr p.d) p.os) → V.rangeAt b1 (o1 + i * 35) (lkC x (.slice A1 x.data.length c1))) := Lib.hid (by rintro V ⟨r, rfl⟩; exact (hV _ (below_regrown wr _ _)).1)
        have s2 : Hid (∀ V, (∃ p : Regrown, V = Go.Sort.grow (redrawn wr p.d) p.os) → V.rangeAt b2 (o2 + i * 35) (lkC y (.slice A2 y.data.length c2))) := Lib.hid (by rintro V ⟨r, rfl⟩; exact (hV _ (below_regrown wr _ _)).2.1)
        have cC : ∀ dq os, Calls Tryd.prog 23 #[.agg (lkC x (.slice A1 x.data.length c1)).toArray, .agg (lkC y (.slice A2 y.data.length c2)).toArray] (Go.Sort.grow (redrawn wr dq) os) fun e w'' => e = .returned (.bool (decide (x = y))) ∧ ∃ p : Regrown, w'' = Go.Sort.grow (redrawn wr p.d) p.os := fun dq os => Calls.regrown_of (samelink_any x y A1 A2 _ _ c1 c2 _ px py rfl rfl (hV _ (below_regrown wr dq os)).2.2.1 (hV _ (below_regrown wr dq os)).2.2.2)
        have hres : Hid ((x = y → ∀ j u v, j < i + 1 → a[j]? = some u → b[j]? = some v → u = v) ∧ (x ≠ y → diffC a b = some i)) := Lib.hid ⟨fun e j u v hj hu hv => by
          by_cases e2 : j = i
          · subst e2; rw [hx] at hu; rw [hy] at hv; cases hu; cases hv; exact e
          · exact ha.out j u v (by omega) hu hv, fun e => diffC_some a b i x y ha.out hx hy e⟩
        obtain ⟨q, hq⟩ : ∃ q, decide (x = y) = q := ⟨_, rfl⟩
        rw [hq] at cC
        have hbe := Lib.hid (fun dq os => hbw.out.trans ((below_regrown wr dq os).mono hbw.out.size))
        clear hV ha px py hx hy
        go_wp2_with fail
        refine wp_region_quiet_below (by kernel_rfl) (by kernel_rfl) ?_
        repeat (first
          | (go_big_quiet_want; refine quiet_load_mid 37 (.tmp 53) (by rfl) b1 (o1 + i * 35) (by rfl) (lkC x (.slice A1 x.data.length c1)) _ s1.out hu.out (by rfl) i1.out ?_; simp only [Act.put, List.setIfInBounds_toArray, List.set_cons_zero, List.set_cons_succ]; go_big_quiet_on)
          | (go_big_quiet_want; refine quiet_load_mid 37 (.tmp 57) (by rfl) b2 (o2 + i * 35) (by rfl) (lkC y (.slice A2 y.data.length c2)) _ s2.out hu.out (by rfl) i2.out ?_; simp only [Act.put, List.setIfInBounds_toArray, List.set_cons_zero, List.set_cons_succ]; go_big_quiet_on)
          | go_big_quiet_step (with_reducible exact cC _ _))
        refine wpQuiet_nil ?_
        intro _ hw2
        obtain ⟨⟨dq, osq⟩, rfl⟩ := hw2
        have HBe := hbe.out dq osq
        clear cC s1 s2
        cases q
        · have hr := Lib.hid (hres.out.2 (by simpa using hq))
          go_wp2
          refine bodyPost_ret (v := .tuple #[.int .i64 (i : Int), .bool true, .int .i64 0]) (by simp [results, Tryd.results18, go_sem]) rfl ⟨by rw [P.out, hr.out]; rfl, HBe⟩
        · have hr := Lib.hid (hres.out.1 (by simpa using hq))
          replace HBe := Lib.hid HBe
          go_wp2
          go_roundw
          case rel => exact ⟨i + 1, by omega, by go_num, hr, HBe⟩
          case measure => simp [intOf]; omega
      · have e := Lib.hid (diffC_none a b fun j u v hu hv => ha.out j u v (by
          have h2 := (List.getElem?_eq_some_iff.1 hv).1
          rw [hmH.out] at h2
          omega) hu hv)
        have HBe := hbw.out
        go_wp2
        refine bodyPost_ret (v := .tuple #[.int .i64 0, .bool false, .int .i64 0]) (by simp [results, Tryd.results18, go_sem]) rfl ⟨by rw [P.out, e.out]; rfl, HBe⟩
    · have e := Lib.hid (diffC_none a b fun j u v hu hv => ha.out j u v (by
        have h1 := (List.getElem?_eq_some_iff.1 hu).1
        rw [hnH.out] at h1
        omega) hu hv)
      have HBe := hbw.out
      go_wp2
      refine bodyPost_ret (v := .tuple #[.int .i64 0, .bool false, .int .i64 0]) (by simp [results, Tryd.results18, go_sem]) rfl ⟨by rw [P.out, e.out]; rfl, HBe⟩

theorem rpart_any (a b : List Lk) (n m : Nat) (A B : Option Addr) (c d : Nat) (w : World) (hn : a.length = n) (hm : b.length = m) (hnm : n ≤ 1000) (hmm : m ≤ 1000) (hc : n ≤ c) (hd : m ≤ d) (hA : LsAt w A a) (hB : LsAt w B b) (hpa : ∀ x ∈ a, LkOk x) (hpb : ∀ x ∈ b, LkOk x) :
    Calls Tryd.prog 18 #[.slice A n c, .slice B m d] w fun e w' => e = .returned (.tuple #[.int .i64 ((partC a b).1 : Int), .bool (partC a b).2.1, .int .i64 (partC a b).2.2]) ∧ Below w.heap.size w w' := by
  by_cases oa : OkL a
  · by_cases ob : OkL b
    · by_cases hno : ∃ x y, a[0]? = some x ∧ b[0]? = some y ∧ x.node ≠ y.node
      · have P : partC a b = (0, false, 80) := by
          unfold partC
          rw [if_neg (by simpa using oa), if_neg (by simpa using ob), if_pos hno]
        obtain ⟨x, y, hx, hy, hne⟩ := hno
        obtain ⟨b1, o1, D1, hA1, q1, _⟩ := hA 0 x hx
        obtain ⟨b2, o2, D2, hB1, q2, _⟩ := hB 0 y hy
        exact rpart_nodes a b n m A B c d w hn hm hnm hmm hc hd hA hB hpa hpb oa ob b1 o1 b2 o2 x.node y.node hA1 hB1 (by have := (List.getElem?_eq_some_iff.1 hx).1; omega) (by have := (List.getElem?_eq_some_iff.1 hy).1; omega)
          (Lib.hid fun V h => by
            have := range_below q1 h 0 (.int .i64 x.node) (by simp [lkC])
            simpa using this)
          (Lib.hid fun V h => by
            have := range_below q2 h 0 (.int .i64 y.node) (by simp [lkC])
            simpa using this) hne P
      · have P : partC a b = ((diffC a b).getD 0, (diffC a b).isSome, 0) := by
          unfold partC
          rw [if_neg (by simpa using oa), if_neg (by simpa using ob), if_neg hno]
        by_cases n0 : n = 0
        · exact rpart_n0 a b n m A B c d w hn hm hnm hmm hc hd hA hB hpa hpb oa ob n0 P
        · by_cases m0 : m = 0
          · exact rpart_m0 a b n m A B c d w hn hm hnm hmm hc hd hA hB hpa hpb oa ob (by omega) m0 P
          · obtain ⟨x, hx⟩ : ∃ x, a[0]? = some x := ⟨_, List.getElem?_eq_getElem (by omega)⟩
            obtain ⟨y, hy⟩ : ∃ y, b[0]? = some y := ⟨_, List.getElem?_eq_getElem (by omega)⟩
            have hxy : x.node = y.node := Classical.byContradiction fun c => hno ⟨x, y, hx, hy, c⟩
            obtain ⟨b1, o1, D1, hA1, q1, _⟩ := hA 0 x hx
            obtain ⟨b2, o2, D2, hB1, q2, _⟩ := hB 0 y hy
            exact rpart_nm a b n m A B c d w hn hm hnm hmm hc hd hA hB hpa hpb oa ob b1 o1 b2 o2 x.node hA1 hB1 (by omega) (by omega)
              (Lib.hid fun V h => by
                have := range_below q1 h 0 (.int .i64 x.node) (by simp [lkC])
                simpa using this)
              (Lib.hid fun V h => by
                have := range_below q2 h 0 (.int .i64 y.node) (by simp [lkC])
                rw [hxy]
                simpa using this) P
    · exact rpart_kb a b n m A B c d w hn hm hnm hmm hc hd hA hB hpa hpb oa ob (by
        unfold partC
        rw [if_neg (by simpa using oa), if_pos ob])
  · exact rpart_ka a b n m A B c d w hn hm hnm hmm hc hd hA hB hpa hpb oa (by
      unfold partC
      rw [if_pos oa])
end Go.Proofs.YthokpfegfnpmhaaDoor
