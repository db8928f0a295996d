/- The walk of calendar.Digest. -/
import Derived.Test.YthokpfegfnpmhaaDoorCalF
import Derived.Test.YthokpfegfnpmhaaDoorMoreA
import Derived.Deep.RegionHeld3
import Derived.Laws.Cover1
namespace Go.Proofs.YthokpfegfnpmhaaDoor
open Go.RowKit Cdc Sha
set_option linter.unusedVariables false
set_option linter.unusedSimpArgs false

/-- a variable of an array, and one more, are what a function answers -/
theorem results_row_tmp {P : Program} {fn : Func} {p q : Tmp} {ty : TypeId} (h : fn.results = #[.cell p ty, .tmp q]) (tmps : Array Value) (w : World) (g : Nat) (t : TypeId) (cs : Array Value) (fr : Nat × Nat) (d : TypeDesc) (u : Value)
    (hp : tmps.getD p undef = .pointer (some ⟨g, 0, none⟩)) (hq : tmps.getD q undef = u) (hg : w.heap[g]? = some (.cells cs t fr))
    (hu : P.underlying ty = some d) (hd : (match d with | .struct _ | .array _ _ => true | _ => false) = true) (hi : (P.info? ty).map (·.size) = some cs.size) :
    (results fn tmps).run P w = .ok (.tuple #[.agg cs, u]) w := by
  have hp' : tmps[p]?.getD undef = .pointer (some ⟨g, 0, none⟩) := by simpa using hp
  have hq' : tmps[q]?.getD undef = u := by simpa using hq
  simp [results, h, hp', hq', asAddr, run_loadVar_row w g t ty cs fr d hg hu hd hi]

theorem take_snocA {α : Type} {l : List α} {k : Nat} {y : α} (h : l[k]? = some y) : l.take (k + 1) = l.take k ++ [y] := by
  rw [List.take_add_one, h]
  rfl
/-- a list of two that lies in one row -/
theorem rs_two (W : World) (k : Nat) (hk : k = W.heap.size) (y0 y1 : V) (v0 v1 : Value) (d : Nat) (W2 : World) (hB : Below (W.alloc (.cells #[.int .i64 y0.k, .int .i64 y0.n, .string y0.s, v0, .int .i64 y1.k, .int .i64 y1.n, .string y1.s, v1] 80)).heap.size (W.alloc (.cells #[.int .i64 y0.k, .int .i64 y0.n, .string y0.s, v0, .int .i64 y1.k, .int .i64 y1.n, .string y1.s, v1] 80)) W2)
    (h0 : RS W2 d y0.l v0) (h1 : RS W2 d y1.l v1) : RS W2 (d + 1) [y0, y1] (.slice (some ⟨k, 0, none⟩) 2 2) := by
  subst hk
  have hr := (hB.block W.heap.size (by simp)).trans (heap_alloc_new W _)
  have hcell := fun j => cell_of_row W2 W.heap.size j _ _ _ hr
  refine ⟨_, 2, rfl, Nat.le_refl _, fun i y hy => ?_⟩
  match i, hy with
  | 0, hy =>
    obtain rfl : y0 = y := by simpa using hy
    exact ⟨W.heap.size, 0, v0, rfl, (Array.getElem?_eq_some_iff.1 hr).1, by rw [hcell]; rfl, by rw [hcell]; rfl, by rw [hcell]; rfl, by rw [hcell]; rfl, h0⟩
  | 1, hy =>
    obtain rfl : y1 = y := by simpa using hy
    exact ⟨W.heap.size, 0, v1, rfl, (Array.getElem?_eq_some_iff.1 hr).1, by rw [hcell]; rfl, by rw [hcell]; rfl, by rw [hcell]; rfl, by rw [hcell]; rfl, h1⟩
  | i + 2, hy => simp at hy

/-- what Encode gives of a value in order -/
def EncC (bs : List UInt8) (W : World) (e : Ending) (w' : World) : Prop :=
  ∃ A m c, e = .returned (.tuple #[.slice A m c, .int .i64 0]) ∧ bs.length = m ∧ m ≤ c ∧ c ≤ 9223372036854775807 ∧ AtO w' A bs ∧ Below W.heap.size W w'
theorem encode_fit (d : Nat) (x : V) (v : Value) (w : World) (hv : RS w d x.l v) (hs : Sm x) (hd : dp x ≤ 1000000000000) (hlen : (enc x).length ≤ 1000000000) (hck : ckE x = 0) :
    Calls Tryd.prog 46 #[vv x v] w (EncC (enc x) w) := by
  refine (encode_any d x v w hv hs hd hlen).mono ?_
  unfold EncPost
  rw [hck, show encB x = enc x by unfold encB; rw [if_pos hck]]
  rintro e w' ⟨v', rfl, ho, hh, hB⟩
  obtain ⟨A, c, rfl⟩ := ho.form
  have hc := ho.cap
  exact ⟨A, _, c, rfl, rfl, hc.1, hc.2, ho.atO, hB⟩

set_option maxRecDepth 100000 in
set_option maxHeartbeats 1000000 in
theorem calnum_any (n : Int) (w : World) :
    Calls Tryd.prog 78 #[.int .i64 n] w fun e w' => e = .returned (.agg #[.int .i64 1, .int .i64 n, .string ⟨#[]⟩, .slice none 0 0]) ∧ Below w.heap.size w w' := by
  go_enter Tryd.func78, Tryd.ntmps78
  go_wp2
  refine bodyPost_ret (v := .agg #[.int .i64 1, .int .i64 n, .string ⟨#[]⟩, .slice none 0 0]) ?_ rfl ⟨rfl, ?_⟩
  · simp [results, Tryd.results78, go_sem]
  · exact (Below.refl _ _).alloc (Nat.le_refl _) _
set_option maxRecDepth 100000 in
set_option maxHeartbeats 1000000 in
theorem callist_any (A : Option Addr) (n c : Nat) (w : World) :
    Calls Tryd.prog 77 #[.slice A n c] w fun e w' => e = .returned (.agg #[.int .i64 3, .int .i64 0, .string ⟨#[]⟩, .slice A n c]) ∧ Below w.heap.size w w' := by
  go_enter Tryd.func77, Tryd.ntmps77
  go_wp2
  refine bodyPost_ret (v := .agg #[.int .i64 3, .int .i64 0, .string ⟨#[]⟩, .slice A n c]) ?_ rfl ⟨rfl, ?_⟩
  · simp [results, Tryd.results77, go_sem]
  · exact (Below.refl _ _).alloc (Nat.le_refl _) _

set_option maxRecDepth 100000 in
set_option maxHeartbeats 2000000 in
theorem cdig_bad (c : Cal) (n cp : Nat) (A : Option Addr) (w : World) (h : c.no < 0 ∨ 1048576 < c.no ∨ 1024 < n) :
    Calls Tryd.prog 54 #[.agg #[.int .i64 c.no, .slice A n cp]] w fun e w' => e = .returned (.tuple #[.agg (dg zero32), .int .i64 350]) ∧ Below w.heap.size w w' := by
  have hiZ := Lib.hid (dg_info zero32 zero32_len)
  have hoZ := Lib.hid (dg_one zero32)
  have hsZ : Hid ((dg zero32).size = (dg zero32).size) := Lib.hid rfl
  have hB : Below w.heap.size w ((w.alloc (.cells #[.int .i64 c.no, .slice A n cp] 45)).alloc (.cells (dg zero32) 35)) := ((Below.refl _ _).alloc (Nat.le_refl _) _).alloc (by simp) _
  have hdZ := Lib.hid (heap_alloc2_new w (.cells #[.int .i64 c.no, .slice A n cp] 45) (.cells (dg zero32) 35))
  by_cases h1 : c.no < 0
  · go_enter Tryd.func54, Tryd.ntmps54
    go_wp2_with (first
      | refine wpList_load_row (by rfl) 35 (.tmp 2) (by rfl) (w.heap.size + 1) (by rfl) 35 (dg zero32) (0, 0) _ hdZ.out Tryd.underlying35 (by rfl) hiZ.out ?_
      | (refine wpList_set_row (by rfl) 35 (.tmp 2) (.tmp 22) (by rfl) (by rfl) (w.heap.size + 1) (dg zero32) (by rfl) (by rfl) 35 _ hdZ.out hiZ.out hsZ.out hoZ.out ?_; intro w6 hd6 hz6 hg6; replace hd6 := Lib.hid hd6))
    refine bodyPost_ret (v := .tuple #[.agg (dg zero32), .int .i64 350]) (results_row_tmp rfl _ _ (w.heap.size + 1) 35 (dg zero32) (0, 0) _ _ rfl rfl hd6.out Tryd.underlying35 (by rfl) hiZ.out) rfl ⟨rfl, hB.grown hg6 hB.size (fun k e => by have := Option.some.inj e; omega)⟩
  
  by_cases h2 : 1048576 < c.no
  · go_enter Tryd.func54, Tryd.ntmps54
    go_wp2_with (first
      | refine wpList_load_row (by rfl) 35 (.tmp 2) (by rfl) (w.heap.size + 1) (by rfl) 35 (dg zero32) (0, 0) _ hdZ.out Tryd.underlying35 (by rfl) hiZ.out ?_
      | (refine wpList_set_row (by rfl) 35 (.tmp 2) (.tmp 22) (by rfl) (by rfl) (w.heap.size + 1) (dg zero32) (by rfl) (by rfl) 35 _ hdZ.out hiZ.out hsZ.out hoZ.out ?_; intro w6 hd6 hz6 hg6; replace hd6 := Lib.hid hd6))
    refine bodyPost_ret (v := .tuple #[.agg (dg zero32), .int .i64 350]) (results_row_tmp rfl _ _ (w.heap.size + 1) 35 (dg zero32) (0, 0) _ _ rfl rfl hd6.out Tryd.underlying35 (by rfl) hiZ.out) rfl ⟨rfl, hB.grown hg6 hB.size (fun k e => by have := Option.some.inj e; omega)⟩
  
  have h3 : 1024 < n := by omega
  · go_enter Tryd.func54, Tryd.ntmps54
    go_wp2_with (first
      | refine wpList_load_row (by rfl) 35 (.tmp 2) (by rfl) (w.heap.size + 1) (by rfl) 35 (dg zero32) (0, 0) _ hdZ.out Tryd.underlying35 (by rfl) hiZ.out ?_
      | (refine wpList_set_row (by rfl) 35 (.tmp 2) (.tmp 22) (by rfl) (by rfl) (w.heap.size + 1) (dg zero32) (by rfl) (by rfl) 35 _ hdZ.out hiZ.out hsZ.out hoZ.out ?_; intro w6 hd6 hz6 hg6; replace hd6 := Lib.hid hd6))
    refine bodyPost_ret (v := .tuple #[.agg (dg zero32), .int .i64 350]) (results_row_tmp rfl _ _ (w.heap.size + 1) 35 (dg zero32) (0, 0) _ _ rfl rfl hd6.out Tryd.underlying35 (by rfl) hiZ.out) rfl ⟨rfl, hB.grown hg6 hB.size (fun k e => by have := Option.some.inj e; omega)⟩

set_option maxRecDepth 100000 in
set_option maxHeartbeats 8000000 in
theorem cdig_main (c : Cal) (n cp : Nat) (A : Option Addr) (w : World) (hn : Hid (c.fx.length = n)) (h1 : 0 ≤ c.no) (h2 : c.no ≤ 1048576) (h3 : n ≤ 1024) (hc : n ≤ cp) (hA : Hid (FxAt w A c.fx)) (hI : Hid (∀ f ∈ c.fx, FxI f)) (hL : Laid w) :
    Calls Tryd.prog 54 #[.agg #[.int .i64 c.no, .slice A n cp]] w fun e w' => e = .returned (.tuple #[.agg (dg (calD c)), .int .i64 (calE c)]) ∧ Below w.heap.size w w' := by
  have hiZ := Lib.hid (dg_info zero32 zero32_len)
  have hoZ := Lib.hid (dg_one zero32)
  have hsZ : Hid ((dg zero32).size = (dg zero32).size) := Lib.hid rfl
  have hbad : Hid ((∃ f ∈ c.fx, ¬ FxOk f) → calD c = zero32 ∧ calE c = 350) := Lib.hid fun ⟨f, hf, hno⟩ => by
    have : ¬ CalOk c := fun h => hno (h.2.2.2 f hf)
    exact ⟨if_neg this, if_neg this⟩
  have hgood : Hid ((∀ f ∈ c.fx, FxOk f) → calD c = tgd calB.data.toList (enc (calV c)) ∧ calE c = 0) := Lib.hid fun h => by
    have : CalOk c := ⟨h1, h2, by rw [hn.out]; exact h3, h⟩
    exact ⟨if_pos this, if_pos this⟩
  have hlen : Hid ((calD c).length = 32) := Lib.hid (calD_len c)
  have hsm : Hid (Sm (calV c) ∧ (enc (calV c)).length ≤ 300000) := Lib.hid (cal_sm ⟨by omega, by omega⟩ (by rw [hn.out]; omega) hI.out)
  obtain ⟨R, hR⟩ : ∃ R, calD c = R := ⟨_, rfl⟩
  obtain ⟨E, hE⟩ : ∃ E, calE c = E := ⟨_, rfl⟩
  rw [hR, hE] at hbad hgood ⊢
  rw [hR] at hlen
  have hiR := Lib.hid (dg_info R hlen.out)
  have hoR := Lib.hid (dg_one R)
  have hsR : Hid ((dg zero32).size = (dg R).size) := Lib.hid (by rw [dg_size, dg_size, hlen.out, zero32_len])
  clear hR hE
  go_enter Tryd.func54, Tryd.ntmps54
  go_wp2_with fail
  refine (callist_any _ _ _ _).mono ?_
  rintro e w1 ⟨rfl, hb1⟩
  have hb0 : Below ((w.alloc (.cells #[.int .i64 c.no, .slice A n cp] 45)).alloc (.cells (dg zero32) 35)).heap.size ((w.alloc (.cells #[.int .i64 c.no, .slice A n cp] 45)).alloc (.cells (dg zero32) 35)) w1 := hb1
  have hB0 : Below w.heap.size w ((w.alloc (.cells #[.int .i64 c.no, .slice A n cp] 45)).alloc (.cells (dg zero32) 35)) := ((Below.refl _ _).alloc (Nat.le_refl _) _).alloc (by simp) _
  have hB1 := Lib.hid (hB0.trans (hb0.mono hB0.size))
  have hbox := (hb0.block w.heap.size (by simp; omega)).trans (heap_alloc2_old w (.cells #[.int .i64 c.no, .slice A n cp] 45) (.cells (dg zero32) 35))
  have hdZ := Lib.hid ((hb0.block (w.heap.size + 1) (by simp)).trans (heap_alloc2_new w (.cells #[.int .i64 c.no, .slice A n cp] 45) (.cells (dg zero32) 35)))
  have hlt1 : w.heap.size + 1 < w1.heap.size := (Array.getElem?_eq_some_iff.1 hdZ.out).1
  have hlt0 : w.heap.size < w1.heap.size := by omega
  have hq0 : w1.cell? ⟨w.heap.size, 0, none⟩ = some (.int .i64 c.no) := by rw [cell_of_row _ _ _ _ _ _ hbox]; rfl
  have hq1 : w1.cell? ⟨w.heap.size, 1, none⟩ = some (.slice A n cp) := by rw [cell_of_row _ _ _ _ _ _ hbox]; rfl
  clear hb1 hb0 hB0 hbox
  go_wp2_with fail
  have hv0 := Lib.hid (heap_alloc_new w1 (.cells #[.int .i64 3, .int .i64 0, .string ⟨#[]⟩, .slice none 0 0] 80))
  have hBv : Below w1.heap.size w1 (w1.alloc (.cells #[.int .i64 3, .int .i64 0, .string ⟨#[]⟩, .slice none 0 0] 80)) := (Below.refl _ _).alloc (Nat.le_refl _) _
  go_loopw [27] (fun s27 wr => ∃ (k : Nat) (ps : List (V × Value)) (row : Value), k ≤ n ∧ s27 = .int .i64 (k : Int) ∧ Hid (ps.map (·.1) = (c.fx.take k).map fxV) ∧ wr.heap[w1.heap.size]? = some (.cells #[.int .i64 3, .int .i64 0, .string ⟨#[]⟩, row] 80 (0, 0)) ∧ RowV wr w1.heap.size 1 row ps ∧ Below w1.heap.size w1 wr ∧ Hid (∀ f ∈ c.fx.take k, FxOk f)) (fun s27 _ => n - (intOf s27).toNat)
  case atStart => exact ⟨0, [], _, Nat.zero_le _, rfl, Lib.hid (by simp), hv0.out, RowV.nil _ _ _, hBv, Lib.hid (fun f hf => by simp at hf)⟩
  case round =>
    clear hv0 hBv
    obtain ⟨k, ps, row, hk, rfl, hps, hv, hrow, hB, hoks⟩ := hrel
    have hvlt := (Array.getElem?_eq_some_iff.1 hv).1
    have hpl : Hid (ps.length = k) := Lib.hid (by
      have := congrArg List.length hps.out
      simp [hn.out] at this
      omega)
    have hw0 := hB1.out.trans (hB.mono hB1.out.size)
    have p0 : wr.cell? ⟨w.heap.size, 0, none⟩ = some (.int .i64 c.no) := (hB.cell (p := ⟨w.heap.size, 0, none⟩) hlt0).trans hq0
    have hdr := Lib.hid ((hB.block (w.heap.size + 1) hlt1).trans hdZ.out)
    by_cases hkn : k < n
    · obtain ⟨f, hf⟩ : ∃ f, c.fx[k]? = some f := ⟨_, List.getElem?_eq_getElem (by rw [hn.out]; exact hkn)⟩
      have hfm := List.mem_of_getElem? hf
      obtain ⟨b, ob, rfl, hblt, g0, g1, g2⟩ := hA.out.below hw0 k f hf
      by_cases hok : FxOk f
      · obtain ⟨k1, k2, k3, k4, k5, k6⟩ := hok
        obtain ⟨mn, hmn⟩ : ∃ mn, (if f.s < (if f.g < f.d then f.g else f.d) then f.s else (if f.g < f.d then f.g else f.d)) = mn := ⟨_, rfl⟩
        have m1 : ¬ mn < -1 := by rw [← hmn]; split <;> split <;> omega
        have hmin3 := fun (ts : Array TypeId) (t : TypeId) (W : World) => run_min_int3 (P := Tryd.prog) (w := W) ts t .i64 .i64 .i64 f.d f.g f.s
        rw [hmn] at hmin3
        clear hmn
        have m2 : ¬ 73048 < f.d := by omega
        have m3 : ¬ 63 < f.g := by omega
        have m4 : ¬ 15 < f.s := by omega
        have hok' : Hid (FxOk f) := Lib.hid ⟨k1, k2, k3, k4, k5, k6⟩
        have hv9 := Lib.hid hv
        clear k1 k2 k3 k4 k5 k6
        go_wp2_with fail
        have hrw := heap_alloc_new wr (.cells #[.int .i64 f.d, .int .i64 f.g, .int .i64 f.s] 90)
        have hWr : Hid (Below wr.heap.size wr (wr.alloc (.cells #[.int .i64 f.d, .int .i64 f.g, .int .i64 f.s] 90))) := Lib.hid ((Below.refl _ _).alloc (Nat.le_refl _) _)
        obtain ⟨W, hW⟩ : ∃ W, wr.alloc (.cells #[.int .i64 f.d, .int .i64 f.g, .int .i64 f.s] 90) = W := ⟨_, rfl⟩
        rw [hW] at hrw hWr ⊢
        clear hW
        have hrwlt := (Array.getElem?_eq_some_iff.1 hrw).1
        have hvW := (hWr.out.block w1.heap.size hvlt).trans hv
        have hS : Hid (∀ V, Below W.heap.size W V → V.cell? ⟨w1.heap.size, 3, none⟩ = some row ∧ V.cell? ⟨wr.heap.size, 0, none⟩ = some (.int .i64 f.d) ∧ V.cell? ⟨wr.heap.size, 1, none⟩ = some (.int .i64 f.g) ∧ V.cell? ⟨wr.heap.size, 2, none⟩ = some (.int .i64 f.s)) := Lib.hid fun V hV =>
          ⟨by rw [cell_of_row _ _ _ _ _ _ ((hV.block w1.heap.size (by omega)).trans hvW)]; rfl, by rw [cell_of_row _ _ _ _ _ _ ((hV.block wr.heap.size hrwlt).trans hrw)]; rfl, by rw [cell_of_row _ _ _ _ _ _ ((hV.block wr.heap.size hrwlt).trans hrw)]; rfl, by rw [cell_of_row _ _ _ _ _ _ ((hV.block wr.heap.size hrwlt).trans hrw)]; rfl⟩
        have HB : Below W.heap.size W W.drew := (Below.refl _ _).drew
        refine wp_region_T 15 (fun w' => w'.cell? ⟨w1.heap.size, 3, none⟩ = some row ∧ w'.cell? ⟨wr.heap.size, 0, none⟩ = some (.int .i64 f.d) ∧ w'.cell? ⟨wr.heap.size, 1, none⟩ = some (.int .i64 f.g) ∧ w'.cell? ⟨wr.heap.size, 2, none⟩ = some (.int .i64 f.s)) (by kernel_rfl) (by exact hS.out _ HB) (fun hHeld => ?_)
        refine wpAnyT_take (i := 0) (oi := { dst := some 55, op := Op.fieldAddr 80 (Operand.tmp 4) 3, type := 0, pos := "calendar.go:150", after := #[], guard := none }) (v := ?_) rfl (by kernel_rfl) (by kernel_rfl) (by kernel_rfl) (by kernel_rfl) (fun _ _ _ h => h) (Or.inl ⟨by rfl, ?hy0⟩) hHeld ?rest0
        case hy0 =>
          intro w hSw
          try dsimp only at hSw
          go_simp
          try with_reducible rfl
        try simp only [Act.put, List.setIfInBounds_toArray, List.set_cons_zero, List.set_cons_succ]
        refine wpAnyT_take (i := 1) (oi := { dst := some 56, op := Op.load 78 (Operand.tmp 55), type := 78, pos := "calendar.go:150", after := #[{ on := 0, ground := Ground.data }], guard := none }) (v := ?_) rfl (by kernel_rfl) (by kernel_rfl) (by kernel_rfl) (by kernel_rfl) (fun _ _ _ h => h) (Or.inl ⟨by rfl, ?hy1⟩) hHeld ?rest1
        case hy1 =>
          intro w hSw
          try dsimp only at hSw
          go_simp
          try with_reducible rfl
        try simp only [Act.put, List.setIfInBounds_toArray, List.set_cons_zero, List.set_cons_succ]
        refine wpAnyT_take (i := 2) (oi := { dst := some 57, op := Op.fieldAddr 90 (Operand.tmp 6) 0, type := 0, pos := "calendar.go:150", after := #[], guard := none }) (v := ?_) rfl (by kernel_rfl) (by kernel_rfl) (by kernel_rfl) (by kernel_rfl) (fun _ _ _ h => h) (Or.inl ⟨by rfl, ?hy2⟩) hHeld ?rest2
        case hy2 =>
          intro w hSw
          try dsimp only at hSw
          go_simp
          try with_reducible rfl
        try simp only [Act.put, List.setIfInBounds_toArray, List.set_cons_zero, List.set_cons_succ]
        refine wpAnyT_take (i := 3) (oi := { dst := some 58, op := Op.load 3 (Operand.tmp 57), type := 3, pos := "calendar.go:150", after := #[{ on := 2, ground := Ground.data }], guard := none }) (v := ?_) rfl (by kernel_rfl) (by kernel_rfl) (by kernel_rfl) (by kernel_rfl) (fun _ _ _ h => h) (Or.inl ⟨by rfl, ?hy3⟩) hHeld ?rest3
        case hy3 =>
          intro w hSw
          try dsimp only at hSw
          go_simp
          try with_reducible rfl
        try simp only [Act.put, List.setIfInBounds_toArray, List.set_cons_zero, List.set_cons_succ]
        refine wpAnyT_take (i := 5) (oi := { dst := some 60, op := Op.fieldAddr 90 (Operand.tmp 6) 1, type := 0, pos := "calendar.go:150", after := #[], guard := none }) (v := ?_) rfl (by kernel_rfl) (by kernel_rfl) (by kernel_rfl) (by kernel_rfl) (fun _ _ _ h => h) (Or.inl ⟨by rfl, ?hy5⟩) hHeld ?rest5
        case hy5 =>
          intro w hSw
          try dsimp only at hSw
          go_simp
          try with_reducible rfl
        try simp only [Act.put, List.setIfInBounds_toArray, List.set_cons_zero, List.set_cons_succ]
        refine wpAnyT_take (i := 6) (oi := { dst := some 61, op := Op.load 3 (Operand.tmp 60), type := 3, pos := "calendar.go:150", after := #[{ on := 5, ground := Ground.data }], guard := none }) (v := ?_) rfl (by kernel_rfl) (by kernel_rfl) (by kernel_rfl) (by kernel_rfl) (fun _ _ _ h => h) (Or.inl ⟨by rfl, ?hy6⟩) hHeld ?rest6
        case hy6 =>
          intro w hSw
          try dsimp only at hSw
          go_simp
          try with_reducible rfl
        try simp only [Act.put, List.setIfInBounds_toArray, List.set_cons_zero, List.set_cons_succ]
        refine wpAnyT_take (i := 8) (oi := { dst := some 63, op := Op.fieldAddr 90 (Operand.tmp 6) 2, type := 0, pos := "calendar.go:150", after := #[], guard := none }) (v := ?_) rfl (by kernel_rfl) (by kernel_rfl) (by kernel_rfl) (by kernel_rfl) (fun _ _ _ h => h) (Or.inl ⟨by rfl, ?hy8⟩) hHeld ?rest8
        case hy8 =>
          intro w hSw
          try dsimp only at hSw
          go_simp
          try with_reducible rfl
        try simp only [Act.put, List.setIfInBounds_toArray, List.set_cons_zero, List.set_cons_succ]
        refine wpAnyT_take (i := 9) (oi := { dst := some 64, op := Op.load 3 (Operand.tmp 63), type := 3, pos := "calendar.go:150", after := #[{ on := 8, ground := Ground.data }], guard := none }) (v := ?_) rfl (by kernel_rfl) (by kernel_rfl) (by kernel_rfl) (by kernel_rfl) (fun _ _ _ h => h) (Or.inl ⟨by rfl, ?hy9⟩) hHeld ?rest9
        case hy9 =>
          intro w hSw
          try dsimp only at hSw
          go_simp
          try with_reducible rfl
        try simp only [Act.put, List.setIfInBounds_toArray, List.set_cons_zero, List.set_cons_succ]
        refine wpAnyT_one (i := 4) (o := { dst := some 59, op := Op.call { callee := Callee.value (Operand.func 78), args := #[Operand.tmp 58], argTypes := #[3] }, type := 80, pos := "calendar.go:150", after := #[{ on := 3, ground := Ground.data }], guard := none }) (by kernel_rfl) rfl (fun K hK => ?_)
        go_simp
        go_at_call 78
        refine (calnum_any _ _).mono ?_
        rintro e wn1 ⟨rfl, hbn⟩
        replace HB := HB.trans (hbn.mono HB.size)
        clear hbn
        refine hK.out _ _ (by exact hS.out _ HB) (fun hHeld' => ?_)
        clear hK K hHeld
        have hHeld := hHeld'
        clear hHeld'
        try simp only [Act.put, List.setIfInBounds_toArray, List.set_cons_zero, List.set_cons_succ]
        refine wpAnyT_one (i := 7) (o := { dst := some 62, op := Op.call { callee := Callee.value (Operand.func 78), args := #[Operand.tmp 61], argTypes := #[3] }, type := 80, pos := "calendar.go:150", after := #[{ on := 6, ground := Ground.data }, { on := 4, ground := Ground.chain }], guard := none }) (by kernel_rfl) rfl (fun K hK => ?_)
        go_simp
        go_at_call 78
        refine (calnum_any _ _).mono ?_
        rintro e wn2 ⟨rfl, hbn⟩
        replace HB := HB.trans (hbn.mono HB.size)
        clear hbn
        refine hK.out _ _ (by exact hS.out _ HB) (fun hHeld' => ?_)
        clear hK K hHeld
        have hHeld := hHeld'
        clear hHeld'
        try simp only [Act.put, List.setIfInBounds_toArray, List.set_cons_zero, List.set_cons_succ]
        refine wpAnyT_one (i := 10) (o := { dst := some 65, op := Op.call { callee := Callee.value (Operand.func 78), args := #[Operand.tmp 64], argTypes := #[3] }, type := 80, pos := "calendar.go:150", after := #[{ on := 9, ground := Ground.data }, { on := 7, ground := Ground.chain }], guard := none }) (by kernel_rfl) rfl (fun K hK => ?_)
        go_simp
        go_at_call 78
        refine (calnum_any _ _).mono ?_
        rintro e wn3 ⟨rfl, hbn⟩
        replace HB := HB.trans (hbn.mono HB.size)
        clear hbn
        refine hK.out _ _ (by exact hS.out _ HB) (fun hHeld' => ?_)
        clear hK K hHeld
        have hHeld := hHeld'
        clear hHeld'
        try simp only [Act.put, List.setIfInBounds_toArray, List.set_cons_zero, List.set_cons_succ]
        refine wpAnyT_one (i := 11) (o := { dst := some 66, op := Op.buildSlice 78 3 #[(0, Operand.tmp 59), (1, Operand.tmp 62), (2, Operand.tmp 65)], type := 78, pos := "calendar.go:150", after := #[{ on := 4, ground := Ground.data }, { on := 7, ground := Ground.data }, { on := 10, ground := Ground.data }], guard := none }) (by kernel_rfl) rfl (fun K hK => ?_)
        go_simp
        refine hK.out _ _ (by exact hS.out _ (HB.alloc HB.size _)) (fun hHeld' => ?_)
        clear hK K hHeld
        have hHeld := hHeld'
        clear hHeld'
        try simp only [Act.put, List.setIfInBounds_toArray, List.set_cons_zero, List.set_cons_succ]
        refine wpAnyT_one (i := 12) (o := { dst := some 67, op := Op.call { callee := Callee.value (Operand.func 77), args := #[Operand.tmp 66], argTypes := #[78] }, type := 80, pos := "calendar.go:150", after := #[{ on := 11, ground := Ground.data }, { on := 10, ground := Ground.chain }], guard := none }) (by kernel_rfl) rfl (fun K hK => ?_)
        go_simp
        go_at_call 77
        refine (callist_any _ _ _ _).mono ?_
        rintro e wL ⟨rfl, hbL⟩
        have hrow12 := (hbL.block wn3.heap.size (by simp)).trans (heap_alloc_new wn3 _)
        have hn3 := HB.size
        have hnL := hbL.size
        replace HB := (HB.alloc HB.size _).trans (hbL.mono (HB.alloc HB.size _).size)
        refine hK.out _ _ (by exact hS.out _ HB) (fun hHeld' => ?_)
        clear hK K hHeld
        have hHeld := hHeld'
        clear hHeld'
        try simp only [Act.put, List.setIfInBounds_toArray, List.set_cons_zero, List.set_cons_succ]
        refine wpAnyT_one (i := 13) (o := { dst := some 68, op := Op.buildSlice 78 1 #[(0, Operand.tmp 67)], type := 78, pos := "calendar.go:150", after := #[{ on := 12, ground := Ground.data }], guard := none }) (by kernel_rfl) rfl (fun K hK => ?_)
        go_simp
        refine hK.out _ _ (by exact hS.out _ (HB.alloc HB.size _)) (fun hHeld' => ?_)
        clear hK K hHeld
        have hHeld := hHeld'
        clear hHeld'
        try simp only [Act.put, List.setIfInBounds_toArray, List.set_cons_zero, List.set_cons_succ]
        refine wpAnyT_one (i := 14) (o := { dst := some 69, op := Op.call { callee := Callee.builtin Builtin.append, args := #[Operand.tmp 56, Operand.tmp 68], argTypes := #[78, 78] }, type := 78, pos := "calendar.go:150", after := #[{ on := 1, ground := Ground.data }, { on := 13, ground := Ground.data }, { on := 12, ground := Ground.chain }], guard := none }) (by kernel_rfl) rfl (fun K hK => ?_)
        refine step_appV _ (by rfl) (.tmp 56) (.tmp 68) (by rfl) w1.heap.size row ps (fxV f, .slice (some ⟨wn3.heap.size, 0, none⟩) 3 3) wL.heap.size (by rfl) (by rfl) (hrow.below (hWr.out.trans (HB.mono hWr.out.size) |>.alloc (hWr.out.trans (HB.mono hWr.out.size)).size _)).own (heap_alloc_new _ _) ⟨_, _, rfl⟩ (by have := hpl.out; omega) (by have := hWr.out.size; have := HB.size; simp; omega) ?_
        intro row' w3 hown3 hg3 hlie3
        obtain ⟨g3, cap3, rfl, _, _⟩ := hown3.form (by simp)
        have hold3 : ∀ j, j < W.heap.size → row.ownBlock ≠ some j → w3.heap[j]? = W.heap[j]? := fun j hj hne => (hg3.block j (by have := HB.size; simp; omega) (fun e => hne e.symm)).trans (((HB.alloc HB.size _).block j hj))
        have hb3 : w3.heap[w1.heap.size]? = some (.cells #[.int .i64 3, .int .i64 0, .string ⟨#[]⟩, row] 80 (0, 0)) := (hold3 _ (by omega) (fun e => by have := (hrow.lt e).1; omega)).trans hvW
        have hr3 : w3.heap[wr.heap.size]? = some (.cells #[.int .i64 f.d, .int .i64 f.g, .int .i64 f.s] 90 (0, 0)) := (hold3 _ hrwlt (fun e => by have := (hrow.lt e).2; omega)).trans hrw
        obtain ⟨⟨t0, t1, t2, t3⟩, _, _, _, e3⟩ := cells4 hb3
        refine hK.out _ _ (by exact ⟨t3, by rw [cell_of_row _ _ _ _ _ _ hr3]; rfl, by rw [cell_of_row _ _ _ _ _ _ hr3]; rfl, by rw [cell_of_row _ _ _ _ _ _ hr3]; rfl⟩) (fun hHeld' => ?_)
        clear hK K hHeld
        have hHeld := hHeld'
        clear hHeld'
        try simp only [Act.put, List.setIfInBounds_toArray, List.set_cons_zero, List.set_cons_succ]
        refine wpAnyT_tail (i := 15) (o := { dst := some 70, op := Op.fieldAddr 80 (Operand.tmp 4) 3, type := 0, pos := "calendar.go:150", after := #[{ on := 0, ground := Ground.phase }, { on := 1, ground := Ground.phase }, { on := 2, ground := Ground.phase }, { on := 3, ground := Ground.phase }, { on := 4, ground := Ground.phase }, { on := 5, ground := Ground.phase }, { on := 6, ground := Ground.phase }, { on := 7, ground := Ground.phase }, { on := 8, ground := Ground.phase }, { on := 9, ground := Ground.phase }, { on := 10, ground := Ground.phase }, { on := 11, ground := Ground.phase }, { on := 12, ground := Ground.phase }, { on := 13, ground := Ground.phase }, { on := 14, ground := Ground.phase }], guard := none }) (by kernel_rfl) rfl (by rfl) (fun K hK => ?_)
        go_simp
        refine hK.out _ _ ?_
        clear hK K
        try simp only [Act.put, List.setIfInBounds_toArray, List.set_cons_zero, List.set_cons_succ]
        refine wpAnyT_tail (i := 16) (o := { dst := none, op := Op.store 78 (Operand.tmp 70) (Operand.tmp 69), type := 0, pos := "calendar.go:150", after := #[{ on := 15, ground := Ground.data }, { on := 14, ground := Ground.data }, { on := 14, ground := Ground.chain }, { on := 0, ground := Ground.phase }, { on := 1, ground := Ground.phase }, { on := 2, ground := Ground.phase }, { on := 3, ground := Ground.phase }, { on := 4, ground := Ground.phase }, { on := 5, ground := Ground.phase }, { on := 6, ground := Ground.phase }, { on := 7, ground := Ground.phase }, { on := 8, ground := Ground.phase }, { on := 9, ground := Ground.phase }, { on := 10, ground := Ground.phase }, { on := 11, ground := Ground.phase }, { on := 12, ground := Ground.phase }, { on := 13, ground := Ground.phase }, { on := 14, ground := Ground.phase }], guard := none }) (by kernel_rfl) rfl (by rfl) (fun K hK => ?_)
        go_simp
        refine hK.out _ _ ?_
        clear hK K
        try simp only [Act.put, List.setIfInBounds_toArray, List.set_cons_zero, List.set_cons_succ]
        refine wpAnyT_done (by kernel_rfl) ?_ _
        go_wp2_with fail
        go_roundw
        case rel =>
          have h3 := (heap_setCell_same w3 w1.heap.size 3 _ _ (.slice (some ⟨g3, 0, none⟩) (ps ++ [(fxV f, Value.slice (some ⟨wn3.heap.size, 0, none⟩) 3 3)]).length cap3) hb3).trans (show some (Obj.cells (#[.int .i64 3, .int .i64 0, .string ⟨#[]⟩, row].setIfInBounds 3 (.slice (some ⟨g3, 0, none⟩) (ps ++ [(fxV f, Value.slice (some ⟨wn3.heap.size, 0, none⟩) 3 3)]).length cap3)) 80) = some (Obj.cells #[.int .i64 3, .int .i64 0, .string ⟨#[]⟩, .slice (some ⟨g3, 0, none⟩) (ps ++ [(fxV f, Value.slice (some ⟨wn3.heap.size, 0, none⟩) 3 3)]).length cap3] 80) by simp)
          have hBL : Below wr.heap.size wr wL := hWr.out.trans (HB.mono hWr.out.size)
          have hwz := hWr.out.size
          have hp : RSb (fun j => wr.heap.size ≤ j ∧ j < wL.heap.size) wL 1 (fxV f).l (.slice (some ⟨wn3.heap.size, 0, none⟩) 3 3) := RSb.flat hrow12 rfl rfl (by omega) ⟨by omega, (Array.getElem?_eq_some_iff.1 hrow12).1⟩ (by simp [fxV, lV, fxL, iV])
          have hst : w3.grownBy (w3.setCell ⟨w1.heap.size, 3, none⟩ (.slice (some ⟨g3, 0, none⟩) (ps ++ [(fxV f, Value.slice (some ⟨wn3.heap.size, 0, none⟩) 3 3)]).length cap3)) (some w1.heap.size) := ⟨rfl, rfl, rfl, by simp, fun j _ hj => heap_setCell_other w3 ⟨w1.heap.size, 3, none⟩ j _ (fun e => hj (by simp [e]))⟩
          have hrow2 := RowV.put hrow hvlt hBL hp hown3 hg3 hlie3 hst
          have hB3 := hB.trans (hBL.mono hB.size)
          have hlen2 : (ps ++ [(fxV f, Value.slice (some ⟨wn3.heap.size, 0, none⟩) 3 3)]).length = ps.length + 1 := by simp
          rw [hlen2] at h3 hrow2
          refine ⟨k + 1, ps ++ [(fxV f, .slice (some ⟨wn3.heap.size, 0, none⟩) 3 3)], _, by omega, by go_num, ?_, h3, hrow2, ((hB3.alloc hB3.size _).grown hg3 (hB3.alloc hB3.size _).size (fun g e => by have := (hrow.lt e).1; omega)).setCell (p := ⟨w1.heap.size, 3, none⟩) (Nat.le_refl _) _, ?_⟩
          · refine Lib.hid ?_
            rw [take_snocA hf, List.map_append, List.map_append, hps.out]
            rfl
          · refine Lib.hid fun y hy => ?_
            rw [take_snocA hf] at hy
            rcases List.mem_append.1 hy with hy | hy
            · exact hoks.out y hy
            · obtain rfl : y = f := by simpa using hy
              exact hok'.out
        case measure => simp [intOf]; omega
      · obtain ⟨hRz, hEz⟩ := hbad.out ⟨f, hfm, hok⟩
        subst hRz hEz
        have hdZ := Lib.hid ((Below.heap_alloc wr (.cells #[.int .i64 f.d, .int .i64 f.g, .int .i64 f.s] 90) (w.heap.size + 1) (by omega)).trans hdr.out)
        have hsZ : Hid ((dg zero32).size = (dg zero32).size) := Lib.hid rfl
        obtain ⟨mn, hmn⟩ : ∃ mn, (if f.s < (if f.g < f.d then f.g else f.d) then f.s else (if f.g < f.d then f.g else f.d)) = mn := ⟨_, rfl⟩
        have hmin3 := fun (ts : Array TypeId) (t : TypeId) (W : World) => run_min_int3 (P := Tryd.prog) (w := W) ts t .i64 .i64 .i64 f.d f.g f.s
        rw [hmn] at hmin3
        by_cases m1 : mn < -1
        · clear hmn hok
          go_wp2_with (first
            | refine wpList_load_row (by rfl) 35 (.tmp 2) (by rfl) (w.heap.size + 1) (by rfl) 35 (dg zero32) (0, 0) _ hdZ.out Tryd.underlying35 (by rfl) hiZ.out ?_
            | (refine wpList_set_row (by rfl) 35 (.tmp 2) (.tmp 54) (by rfl) (by rfl) (w.heap.size + 1) (dg zero32) (by rfl) (by rfl) 35 _ hdZ.out hiZ.out hsZ.out hoZ.out ?_; intro w6 hd6 hz6 hg6; replace hd6 := Lib.hid hd6))
          refine bodyPost_ret (v := .tuple #[.agg (dg zero32), .int .i64 350]) (results_row_tmp rfl _ _ (w.heap.size + 1) 35 (dg zero32) (0, 0) _ _ rfl rfl hd6.out Tryd.underlying35 (by rfl) hiZ.out) rfl ⟨rfl, (hw0.alloc hw0.size _).grown hg6 (hw0.alloc hw0.size _).size (fun k e => by have := Option.some.inj e; omega)⟩
        by_cases m2 : 73048 < f.d
        · clear hmn hok
          go_wp2_with (first
            | refine wpList_load_row (by rfl) 35 (.tmp 2) (by rfl) (w.heap.size + 1) (by rfl) 35 (dg zero32) (0, 0) _ hdZ.out Tryd.underlying35 (by rfl) hiZ.out ?_
            | (refine wpList_set_row (by rfl) 35 (.tmp 2) (.tmp 54) (by rfl) (by rfl) (w.heap.size + 1) (dg zero32) (by rfl) (by rfl) 35 _ hdZ.out hiZ.out hsZ.out hoZ.out ?_; intro w6 hd6 hz6 hg6; replace hd6 := Lib.hid hd6))
          refine bodyPost_ret (v := .tuple #[.agg (dg zero32), .int .i64 350]) (results_row_tmp rfl _ _ (w.heap.size + 1) 35 (dg zero32) (0, 0) _ _ rfl rfl hd6.out Tryd.underlying35 (by rfl) hiZ.out) rfl ⟨rfl, (hw0.alloc hw0.size _).grown hg6 (hw0.alloc hw0.size _).size (fun k e => by have := Option.some.inj e; omega)⟩
        by_cases m3 : 63 < f.g
        · clear hmn hok
          go_wp2_with (first
            | refine wpList_load_row (by rfl) 35 (.tmp 2) (by rfl) (w.heap.size + 1) (by rfl) 35 (dg zero32) (0, 0) _ hdZ.out Tryd.underlying35 (by rfl) hiZ.out ?_
            | (refine wpList_set_row (by rfl) 35 (.tmp 2) (.tmp 54) (by rfl) (by rfl) (w.heap.size + 1) (dg zero32) (by rfl) (by rfl) 35 _ hdZ.out hiZ.out hsZ.out hoZ.out ?_; intro w6 hd6 hz6 hg6; replace hd6 := Lib.hid hd6))
          refine bodyPost_ret (v := .tuple #[.agg (dg zero32), .int .i64 350]) (results_row_tmp rfl _ _ (w.heap.size + 1) 35 (dg zero32) (0, 0) _ _ rfl rfl hd6.out Tryd.underlying35 (by rfl) hiZ.out) rfl ⟨rfl, (hw0.alloc hw0.size _).grown hg6 (hw0.alloc hw0.size _).size (fun k e => by have := Option.some.inj e; omega)⟩
        have m4 : 15 < f.s := Int.not_le.1 fun m4 => hok (by
          have : -1 ≤ f.d ∧ -1 ≤ f.g ∧ -1 ≤ f.s := by
            rw [← hmn] at m1
            split at m1 <;> split at m1 <;> omega
          exact ⟨this.1, this.2.1, this.2.2, Int.not_lt.1 m2, Int.not_lt.1 m3, m4⟩)
        clear hmn hok
        go_wp2_with (first
          | refine wpList_load_row (by rfl) 35 (.tmp 2) (by rfl) (w.heap.size + 1) (by rfl) 35 (dg zero32) (0, 0) _ hdZ.out Tryd.underlying35 (by rfl) hiZ.out ?_
          | (refine wpList_set_row (by rfl) 35 (.tmp 2) (.tmp 54) (by rfl) (by rfl) (w.heap.size + 1) (dg zero32) (by rfl) (by rfl) 35 _ hdZ.out hiZ.out hsZ.out hoZ.out ?_; intro w6 hd6 hz6 hg6; replace hd6 := Lib.hid hd6))
        refine bodyPost_ret (v := .tuple #[.agg (dg zero32), .int .i64 350]) (results_row_tmp rfl _ _ (w.heap.size + 1) 35 (dg zero32) (0, 0) _ _ rfl rfl hd6.out Tryd.underlying35 (by rfl) hiZ.out) rfl ⟨rfl, (hw0.alloc hw0.size _).grown hg6 (hw0.alloc hw0.size _).size (fun k e => by have := Option.some.inj e; omega)⟩
    · obtain rfl : k = n := by omega
      have hkl : c.fx.take k = c.fx := List.take_of_length_le (by rw [hn.out]; omega)
      have hps2 := hps.out
      have hok2 := hoks.out
      rw [hkl] at hps2 hok2
      obtain ⟨hRz, hEz⟩ := hgood.out hok2
      replace hRz := Lib.hid hRz
      subst hEz
      have hrs2 := hrow.rsb.rs (fun j hj => hj.2)
      obtain ⟨A3, c3, hrowe⟩ := hrow.rsb.form
      generalize hm3 : (ps.map (·.1)).length = m3 at hrowe
      subst hrowe
      rw [hps2] at hrs2
      have p1 : wr.cell? ⟨w1.heap.size, 0, none⟩ = some (.int .i64 3) := by rw [cell_of_row _ _ _ _ _ _ hv]; rfl
      have p2 : wr.cell? ⟨w1.heap.size, 1, none⟩ = some (.int .i64 0) := by rw [cell_of_row _ _ _ _ _ _ hv]; rfl
      have p3 : wr.cell? ⟨w1.heap.size, 2, none⟩ = some (.string ⟨#[]⟩) := by rw [cell_of_row _ _ _ _ _ _ hv]; rfl
      have p4 : wr.cell? ⟨w1.heap.size, 3, none⟩ = some (.slice A3 m3 c3) := by rw [cell_of_row _ _ _ _ _ _ hv]; rfl
      have hlw : w.heap.size < wr.heap.size := by omega
      have hS : Hid (∀ V, Below wr.heap.size wr V → V.cell? ⟨w.heap.size, 0, none⟩ = some (.int .i64 c.no) ∧ V.cell? ⟨w1.heap.size, 0, none⟩ = some (.int .i64 3) ∧ V.cell? ⟨w1.heap.size, 1, none⟩ = some (.int .i64 0) ∧ V.cell? ⟨w1.heap.size, 2, none⟩ = some (.string ⟨#[]⟩) ∧ V.cell? ⟨w1.heap.size, 3, none⟩ = some (.slice A3 m3 c3)) := Lib.hid fun V hV =>
        ⟨(hV.cell (p := ⟨w.heap.size, 0, none⟩) hlw).trans p0, (hV.cell (p := ⟨w1.heap.size, 0, none⟩) hvlt).trans p1, (hV.cell (p := ⟨w1.heap.size, 1, none⟩) hvlt).trans p2, (hV.cell (p := ⟨w1.heap.size, 2, none⟩) hvlt).trans p3, (hV.cell (p := ⟨w1.heap.size, 3, none⟩) hvlt).trans p4⟩
      have henc : Hid (∀ (W : World) (j : Nat), j = W.heap.size → Below wr.heap.size wr W → ∀ W2, Below (W.alloc (.cells #[.int .i64 1, .int .i64 c.no, .string ⟨#[]⟩, .slice none 0 0, .int .i64 3, .int .i64 0, .string ⟨#[]⟩, .slice A3 m3 c3] 80)).heap.size (W.alloc (.cells #[.int .i64 1, .int .i64 c.no, .string ⟨#[]⟩, .slice none 0 0, .int .i64 3, .int .i64 0, .string ⟨#[]⟩, .slice A3 m3 c3] 80)) W2 →
          Calls Tryd.prog 46 #[.agg #[.int .i64 3, .int .i64 0, .string ⟨#[]⟩, .slice (some ⟨j, 0, none⟩) 2 2]] W2 (EncC (enc (calV c)) W2)) := Lib.hid fun W j hj hBW W2 hB2 =>
        encode_fit 3 (calV c) (.slice (some ⟨j, 0, none⟩) 2 2) W2 (rs_two W j hj (iV c.no) (lV (c.fx.map fxV)) (.slice none 0 0) (.slice A3 m3 c3) 2 W2 hB2 (RS.nil _ _ _ _) (hrs2.below (hBW.trans (((Below.refl _ W).alloc (Nat.le_refl _) _).trans (hB2.mono (by simp)) |>.mono hBW.size)))) hsm.out.1 (by have := dp_calV c; omega) (by have := hsm.out.2; omega) (ck_cal c)
      have HB : Below wr.heap.size wr wr.drew := (Below.refl _ _).drew
      clear hbad hgood hps hrow hv hrs2 hps2 hok2 hkl hoks hpl hm3 hdZ hq0 hq1
      go_wp2_with fail
      go_region_held3 (fun w' => w'.cell? ⟨w.heap.size, 0, none⟩ = some (.int .i64 c.no) ∧ w'.cell? ⟨w1.heap.size, 0, none⟩ = some (.int .i64 3) ∧ w'.cell? ⟨w1.heap.size, 1, none⟩ = some (.int .i64 0) ∧ w'.cell? ⟨w1.heap.size, 2, none⟩ = some (.string ⟨#[]⟩) ∧ w'.cell? ⟨w1.heap.size, 3, none⟩ = some (.slice A3 m3 c3))
        (first
          | exact hS.out _ HB
          | exact hS.out _ (HB.alloc HB.size _)
          | exact hS.out _ (Below.refl _ _)
          | go_keep)
        (first
          | (go_at_call 78; (with_reducible refine (calnum_any _ _).mono ?_); rintro e w4 ⟨rfl, hb⟩; replace HB := HB.trans (hb.mono HB.size); clear hb)
          | (go_at_call 77; refine (callist_any _ _ _ _).mono ?_; rintro e w5 ⟨rfl, hb4⟩; have HB4 := HB; replace HB := (HB.alloc HB.size _).trans (hb4.mono (HB.alloc HB.size _).size))
          | (go_at_call 46; refine (henc.out _ _ rfl HB4 _ hb4).mono ?_; unfold EncC; rintro e w6 ⟨A6, m6, c6, rfl, hm6, hc6, hcm6, hat6, hb6⟩; replace HB := HB.trans (hb6.mono HB.size)))
      have hB6 := hw0.trans (HB.mono hw0.size)
      have hd6 := (HB.block (w.heap.size + 1) (by omega)).trans hdr.out
      have hTg := Lib.hid (tagged_any calB (by decide) (enc (calV c)) m6 hm6 (by have := hsm.out.2; omega) A6 c6 hc6 hcm6 w6 hat6 (hL.below hB6))
      rw [← hRz.out] at hTg
      clear hS henc hb4 hb6 HB4 HB hm6 hat6 p0 p1 p2 p3 p4
      go_wp2_with fail
      refine hTg.out.mono ?_
      rintro e w7 ⟨rfl, hb7⟩
      have hd7 := Lib.hid ((hb7.block (w.heap.size + 1) ((Array.getElem?_eq_some_iff.1 hd6).1)).trans hd6)
      have hB7 := hB6.trans (hb7.mono hB6.size)
      clear hb7 hTg
      go_wp2_with (refine wpList_set_row (by rfl) 35 (.tmp 2) (.tmp 87) (by rfl) (by rfl) (w.heap.size + 1) (dg R) (by rfl) (by rfl) 35 _ hd7.out hiR.out hsR.out hoR.out ?_; intro w8 hd8 hz8 hg8; replace hd8 := Lib.hid hd8)
      refine bodyPost_ret (v := .tuple #[.agg (dg R), .int .i64 0]) (results_row_tmp rfl _ _ (w.heap.size + 1) 35 (dg R) (0, 0) _ _ rfl rfl hd8.out Tryd.underlying35 (by rfl) hiR.out) rfl ⟨rfl, hB7.grown hg8 hB7.size (fun k e => by have := Option.some.inj e; omega)⟩

/-- Digest: the digest of a calendar, or an error -/
theorem cdig_any (c : Cal) (n cp : Nat) (A : Option Addr) (w : World) (hn : c.fx.length = n) (hc : n ≤ cp) (hA : FxAt w A c.fx) (hI : ∀ f ∈ c.fx, FxI f) (hL : Laid w) :
    Calls Tryd.prog 54 #[.agg #[.int .i64 c.no, .slice A n cp]] w fun e w' => e = .returned (.tuple #[.agg (dg (calD c)), .int .i64 (calE c)]) ∧ Below w.heap.size w w' := by
  by_cases h : c.no < 0 ∨ 1048576 < c.no ∨ 1024 < n
  · have hno : ¬ CalOk c := fun hk => by
      obtain ⟨h0, h1, h2, _⟩ := hk
      rw [hn] at h2
      omega
    unfold calD calE
    rw [if_neg hno, if_neg hno]
    exact cdig_bad c n cp A w h
  · exact cdig_main c n cp A w (Lib.hid hn) (by omega) (by omega) (by omega) hc (Lib.hid hA) (Lib.hid hI) hL
end Go.Proofs.YthokpfegfnpmhaaDoor
