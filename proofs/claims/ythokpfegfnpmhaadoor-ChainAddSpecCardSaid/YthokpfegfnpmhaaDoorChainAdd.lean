/- The walk of chain.Add. -/
import Derived.Test.YthokpfegfnpmhaaDoorRowApp
import Derived.Deep.RegionLaw
import Derived.Deep.RegionHeld3
namespace Go.Proofs.YthokpfegfnpmhaaDoor
open Go.RowKit Cdc Sha
set_option linter.unusedVariables false
set_option linter.unusedSimpArgs false

/-- Add's arguments are in order -/
def ArgC (l : List Lk) (node : Int) (nd : Nat) : Prop := 0 ≤ node ∧ node < 24 ∧ (∀ y, l[0]? = some y → node = y.node) ∧ nd ≤ 65536

set_option maxRecDepth 100000 in
set_option maxHeartbeats 2000000 in
theorem add_bad (l : List Lk) (n : Nat) (A : Option Addr) (c : Nat) (node : Int) (Ad : Option Addr) (nd cd : Nat) (w : World) (hck : Hid (Calls Tryd.prog 21 #[.slice A n c] w fun e w' => e = .returned (.int .i64 80) ∧ Below w.heap.size w w')) :
    Calls Tryd.prog 15 #[.slice A n c, .int .i64 node, .slice Ad nd cd] w fun e w' => e = .returned (.tuple #[.slice none 0 0, .int .i64 80]) ∧ Below w.heap.size w w' := by
  go_enter Tryd.func15, Tryd.ntmps15
  go_wp2_with (go_at_call 21; (with_reducible refine hck.out.mono ?_); rintro e w1 ⟨rfl, hb1⟩)
  refine bodyPost_ret (v := .tuple #[.slice none 0 0, .int .i64 80]) (by simp [results, Tryd.results15, go_sem]) rfl ⟨rfl, hb1⟩
set_option maxRecDepth 100000 in
set_option maxHeartbeats 2000000 in
theorem add_lo (n : Nat) (A : Option Addr) (c : Nat) (node : Int) (Ad : Option Addr) (nd cd : Nat) (w : World) (hnm : n < 1000) (hck : Hid (Calls Tryd.prog 21 #[.slice A n c] w fun e w' => e = .returned (.int .i64 0) ∧ Below w.heap.size w w')) (h1 : node < 0) :
    Calls Tryd.prog 15 #[.slice A n c, .int .i64 node, .slice Ad nd cd] w fun e w' => e = .returned (.tuple #[.slice none 0 0, .int .i64 1]) ∧ Below w.heap.size w w' := by
  go_enter Tryd.func15, Tryd.ntmps15
  go_wp2_with (go_at_call 21; (with_reducible refine hck.out.mono ?_); rintro e w1 ⟨rfl, hb1⟩)
  refine bodyPost_ret (v := .tuple #[.slice none 0 0, .int .i64 1]) (by simp [results, Tryd.results15, go_sem]) rfl ⟨rfl, hb1⟩
set_option maxRecDepth 100000 in
set_option maxHeartbeats 2000000 in
theorem add_hi (n : Nat) (A : Option Addr) (c : Nat) (node : Int) (Ad : Option Addr) (nd cd : Nat) (w : World) (hnm : n < 1000) (hck : Hid (Calls Tryd.prog 21 #[.slice A n c] w fun e w' => e = .returned (.int .i64 0) ∧ Below w.heap.size w w')) (h0 : ¬ node < 0) (h1 : 24 ≤ node) :
    Calls Tryd.prog 15 #[.slice A n c, .int .i64 node, .slice Ad nd cd] w fun e w' => e = .returned (.tuple #[.slice none 0 0, .int .i64 1]) ∧ Below w.heap.size w w' := by
  go_enter Tryd.func15, Tryd.ntmps15
  go_wp2_with (go_at_call 21; (with_reducible refine hck.out.mono ?_); rintro e w1 ⟨rfl, hb1⟩)
  refine bodyPost_ret (v := .tuple #[.slice none 0 0, .int .i64 1]) (by simp [results, Tryd.results15, go_sem]) rfl ⟨rfl, hb1⟩
set_option maxRecDepth 100000 in
set_option maxHeartbeats 2000000 in
theorem add_node (n : Nat) (A : Option Addr) (c : Nat) (node : Int) (Ad : Option Addr) (nd cd : Nat) (w : World) (hnm : n < 1000) (hck : Hid (Calls Tryd.prog 21 #[.slice A n c] w fun e w' => e = .returned (.int .i64 0) ∧ Below w.heap.size w w')) (h0 : ¬ node < 0) (h1 : ¬ 24 ≤ node) (b1 o1 : Nat) (y : Int) (hA : A = some ⟨b1, o1, none⟩) (hn0 : 0 < n) (hc1 : Hid (∀ V, Below w.heap.size w V → V.cell? ⟨b1, o1, none⟩ = some (.int .i64 y))) (h2 : node ≠ y) :
    Calls Tryd.prog 15 #[.slice A n c, .int .i64 node, .slice Ad nd cd] w fun e w' => e = .returned (.tuple #[.slice none 0 0, .int .i64 1]) ∧ Below w.heap.size w w' := by
  subst hA
  go_enter Tryd.func15, Tryd.ntmps15
  go_wp2_with (go_at_call 21; (with_reducible refine hck.out.mono ?_); rintro e w1 ⟨rfl, hb1⟩; have hcy := hc1.out _ hb1)
  refine bodyPost_ret (v := .tuple #[.slice none 0 0, .int .i64 1]) (by simp [results, Tryd.results15, go_sem]) rfl ⟨rfl, hb1⟩
set_option maxRecDepth 100000 in
set_option maxHeartbeats 2000000 in
theorem add_big0 (n : Nat) (A : Option Addr) (c : Nat) (node : Int) (Ad : Option Addr) (nd cd : Nat) (w : World) (hnm : n < 1000) (hck : Hid (Calls Tryd.prog 21 #[.slice A n c] w fun e w' => e = .returned (.int .i64 0) ∧ Below w.heap.size w w')) (h0 : ¬ node < 0) (h1 : ¬ 24 ≤ node) (hn0 : n = 0) (h3 : 65536 < nd) :
    Calls Tryd.prog 15 #[.slice A n c, .int .i64 node, .slice Ad nd cd] w fun e w' => e = .returned (.tuple #[.slice none 0 0, .int .i64 1]) ∧ Below w.heap.size w w' := by
  subst hn0
  go_enter Tryd.func15, Tryd.ntmps15
  go_wp2_with (go_at_call 21; (with_reducible refine hck.out.mono ?_); rintro e w1 ⟨rfl, hb1⟩)
  refine bodyPost_ret (v := .tuple #[.slice none 0 0, .int .i64 1]) (by simp [results, Tryd.results15, go_sem]) rfl ⟨rfl, hb1⟩
set_option maxRecDepth 100000 in
set_option maxHeartbeats 2000000 in
theorem add_big1 (n : Nat) (A : Option Addr) (c : Nat) (node : Int) (Ad : Option Addr) (nd cd : Nat) (w : World) (hnm : n < 1000) (hck : Hid (Calls Tryd.prog 21 #[.slice A n c] w fun e w' => e = .returned (.int .i64 0) ∧ Below w.heap.size w w')) (h0 : ¬ node < 0) (h1 : ¬ 24 ≤ node) (b1 o1 : Nat) (y : Int) (hA : A = some ⟨b1, o1, none⟩) (hn0 : 0 < n) (hc1 : Hid (∀ V, Below w.heap.size w V → V.cell? ⟨b1, o1, none⟩ = some (.int .i64 y))) (h2 : node = y) (h3 : 65536 < nd) :
    Calls Tryd.prog 15 #[.slice A n c, .int .i64 node, .slice Ad nd cd] w fun e w' => e = .returned (.tuple #[.slice none 0 0, .int .i64 1]) ∧ Below w.heap.size w w' := by
  subst h2
  have e1 : (node != node) = false := by simp
  subst hA
  go_enter Tryd.func15, Tryd.ntmps15
  go_wp2_with (go_at_call 21; (with_reducible refine hck.out.mono ?_); rintro e w1 ⟨rfl, hb1⟩; have hcy := hc1.out _ hb1)
  refine bodyPost_ret (v := .tuple #[.slice none 0 0, .int .i64 1]) (by simp [results, Tryd.results15, go_sem]) rfl ⟨rfl, hb1⟩
set_option maxRecDepth 100000 in
set_option maxHeartbeats 4000000 in
theorem add_ok1 (n : Nat) (A : Option Addr) (c : Nat) (node : Int) (Ad : Option Addr) (nd cd : Nat) (w : World) (hnm : n < 1000) (hck : Hid (Calls Tryd.prog 21 #[.slice A n c] w fun e w' => e = .returned (.int .i64 0) ∧ Below w.heap.size w w')) (l : List Lk) (xs : List UInt8) (hn : Hid (l.length = n)) (hc : n ≤ c) (hls : Hid (LsAt w A l)) (hp : Hid (∀ y ∈ l, y.prev.length = 32)) (hq32 : (hdC l).length = 32) (h0 : ¬ node < 0) (h1 : ¬ 24 ≤ node) (h3 : nd ≤ 65536) (hH : Hid (∀ V, Below w.heap.size w V → Calls Tryd.prog 20 #[.slice A n c] V fun e w' => e = .returned (.agg (dg (hdC l))) ∧ Below V.heap.size V w')) (hCl : Hid (∀ V, Below w.heap.size w V → Calls Tryd.prog 41 #[.slice Ad nd cd] V fun e w' => ∃ A' c', e = .returned (.slice A' nd c') ∧ DatAt w' (.slice A' nd c') xs ∧ Below V.heap.size V w')) (b1 o1 : Nat) (y : Int) (hA : A = some ⟨b1, o1, none⟩) (hn0 : 0 < n) (hc1 : Hid (∀ V, Below w.heap.size w V → V.cell? ⟨b1, o1, none⟩ = some (.int .i64 y))) (h2 : node = y) :
    Calls Tryd.prog 15 #[.slice A n c, .int .i64 node, .slice Ad nd cd] w fun e w' => ∃ A' c', e = .returned (.tuple #[.slice A' (n + 1) c', .int .i64 0]) ∧ n + 1 ≤ c' ∧ c' ≤ 9223372036854775807 ∧ LsAt w' A' (l ++ [⟨node, n, hdC l, xs⟩]) ∧ Below w.heap.size w w' := by
  have h00 : Hid (A = none → n = 0) := Lib.hid (fun e => by rw [hA] at e; cases e)
  subst hA
  subst h2
  have e1 : (node != node) = false := by simp
  generalize hqq : hdC l = q at hH hq32 ⊢
  go_enter Tryd.func15, Tryd.ntmps15
  go_wp2_with (first
    | (go_at_call 21; (with_reducible refine hck.out.mono ?_); rintro e w1 ⟨rfl, hb1⟩; have hcy := hc1.out _ hb1)
    | (go_at_call 20; (with_reducible refine (hH.out _ hb1).mono ?_); rintro e w2 ⟨rfl, hb2⟩; replace hb2 := hb1.trans (hb2.mono hb1.size))
    | (go_at_call 41; (with_reducible refine (hCl.out _ hb2).mono ?_); rintro e w3 ⟨A3, c3, rfl, hdat3, hb3⟩; replace hb3 := hb2.trans (hb3.mono hb2.size); have hbu := Lib.hid (built_lk ⟨node, n, q, xs⟩ hq32 A3 nd c3); have hiA := Lib.hid (lk_info (x := ⟨node, n, q, xs⟩) hq32 (.slice A3 nd c3)); have hiS : Hid (35 = (lkA ⟨node, n, q, xs⟩ (.slice A3 nd c3)).size) := Lib.hid (lkA_size (x := ⟨node, n, q, xs⟩) hq32 _).symm; have hiO := Lib.hid (lkA_one ⟨node, n, q, xs⟩ A3 nd c3); have hiL := Lib.hid (lk_info' (x := ⟨node, n, q, xs⟩) hq32 (.slice A3 nd c3)); replace hdat3 := Lib.hid hdat3)
    | (refine wpList_buildTo (by rfl) 37 #[(0, .tmp 41), (1, .tmp 43), (2, .tmp 45), (3, .tmp 47)] (by rfl) (some 48) (by rfl) (lkA ⟨node, n, q, xs⟩ (.slice A3 nd c3)) (by simp only [List.map_toArray, List.map_cons, List.map_nil]; exact hbu.out) ?_)
    | (refine wpList_new_row' (by rfl) 37 (.tmp 8) (.tmp 48) (by rfl) (by rfl) (lkA ⟨node, n, q, xs⟩ (.slice A3 nd c3)) w3.heap.size (by rfl) rfl (by rfl) 37 _ hiA.out hiS.out hiO.out ?_; intro w4 hd4 hz4 hB4; replace hd4 := Lib.hid hd4; replace hz4 := Lib.hid hz4))
  have hb4 := hb3.trans (hB4.mono hb3.size)
  have hdat4 := Lib.hid (hdat3.out.below hB4)
  have hr4 : Hid (w4.rangeAt w3.heap.size 0 (lkC ⟨node, n, q, xs⟩ (.slice A3 nd c3))) := Lib.hid (by
    intro j v hj
    rw [cell_of_row _ _ _ _ _ _ hd4.out]
    simpa [lkA] using hj)
  have hl4 := Lib.hid (hls.out.below hb4)
  clear hck hH hCl hdat3 hbu hiA hiS hiO hb1 hb2 hb3 hB4
  refine wp_region_held_drew (S := fun _ => True) (by kernel_rfl) trivial (fun hHeld => ?_)
  refine wpAnyH_take (i := 0) (oi := { dst := some 49, op := Op.move (Operand.tmp 0), type := 22, pos := "chain.go:70", after := #[], guard := none }) (v := .slice (some ⟨b1, o1, none⟩) n c) rfl (by kernel_rfl) (by kernel_rfl) (by kernel_rfl) (fun _ _ _ h => h) (Or.inl ⟨by rfl, by intro w hSw; go_simp⟩) trivial ?_
  try simp only [Act.put, List.setIfInBounds_toArray, List.set_cons_zero, List.set_cons_succ]
  refine wpAnyH_take (i := 1) (oi := { dst := some 50, op := Op.move (Operand.tmp 0), type := 22, pos := "chain.go:70", after := #[], guard := none }) (v := .slice (some ⟨b1, o1, none⟩) n c) rfl (by kernel_rfl) (by kernel_rfl) (by kernel_rfl) (fun _ _ _ h => h) (Or.inl ⟨by rfl, by intro w hSw; go_simp⟩) trivial ?_
  try simp only [Act.put, List.setIfInBounds_toArray, List.set_cons_zero, List.set_cons_succ]
  refine wpAnyH_take (i := 2) (oi := { dst := some 51, op := Op.call { callee := Callee.builtin Builtin.len, args := #[Operand.tmp 50], argTypes := #[22] }, type := 3, pos := "chain.go:70", after := #[{ on := 1, ground := Ground.data }], guard := none }) (v := .int .i64 n) rfl (by kernel_rfl) (by kernel_rfl) (by kernel_rfl) (fun _ _ _ h => h) (Or.inl ⟨by rfl, by intro w hSw; go_simp⟩) trivial ?_
  try simp only [Act.put, List.setIfInBounds_toArray, List.set_cons_zero, List.set_cons_succ]
  refine wpAnyH_take (i := 3) (oi := { dst := some 52, op := Op.move (Operand.tmp 0), type := 22, pos := "chain.go:70", after := #[], guard := none }) (v := .slice (some ⟨b1, o1, none⟩) n c) rfl (by kernel_rfl) (by kernel_rfl) (by kernel_rfl) (fun _ _ _ h => h) (Or.inl ⟨by rfl, by intro w hSw; go_simp⟩) trivial ?_
  try simp only [Act.put, List.setIfInBounds_toArray, List.set_cons_zero, List.set_cons_succ]
  refine wpAnyH_take (i := 4) (oi := { dst := some 53, op := Op.call { callee := Callee.builtin Builtin.len, args := #[Operand.tmp 52], argTypes := #[22] }, type := 3, pos := "chain.go:70", after := #[{ on := 3, ground := Ground.data }], guard := none }) (v := .int .i64 n) rfl (by kernel_rfl) (by kernel_rfl) (by kernel_rfl) (fun _ _ _ h => h) (Or.inl ⟨by rfl, by intro w hSw; go_simp⟩) trivial ?_
  try simp only [Act.put, List.setIfInBounds_toArray, List.set_cons_zero, List.set_cons_succ]
  refine wpAnyH_take (i := 5) (oi := { dst := some 54, op := Op.slice 22 (Operand.tmp 49) none (some (Operand.tmp 51)) (some (Operand.tmp 53)), type := 22, pos := "chain.go:70", after := #[{ on := 0, ground := Ground.data }, { on := 2, ground := Ground.data }, { on := 4, ground := Ground.data }], guard := none }) (v := .slice (some ⟨b1, o1, none⟩) n n) rfl (by kernel_rfl) (by kernel_rfl) (by kernel_rfl) (fun _ _ _ h => h) (Or.inl ⟨by rfl, by intro w hSw; go_simp⟩) trivial ?_
  try simp only [Act.put, List.setIfInBounds_toArray, List.set_cons_zero, List.set_cons_succ]
  refine wpAnyH_ready (rs := [6]) (by kernel_rfl) (by simp) (AllReadyH.cons (o := { dst := some 55, op := .load 37 (.tmp 8), type := 37, pos := "chain.go:70", after := #[], guard := none }) (by kernel_rfl) (fun K hK => ?_) AllReadyH.nil)
  rw [if_pos (by rfl)]
  refine wp_load_mid 37 (.tmp 8) (by rfl) w3.heap.size 0 (by rfl) (lkC ⟨node, n, q, xs⟩ (.slice A3 nd c3)) _ (by have := hr4.out; simpa using this) Tryd.underlying37 (by rfl) hiL.out (hK.out _ _ trivial (fun _ => ?_))
  clear hK K
  try simp only [Act.put, List.setIfInBounds_toArray, List.set_cons_zero, List.set_cons_succ]
  refine wpAnyH_ready (rs := [7]) (by kernel_rfl) (by simp) (AllReadyH.cons (o := { dst := some 56, op := .buildSlice 22 1 #[(0, .tmp 55)], type := 22, pos := "chain.go:70", after := #[{ on := 6, ground := .data }], guard := none }) (by kernel_rfl) (fun K hK => ?_) AllReadyH.nil)
  rw [if_pos (by rfl)]
  refine wp_buildLk (.tmp 55) (by rfl) ⟨node, n, q, xs⟩ A3 nd c3 hq32 (by rfl) (hK.out _ _ trivial (fun _ => ?_))
  clear hK K
  try simp only [Act.put, List.setIfInBounds_toArray, List.set_cons_zero, List.set_cons_succ]
  refine wpAnyH_ready (rs := [8]) (by kernel_rfl) (by simp) (AllReadyH.cons (o := { dst := some 57, op := .call { callee := .builtin .append, args := #[.tmp 54, .tmp 56], argTypes := #[22, 22] }, type := 22, pos := "chain.go:70", after := #[{ on := 5, ground := .data }, { on := 7, ground := .data }], guard := none }) (by kernel_rfl) (fun K hK => ?_) AllReadyH.nil)
  rw [if_pos (by rfl)]
  refine wp_app_lk _ (.tmp 54) (.tmp 56) (by rfl) l n (some ⟨b1, o1, none⟩) ⟨node, n, q, xs⟩ A3 nd c3 w4.heap.size (by rfl) (by rfl) hn.out (by omega) (hl4.out.below ((Below.refl _ w4).drew.alloc (Nat.le_refl _) _)) (by first | exact h00.out | exact fun _ => rfl) hp.out hq32 (hdat4.out.below ((Below.refl _ w4).drew.alloc (Nat.le_refl _) _)) (heap_alloc_new w4.drew _) ?_
  intro A5 c5 w5 hb5 h51 h52 h53
  replace h53 := Lib.hid h53
  refine hK.out _ _ trivial (fun _ => ?_)
  clear hK K
  try simp only [Act.put, List.setIfInBounds_toArray, List.set_cons_zero, List.set_cons_succ]
  refine wpAnyH_take (i := 9) (oi := { dst := some 6, op := Op.assign (Operand.tmp 57), type := 22, pos := "chain.go:70", after := #[{ on := 8, ground := Ground.data }, { on := 8, ground := Ground.chain }, { on := 0, ground := Ground.phase }, { on := 1, ground := Ground.phase }, { on := 2, ground := Ground.phase }, { on := 3, ground := Ground.phase }, { on := 4, ground := Ground.phase }, { on := 5, ground := Ground.phase }, { on := 6, ground := Ground.phase }, { on := 7, ground := Ground.phase }, { on := 8, ground := Ground.phase }], guard := none }) (v := .slice A5 (n + 1) c5) rfl (by kernel_rfl) (by kernel_rfl) (by kernel_rfl) (fun _ _ _ h => h) (Or.inl ⟨by rfl, by intro w hSw; go_simp⟩) trivial ?_
  try simp only [Act.put, List.setIfInBounds_toArray, List.set_cons_zero, List.set_cons_succ]
  refine wpAnyH_take (i := 10) (oi := { dst := some 7, op := Op.assign (Operand.const (Value.int IntKind.i64 0)), type := 26, pos := "chain.go:70", after := #[{ on := 9, ground := Ground.chain }, { on := 0, ground := Ground.phase }, { on := 1, ground := Ground.phase }, { on := 2, ground := Ground.phase }, { on := 3, ground := Ground.phase }, { on := 4, ground := Ground.phase }, { on := 5, ground := Ground.phase }, { on := 6, ground := Ground.phase }, { on := 7, ground := Ground.phase }, { on := 8, ground := Ground.phase }, { on := 9, ground := Ground.phase }], guard := none }) (v := .int .i64 0) rfl (by kernel_rfl) (by kernel_rfl) (by kernel_rfl) (fun _ _ _ h => h) (Or.inl ⟨by rfl, by intro w hSw; go_simp⟩) trivial ?_
  try simp only [Act.put, List.setIfInBounds_toArray, List.set_cons_zero, List.set_cons_succ]
  refine wpAnyH_done (by kernel_rfl) ?_ _
  have HB5 := hb4.trans ((((Below.refl w4.heap.size w4).drew.alloc (Nat.le_refl _) (.cells (lkA ⟨node, n, q, xs⟩ (.slice A3 nd c3)) 37)).trans (hb5.mono (by simp))).mono hb4.size)
  go_wp2
  refine bodyPost_ret (v := .tuple #[.slice A5 (n + 1) c5, .int .i64 0]) (by simp [results, Tryd.results15, go_sem]) rfl ?_
  exact ⟨A5, c5, rfl, h51, h52, h53.out, HB5⟩
set_option maxRecDepth 100000 in
set_option maxHeartbeats 4000000 in
theorem add_ok0 (n : Nat) (A : Option Addr) (c : Nat) (node : Int) (Ad : Option Addr) (nd cd : Nat) (w : World) (hnm : n < 1000) (hck : Hid (Calls Tryd.prog 21 #[.slice A n c] w fun e w' => e = .returned (.int .i64 0) ∧ Below w.heap.size w w')) (l : List Lk) (xs : List UInt8) (hn : Hid (l.length = n)) (hc : n ≤ c) (hls : Hid (LsAt w A l)) (hp : Hid (∀ y ∈ l, y.prev.length = 32)) (hq32 : (hdC l).length = 32) (h0 : ¬ node < 0) (h1 : ¬ 24 ≤ node) (h3 : nd ≤ 65536) (hH : Hid (∀ V, Below w.heap.size w V → Calls Tryd.prog 20 #[.slice A n c] V fun e w' => e = .returned (.agg (dg (hdC l))) ∧ Below V.heap.size V w')) (hCl : Hid (∀ V, Below w.heap.size w V → Calls Tryd.prog 41 #[.slice Ad nd cd] V fun e w' => ∃ A' c', e = .returned (.slice A' nd c') ∧ DatAt w' (.slice A' nd c') xs ∧ Below V.heap.size V w')) (hA : A = none) (hn0 : n = 0) (hc0 : c = 0) :
    Calls Tryd.prog 15 #[.slice A n c, .int .i64 node, .slice Ad nd cd] w fun e w' => ∃ A' c', e = .returned (.tuple #[.slice A' (n + 1) c', .int .i64 0]) ∧ n + 1 ≤ c' ∧ c' ≤ 9223372036854775807 ∧ LsAt w' A' (l ++ [⟨node, n, hdC l, xs⟩]) ∧ Below w.heap.size w w' := by
  have h00 : Hid (A = none → n = 0) := Lib.hid (fun _ => hn0)
  subst hA
  subst hn0
  subst hc0
  generalize hqq : hdC l = q at hH hq32 ⊢
  go_enter Tryd.func15, Tryd.ntmps15
  go_wp2_with (first
    | (go_at_call 21; (with_reducible refine hck.out.mono ?_); rintro e w1 ⟨rfl, hb1⟩)
    | (go_at_call 20; (with_reducible refine (hH.out _ hb1).mono ?_); rintro e w2 ⟨rfl, hb2⟩; replace hb2 := hb1.trans (hb2.mono hb1.size))
    | (go_at_call 41; (with_reducible refine (hCl.out _ hb2).mono ?_); rintro e w3 ⟨A3, c3, rfl, hdat3, hb3⟩; replace hb3 := hb2.trans (hb3.mono hb2.size); have hbu := Lib.hid (built_lk ⟨node, 0, q, xs⟩ hq32 A3 nd c3); have hiA := Lib.hid (lk_info (x := ⟨node, 0, q, xs⟩) hq32 (.slice A3 nd c3)); have hiS : Hid (35 = (lkA ⟨node, 0, q, xs⟩ (.slice A3 nd c3)).size) := Lib.hid (lkA_size (x := ⟨node, 0, q, xs⟩) hq32 _).symm; have hiO := Lib.hid (lkA_one ⟨node, 0, q, xs⟩ A3 nd c3); have hiL := Lib.hid (lk_info' (x := ⟨node, 0, q, xs⟩) hq32 (.slice A3 nd c3)); replace hdat3 := Lib.hid hdat3)
    | (refine wpList_buildTo (by rfl) 37 #[(0, .tmp 41), (1, .tmp 43), (2, .tmp 45), (3, .tmp 47)] (by rfl) (some 48) (by rfl) (lkA ⟨node, 0, q, xs⟩ (.slice A3 nd c3)) (by simp only [List.map_toArray, List.map_cons, List.map_nil]; exact hbu.out) ?_)
    | (refine wpList_new_row' (by rfl) 37 (.tmp 8) (.tmp 48) (by rfl) (by rfl) (lkA ⟨node, 0, q, xs⟩ (.slice A3 nd c3)) w3.heap.size (by rfl) rfl (by rfl) 37 _ hiA.out hiS.out hiO.out ?_; intro w4 hd4 hz4 hB4; replace hd4 := Lib.hid hd4; replace hz4 := Lib.hid hz4))
  have hb4 := hb3.trans (hB4.mono hb3.size)
  have hdat4 := Lib.hid (hdat3.out.below hB4)
  have hr4 : Hid (w4.rangeAt w3.heap.size 0 (lkC ⟨node, 0, q, xs⟩ (.slice A3 nd c3))) := Lib.hid (by
    intro j v hj
    rw [cell_of_row _ _ _ _ _ _ hd4.out]
    simpa [lkA] using hj)
  have hl4 := Lib.hid (hls.out.below hb4)
  clear hck hH hCl hdat3 hbu hiA hiS hiO hb1 hb2 hb3 hB4
  refine wp_region_held_drew (S := fun _ => True) (by kernel_rfl) trivial (fun hHeld => ?_)
  refine wpAnyH_take (i := 0) (oi := { dst := some 49, op := Op.move (Operand.tmp 0), type := 22, pos := "chain.go:70", after := #[], guard := none }) (v := .slice none 0 0) rfl (by kernel_rfl) (by kernel_rfl) (by kernel_rfl) (fun _ _ _ h => h) (Or.inl ⟨by rfl, by intro w hSw; go_simp⟩) trivial ?_
  try simp only [Act.put, List.setIfInBounds_toArray, List.set_cons_zero, List.set_cons_succ]
  refine wpAnyH_take (i := 1) (oi := { dst := some 50, op := Op.move (Operand.tmp 0), type := 22, pos := "chain.go:70", after := #[], guard := none }) (v := .slice none 0 0) rfl (by kernel_rfl) (by kernel_rfl) (by kernel_rfl) (fun _ _ _ h => h) (Or.inl ⟨by rfl, by intro w hSw; go_simp⟩) trivial ?_
  try simp only [Act.put, List.setIfInBounds_toArray, List.set_cons_zero, List.set_cons_succ]
  refine wpAnyH_take (i := 2) (oi := { dst := some 51, op := Op.call { callee := Callee.builtin Builtin.len, args := #[Operand.tmp 50], argTypes := #[22] }, type := 3, pos := "chain.go:70", after := #[{ on := 1, ground := Ground.data }], guard := none }) (v := .int .i64 0) rfl (by kernel_rfl) (by kernel_rfl) (by kernel_rfl) (fun _ _ _ h => h) (Or.inl ⟨by rfl, by intro w hSw; go_simp⟩) trivial ?_
  try simp only [Act.put, List.setIfInBounds_toArray, List.set_cons_zero, List.set_cons_succ]
  refine wpAnyH_take (i := 3) (oi := { dst := some 52, op := Op.move (Operand.tmp 0), type := 22, pos := "chain.go:70", after := #[], guard := none }) (v := .slice none 0 0) rfl (by kernel_rfl) (by kernel_rfl) (by kernel_rfl) (fun _ _ _ h => h) (Or.inl ⟨by rfl, by intro w hSw; go_simp⟩) trivial ?_
  try simp only [Act.put, List.setIfInBounds_toArray, List.set_cons_zero, List.set_cons_succ]
  refine wpAnyH_take (i := 4) (oi := { dst := some 53, op := Op.call { callee := Callee.builtin Builtin.len, args := #[Operand.tmp 52], argTypes := #[22] }, type := 3, pos := "chain.go:70", after := #[{ on := 3, ground := Ground.data }], guard := none }) (v := .int .i64 0) rfl (by kernel_rfl) (by kernel_rfl) (by kernel_rfl) (fun _ _ _ h => h) (Or.inl ⟨by rfl, by intro w hSw; go_simp⟩) trivial ?_
  try simp only [Act.put, List.setIfInBounds_toArray, List.set_cons_zero, List.set_cons_succ]
  refine wpAnyH_take (i := 5) (oi := { dst := some 54, op := Op.slice 22 (Operand.tmp 49) none (some (Operand.tmp 51)) (some (Operand.tmp 53)), type := 22, pos := "chain.go:70", after := #[{ on := 0, ground := Ground.data }, { on := 2, ground := Ground.data }, { on := 4, ground := Ground.data }], guard := none }) (v := .slice none 0 0) rfl (by kernel_rfl) (by kernel_rfl) (by kernel_rfl) (fun _ _ _ h => h) (Or.inl ⟨by rfl, by intro w hSw; go_simp⟩) trivial ?_
  try simp only [Act.put, List.setIfInBounds_toArray, List.set_cons_zero, List.set_cons_succ]
  refine wpAnyH_ready (rs := [6]) (by kernel_rfl) (by simp) (AllReadyH.cons (o := { dst := some 55, op := .load 37 (.tmp 8), type := 37, pos := "chain.go:70", after := #[], guard := none }) (by kernel_rfl) (fun K hK => ?_) AllReadyH.nil)
  rw [if_pos (by rfl)]
  refine wp_load_mid 37 (.tmp 8) (by rfl) w3.heap.size 0 (by rfl) (lkC ⟨node, 0, q, xs⟩ (.slice A3 nd c3)) _ (by have := hr4.out; simpa using this) Tryd.underlying37 (by rfl) hiL.out (hK.out _ _ trivial (fun _ => ?_))
  clear hK K
  try simp only [Act.put, List.setIfInBounds_toArray, List.set_cons_zero, List.set_cons_succ]
  refine wpAnyH_ready (rs := [7]) (by kernel_rfl) (by simp) (AllReadyH.cons (o := { dst := some 56, op := .buildSlice 22 1 #[(0, .tmp 55)], type := 22, pos := "chain.go:70", after := #[{ on := 6, ground := .data }], guard := none }) (by kernel_rfl) (fun K hK => ?_) AllReadyH.nil)
  rw [if_pos (by rfl)]
  refine wp_buildLk (.tmp 55) (by rfl) ⟨node, 0, q, xs⟩ A3 nd c3 hq32 (by rfl) (hK.out _ _ trivial (fun _ => ?_))
  clear hK K
  try simp only [Act.put, List.setIfInBounds_toArray, List.set_cons_zero, List.set_cons_succ]
  refine wpAnyH_ready (rs := [8]) (by kernel_rfl) (by simp) (AllReadyH.cons (o := { dst := some 57, op := .call { callee := .builtin .append, args := #[.tmp 54, .tmp 56], argTypes := #[22, 22] }, type := 22, pos := "chain.go:70", after := #[{ on := 5, ground := .data }, { on := 7, ground := .data }], guard := none }) (by kernel_rfl) (fun K hK => ?_) AllReadyH.nil)
  rw [if_pos (by rfl)]
  refine wp_app_lk _ (.tmp 54) (.tmp 56) (by rfl) l 0 none ⟨node, 0, q, xs⟩ A3 nd c3 w4.heap.size (by rfl) (by rfl) hn.out (by omega) (hl4.out.below ((Below.refl _ w4).drew.alloc (Nat.le_refl _) _)) (by first | exact h00.out | exact fun _ => rfl) hp.out hq32 (hdat4.out.below ((Below.refl _ w4).drew.alloc (Nat.le_refl _) _)) (heap_alloc_new w4.drew _) ?_
  intro A5 c5 w5 hb5 h51 h52 h53
  replace h53 := Lib.hid h53
  refine hK.out _ _ trivial (fun _ => ?_)
  clear hK K
  try simp only [Act.put, List.setIfInBounds_toArray, List.set_cons_zero, List.set_cons_succ]
  refine wpAnyH_take (i := 9) (oi := { dst := some 6, op := Op.assign (Operand.tmp 57), type := 22, pos := "chain.go:70", after := #[{ on := 8, ground := Ground.data }, { on := 8, ground := Ground.chain }, { on := 0, ground := Ground.phase }, { on := 1, ground := Ground.phase }, { on := 2, ground := Ground.phase }, { on := 3, ground := Ground.phase }, { on := 4, ground := Ground.phase }, { on := 5, ground := Ground.phase }, { on := 6, ground := Ground.phase }, { on := 7, ground := Ground.phase }, { on := 8, ground := Ground.phase }], guard := none }) (v := .slice A5 (0 + 1) c5) rfl (by kernel_rfl) (by kernel_rfl) (by kernel_rfl) (fun _ _ _ h => h) (Or.inl ⟨by rfl, by intro w hSw; go_simp⟩) trivial ?_
  try simp only [Act.put, List.setIfInBounds_toArray, List.set_cons_zero, List.set_cons_succ]
  refine wpAnyH_take (i := 10) (oi := { dst := some 7, op := Op.assign (Operand.const (Value.int IntKind.i64 0)), type := 26, pos := "chain.go:70", after := #[{ on := 9, ground := Ground.chain }, { on := 0, ground := Ground.phase }, { on := 1, ground := Ground.phase }, { on := 2, ground := Ground.phase }, { on := 3, ground := Ground.phase }, { on := 4, ground := Ground.phase }, { on := 5, ground := Ground.phase }, { on := 6, ground := Ground.phase }, { on := 7, ground := Ground.phase }, { on := 8, ground := Ground.phase }, { on := 9, ground := Ground.phase }], guard := none }) (v := .int .i64 0) rfl (by kernel_rfl) (by kernel_rfl) (by kernel_rfl) (fun _ _ _ h => h) (Or.inl ⟨by rfl, by intro w hSw; go_simp⟩) trivial ?_
  try simp only [Act.put, List.setIfInBounds_toArray, List.set_cons_zero, List.set_cons_succ]
  refine wpAnyH_done (by kernel_rfl) ?_ _
  have HB5 := hb4.trans ((((Below.refl w4.heap.size w4).drew.alloc (Nat.le_refl _) (.cells (lkA ⟨node, 0, q, xs⟩ (.slice A3 nd c3)) 37)).trans (hb5.mono (by simp))).mono hb4.size)
  go_wp2
  refine bodyPost_ret (v := .tuple #[.slice A5 (0 + 1) c5, .int .i64 0]) (by simp [results, Tryd.results15, go_sem]) rfl ?_
  exact ⟨A5, c5, rfl, h51, h52, h53.out, HB5⟩
set_option maxRecDepth 100000 in
set_option maxHeartbeats 4000000 in
theorem add_ok0s (n : Nat) (A : Option Addr) (c : Nat) (node : Int) (Ad : Option Addr) (nd cd : Nat) (w : World) (hnm : n < 1000) (hck : Hid (Calls Tryd.prog 21 #[.slice A n c] w fun e w' => e = .returned (.int .i64 0) ∧ Below w.heap.size w w')) (l : List Lk) (xs : List UInt8) (hn : Hid (l.length = n)) (hc : n ≤ c) (hls : Hid (LsAt w A l)) (hp : Hid (∀ y ∈ l, y.prev.length = 32)) (hq32 : (hdC l).length = 32) (h0 : ¬ node < 0) (h1 : ¬ 24 ≤ node) (h3 : nd ≤ 65536) (hH : Hid (∀ V, Below w.heap.size w V → Calls Tryd.prog 20 #[.slice A n c] V fun e w' => e = .returned (.agg (dg (hdC l))) ∧ Below V.heap.size V w')) (hCl : Hid (∀ V, Below w.heap.size w V → Calls Tryd.prog 41 #[.slice Ad nd cd] V fun e w' => ∃ A' c', e = .returned (.slice A' nd c') ∧ DatAt w' (.slice A' nd c') xs ∧ Below V.heap.size V w')) (ad : Addr) (hA : A = some ad) (hn0 : n = 0) :
    Calls Tryd.prog 15 #[.slice A n c, .int .i64 node, .slice Ad nd cd] w fun e w' => ∃ A' c', e = .returned (.tuple #[.slice A' (n + 1) c', .int .i64 0]) ∧ n + 1 ≤ c' ∧ c' ≤ 9223372036854775807 ∧ LsAt w' A' (l ++ [⟨node, n, hdC l, xs⟩]) ∧ Below w.heap.size w w' := by
  have h00 : Hid (A = none → n = 0) := Lib.hid (fun _ => hn0)
  subst hA
  subst hn0
  generalize hqq : hdC l = q at hH hq32 ⊢
  go_enter Tryd.func15, Tryd.ntmps15
  go_wp2_with (first
    | (go_at_call 21; (with_reducible refine hck.out.mono ?_); rintro e w1 ⟨rfl, hb1⟩)
    | (go_at_call 20; (with_reducible refine (hH.out _ hb1).mono ?_); rintro e w2 ⟨rfl, hb2⟩; replace hb2 := hb1.trans (hb2.mono hb1.size))
    | (go_at_call 41; (with_reducible refine (hCl.out _ hb2).mono ?_); rintro e w3 ⟨A3, c3, rfl, hdat3, hb3⟩; replace hb3 := hb2.trans (hb3.mono hb2.size); have hbu := Lib.hid (built_lk ⟨node, 0, q, xs⟩ hq32 A3 nd c3); have hiA := Lib.hid (lk_info (x := ⟨node, 0, q, xs⟩) hq32 (.slice A3 nd c3)); have hiS : Hid (35 = (lkA ⟨node, 0, q, xs⟩ (.slice A3 nd c3)).size) := Lib.hid (lkA_size (x := ⟨node, 0, q, xs⟩) hq32 _).symm; have hiO := Lib.hid (lkA_one ⟨node, 0, q, xs⟩ A3 nd c3); have hiL := Lib.hid (lk_info' (x := ⟨node, 0, q, xs⟩) hq32 (.slice A3 nd c3)); replace hdat3 := Lib.hid hdat3)
    | (refine wpList_buildTo (by rfl) 37 #[(0, .tmp 41), (1, .tmp 43), (2, .tmp 45), (3, .tmp 47)] (by rfl) (some 48) (by rfl) (lkA ⟨node, 0, q, xs⟩ (.slice A3 nd c3)) (by simp only [List.map_toArray, List.map_cons, List.map_nil]; exact hbu.out) ?_)
    | (refine wpList_new_row' (by rfl) 37 (.tmp 8) (.tmp 48) (by rfl) (by rfl) (lkA ⟨node, 0, q, xs⟩ (.slice A3 nd c3)) w3.heap.size (by rfl) rfl (by rfl) 37 _ hiA.out hiS.out hiO.out ?_; intro w4 hd4 hz4 hB4; replace hd4 := Lib.hid hd4; replace hz4 := Lib.hid hz4))
  have hb4 := hb3.trans (hB4.mono hb3.size)
  have hdat4 := Lib.hid (hdat3.out.below hB4)
  have hr4 : Hid (w4.rangeAt w3.heap.size 0 (lkC ⟨node, 0, q, xs⟩ (.slice A3 nd c3))) := Lib.hid (by
    intro j v hj
    rw [cell_of_row _ _ _ _ _ _ hd4.out]
    simpa [lkA] using hj)
  have hl4 := Lib.hid (hls.out.below hb4)
  clear hck hH hCl hdat3 hbu hiA hiS hiO hb1 hb2 hb3 hB4
  refine wp_region_held_drew (S := fun _ => True) (by kernel_rfl) trivial (fun hHeld => ?_)
  refine wpAnyH_take (i := 0) (oi := { dst := some 49, op := Op.move (Operand.tmp 0), type := 22, pos := "chain.go:70", after := #[], guard := none }) (v := .slice (some ad) 0 c) rfl (by kernel_rfl) (by kernel_rfl) (by kernel_rfl) (fun _ _ _ h => h) (Or.inl ⟨by rfl, by intro w hSw; go_simp⟩) trivial ?_
  try simp only [Act.put, List.setIfInBounds_toArray, List.set_cons_zero, List.set_cons_succ]
  refine wpAnyH_take (i := 1) (oi := { dst := some 50, op := Op.move (Operand.tmp 0), type := 22, pos := "chain.go:70", after := #[], guard := none }) (v := .slice (some ad) 0 c) rfl (by kernel_rfl) (by kernel_rfl) (by kernel_rfl) (fun _ _ _ h => h) (Or.inl ⟨by rfl, by intro w hSw; go_simp⟩) trivial ?_
  try simp only [Act.put, List.setIfInBounds_toArray, List.set_cons_zero, List.set_cons_succ]
  refine wpAnyH_take (i := 2) (oi := { dst := some 51, op := Op.call { callee := Callee.builtin Builtin.len, args := #[Operand.tmp 50], argTypes := #[22] }, type := 3, pos := "chain.go:70", after := #[{ on := 1, ground := Ground.data }], guard := none }) (v := .int .i64 0) rfl (by kernel_rfl) (by kernel_rfl) (by kernel_rfl) (fun _ _ _ h => h) (Or.inl ⟨by rfl, by intro w hSw; go_simp⟩) trivial ?_
  try simp only [Act.put, List.setIfInBounds_toArray, List.set_cons_zero, List.set_cons_succ]
  refine wpAnyH_take (i := 3) (oi := { dst := some 52, op := Op.move (Operand.tmp 0), type := 22, pos := "chain.go:70", after := #[], guard := none }) (v := .slice (some ad) 0 c) rfl (by kernel_rfl) (by kernel_rfl) (by kernel_rfl) (fun _ _ _ h => h) (Or.inl ⟨by rfl, by intro w hSw; go_simp⟩) trivial ?_
  try simp only [Act.put, List.setIfInBounds_toArray, List.set_cons_zero, List.set_cons_succ]
  refine wpAnyH_take (i := 4) (oi := { dst := some 53, op := Op.call { callee := Callee.builtin Builtin.len, args := #[Operand.tmp 52], argTypes := #[22] }, type := 3, pos := "chain.go:70", after := #[{ on := 3, ground := Ground.data }], guard := none }) (v := .int .i64 0) rfl (by kernel_rfl) (by kernel_rfl) (by kernel_rfl) (fun _ _ _ h => h) (Or.inl ⟨by rfl, by intro w hSw; go_simp⟩) trivial ?_
  try simp only [Act.put, List.setIfInBounds_toArray, List.set_cons_zero, List.set_cons_succ]
  refine wpAnyH_take (i := 5) (oi := { dst := some 54, op := Op.slice 22 (Operand.tmp 49) none (some (Operand.tmp 51)) (some (Operand.tmp 53)), type := 22, pos := "chain.go:70", after := #[{ on := 0, ground := Ground.data }, { on := 2, ground := Ground.data }, { on := 4, ground := Ground.data }], guard := none }) (v := .slice (some ad) 0 0) rfl (by kernel_rfl) (by kernel_rfl) (by kernel_rfl) (fun _ _ _ h => h) (Or.inl ⟨by rfl, by intro w hSw; go_simp⟩) trivial ?_
  try simp only [Act.put, List.setIfInBounds_toArray, List.set_cons_zero, List.set_cons_succ]
  refine wpAnyH_ready (rs := [6]) (by kernel_rfl) (by simp) (AllReadyH.cons (o := { dst := some 55, op := .load 37 (.tmp 8), type := 37, pos := "chain.go:70", after := #[], guard := none }) (by kernel_rfl) (fun K hK => ?_) AllReadyH.nil)
  rw [if_pos (by rfl)]
  refine wp_load_mid 37 (.tmp 8) (by rfl) w3.heap.size 0 (by rfl) (lkC ⟨node, 0, q, xs⟩ (.slice A3 nd c3)) _ (by have := hr4.out; simpa using this) Tryd.underlying37 (by rfl) hiL.out (hK.out _ _ trivial (fun _ => ?_))
  clear hK K
  try simp only [Act.put, List.setIfInBounds_toArray, List.set_cons_zero, List.set_cons_succ]
  refine wpAnyH_ready (rs := [7]) (by kernel_rfl) (by simp) (AllReadyH.cons (o := { dst := some 56, op := .buildSlice 22 1 #[(0, .tmp 55)], type := 22, pos := "chain.go:70", after := #[{ on := 6, ground := .data }], guard := none }) (by kernel_rfl) (fun K hK => ?_) AllReadyH.nil)
  rw [if_pos (by rfl)]
  refine wp_buildLk (.tmp 55) (by rfl) ⟨node, 0, q, xs⟩ A3 nd c3 hq32 (by rfl) (hK.out _ _ trivial (fun _ => ?_))
  clear hK K
  try simp only [Act.put, List.setIfInBounds_toArray, List.set_cons_zero, List.set_cons_succ]
  refine wpAnyH_ready (rs := [8]) (by kernel_rfl) (by simp) (AllReadyH.cons (o := { dst := some 57, op := .call { callee := .builtin .append, args := #[.tmp 54, .tmp 56], argTypes := #[22, 22] }, type := 22, pos := "chain.go:70", after := #[{ on := 5, ground := .data }, { on := 7, ground := .data }], guard := none }) (by kernel_rfl) (fun K hK => ?_) AllReadyH.nil)
  rw [if_pos (by rfl)]
  refine wp_app_lk _ (.tmp 54) (.tmp 56) (by rfl) l 0 (some ad) ⟨node, 0, q, xs⟩ A3 nd c3 w4.heap.size (by rfl) (by rfl) hn.out (by omega) (hl4.out.below ((Below.refl _ w4).drew.alloc (Nat.le_refl _) _)) (by first | exact h00.out | exact fun _ => rfl) hp.out hq32 (hdat4.out.below ((Below.refl _ w4).drew.alloc (Nat.le_refl _) _)) (heap_alloc_new w4.drew _) ?_
  intro A5 c5 w5 hb5 h51 h52 h53
  replace h53 := Lib.hid h53
  refine hK.out _ _ trivial (fun _ => ?_)
  clear hK K
  try simp only [Act.put, List.setIfInBounds_toArray, List.set_cons_zero, List.set_cons_succ]
  refine wpAnyH_take (i := 9) (oi := { dst := some 6, op := Op.assign (Operand.tmp 57), type := 22, pos := "chain.go:70", after := #[{ on := 8, ground := Ground.data }, { on := 8, ground := Ground.chain }, { on := 0, ground := Ground.phase }, { on := 1, ground := Ground.phase }, { on := 2, ground := Ground.phase }, { on := 3, ground := Ground.phase }, { on := 4, ground := Ground.phase }, { on := 5, ground := Ground.phase }, { on := 6, ground := Ground.phase }, { on := 7, ground := Ground.phase }, { on := 8, ground := Ground.phase }], guard := none }) (v := .slice A5 (0 + 1) c5) rfl (by kernel_rfl) (by kernel_rfl) (by kernel_rfl) (fun _ _ _ h => h) (Or.inl ⟨by rfl, by intro w hSw; go_simp⟩) trivial ?_
  try simp only [Act.put, List.setIfInBounds_toArray, List.set_cons_zero, List.set_cons_succ]
  refine wpAnyH_take (i := 10) (oi := { dst := some 7, op := Op.assign (Operand.const (Value.int IntKind.i64 0)), type := 26, pos := "chain.go:70", after := #[{ on := 9, ground := Ground.chain }, { on := 0, ground := Ground.phase }, { on := 1, ground := Ground.phase }, { on := 2, ground := Ground.phase }, { on := 3, ground := Ground.phase }, { on := 4, ground := Ground.phase }, { on := 5, ground := Ground.phase }, { on := 6, ground := Ground.phase }, { on := 7, ground := Ground.phase }, { on := 8, ground := Ground.phase }, { on := 9, ground := Ground.phase }], guard := none }) (v := .int .i64 0) rfl (by kernel_rfl) (by kernel_rfl) (by kernel_rfl) (fun _ _ _ h => h) (Or.inl ⟨by rfl, by intro w hSw; go_simp⟩) trivial ?_
  try simp only [Act.put, List.setIfInBounds_toArray, List.set_cons_zero, List.set_cons_succ]
  refine wpAnyH_done (by kernel_rfl) ?_ _
  have HB5 := hb4.trans ((((Below.refl w4.heap.size w4).drew.alloc (Nat.le_refl _) (.cells (lkA ⟨node, 0, q, xs⟩ (.slice A3 nd c3)) 37)).trans (hb5.mono (by simp))).mono hb4.size)
  go_wp2
  refine bodyPost_ret (v := .tuple #[.slice A5 (0 + 1) c5, .int .i64 0]) (by simp [results, Tryd.results15, go_sem]) rfl ?_
  exact ⟨A5, c5, rfl, h51, h52, h53.out, HB5⟩

/-- Add, where its arguments are in order -/
theorem add_ok (l : List Lk) (n : Nat) (A : Option Addr) (c : Nat) (node : Int) (xs : List UInt8) (Ad : Option Addr) (nd cd : Nat) (w : World) (hn : l.length = n) (hnm : n < 1000) (hc : n ≤ c) (h0c : A = none → c = 0) (hls : LsAt w A l) (hok : ∀ x ∈ l, LkOk x) (hch : OkL l) (hx : xs.length = nd) (hxd : AtO w Ad xs) (harg : ArgC l node nd) (hL : Laid w) :
    Calls Tryd.prog 15 #[.slice A n c, .int .i64 node, .slice Ad nd cd] w fun e w' => ∃ A' c', e = .returned (.tuple #[.slice A' (n + 1) c', .int .i64 0]) ∧ n + 1 ≤ c' ∧ c' ≤ 9223372036854775807 ∧ LsAt w' A' (l ++ [⟨node, n, hdC l, xs⟩]) ∧ Below w.heap.size w w' := by
  obtain ⟨h1, h2, h3, h4⟩ := harg
  have hck : Hid (Calls Tryd.prog 21 #[.slice A n c] w fun e w' => e = .returned (.int .i64 0) ∧ Below w.heap.size w w') := Lib.hid (by
    have := check_any8 l n A c w hn (by omega) hc hls hok hL
    rw [ckC_ok hch] at this
    exact this)
  have hH : Hid (∀ V, Below w.heap.size w V → Calls Tryd.prog 20 #[.slice A n c] V fun e w' => e = .returned (.agg (dg (hdC l))) ∧ Below V.heap.size V w') := Lib.hid fun V h => head_any l n A c V hn (by omega) hc (hls.below h) hok (hL.below h)
  have hCl : Hid (∀ V, Below w.heap.size w V → Calls Tryd.prog 41 #[.slice Ad nd cd] V fun e w' => ∃ A' c', e = .returned (.slice A' nd c') ∧ DatAt w' (.slice A' nd c') xs ∧ Below V.heap.size V w') := Lib.hid fun V h => clone_any xs Ad nd cd V hx (by omega) (hxd.below h)
  have hp : Hid (∀ y ∈ l, y.prev.length = 32) := Lib.hid fun y hy => (hok y hy).p32
  by_cases n0 : n = 0
  · cases A with
    | none => exact add_ok0 n none c node Ad nd cd w hnm hck l xs (Lib.hid hn) hc (Lib.hid hls) hp (hdC_len l) (by omega) (by omega) h4 hH hCl rfl n0 (h0c rfl)
    | some ad => exact add_ok0s n (some ad) c node Ad nd cd w hnm hck l xs (Lib.hid hn) hc (Lib.hid hls) hp (hdC_len l) (by omega) (by omega) h4 hH hCl ad rfl n0
  · obtain ⟨y, hy⟩ : ∃ y, l[0]? = some y := ⟨_, List.getElem?_eq_getElem (by omega)⟩
    obtain ⟨b1, o1, D, hA, hr, _⟩ := hls 0 y hy
    exact add_ok1 n A c node Ad nd cd w hnm hck l xs (Lib.hid hn) hc (Lib.hid hls) hp (hdC_len l) (by omega) (by omega) h4 hH hCl b1 o1 y.node hA (by omega) (Lib.hid fun V h => by
      have := range_below hr h 0 (.int .i64 y.node) (by simp [lkC])
      simpa using this) (h3 y hy)

/-- Add, where its arguments are not in order -/
theorem add_err (l : List Lk) (n : Nat) (A : Option Addr) (c : Nat) (node : Int) (Ad : Option Addr) (nd cd : Nat) (w : World) (hn : l.length = n) (hnm : n < 1000) (hc : n ≤ c) (hls : LsAt w A l) (hok : ∀ x ∈ l, LkOk x) (hch : OkL l) (harg : ¬ ArgC l node nd) (hL : Laid w) :
    Calls Tryd.prog 15 #[.slice A n c, .int .i64 node, .slice Ad nd cd] w fun e w' => e = .returned (.tuple #[.slice none 0 0, .int .i64 1]) ∧ Below w.heap.size w w' := by
  have hck : Hid (Calls Tryd.prog 21 #[.slice A n c] w fun e w' => e = .returned (.int .i64 0) ∧ Below w.heap.size w w') := Lib.hid (by
    have := check_any8 l n A c w hn (by omega) hc hls hok hL
    rw [ckC_ok hch] at this
    exact this)
  by_cases h1 : node < 0
  · exact add_lo n A c node Ad nd cd w hnm hck h1
  · by_cases h2 : 24 ≤ node
    · exact add_hi n A c node Ad nd cd w hnm hck h1 h2
    · by_cases n0 : n = 0
      · refine add_big0 n A c node Ad nd cd w hnm hck h1 h2 n0 ?_
        apply Classical.byContradiction
        intro h4
        refine harg ⟨by omega, by omega, fun y hy => ?_, by omega⟩
        have := (List.getElem?_eq_some_iff.1 hy).1
        omega
      · obtain ⟨y, hy⟩ : ∃ y, l[0]? = some y := ⟨_, List.getElem?_eq_getElem (by omega)⟩
        obtain ⟨b1, o1, D, hA, hr, _⟩ := hls 0 y hy
        have hc1 : Hid (∀ V, Below w.heap.size w V → V.cell? ⟨b1, o1, none⟩ = some (.int .i64 y.node)) := Lib.hid fun V h => by
          have := range_below hr h 0 (.int .i64 y.node) (by simp [lkC])
          simpa using this
        by_cases h3 : node = y.node
        · refine add_big1 n A c node Ad nd cd w hnm hck h1 h2 b1 o1 y.node hA (by omega) hc1 h3 ?_
          apply Classical.byContradiction
          intro h4
          exact harg ⟨by omega, by omega, fun z hz => by rw [hy] at hz; cases hz; exact h3, by omega⟩
        · exact add_node n A c node Ad nd cd w hnm hck h1 h2 b1 o1 y.node hA (by omega) hc1 h3
end Go.Proofs.YthokpfegfnpmhaaDoor
