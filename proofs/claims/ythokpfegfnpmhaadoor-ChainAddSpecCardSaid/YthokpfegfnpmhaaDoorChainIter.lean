/- The walk of the iterator of a chain's links, each with the head of what is before it. -/
import Derived.Test.YthokpfegfnpmhaaDoorChF
import Derived.Test.YthokpfegfnpmhaaDoorChainLaw
import Derived.Test.YthokpfegfnpmhaaDoorRngA
import Derived.Test.YthokpfegfnpmhaaDoorRoundR
import Derived.Lib.RabinKarpLaws
import Derived.Shelf.RegionOpen
import Derived.LoopIn
import Derived.LoopNIn
import Derived.OwnWalkIn
namespace Go.Proofs.YthokpfegfnpmhaaDoor
open Go.RowKit Go.Shelf Cdc Sha
set_option linter.unusedVariables false
set_option linter.unusedSimpArgs false
attribute [local go_sem] Oper.semAt_some

/-- what is yielded: a link, where its data lies, the head of what is before it -/
abbrev Itm := Lk × Value × List UInt8
abbrev itEncs (x : Itm) : Array Value := #[.agg (lkA x.1 x.2.1), .agg (dg x.2.2)]
def ItNx (l : List Lk) (pre : List Itm) (x : Itm) : Prop := l[pre.length]? = some x.1 ∧ x.2.2 = hdC (l.take pre.length) ∧ ∃ A c, x.2.1 = .slice A x.1.data.length c

set_option maxRecDepth 100000 in
set_option maxHeartbeats 2000000 in
theorem begin_seq (n0 : Nat) (hn0 : 1 ≤ n0) (l : List Lk) (m : Nat) (A : Option Addr) (c b : Nat) (w0 W : World) (own : Nat → Prop) (hn : l.length = m) (hm : m ≤ 1000) (hc : m ≤ c)
    (hls : LsAt w0 A l) (hok : ∀ x ∈ l, LkOk x) (hL : Laid w0) (hbW : Below w0.heap.size w0 W) (hown : ∀ k, own k → w0.heap.size ≤ k) (hob : ¬ own b) (hbox : W.cell? ⟨b, 0, none⟩ = some (.slice A m c)) :
    SeqX Fence.wide n0 Tryd.prog 74 #[.pointer (some ⟨b, 0, none⟩)] itEncs
      (ItNx l) (fun A B => Below A.heap.size A B) (Only own) (fun xs => xs.length = m) (fun _ => True) W := by
  intro r J Jx hJ hJx hY h0
  have hmx : Tryd.prog.follows .mixedOrders = true := by kernel_rfl
  refine callsIn_of_wp Tryd.func74 rfl trivial ?_ rfl
  simp only [Tryd.ntmps74, List.size_toArray, List.length_cons, List.length_nil, Nat.reduceAdd, Nat.reduceSub, Array.replicate_succ, Array.replicate_zero, List.push_toArray, List.append_toArray, List.nil_append, List.cons_append]
  have hblt := World.block_lt_of_cell? W _ hbox
  replace hls := Lib.hid hls
  replace hok := Lib.hid hok
  replace hL := Lib.hid hL
  replace hY := Lib.hid hY
  gi_wp2
  gi_loopw [7] (fun s wr => ∃ pre : List Itm, s = .int .i64 (pre.length : Nat) ∧ pre.length ≤ m ∧ J pre wr ∧ Only own W wr) (fun s _ => m - (intOf s).toNat)
  case atStart => exact ⟨[], rfl, Nat.zero_le _, h0, Only.refl _ _⟩
  case round =>
    obtain ⟨pre, rfl, hpm, hJs, hon⟩ := hrel
    obtain ⟨i, hi⟩ : ∃ i, pre.length = i := ⟨_, rfl⟩
    rw [hi] at hpm ⊢
    have hbox2 : wr.cell? ⟨b, 0, none⟩ = some (.slice A m c) := (World.cell?_of_block (w := W) (a := ⟨b, 0, none⟩) (hon.block b hblt hob)).trans hbox
    have hbw : Below w0.heap.size w0 wr := hbW.trans (hon.below hbW.size (fun k hk ho => by have := hown k ho; omega))
    by_cases hlt : i < m
    · obtain ⟨x, hx⟩ : ∃ x, l[i]? = some x := ⟨_, List.getElem?_eq_getElem (by omega)⟩
      have hxo := hok.out x (List.mem_of_getElem? hx)
      obtain ⟨b1, o1, D, hA, hr, A2, c2, hD, hdl, hdc, hdat⟩ := hls.out i x hx
      subst hA hD
      have hr2 := Lib.hid (range_below hr hbw)
      have hiL := Lib.hid (lk_info' hxo.p32 (.slice A2 x.data.length c2))
      have hiA := Lib.hid (lk_info hxo.p32 (.slice A2 x.data.length c2))
      have hiS : Hid (35 = (lkA x (.slice A2 x.data.length c2)).size) := Lib.hid (lkA_size hxo.p32 _).symm
      have hiO := Lib.hid (lkA_one x A2 x.data.length c2)
      have hbltr := World.block_lt_of_cell? wr _ hbox2
      clear hr hdat hdl
      replace hi := Lib.hid hi
      gi_wp2_with (first
        | (refine wpListIn_of_wp (by rfl) (wp_load_mid 37 (.tmp 10) (by rfl) b1 (o1 + i * 35) (by rfl) (lkC x (.slice A2 x.data.length c2)) _ hr2.out Tryd.underlying37 (by rfl) hiL.out ?_))
        | (refine wpListIn_of_wp (by rfl) (wp_new_row' 37 (.tmp 4) (.tmp 11) (by rfl) (by rfl) (lkA x (.slice A2 x.data.length c2)) wr.heap.size (by rfl) rfl (by rfl) 37 _ hiA.out hiS.out hiO.out ?_); intro w3 hd3 hz3 hB3; replace hd3 := Lib.hid hd3; replace hz3 := Lib.hid hz3))
      have hdw : Below w0.heap.size w0 w3 := hbw.trans (hB3.mono hbw.size)
      have hX : Hid (∀ W1, Below w3.heap.size w3 W1 → W1.rangeAt wr.heap.size 0 (lkC x (.slice A2 x.data.length c2))) := Lib.hid fun W1 hW => by
        intro j v hj
        have hh := (hW.block wr.heap.size (by have := hz3.out; omega)).trans hd3.out
        rw [cell_of_row W1 wr.heap.size _ _ _ _ hh]
        simpa [lkA] using hj
      obtain ⟨q, hq⟩ : ∃ q, hdC (l.take i) = q := ⟨_, rfl⟩
      have hH : Hid (∀ W1, Below w3.heap.size w3 W1 → Calls Tryd.prog 20 #[.slice (some ⟨b1, o1, none⟩) i c] W1 fun e w' => e = .returned (.agg (dg q)) ∧ Below W1.heap.size W1 w') := Lib.hid fun W1 hW => by
        have hb9 := hdw.trans (hW.mono hdw.size)
        rw [← hq]
        exact head_any (l.take i) i _ c W1 (by rw [List.length_take]; omega) (by omega) (by omega) ((hls.out.take i).below hb9) (fun y hy => hok.out y (List.mem_of_mem_take hy)) (hL.out.below hb9)
      have hYY : Hid (∀ W1, Below w3.heap.size w3 W1 → YieldAt Fence.wide (n0 - 1) Tryd.prog r #[.agg (lkC x (.slice A2 x.data.length c2)).toArray, .agg (dg q)] W1 fun e W' =>
          ∃ t : Bool, e = .returned (.bool t) ∧ ((t = true ∧ J (pre ++ [(x, .slice A2 x.data.length c2, q)]) W' ∧ Only own W1 W') ∨ (t = false ∧ Jx (pre ++ [(x, .slice A2 x.data.length c2, q)]) W'))) := Lib.hid fun W1 hW => by
        refine (hY.out pre (x, .slice A2 x.data.length c2, q) W1 (hJ _ _ _ hJs (hB3.trans (hW.mono hB3.size))) ⟨by rw [hi.out]; exact hx, by rw [hi.out]; exact hq.symm, A2, c2, rfl⟩).mono ?_
        rintro e W' (⟨rfl, h1, h2⟩ | ⟨rfl, h1⟩)
        · exact ⟨true, rfl, .inl ⟨rfl, h1, h2⟩⟩
        · exact ⟨false, rfl, .inr ⟨rfl, h1⟩⟩
      have HB : Below w3.heap.size w3 w3.drew := (Below.refl _ _).drew
      have hb3 : w3.cell? ⟨b, 0, none⟩ = some (.slice (some ⟨b1, o1, none⟩) m c) := (hB3.cell hbltr).trans hbox2
      have hic : i ≤ c := by omega
      have hon3 := Lib.hid (hon.trans (Only.of_below (own := own) hB3))
      clear hbox hbox2 hr2 hiA hiS hiO hls hok hL hY hd3 hB3 hdw
      refine Code.wpIn_mono (Q := fun e a W5 => e = .normal ∧ ∃ (t : Bool) (W4 : World), a = { tmps := #[.func (.yield r) #[] #[], .pointer (some ⟨b, 0, none⟩), undef, .int .i64 i, .pointer (some ⟨wr.heap.size, 0, none⟩), .slice (some ⟨b1, o1, none⟩) m c, .int .i64 m, .int .i64 i, .bool true, .int .i64 i, .pointer (some ⟨b1, o1 + i * 35, none⟩), .agg (lkC x (.slice A2 x.data.length c2)).toArray, .func (.yield r) #[] #[], .agg (lkC x (.slice A2 x.data.length c2)).toArray, .slice (some ⟨b1, o1, none⟩) m c, .int .i64 i, .slice (some ⟨b1, o1, none⟩) i c, .agg (dg q), .bool t, .bool (!t), u20], defers := [] } ∧ Below w3.heap.size w3 W4 ∧
        ((t = true ∧ J (pre ++ [(x, .slice A2 x.data.length c2, q)]) W5 ∧ Only own W4 W5) ∨ (t = false ∧ Jx (pre ++ [(x, .slice A2 x.data.length c2, q)]) W5))) ?_ ?key
      case key =>
        refine wpIn_region_any hmx ?_
        change wpAnyIn _ _ _ _ _ _ _ _ _ (World.drew _)
        refine wpAnyIn_take (i := 0) (v := .func (.yield r) #[] #[]) rfl rfl (by kernel_rfl) (by kernel_rfl) (by kernel_rfl) (by intro _ _ _ h; cases h.1) ⟨Or.inl ⟨by rfl, by intro w; go_simp⟩, fun _ => rfl⟩ ?_
        refine wpAnyIn_take (i := 3) (v := .int .i64 i) rfl rfl (by kernel_rfl) (by kernel_rfl) (by kernel_rfl) (by intro _ _ _ h; cases h.1) ⟨Or.inl ⟨by rfl, by intro w; go_simp⟩, fun _ => rfl⟩ ?_
        refine wpAnyIn_ready (rs := [1, 2]) (by kernel_rfl) (by simp) (AllReadyIn.cons rfl (fun K hK => ?_) (AllReadyIn.cons rfl (fun K hK => ?_) AllReadyIn.nil))
        · rw [if_pos (by rfl)]
          refine Oper.wpIn_of_wp (wp_load_mid 37 (.tmp 4) (by rfl) wr.heap.size 0 (by rfl) (lkC x (.slice A2 x.data.length c2)) _ (hX.out _ HB) Tryd.underlying37 (by rfl) hiL.out (hK _ _ ?_)); clear hK K
          refine wpAnyIn_ready (rs := [2]) (by kernel_rfl) (by simp) (AllReadyIn.cons rfl (fun K hK => ?_) AllReadyIn.nil)
          rw [if_pos (by rfl)]
          go_simp; refine hK _ _ ?_; clear hK K
          refine wpAnyIn_take (i := 4) (v := .slice (some ⟨b1, o1, none⟩) i c) rfl rfl (by kernel_rfl) (by kernel_rfl) (by kernel_rfl) (by intro _ _ _ h; cases h.1) ⟨Or.inl ⟨by rfl, by intro w; go_simp⟩, fun _ => rfl⟩ ?_
          refine wpAnyIn_ready (rs := [5]) (by kernel_rfl) (by simp) (AllReadyIn.cons rfl (fun K hK => ?_) AllReadyIn.nil)
          rw [if_pos (by rfl)]
          go_simp; refine ⟨trivial, ?_⟩; gi_at_call 20; refine (callsIn_wide.2 (hH.out _ HB)).mono ?_; rintro e w4 ⟨rfl, hb⟩; replace HB := HB.trans (hb.mono HB.size); clear hb; obtain ⟨fn, tm, asg, bd, hy, hR⟩ := hYY.out w4 HB; refine hK _ _ ?_; clear hK K
          refine wpAnyIn_ready (rs := [6]) (by kernel_rfl) (by simp) (AllReadyIn.cons rfl (fun K hK => ?_) AllReadyIn.nil)
          rw [if_pos (by rfl)]
          go_simp; refine hR.mono ?_; rintro e w5 ⟨t, rfl, ht⟩; refine hK _ _ ?_; clear hK K
          refine wpAnyIn_take (i := 7) (v := .bool (!t)) rfl rfl (by kernel_rfl) (by kernel_rfl) (by kernel_rfl) (by intro _ _ _ h; cases h.1) ⟨Or.inl ⟨by rfl, by intro w; go_simp⟩, fun _ => rfl⟩ ?_
          exact wpAnyIn_done (by kernel_rfl) ⟨rfl, t, w4, rfl, HB, ht⟩ _
        · rw [if_pos (by rfl)]
          go_simp; refine hK _ _ ?_; clear hK K
          refine wpAnyIn_take (i := 4) (v := .slice (some ⟨b1, o1, none⟩) i c) rfl rfl (by kernel_rfl) (by kernel_rfl) (by kernel_rfl) (by intro _ _ _ h; cases h.1) ⟨Or.inl ⟨by rfl, by intro w; go_simp⟩, fun _ => rfl⟩ ?_
          refine wpAnyIn_ready (rs := [1, 5]) (by kernel_rfl) (by simp) (AllReadyIn.cons rfl (fun K hK => ?_) (AllReadyIn.cons rfl (fun K hK => ?_) AllReadyIn.nil))
          · rw [if_pos (by rfl)]
            refine Oper.wpIn_of_wp (wp_load_mid 37 (.tmp 4) (by rfl) wr.heap.size 0 (by rfl) (lkC x (.slice A2 x.data.length c2)) _ (hX.out _ HB) Tryd.underlying37 (by rfl) hiL.out (hK _ _ ?_)); clear hK K
            refine wpAnyIn_ready (rs := [5]) (by kernel_rfl) (by simp) (AllReadyIn.cons rfl (fun K hK => ?_) AllReadyIn.nil)
            rw [if_pos (by rfl)]
            go_simp; refine ⟨trivial, ?_⟩; gi_at_call 20; refine (callsIn_wide.2 (hH.out _ HB)).mono ?_; rintro e w4 ⟨rfl, hb⟩; replace HB := HB.trans (hb.mono HB.size); clear hb; obtain ⟨fn, tm, asg, bd, hy, hR⟩ := hYY.out w4 HB; refine hK _ _ ?_; clear hK K
            refine wpAnyIn_ready (rs := [6]) (by kernel_rfl) (by simp) (AllReadyIn.cons rfl (fun K hK => ?_) AllReadyIn.nil)
            rw [if_pos (by rfl)]
            go_simp; refine hR.mono ?_; rintro e w5 ⟨t, rfl, ht⟩; refine hK _ _ ?_; clear hK K
            refine wpAnyIn_take (i := 7) (v := .bool (!t)) rfl rfl (by kernel_rfl) (by kernel_rfl) (by kernel_rfl) (by intro _ _ _ h; cases h.1) ⟨Or.inl ⟨by rfl, by intro w; go_simp⟩, fun _ => rfl⟩ ?_
            exact wpAnyIn_done (by kernel_rfl) ⟨rfl, t, w4, rfl, HB, ht⟩ _
          · rw [if_pos (by rfl)]
            go_simp; refine ⟨trivial, ?_⟩; gi_at_call 20; refine (callsIn_wide.2 (hH.out _ HB)).mono ?_; rintro e w4 ⟨rfl, hb⟩; replace HB := HB.trans (hb.mono HB.size); clear hb; obtain ⟨fn, tm, asg, bd, hy, hR⟩ := hYY.out w4 HB; refine hK _ _ ?_; clear hK K
            refine wpAnyIn_ready (rs := [1]) (by kernel_rfl) (by simp) (AllReadyIn.cons rfl (fun K hK => ?_) AllReadyIn.nil)
            rw [if_pos (by rfl)]
            refine Oper.wpIn_of_wp (wp_load_mid 37 (.tmp 4) (by rfl) wr.heap.size 0 (by rfl) (lkC x (.slice A2 x.data.length c2)) _ (hX.out _ HB) Tryd.underlying37 (by rfl) hiL.out (hK _ _ ?_)); clear hK K
            refine wpAnyIn_ready (rs := [6]) (by kernel_rfl) (by simp) (AllReadyIn.cons rfl (fun K hK => ?_) AllReadyIn.nil)
            rw [if_pos (by rfl)]
            go_simp; refine hR.mono ?_; rintro e w5 ⟨t, rfl, ht⟩; refine hK _ _ ?_; clear hK K
            refine wpAnyIn_take (i := 7) (v := .bool (!t)) rfl rfl (by kernel_rfl) (by kernel_rfl) (by kernel_rfl) (by intro _ _ _ h; cases h.1) ⟨Or.inl ⟨by rfl, by intro w; go_simp⟩, fun _ => rfl⟩ ?_
            exact wpAnyIn_done (by kernel_rfl) ⟨rfl, t, w4, rfl, HB, ht⟩ _
      rintro _ _ w5 ⟨rfl, t, w4, rfl, hb4, ht⟩
      rcases ht with ⟨rfl, hJ5, hk5⟩ | ⟨rfl, hJx5⟩
      · have hon5 := hon3.out.trans ((Only.of_below (own := own) (hb4.mono (Nat.le_refl _))).trans hk5)
        have hlen : (pre ++ [(x, Value.slice A2 x.data.length c2, q)]).length = i + 1 := by rw [List.length_append, hi.out]; rfl
        replace hlen := Lib.hid hlen
        gi_wp2
        go_roundw
        case rel => exact ⟨pre ++ [(x, Value.slice A2 x.data.length c2, q)], by rw [hlen.out]; go_num, by rw [hlen.out]; omega, hJ5, hon5⟩
        case measure => simp [intOf]; omega
      · gi_wp2
        refine bodyPost_ret (results_none rfl _ _ _) rfl ?_
        exact ⟨⟨_, rfl⟩, .inr ⟨_, trivial, hJx5⟩⟩
    · have e : i = m := by omega
      subst e
      gi_wp2
      go_end0
      exact ⟨⟨_, rfl⟩, .inl ⟨pre, by omega, hJs⟩⟩
end Go.Proofs.YthokpfegfnpmhaaDoor
