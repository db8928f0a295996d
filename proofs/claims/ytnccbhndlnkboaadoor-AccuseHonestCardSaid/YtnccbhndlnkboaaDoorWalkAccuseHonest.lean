/- The statement AccuseHonest, at arguments that lie in memory. -/
import Derived.Test.YtnccbhndlnkboaaDoorWHonest
namespace Go.Proofs.YtnccbhndlnkboaaDoor
open Go.RowKit Go.Shelf Cdc Sha
set_option linter.unusedVariables false
set_option linter.unusedSimpArgs false

theorem walk_AccuseHonest (a0 : Sd) (B0 : Option Addr) (cb0 : Nat) (S0 : Option Addr) (cs0 : Nat) (A0 : Option Addr) (c0 : Nat) (w : World) (sd0 : SdI a0) (ls0 : a0.bl.length ≤ cb0 ∧ a0.sl.length ≤ cs0 ∧ a0.more.length ≤ c0) (bo0 : BoAt w B0 a0.bl) (in0 : InAt w S0 a0.sl) (os0 : OsAt w A0 a0.more) (hL : Laid w) :
    Calls Tryd.prog 8 #[.agg (sdA a0 B0 cb0 S0 cs0 A0 c0)] w fun e w' => e = .returned (.bool true) ∧ Below w.heap.size w w' := by
  obtain ⟨t, f, bl, sl, u, told, no, du, ti, mo⟩ := a0
  obtain ⟨l1, l2, l3⟩ := ls0
  obtain ⟨nb, hnb⟩ : ∃ nb, bl.length = nb := ⟨_, rfl⟩
  unfold sdA
  dsimp only at l1 l2 l3 bo0 in0 os0 ⊢
  rw [hnb] at l1 ⊢
  by_cases c1 : fewS nb sl.length = true
  · by_cases c2 : nb = 0
    · exact hon_none t f u no du ti bl sl told mo nb _ _ cb0 cs0 c0 B0 S0 A0 sd0 hnb rfl rfl l1 l2 l3 w bo0 in0 os0 hL (c2 ▸ c1) c2
    · have c2' : 0 < nb := by omega
      by_cases c3 : 64 < nb
      · exact hon_long t f u no du ti bl sl told mo nb _ _ cb0 cs0 c0 B0 S0 A0 sd0 hnb rfl rfl l1 l2 l3 w bo0 in0 os0 hL c1 c2' c3
      · by_cases c4 : few41 mo = true
        · by_cases c5 : 63 < mo.length
          · exact hon_many t f u no du ti bl sl told mo nb _ _ cb0 cs0 c0 B0 S0 A0 sd0 hnb rfl rfl l1 l2 l3 w bo0 in0 os0 hL c1 c2' c3 c4 c5
          · by_cases c6 : opE t f nb sl.length sl = 0
            · have h0 : 0 ≤ u := sd0.lo
              obtain ⟨i, hi⟩ : ∃ i : Nat, u % (nb : Int) = (i : Int) := ⟨(u % (nb : Int)).toNat, by have := Int.emod_nonneg u (b := (nb : Int)) (by omega); omega⟩
              have hlt : i < nb := by have := Int.emod_lt_of_pos u (b := (nb : Int)) (by omega); omega
              obtain ⟨b, hb⟩ : ∃ b, bl[i]? = some b := ⟨_, List.getElem?_eq_getElem (by omega)⟩
              obtain ⟨gB, oB, hB, hcB⟩ := bo0 i b hb
              subst hB
              exact hon_main gB oB t f u no du ti bl sl told mo nb _ _ cb0 cs0 c0 S0 A0 sd0 hnb rfl rfl l1 l2 l3 w bo0 in0 os0 hL i (f + (i : Int)) b c1 c2' c3 c4 c5 c6 hlt rfl hb hcB (by rw [Int.tmod_eq_emod_of_nonneg h0]; exact hi) hi
            · exact hon_err t f u no du ti bl sl told mo nb _ _ cb0 cs0 c0 B0 S0 A0 sd0 hnb rfl rfl l1 l2 l3 w bo0 in0 os0 hL c1 c2' c3 c4 c5 c6
        · exact hon_more t f u no du ti bl sl told mo nb _ _ cb0 cs0 c0 B0 S0 A0 sd0 hnb rfl rfl l1 l2 l3 w bo0 in0 os0 hL c1 c2' c3 (by simpa using c4)
  · exact hon_few t f u no du ti bl sl told mo nb _ _ cb0 cs0 c0 B0 S0 A0 sd0 hnb rfl rfl l1 l2 l3 w bo0 in0 os0 hL (by simpa using c1)
end Go.Proofs.YtnccbhndlnkboaaDoor
