/- What is proved here: the law FnExactUnder answers true. Conditions: none. -/
import Derived.Test.YtchjcllpnpibeaaXP
import Derived.Test.YtchjcllpnpibeaaXK
import Derived.StillTailTactics
import Derived.Deep.RegionWith
namespace Go.Proofs.Ytchjcllpnpibeaa.X
open Go.RowKit Go.Sort
set_option linter.unusedVariables false
set_option linter.unusedSimpArgs false
open Ty
set_option maxRecDepth 100000 in
theorem laws_FnExactUnder {w : World} (s : ByteArray) (hq0 : s.size ≤ 140737488351232) (B1 : Nat) (A1 : Option Addr) (c1 : Nat) (l : List JOp) (hv1 : l.length ≤ c1) (hk1 : (tOp (B1 + 1)).C w A1 l) :
    Calls Try.prog 23 #[.string s, .slice A1 l.length c1] w fun e w' => e = .returned (.bool true) ∧ Below w.heap.size w w' := by
  obtain ⟨m, hm⟩ : ∃ m : Nat, B1 ≤ m := ⟨B1, by omega⟩
  replace hk1 : (tOp (m + 1)).C w A1 l := (tOp_le (by omega : B1 + 1 ≤ m + 1)).C hk1
  clear hm
  obtain ⟨y, hy⟩ : ∃ z, z = underL s l := ⟨_, rfl⟩
  have Hy := Hd.mk hy; clear hy
  have hm1 := hk1.1
  have hK1 := Hd.mk hk1; clear hk1
  go_enter Try.func23, Try.ntmps23
  by_cases hs0 : (1048576 : Int) < (s.size : Int)
  · go_wp2_with fail
    go_ret
    exact ⟨rfl, by (repeat (with_reducible refine below_alloc ?_ _)); exact Below.refl _ _⟩
  go_wp2_with fail
  apply calls_gen; intro W0 hW
  have hE : Below w.heap.size w W0 := by rw [hW]; (repeat (with_reducible refine below_alloc ?_ _)); exact Below.refl _ _
  clear hW
  have hB := Hd.mk hE; clear hE
  refine (laws_szOpS _ _ l _ _ (C_below hK1.out hB.out) (by omega) (by omega)).mono ?_
  rintro e w1 ⟨rfl, hX⟩
  replace hB := Hd.mk (below_then hB.out hX)
  clear hX
  by_cases hz1 : szR 1048576 (bulkOpS (m + 1) l) < 0
  · go_wp2_with fail
    go_ret
    exact ⟨rfl, hB.out⟩
  have HL1 := Hd.mk (szR_le (Int.not_lt.1 hz1) (by omega))
  have hy1 := HL1.out.2.1
  have hx1 := HL1.out.2.2.1
  clear hz1
  go_wp2_with fail
  have hx_1 : ((bulkL (cnOp (m + 1)) l : Int) : Int) ≤ 8388608 := by have := cnt_Ops m l; have := HL1.out.1; omega
  have hx_y : ((bulkL (cnOp (m + 1)) y : Int) : Int) ≤ 1099511627776 := by (rw [Hy.out]; have h1 := cnt_under (m + 1) s l; have h2 := cnt_Ops m l; have h3 := HL1.out.1; have h4 := cnt_opsLen (m + 1) l; omega)
  apply calls_gen; intro W2 hW
  have hE : Below w1.heap.size w1 W2 := by rw [hW]; (repeat (first | with_reducible refine below_alloc ?_ _ | with_reducible refine below_drew ?_)); exact Below.refl _ _
  clear hW
  replace hB := Hd.mk (below_then hB.out hE)
  clear hE
  refine (laws_toOpS _ _ l _ (C_below hK1.out hB.out) HL1.out.1).mono ?_
  rintro e w3 ⟨v_, rfl, hO, hX⟩
  have as1 := Hd.mk hB.out.size
  replace hB := Hd.mk (below_then hB.out hX)
  clear hX
  replace hO := R_bound hO
  obtain ⟨As1, cs1, hvs1, hcs1, _⟩ := R_C hO
  subst hvs1
  have s1 := Hd.mk (show (tOp (m + 1)).R 105 w3 (rng W2.heap.size w3.heap.size) (.slice As1 l.length cs1) l from hO); clear hO
  have hms1 := (R_Cv s1.out).1
  have es1 := Hd.mk (Nat.le_refl w3.heap.size)
  go_wp2_with fail
  apply calls_gen; intro W4 hW
  have hE : Below w3.heap.size w3 W4 := by rw [hW]; (repeat (first | with_reducible refine below_alloc ?_ _ | with_reducible refine below_drew ?_)); exact Below.refl _ _
  clear hW
  replace s1 := Hd.mk (R_below s1.out hE)
  replace es1 := Hd.mk (Nat.le_trans es1.out hE.size)
  replace hB := Hd.mk (below_then hB.out hE)
  clear hE
  refine (spec_Under s (by omega) _ _ l _ (R_Cv s1.out) (by have := HL1.out.1; omega)).mono ?_
  rintro e w5 ⟨v_, rfl, hO, hX⟩
  have ds1_w0 := Hd.mk es1.out
  have aw0 := Hd.mk hB.out.size
  replace s1 := Hd.mk (R_below s1.out hX)
  replace es1 := Hd.mk (Nat.le_trans es1.out hX.size)
  replace hB := Hd.mk (below_then hB.out hX)
  clear hX
  rw [← Hy.out] at hO
  replace hO := R_bound hO
  obtain ⟨Aw0, cw0, hvw0, hcw0, _⟩ := R_C hO
  subst hvw0
  have w0 := Hd.mk (show (tOp (m + 1)).R 105 w5 (rng W4.heap.size w5.heap.size) (.slice Aw0 y.length cw0) y from hO); clear hO
  have hmw0 := (R_Cv w0.out).1
  have ew0 := Hd.mk (Nat.le_refl w5.heap.size)
  clear s1 es1
  go_wp2_with fail
  apply calls_gen; intro W6 hW
  have hE : Below w5.heap.size w5 W6 := by rw [hW]; (repeat (first | with_reducible refine below_alloc ?_ _ | with_reducible refine below_drew ?_)); exact Below.refl _ _
  clear hW
  replace w0 := Hd.mk (R_below w0.out hE)
  replace ew0 := Hd.mk (Nat.le_trans ew0.out hE.size)
  replace hB := Hd.mk (below_then hB.out hE)
  clear hE
  refine (laws_toOpS _ _ l _ (C_below hK1.out hB.out) HL1.out.1).mono ?_
  rintro e w7 ⟨v_, rfl, hO, hX⟩
  have dw0_x1 := Hd.mk ew0.out
  have ax1 := Hd.mk hB.out.size
  replace w0 := Hd.mk (R_below w0.out hX)
  replace ew0 := Hd.mk (Nat.le_trans ew0.out hX.size)
  replace hB := Hd.mk (below_then hB.out hX)
  clear hX
  replace hO := R_bound hO
  obtain ⟨Ax1, cx1, hvx1, hcx1, _⟩ := R_C hO
  subst hvx1
  have x1 := Hd.mk (show (tOp (m + 1)).R 105 w7 (rng W6.heap.size w7.heap.size) (.slice Ax1 l.length cx1) l from hO); clear hO
  have hmx1 := (R_Cv x1.out).1
  have ex1 := Hd.mk (Nat.le_refl w7.heap.size)
  go_wp2_with fail
  apply calls_gen; intro W8 hW
  have hE : Below w7.heap.size w7 W8 := by rw [hW]; (repeat (first | with_reducible refine below_alloc ?_ _ | with_reducible refine below_drew ?_)); exact Below.refl _ _
  clear hW
  replace w0 := Hd.mk (R_below w0.out hE)
  replace ew0 := Hd.mk (Nat.le_trans ew0.out hE.size)
  replace x1 := Hd.mk (R_below x1.out hE)
  replace ex1 := Hd.mk (Nat.le_trans ex1.out hE.size)
  replace hB := Hd.mk (below_then hB.out hE)
  clear hE
  refine (impl_Under s (by omega) _ _ l _ (R_Cv x1.out) (by have := HL1.out.1; omega)).mono ?_
  rintro e w9 ⟨v_, rfl, hO, hX⟩
  have dw0_g0 := Hd.mk ew0.out
  have dx1_g0 := Hd.mk ex1.out
  have ag0 := Hd.mk hB.out.size
  replace w0 := Hd.mk (R_below w0.out hX)
  replace ew0 := Hd.mk (Nat.le_trans ew0.out hX.size)
  replace x1 := Hd.mk (R_below x1.out hX)
  replace ex1 := Hd.mk (Nat.le_trans ex1.out hX.size)
  replace hB := Hd.mk (below_then hB.out hX)
  clear hX
  rw [← Hy.out] at hO
  replace hO := R_bound hO
  obtain ⟨Ag0, cg0, hvg0, hcg0, _⟩ := R_C hO
  subst hvg0
  have g0 := Hd.mk (show (tOp (m + 1)).R 105 w9 (rng W8.heap.size w9.heap.size) (.slice Ag0 y.length cg0) y from hO); clear hO
  have hmg0 := (R_Cv g0.out).1
  have eg0 := Hd.mk (Nat.le_refl w9.heap.size)
  go_wp2_with fail
  apply calls_gen; intro W10 hW
  have hE : Below w9.heap.size w9 W10 := by rw [hW]; (repeat (first | with_reducible refine below_alloc ?_ _ | with_reducible refine below_drew ?_)); exact Below.refl _ _
  clear hW
  replace w0 := Hd.mk (R_below w0.out hE)
  replace ew0 := Hd.mk (Nat.le_trans ew0.out hE.size)
  replace x1 := Hd.mk (R_below x1.out hE)
  replace ex1 := Hd.mk (Nat.le_trans ex1.out hE.size)
  replace g0 := Hd.mk (R_below g0.out hE)
  replace eg0 := Hd.mk (Nat.le_trans eg0.out hE.size)
  replace hB := Hd.mk (below_then hB.out hE)
  clear hE
  refine (laws_eqOpS _ _ _ _ y y _ (R_Cv g0.out) (R_Cv w0.out)).mono ?_
  rintro e w11 ⟨rfl, hX⟩
  replace w0 := Hd.mk (R_below w0.out hX)
  replace ew0 := Hd.mk (Nat.le_trans ew0.out hX.size)
  replace x1 := Hd.mk (R_below x1.out hX)
  replace ex1 := Hd.mk (Nat.le_trans ex1.out hX.size)
  replace g0 := Hd.mk (R_below g0.out hX)
  replace eg0 := Hd.mk (Nat.le_trans eg0.out hX.size)
  replace hB := Hd.mk (below_then hB.out hX)
  clear hX
  rw [eqv_self]
  go_wp2_with fail
  apply calls_gen; intro W12 hW
  have hE : Below w11.heap.size w11 W12 := by rw [hW]; (repeat (first | with_reducible refine below_alloc ?_ _ | with_reducible refine below_drew ?_)); exact Below.refl _ _
  clear hW
  replace w0 := Hd.mk (R_below w0.out hE)
  replace ew0 := Hd.mk (Nat.le_trans ew0.out hE.size)
  replace x1 := Hd.mk (R_below x1.out hE)
  replace ex1 := Hd.mk (Nat.le_trans ex1.out hE.size)
  replace g0 := Hd.mk (R_below g0.out hE)
  replace eg0 := Hd.mk (Nat.le_trans eg0.out hE.size)
  replace hB := Hd.mk (below_then hB.out hE)
  clear hE
  refine (laws_toOpS _ _ l _ (C_below hK1.out hB.out) HL1.out.1).mono ?_
  rintro e w13 ⟨v_, rfl, hO, hX⟩
  have dw0_t1 := Hd.mk ew0.out
  have dx1_t1 := Hd.mk ex1.out
  have dg0_t1 := Hd.mk eg0.out
  have at1 := Hd.mk hB.out.size
  replace w0 := Hd.mk (R_below w0.out hX)
  replace ew0 := Hd.mk (Nat.le_trans ew0.out hX.size)
  replace x1 := Hd.mk (R_below x1.out hX)
  replace ex1 := Hd.mk (Nat.le_trans ex1.out hX.size)
  replace g0 := Hd.mk (R_below g0.out hX)
  replace eg0 := Hd.mk (Nat.le_trans eg0.out hX.size)
  replace hB := Hd.mk (below_then hB.out hX)
  clear hX
  replace hO := R_bound hO
  obtain ⟨At1, ct1, hvt1, hct1, _⟩ := R_C hO
  subst hvt1
  have t1 := Hd.mk (show (tOp (m + 1)).R 105 w13 (rng W12.heap.size w13.heap.size) (.slice At1 l.length ct1) l from hO); clear hO
  have hmt1 := (R_Cv t1.out).1
  have et1 := Hd.mk (Nat.le_refl w13.heap.size)
  go_wp2_with fail
  apply calls_gen; intro W14 hW
  have hE : Below w13.heap.size w13 W14 := by rw [hW]; (repeat (first | with_reducible refine below_alloc ?_ _ | with_reducible refine below_drew ?_)); exact Below.refl _ _
  clear hW
  replace w0 := Hd.mk (R_below w0.out hE)
  replace ew0 := Hd.mk (Nat.le_trans ew0.out hE.size)
  replace x1 := Hd.mk (R_below x1.out hE)
  replace ex1 := Hd.mk (Nat.le_trans ex1.out hE.size)
  replace g0 := Hd.mk (R_below g0.out hE)
  replace eg0 := Hd.mk (Nat.le_trans eg0.out hE.size)
  replace t1 := Hd.mk (R_below t1.out hE)
  replace et1 := Hd.mk (Nat.le_trans et1.out hE.size)
  replace hB := Hd.mk (below_then hB.out hE)
  clear hE
  refine (laws_eqOpS _ _ _ _ l l _ (R_Cv x1.out) (R_Cv t1.out)).mono ?_
  rintro e w15 ⟨rfl, hX⟩
  replace w0 := Hd.mk (R_below w0.out hX)
  replace ew0 := Hd.mk (Nat.le_trans ew0.out hX.size)
  replace x1 := Hd.mk (R_below x1.out hX)
  replace ex1 := Hd.mk (Nat.le_trans ex1.out hX.size)
  replace g0 := Hd.mk (R_below g0.out hX)
  replace eg0 := Hd.mk (Nat.le_trans eg0.out hX.size)
  replace t1 := Hd.mk (R_below t1.out hX)
  replace et1 := Hd.mk (Nat.le_trans et1.out hX.size)
  replace hB := Hd.mk (below_then hB.out hX)
  clear hX
  rw [eqv_self]
  clear t1 et1
  go_wp2_with fail
  apply calls_gen; intro W16 hW
  have hE : Below w15.heap.size w15 W16 := by rw [hW]; (repeat (first | with_reducible refine below_alloc ?_ _ | with_reducible refine below_drew ?_)); exact Below.refl _ _
  clear hW
  replace w0 := Hd.mk (R_below w0.out hE)
  replace ew0 := Hd.mk (Nat.le_trans ew0.out hE.size)
  replace x1 := Hd.mk (R_below x1.out hE)
  replace ex1 := Hd.mk (Nat.le_trans ex1.out hE.size)
  replace g0 := Hd.mk (R_below g0.out hE)
  replace eg0 := Hd.mk (Nat.le_trans eg0.out hE.size)
  replace hB := Hd.mk (below_then hB.out hE)
  clear hE
  refine (laws_markOpS _ _ (1) _ x1.out (by omega) (by omega)).mono ?_
  rintro e w17 ⟨rfl, hM, hX⟩
  have hsz_ := hX.size
  replace w0 := Hd.mk (R_fr w0.out hX (rng_off (Or.inl dw0_x1.out)))
  replace ew0 := Hd.mk (Nat.le_trans ew0.out hsz_)
  replace ex1 := Hd.mk (Nat.le_trans ex1.out hsz_)
  replace g0 := Hd.mk (R_fr g0.out hX (rng_off (Or.inr dx1_g0.out)))
  replace eg0 := Hd.mk (Nat.le_trans eg0.out hsz_)
  replace hB := Hd.mk (below_rng hB.out hX ax1.out)
  clear hsz_
  clear hX
  clear hM
  clear x1 ex1
  have hkp : (0 : Int) ≤ 1 + (bulkL (cnOp (m + 1)) l : Int) := by omega
  go_wp2_with fail
  apply calls_gen; intro W18 hW
  have hE : Below w17.heap.size w17 W18 := by rw [hW]; (repeat (first | with_reducible refine below_alloc ?_ _ | with_reducible refine below_drew ?_)); exact Below.refl _ _
  clear hW
  replace w0 := Hd.mk (R_below w0.out hE)
  replace ew0 := Hd.mk (Nat.le_trans ew0.out hE.size)
  replace g0 := Hd.mk (R_below g0.out hE)
  replace eg0 := Hd.mk (Nat.le_trans eg0.out hE.size)
  replace hB := Hd.mk (below_then hB.out hE)
  clear hE
  refine (laws_eqOpS _ _ _ _ y y _ (R_Cv g0.out) (R_Cv w0.out)).mono ?_
  rintro e w19 ⟨rfl, hX⟩
  replace w0 := Hd.mk (R_below w0.out hX)
  replace ew0 := Hd.mk (Nat.le_trans ew0.out hX.size)
  replace g0 := Hd.mk (R_below g0.out hX)
  replace eg0 := Hd.mk (Nat.le_trans eg0.out hX.size)
  replace hB := Hd.mk (below_then hB.out hX)
  clear hX
  rw [eqv_self]
  go_wp2_with fail
  apply calls_gen; intro W20 hW
  have hE : Below w19.heap.size w19 W20 := by rw [hW]; (repeat (first | with_reducible refine below_alloc ?_ _ | with_reducible refine below_drew ?_)); exact Below.refl _ _
  clear hW
  replace w0 := Hd.mk (R_below w0.out hE)
  replace ew0 := Hd.mk (Nat.le_trans ew0.out hE.size)
  replace g0 := Hd.mk (R_below g0.out hE)
  replace eg0 := Hd.mk (Nat.le_trans eg0.out hE.size)
  replace hB := Hd.mk (below_then hB.out hE)
  clear hE
  refine (laws_markOpS _ _ (1) _ g0.out (by omega) (by omega)).mono ?_
  rintro e w21 ⟨rfl, hM, hX⟩
  have hsz_ := hX.size
  replace w0 := Hd.mk (R_fr w0.out hX (rng_off (Or.inl dw0_g0.out)))
  replace ew0 := Hd.mk (Nat.le_trans ew0.out hsz_)
  replace eg0 := Hd.mk (Nat.le_trans eg0.out hsz_)
  replace hB := Hd.mk (below_rng hB.out hX ag0.out)
  clear hsz_
  clear hX
  replace g0 := Hd.mk hM; clear hM
  have hqp : (0 : Int) ≤ 1 + (bulkL (cnOp (m + 1)) y : Int) := by omega
  go_wp2_with fail
  apply calls_gen; intro W22 hW
  have hE : Below w21.heap.size w21 W22 := by rw [hW]; (repeat (first | with_reducible refine below_alloc ?_ _ | with_reducible refine below_drew ?_)); exact Below.refl _ _
  clear hW
  replace w0 := Hd.mk (R_below w0.out hE)
  replace ew0 := Hd.mk (Nat.le_trans ew0.out hE.size)
  replace g0 := Hd.mk (R_below g0.out hE)
  replace eg0 := Hd.mk (Nat.le_trans eg0.out hE.size)
  replace hB := Hd.mk (below_then hB.out hE)
  clear hE
  have hlen : (markL (mkOp (m + 1)) (cnOp (m + 1)) 1 y).length = y.length := markL_length _ _
  rw [← hlen]
  refine (laws_heldOpS _ _ _ y 1 _ (R_Cv g0.out) rfl (by omega) (by omega)).mono ?_
  rintro e w23 ⟨rfl, hX⟩
  replace w0 := Hd.mk (R_below w0.out hX)
  replace ew0 := Hd.mk (Nat.le_trans ew0.out hX.size)
  replace g0 := Hd.mk (R_below g0.out hX)
  replace eg0 := Hd.mk (Nat.le_trans eg0.out hX.size)
  replace hB := Hd.mk (below_then hB.out hX)
  clear hX
  go_wp2_with fail
  apply calls_gen; intro W24 hW
  have hE : Below w23.heap.size w23 W24 := by rw [hW]; (repeat (first | with_reducible refine below_alloc ?_ _ | with_reducible refine below_drew ?_)); exact Below.refl _ _
  clear hW
  replace w0 := Hd.mk (R_below w0.out hE)
  replace ew0 := Hd.mk (Nat.le_trans ew0.out hE.size)
  replace g0 := Hd.mk (R_below g0.out hE)
  replace eg0 := Hd.mk (Nat.le_trans eg0.out hE.size)
  replace hB := Hd.mk (below_then hB.out hE)
  clear hE
  refine (laws_toOpS _ _ l _ (C_below hK1.out hB.out) HL1.out.1).mono ?_
  rintro e w25 ⟨v_, rfl, hO, hX⟩
  have dw0_r1 := Hd.mk ew0.out
  have dg0_r1 := Hd.mk eg0.out
  have ar1 := Hd.mk hB.out.size
  replace w0 := Hd.mk (R_below w0.out hX)
  replace ew0 := Hd.mk (Nat.le_trans ew0.out hX.size)
  replace g0 := Hd.mk (R_below g0.out hX)
  replace eg0 := Hd.mk (Nat.le_trans eg0.out hX.size)
  replace hB := Hd.mk (below_then hB.out hX)
  clear hX
  replace hO := R_bound hO
  obtain ⟨Ar1, cr1, hvr1, hcr1, _⟩ := R_C hO
  subst hvr1
  have r1 := Hd.mk (show (tOp (m + 1)).R 105 w25 (rng W24.heap.size w25.heap.size) (.slice Ar1 l.length cr1) l from hO); clear hO
  have hmr1 := (R_Cv r1.out).1
  have er1 := Hd.mk (Nat.le_refl w25.heap.size)
  go_wp2_with fail
  apply calls_gen; intro W26 hW
  have hE : Below w25.heap.size w25 W26 := by rw [hW]; (repeat (first | with_reducible refine below_alloc ?_ _ | with_reducible refine below_drew ?_)); exact Below.refl _ _
  clear hW
  replace w0 := Hd.mk (R_below w0.out hE)
  replace ew0 := Hd.mk (Nat.le_trans ew0.out hE.size)
  replace g0 := Hd.mk (R_below g0.out hE)
  replace eg0 := Hd.mk (Nat.le_trans eg0.out hE.size)
  replace r1 := Hd.mk (R_below r1.out hE)
  replace er1 := Hd.mk (Nat.le_trans er1.out hE.size)
  replace hB := Hd.mk (below_then hB.out hE)
  clear hE
  refine (impl_Under s (by omega) _ _ l _ (R_Cv r1.out) (by have := HL1.out.1; omega)).mono ?_
  rintro e w27 ⟨v_, rfl, hO, hX⟩
  have dw0_h0 := Hd.mk ew0.out
  have dg0_h0 := Hd.mk eg0.out
  have dr1_h0 := Hd.mk er1.out
  have ah0 := Hd.mk hB.out.size
  replace w0 := Hd.mk (R_below w0.out hX)
  replace ew0 := Hd.mk (Nat.le_trans ew0.out hX.size)
  replace g0 := Hd.mk (R_below g0.out hX)
  replace eg0 := Hd.mk (Nat.le_trans eg0.out hX.size)
  replace r1 := Hd.mk (R_below r1.out hX)
  replace er1 := Hd.mk (Nat.le_trans er1.out hX.size)
  replace hB := Hd.mk (below_then hB.out hX)
  clear hX
  rw [← Hy.out] at hO
  replace hO := R_bound hO
  obtain ⟨Ah0, ch0, hvh0, hch0, _⟩ := R_C hO
  subst hvh0
  have h0 := Hd.mk (show (tOp (m + 1)).R 105 w27 (rng W26.heap.size w27.heap.size) (.slice Ah0 y.length ch0) y from hO); clear hO
  have hmh0 := (R_Cv h0.out).1
  have eh0 := Hd.mk (Nat.le_refl w27.heap.size)
  clear r1 er1
  go_wp2_with fail
  apply calls_gen; intro W28 hW
  have hE : Below w27.heap.size w27 W28 := by rw [hW]; (repeat (first | with_reducible refine below_alloc ?_ _ | with_reducible refine below_drew ?_)); exact Below.refl _ _
  clear hW
  replace w0 := Hd.mk (R_below w0.out hE)
  replace ew0 := Hd.mk (Nat.le_trans ew0.out hE.size)
  replace g0 := Hd.mk (R_below g0.out hE)
  replace eg0 := Hd.mk (Nat.le_trans eg0.out hE.size)
  replace h0 := Hd.mk (R_below h0.out hE)
  replace eh0 := Hd.mk (Nat.le_trans eh0.out hE.size)
  replace hB := Hd.mk (below_then hB.out hE)
  clear hE
  refine (laws_eqOpS _ _ _ _ y y _ (R_Cv h0.out) (R_Cv w0.out)).mono ?_
  rintro e w29 ⟨rfl, hX⟩
  replace w0 := Hd.mk (R_below w0.out hX)
  replace ew0 := Hd.mk (Nat.le_trans ew0.out hX.size)
  replace g0 := Hd.mk (R_below g0.out hX)
  replace eg0 := Hd.mk (Nat.le_trans eg0.out hX.size)
  replace h0 := Hd.mk (R_below h0.out hX)
  replace eh0 := Hd.mk (Nat.le_trans eh0.out hX.size)
  replace hB := Hd.mk (below_then hB.out hX)
  clear hX
  rw [eqv_self]
  go_wp2_with fail
  apply calls_gen; intro W30 hW
  have hE : Below w29.heap.size w29 W30 := by rw [hW]; (repeat (first | with_reducible refine below_alloc ?_ _ | with_reducible refine below_drew ?_)); exact Below.refl _ _
  clear hW
  replace w0 := Hd.mk (R_below w0.out hE)
  replace ew0 := Hd.mk (Nat.le_trans ew0.out hE.size)
  replace g0 := Hd.mk (R_below g0.out hE)
  replace eg0 := Hd.mk (Nat.le_trans eg0.out hE.size)
  replace h0 := Hd.mk (R_below h0.out hE)
  replace eh0 := Hd.mk (Nat.le_trans eh0.out hE.size)
  replace hB := Hd.mk (below_then hB.out hE)
  clear hE
  have hlen : (markL (mkOp (m + 1)) (cnOp (m + 1)) 1 y).length = y.length := markL_length _ _
  rw [← hlen]
  refine (laws_heldOpS _ _ _ y 1 _ (R_Cv g0.out) rfl (by omega) (by omega)).mono ?_
  rintro e w31 ⟨rfl, hX⟩
  replace w0 := Hd.mk (R_below w0.out hX)
  replace ew0 := Hd.mk (Nat.le_trans ew0.out hX.size)
  replace g0 := Hd.mk (R_below g0.out hX)
  replace eg0 := Hd.mk (Nat.le_trans eg0.out hX.size)
  replace h0 := Hd.mk (R_below h0.out hX)
  replace eh0 := Hd.mk (Nat.le_trans eh0.out hX.size)
  replace hB := Hd.mk (below_then hB.out hX)
  clear hX
  go_wp2_with fail
  go_ret
  exact ⟨rfl, hB.out⟩
end Go.Proofs.Ytchjcllpnpibeaa.X
