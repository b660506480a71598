/- What is proved here: the law FnExactRowDrop answers true. Conditions: none. -/
import Derived.Test.YtchjcllpnpibeaaXP
import Derived.Test.YtchjcllpnpibeaaXV
import Derived.StillTailTactics
import Derived.Deep.RegionWith
namespace Go.Proofs.Ytchjcllpnpibeaa.X
open Go.RowKit Go.Sort
set_option linter.unusedVariables false
set_option linter.unusedSimpArgs false
open Ty
set_option maxRecDepth 100000 in
theorem laws_FnExactRowDrop {w : World} (A0 : Option Addr) (c0 : Nat) (l : List Row) (hv0 : l.length ≤ c0) (hk0 : tRow.C w A0 l) (n : Int) :
    Calls Try.prog 10 #[.slice A0 l.length c0, .int .i64 n] w fun e w' => e = .returned (.bool true) ∧ Below w.heap.size w w' := by
  obtain ⟨y, hy⟩ : ∃ z, z = rowDrop l n := ⟨_, rfl⟩
  have Hy := Hd.mk hy; clear hy
  have hm0 := hk0.1
  have hK0 := Hd.mk hk0; clear hk0
  go_enter Try.func10, Try.ntmps10
  go_wp2_with fail
  apply calls_gen; intro W0 hW
  have hE : Below w.heap.size w W0 := by rw [hW]; (repeat (with_reducible refine below_alloc ?_ _)); exact Below.refl _ _
  clear hW
  have hB := Hd.mk hE; clear hE
  refine (laws_szRowS _ _ l _ _ (C_below hK0.out hB.out) (by omega) (by omega)).mono ?_
  rintro e w1 ⟨rfl, hX⟩
  replace hB := Hd.mk (below_then hB.out hX)
  clear hX
  by_cases hz0 : szR 1048576 (bulkRowS l) < 0
  · go_wp2_with fail
    go_ret
    exact ⟨rfl, hB.out⟩
  have HL0 := Hd.mk (szR_le (Int.not_lt.1 hz0) (by omega))
  have hy0 := HL0.out.2.1
  have hx0 := HL0.out.2.2.1
  clear hz0
  go_wp2_with fail
  have hx_0 : ((bulkL cnRow l : Int) : Int) ≤ 8388608 := by have := cnt_Rows l; have := HL0.out.1; omega
  have hx_y : ((bulkL cnRow y : Int) : Int) ≤ 1099511627776 := by (have h1 := cnt_Rows y; have h2 := bulk_rowDrop l n; have h3 := HL0.out.1; rw [← Hy.out] at h2; omega)
  apply calls_gen; intro W2 hW
  have hE : Below w1.heap.size w1 W2 := by rw [hW]; (repeat (first | with_reducible refine below_alloc ?_ _ | with_reducible refine below_drew ?_)); exact Below.refl _ _
  clear hW
  replace hB := Hd.mk (below_then hB.out hE)
  clear hE
  refine (laws_toRowS _ _ l _ (C_below hK0.out hB.out) HL0.out.1).mono ?_
  rintro e w3 ⟨v_, rfl, hO, hX⟩
  have as0 := Hd.mk hB.out.size
  replace hB := Hd.mk (below_then hB.out hX)
  clear hX
  replace hO := R_bound hO
  obtain ⟨As0, cs0, hvs0, hcs0, _⟩ := R_C hO
  subst hvs0
  have s0 := Hd.mk (show tRow.R 36 w3 (rng W2.heap.size w3.heap.size) (.slice As0 l.length cs0) l from hO); clear hO
  have hms0 := (R_Cv s0.out).1
  have es0 := Hd.mk (Nat.le_refl w3.heap.size)
  go_wp2_with fail
  apply calls_gen; intro W4 hW
  have hE : Below w3.heap.size w3 W4 := by rw [hW]; (repeat (first | with_reducible refine below_alloc ?_ _ | with_reducible refine below_drew ?_)); exact Below.refl _ _
  clear hW
  replace s0 := Hd.mk (R_below s0.out hE)
  replace es0 := Hd.mk (Nat.le_trans es0.out hE.size)
  replace hB := Hd.mk (below_then hB.out hE)
  clear hE
  refine (spec_RowDrop _ _ l n _ (R_Cv s0.out) (by have := HL0.out.1; omega)).mono ?_
  rintro e w5 ⟨v_, rfl, hO, hX⟩
  have ds0_w0 := Hd.mk es0.out
  have aw0 := Hd.mk hB.out.size
  replace s0 := Hd.mk (R_below s0.out hX)
  replace es0 := Hd.mk (Nat.le_trans es0.out hX.size)
  replace hB := Hd.mk (below_then hB.out hX)
  clear hX
  rw [← Hy.out] at hO
  replace hO := R_bound hO
  obtain ⟨Aw0, cw0, hvw0, hcw0, _⟩ := R_C hO
  subst hvw0
  have w0 := Hd.mk (show tRow.R 36 w5 (rng W4.heap.size w5.heap.size) (.slice Aw0 y.length cw0) y from hO); clear hO
  have hmw0 := (R_Cv w0.out).1
  have ew0 := Hd.mk (Nat.le_refl w5.heap.size)
  clear s0 es0
  go_wp2_with fail
  apply calls_gen; intro W6 hW
  have hE : Below w5.heap.size w5 W6 := by rw [hW]; (repeat (first | with_reducible refine below_alloc ?_ _ | with_reducible refine below_drew ?_)); exact Below.refl _ _
  clear hW
  replace w0 := Hd.mk (R_below w0.out hE)
  replace ew0 := Hd.mk (Nat.le_trans ew0.out hE.size)
  replace hB := Hd.mk (below_then hB.out hE)
  clear hE
  refine (laws_toRowS _ _ l _ (C_below hK0.out hB.out) HL0.out.1).mono ?_
  rintro e w7 ⟨v_, rfl, hO, hX⟩
  have dw0_x0 := Hd.mk ew0.out
  have ax0 := Hd.mk hB.out.size
  replace w0 := Hd.mk (R_below w0.out hX)
  replace ew0 := Hd.mk (Nat.le_trans ew0.out hX.size)
  replace hB := Hd.mk (below_then hB.out hX)
  clear hX
  replace hO := R_bound hO
  obtain ⟨Ax0, cx0, hvx0, hcx0, _⟩ := R_C hO
  subst hvx0
  have x0 := Hd.mk (show tRow.R 36 w7 (rng W6.heap.size w7.heap.size) (.slice Ax0 l.length cx0) l from hO); clear hO
  have hmx0 := (R_Cv x0.out).1
  have ex0 := Hd.mk (Nat.le_refl w7.heap.size)
  go_wp2_with fail
  apply calls_gen; intro W8 hW
  have hE : Below w7.heap.size w7 W8 := by rw [hW]; (repeat (first | with_reducible refine below_alloc ?_ _ | with_reducible refine below_drew ?_)); exact Below.refl _ _
  clear hW
  replace w0 := Hd.mk (R_below w0.out hE)
  replace ew0 := Hd.mk (Nat.le_trans ew0.out hE.size)
  replace x0 := Hd.mk (R_below x0.out hE)
  replace ex0 := Hd.mk (Nat.le_trans ex0.out hE.size)
  replace hB := Hd.mk (below_then hB.out hE)
  clear hE
  refine (impl_RowDrop _ _ l n _ (R_Cv x0.out) (by have := HL0.out.1; omega)).mono ?_
  rintro e w9 ⟨v_, rfl, hO, hX⟩
  have dw0_g0 := Hd.mk ew0.out
  have dx0_g0 := Hd.mk ex0.out
  have ag0 := Hd.mk hB.out.size
  replace w0 := Hd.mk (R_below w0.out hX)
  replace ew0 := Hd.mk (Nat.le_trans ew0.out hX.size)
  replace x0 := Hd.mk (R_below x0.out hX)
  replace ex0 := Hd.mk (Nat.le_trans ex0.out hX.size)
  replace hB := Hd.mk (below_then hB.out hX)
  clear hX
  rw [← Hy.out] at hO
  replace hO := R_bound hO
  obtain ⟨Ag0, cg0, hvg0, hcg0, _⟩ := R_C hO
  subst hvg0
  have g0 := Hd.mk (show tRow.R 36 w9 (rng W8.heap.size w9.heap.size) (.slice Ag0 y.length cg0) y from hO); clear hO
  have hmg0 := (R_Cv g0.out).1
  have eg0 := Hd.mk (Nat.le_refl w9.heap.size)
  go_wp2_with fail
  apply calls_gen; intro W10 hW
  have hE : Below w9.heap.size w9 W10 := by rw [hW]; (repeat (first | with_reducible refine below_alloc ?_ _ | with_reducible refine below_drew ?_)); exact Below.refl _ _
  clear hW
  replace w0 := Hd.mk (R_below w0.out hE)
  replace ew0 := Hd.mk (Nat.le_trans ew0.out hE.size)
  replace x0 := Hd.mk (R_below x0.out hE)
  replace ex0 := Hd.mk (Nat.le_trans ex0.out hE.size)
  replace g0 := Hd.mk (R_below g0.out hE)
  replace eg0 := Hd.mk (Nat.le_trans eg0.out hE.size)
  replace hB := Hd.mk (below_then hB.out hE)
  clear hE
  refine (laws_eqRowS _ _ _ _ y y _ (R_Cv g0.out) (R_Cv w0.out)).mono ?_
  rintro e w11 ⟨rfl, hX⟩
  replace w0 := Hd.mk (R_below w0.out hX)
  replace ew0 := Hd.mk (Nat.le_trans ew0.out hX.size)
  replace x0 := Hd.mk (R_below x0.out hX)
  replace ex0 := Hd.mk (Nat.le_trans ex0.out hX.size)
  replace g0 := Hd.mk (R_below g0.out hX)
  replace eg0 := Hd.mk (Nat.le_trans eg0.out hX.size)
  replace hB := Hd.mk (below_then hB.out hX)
  clear hX
  rw [eqv_self]
  go_wp2_with fail
  apply calls_gen; intro W12 hW
  have hE : Below w11.heap.size w11 W12 := by rw [hW]; (repeat (first | with_reducible refine below_alloc ?_ _ | with_reducible refine below_drew ?_)); exact Below.refl _ _
  clear hW
  replace w0 := Hd.mk (R_below w0.out hE)
  replace ew0 := Hd.mk (Nat.le_trans ew0.out hE.size)
  replace x0 := Hd.mk (R_below x0.out hE)
  replace ex0 := Hd.mk (Nat.le_trans ex0.out hE.size)
  replace g0 := Hd.mk (R_below g0.out hE)
  replace eg0 := Hd.mk (Nat.le_trans eg0.out hE.size)
  replace hB := Hd.mk (below_then hB.out hE)
  clear hE
  refine (laws_toRowS _ _ l _ (C_below hK0.out hB.out) HL0.out.1).mono ?_
  rintro e w13 ⟨v_, rfl, hO, hX⟩
  have dw0_t0 := Hd.mk ew0.out
  have dx0_t0 := Hd.mk ex0.out
  have dg0_t0 := Hd.mk eg0.out
  have at0 := Hd.mk hB.out.size
  replace w0 := Hd.mk (R_below w0.out hX)
  replace ew0 := Hd.mk (Nat.le_trans ew0.out hX.size)
  replace x0 := Hd.mk (R_below x0.out hX)
  replace ex0 := Hd.mk (Nat.le_trans ex0.out hX.size)
  replace g0 := Hd.mk (R_below g0.out hX)
  replace eg0 := Hd.mk (Nat.le_trans eg0.out hX.size)
  replace hB := Hd.mk (below_then hB.out hX)
  clear hX
  replace hO := R_bound hO
  obtain ⟨At0, ct0, hvt0, hct0, _⟩ := R_C hO
  subst hvt0
  have t0 := Hd.mk (show tRow.R 36 w13 (rng W12.heap.size w13.heap.size) (.slice At0 l.length ct0) l from hO); clear hO
  have hmt0 := (R_Cv t0.out).1
  have et0 := Hd.mk (Nat.le_refl w13.heap.size)
  go_wp2_with fail
  apply calls_gen; intro W14 hW
  have hE : Below w13.heap.size w13 W14 := by rw [hW]; (repeat (first | with_reducible refine below_alloc ?_ _ | with_reducible refine below_drew ?_)); exact Below.refl _ _
  clear hW
  replace w0 := Hd.mk (R_below w0.out hE)
  replace ew0 := Hd.mk (Nat.le_trans ew0.out hE.size)
  replace x0 := Hd.mk (R_below x0.out hE)
  replace ex0 := Hd.mk (Nat.le_trans ex0.out hE.size)
  replace g0 := Hd.mk (R_below g0.out hE)
  replace eg0 := Hd.mk (Nat.le_trans eg0.out hE.size)
  replace t0 := Hd.mk (R_below t0.out hE)
  replace et0 := Hd.mk (Nat.le_trans et0.out hE.size)
  replace hB := Hd.mk (below_then hB.out hE)
  clear hE
  refine (laws_eqRowS _ _ _ _ l l _ (R_Cv x0.out) (R_Cv t0.out)).mono ?_
  rintro e w15 ⟨rfl, hX⟩
  replace w0 := Hd.mk (R_below w0.out hX)
  replace ew0 := Hd.mk (Nat.le_trans ew0.out hX.size)
  replace x0 := Hd.mk (R_below x0.out hX)
  replace ex0 := Hd.mk (Nat.le_trans ex0.out hX.size)
  replace g0 := Hd.mk (R_below g0.out hX)
  replace eg0 := Hd.mk (Nat.le_trans eg0.out hX.size)
  replace t0 := Hd.mk (R_below t0.out hX)
  replace et0 := Hd.mk (Nat.le_trans et0.out hX.size)
  replace hB := Hd.mk (below_then hB.out hX)
  clear hX
  rw [eqv_self]
  clear t0 et0
  go_wp2_with fail
  apply calls_gen; intro W16 hW
  have hE : Below w15.heap.size w15 W16 := by rw [hW]; (repeat (first | with_reducible refine below_alloc ?_ _ | with_reducible refine below_drew ?_)); exact Below.refl _ _
  clear hW
  replace w0 := Hd.mk (R_below w0.out hE)
  replace ew0 := Hd.mk (Nat.le_trans ew0.out hE.size)
  replace x0 := Hd.mk (R_below x0.out hE)
  replace ex0 := Hd.mk (Nat.le_trans ex0.out hE.size)
  replace g0 := Hd.mk (R_below g0.out hE)
  replace eg0 := Hd.mk (Nat.le_trans eg0.out hE.size)
  replace hB := Hd.mk (below_then hB.out hE)
  clear hE
  refine (laws_markRowS _ _ (1) _ x0.out (by omega) (by omega)).mono ?_
  rintro e w17 ⟨rfl, hM, hX⟩
  have hsz_ := hX.size
  replace w0 := Hd.mk (R_fr w0.out hX (rng_off (Or.inl dw0_x0.out)))
  replace ew0 := Hd.mk (Nat.le_trans ew0.out hsz_)
  replace ex0 := Hd.mk (Nat.le_trans ex0.out hsz_)
  replace g0 := Hd.mk (R_fr g0.out hX (rng_off (Or.inr dx0_g0.out)))
  replace eg0 := Hd.mk (Nat.le_trans eg0.out hsz_)
  replace hB := Hd.mk (below_rng hB.out hX ax0.out)
  clear hsz_
  clear hX
  clear hM
  clear x0 ex0
  have hkp : (0 : Int) ≤ 1 + (bulkL cnRow l : Int) := by omega
  go_wp2_with fail
  apply calls_gen; intro W18 hW
  have hE : Below w17.heap.size w17 W18 := by rw [hW]; (repeat (first | with_reducible refine below_alloc ?_ _ | with_reducible refine below_drew ?_)); exact Below.refl _ _
  clear hW
  replace w0 := Hd.mk (R_below w0.out hE)
  replace ew0 := Hd.mk (Nat.le_trans ew0.out hE.size)
  replace g0 := Hd.mk (R_below g0.out hE)
  replace eg0 := Hd.mk (Nat.le_trans eg0.out hE.size)
  replace hB := Hd.mk (below_then hB.out hE)
  clear hE
  refine (laws_eqRowS _ _ _ _ y y _ (R_Cv g0.out) (R_Cv w0.out)).mono ?_
  rintro e w19 ⟨rfl, hX⟩
  replace w0 := Hd.mk (R_below w0.out hX)
  replace ew0 := Hd.mk (Nat.le_trans ew0.out hX.size)
  replace g0 := Hd.mk (R_below g0.out hX)
  replace eg0 := Hd.mk (Nat.le_trans eg0.out hX.size)
  replace hB := Hd.mk (below_then hB.out hX)
  clear hX
  rw [eqv_self]
  go_wp2_with fail
  apply calls_gen; intro W20 hW
  have hE : Below w19.heap.size w19 W20 := by rw [hW]; (repeat (first | with_reducible refine below_alloc ?_ _ | with_reducible refine below_drew ?_)); exact Below.refl _ _
  clear hW
  replace w0 := Hd.mk (R_below w0.out hE)
  replace ew0 := Hd.mk (Nat.le_trans ew0.out hE.size)
  replace g0 := Hd.mk (R_below g0.out hE)
  replace eg0 := Hd.mk (Nat.le_trans eg0.out hE.size)
  replace hB := Hd.mk (below_then hB.out hE)
  clear hE
  refine (laws_markRowS _ _ (1) _ g0.out (by omega) (by omega)).mono ?_
  rintro e w21 ⟨rfl, hM, hX⟩
  have hsz_ := hX.size
  replace w0 := Hd.mk (R_fr w0.out hX (rng_off (Or.inl dw0_g0.out)))
  replace ew0 := Hd.mk (Nat.le_trans ew0.out hsz_)
  replace eg0 := Hd.mk (Nat.le_trans eg0.out hsz_)
  replace hB := Hd.mk (below_rng hB.out hX ag0.out)
  clear hsz_
  clear hX
  replace g0 := Hd.mk hM; clear hM
  have hqp : (0 : Int) ≤ 1 + (bulkL cnRow y : Int) := by omega
  go_wp2_with fail
  apply calls_gen; intro W22 hW
  have hE : Below w21.heap.size w21 W22 := by rw [hW]; (repeat (first | with_reducible refine below_alloc ?_ _ | with_reducible refine below_drew ?_)); exact Below.refl _ _
  clear hW
  replace w0 := Hd.mk (R_below w0.out hE)
  replace ew0 := Hd.mk (Nat.le_trans ew0.out hE.size)
  replace g0 := Hd.mk (R_below g0.out hE)
  replace eg0 := Hd.mk (Nat.le_trans eg0.out hE.size)
  replace hB := Hd.mk (below_then hB.out hE)
  clear hE
  have hlen : (markL mkRow cnRow 1 y).length = y.length := markL_length _ _
  rw [← hlen]
  refine (laws_heldRowS _ _ _ y 1 _ (R_Cv g0.out) rfl (by omega) (by omega)).mono ?_
  rintro e w23 ⟨rfl, hX⟩
  replace w0 := Hd.mk (R_below w0.out hX)
  replace ew0 := Hd.mk (Nat.le_trans ew0.out hX.size)
  replace g0 := Hd.mk (R_below g0.out hX)
  replace eg0 := Hd.mk (Nat.le_trans eg0.out hX.size)
  replace hB := Hd.mk (below_then hB.out hX)
  clear hX
  go_wp2_with fail
  apply calls_gen; intro W24 hW
  have hE : Below w23.heap.size w23 W24 := by rw [hW]; (repeat (first | with_reducible refine below_alloc ?_ _ | with_reducible refine below_drew ?_)); exact Below.refl _ _
  clear hW
  replace w0 := Hd.mk (R_below w0.out hE)
  replace ew0 := Hd.mk (Nat.le_trans ew0.out hE.size)
  replace g0 := Hd.mk (R_below g0.out hE)
  replace eg0 := Hd.mk (Nat.le_trans eg0.out hE.size)
  replace hB := Hd.mk (below_then hB.out hE)
  clear hE
  refine (laws_toRowS _ _ l _ (C_below hK0.out hB.out) HL0.out.1).mono ?_
  rintro e w25 ⟨v_, rfl, hO, hX⟩
  have dw0_r0 := Hd.mk ew0.out
  have dg0_r0 := Hd.mk eg0.out
  have ar0 := Hd.mk hB.out.size
  replace w0 := Hd.mk (R_below w0.out hX)
  replace ew0 := Hd.mk (Nat.le_trans ew0.out hX.size)
  replace g0 := Hd.mk (R_below g0.out hX)
  replace eg0 := Hd.mk (Nat.le_trans eg0.out hX.size)
  replace hB := Hd.mk (below_then hB.out hX)
  clear hX
  replace hO := R_bound hO
  obtain ⟨Ar0, cr0, hvr0, hcr0, _⟩ := R_C hO
  subst hvr0
  have r0 := Hd.mk (show tRow.R 36 w25 (rng W24.heap.size w25.heap.size) (.slice Ar0 l.length cr0) l from hO); clear hO
  have hmr0 := (R_Cv r0.out).1
  have er0 := Hd.mk (Nat.le_refl w25.heap.size)
  go_wp2_with fail
  apply calls_gen; intro W26 hW
  have hE : Below w25.heap.size w25 W26 := by rw [hW]; (repeat (first | with_reducible refine below_alloc ?_ _ | with_reducible refine below_drew ?_)); exact Below.refl _ _
  clear hW
  replace w0 := Hd.mk (R_below w0.out hE)
  replace ew0 := Hd.mk (Nat.le_trans ew0.out hE.size)
  replace g0 := Hd.mk (R_below g0.out hE)
  replace eg0 := Hd.mk (Nat.le_trans eg0.out hE.size)
  replace r0 := Hd.mk (R_below r0.out hE)
  replace er0 := Hd.mk (Nat.le_trans er0.out hE.size)
  replace hB := Hd.mk (below_then hB.out hE)
  clear hE
  refine (impl_RowDrop _ _ l n _ (R_Cv r0.out) (by have := HL0.out.1; omega)).mono ?_
  rintro e w27 ⟨v_, rfl, hO, hX⟩
  have dw0_h0 := Hd.mk ew0.out
  have dg0_h0 := Hd.mk eg0.out
  have dr0_h0 := Hd.mk er0.out
  have ah0 := Hd.mk hB.out.size
  replace w0 := Hd.mk (R_below w0.out hX)
  replace ew0 := Hd.mk (Nat.le_trans ew0.out hX.size)
  replace g0 := Hd.mk (R_below g0.out hX)
  replace eg0 := Hd.mk (Nat.le_trans eg0.out hX.size)
  replace r0 := Hd.mk (R_below r0.out hX)
  replace er0 := Hd.mk (Nat.le_trans er0.out hX.size)
  replace hB := Hd.mk (below_then hB.out hX)
  clear hX
  rw [← Hy.out] at hO
  replace hO := R_bound hO
  obtain ⟨Ah0, ch0, hvh0, hch0, _⟩ := R_C hO
  subst hvh0
  have h0 := Hd.mk (show tRow.R 36 w27 (rng W26.heap.size w27.heap.size) (.slice Ah0 y.length ch0) y from hO); clear hO
  have hmh0 := (R_Cv h0.out).1
  have eh0 := Hd.mk (Nat.le_refl w27.heap.size)
  clear r0 er0
  go_wp2_with fail
  apply calls_gen; intro W28 hW
  have hE : Below w27.heap.size w27 W28 := by rw [hW]; (repeat (first | with_reducible refine below_alloc ?_ _ | with_reducible refine below_drew ?_)); exact Below.refl _ _
  clear hW
  replace w0 := Hd.mk (R_below w0.out hE)
  replace ew0 := Hd.mk (Nat.le_trans ew0.out hE.size)
  replace g0 := Hd.mk (R_below g0.out hE)
  replace eg0 := Hd.mk (Nat.le_trans eg0.out hE.size)
  replace h0 := Hd.mk (R_below h0.out hE)
  replace eh0 := Hd.mk (Nat.le_trans eh0.out hE.size)
  replace hB := Hd.mk (below_then hB.out hE)
  clear hE
  refine (laws_eqRowS _ _ _ _ y y _ (R_Cv h0.out) (R_Cv w0.out)).mono ?_
  rintro e w29 ⟨rfl, hX⟩
  replace w0 := Hd.mk (R_below w0.out hX)
  replace ew0 := Hd.mk (Nat.le_trans ew0.out hX.size)
  replace g0 := Hd.mk (R_below g0.out hX)
  replace eg0 := Hd.mk (Nat.le_trans eg0.out hX.size)
  replace h0 := Hd.mk (R_below h0.out hX)
  replace eh0 := Hd.mk (Nat.le_trans eh0.out hX.size)
  replace hB := Hd.mk (below_then hB.out hX)
  clear hX
  rw [eqv_self]
  go_wp2_with fail
  apply calls_gen; intro W30 hW
  have hE : Below w29.heap.size w29 W30 := by rw [hW]; (repeat (first | with_reducible refine below_alloc ?_ _ | with_reducible refine below_drew ?_)); exact Below.refl _ _
  clear hW
  replace w0 := Hd.mk (R_below w0.out hE)
  replace ew0 := Hd.mk (Nat.le_trans ew0.out hE.size)
  replace g0 := Hd.mk (R_below g0.out hE)
  replace eg0 := Hd.mk (Nat.le_trans eg0.out hE.size)
  replace h0 := Hd.mk (R_below h0.out hE)
  replace eh0 := Hd.mk (Nat.le_trans eh0.out hE.size)
  replace hB := Hd.mk (below_then hB.out hE)
  clear hE
  have hlen : (markL mkRow cnRow 1 y).length = y.length := markL_length _ _
  rw [← hlen]
  refine (laws_heldRowS _ _ _ y 1 _ (R_Cv g0.out) rfl (by omega) (by omega)).mono ?_
  rintro e w31 ⟨rfl, hX⟩
  replace w0 := Hd.mk (R_below w0.out hX)
  replace ew0 := Hd.mk (Nat.le_trans ew0.out hX.size)
  replace g0 := Hd.mk (R_below g0.out hX)
  replace eg0 := Hd.mk (Nat.le_trans eg0.out hX.size)
  replace h0 := Hd.mk (R_below h0.out hX)
  replace eh0 := Hd.mk (Nat.le_trans eh0.out hX.size)
  replace hB := Hd.mk (below_then hB.out hX)
  clear hX
  go_wp2_with fail
  go_ret
  exact ⟨rfl, hB.out⟩
end Go.Proofs.Ytchjcllpnpibeaa.X
