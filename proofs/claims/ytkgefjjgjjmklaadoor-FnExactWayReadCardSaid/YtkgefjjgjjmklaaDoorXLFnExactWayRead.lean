/- What is proved here: the law FnExactWayRead answers true. Conditions: none. -/
import Derived.Test.YtkgefjjgjjmklaaDoorXP
import Derived.Test.YtkgefjjgjjmklaaDoorXWr
import Derived.StillTailTactics
import Derived.Deep.RegionWith
namespace Go.Proofs.YtkgefjjgjjmklaaDoor.X
open Go.RowKit Go.Sort
set_option linter.unusedVariables false
set_option linter.unusedSimpArgs false
open Ty
set_option maxHeartbeats 16000000 in
set_option maxRecDepth 100000 in
theorem laws_FnExactWayRead {w : World} (s : ByteArray) (hq0 : s.size ≤ 140737488351232) (hM : EnvM w) :
    Calls Tryd.prog 4 #[.string s] w fun e w' => e = .returned (.bool true) ∧ Below w.heap.size w w' := by
  obtain ⟨y, hy⟩ : ∃ z, z = wayV s := ⟨_, rfl⟩
  have Hy := Hd.mk hy; clear hy
  obtain ⟨yb, hyb⟩ : ∃ z, z = wayOk s := ⟨_, rfl⟩
  have Hyb := Hd.mk hyb; clear hyb
  replace hM := Hd.mk hM
  go_enter Tryd.func4, Tryd.ntmps4
  by_cases hs0 : (1048576 : Int) < (s.size : Int)
  · go_wp2_with fail
    go_ret
    exact ⟨rfl, by (repeat (with_reducible refine below_alloc ?_ _)); exact Below.refl _ _⟩
  go_wp2_with fail
  apply calls_gen; intro W0 hW
  have hE : Below w.heap.size w W0 := by rw [hW]; (repeat (with_reducible refine below_alloc ?_ _)); exact Below.refl _ _
  clear hW
  have hB := Hd.mk hE; clear hE
  have hx_y : ((bulkL one y : Int) : Int) ≤ 1099511627776 := by (rw [Hy.out]; exact wayV_one s)
  apply calls_gen; intro W1 hW
  have hE : Below W0.heap.size W0 W1 := by rw [hW]; (repeat (first | with_reducible refine below_alloc ?_ _ | with_reducible refine below_drew ?_)); exact Below.refl _ _
  clear hW
  replace hB := Hd.mk (below_then hB.out hE)
  clear hE
  refine (spec_WayRead s _ (by omega)).mono ?_
  rintro e w2 ⟨v_, rfl, hO, hX⟩
  have aw0 := Hd.mk hB.out.size
  replace hB := Hd.mk (below_then hB.out hX)
  clear hX
  rw [← Hy.out] at hO
  rw [← Hyb.out]
  replace hO := R_bound hO
  obtain ⟨Aw0, cw0, hvw0, hcw0, _⟩ := R_C hO
  subst hvw0
  have w0 := Hd.mk (show str.R 9 w2 (rng W1.heap.size w2.heap.size) (.slice Aw0 y.length cw0) y from hO); clear hO
  have hmw0 := (R_Cv w0.out).1
  have ew0 := Hd.mk (Nat.le_refl w2.heap.size)
  go_wp2_with fail
  apply calls_gen; intro W3 hW
  have hE : Below w2.heap.size w2 W3 := by rw [hW]; (repeat (first | with_reducible refine below_alloc ?_ _ | with_reducible refine below_drew ?_)); exact Below.refl _ _
  clear hW
  replace w0 := Hd.mk (R_below w0.out hE)
  replace ew0 := Hd.mk (Nat.le_trans ew0.out hE.size)
  replace hB := Hd.mk (below_then hB.out hE)
  clear hE
  refine (impl_WayRead s _ (by omega) (hM.out.below hB.out)).mono ?_
  rintro e w4 ⟨v_, rfl, hO, hX⟩
  have dw0_g0 := Hd.mk ew0.out
  have ag0 := Hd.mk hB.out.size
  replace w0 := Hd.mk (R_below w0.out hX)
  replace ew0 := Hd.mk (Nat.le_trans ew0.out hX.size)
  replace hB := Hd.mk (below_then hB.out hX)
  clear hX
  rw [← Hy.out] at hO
  rw [← Hyb.out]
  replace hO := R_bound hO
  obtain ⟨Ag0, cg0, hvg0, hcg0, _⟩ := R_C hO
  subst hvg0
  have g0 := Hd.mk (show str.R 9 w4 (rng W3.heap.size w4.heap.size) (.slice Ag0 y.length cg0) y from hO); clear hO
  have hmg0 := (R_Cv g0.out).1
  have eg0 := Hd.mk (Nat.le_refl w4.heap.size)
  go_wp2_with fail
  apply calls_gen; intro W5 hW
  have hE : Below w4.heap.size w4 W5 := by rw [hW]; (repeat (first | with_reducible refine below_alloc ?_ _ | with_reducible refine below_drew ?_)); exact Below.refl _ _
  clear hW
  replace w0 := Hd.mk (R_below w0.out hE)
  replace ew0 := Hd.mk (Nat.le_trans ew0.out hE.size)
  replace g0 := Hd.mk (R_below g0.out hE)
  replace eg0 := Hd.mk (Nat.le_trans eg0.out hE.size)
  replace hB := Hd.mk (below_then hB.out hE)
  clear hE
  refine (laws_eqStringS _ _ _ _ y y _ (R_Cv g0.out) (R_Cv w0.out)).mono ?_
  rintro e w6 ⟨rfl, hX⟩
  replace w0 := Hd.mk (R_below w0.out hX)
  replace ew0 := Hd.mk (Nat.le_trans ew0.out hX.size)
  replace g0 := Hd.mk (R_below g0.out hX)
  replace eg0 := Hd.mk (Nat.le_trans eg0.out hX.size)
  replace hB := Hd.mk (below_then hB.out hX)
  clear hX
  rw [eqv_self]
  go_wp2_with fail
  apply calls_gen; intro W7 hW
  have hE : Below w6.heap.size w6 W7 := by rw [hW]; (repeat (first | with_reducible refine below_alloc ?_ _ | with_reducible refine below_drew ?_)); exact Below.refl _ _
  clear hW
  replace w0 := Hd.mk (R_below w0.out hE)
  replace ew0 := Hd.mk (Nat.le_trans ew0.out hE.size)
  replace g0 := Hd.mk (R_below g0.out hE)
  replace eg0 := Hd.mk (Nat.le_trans eg0.out hE.size)
  replace hB := Hd.mk (below_then hB.out hE)
  clear hE
  refine (laws_markStringS _ _ (1) _ g0.out (by omega) (by omega)).mono ?_
  rintro e w8 ⟨rfl, hM, hX⟩
  have hsz_ := hX.size
  replace w0 := Hd.mk (R_fr w0.out hX (rng_off (Or.inl dw0_g0.out)))
  replace ew0 := Hd.mk (Nat.le_trans ew0.out hsz_)
  replace eg0 := Hd.mk (Nat.le_trans eg0.out hsz_)
  replace hB := Hd.mk (below_rng hB.out hX ag0.out)
  clear hsz_
  clear hX
  replace g0 := Hd.mk hM; clear hM
  have hqp : (0 : Int) ≤ 1 + (bulkL one y : Int) := by omega
  go_wp2_with fail
  apply calls_gen; intro W9 hW
  have hE : Below w8.heap.size w8 W9 := by rw [hW]; (repeat (first | with_reducible refine below_alloc ?_ _ | with_reducible refine below_drew ?_)); exact Below.refl _ _
  clear hW
  replace w0 := Hd.mk (R_below w0.out hE)
  replace ew0 := Hd.mk (Nat.le_trans ew0.out hE.size)
  replace g0 := Hd.mk (R_below g0.out hE)
  replace eg0 := Hd.mk (Nat.le_trans eg0.out hE.size)
  replace hB := Hd.mk (below_then hB.out hE)
  clear hE
  have hlen : (markL mkStr one 1 y).length = y.length := markL_length _ _
  rw [← hlen]
  refine (laws_heldStringS _ _ _ y 1 _ (R_Cv g0.out) rfl (by omega) (by omega)).mono ?_
  rintro e w10 ⟨rfl, hX⟩
  replace w0 := Hd.mk (R_below w0.out hX)
  replace ew0 := Hd.mk (Nat.le_trans ew0.out hX.size)
  replace g0 := Hd.mk (R_below g0.out hX)
  replace eg0 := Hd.mk (Nat.le_trans eg0.out hX.size)
  replace hB := Hd.mk (below_then hB.out hX)
  clear hX
  go_wp2_with fail
  apply calls_gen; intro W11 hW
  have hE : Below w10.heap.size w10 W11 := by rw [hW]; (repeat (first | with_reducible refine below_alloc ?_ _ | with_reducible refine below_drew ?_)); exact Below.refl _ _
  clear hW
  replace w0 := Hd.mk (R_below w0.out hE)
  replace ew0 := Hd.mk (Nat.le_trans ew0.out hE.size)
  replace g0 := Hd.mk (R_below g0.out hE)
  replace eg0 := Hd.mk (Nat.le_trans eg0.out hE.size)
  replace hB := Hd.mk (below_then hB.out hE)
  clear hE
  refine (impl_WayRead s _ (by omega) (hM.out.below hB.out)).mono ?_
  rintro e w12 ⟨v_, rfl, hO, hX⟩
  have dw0_h0 := Hd.mk ew0.out
  have dg0_h0 := Hd.mk eg0.out
  have ah0 := Hd.mk hB.out.size
  replace w0 := Hd.mk (R_below w0.out hX)
  replace ew0 := Hd.mk (Nat.le_trans ew0.out hX.size)
  replace g0 := Hd.mk (R_below g0.out hX)
  replace eg0 := Hd.mk (Nat.le_trans eg0.out hX.size)
  replace hB := Hd.mk (below_then hB.out hX)
  clear hX
  rw [← Hy.out] at hO
  rw [← Hyb.out]
  replace hO := R_bound hO
  obtain ⟨Ah0, ch0, hvh0, hch0, _⟩ := R_C hO
  subst hvh0
  have h0 := Hd.mk (show str.R 9 w12 (rng W11.heap.size w12.heap.size) (.slice Ah0 y.length ch0) y from hO); clear hO
  have hmh0 := (R_Cv h0.out).1
  have eh0 := Hd.mk (Nat.le_refl w12.heap.size)
  go_wp2_with fail
  apply calls_gen; intro W13 hW
  have hE : Below w12.heap.size w12 W13 := by rw [hW]; (repeat (first | with_reducible refine below_alloc ?_ _ | with_reducible refine below_drew ?_)); exact Below.refl _ _
  clear hW
  replace w0 := Hd.mk (R_below w0.out hE)
  replace ew0 := Hd.mk (Nat.le_trans ew0.out hE.size)
  replace g0 := Hd.mk (R_below g0.out hE)
  replace eg0 := Hd.mk (Nat.le_trans eg0.out hE.size)
  replace h0 := Hd.mk (R_below h0.out hE)
  replace eh0 := Hd.mk (Nat.le_trans eh0.out hE.size)
  replace hB := Hd.mk (below_then hB.out hE)
  clear hE
  refine (laws_eqStringS _ _ _ _ y y _ (R_Cv h0.out) (R_Cv w0.out)).mono ?_
  rintro e w14 ⟨rfl, hX⟩
  replace w0 := Hd.mk (R_below w0.out hX)
  replace ew0 := Hd.mk (Nat.le_trans ew0.out hX.size)
  replace g0 := Hd.mk (R_below g0.out hX)
  replace eg0 := Hd.mk (Nat.le_trans eg0.out hX.size)
  replace h0 := Hd.mk (R_below h0.out hX)
  replace eh0 := Hd.mk (Nat.le_trans eh0.out hX.size)
  replace hB := Hd.mk (below_then hB.out hX)
  clear hX
  rw [eqv_self]
  go_wp2_with fail
  apply calls_gen; intro W15 hW
  have hE : Below w14.heap.size w14 W15 := by rw [hW]; (repeat (first | with_reducible refine below_alloc ?_ _ | with_reducible refine below_drew ?_)); exact Below.refl _ _
  clear hW
  replace w0 := Hd.mk (R_below w0.out hE)
  replace ew0 := Hd.mk (Nat.le_trans ew0.out hE.size)
  replace g0 := Hd.mk (R_below g0.out hE)
  replace eg0 := Hd.mk (Nat.le_trans eg0.out hE.size)
  replace h0 := Hd.mk (R_below h0.out hE)
  replace eh0 := Hd.mk (Nat.le_trans eh0.out hE.size)
  replace hB := Hd.mk (below_then hB.out hE)
  clear hE
  have hlen : (markL mkStr one 1 y).length = y.length := markL_length _ _
  rw [← hlen]
  refine (laws_heldStringS _ _ _ y 1 _ (R_Cv g0.out) rfl (by omega) (by omega)).mono ?_
  rintro e w16 ⟨rfl, hX⟩
  replace w0 := Hd.mk (R_below w0.out hX)
  replace ew0 := Hd.mk (Nat.le_trans ew0.out hX.size)
  replace g0 := Hd.mk (R_below g0.out hX)
  replace eg0 := Hd.mk (Nat.le_trans eg0.out hX.size)
  replace h0 := Hd.mk (R_below h0.out hX)
  replace eh0 := Hd.mk (Nat.le_trans eh0.out hX.size)
  replace hB := Hd.mk (below_then hB.out hX)
  clear hX
  go_wp2_with fail
  go_ret
  exact ⟨rfl, hB.out⟩
end Go.Proofs.YtkgefjjgjjmklaaDoor.X
