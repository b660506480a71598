/- What is proved here: the law FnExactWayText answers true. Conditions: none. -/
import Derived.Test.YtkgefjjgjjmklaaDoorXWt
import Derived.StillTailTactics
import Derived.Deep.RegionWith
namespace Go.Proofs.YtkgefjjgjjmklaaDoor.X
open Go.RowKit Go.Sort
set_option linter.unusedVariables false
set_option linter.unusedSimpArgs false
open Ty
set_option maxRecDepth 100000 in
theorem laws_FnExactWayText {w : World} (A0 : Option Addr) (c0 : Nat) (l : List ByteArray) (hv0 : l.length ≤ c0) (hk0 : str.C w A0 l) (hM : EnvM w) :
    Calls Tryd.prog 3 #[.slice A0 l.length c0] w fun e w' => e = .returned (.bool true) ∧ Below w.heap.size w w' := by
  have hm0 := hk0.1
  have hK0 := Hd.mk hk0; clear hk0
  replace hM := Hd.mk hM
  go_enter Tryd.func3, Tryd.ntmps3
  go_wp2_with fail
  apply calls_gen; intro W0 hW
  have hE : Below w.heap.size w W0 := by rw [hW]; (repeat (with_reducible refine below_alloc ?_ _)); exact Below.refl _ _
  clear hW
  have hK0 := Hd.mk (C_below hK0.out hE)
  have hM := Hd.mk (envM_mv hE hM.out)
  have hB := Hd.mk hE; clear hE
  refine (laws_szStringS _ _ l _ _ hK0.out (by omega) (by omega)).mono ?_
  rintro e w1 ⟨rfl, hX⟩
  have hK0 := Hd.mk (C_below hK0.out hX)
  have hM := Hd.mk (envM_mv hX hM.out)
  have hB := Hd.mk (below_then hB.out hX)
  clear hX
  by_cases hz0 : szR 1048576 (bulkStringS l) < 0
  · go_wp2_with fail
    go_ret
    exact ⟨rfl, hB.out⟩
  have HL0 := Hd.mk (szR_le (Int.not_lt.1 hz0) (by omega))
  have hy0 := HL0.out.2.1
  have hx0 := HL0.out.2.2.1
  clear hz0
  go_wp2_with fail
  apply calls_gen; intro W1 hW
  have hE : Below w1.heap.size w1 W1 := by rw [hW]; (repeat (first | with_reducible refine below_alloc ?_ _ | with_reducible refine below_drew ?_)); exact Below.refl _ _
  clear hW
  have hK0 := Hd.mk (C_below hK0.out hE)
  have hM := Hd.mk (envM_mv hE hM.out)
  have hB := Hd.mk (below_then hB.out hE)
  clear hE
  refine (laws_toStringS _ _ l _ hK0.out HL0.out.1).mono ?_
  rintro e w2 ⟨v0s, rfl, hO0s, hX⟩
  have hK0 := Hd.mk (C_below hK0.out hX)
  have hM := Hd.mk (envM_mv hX hM.out)
  have hB := Hd.mk (below_then hB.out hX)
  obtain ⟨A0s, c0s, rfl, hc0s, hZ0s⟩ := R_C hO0s; clear hO0s hX
  have hm0s := hZ0s.1
  have hK0s := Hd.mk hZ0s; clear hZ0s
  go_wp2_with fail
  apply calls_gen; intro W2 hW
  have hE : Below w2.heap.size w2 W2 := by rw [hW]; (repeat (first | with_reducible refine below_alloc ?_ _ | with_reducible refine below_drew ?_)); exact Below.refl _ _
  clear hW
  have hK0 := Hd.mk (C_below hK0.out hE)
  have hM := Hd.mk (envM_mv hE hM.out)
  have hK0s := Hd.mk (C_below hK0s.out hE)
  have hB := Hd.mk (below_then hB.out hE)
  clear hE
  refine (spec_WayText _ _ l _ hK0s.out HL0.out.1).mono ?_
  rintro e w3 ⟨rfl, hX⟩
  have hK0 := Hd.mk (C_below hK0.out hX)
  have hM := Hd.mk (envM_mv hX hM.out)
  have hK0s := Hd.mk (C_below hK0s.out hX)
  have hB := Hd.mk (below_then hB.out hX)
  clear hX
  go_wp2_with fail
  apply calls_gen; intro W3 hW
  have hE : Below w3.heap.size w3 W3 := by rw [hW]; (repeat (first | with_reducible refine below_alloc ?_ _ | with_reducible refine below_drew ?_)); exact Below.refl _ _
  clear hW
  have hK0 := Hd.mk (C_below hK0.out hE)
  have hM := Hd.mk (envM_mv hE hM.out)
  have hK0s := Hd.mk (C_below hK0s.out hE)
  have hB := Hd.mk (below_then hB.out hE)
  clear hE
  refine (laws_toStringS _ _ l _ hK0.out HL0.out.1).mono ?_
  rintro e w4 ⟨v0x, rfl, hO0x, hX⟩
  have hK0 := Hd.mk (C_below hK0.out hX)
  have hM := Hd.mk (envM_mv hX hM.out)
  have hK0s := Hd.mk (C_below hK0s.out hX)
  have hB := Hd.mk (below_then hB.out hX)
  obtain ⟨A0x, c0x, rfl, hc0x, hZ0x⟩ := R_C hO0x; clear hO0x hX
  have hm0x := hZ0x.1
  have hK0x := Hd.mk hZ0x; clear hZ0x
  go_wp2_with fail
  apply calls_gen; intro W4 hW
  have hE : Below w4.heap.size w4 W4 := by rw [hW]; (repeat (first | with_reducible refine below_alloc ?_ _ | with_reducible refine below_drew ?_)); exact Below.refl _ _
  clear hW
  have hK0 := Hd.mk (C_below hK0.out hE)
  have hM := Hd.mk (envM_mv hE hM.out)
  have hK0s := Hd.mk (C_below hK0s.out hE)
  have hK0x := Hd.mk (C_below hK0x.out hE)
  have hB := Hd.mk (below_then hB.out hE)
  clear hE
  refine (impl_WayText _ _ l _ hK0x.out HL0.out.1 hM.out).mono ?_
  rintro e w5 ⟨rfl, hX⟩
  have hK0 := Hd.mk (C_below hK0.out hX)
  have hM := Hd.mk (envM_mv hX hM.out)
  have hK0s := Hd.mk (C_below hK0s.out hX)
  have hK0x := Hd.mk (C_below hK0x.out hX)
  have hB := Hd.mk (below_then hB.out hX)
  clear hX
  go_wp2_with fail
  go_wp2_with fail
  apply calls_gen; intro W5 hW
  have hE : Below w5.heap.size w5 W5 := by rw [hW]; (repeat (first | with_reducible refine below_alloc ?_ _ | with_reducible refine below_drew ?_)); exact Below.refl _ _
  clear hW
  have hK0 := Hd.mk (C_below hK0.out hE)
  have hM := Hd.mk (envM_mv hE hM.out)
  have hK0s := Hd.mk (C_below hK0s.out hE)
  have hK0x := Hd.mk (C_below hK0x.out hE)
  have hB := Hd.mk (below_then hB.out hE)
  clear hE
  refine (laws_toStringS _ _ l _ hK0.out HL0.out.1).mono ?_
  rintro e w6 ⟨v0y, rfl, hO0y, hX⟩
  have hK0 := Hd.mk (C_below hK0.out hX)
  have hM := Hd.mk (envM_mv hX hM.out)
  have hK0s := Hd.mk (C_below hK0s.out hX)
  have hK0x := Hd.mk (C_below hK0x.out hX)
  have hB := Hd.mk (below_then hB.out hX)
  obtain ⟨A0y, c0y, rfl, hc0y, hZ0y⟩ := R_C hO0y; clear hO0y hX
  have hm0y := hZ0y.1
  have hK0y := Hd.mk hZ0y; clear hZ0y
  go_wp2_with fail
  apply calls_gen; intro W6 hW
  have hE : Below w6.heap.size w6 W6 := by rw [hW]; (repeat (first | with_reducible refine below_alloc ?_ _ | with_reducible refine below_drew ?_)); exact Below.refl _ _
  clear hW
  have hK0 := Hd.mk (C_below hK0.out hE)
  have hM := Hd.mk (envM_mv hE hM.out)
  have hK0s := Hd.mk (C_below hK0s.out hE)
  have hK0x := Hd.mk (C_below hK0x.out hE)
  have hK0y := Hd.mk (C_below hK0y.out hE)
  have hB := Hd.mk (below_then hB.out hE)
  clear hE
  refine (laws_eqStringS _ _ _ _ l l _ hK0x.out hK0y.out).mono ?_
  rintro e w7 ⟨rfl, hX⟩
  have hK0 := Hd.mk (C_below hK0.out hX)
  have hM := Hd.mk (envM_mv hX hM.out)
  have hK0s := Hd.mk (C_below hK0s.out hX)
  have hK0x := Hd.mk (C_below hK0x.out hX)
  have hK0y := Hd.mk (C_below hK0y.out hX)
  have hB := Hd.mk (below_then hB.out hX)
  clear hX
  rw [eqv_self]
  go_wp2_with fail
  go_ret
  exact ⟨rfl, hB.out⟩
end Go.Proofs.YtkgefjjgjjmklaaDoor.X
