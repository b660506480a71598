/- What is proved here: the law FnExactRowsOk answers true. Conditions: none. -/
import Derived.Test.YtchjcllpnpibeaaXFd
import Derived.StillTailTactics
import Derived.Deep.RegionWith
namespace Go.Proofs.Ytchjcllpnpibeaa.X
open Go.RowKit Go.Sort
set_option linter.unusedVariables false
set_option linter.unusedSimpArgs false
open Ty
set_option maxRecDepth 100000 in
theorem laws_FnExactRowsOk {w : World} (l : List Int) (cs0 : List Value) (hk0 : (sl 3 int).K w l cs0) (n : Int) (A2 : Option Addr) (c2 : Nat) (rs : List Row) (hv2 : rs.length ≤ c2) (hk2 : tRow.C w A2 rs) :
    Calls Try.prog 9 #[.agg cs0.toArray, .int .i64 n, .slice A2 rs.length c2] w fun e w' => e = .returned (.bool true) ∧ Below w.heap.size w w' := by
  obtain ⟨A0, c0, rfl, hc0, hr0⟩ := hk0
  have hm0 := hr0.1
  have hK0 := Hd.mk hr0; clear hr0
  have hm2 := hk2.1
  have hK2 := Hd.mk hk2; clear hk2
  go_enter Try.func9, Try.ntmps9
  go_wp2_with fail
  apply calls_gen; intro W0 hW
  have hE : Below w.heap.size w W0 := by rw [hW]; (repeat (with_reducible refine below_alloc ?_ _)); exact Below.refl _ _
  have b0 : Blk W0 (w.heap.size) #[Value.slice A0 l.length c0] 25 := by rw [hW]; exact (Blk.new w _ _)
  clear hW
  have hK0 := Hd.mk (C_below hK0.out hE)
  have hK2 := Hd.mk (C_below hK2.out hE)
  have hB := Hd.mk hE; clear hE
  refine (laws_szSchema _ _ _ _ _ (by omega) (by omega) hm0).mono ?_
  rintro e w1 ⟨rfl, hX⟩
  replace b0 := b0.below hX
  have hK0 := Hd.mk (C_below hK0.out hX)
  have hK2 := Hd.mk (C_below hK2.out hX)
  have hB := Hd.mk (below_then hB.out hX)
  clear hX
  have fb00 : w1.cell? ⟨w.heap.size, 0, none⟩ = some (Value.slice A0 l.length c0) := b0.cell 0 rfl
  have hb0 := Hd.mk b0; clear b0
  by_cases hz0 : szR 1048576 (l.length) < 0
  · go_wp2_with fail
    go_ret
    exact ⟨rfl, hB.out⟩
  have HL0 := Hd.mk (szR_le (Int.not_lt.1 hz0) (by omega))
  have hy0 := HL0.out.2.1
  have hx0 := HL0.out.2.2.1
  clear hz0
  go_wp2_with fail
  clear fb00
  have b0 := hb0.out; clear hb0
  apply calls_gen; intro W1 hW
  have hE : Below w1.heap.size w1 W1 := by rw [hW]; (repeat (first | with_reducible refine below_alloc ?_ _ | with_reducible refine below_drew ?_)); exact Below.refl _ _
  clear hW
  replace b0 := b0.below hE
  have hK0 := Hd.mk (C_below hK0.out hE)
  have hK2 := Hd.mk (C_below hK2.out hE)
  have hB := Hd.mk (below_then hB.out hE)
  clear hE
  refine (laws_szRowS _ _ rs _ _ hK2.out hy0 hx0).mono ?_
  rintro e w2 ⟨rfl, hX⟩
  replace b0 := b0.below hX
  have hK0 := Hd.mk (C_below hK0.out hX)
  have hK2 := Hd.mk (C_below hK2.out hX)
  have hB := Hd.mk (below_then hB.out hX)
  clear hX
  have fb00 : w2.cell? ⟨w.heap.size, 0, none⟩ = some (Value.slice A0 l.length c0) := b0.cell 0 rfl
  have hb0 := Hd.mk b0; clear b0
  by_cases hz2 : szR (szR 1048576 (l.length)) (bulkRowS rs) < 0
  · go_wp2_with fail
    go_ret
    exact ⟨rfl, hB.out⟩
  have HL2 := Hd.mk (szR_le (Int.not_lt.1 hz2) hx0)
  have hy2 := HL2.out.2.1
  have hx2 := HL2.out.2.2.1
  clear hz2
  go_wp2_with fail
  clear fb00
  have b0 := hb0.out; clear hb0
  have fb00 : w2.cell? ⟨w.heap.size, 0, none⟩ = some (Value.slice A0 l.length c0) := b0.cell 0 rfl
  have hb0 := Hd.mk b0; clear b0
  clear fb00
  have b0 := hb0.out; clear hb0
  apply calls_gen; intro W2 hW
  have hE : Below w2.heap.size w2 W2 := by rw [hW]; (repeat (first | with_reducible refine below_alloc ?_ _ | with_reducible refine below_drew ?_)); exact Below.refl _ _
  clear hW
  replace b0 := b0.below hE
  have hK0 := Hd.mk (C_below hK0.out hE)
  have hK2 := Hd.mk (C_below hK2.out hE)
  have hB := Hd.mk (below_then hB.out hE)
  clear hE
  refine (laws_toSchema _ _ l _ hK0.out HL0.out.1).mono ?_
  rintro e w3 ⟨v0s, rfl, hO0s, hX⟩
  replace b0 := b0.below hX
  have hK0 := Hd.mk (C_below hK0.out hX)
  have hK2 := Hd.mk (C_below hK2.out hX)
  have hB := Hd.mk (below_then hB.out hX)
  obtain ⟨A0s, c0s, rfl, hc0s, hZ0s⟩ := R_C hO0s; clear hO0s hX
  have hm0s := hZ0s.1
  have hK0s := Hd.mk hZ0s; clear hZ0s
  have fb00 : w3.cell? ⟨w.heap.size, 0, none⟩ = some (Value.slice A0 l.length c0) := b0.cell 0 rfl
  have hb0 := Hd.mk b0; clear b0
  go_wp2_with fail
  clear fb00
  have b0 := hb0.out; clear hb0
  apply calls_gen; intro W3 hW
  have hE : Below w3.heap.size w3 W3 := by rw [hW]; (repeat (first | with_reducible refine below_alloc ?_ _ | with_reducible refine below_drew ?_)); exact Below.refl _ _
  clear hW
  replace b0 := b0.below hE
  have hK0 := Hd.mk (C_below hK0.out hE)
  have hK2 := Hd.mk (C_below hK2.out hE)
  have hK0s := Hd.mk (C_below hK0s.out hE)
  have hB := Hd.mk (below_then hB.out hE)
  clear hE
  refine (laws_toRowS _ _ rs _ hK2.out HL2.out.1).mono ?_
  rintro e w4 ⟨v2s, rfl, hO2s, hX⟩
  replace b0 := b0.below hX
  have hK0 := Hd.mk (C_below hK0.out hX)
  have hK2 := Hd.mk (C_below hK2.out hX)
  have hK0s := Hd.mk (C_below hK0s.out hX)
  have hB := Hd.mk (below_then hB.out hX)
  obtain ⟨A2s, c2s, rfl, hc2s, hZ2s⟩ := R_C hO2s; clear hO2s hX
  have hm2s := hZ2s.1
  have hK2s := Hd.mk hZ2s; clear hZ2s
  have fb00 : w4.cell? ⟨w.heap.size, 0, none⟩ = some (Value.slice A0 l.length c0) := b0.cell 0 rfl
  have hb0 := Hd.mk b0; clear b0
  go_wp2_with fail
  clear fb00
  have b0 := hb0.out; clear hb0
  apply calls_gen; intro W4 hW
  have hE : Below w4.heap.size w4 W4 := by rw [hW]; (repeat (first | with_reducible refine below_alloc ?_ _ | with_reducible refine below_drew ?_)); exact Below.refl _ _
  clear hW
  replace b0 := b0.below hE
  have hK0 := Hd.mk (C_below hK0.out hE)
  have hK2 := Hd.mk (C_below hK2.out hE)
  have hK0s := Hd.mk (C_below hK0s.out hE)
  have hK2s := Hd.mk (C_below hK2s.out hE)
  have hB := Hd.mk (below_then hB.out hE)
  clear hE
  refine (spec_RowsOk _ _ l n _ _ rs _ hK0s.out hK2s.out).mono ?_
  rintro e w5 ⟨rfl, hX⟩
  replace b0 := b0.below hX
  have hK0 := Hd.mk (C_below hK0.out hX)
  have hK2 := Hd.mk (C_below hK2.out hX)
  have hK0s := Hd.mk (C_below hK0s.out hX)
  have hK2s := Hd.mk (C_below hK2s.out hX)
  have hB := Hd.mk (below_then hB.out hX)
  clear hX
  have fb00 : w5.cell? ⟨w.heap.size, 0, none⟩ = some (Value.slice A0 l.length c0) := b0.cell 0 rfl
  have hb0 := Hd.mk b0; clear b0
  go_wp2_with fail
  clear fb00
  have b0 := hb0.out; clear hb0
  apply calls_gen; intro W5 hW
  have hE : Below w5.heap.size w5 W5 := by rw [hW]; (repeat (first | with_reducible refine below_alloc ?_ _ | with_reducible refine below_drew ?_)); exact Below.refl _ _
  clear hW
  replace b0 := b0.below hE
  have hK0 := Hd.mk (C_below hK0.out hE)
  have hK2 := Hd.mk (C_below hK2.out hE)
  have hK0s := Hd.mk (C_below hK0s.out hE)
  have hK2s := Hd.mk (C_below hK2s.out hE)
  have hB := Hd.mk (below_then hB.out hE)
  clear hE
  refine (laws_toSchema _ _ l _ hK0.out HL0.out.1).mono ?_
  rintro e w6 ⟨v0x, rfl, hO0x, hX⟩
  replace b0 := b0.below hX
  have hK0 := Hd.mk (C_below hK0.out hX)
  have hK2 := Hd.mk (C_below hK2.out hX)
  have hK0s := Hd.mk (C_below hK0s.out hX)
  have hK2s := Hd.mk (C_below hK2s.out hX)
  have hB := Hd.mk (below_then hB.out hX)
  obtain ⟨A0x, c0x, rfl, hc0x, hZ0x⟩ := R_C hO0x; clear hO0x hX
  have hm0x := hZ0x.1
  have hK0x := Hd.mk hZ0x; clear hZ0x
  have fb00 : w6.cell? ⟨w.heap.size, 0, none⟩ = some (Value.slice A0 l.length c0) := b0.cell 0 rfl
  have hb0 := Hd.mk b0; clear b0
  have lfb00 := fun o => cell_below (below_alloc (Below.refl _ _) o) fb00
  go_wp2_with fail
  clear lfb00
  clear fb00
  have b0 := hb0.out; clear hb0
  apply calls_gen; intro W6 hW
  have hE : Below w6.heap.size w6 W6 := by rw [hW]; (repeat (first | with_reducible refine below_alloc ?_ _ | with_reducible refine below_drew ?_)); exact Below.refl _ _
  have d0 : Blk W6 w6.heap.size #[Value.slice A0x l.length c0x] 28 := by rw [hW]; exact Blk.new _ _ _
  clear hW
  replace b0 := b0.below hE
  have hK0 := Hd.mk (C_below hK0.out hE)
  have hK2 := Hd.mk (C_below hK2.out hE)
  have hK0s := Hd.mk (C_below hK0s.out hE)
  have hK2s := Hd.mk (C_below hK2s.out hE)
  have hK0x := Hd.mk (C_below hK0x.out hE)
  have hB := Hd.mk (below_then hB.out hE)
  clear hE
  refine (laws_toRowS _ _ rs _ hK2.out HL2.out.1).mono ?_
  rintro e w7 ⟨v2x, rfl, hO2x, hX⟩
  replace b0 := b0.below hX
  replace d0 := d0.below hX
  have hK0 := Hd.mk (C_below hK0.out hX)
  have hK2 := Hd.mk (C_below hK2.out hX)
  have hK0s := Hd.mk (C_below hK0s.out hX)
  have hK2s := Hd.mk (C_below hK2s.out hX)
  have hK0x := Hd.mk (C_below hK0x.out hX)
  have hB := Hd.mk (below_then hB.out hX)
  obtain ⟨A2x, c2x, rfl, hc2x, hZ2x⟩ := R_C hO2x; clear hO2x hX
  have hm2x := hZ2x.1
  have hK2x := Hd.mk hZ2x; clear hZ2x
  have fb00 : w7.cell? ⟨w.heap.size, 0, none⟩ = some (Value.slice A0 l.length c0) := b0.cell 0 rfl
  have fd00 : w7.cell? ⟨w6.heap.size, 0, none⟩ = some (Value.slice A0x l.length c0x) := d0.cell 0 rfl
  have hb0 := Hd.mk b0; clear b0; have hd0 := Hd.mk d0; clear d0
  go_wp2_with fail
  clear fb00 fd00
  have b0 := hb0.out; clear hb0; have d0 := hd0.out; clear hd0
  apply calls_gen; intro W7 hW
  have hE : Below w7.heap.size w7 W7 := by rw [hW]; (repeat (first | with_reducible refine below_alloc ?_ _ | with_reducible refine below_drew ?_)); exact Below.refl _ _
  clear hW
  replace b0 := b0.below hE
  replace d0 := d0.below hE
  have hK0 := Hd.mk (C_below hK0.out hE)
  have hK2 := Hd.mk (C_below hK2.out hE)
  have hK0s := Hd.mk (C_below hK0s.out hE)
  have hK2s := Hd.mk (C_below hK2s.out hE)
  have hK0x := Hd.mk (C_below hK0x.out hE)
  have hK2x := Hd.mk (C_below hK2x.out hE)
  have hB := Hd.mk (below_then hB.out hE)
  clear hE
  refine (impl_RowsOk _ _ l n _ _ rs _ hK0x.out hK2x.out).mono ?_
  rintro e w8 ⟨rfl, hX⟩
  replace b0 := b0.below hX
  replace d0 := d0.below hX
  have hK0 := Hd.mk (C_below hK0.out hX)
  have hK2 := Hd.mk (C_below hK2.out hX)
  have hK0s := Hd.mk (C_below hK0s.out hX)
  have hK2s := Hd.mk (C_below hK2s.out hX)
  have hK0x := Hd.mk (C_below hK0x.out hX)
  have hK2x := Hd.mk (C_below hK2x.out hX)
  have hB := Hd.mk (below_then hB.out hX)
  clear hX
  have fb00 : w8.cell? ⟨w.heap.size, 0, none⟩ = some (Value.slice A0 l.length c0) := b0.cell 0 rfl
  have fd00 : w8.cell? ⟨w6.heap.size, 0, none⟩ = some (Value.slice A0x l.length c0x) := d0.cell 0 rfl
  have hb0 := Hd.mk b0; clear b0; have hd0 := Hd.mk d0; clear d0
  go_wp2_with fail
  have rfb00 := cell_regrown fb00
  have rfd00 := cell_regrown fd00
  refine region_mix [(true, 0), (true, 1), (false, 2), (false, 3), (true, 4)] (by kernel_rfl) (by kernel_rfl) (fun _ _ _ _ _ h => h) ?_
  try (repeat (refine mix_q rfl ?_; go_big_quiet_want; go_big_quiet_op; go_big_quiet_on; refine wpQuiet_nil ?_))
  refine mix_b rfl ?_ (by rfl)
  go_wp2_with fail
  clear rfb00 rfd00
  clear fb00 fd00
  have b0 := hb0.out; clear hb0; have d0 := hd0.out; clear hd0
  have hS := Hd.mk (Below.refl w8.heap.size w8)
  apply calls_gen; intro W8 hW
  have hE : Below w8.heap.size w8 W8 := by rw [hW]; (repeat (first | with_reducible refine below_alloc ?_ _ | with_reducible refine below_drew ?_)); exact Below.refl _ _
  clear hW
  have hS := Hd.mk (below_then hS.out hE)
  replace b0 := b0.below hE
  replace d0 := d0.below hE
  have hK0 := Hd.mk (C_below hK0.out hE)
  have hK2 := Hd.mk (C_below hK2.out hE)
  have hK0s := Hd.mk (C_below hK0s.out hE)
  have hK2s := Hd.mk (C_below hK2s.out hE)
  have hK0x := Hd.mk (C_below hK0x.out hE)
  have hK2x := Hd.mk (C_below hK2x.out hE)
  have hB := Hd.mk (below_then hB.out hE)
  clear hE
  refine (laws_toSchema _ _ l _ hK0.out HL0.out.1).mono ?_
  rintro e w9 ⟨v0y, rfl, hO0y, hX⟩
  have hS := Hd.mk (below_then hS.out hX)
  replace b0 := b0.below hX
  replace d0 := d0.below hX
  have hK0 := Hd.mk (C_below hK0.out hX)
  have hK2 := Hd.mk (C_below hK2.out hX)
  have hK0s := Hd.mk (C_below hK0s.out hX)
  have hK2s := Hd.mk (C_below hK2s.out hX)
  have hK0x := Hd.mk (C_below hK0x.out hX)
  have hK2x := Hd.mk (C_below hK2x.out hX)
  have hB := Hd.mk (below_then hB.out hX)
  obtain ⟨A0y, c0y, rfl, hc0y, hZ0y⟩ := R_C hO0y; clear hO0y hX
  have hm0y := hZ0y.1
  have hK0y := Hd.mk hZ0y; clear hZ0y
  have fb00 : w9.cell? ⟨w.heap.size, 0, none⟩ = some (Value.slice A0 l.length c0) := b0.cell 0 rfl
  have fd00 : w9.cell? ⟨w6.heap.size, 0, none⟩ = some (Value.slice A0x l.length c0x) := d0.cell 0 rfl
  have hb0 := Hd.mk b0; clear b0; have hd0 := Hd.mk d0; clear d0
  go_wp2_with fail
  refine ⟨cls_below hS.out, ?_⟩
  refine mix_b rfl ?_ (by rfl)
  go_wp2_with fail
  clear fb00 fd00
  have b0 := hb0.out; clear hb0; have d0 := hd0.out; clear hd0
  apply calls_gen; intro W9 hW
  have hE : Below w9.heap.size w9 W9 := by rw [hW]; (repeat (first | with_reducible refine below_alloc ?_ _ | with_reducible refine below_drew ?_)); exact Below.refl _ _
  clear hW
  have hS := Hd.mk (below_then hS.out hE)
  replace b0 := b0.below hE
  replace d0 := d0.below hE
  have hK0 := Hd.mk (C_below hK0.out hE)
  have hK2 := Hd.mk (C_below hK2.out hE)
  have hK0s := Hd.mk (C_below hK0s.out hE)
  have hK2s := Hd.mk (C_below hK2s.out hE)
  have hK0x := Hd.mk (C_below hK0x.out hE)
  have hK2x := Hd.mk (C_below hK2x.out hE)
  have hK0y := Hd.mk (C_below hK0y.out hE)
  have hB := Hd.mk (below_then hB.out hE)
  clear hE
  refine (laws_eqSchema _ _ _ _ l l _ hK0x.out hK0y.out).mono ?_
  rintro e w10 ⟨rfl, hX⟩
  have hS := Hd.mk (below_then hS.out hX)
  replace b0 := b0.below hX
  replace d0 := d0.below hX
  have hK0 := Hd.mk (C_below hK0.out hX)
  have hK2 := Hd.mk (C_below hK2.out hX)
  have hK0s := Hd.mk (C_below hK0s.out hX)
  have hK2s := Hd.mk (C_below hK2s.out hX)
  have hK0x := Hd.mk (C_below hK0x.out hX)
  have hK2x := Hd.mk (C_below hK2x.out hX)
  have hK0y := Hd.mk (C_below hK0y.out hX)
  have hB := Hd.mk (below_then hB.out hX)
  clear hX
  rw [eqv_self]
  have fb00 : w10.cell? ⟨w.heap.size, 0, none⟩ = some (Value.slice A0 l.length c0) := b0.cell 0 rfl
  have fd00 : w10.cell? ⟨w6.heap.size, 0, none⟩ = some (Value.slice A0x l.length c0x) := d0.cell 0 rfl
  have hb0 := Hd.mk b0; clear b0; have hd0 := Hd.mk d0; clear d0
  have rfb00 := cell_regrown fb00
  have rfd00 := cell_regrown fd00
  go_wp2_with fail
  refine ⟨cls_below hS.out, ?_⟩
  try (repeat (refine mix_q rfl ?_; go_big_quiet_want; go_big_quiet_op; go_big_quiet_on; refine wpQuiet_nil ?_))
  refine mix_nil ?_
  clear rfb00 rfd00
  clear hS
  go_wp2_with fail
  clear fb00 fd00
  have b0 := hb0.out; clear hb0; have d0 := hd0.out; clear hd0
  have fb00 : w10.cell? ⟨w.heap.size, 0, none⟩ = some (Value.slice A0 l.length c0) := b0.cell 0 rfl
  have fd00 : w10.cell? ⟨w6.heap.size, 0, none⟩ = some (Value.slice A0x l.length c0x) := d0.cell 0 rfl
  have hb0 := Hd.mk b0; clear b0; have hd0 := Hd.mk d0; clear d0
  go_wp2_with fail
  clear fb00 fd00
  have b0 := hb0.out; clear hb0; have d0 := hd0.out; clear hd0
  apply calls_gen; intro W10 hW
  have hE : Below w10.heap.size w10 W10 := by rw [hW]; (repeat (first | with_reducible refine below_alloc ?_ _ | with_reducible refine below_drew ?_)); exact Below.refl _ _
  clear hW
  replace b0 := b0.below hE
  replace d0 := d0.below hE
  have hK0 := Hd.mk (C_below hK0.out hE)
  have hK2 := Hd.mk (C_below hK2.out hE)
  have hK0s := Hd.mk (C_below hK0s.out hE)
  have hK2s := Hd.mk (C_below hK2s.out hE)
  have hK0x := Hd.mk (C_below hK0x.out hE)
  have hK2x := Hd.mk (C_below hK2x.out hE)
  have hK0y := Hd.mk (C_below hK0y.out hE)
  have hB := Hd.mk (below_then hB.out hE)
  clear hE
  refine (laws_toRowS _ _ rs _ hK2.out HL2.out.1).mono ?_
  rintro e w11 ⟨v2y, rfl, hO2y, hX⟩
  replace b0 := b0.below hX
  replace d0 := d0.below hX
  have hK0 := Hd.mk (C_below hK0.out hX)
  have hK2 := Hd.mk (C_below hK2.out hX)
  have hK0s := Hd.mk (C_below hK0s.out hX)
  have hK2s := Hd.mk (C_below hK2s.out hX)
  have hK0x := Hd.mk (C_below hK0x.out hX)
  have hK2x := Hd.mk (C_below hK2x.out hX)
  have hK0y := Hd.mk (C_below hK0y.out hX)
  have hB := Hd.mk (below_then hB.out hX)
  obtain ⟨A2y, c2y, rfl, hc2y, hZ2y⟩ := R_C hO2y; clear hO2y hX
  have hm2y := hZ2y.1
  have hK2y := Hd.mk hZ2y; clear hZ2y
  have fb00 : w11.cell? ⟨w.heap.size, 0, none⟩ = some (Value.slice A0 l.length c0) := b0.cell 0 rfl
  have fd00 : w11.cell? ⟨w6.heap.size, 0, none⟩ = some (Value.slice A0x l.length c0x) := d0.cell 0 rfl
  have hb0 := Hd.mk b0; clear b0; have hd0 := Hd.mk d0; clear d0
  go_wp2_with fail
  clear fb00 fd00
  have b0 := hb0.out; clear hb0; have d0 := hd0.out; clear hd0
  apply calls_gen; intro W11 hW
  have hE : Below w11.heap.size w11 W11 := by rw [hW]; (repeat (first | with_reducible refine below_alloc ?_ _ | with_reducible refine below_drew ?_)); exact Below.refl _ _
  clear hW
  replace b0 := b0.below hE
  replace d0 := d0.below hE
  have hK0 := Hd.mk (C_below hK0.out hE)
  have hK2 := Hd.mk (C_below hK2.out hE)
  have hK0s := Hd.mk (C_below hK0s.out hE)
  have hK2s := Hd.mk (C_below hK2s.out hE)
  have hK0x := Hd.mk (C_below hK0x.out hE)
  have hK2x := Hd.mk (C_below hK2x.out hE)
  have hK0y := Hd.mk (C_below hK0y.out hE)
  have hK2y := Hd.mk (C_below hK2y.out hE)
  have hB := Hd.mk (below_then hB.out hE)
  clear hE
  refine (laws_eqRowS _ _ _ _ rs rs _ hK2x.out hK2y.out).mono ?_
  rintro e w12 ⟨rfl, hX⟩
  replace b0 := b0.below hX
  replace d0 := d0.below hX
  have hK0 := Hd.mk (C_below hK0.out hX)
  have hK2 := Hd.mk (C_below hK2.out hX)
  have hK0s := Hd.mk (C_below hK0s.out hX)
  have hK2s := Hd.mk (C_below hK2s.out hX)
  have hK0x := Hd.mk (C_below hK0x.out hX)
  have hK2x := Hd.mk (C_below hK2x.out hX)
  have hK0y := Hd.mk (C_below hK0y.out hX)
  have hK2y := Hd.mk (C_below hK2y.out hX)
  have hB := Hd.mk (below_then hB.out hX)
  clear hX
  rw [eqv_self]
  have fb00 : w12.cell? ⟨w.heap.size, 0, none⟩ = some (Value.slice A0 l.length c0) := b0.cell 0 rfl
  have fd00 : w12.cell? ⟨w6.heap.size, 0, none⟩ = some (Value.slice A0x l.length c0x) := d0.cell 0 rfl
  have hb0 := Hd.mk b0; clear b0; have hd0 := Hd.mk d0; clear d0
  go_wp2_with fail
  clear fb00 fd00
  have b0 := hb0.out; clear hb0; have d0 := hd0.out; clear hd0
  go_ret
  exact ⟨rfl, hB.out⟩
end Go.Proofs.Ytchjcllpnpibeaa.X
