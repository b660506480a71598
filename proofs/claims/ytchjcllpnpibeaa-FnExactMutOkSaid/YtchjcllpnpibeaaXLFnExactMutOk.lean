/- What is proved here: the law FnExactMutOk answers true. Conditions: none. -/
import Derived.Test.YtchjcllpnpibeaaXFc
import Derived.StillTailTactics
import Derived.Deep.RegionWith
namespace Go.Proofs.Ytchjcllpnpibeaa.X
open Go.RowKit Go.Sort
set_option linter.unusedVariables false
set_option linter.unusedSimpArgs false
open Ty
set_option maxRecDepth 100000 in
theorem laws_FnExactMutOk {w : World} (l : List Int) (cs0 : List Value) (hk0 : (sl 3 int).K w l cs0) (x : Mut) (cs1 : List Value) (hk1 : tMut.K w x cs1) :
    Calls Try.prog 8 #[.agg cs0.toArray, .agg cs1.toArray] w fun e w' => e = .returned (.bool true) ∧ Below w.heap.size w w' := by
  obtain ⟨A0, c0, rfl, hc0, hr0⟩ := hk0
  have hm0 := hr0.1
  have hK0 := Hd.mk hr0; clear hr0
  obtain ⟨A1, c1, rfl, hc1, hr1⟩ := tMut_K.1 hk1
  have hK1 := Hd.mk hk1; clear hk1
  clear hr1
  go_enter Try.func8, Try.ntmps8
  go_wp2_with fail
  apply calls_gen; intro W0 hW
  have hE : Below w.heap.size w W0 := by rw [hW]; (repeat (with_reducible refine below_alloc ?_ _)); exact Below.refl _ _
  have b0 : Blk W0 (w.heap.size) #[Value.slice A0 l.length c0] 25 := by rw [hW]; exact ((Blk.new w _ _).alloc _)
  have b1 : Blk W0 (w.heap.size + 1) #[Value.int IntKind.i64 x.kind, Value.int IntKind.i64 x.table, Value.int IntKind.i64 x.row.id, Value.slice A1 x.row.cells.length c1] 49 := by rw [hW]; simpa using (Blk.new (w.alloc _) _ _)
  clear hW
  have hK0 := Hd.mk (C_below hK0.out hE)
  have hK1 := Hd.mk (tMut.K_below hE hK1.out)
  have hB := Hd.mk hE; clear hE
  refine (laws_szSchema _ _ _ _ _ (by omega) (by omega) hm0).mono ?_
  rintro e w1 ⟨rfl, hX⟩
  replace b0 := b0.below hX
  replace b1 := b1.below hX
  have hK0 := Hd.mk (C_below hK0.out hX)
  have hK1 := Hd.mk (tMut.K_below hX hK1.out)
  have hB := Hd.mk (below_then hB.out hX)
  clear hX
  have fb00 : w1.cell? ⟨w.heap.size, 0, none⟩ = some (Value.slice A0 l.length c0) := b0.cell 0 rfl
  have fb10 : w1.cell? ⟨w.heap.size + 1, 0, none⟩ = some (Value.int IntKind.i64 x.kind) := b1.cell 0 rfl
  have fb11 : w1.cell? ⟨w.heap.size + 1, 1, none⟩ = some (Value.int IntKind.i64 x.table) := b1.cell 1 rfl
  have fb12 : w1.cell? ⟨w.heap.size + 1, 2, none⟩ = some (Value.int IntKind.i64 x.row.id) := b1.cell 2 rfl
  have fb13 : w1.cell? ⟨w.heap.size + 1, 3, none⟩ = some (Value.slice A1 x.row.cells.length c1) := b1.cell 3 rfl
  have hb0 := Hd.mk b0; clear b0; have hb1 := Hd.mk b1; clear b1
  by_cases hz0 : szR 1048576 (l.length) < 0
  · go_wp2_with fail
    go_ret
    exact ⟨rfl, hB.out⟩
  have HL0 := Hd.mk (szR_le (Int.not_lt.1 hz0) (by omega))
  have hy0 := HL0.out.2.1
  have hx0 := HL0.out.2.2.1
  clear hz0
  go_wp2_with fail
  clear fb00 fb10 fb11 fb12 fb13
  have b0 := hb0.out; clear hb0; have b1 := hb1.out; clear hb1
  apply calls_gen; intro W1 hW
  have hE : Below w1.heap.size w1 W1 := by rw [hW]; (repeat (first | with_reducible refine below_alloc ?_ _ | with_reducible refine below_drew ?_)); exact Below.refl _ _
  clear hW
  replace b0 := b0.below hE
  replace b1 := b1.below hE
  have hK0 := Hd.mk (C_below hK0.out hE)
  have hK1 := Hd.mk (tMut.K_below hE hK1.out)
  have hB := Hd.mk (below_then hB.out hE)
  clear hE
  refine (laws_szMut x _ _ _ hK1.out hy0 hx0).mono ?_
  rintro e w2 ⟨rfl, hX⟩
  replace b0 := b0.below hX
  replace b1 := b1.below hX
  have hK0 := Hd.mk (C_below hK0.out hX)
  have hK1 := Hd.mk (tMut.K_below hX hK1.out)
  have hB := Hd.mk (below_then hB.out hX)
  clear hX
  have fb00 : w2.cell? ⟨w.heap.size, 0, none⟩ = some (Value.slice A0 l.length c0) := b0.cell 0 rfl
  have fb10 : w2.cell? ⟨w.heap.size + 1, 0, none⟩ = some (Value.int IntKind.i64 x.kind) := b1.cell 0 rfl
  have fb11 : w2.cell? ⟨w.heap.size + 1, 1, none⟩ = some (Value.int IntKind.i64 x.table) := b1.cell 1 rfl
  have fb12 : w2.cell? ⟨w.heap.size + 1, 2, none⟩ = some (Value.int IntKind.i64 x.row.id) := b1.cell 2 rfl
  have fb13 : w2.cell? ⟨w.heap.size + 1, 3, none⟩ = some (Value.slice A1 x.row.cells.length c1) := b1.cell 3 rfl
  have hb0 := Hd.mk b0; clear b0; have hb1 := Hd.mk b1; clear b1
  by_cases hz1 : szR (szR 1048576 (l.length)) (bulkMut x) < 0
  · go_wp2_with fail
    go_ret
    exact ⟨rfl, hB.out⟩
  have HL1 := Hd.mk (szR_le (Int.not_lt.1 hz1) hx0)
  have hy1 := HL1.out.2.1
  have hx1 := HL1.out.2.2.1
  clear hz1
  go_wp2_with fail
  clear fb00 fb10 fb11 fb12 fb13
  have b0 := hb0.out; clear hb0; have b1 := hb1.out; clear hb1
  have fb00 : w2.cell? ⟨w.heap.size, 0, none⟩ = some (Value.slice A0 l.length c0) := b0.cell 0 rfl
  have fb10 : w2.cell? ⟨w.heap.size + 1, 0, none⟩ = some (Value.int IntKind.i64 x.kind) := b1.cell 0 rfl
  have fb11 : w2.cell? ⟨w.heap.size + 1, 1, none⟩ = some (Value.int IntKind.i64 x.table) := b1.cell 1 rfl
  have fb12 : w2.cell? ⟨w.heap.size + 1, 2, none⟩ = some (Value.int IntKind.i64 x.row.id) := b1.cell 2 rfl
  have fb13 : w2.cell? ⟨w.heap.size + 1, 3, none⟩ = some (Value.slice A1 x.row.cells.length c1) := b1.cell 3 rfl
  have hb0 := Hd.mk b0; clear b0; have hb1 := Hd.mk b1; clear b1
  have rfb00 := cell_regrown fb00
  have rfb10 := cell_regrown fb10
  have rfb11 := cell_regrown fb11
  have rfb12 := cell_regrown fb12
  have rfb13 := cell_regrown fb13
  refine region_mix [(true, 0), (true, 2), (false, 1), (false, 3), (false, 4), (true, 5)] (by kernel_rfl) (by kernel_rfl) (fun _ _ _ _ _ h => h) ?_
  try (repeat (refine mix_q rfl ?_; go_big_quiet_want; go_big_quiet_op; go_big_quiet_on; refine wpQuiet_nil ?_))
  refine mix_b rfl ?_ (by rfl)
  go_wp2_with fail
  clear rfb00 rfb10 rfb11 rfb12 rfb13
  clear fb00 fb10 fb11 fb12 fb13
  have b0 := hb0.out; clear hb0; have b1 := hb1.out; clear hb1
  have hS := Hd.mk (Below.refl w2.heap.size w2)
  apply calls_gen; intro W2 hW
  have hE : Below w2.heap.size w2 W2 := by rw [hW]; (repeat (first | with_reducible refine below_alloc ?_ _ | with_reducible refine below_drew ?_)); exact Below.refl _ _
  clear hW
  have hS := Hd.mk (below_then hS.out hE)
  replace b0 := b0.below hE
  replace b1 := b1.below hE
  have hK0 := Hd.mk (C_below hK0.out hE)
  have hK1 := Hd.mk (tMut.K_below hE hK1.out)
  have hB := Hd.mk (below_then hB.out hE)
  clear hE
  refine (laws_toSchema _ _ l _ hK0.out HL0.out.1).mono ?_
  rintro e w3 ⟨v0s, rfl, hO0s, hX⟩
  have hS := Hd.mk (below_then hS.out hX)
  replace b0 := b0.below hX
  replace b1 := b1.below hX
  have hK0 := Hd.mk (C_below hK0.out hX)
  have hK1 := Hd.mk (tMut.K_below hX hK1.out)
  have hB := Hd.mk (below_then hB.out hX)
  obtain ⟨A0s, c0s, rfl, hc0s, hZ0s⟩ := R_C hO0s; clear hO0s hX
  have hm0s := hZ0s.1
  have hK0s := Hd.mk hZ0s; clear hZ0s
  have fb00 : w3.cell? ⟨w.heap.size, 0, none⟩ = some (Value.slice A0 l.length c0) := b0.cell 0 rfl
  have fb10 : w3.cell? ⟨w.heap.size + 1, 0, none⟩ = some (Value.int IntKind.i64 x.kind) := b1.cell 0 rfl
  have fb11 : w3.cell? ⟨w.heap.size + 1, 1, none⟩ = some (Value.int IntKind.i64 x.table) := b1.cell 1 rfl
  have fb12 : w3.cell? ⟨w.heap.size + 1, 2, none⟩ = some (Value.int IntKind.i64 x.row.id) := b1.cell 2 rfl
  have fb13 : w3.cell? ⟨w.heap.size + 1, 3, none⟩ = some (Value.slice A1 x.row.cells.length c1) := b1.cell 3 rfl
  have hb0 := Hd.mk b0; clear b0; have hb1 := Hd.mk b1; clear b1
  go_wp2_with fail
  refine ⟨cls_below hS.out, ?_⟩
  refine mix_b rfl ?_ (by rfl)
  go_wp2_with fail
  clear fb00 fb10 fb11 fb12 fb13
  have b0 := hb0.out; clear hb0; have b1 := hb1.out; clear hb1
  apply calls_gen; intro W3 hW
  have hE : Below w3.heap.size w3 W3 := by rw [hW]; (repeat (first | with_reducible refine below_alloc ?_ _ | with_reducible refine below_drew ?_)); exact Below.refl _ _
  clear hW
  have hS := Hd.mk (below_then hS.out hE)
  replace b0 := b0.below hE
  replace b1 := b1.below hE
  have hK0 := Hd.mk (C_below hK0.out hE)
  have hK1 := Hd.mk (tMut.K_below hE hK1.out)
  have hK0s := Hd.mk (C_below hK0s.out hE)
  have hB := Hd.mk (below_then hB.out hE)
  clear hE
  refine (laws_toMut x _ _ hK1.out HL1.out.1).mono ?_
  rintro e w4 ⟨cs1s, rfl, hO1s, hX⟩
  have hS := Hd.mk (below_then hS.out hX)
  replace b0 := b0.below hX
  replace b1 := b1.below hX
  have hK0 := Hd.mk (C_below hK0.out hX)
  have hK1 := Hd.mk (tMut.K_below hX hK1.out)
  have hK0s := Hd.mk (C_below hK0s.out hX)
  have hB := Hd.mk (below_then hB.out hX)
  replace hO1s := tMut.O_K hO1s
  clear hX
  obtain ⟨A1s, c1s, rfl, hc1s, hr1s⟩ := tMut_K.1 hO1s
  have hK1s := Hd.mk hO1s; clear hO1s
  clear hr1s
  have fb00 : w4.cell? ⟨w.heap.size, 0, none⟩ = some (Value.slice A0 l.length c0) := b0.cell 0 rfl
  have fb10 : w4.cell? ⟨w.heap.size + 1, 0, none⟩ = some (Value.int IntKind.i64 x.kind) := b1.cell 0 rfl
  have fb11 : w4.cell? ⟨w.heap.size + 1, 1, none⟩ = some (Value.int IntKind.i64 x.table) := b1.cell 1 rfl
  have fb12 : w4.cell? ⟨w.heap.size + 1, 2, none⟩ = some (Value.int IntKind.i64 x.row.id) := b1.cell 2 rfl
  have fb13 : w4.cell? ⟨w.heap.size + 1, 3, none⟩ = some (Value.slice A1 x.row.cells.length c1) := b1.cell 3 rfl
  have hb0 := Hd.mk b0; clear b0; have hb1 := Hd.mk b1; clear b1
  go_wp2_with fail
  refine ⟨cls_below hS.out, ?_⟩
  refine mix_b rfl ?_ (by rfl)
  go_wp2_with fail
  clear fb00 fb10 fb11 fb12 fb13
  have b0 := hb0.out; clear hb0; have b1 := hb1.out; clear hb1
  apply calls_gen; intro W4 hW
  have hE : Below w4.heap.size w4 W4 := by rw [hW]; (repeat (first | with_reducible refine below_alloc ?_ _ | with_reducible refine below_drew ?_)); exact Below.refl _ _
  clear hW
  have hS := Hd.mk (below_then hS.out hE)
  replace b0 := b0.below hE
  replace b1 := b1.below hE
  have hK0 := Hd.mk (C_below hK0.out hE)
  have hK1 := Hd.mk (tMut.K_below hE hK1.out)
  have hK0s := Hd.mk (C_below hK0s.out hE)
  have hK1s := Hd.mk (tMut.K_below hE hK1s.out)
  have hB := Hd.mk (below_then hB.out hE)
  clear hE
  refine (spec_MutOk _ _ l x _ _ hK0s.out hK1s.out).mono ?_
  rintro e w5 ⟨rfl, hX⟩
  have hS := Hd.mk (below_then hS.out hX)
  replace b0 := b0.below hX
  replace b1 := b1.below hX
  have hK0 := Hd.mk (C_below hK0.out hX)
  have hK1 := Hd.mk (tMut.K_below hX hK1.out)
  have hK0s := Hd.mk (C_below hK0s.out hX)
  have hK1s := Hd.mk (tMut.K_below hX hK1s.out)
  have hB := Hd.mk (below_then hB.out hX)
  clear hX
  have fb00 : w5.cell? ⟨w.heap.size, 0, none⟩ = some (Value.slice A0 l.length c0) := b0.cell 0 rfl
  have fb10 : w5.cell? ⟨w.heap.size + 1, 0, none⟩ = some (Value.int IntKind.i64 x.kind) := b1.cell 0 rfl
  have fb11 : w5.cell? ⟨w.heap.size + 1, 1, none⟩ = some (Value.int IntKind.i64 x.table) := b1.cell 1 rfl
  have fb12 : w5.cell? ⟨w.heap.size + 1, 2, none⟩ = some (Value.int IntKind.i64 x.row.id) := b1.cell 2 rfl
  have fb13 : w5.cell? ⟨w.heap.size + 1, 3, none⟩ = some (Value.slice A1 x.row.cells.length c1) := b1.cell 3 rfl
  have hb0 := Hd.mk b0; clear b0; have hb1 := Hd.mk b1; clear b1
  have rfb00 := cell_regrown fb00
  have rfb10 := cell_regrown fb10
  have rfb11 := cell_regrown fb11
  have rfb12 := cell_regrown fb12
  have rfb13 := cell_regrown fb13
  go_wp2_with fail
  refine ⟨cls_below hS.out, ?_⟩
  try (repeat (refine mix_q rfl ?_; go_big_quiet_want; go_big_quiet_op; go_big_quiet_on; refine wpQuiet_nil ?_))
  refine mix_nil ?_
  clear rfb00 rfb10 rfb11 rfb12 rfb13
  clear hS
  go_wp2_with fail
  clear fb00 fb10 fb11 fb12 fb13
  have b0 := hb0.out; clear hb0; have b1 := hb1.out; clear hb1
  apply calls_gen; intro W5 hW
  have hE : Below w5.heap.size w5 W5 := by rw [hW]; (repeat (first | with_reducible refine below_alloc ?_ _ | with_reducible refine below_drew ?_)); exact Below.refl _ _
  clear hW
  replace b0 := b0.below hE
  replace b1 := b1.below hE
  have hK0 := Hd.mk (C_below hK0.out hE)
  have hK1 := Hd.mk (tMut.K_below hE hK1.out)
  have hK0s := Hd.mk (C_below hK0s.out hE)
  have hK1s := Hd.mk (tMut.K_below hE hK1s.out)
  have hB := Hd.mk (below_then hB.out hE)
  clear hE
  refine (laws_toSchema _ _ l _ hK0.out HL0.out.1).mono ?_
  rintro e w6 ⟨v0x, rfl, hO0x, hX⟩
  replace b0 := b0.below hX
  replace b1 := b1.below hX
  have hK0 := Hd.mk (C_below hK0.out hX)
  have hK1 := Hd.mk (tMut.K_below hX hK1.out)
  have hK0s := Hd.mk (C_below hK0s.out hX)
  have hK1s := Hd.mk (tMut.K_below hX hK1s.out)
  have hB := Hd.mk (below_then hB.out hX)
  obtain ⟨A0x, c0x, rfl, hc0x, hZ0x⟩ := R_C hO0x; clear hO0x hX
  have hm0x := hZ0x.1
  have hK0x := Hd.mk hZ0x; clear hZ0x
  have fb00 : w6.cell? ⟨w.heap.size, 0, none⟩ = some (Value.slice A0 l.length c0) := b0.cell 0 rfl
  have fb10 : w6.cell? ⟨w.heap.size + 1, 0, none⟩ = some (Value.int IntKind.i64 x.kind) := b1.cell 0 rfl
  have fb11 : w6.cell? ⟨w.heap.size + 1, 1, none⟩ = some (Value.int IntKind.i64 x.table) := b1.cell 1 rfl
  have fb12 : w6.cell? ⟨w.heap.size + 1, 2, none⟩ = some (Value.int IntKind.i64 x.row.id) := b1.cell 2 rfl
  have fb13 : w6.cell? ⟨w.heap.size + 1, 3, none⟩ = some (Value.slice A1 x.row.cells.length c1) := b1.cell 3 rfl
  have hb0 := Hd.mk b0; clear b0; have hb1 := Hd.mk b1; clear b1
  have lfb00 := fun o => cell_below (below_alloc (Below.refl _ _) o) fb00
  have lfb10 := fun o => cell_below (below_alloc (Below.refl _ _) o) fb10
  have lfb11 := fun o => cell_below (below_alloc (Below.refl _ _) o) fb11
  have lfb12 := fun o => cell_below (below_alloc (Below.refl _ _) o) fb12
  have lfb13 := fun o => cell_below (below_alloc (Below.refl _ _) o) fb13
  go_wp2_with fail
  clear lfb00 lfb10 lfb11 lfb12 lfb13
  clear fb00 fb10 fb11 fb12 fb13
  have b0 := hb0.out; clear hb0; have b1 := hb1.out; clear hb1
  apply calls_gen; intro W6 hW
  have hE : Below w6.heap.size w6 W6 := by rw [hW]; (repeat (first | with_reducible refine below_alloc ?_ _ | with_reducible refine below_drew ?_)); exact Below.refl _ _
  have d0 : Blk W6 w6.heap.size #[Value.slice A0x l.length c0x] 28 := by rw [hW]; exact Blk.new _ _ _
  clear hW
  replace b0 := b0.below hE
  replace b1 := b1.below hE
  have hK0 := Hd.mk (C_below hK0.out hE)
  have hK1 := Hd.mk (tMut.K_below hE hK1.out)
  have hK0s := Hd.mk (C_below hK0s.out hE)
  have hK1s := Hd.mk (tMut.K_below hE hK1s.out)
  have hK0x := Hd.mk (C_below hK0x.out hE)
  have hB := Hd.mk (below_then hB.out hE)
  clear hE
  refine (laws_toMut x _ _ hK1.out HL1.out.1).mono ?_
  rintro e w7 ⟨cs1x, rfl, hO1x, hX⟩
  replace b0 := b0.below hX
  replace b1 := b1.below hX
  replace d0 := d0.below hX
  have hK0 := Hd.mk (C_below hK0.out hX)
  have hK1 := Hd.mk (tMut.K_below hX hK1.out)
  have hK0s := Hd.mk (C_below hK0s.out hX)
  have hK1s := Hd.mk (tMut.K_below hX hK1s.out)
  have hK0x := Hd.mk (C_below hK0x.out hX)
  have hB := Hd.mk (below_then hB.out hX)
  replace hO1x := tMut.O_K hO1x
  clear hX
  obtain ⟨A1x, c1x, rfl, hc1x, hr1x⟩ := tMut_K.1 hO1x
  have hK1x := Hd.mk hO1x; clear hO1x
  clear hr1x
  have fb00 : w7.cell? ⟨w.heap.size, 0, none⟩ = some (Value.slice A0 l.length c0) := b0.cell 0 rfl
  have fb10 : w7.cell? ⟨w.heap.size + 1, 0, none⟩ = some (Value.int IntKind.i64 x.kind) := b1.cell 0 rfl
  have fb11 : w7.cell? ⟨w.heap.size + 1, 1, none⟩ = some (Value.int IntKind.i64 x.table) := b1.cell 1 rfl
  have fb12 : w7.cell? ⟨w.heap.size + 1, 2, none⟩ = some (Value.int IntKind.i64 x.row.id) := b1.cell 2 rfl
  have fb13 : w7.cell? ⟨w.heap.size + 1, 3, none⟩ = some (Value.slice A1 x.row.cells.length c1) := b1.cell 3 rfl
  have fd00 : w7.cell? ⟨w6.heap.size, 0, none⟩ = some (Value.slice A0x l.length c0x) := d0.cell 0 rfl
  have hb0 := Hd.mk b0; clear b0; have hb1 := Hd.mk b1; clear b1; have hd0 := Hd.mk d0; clear d0
  have lfb00 := fun o => cell_below (below_alloc (Below.refl _ _) o) fb00
  have lfb10 := fun o => cell_below (below_alloc (Below.refl _ _) o) fb10
  have lfb11 := fun o => cell_below (below_alloc (Below.refl _ _) o) fb11
  have lfb12 := fun o => cell_below (below_alloc (Below.refl _ _) o) fb12
  have lfb13 := fun o => cell_below (below_alloc (Below.refl _ _) o) fb13
  have lfd00 := fun o => cell_below (below_alloc (Below.refl _ _) o) fd00
  go_wp2_with fail
  clear lfb00 lfb10 lfb11 lfb12 lfb13 lfd00
  clear fb00 fb10 fb11 fb12 fb13 fd00
  have b0 := hb0.out; clear hb0; have b1 := hb1.out; clear hb1; have d0 := hd0.out; clear hd0
  apply calls_gen; intro W7 hW
  have hE : Below w7.heap.size w7 W7 := by rw [hW]; (repeat (first | with_reducible refine below_alloc ?_ _ | with_reducible refine below_drew ?_)); exact Below.refl _ _
  have d1 : Blk W7 w7.heap.size #[Value.int IntKind.i64 x.kind, Value.int IntKind.i64 x.table, Value.int IntKind.i64 x.row.id, Value.slice A1x x.row.cells.length c1x] 53 := by rw [hW]; exact Blk.new _ _ _
  clear hW
  replace b0 := b0.below hE
  replace b1 := b1.below hE
  replace d0 := d0.below hE
  have hK0 := Hd.mk (C_below hK0.out hE)
  have hK1 := Hd.mk (tMut.K_below hE hK1.out)
  have hK0s := Hd.mk (C_below hK0s.out hE)
  have hK1s := Hd.mk (tMut.K_below hE hK1s.out)
  have hK0x := Hd.mk (C_below hK0x.out hE)
  have hK1x := Hd.mk (tMut.K_below hE hK1x.out)
  have hB := Hd.mk (below_then hB.out hE)
  clear hE
  refine (impl_MutOk _ _ l x _ _ hK0x.out hK1x.out).mono ?_
  rintro e w8 ⟨rfl, hX⟩
  replace b0 := b0.below hX
  replace b1 := b1.below hX
  replace d0 := d0.below hX
  replace d1 := d1.below hX
  have hK0 := Hd.mk (C_below hK0.out hX)
  have hK1 := Hd.mk (tMut.K_below hX hK1.out)
  have hK0s := Hd.mk (C_below hK0s.out hX)
  have hK1s := Hd.mk (tMut.K_below hX hK1s.out)
  have hK0x := Hd.mk (C_below hK0x.out hX)
  have hK1x := Hd.mk (tMut.K_below hX hK1x.out)
  have hB := Hd.mk (below_then hB.out hX)
  clear hX
  have fb00 : w8.cell? ⟨w.heap.size, 0, none⟩ = some (Value.slice A0 l.length c0) := b0.cell 0 rfl
  have fb10 : w8.cell? ⟨w.heap.size + 1, 0, none⟩ = some (Value.int IntKind.i64 x.kind) := b1.cell 0 rfl
  have fb11 : w8.cell? ⟨w.heap.size + 1, 1, none⟩ = some (Value.int IntKind.i64 x.table) := b1.cell 1 rfl
  have fb12 : w8.cell? ⟨w.heap.size + 1, 2, none⟩ = some (Value.int IntKind.i64 x.row.id) := b1.cell 2 rfl
  have fb13 : w8.cell? ⟨w.heap.size + 1, 3, none⟩ = some (Value.slice A1 x.row.cells.length c1) := b1.cell 3 rfl
  have fd00 : w8.cell? ⟨w6.heap.size, 0, none⟩ = some (Value.slice A0x l.length c0x) := d0.cell 0 rfl
  have fd10 : w8.cell? ⟨w7.heap.size, 0, none⟩ = some (Value.int IntKind.i64 x.kind) := d1.cell 0 rfl
  have fd11 : w8.cell? ⟨w7.heap.size, 1, none⟩ = some (Value.int IntKind.i64 x.table) := d1.cell 1 rfl
  have fd12 : w8.cell? ⟨w7.heap.size, 2, none⟩ = some (Value.int IntKind.i64 x.row.id) := d1.cell 2 rfl
  have fd13 : w8.cell? ⟨w7.heap.size, 3, none⟩ = some (Value.slice A1x x.row.cells.length c1x) := d1.cell 3 rfl
  have hb0 := Hd.mk b0; clear b0; have hb1 := Hd.mk b1; clear b1; have hd0 := Hd.mk d0; clear d0; have hd1 := Hd.mk d1; clear d1
  go_wp2_with fail
  have rfb00 := cell_regrown fb00
  have rfb10 := cell_regrown fb10
  have rfb11 := cell_regrown fb11
  have rfb12 := cell_regrown fb12
  have rfb13 := cell_regrown fb13
  have rfd00 := cell_regrown fd00
  have rfd10 := cell_regrown fd10
  have rfd11 := cell_regrown fd11
  have rfd12 := cell_regrown fd12
  have rfd13 := cell_regrown fd13
  refine region_mix [(true, 0), (true, 1), (false, 2), (false, 3), (true, 4)] (by kernel_rfl) (by kernel_rfl) (fun _ _ _ _ _ h => h) ?_
  try (repeat (refine mix_q rfl ?_; go_big_quiet_want; go_big_quiet_op; go_big_quiet_on; refine wpQuiet_nil ?_))
  refine mix_b rfl ?_ (by rfl)
  go_wp2_with fail
  clear rfb00 rfb10 rfb11 rfb12 rfb13 rfd00 rfd10 rfd11 rfd12 rfd13
  clear fb00 fb10 fb11 fb12 fb13 fd00 fd10 fd11 fd12 fd13
  have b0 := hb0.out; clear hb0; have b1 := hb1.out; clear hb1; have d0 := hd0.out; clear hd0; have d1 := hd1.out; clear hd1
  have hS := Hd.mk (Below.refl w8.heap.size w8)
  apply calls_gen; intro W8 hW
  have hE : Below w8.heap.size w8 W8 := by rw [hW]; (repeat (first | with_reducible refine below_alloc ?_ _ | with_reducible refine below_drew ?_)); exact Below.refl _ _
  clear hW
  have hS := Hd.mk (below_then hS.out hE)
  replace b0 := b0.below hE
  replace b1 := b1.below hE
  replace d0 := d0.below hE
  replace d1 := d1.below hE
  have hK0 := Hd.mk (C_below hK0.out hE)
  have hK1 := Hd.mk (tMut.K_below hE hK1.out)
  have hK0s := Hd.mk (C_below hK0s.out hE)
  have hK1s := Hd.mk (tMut.K_below hE hK1s.out)
  have hK0x := Hd.mk (C_below hK0x.out hE)
  have hK1x := Hd.mk (tMut.K_below hE hK1x.out)
  have hB := Hd.mk (below_then hB.out hE)
  clear hE
  refine (laws_toSchema _ _ l _ hK0.out HL0.out.1).mono ?_
  rintro e w9 ⟨v0y, rfl, hO0y, hX⟩
  have hS := Hd.mk (below_then hS.out hX)
  replace b0 := b0.below hX
  replace b1 := b1.below hX
  replace d0 := d0.below hX
  replace d1 := d1.below hX
  have hK0 := Hd.mk (C_below hK0.out hX)
  have hK1 := Hd.mk (tMut.K_below hX hK1.out)
  have hK0s := Hd.mk (C_below hK0s.out hX)
  have hK1s := Hd.mk (tMut.K_below hX hK1s.out)
  have hK0x := Hd.mk (C_below hK0x.out hX)
  have hK1x := Hd.mk (tMut.K_below hX hK1x.out)
  have hB := Hd.mk (below_then hB.out hX)
  obtain ⟨A0y, c0y, rfl, hc0y, hZ0y⟩ := R_C hO0y; clear hO0y hX
  have hm0y := hZ0y.1
  have hK0y := Hd.mk hZ0y; clear hZ0y
  have fb00 : w9.cell? ⟨w.heap.size, 0, none⟩ = some (Value.slice A0 l.length c0) := b0.cell 0 rfl
  have fb10 : w9.cell? ⟨w.heap.size + 1, 0, none⟩ = some (Value.int IntKind.i64 x.kind) := b1.cell 0 rfl
  have fb11 : w9.cell? ⟨w.heap.size + 1, 1, none⟩ = some (Value.int IntKind.i64 x.table) := b1.cell 1 rfl
  have fb12 : w9.cell? ⟨w.heap.size + 1, 2, none⟩ = some (Value.int IntKind.i64 x.row.id) := b1.cell 2 rfl
  have fb13 : w9.cell? ⟨w.heap.size + 1, 3, none⟩ = some (Value.slice A1 x.row.cells.length c1) := b1.cell 3 rfl
  have fd00 : w9.cell? ⟨w6.heap.size, 0, none⟩ = some (Value.slice A0x l.length c0x) := d0.cell 0 rfl
  have fd10 : w9.cell? ⟨w7.heap.size, 0, none⟩ = some (Value.int IntKind.i64 x.kind) := d1.cell 0 rfl
  have fd11 : w9.cell? ⟨w7.heap.size, 1, none⟩ = some (Value.int IntKind.i64 x.table) := d1.cell 1 rfl
  have fd12 : w9.cell? ⟨w7.heap.size, 2, none⟩ = some (Value.int IntKind.i64 x.row.id) := d1.cell 2 rfl
  have fd13 : w9.cell? ⟨w7.heap.size, 3, none⟩ = some (Value.slice A1x x.row.cells.length c1x) := d1.cell 3 rfl
  have hb0 := Hd.mk b0; clear b0; have hb1 := Hd.mk b1; clear b1; have hd0 := Hd.mk d0; clear d0; have hd1 := Hd.mk d1; clear d1
  go_wp2_with fail
  refine ⟨cls_below hS.out, ?_⟩
  refine mix_b rfl ?_ (by rfl)
  go_wp2_with fail
  clear fb00 fb10 fb11 fb12 fb13 fd00 fd10 fd11 fd12 fd13
  have b0 := hb0.out; clear hb0; have b1 := hb1.out; clear hb1; have d0 := hd0.out; clear hd0; have d1 := hd1.out; clear hd1
  apply calls_gen; intro W9 hW
  have hE : Below w9.heap.size w9 W9 := by rw [hW]; (repeat (first | with_reducible refine below_alloc ?_ _ | with_reducible refine below_drew ?_)); exact Below.refl _ _
  clear hW
  have hS := Hd.mk (below_then hS.out hE)
  replace b0 := b0.below hE
  replace b1 := b1.below hE
  replace d0 := d0.below hE
  replace d1 := d1.below hE
  have hK0 := Hd.mk (C_below hK0.out hE)
  have hK1 := Hd.mk (tMut.K_below hE hK1.out)
  have hK0s := Hd.mk (C_below hK0s.out hE)
  have hK1s := Hd.mk (tMut.K_below hE hK1s.out)
  have hK0x := Hd.mk (C_below hK0x.out hE)
  have hK1x := Hd.mk (tMut.K_below hE hK1x.out)
  have hK0y := Hd.mk (C_below hK0y.out hE)
  have hB := Hd.mk (below_then hB.out hE)
  clear hE
  refine (laws_eqSchema _ _ _ _ l l _ hK0x.out hK0y.out).mono ?_
  rintro e w10 ⟨rfl, hX⟩
  have hS := Hd.mk (below_then hS.out hX)
  replace b0 := b0.below hX
  replace b1 := b1.below hX
  replace d0 := d0.below hX
  replace d1 := d1.below hX
  have hK0 := Hd.mk (C_below hK0.out hX)
  have hK1 := Hd.mk (tMut.K_below hX hK1.out)
  have hK0s := Hd.mk (C_below hK0s.out hX)
  have hK1s := Hd.mk (tMut.K_below hX hK1s.out)
  have hK0x := Hd.mk (C_below hK0x.out hX)
  have hK1x := Hd.mk (tMut.K_below hX hK1x.out)
  have hK0y := Hd.mk (C_below hK0y.out hX)
  have hB := Hd.mk (below_then hB.out hX)
  clear hX
  rw [eqv_self]
  have fb00 : w10.cell? ⟨w.heap.size, 0, none⟩ = some (Value.slice A0 l.length c0) := b0.cell 0 rfl
  have fb10 : w10.cell? ⟨w.heap.size + 1, 0, none⟩ = some (Value.int IntKind.i64 x.kind) := b1.cell 0 rfl
  have fb11 : w10.cell? ⟨w.heap.size + 1, 1, none⟩ = some (Value.int IntKind.i64 x.table) := b1.cell 1 rfl
  have fb12 : w10.cell? ⟨w.heap.size + 1, 2, none⟩ = some (Value.int IntKind.i64 x.row.id) := b1.cell 2 rfl
  have fb13 : w10.cell? ⟨w.heap.size + 1, 3, none⟩ = some (Value.slice A1 x.row.cells.length c1) := b1.cell 3 rfl
  have fd00 : w10.cell? ⟨w6.heap.size, 0, none⟩ = some (Value.slice A0x l.length c0x) := d0.cell 0 rfl
  have fd10 : w10.cell? ⟨w7.heap.size, 0, none⟩ = some (Value.int IntKind.i64 x.kind) := d1.cell 0 rfl
  have fd11 : w10.cell? ⟨w7.heap.size, 1, none⟩ = some (Value.int IntKind.i64 x.table) := d1.cell 1 rfl
  have fd12 : w10.cell? ⟨w7.heap.size, 2, none⟩ = some (Value.int IntKind.i64 x.row.id) := d1.cell 2 rfl
  have fd13 : w10.cell? ⟨w7.heap.size, 3, none⟩ = some (Value.slice A1x x.row.cells.length c1x) := d1.cell 3 rfl
  have hb0 := Hd.mk b0; clear b0; have hb1 := Hd.mk b1; clear b1; have hd0 := Hd.mk d0; clear d0; have hd1 := Hd.mk d1; clear d1
  have rfb00 := cell_regrown fb00
  have rfb10 := cell_regrown fb10
  have rfb11 := cell_regrown fb11
  have rfb12 := cell_regrown fb12
  have rfb13 := cell_regrown fb13
  have rfd00 := cell_regrown fd00
  have rfd10 := cell_regrown fd10
  have rfd11 := cell_regrown fd11
  have rfd12 := cell_regrown fd12
  have rfd13 := cell_regrown fd13
  go_wp2_with fail
  refine ⟨cls_below hS.out, ?_⟩
  try (repeat (refine mix_q rfl ?_; go_big_quiet_want; go_big_quiet_op; go_big_quiet_on; refine wpQuiet_nil ?_))
  refine mix_nil ?_
  clear rfb00 rfb10 rfb11 rfb12 rfb13 rfd00 rfd10 rfd11 rfd12 rfd13
  clear hS
  go_wp2_with fail
  clear fb00 fb10 fb11 fb12 fb13 fd00 fd10 fd11 fd12 fd13
  have b0 := hb0.out; clear hb0; have b1 := hb1.out; clear hb1; have d0 := hd0.out; clear hd0; have d1 := hd1.out; clear hd1
  have fb00 : w10.cell? ⟨w.heap.size, 0, none⟩ = some (Value.slice A0 l.length c0) := b0.cell 0 rfl
  have fb10 : w10.cell? ⟨w.heap.size + 1, 0, none⟩ = some (Value.int IntKind.i64 x.kind) := b1.cell 0 rfl
  have fb11 : w10.cell? ⟨w.heap.size + 1, 1, none⟩ = some (Value.int IntKind.i64 x.table) := b1.cell 1 rfl
  have fb12 : w10.cell? ⟨w.heap.size + 1, 2, none⟩ = some (Value.int IntKind.i64 x.row.id) := b1.cell 2 rfl
  have fb13 : w10.cell? ⟨w.heap.size + 1, 3, none⟩ = some (Value.slice A1 x.row.cells.length c1) := b1.cell 3 rfl
  have fd00 : w10.cell? ⟨w6.heap.size, 0, none⟩ = some (Value.slice A0x l.length c0x) := d0.cell 0 rfl
  have fd10 : w10.cell? ⟨w7.heap.size, 0, none⟩ = some (Value.int IntKind.i64 x.kind) := d1.cell 0 rfl
  have fd11 : w10.cell? ⟨w7.heap.size, 1, none⟩ = some (Value.int IntKind.i64 x.table) := d1.cell 1 rfl
  have fd12 : w10.cell? ⟨w7.heap.size, 2, none⟩ = some (Value.int IntKind.i64 x.row.id) := d1.cell 2 rfl
  have fd13 : w10.cell? ⟨w7.heap.size, 3, none⟩ = some (Value.slice A1x x.row.cells.length c1x) := d1.cell 3 rfl
  have hb0 := Hd.mk b0; clear b0; have hb1 := Hd.mk b1; clear b1; have hd0 := Hd.mk d0; clear d0; have hd1 := Hd.mk d1; clear d1
  have rfb00 := cell_regrown fb00
  have rfb10 := cell_regrown fb10
  have rfb11 := cell_regrown fb11
  have rfb12 := cell_regrown fb12
  have rfb13 := cell_regrown fb13
  have rfd00 := cell_regrown fd00
  have rfd10 := cell_regrown fd10
  have rfd11 := cell_regrown fd11
  have rfd12 := cell_regrown fd12
  have rfd13 := cell_regrown fd13
  refine region_mix [(true, 0), (true, 1), (false, 2), (false, 3), (true, 4)] (by kernel_rfl) (by kernel_rfl) (fun _ _ _ _ _ h => h) ?_
  try (repeat (refine mix_q rfl ?_; go_big_quiet_want; go_big_quiet_op; go_big_quiet_on; refine wpQuiet_nil ?_))
  refine mix_b rfl ?_ (by rfl)
  go_wp2_with fail
  clear rfb00 rfb10 rfb11 rfb12 rfb13 rfd00 rfd10 rfd11 rfd12 rfd13
  clear fb00 fb10 fb11 fb12 fb13 fd00 fd10 fd11 fd12 fd13
  have b0 := hb0.out; clear hb0; have b1 := hb1.out; clear hb1; have d0 := hd0.out; clear hd0; have d1 := hd1.out; clear hd1
  have hS := Hd.mk (Below.refl w10.heap.size w10)
  apply calls_gen; intro W10 hW
  have hE : Below w10.heap.size w10 W10 := by rw [hW]; (repeat (first | with_reducible refine below_alloc ?_ _ | with_reducible refine below_drew ?_)); exact Below.refl _ _
  clear hW
  have hS := Hd.mk (below_then hS.out hE)
  replace b0 := b0.below hE
  replace b1 := b1.below hE
  replace d0 := d0.below hE
  replace d1 := d1.below hE
  have hK0 := Hd.mk (C_below hK0.out hE)
  have hK1 := Hd.mk (tMut.K_below hE hK1.out)
  have hK0s := Hd.mk (C_below hK0s.out hE)
  have hK1s := Hd.mk (tMut.K_below hE hK1s.out)
  have hK0x := Hd.mk (C_below hK0x.out hE)
  have hK1x := Hd.mk (tMut.K_below hE hK1x.out)
  have hK0y := Hd.mk (C_below hK0y.out hE)
  have hB := Hd.mk (below_then hB.out hE)
  clear hE
  refine (laws_toMut x _ _ hK1.out HL1.out.1).mono ?_
  rintro e w11 ⟨cs1y, rfl, hO1y, hX⟩
  have hS := Hd.mk (below_then hS.out hX)
  replace b0 := b0.below hX
  replace b1 := b1.below hX
  replace d0 := d0.below hX
  replace d1 := d1.below hX
  have hK0 := Hd.mk (C_below hK0.out hX)
  have hK1 := Hd.mk (tMut.K_below hX hK1.out)
  have hK0s := Hd.mk (C_below hK0s.out hX)
  have hK1s := Hd.mk (tMut.K_below hX hK1s.out)
  have hK0x := Hd.mk (C_below hK0x.out hX)
  have hK1x := Hd.mk (tMut.K_below hX hK1x.out)
  have hK0y := Hd.mk (C_below hK0y.out hX)
  have hB := Hd.mk (below_then hB.out hX)
  replace hO1y := tMut.O_K hO1y
  clear hX
  obtain ⟨A1y, c1y, rfl, hc1y, hr1y⟩ := tMut_K.1 hO1y
  have hK1y := Hd.mk hO1y; clear hO1y
  clear hr1y
  have fb00 : w11.cell? ⟨w.heap.size, 0, none⟩ = some (Value.slice A0 l.length c0) := b0.cell 0 rfl
  have fb10 : w11.cell? ⟨w.heap.size + 1, 0, none⟩ = some (Value.int IntKind.i64 x.kind) := b1.cell 0 rfl
  have fb11 : w11.cell? ⟨w.heap.size + 1, 1, none⟩ = some (Value.int IntKind.i64 x.table) := b1.cell 1 rfl
  have fb12 : w11.cell? ⟨w.heap.size + 1, 2, none⟩ = some (Value.int IntKind.i64 x.row.id) := b1.cell 2 rfl
  have fb13 : w11.cell? ⟨w.heap.size + 1, 3, none⟩ = some (Value.slice A1 x.row.cells.length c1) := b1.cell 3 rfl
  have fd00 : w11.cell? ⟨w6.heap.size, 0, none⟩ = some (Value.slice A0x l.length c0x) := d0.cell 0 rfl
  have fd10 : w11.cell? ⟨w7.heap.size, 0, none⟩ = some (Value.int IntKind.i64 x.kind) := d1.cell 0 rfl
  have fd11 : w11.cell? ⟨w7.heap.size, 1, none⟩ = some (Value.int IntKind.i64 x.table) := d1.cell 1 rfl
  have fd12 : w11.cell? ⟨w7.heap.size, 2, none⟩ = some (Value.int IntKind.i64 x.row.id) := d1.cell 2 rfl
  have fd13 : w11.cell? ⟨w7.heap.size, 3, none⟩ = some (Value.slice A1x x.row.cells.length c1x) := d1.cell 3 rfl
  have hb0 := Hd.mk b0; clear b0; have hb1 := Hd.mk b1; clear b1; have hd0 := Hd.mk d0; clear d0; have hd1 := Hd.mk d1; clear d1
  go_wp2_with fail
  refine ⟨cls_below hS.out, ?_⟩
  refine mix_b rfl ?_ (by rfl)
  go_wp2_with fail
  clear fb00 fb10 fb11 fb12 fb13 fd00 fd10 fd11 fd12 fd13
  have b0 := hb0.out; clear hb0; have b1 := hb1.out; clear hb1; have d0 := hd0.out; clear hd0; have d1 := hd1.out; clear hd1
  apply calls_gen; intro W11 hW
  have hE : Below w11.heap.size w11 W11 := by rw [hW]; (repeat (first | with_reducible refine below_alloc ?_ _ | with_reducible refine below_drew ?_)); exact Below.refl _ _
  clear hW
  have hS := Hd.mk (below_then hS.out hE)
  replace b0 := b0.below hE
  replace b1 := b1.below hE
  replace d0 := d0.below hE
  replace d1 := d1.below hE
  have hK0 := Hd.mk (C_below hK0.out hE)
  have hK1 := Hd.mk (tMut.K_below hE hK1.out)
  have hK0s := Hd.mk (C_below hK0s.out hE)
  have hK1s := Hd.mk (tMut.K_below hE hK1s.out)
  have hK0x := Hd.mk (C_below hK0x.out hE)
  have hK1x := Hd.mk (tMut.K_below hE hK1x.out)
  have hK0y := Hd.mk (C_below hK0y.out hE)
  have hK1y := Hd.mk (tMut.K_below hE hK1y.out)
  have hB := Hd.mk (below_then hB.out hE)
  clear hE
  refine (laws_eqMut x x _ _ _ hK1x.out hK1y.out).mono ?_
  rintro e w12 ⟨rfl, hX⟩
  have hS := Hd.mk (below_then hS.out hX)
  replace b0 := b0.below hX
  replace b1 := b1.below hX
  replace d0 := d0.below hX
  replace d1 := d1.below hX
  have hK0 := Hd.mk (C_below hK0.out hX)
  have hK1 := Hd.mk (tMut.K_below hX hK1.out)
  have hK0s := Hd.mk (C_below hK0s.out hX)
  have hK1s := Hd.mk (tMut.K_below hX hK1s.out)
  have hK0x := Hd.mk (C_below hK0x.out hX)
  have hK1x := Hd.mk (tMut.K_below hX hK1x.out)
  have hK0y := Hd.mk (C_below hK0y.out hX)
  have hK1y := Hd.mk (tMut.K_below hX hK1y.out)
  have hB := Hd.mk (below_then hB.out hX)
  clear hX
  rw [eqv_self]
  have fb00 : w12.cell? ⟨w.heap.size, 0, none⟩ = some (Value.slice A0 l.length c0) := b0.cell 0 rfl
  have fb10 : w12.cell? ⟨w.heap.size + 1, 0, none⟩ = some (Value.int IntKind.i64 x.kind) := b1.cell 0 rfl
  have fb11 : w12.cell? ⟨w.heap.size + 1, 1, none⟩ = some (Value.int IntKind.i64 x.table) := b1.cell 1 rfl
  have fb12 : w12.cell? ⟨w.heap.size + 1, 2, none⟩ = some (Value.int IntKind.i64 x.row.id) := b1.cell 2 rfl
  have fb13 : w12.cell? ⟨w.heap.size + 1, 3, none⟩ = some (Value.slice A1 x.row.cells.length c1) := b1.cell 3 rfl
  have fd00 : w12.cell? ⟨w6.heap.size, 0, none⟩ = some (Value.slice A0x l.length c0x) := d0.cell 0 rfl
  have fd10 : w12.cell? ⟨w7.heap.size, 0, none⟩ = some (Value.int IntKind.i64 x.kind) := d1.cell 0 rfl
  have fd11 : w12.cell? ⟨w7.heap.size, 1, none⟩ = some (Value.int IntKind.i64 x.table) := d1.cell 1 rfl
  have fd12 : w12.cell? ⟨w7.heap.size, 2, none⟩ = some (Value.int IntKind.i64 x.row.id) := d1.cell 2 rfl
  have fd13 : w12.cell? ⟨w7.heap.size, 3, none⟩ = some (Value.slice A1x x.row.cells.length c1x) := d1.cell 3 rfl
  have hb0 := Hd.mk b0; clear b0; have hb1 := Hd.mk b1; clear b1; have hd0 := Hd.mk d0; clear d0; have hd1 := Hd.mk d1; clear d1
  have rfb00 := cell_regrown fb00
  have rfb10 := cell_regrown fb10
  have rfb11 := cell_regrown fb11
  have rfb12 := cell_regrown fb12
  have rfb13 := cell_regrown fb13
  have rfd00 := cell_regrown fd00
  have rfd10 := cell_regrown fd10
  have rfd11 := cell_regrown fd11
  have rfd12 := cell_regrown fd12
  have rfd13 := cell_regrown fd13
  go_wp2_with fail
  refine ⟨cls_below hS.out, ?_⟩
  try (repeat (refine mix_q rfl ?_; go_big_quiet_want; go_big_quiet_op; go_big_quiet_on; refine wpQuiet_nil ?_))
  refine mix_nil ?_
  clear rfb00 rfb10 rfb11 rfb12 rfb13 rfd00 rfd10 rfd11 rfd12 rfd13
  clear hS
  go_wp2_with fail
  clear fb00 fb10 fb11 fb12 fb13 fd00 fd10 fd11 fd12 fd13
  have b0 := hb0.out; clear hb0; have b1 := hb1.out; clear hb1; have d0 := hd0.out; clear hd0; have d1 := hd1.out; clear hd1
  go_ret
  exact ⟨rfl, hB.out⟩
end Go.Proofs.Ytchjcllpnpibeaa.X
