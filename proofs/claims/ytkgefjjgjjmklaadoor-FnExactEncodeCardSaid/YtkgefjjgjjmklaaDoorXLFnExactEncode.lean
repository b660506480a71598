/- What is proved here: the law FnExactEncode answers true. Conditions: none. -/
import Derived.Test.YtkgefjjgjjmklaaDoorXEc
import Derived.StillTailTactics
import Derived.Deep.RegionWith
namespace Go.Proofs.YtkgefjjgjjmklaaDoor.X
open Go.RowKit Go.Sort
set_option linter.unusedVariables false
set_option linter.unusedSimpArgs false
open Ty
set_option maxRecDepth 100000 in
theorem laws_FnExactEncode {w : World} (B0 : Nat) (x : J) (cs0 : List Value) (hk0 : (tJ (B0 + 1)).K w x cs0) (hT : EnvT w) :
    Calls Tryd.prog 7 #[.agg cs0.toArray] w fun e w' => e = .returned (.bool true) ∧ Below w.heap.size w w' := by
  obtain ⟨m, hm⟩ : ∃ m : Nat, B0 ≤ m := ⟨B0, by omega⟩
  replace hk0 : (tJ (m + 1)).K w x cs0 := (tJ_le (by omega : B0 + 1 ≤ m + 1)).K _ _ _ hk0
  clear hm
  obtain ⟨A0, c0, A0B, c0B, rfl, hs0, ⟨hc0, hr0⟩, hc0B, hr0B⟩ := tJ_K.1 hk0
  have hK0 := Hd.mk hk0; clear hk0
  clear hr0 hr0B
  replace hT := Hd.mk hT
  go_enter Tryd.func7, Tryd.ntmps7
  go_wp2_with fail
  apply calls_gen; intro W0 hW
  have hE : Below w.heap.size w W0 := by rw [hW]; (repeat (with_reducible refine below_alloc ?_ _)); exact Below.refl _ _
  have b0 : Blk W0 (w.heap.size) #[Value.int IntKind.i64 x.kind, Value.int IntKind.i64 x.n, Value.string x.s, Value.slice A0 x.list.length c0, Value.slice A0B x.names.length c0B] 35 := by rw [hW]; exact (Blk.new w _ _)
  clear hW
  have hK0 := Hd.mk ((tJ (m + 1)).K_below hE hK0.out)
  have hT := Hd.mk (envT_mv hE hT.out)
  have hB := Hd.mk hE; clear hE
  refine (laws_szJson x _ _ _ hK0.out (by omega) (by omega)).mono ?_
  rintro e w1 ⟨rfl, hX⟩
  replace b0 := b0.below hX
  have hK0 := Hd.mk ((tJ (m + 1)).K_below hX hK0.out)
  have hT := Hd.mk (envT_mv hX hT.out)
  have hB := Hd.mk (below_then hB.out hX)
  clear hX
  have fb00 : w1.cell? ⟨w.heap.size, 0, none⟩ = some (Value.int IntKind.i64 x.kind) := b0.cell 0 rfl
  have fb01 : w1.cell? ⟨w.heap.size, 1, none⟩ = some (Value.int IntKind.i64 x.n) := b0.cell 1 rfl
  have fb02 : w1.cell? ⟨w.heap.size, 2, none⟩ = some (Value.string x.s) := b0.cell 2 rfl
  have fb03 : w1.cell? ⟨w.heap.size, 3, none⟩ = some (Value.slice A0 x.list.length c0) := b0.cell 3 rfl
  have fb04 : w1.cell? ⟨w.heap.size, 4, none⟩ = some (Value.slice A0B x.names.length c0B) := b0.cell 4 rfl
  have hb0 := Hd.mk b0; clear b0
  by_cases hz0 : szR 1048576 (bulkJ (m + 1) x) < 0
  · go_wp2_with fail
    go_ret
    exact ⟨rfl, hB.out⟩
  have HL0 := Hd.mk (szR_le (Int.not_lt.1 hz0) (by omega))
  have hy0 := HL0.out.2.1
  have hx0 := HL0.out.2.2.1
  clear hz0
  go_wp2_with fail
  clear fb00 fb01 fb02 fb03 fb04
  have b0 := hb0.out; clear hb0
  have fb00 : w1.cell? ⟨w.heap.size, 0, none⟩ = some (Value.int IntKind.i64 x.kind) := b0.cell 0 rfl
  have fb01 : w1.cell? ⟨w.heap.size, 1, none⟩ = some (Value.int IntKind.i64 x.n) := b0.cell 1 rfl
  have fb02 : w1.cell? ⟨w.heap.size, 2, none⟩ = some (Value.string x.s) := b0.cell 2 rfl
  have fb03 : w1.cell? ⟨w.heap.size, 3, none⟩ = some (Value.slice A0 x.list.length c0) := b0.cell 3 rfl
  have fb04 : w1.cell? ⟨w.heap.size, 4, none⟩ = some (Value.slice A0B x.names.length c0B) := b0.cell 4 rfl
  have hb0 := Hd.mk b0; clear b0
  clear fb00 fb01 fb02 fb03 fb04
  have b0 := hb0.out; clear hb0
  apply calls_gen; intro W1 hW
  have hE : Below w1.heap.size w1 W1 := by rw [hW]; (repeat (first | with_reducible refine below_alloc ?_ _ | with_reducible refine below_drew ?_)); exact Below.refl _ _
  clear hW
  replace b0 := b0.below hE
  have hK0 := Hd.mk ((tJ (m + 1)).K_below hE hK0.out)
  have hT := Hd.mk (envT_mv hE hT.out)
  have hB := Hd.mk (below_then hB.out hE)
  clear hE
  refine (laws_toJson x _ _ hK0.out HL0.out.1).mono ?_
  rintro e w2 ⟨cs0s, rfl, hO0s, hX⟩
  replace b0 := b0.below hX
  have hK0 := Hd.mk ((tJ (m + 1)).K_below hX hK0.out)
  have hT := Hd.mk (envT_mv hX hT.out)
  have hB := Hd.mk (below_then hB.out hX)
  replace hO0s := (tJ (m + 1)).O_K hO0s
  clear hX
  obtain ⟨A0s, c0s, A0sB, c0sB, rfl, hs0s, ⟨hc0s, hr0s⟩, hc0sB, hr0sB⟩ := tJ_K.1 hO0s
  have hK0s := Hd.mk hO0s; clear hO0s
  clear hr0s hr0sB
  have fb00 : w2.cell? ⟨w.heap.size, 0, none⟩ = some (Value.int IntKind.i64 x.kind) := b0.cell 0 rfl
  have fb01 : w2.cell? ⟨w.heap.size, 1, none⟩ = some (Value.int IntKind.i64 x.n) := b0.cell 1 rfl
  have fb02 : w2.cell? ⟨w.heap.size, 2, none⟩ = some (Value.string x.s) := b0.cell 2 rfl
  have fb03 : w2.cell? ⟨w.heap.size, 3, none⟩ = some (Value.slice A0 x.list.length c0) := b0.cell 3 rfl
  have fb04 : w2.cell? ⟨w.heap.size, 4, none⟩ = some (Value.slice A0B x.names.length c0B) := b0.cell 4 rfl
  have hb0 := Hd.mk b0; clear b0
  go_wp2_with fail
  clear fb00 fb01 fb02 fb03 fb04
  have b0 := hb0.out; clear hb0
  apply calls_gen; intro W2 hW
  have hE : Below w2.heap.size w2 W2 := by rw [hW]; (repeat (first | with_reducible refine below_alloc ?_ _ | with_reducible refine below_drew ?_)); exact Below.refl _ _
  clear hW
  replace b0 := b0.below hE
  have hK0 := Hd.mk ((tJ (m + 1)).K_below hE hK0.out)
  have hT := Hd.mk (envT_mv hE hT.out)
  have hK0s := Hd.mk ((tJ (m + 1)).K_below hE hK0s.out)
  have hB := Hd.mk (below_then hB.out hE)
  clear hE
  refine (spec_Encode x _ _ hK0s.out).mono ?_
  rintro e w3 ⟨rfl, hX⟩
  replace b0 := b0.below hX
  have hK0 := Hd.mk ((tJ (m + 1)).K_below hX hK0.out)
  have hT := Hd.mk (envT_mv hX hT.out)
  have hK0s := Hd.mk ((tJ (m + 1)).K_below hX hK0s.out)
  have hB := Hd.mk (below_then hB.out hX)
  clear hX
  have fb00 : w3.cell? ⟨w.heap.size, 0, none⟩ = some (Value.int IntKind.i64 x.kind) := b0.cell 0 rfl
  have fb01 : w3.cell? ⟨w.heap.size, 1, none⟩ = some (Value.int IntKind.i64 x.n) := b0.cell 1 rfl
  have fb02 : w3.cell? ⟨w.heap.size, 2, none⟩ = some (Value.string x.s) := b0.cell 2 rfl
  have fb03 : w3.cell? ⟨w.heap.size, 3, none⟩ = some (Value.slice A0 x.list.length c0) := b0.cell 3 rfl
  have fb04 : w3.cell? ⟨w.heap.size, 4, none⟩ = some (Value.slice A0B x.names.length c0B) := b0.cell 4 rfl
  have hb0 := Hd.mk b0; clear b0
  go_wp2_with fail
  clear fb00 fb01 fb02 fb03 fb04
  have b0 := hb0.out; clear hb0
  apply calls_gen; intro W3 hW
  have hE : Below w3.heap.size w3 W3 := by rw [hW]; (repeat (first | with_reducible refine below_alloc ?_ _ | with_reducible refine below_drew ?_)); exact Below.refl _ _
  clear hW
  replace b0 := b0.below hE
  have hK0 := Hd.mk ((tJ (m + 1)).K_below hE hK0.out)
  have hT := Hd.mk (envT_mv hE hT.out)
  have hK0s := Hd.mk ((tJ (m + 1)).K_below hE hK0s.out)
  have hB := Hd.mk (below_then hB.out hE)
  clear hE
  refine (laws_toJson x _ _ hK0.out HL0.out.1).mono ?_
  rintro e w4 ⟨cs0x, rfl, hO0x, hX⟩
  replace b0 := b0.below hX
  have hK0 := Hd.mk ((tJ (m + 1)).K_below hX hK0.out)
  have hT := Hd.mk (envT_mv hX hT.out)
  have hK0s := Hd.mk ((tJ (m + 1)).K_below hX hK0s.out)
  have hB := Hd.mk (below_then hB.out hX)
  replace hO0x := (tJ (m + 1)).O_K hO0x
  clear hX
  obtain ⟨A0x, c0x, A0xB, c0xB, rfl, hs0x, ⟨hc0x, hr0x⟩, hc0xB, hr0xB⟩ := tJ_K.1 hO0x
  have hK0x := Hd.mk hO0x; clear hO0x
  clear hr0x hr0xB
  have fb00 : w4.cell? ⟨w.heap.size, 0, none⟩ = some (Value.int IntKind.i64 x.kind) := b0.cell 0 rfl
  have fb01 : w4.cell? ⟨w.heap.size, 1, none⟩ = some (Value.int IntKind.i64 x.n) := b0.cell 1 rfl
  have fb02 : w4.cell? ⟨w.heap.size, 2, none⟩ = some (Value.string x.s) := b0.cell 2 rfl
  have fb03 : w4.cell? ⟨w.heap.size, 3, none⟩ = some (Value.slice A0 x.list.length c0) := b0.cell 3 rfl
  have fb04 : w4.cell? ⟨w.heap.size, 4, none⟩ = some (Value.slice A0B x.names.length c0B) := b0.cell 4 rfl
  have hb0 := Hd.mk b0; clear b0
  have lfb00 := fun o => cell_below (below_alloc (Below.refl _ _) o) fb00
  have lfb01 := fun o => cell_below (below_alloc (Below.refl _ _) o) fb01
  have lfb02 := fun o => cell_below (below_alloc (Below.refl _ _) o) fb02
  have lfb03 := fun o => cell_below (below_alloc (Below.refl _ _) o) fb03
  have lfb04 := fun o => cell_below (below_alloc (Below.refl _ _) o) fb04
  go_wp2_with fail
  clear lfb00 lfb01 lfb02 lfb03 lfb04
  clear fb00 fb01 fb02 fb03 fb04
  have b0 := hb0.out; clear hb0
  apply calls_gen; intro W4 hW
  have hE : Below w4.heap.size w4 W4 := by rw [hW]; (repeat (first | with_reducible refine below_alloc ?_ _ | with_reducible refine below_drew ?_)); exact Below.refl _ _
  have d0 : Blk W4 w4.heap.size #[Value.int IntKind.i64 x.kind, Value.int IntKind.i64 x.n, Value.string x.s, Value.slice A0x x.list.length c0x, Value.slice A0xB x.names.length c0xB] 40 := by rw [hW]; exact Blk.new _ _ _
  clear hW
  replace b0 := b0.below hE
  have hK0 := Hd.mk ((tJ (m + 1)).K_below hE hK0.out)
  have hT := Hd.mk (envT_mv hE hT.out)
  have hK0s := Hd.mk ((tJ (m + 1)).K_below hE hK0s.out)
  have hK0x := Hd.mk ((tJ (m + 1)).K_below hE hK0x.out)
  have hB := Hd.mk (below_then hB.out hE)
  clear hE
  refine (impl_Encode x _ _ hK0x.out hT.out).mono ?_
  rintro e w5 ⟨rfl, hX⟩
  replace b0 := b0.below hX
  replace d0 := d0.below hX
  have hK0 := Hd.mk ((tJ (m + 1)).K_below hX hK0.out)
  have hT := Hd.mk (envT_mv hX hT.out)
  have hK0s := Hd.mk ((tJ (m + 1)).K_below hX hK0s.out)
  have hK0x := Hd.mk ((tJ (m + 1)).K_below hX hK0x.out)
  have hB := Hd.mk (below_then hB.out hX)
  clear hX
  have fb00 : w5.cell? ⟨w.heap.size, 0, none⟩ = some (Value.int IntKind.i64 x.kind) := b0.cell 0 rfl
  have fb01 : w5.cell? ⟨w.heap.size, 1, none⟩ = some (Value.int IntKind.i64 x.n) := b0.cell 1 rfl
  have fb02 : w5.cell? ⟨w.heap.size, 2, none⟩ = some (Value.string x.s) := b0.cell 2 rfl
  have fb03 : w5.cell? ⟨w.heap.size, 3, none⟩ = some (Value.slice A0 x.list.length c0) := b0.cell 3 rfl
  have fb04 : w5.cell? ⟨w.heap.size, 4, none⟩ = some (Value.slice A0B x.names.length c0B) := b0.cell 4 rfl
  have fd00 : w5.cell? ⟨w4.heap.size, 0, none⟩ = some (Value.int IntKind.i64 x.kind) := d0.cell 0 rfl
  have fd01 : w5.cell? ⟨w4.heap.size, 1, none⟩ = some (Value.int IntKind.i64 x.n) := d0.cell 1 rfl
  have fd02 : w5.cell? ⟨w4.heap.size, 2, none⟩ = some (Value.string x.s) := d0.cell 2 rfl
  have fd03 : w5.cell? ⟨w4.heap.size, 3, none⟩ = some (Value.slice A0x x.list.length c0x) := d0.cell 3 rfl
  have fd04 : w5.cell? ⟨w4.heap.size, 4, none⟩ = some (Value.slice A0xB x.names.length c0xB) := d0.cell 4 rfl
  have hb0 := Hd.mk b0; clear b0; have hd0 := Hd.mk d0; clear d0
  go_wp2_with fail
  have rfb00 := cell_regrown fb00
  have rfb01 := cell_regrown fb01
  have rfb02 := cell_regrown fb02
  have rfb03 := cell_regrown fb03
  have rfb04 := cell_regrown fb04
  have rfd00 := cell_regrown fd00
  have rfd01 := cell_regrown fd01
  have rfd02 := cell_regrown fd02
  have rfd03 := cell_regrown fd03
  have rfd04 := cell_regrown fd04
  refine region_mix [(true, 0), (true, 1), (false, 2), (false, 3), (true, 4)] (by kernel_rfl) (by kernel_rfl) (fun _ _ _ _ _ h => h) ?_
  try (repeat (refine mix_q rfl ?_; go_big_quiet_want; go_big_quiet_op; go_big_quiet_on; refine wpQuiet_nil ?_))
  refine mix_b rfl ?_ (by rfl)
  go_wp2_with fail
  clear rfb00 rfb01 rfb02 rfb03 rfb04 rfd00 rfd01 rfd02 rfd03 rfd04
  clear fb00 fb01 fb02 fb03 fb04 fd00 fd01 fd02 fd03 fd04
  have b0 := hb0.out; clear hb0; have d0 := hd0.out; clear hd0
  have hS := Hd.mk (Below.refl w5.heap.size w5)
  apply calls_gen; intro W5 hW
  have hE : Below w5.heap.size w5 W5 := by rw [hW]; (repeat (first | with_reducible refine below_alloc ?_ _ | with_reducible refine below_drew ?_)); exact Below.refl _ _
  clear hW
  have hS := Hd.mk (below_then hS.out hE)
  replace b0 := b0.below hE
  replace d0 := d0.below hE
  have hK0 := Hd.mk ((tJ (m + 1)).K_below hE hK0.out)
  have hT := Hd.mk (envT_mv hE hT.out)
  have hK0s := Hd.mk ((tJ (m + 1)).K_below hE hK0s.out)
  have hK0x := Hd.mk ((tJ (m + 1)).K_below hE hK0x.out)
  have hB := Hd.mk (below_then hB.out hE)
  clear hE
  refine (laws_toJson x _ _ hK0.out HL0.out.1).mono ?_
  rintro e w6 ⟨cs0y, rfl, hO0y, hX⟩
  have hS := Hd.mk (below_then hS.out hX)
  replace b0 := b0.below hX
  replace d0 := d0.below hX
  have hK0 := Hd.mk ((tJ (m + 1)).K_below hX hK0.out)
  have hT := Hd.mk (envT_mv hX hT.out)
  have hK0s := Hd.mk ((tJ (m + 1)).K_below hX hK0s.out)
  have hK0x := Hd.mk ((tJ (m + 1)).K_below hX hK0x.out)
  have hB := Hd.mk (below_then hB.out hX)
  replace hO0y := (tJ (m + 1)).O_K hO0y
  clear hX
  obtain ⟨A0y, c0y, A0yB, c0yB, rfl, hs0y, ⟨hc0y, hr0y⟩, hc0yB, hr0yB⟩ := tJ_K.1 hO0y
  have hK0y := Hd.mk hO0y; clear hO0y
  clear hr0y hr0yB
  have fb00 : w6.cell? ⟨w.heap.size, 0, none⟩ = some (Value.int IntKind.i64 x.kind) := b0.cell 0 rfl
  have fb01 : w6.cell? ⟨w.heap.size, 1, none⟩ = some (Value.int IntKind.i64 x.n) := b0.cell 1 rfl
  have fb02 : w6.cell? ⟨w.heap.size, 2, none⟩ = some (Value.string x.s) := b0.cell 2 rfl
  have fb03 : w6.cell? ⟨w.heap.size, 3, none⟩ = some (Value.slice A0 x.list.length c0) := b0.cell 3 rfl
  have fb04 : w6.cell? ⟨w.heap.size, 4, none⟩ = some (Value.slice A0B x.names.length c0B) := b0.cell 4 rfl
  have fd00 : w6.cell? ⟨w4.heap.size, 0, none⟩ = some (Value.int IntKind.i64 x.kind) := d0.cell 0 rfl
  have fd01 : w6.cell? ⟨w4.heap.size, 1, none⟩ = some (Value.int IntKind.i64 x.n) := d0.cell 1 rfl
  have fd02 : w6.cell? ⟨w4.heap.size, 2, none⟩ = some (Value.string x.s) := d0.cell 2 rfl
  have fd03 : w6.cell? ⟨w4.heap.size, 3, none⟩ = some (Value.slice A0x x.list.length c0x) := d0.cell 3 rfl
  have fd04 : w6.cell? ⟨w4.heap.size, 4, none⟩ = some (Value.slice A0xB x.names.length c0xB) := d0.cell 4 rfl
  have hb0 := Hd.mk b0; clear b0; have hd0 := Hd.mk d0; clear d0
  go_wp2_with fail
  refine ⟨cls_below hS.out, ?_⟩
  refine mix_b rfl ?_ (by rfl)
  go_wp2_with fail
  clear fb00 fb01 fb02 fb03 fb04 fd00 fd01 fd02 fd03 fd04
  have b0 := hb0.out; clear hb0; have d0 := hd0.out; clear hd0
  apply calls_gen; intro W6 hW
  have hE : Below w6.heap.size w6 W6 := by rw [hW]; (repeat (first | with_reducible refine below_alloc ?_ _ | with_reducible refine below_drew ?_)); exact Below.refl _ _
  clear hW
  have hS := Hd.mk (below_then hS.out hE)
  replace b0 := b0.below hE
  replace d0 := d0.below hE
  have hK0 := Hd.mk ((tJ (m + 1)).K_below hE hK0.out)
  have hT := Hd.mk (envT_mv hE hT.out)
  have hK0s := Hd.mk ((tJ (m + 1)).K_below hE hK0s.out)
  have hK0x := Hd.mk ((tJ (m + 1)).K_below hE hK0x.out)
  have hK0y := Hd.mk ((tJ (m + 1)).K_below hE hK0y.out)
  have hB := Hd.mk (below_then hB.out hE)
  clear hE
  refine (laws_eqJson x x _ _ _ hK0x.out hK0y.out).mono ?_
  rintro e w7 ⟨rfl, hX⟩
  have hS := Hd.mk (below_then hS.out hX)
  replace b0 := b0.below hX
  replace d0 := d0.below hX
  have hK0 := Hd.mk ((tJ (m + 1)).K_below hX hK0.out)
  have hT := Hd.mk (envT_mv hX hT.out)
  have hK0s := Hd.mk ((tJ (m + 1)).K_below hX hK0s.out)
  have hK0x := Hd.mk ((tJ (m + 1)).K_below hX hK0x.out)
  have hK0y := Hd.mk ((tJ (m + 1)).K_below hX hK0y.out)
  have hB := Hd.mk (below_then hB.out hX)
  clear hX
  rw [eqv_self]
  have fb00 : w7.cell? ⟨w.heap.size, 0, none⟩ = some (Value.int IntKind.i64 x.kind) := b0.cell 0 rfl
  have fb01 : w7.cell? ⟨w.heap.size, 1, none⟩ = some (Value.int IntKind.i64 x.n) := b0.cell 1 rfl
  have fb02 : w7.cell? ⟨w.heap.size, 2, none⟩ = some (Value.string x.s) := b0.cell 2 rfl
  have fb03 : w7.cell? ⟨w.heap.size, 3, none⟩ = some (Value.slice A0 x.list.length c0) := b0.cell 3 rfl
  have fb04 : w7.cell? ⟨w.heap.size, 4, none⟩ = some (Value.slice A0B x.names.length c0B) := b0.cell 4 rfl
  have fd00 : w7.cell? ⟨w4.heap.size, 0, none⟩ = some (Value.int IntKind.i64 x.kind) := d0.cell 0 rfl
  have fd01 : w7.cell? ⟨w4.heap.size, 1, none⟩ = some (Value.int IntKind.i64 x.n) := d0.cell 1 rfl
  have fd02 : w7.cell? ⟨w4.heap.size, 2, none⟩ = some (Value.string x.s) := d0.cell 2 rfl
  have fd03 : w7.cell? ⟨w4.heap.size, 3, none⟩ = some (Value.slice A0x x.list.length c0x) := d0.cell 3 rfl
  have fd04 : w7.cell? ⟨w4.heap.size, 4, none⟩ = some (Value.slice A0xB x.names.length c0xB) := d0.cell 4 rfl
  have hb0 := Hd.mk b0; clear b0; have hd0 := Hd.mk d0; clear d0
  have rfb00 := cell_regrown fb00
  have rfb01 := cell_regrown fb01
  have rfb02 := cell_regrown fb02
  have rfb03 := cell_regrown fb03
  have rfb04 := cell_regrown fb04
  have rfd00 := cell_regrown fd00
  have rfd01 := cell_regrown fd01
  have rfd02 := cell_regrown fd02
  have rfd03 := cell_regrown fd03
  have rfd04 := cell_regrown fd04
  go_wp2_with fail
  refine ⟨cls_below hS.out, ?_⟩
  try (repeat (refine mix_q rfl ?_; go_big_quiet_want; go_big_quiet_op; go_big_quiet_on; refine wpQuiet_nil ?_))
  refine mix_nil ?_
  clear rfb00 rfb01 rfb02 rfb03 rfb04 rfd00 rfd01 rfd02 rfd03 rfd04
  clear hS
  go_wp2_with fail
  clear fb00 fb01 fb02 fb03 fb04 fd00 fd01 fd02 fd03 fd04
  have b0 := hb0.out; clear hb0; have d0 := hd0.out; clear hd0
  go_ret
  exact ⟨rfl, hB.out⟩
end Go.Proofs.YtkgefjjgjjmklaaDoor.X
