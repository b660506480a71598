/- What is proved here: the law FnExactJsonSame answers true. Conditions: none. -/
import Derived.Test.YtchjcllpnpibeaaXGf
import Derived.StillTailTactics
import Derived.Deep.RegionWith
namespace Go.Proofs.Ytchjcllpnpibeaa.X
open Go.RowKit Go.Sort
set_option linter.unusedVariables false
set_option linter.unusedSimpArgs false
open Ty
set_option maxRecDepth 100000 in
theorem laws_FnExactJsonSame {w : World} (B0 : Nat) (x : J) (cs0 : List Value) (hk0 : (tJ (B0 + 1)).K w x cs0) (B1 : Nat) (y : J) (cs1 : List Value) (hk1 : (tJ (B1 + 1)).K w y cs1) :
    Calls Try.prog 19 #[.agg cs0.toArray, .agg cs1.toArray] w fun e w' => e = .returned (.bool true) ∧ Below w.heap.size w w' := by
  obtain ⟨m, hm⟩ : ∃ m : Nat, B0 ≤ m ∧ B1 ≤ m := ⟨B0 + B1, by omega⟩
  replace hk0 : (tJ (m + 1)).K w x cs0 := (tJ_le (by omega : B0 + 1 ≤ m + 1)).K _ _ _ hk0
  replace hk1 : (tJ (m + 1)).K w y cs1 := (tJ_le (by omega : B1 + 1 ≤ m + 1)).K _ _ _ hk1
  clear hm
  obtain ⟨A0, c0, A0B, c0B, rfl, hs0, ⟨hc0, hr0⟩, hc0B, hr0B⟩ := tJ_K.1 hk0
  have hK0 := Hd.mk hk0; clear hk0
  clear hr0 hr0B
  obtain ⟨A1, c1, A1B, c1B, rfl, hs1, ⟨hc1, hr1⟩, hc1B, hr1B⟩ := tJ_K.1 hk1
  have hK1 := Hd.mk hk1; clear hk1
  clear hr1 hr1B
  go_enter Try.func19, Try.ntmps19
  go_wp2_with fail
  apply calls_gen; intro W0 hW
  have hE : Below w.heap.size w W0 := by rw [hW]; (repeat (with_reducible refine below_alloc ?_ _)); exact Below.refl _ _
  have b0 : Blk W0 (w.heap.size) #[Value.int IntKind.i64 x.kind, Value.int IntKind.i64 x.n, Value.string x.s, Value.slice A0 x.list.length c0, Value.slice A0B x.names.length c0B] 63 := by rw [hW]; exact ((Blk.new w _ _).alloc _)
  have b1 : Blk W0 (w.heap.size + 1) #[Value.int IntKind.i64 y.kind, Value.int IntKind.i64 y.n, Value.string y.s, Value.slice A1 y.list.length c1, Value.slice A1B y.names.length c1B] 63 := by rw [hW]; simpa using (Blk.new (w.alloc _) _ _)
  clear hW
  have hK0 := Hd.mk ((tJ (m + 1)).K_below hE hK0.out)
  have hK1 := Hd.mk ((tJ (m + 1)).K_below hE hK1.out)
  have hB := Hd.mk hE; clear hE
  refine (laws_szJson x _ _ _ hK0.out (by omega) (by omega)).mono ?_
  rintro e w1 ⟨rfl, hX⟩
  replace b0 := b0.below hX
  replace b1 := b1.below hX
  have hK0 := Hd.mk ((tJ (m + 1)).K_below hX hK0.out)
  have hK1 := Hd.mk ((tJ (m + 1)).K_below hX hK1.out)
  have hB := Hd.mk (below_then hB.out hX)
  clear hX
  have fb00 : w1.cell? ⟨w.heap.size, 0, none⟩ = some (Value.int IntKind.i64 x.kind) := b0.cell 0 rfl
  have fb01 : w1.cell? ⟨w.heap.size, 1, none⟩ = some (Value.int IntKind.i64 x.n) := b0.cell 1 rfl
  have fb02 : w1.cell? ⟨w.heap.size, 2, none⟩ = some (Value.string x.s) := b0.cell 2 rfl
  have fb03 : w1.cell? ⟨w.heap.size, 3, none⟩ = some (Value.slice A0 x.list.length c0) := b0.cell 3 rfl
  have fb04 : w1.cell? ⟨w.heap.size, 4, none⟩ = some (Value.slice A0B x.names.length c0B) := b0.cell 4 rfl
  have fb10 : w1.cell? ⟨w.heap.size + 1, 0, none⟩ = some (Value.int IntKind.i64 y.kind) := b1.cell 0 rfl
  have fb11 : w1.cell? ⟨w.heap.size + 1, 1, none⟩ = some (Value.int IntKind.i64 y.n) := b1.cell 1 rfl
  have fb12 : w1.cell? ⟨w.heap.size + 1, 2, none⟩ = some (Value.string y.s) := b1.cell 2 rfl
  have fb13 : w1.cell? ⟨w.heap.size + 1, 3, none⟩ = some (Value.slice A1 y.list.length c1) := b1.cell 3 rfl
  have fb14 : w1.cell? ⟨w.heap.size + 1, 4, none⟩ = some (Value.slice A1B y.names.length c1B) := b1.cell 4 rfl
  have hb0 := Hd.mk b0; clear b0; have hb1 := Hd.mk b1; clear b1
  by_cases hz0 : szR 1048576 (bulkJ (m + 1) x) < 0
  · go_wp2_with fail
    go_ret
    exact ⟨rfl, hB.out⟩
  have HL0 := Hd.mk (szR_le (Int.not_lt.1 hz0) (by omega))
  have hy0 := HL0.out.2.1
  have hx0 := HL0.out.2.2.1
  clear hz0
  go_wp2_with fail
  clear fb00 fb01 fb02 fb03 fb04 fb10 fb11 fb12 fb13 fb14
  have b0 := hb0.out; clear hb0; have b1 := hb1.out; clear hb1
  apply calls_gen; intro W1 hW
  have hE : Below w1.heap.size w1 W1 := by rw [hW]; (repeat (first | with_reducible refine below_alloc ?_ _ | with_reducible refine below_drew ?_)); exact Below.refl _ _
  clear hW
  replace b0 := b0.below hE
  replace b1 := b1.below hE
  have hK0 := Hd.mk ((tJ (m + 1)).K_below hE hK0.out)
  have hK1 := Hd.mk ((tJ (m + 1)).K_below hE hK1.out)
  have hB := Hd.mk (below_then hB.out hE)
  clear hE
  refine (laws_szJson y _ _ _ hK1.out hy0 hx0).mono ?_
  rintro e w2 ⟨rfl, hX⟩
  replace b0 := b0.below hX
  replace b1 := b1.below hX
  have hK0 := Hd.mk ((tJ (m + 1)).K_below hX hK0.out)
  have hK1 := Hd.mk ((tJ (m + 1)).K_below hX hK1.out)
  have hB := Hd.mk (below_then hB.out hX)
  clear hX
  have fb00 : w2.cell? ⟨w.heap.size, 0, none⟩ = some (Value.int IntKind.i64 x.kind) := b0.cell 0 rfl
  have fb01 : w2.cell? ⟨w.heap.size, 1, none⟩ = some (Value.int IntKind.i64 x.n) := b0.cell 1 rfl
  have fb02 : w2.cell? ⟨w.heap.size, 2, none⟩ = some (Value.string x.s) := b0.cell 2 rfl
  have fb03 : w2.cell? ⟨w.heap.size, 3, none⟩ = some (Value.slice A0 x.list.length c0) := b0.cell 3 rfl
  have fb04 : w2.cell? ⟨w.heap.size, 4, none⟩ = some (Value.slice A0B x.names.length c0B) := b0.cell 4 rfl
  have fb10 : w2.cell? ⟨w.heap.size + 1, 0, none⟩ = some (Value.int IntKind.i64 y.kind) := b1.cell 0 rfl
  have fb11 : w2.cell? ⟨w.heap.size + 1, 1, none⟩ = some (Value.int IntKind.i64 y.n) := b1.cell 1 rfl
  have fb12 : w2.cell? ⟨w.heap.size + 1, 2, none⟩ = some (Value.string y.s) := b1.cell 2 rfl
  have fb13 : w2.cell? ⟨w.heap.size + 1, 3, none⟩ = some (Value.slice A1 y.list.length c1) := b1.cell 3 rfl
  have fb14 : w2.cell? ⟨w.heap.size + 1, 4, none⟩ = some (Value.slice A1B y.names.length c1B) := b1.cell 4 rfl
  have hb0 := Hd.mk b0; clear b0; have hb1 := Hd.mk b1; clear b1
  by_cases hz1 : szR (szR 1048576 (bulkJ (m + 1) x)) (bulkJ (m + 1) y) < 0
  · go_wp2_with fail
    go_ret
    exact ⟨rfl, hB.out⟩
  have HL1 := Hd.mk (szR_le (Int.not_lt.1 hz1) hx0)
  have hy1 := HL1.out.2.1
  have hx1 := HL1.out.2.2.1
  clear hz1
  go_wp2_with fail
  clear fb00 fb01 fb02 fb03 fb04 fb10 fb11 fb12 fb13 fb14
  have b0 := hb0.out; clear hb0; have b1 := hb1.out; clear hb1
  have fb00 : w2.cell? ⟨w.heap.size, 0, none⟩ = some (Value.int IntKind.i64 x.kind) := b0.cell 0 rfl
  have fb01 : w2.cell? ⟨w.heap.size, 1, none⟩ = some (Value.int IntKind.i64 x.n) := b0.cell 1 rfl
  have fb02 : w2.cell? ⟨w.heap.size, 2, none⟩ = some (Value.string x.s) := b0.cell 2 rfl
  have fb03 : w2.cell? ⟨w.heap.size, 3, none⟩ = some (Value.slice A0 x.list.length c0) := b0.cell 3 rfl
  have fb04 : w2.cell? ⟨w.heap.size, 4, none⟩ = some (Value.slice A0B x.names.length c0B) := b0.cell 4 rfl
  have fb10 : w2.cell? ⟨w.heap.size + 1, 0, none⟩ = some (Value.int IntKind.i64 y.kind) := b1.cell 0 rfl
  have fb11 : w2.cell? ⟨w.heap.size + 1, 1, none⟩ = some (Value.int IntKind.i64 y.n) := b1.cell 1 rfl
  have fb12 : w2.cell? ⟨w.heap.size + 1, 2, none⟩ = some (Value.string y.s) := b1.cell 2 rfl
  have fb13 : w2.cell? ⟨w.heap.size + 1, 3, none⟩ = some (Value.slice A1 y.list.length c1) := b1.cell 3 rfl
  have fb14 : w2.cell? ⟨w.heap.size + 1, 4, none⟩ = some (Value.slice A1B y.names.length c1B) := b1.cell 4 rfl
  have hb0 := Hd.mk b0; clear b0; have hb1 := Hd.mk b1; clear b1
  have rfb00 := cell_regrown fb00
  have rfb01 := cell_regrown fb01
  have rfb02 := cell_regrown fb02
  have rfb03 := cell_regrown fb03
  have rfb04 := cell_regrown fb04
  have rfb10 := cell_regrown fb10
  have rfb11 := cell_regrown fb11
  have rfb12 := cell_regrown fb12
  have rfb13 := cell_regrown fb13
  have rfb14 := cell_regrown fb14
  refine region_mix [(true, 0), (true, 2), (false, 1), (false, 3), (false, 4), (true, 5)] (by kernel_rfl) (by kernel_rfl) (fun _ _ _ _ _ h => h) ?_
  try (repeat (refine mix_q rfl ?_; go_big_quiet_want; go_big_quiet_op; go_big_quiet_on; refine wpQuiet_nil ?_))
  refine mix_b rfl ?_ (by rfl)
  go_wp2_with fail
  clear rfb00 rfb01 rfb02 rfb03 rfb04 rfb10 rfb11 rfb12 rfb13 rfb14
  clear fb00 fb01 fb02 fb03 fb04 fb10 fb11 fb12 fb13 fb14
  have b0 := hb0.out; clear hb0; have b1 := hb1.out; clear hb1
  have hS := Hd.mk (Below.refl w2.heap.size w2)
  apply calls_gen; intro W2 hW
  have hE : Below w2.heap.size w2 W2 := by rw [hW]; (repeat (first | with_reducible refine below_alloc ?_ _ | with_reducible refine below_drew ?_)); exact Below.refl _ _
  clear hW
  have hS := Hd.mk (below_then hS.out hE)
  replace b0 := b0.below hE
  replace b1 := b1.below hE
  have hK0 := Hd.mk ((tJ (m + 1)).K_below hE hK0.out)
  have hK1 := Hd.mk ((tJ (m + 1)).K_below hE hK1.out)
  have hB := Hd.mk (below_then hB.out hE)
  clear hE
  refine (laws_toJson x _ _ hK0.out HL0.out.1).mono ?_
  rintro e w3 ⟨cs0s, rfl, hO0s, hX⟩
  have hS := Hd.mk (below_then hS.out hX)
  replace b0 := b0.below hX
  replace b1 := b1.below hX
  have hK0 := Hd.mk ((tJ (m + 1)).K_below hX hK0.out)
  have hK1 := Hd.mk ((tJ (m + 1)).K_below hX hK1.out)
  have hB := Hd.mk (below_then hB.out hX)
  replace hO0s := (tJ (m + 1)).O_K hO0s
  clear hX
  obtain ⟨A0s, c0s, A0sB, c0sB, rfl, hs0s, ⟨hc0s, hr0s⟩, hc0sB, hr0sB⟩ := tJ_K.1 hO0s
  have hK0s := Hd.mk hO0s; clear hO0s
  clear hr0s hr0sB
  have fb00 : w3.cell? ⟨w.heap.size, 0, none⟩ = some (Value.int IntKind.i64 x.kind) := b0.cell 0 rfl
  have fb01 : w3.cell? ⟨w.heap.size, 1, none⟩ = some (Value.int IntKind.i64 x.n) := b0.cell 1 rfl
  have fb02 : w3.cell? ⟨w.heap.size, 2, none⟩ = some (Value.string x.s) := b0.cell 2 rfl
  have fb03 : w3.cell? ⟨w.heap.size, 3, none⟩ = some (Value.slice A0 x.list.length c0) := b0.cell 3 rfl
  have fb04 : w3.cell? ⟨w.heap.size, 4, none⟩ = some (Value.slice A0B x.names.length c0B) := b0.cell 4 rfl
  have fb10 : w3.cell? ⟨w.heap.size + 1, 0, none⟩ = some (Value.int IntKind.i64 y.kind) := b1.cell 0 rfl
  have fb11 : w3.cell? ⟨w.heap.size + 1, 1, none⟩ = some (Value.int IntKind.i64 y.n) := b1.cell 1 rfl
  have fb12 : w3.cell? ⟨w.heap.size + 1, 2, none⟩ = some (Value.string y.s) := b1.cell 2 rfl
  have fb13 : w3.cell? ⟨w.heap.size + 1, 3, none⟩ = some (Value.slice A1 y.list.length c1) := b1.cell 3 rfl
  have fb14 : w3.cell? ⟨w.heap.size + 1, 4, none⟩ = some (Value.slice A1B y.names.length c1B) := b1.cell 4 rfl
  have hb0 := Hd.mk b0; clear b0; have hb1 := Hd.mk b1; clear b1
  go_wp2_with fail
  refine ⟨cls_below hS.out, ?_⟩
  refine mix_b rfl ?_ (by rfl)
  go_wp2_with fail
  clear fb00 fb01 fb02 fb03 fb04 fb10 fb11 fb12 fb13 fb14
  have b0 := hb0.out; clear hb0; have b1 := hb1.out; clear hb1
  apply calls_gen; intro W3 hW
  have hE : Below w3.heap.size w3 W3 := by rw [hW]; (repeat (first | with_reducible refine below_alloc ?_ _ | with_reducible refine below_drew ?_)); exact Below.refl _ _
  clear hW
  have hS := Hd.mk (below_then hS.out hE)
  replace b0 := b0.below hE
  replace b1 := b1.below hE
  have hK0 := Hd.mk ((tJ (m + 1)).K_below hE hK0.out)
  have hK1 := Hd.mk ((tJ (m + 1)).K_below hE hK1.out)
  have hK0s := Hd.mk ((tJ (m + 1)).K_below hE hK0s.out)
  have hB := Hd.mk (below_then hB.out hE)
  clear hE
  refine (laws_toJson y _ _ hK1.out HL1.out.1).mono ?_
  rintro e w4 ⟨cs1s, rfl, hO1s, hX⟩
  have hS := Hd.mk (below_then hS.out hX)
  replace b0 := b0.below hX
  replace b1 := b1.below hX
  have hK0 := Hd.mk ((tJ (m + 1)).K_below hX hK0.out)
  have hK1 := Hd.mk ((tJ (m + 1)).K_below hX hK1.out)
  have hK0s := Hd.mk ((tJ (m + 1)).K_below hX hK0s.out)
  have hB := Hd.mk (below_then hB.out hX)
  replace hO1s := (tJ (m + 1)).O_K hO1s
  clear hX
  obtain ⟨A1s, c1s, A1sB, c1sB, rfl, hs1s, ⟨hc1s, hr1s⟩, hc1sB, hr1sB⟩ := tJ_K.1 hO1s
  have hK1s := Hd.mk hO1s; clear hO1s
  clear hr1s hr1sB
  have fb00 : w4.cell? ⟨w.heap.size, 0, none⟩ = some (Value.int IntKind.i64 x.kind) := b0.cell 0 rfl
  have fb01 : w4.cell? ⟨w.heap.size, 1, none⟩ = some (Value.int IntKind.i64 x.n) := b0.cell 1 rfl
  have fb02 : w4.cell? ⟨w.heap.size, 2, none⟩ = some (Value.string x.s) := b0.cell 2 rfl
  have fb03 : w4.cell? ⟨w.heap.size, 3, none⟩ = some (Value.slice A0 x.list.length c0) := b0.cell 3 rfl
  have fb04 : w4.cell? ⟨w.heap.size, 4, none⟩ = some (Value.slice A0B x.names.length c0B) := b0.cell 4 rfl
  have fb10 : w4.cell? ⟨w.heap.size + 1, 0, none⟩ = some (Value.int IntKind.i64 y.kind) := b1.cell 0 rfl
  have fb11 : w4.cell? ⟨w.heap.size + 1, 1, none⟩ = some (Value.int IntKind.i64 y.n) := b1.cell 1 rfl
  have fb12 : w4.cell? ⟨w.heap.size + 1, 2, none⟩ = some (Value.string y.s) := b1.cell 2 rfl
  have fb13 : w4.cell? ⟨w.heap.size + 1, 3, none⟩ = some (Value.slice A1 y.list.length c1) := b1.cell 3 rfl
  have fb14 : w4.cell? ⟨w.heap.size + 1, 4, none⟩ = some (Value.slice A1B y.names.length c1B) := b1.cell 4 rfl
  have hb0 := Hd.mk b0; clear b0; have hb1 := Hd.mk b1; clear b1
  go_wp2_with fail
  refine ⟨cls_below hS.out, ?_⟩
  refine mix_b rfl ?_ (by rfl)
  go_wp2_with fail
  clear fb00 fb01 fb02 fb03 fb04 fb10 fb11 fb12 fb13 fb14
  have b0 := hb0.out; clear hb0; have b1 := hb1.out; clear hb1
  apply calls_gen; intro W4 hW
  have hE : Below w4.heap.size w4 W4 := by rw [hW]; (repeat (first | with_reducible refine below_alloc ?_ _ | with_reducible refine below_drew ?_)); exact Below.refl _ _
  clear hW
  have hS := Hd.mk (below_then hS.out hE)
  replace b0 := b0.below hE
  replace b1 := b1.below hE
  have hK0 := Hd.mk ((tJ (m + 1)).K_below hE hK0.out)
  have hK1 := Hd.mk ((tJ (m + 1)).K_below hE hK1.out)
  have hK0s := Hd.mk ((tJ (m + 1)).K_below hE hK0s.out)
  have hK1s := Hd.mk ((tJ (m + 1)).K_below hE hK1s.out)
  have hB := Hd.mk (below_then hB.out hE)
  clear hE
  refine (spec_JsonSame x y _ _ _ hK0s.out hK1s.out).mono ?_
  rintro e w5 ⟨rfl, hX⟩
  have hS := Hd.mk (below_then hS.out hX)
  replace b0 := b0.below hX
  replace b1 := b1.below hX
  have hK0 := Hd.mk ((tJ (m + 1)).K_below hX hK0.out)
  have hK1 := Hd.mk ((tJ (m + 1)).K_below hX hK1.out)
  have hK0s := Hd.mk ((tJ (m + 1)).K_below hX hK0s.out)
  have hK1s := Hd.mk ((tJ (m + 1)).K_below hX hK1s.out)
  have hB := Hd.mk (below_then hB.out hX)
  clear hX
  have fb00 : w5.cell? ⟨w.heap.size, 0, none⟩ = some (Value.int IntKind.i64 x.kind) := b0.cell 0 rfl
  have fb01 : w5.cell? ⟨w.heap.size, 1, none⟩ = some (Value.int IntKind.i64 x.n) := b0.cell 1 rfl
  have fb02 : w5.cell? ⟨w.heap.size, 2, none⟩ = some (Value.string x.s) := b0.cell 2 rfl
  have fb03 : w5.cell? ⟨w.heap.size, 3, none⟩ = some (Value.slice A0 x.list.length c0) := b0.cell 3 rfl
  have fb04 : w5.cell? ⟨w.heap.size, 4, none⟩ = some (Value.slice A0B x.names.length c0B) := b0.cell 4 rfl
  have fb10 : w5.cell? ⟨w.heap.size + 1, 0, none⟩ = some (Value.int IntKind.i64 y.kind) := b1.cell 0 rfl
  have fb11 : w5.cell? ⟨w.heap.size + 1, 1, none⟩ = some (Value.int IntKind.i64 y.n) := b1.cell 1 rfl
  have fb12 : w5.cell? ⟨w.heap.size + 1, 2, none⟩ = some (Value.string y.s) := b1.cell 2 rfl
  have fb13 : w5.cell? ⟨w.heap.size + 1, 3, none⟩ = some (Value.slice A1 y.list.length c1) := b1.cell 3 rfl
  have fb14 : w5.cell? ⟨w.heap.size + 1, 4, none⟩ = some (Value.slice A1B y.names.length c1B) := b1.cell 4 rfl
  have hb0 := Hd.mk b0; clear b0; have hb1 := Hd.mk b1; clear b1
  have rfb00 := cell_regrown fb00
  have rfb01 := cell_regrown fb01
  have rfb02 := cell_regrown fb02
  have rfb03 := cell_regrown fb03
  have rfb04 := cell_regrown fb04
  have rfb10 := cell_regrown fb10
  have rfb11 := cell_regrown fb11
  have rfb12 := cell_regrown fb12
  have rfb13 := cell_regrown fb13
  have rfb14 := cell_regrown fb14
  go_wp2_with fail
  refine ⟨cls_below hS.out, ?_⟩
  try (repeat (refine mix_q rfl ?_; go_big_quiet_want; go_big_quiet_op; go_big_quiet_on; refine wpQuiet_nil ?_))
  refine mix_nil ?_
  clear rfb00 rfb01 rfb02 rfb03 rfb04 rfb10 rfb11 rfb12 rfb13 rfb14
  clear hS
  go_wp2_with fail
  clear fb00 fb01 fb02 fb03 fb04 fb10 fb11 fb12 fb13 fb14
  have b0 := hb0.out; clear hb0; have b1 := hb1.out; clear hb1
  apply calls_gen; intro W5 hW
  have hE : Below w5.heap.size w5 W5 := by rw [hW]; (repeat (first | with_reducible refine below_alloc ?_ _ | with_reducible refine below_drew ?_)); exact Below.refl _ _
  clear hW
  replace b0 := b0.below hE
  replace b1 := b1.below hE
  have hK0 := Hd.mk ((tJ (m + 1)).K_below hE hK0.out)
  have hK1 := Hd.mk ((tJ (m + 1)).K_below hE hK1.out)
  have hK0s := Hd.mk ((tJ (m + 1)).K_below hE hK0s.out)
  have hK1s := Hd.mk ((tJ (m + 1)).K_below hE hK1s.out)
  have hB := Hd.mk (below_then hB.out hE)
  clear hE
  refine (laws_toJson x _ _ hK0.out HL0.out.1).mono ?_
  rintro e w6 ⟨cs0x, rfl, hO0x, hX⟩
  replace b0 := b0.below hX
  replace b1 := b1.below hX
  have hK0 := Hd.mk ((tJ (m + 1)).K_below hX hK0.out)
  have hK1 := Hd.mk ((tJ (m + 1)).K_below hX hK1.out)
  have hK0s := Hd.mk ((tJ (m + 1)).K_below hX hK0s.out)
  have hK1s := Hd.mk ((tJ (m + 1)).K_below hX hK1s.out)
  have hB := Hd.mk (below_then hB.out hX)
  replace hO0x := (tJ (m + 1)).O_K hO0x
  clear hX
  obtain ⟨A0x, c0x, A0xB, c0xB, rfl, hs0x, ⟨hc0x, hr0x⟩, hc0xB, hr0xB⟩ := tJ_K.1 hO0x
  have hK0x := Hd.mk hO0x; clear hO0x
  clear hr0x hr0xB
  have fb00 : w6.cell? ⟨w.heap.size, 0, none⟩ = some (Value.int IntKind.i64 x.kind) := b0.cell 0 rfl
  have fb01 : w6.cell? ⟨w.heap.size, 1, none⟩ = some (Value.int IntKind.i64 x.n) := b0.cell 1 rfl
  have fb02 : w6.cell? ⟨w.heap.size, 2, none⟩ = some (Value.string x.s) := b0.cell 2 rfl
  have fb03 : w6.cell? ⟨w.heap.size, 3, none⟩ = some (Value.slice A0 x.list.length c0) := b0.cell 3 rfl
  have fb04 : w6.cell? ⟨w.heap.size, 4, none⟩ = some (Value.slice A0B x.names.length c0B) := b0.cell 4 rfl
  have fb10 : w6.cell? ⟨w.heap.size + 1, 0, none⟩ = some (Value.int IntKind.i64 y.kind) := b1.cell 0 rfl
  have fb11 : w6.cell? ⟨w.heap.size + 1, 1, none⟩ = some (Value.int IntKind.i64 y.n) := b1.cell 1 rfl
  have fb12 : w6.cell? ⟨w.heap.size + 1, 2, none⟩ = some (Value.string y.s) := b1.cell 2 rfl
  have fb13 : w6.cell? ⟨w.heap.size + 1, 3, none⟩ = some (Value.slice A1 y.list.length c1) := b1.cell 3 rfl
  have fb14 : w6.cell? ⟨w.heap.size + 1, 4, none⟩ = some (Value.slice A1B y.names.length c1B) := b1.cell 4 rfl
  have hb0 := Hd.mk b0; clear b0; have hb1 := Hd.mk b1; clear b1
  have lfb00 := fun o => cell_below (below_alloc (Below.refl _ _) o) fb00
  have lfb01 := fun o => cell_below (below_alloc (Below.refl _ _) o) fb01
  have lfb02 := fun o => cell_below (below_alloc (Below.refl _ _) o) fb02
  have lfb03 := fun o => cell_below (below_alloc (Below.refl _ _) o) fb03
  have lfb04 := fun o => cell_below (below_alloc (Below.refl _ _) o) fb04
  have lfb10 := fun o => cell_below (below_alloc (Below.refl _ _) o) fb10
  have lfb11 := fun o => cell_below (below_alloc (Below.refl _ _) o) fb11
  have lfb12 := fun o => cell_below (below_alloc (Below.refl _ _) o) fb12
  have lfb13 := fun o => cell_below (below_alloc (Below.refl _ _) o) fb13
  have lfb14 := fun o => cell_below (below_alloc (Below.refl _ _) o) fb14
  go_wp2_with fail
  clear lfb00 lfb01 lfb02 lfb03 lfb04 lfb10 lfb11 lfb12 lfb13 lfb14
  clear fb00 fb01 fb02 fb03 fb04 fb10 fb11 fb12 fb13 fb14
  have b0 := hb0.out; clear hb0; have b1 := hb1.out; clear hb1
  apply calls_gen; intro W6 hW
  have hE : Below w6.heap.size w6 W6 := by rw [hW]; (repeat (first | with_reducible refine below_alloc ?_ _ | with_reducible refine below_drew ?_)); exact Below.refl _ _
  have d0 : Blk W6 w6.heap.size #[Value.int IntKind.i64 x.kind, Value.int IntKind.i64 x.n, Value.string x.s, Value.slice A0x x.list.length c0x, Value.slice A0xB x.names.length c0xB] 68 := by rw [hW]; exact Blk.new _ _ _
  clear hW
  replace b0 := b0.below hE
  replace b1 := b1.below hE
  have hK0 := Hd.mk ((tJ (m + 1)).K_below hE hK0.out)
  have hK1 := Hd.mk ((tJ (m + 1)).K_below hE hK1.out)
  have hK0s := Hd.mk ((tJ (m + 1)).K_below hE hK0s.out)
  have hK1s := Hd.mk ((tJ (m + 1)).K_below hE hK1s.out)
  have hK0x := Hd.mk ((tJ (m + 1)).K_below hE hK0x.out)
  have hB := Hd.mk (below_then hB.out hE)
  clear hE
  refine (laws_toJson y _ _ hK1.out HL1.out.1).mono ?_
  rintro e w7 ⟨cs1x, rfl, hO1x, hX⟩
  replace b0 := b0.below hX
  replace b1 := b1.below hX
  replace d0 := d0.below hX
  have hK0 := Hd.mk ((tJ (m + 1)).K_below hX hK0.out)
  have hK1 := Hd.mk ((tJ (m + 1)).K_below hX hK1.out)
  have hK0s := Hd.mk ((tJ (m + 1)).K_below hX hK0s.out)
  have hK1s := Hd.mk ((tJ (m + 1)).K_below hX hK1s.out)
  have hK0x := Hd.mk ((tJ (m + 1)).K_below hX hK0x.out)
  have hB := Hd.mk (below_then hB.out hX)
  replace hO1x := (tJ (m + 1)).O_K hO1x
  clear hX
  obtain ⟨A1x, c1x, A1xB, c1xB, rfl, hs1x, ⟨hc1x, hr1x⟩, hc1xB, hr1xB⟩ := tJ_K.1 hO1x
  have hK1x := Hd.mk hO1x; clear hO1x
  clear hr1x hr1xB
  have fb00 : w7.cell? ⟨w.heap.size, 0, none⟩ = some (Value.int IntKind.i64 x.kind) := b0.cell 0 rfl
  have fb01 : w7.cell? ⟨w.heap.size, 1, none⟩ = some (Value.int IntKind.i64 x.n) := b0.cell 1 rfl
  have fb02 : w7.cell? ⟨w.heap.size, 2, none⟩ = some (Value.string x.s) := b0.cell 2 rfl
  have fb03 : w7.cell? ⟨w.heap.size, 3, none⟩ = some (Value.slice A0 x.list.length c0) := b0.cell 3 rfl
  have fb04 : w7.cell? ⟨w.heap.size, 4, none⟩ = some (Value.slice A0B x.names.length c0B) := b0.cell 4 rfl
  have fb10 : w7.cell? ⟨w.heap.size + 1, 0, none⟩ = some (Value.int IntKind.i64 y.kind) := b1.cell 0 rfl
  have fb11 : w7.cell? ⟨w.heap.size + 1, 1, none⟩ = some (Value.int IntKind.i64 y.n) := b1.cell 1 rfl
  have fb12 : w7.cell? ⟨w.heap.size + 1, 2, none⟩ = some (Value.string y.s) := b1.cell 2 rfl
  have fb13 : w7.cell? ⟨w.heap.size + 1, 3, none⟩ = some (Value.slice A1 y.list.length c1) := b1.cell 3 rfl
  have fb14 : w7.cell? ⟨w.heap.size + 1, 4, none⟩ = some (Value.slice A1B y.names.length c1B) := b1.cell 4 rfl
  have fd00 : w7.cell? ⟨w6.heap.size, 0, none⟩ = some (Value.int IntKind.i64 x.kind) := d0.cell 0 rfl
  have fd01 : w7.cell? ⟨w6.heap.size, 1, none⟩ = some (Value.int IntKind.i64 x.n) := d0.cell 1 rfl
  have fd02 : w7.cell? ⟨w6.heap.size, 2, none⟩ = some (Value.string x.s) := d0.cell 2 rfl
  have fd03 : w7.cell? ⟨w6.heap.size, 3, none⟩ = some (Value.slice A0x x.list.length c0x) := d0.cell 3 rfl
  have fd04 : w7.cell? ⟨w6.heap.size, 4, none⟩ = some (Value.slice A0xB x.names.length c0xB) := d0.cell 4 rfl
  have hb0 := Hd.mk b0; clear b0; have hb1 := Hd.mk b1; clear b1; have hd0 := Hd.mk d0; clear d0
  have lfb00 := fun o => cell_below (below_alloc (Below.refl _ _) o) fb00
  have lfb01 := fun o => cell_below (below_alloc (Below.refl _ _) o) fb01
  have lfb02 := fun o => cell_below (below_alloc (Below.refl _ _) o) fb02
  have lfb03 := fun o => cell_below (below_alloc (Below.refl _ _) o) fb03
  have lfb04 := fun o => cell_below (below_alloc (Below.refl _ _) o) fb04
  have lfb10 := fun o => cell_below (below_alloc (Below.refl _ _) o) fb10
  have lfb11 := fun o => cell_below (below_alloc (Below.refl _ _) o) fb11
  have lfb12 := fun o => cell_below (below_alloc (Below.refl _ _) o) fb12
  have lfb13 := fun o => cell_below (below_alloc (Below.refl _ _) o) fb13
  have lfb14 := fun o => cell_below (below_alloc (Below.refl _ _) o) fb14
  have lfd00 := fun o => cell_below (below_alloc (Below.refl _ _) o) fd00
  have lfd01 := fun o => cell_below (below_alloc (Below.refl _ _) o) fd01
  have lfd02 := fun o => cell_below (below_alloc (Below.refl _ _) o) fd02
  have lfd03 := fun o => cell_below (below_alloc (Below.refl _ _) o) fd03
  have lfd04 := fun o => cell_below (below_alloc (Below.refl _ _) o) fd04
  go_wp2_with fail
  clear lfb00 lfb01 lfb02 lfb03 lfb04 lfb10 lfb11 lfb12 lfb13 lfb14 lfd00 lfd01 lfd02 lfd03 lfd04
  clear fb00 fb01 fb02 fb03 fb04 fb10 fb11 fb12 fb13 fb14 fd00 fd01 fd02 fd03 fd04
  have b0 := hb0.out; clear hb0; have b1 := hb1.out; clear hb1; have d0 := hd0.out; clear hd0
  apply calls_gen; intro W7 hW
  have hE : Below w7.heap.size w7 W7 := by rw [hW]; (repeat (first | with_reducible refine below_alloc ?_ _ | with_reducible refine below_drew ?_)); exact Below.refl _ _
  have d1 : Blk W7 w7.heap.size #[Value.int IntKind.i64 y.kind, Value.int IntKind.i64 y.n, Value.string y.s, Value.slice A1x y.list.length c1x, Value.slice A1xB y.names.length c1xB] 68 := by rw [hW]; exact Blk.new _ _ _
  clear hW
  replace b0 := b0.below hE
  replace b1 := b1.below hE
  replace d0 := d0.below hE
  have hK0 := Hd.mk ((tJ (m + 1)).K_below hE hK0.out)
  have hK1 := Hd.mk ((tJ (m + 1)).K_below hE hK1.out)
  have hK0s := Hd.mk ((tJ (m + 1)).K_below hE hK0s.out)
  have hK1s := Hd.mk ((tJ (m + 1)).K_below hE hK1s.out)
  have hK0x := Hd.mk ((tJ (m + 1)).K_below hE hK0x.out)
  have hK1x := Hd.mk ((tJ (m + 1)).K_below hE hK1x.out)
  have hB := Hd.mk (below_then hB.out hE)
  clear hE
  refine (impl_JsonSame x y _ _ _ hK0x.out hK1x.out).mono ?_
  rintro e w8 ⟨rfl, hX⟩
  replace b0 := b0.below hX
  replace b1 := b1.below hX
  replace d0 := d0.below hX
  replace d1 := d1.below hX
  have hK0 := Hd.mk ((tJ (m + 1)).K_below hX hK0.out)
  have hK1 := Hd.mk ((tJ (m + 1)).K_below hX hK1.out)
  have hK0s := Hd.mk ((tJ (m + 1)).K_below hX hK0s.out)
  have hK1s := Hd.mk ((tJ (m + 1)).K_below hX hK1s.out)
  have hK0x := Hd.mk ((tJ (m + 1)).K_below hX hK0x.out)
  have hK1x := Hd.mk ((tJ (m + 1)).K_below hX hK1x.out)
  have hB := Hd.mk (below_then hB.out hX)
  clear hX
  have fb00 : w8.cell? ⟨w.heap.size, 0, none⟩ = some (Value.int IntKind.i64 x.kind) := b0.cell 0 rfl
  have fb01 : w8.cell? ⟨w.heap.size, 1, none⟩ = some (Value.int IntKind.i64 x.n) := b0.cell 1 rfl
  have fb02 : w8.cell? ⟨w.heap.size, 2, none⟩ = some (Value.string x.s) := b0.cell 2 rfl
  have fb03 : w8.cell? ⟨w.heap.size, 3, none⟩ = some (Value.slice A0 x.list.length c0) := b0.cell 3 rfl
  have fb04 : w8.cell? ⟨w.heap.size, 4, none⟩ = some (Value.slice A0B x.names.length c0B) := b0.cell 4 rfl
  have fb10 : w8.cell? ⟨w.heap.size + 1, 0, none⟩ = some (Value.int IntKind.i64 y.kind) := b1.cell 0 rfl
  have fb11 : w8.cell? ⟨w.heap.size + 1, 1, none⟩ = some (Value.int IntKind.i64 y.n) := b1.cell 1 rfl
  have fb12 : w8.cell? ⟨w.heap.size + 1, 2, none⟩ = some (Value.string y.s) := b1.cell 2 rfl
  have fb13 : w8.cell? ⟨w.heap.size + 1, 3, none⟩ = some (Value.slice A1 y.list.length c1) := b1.cell 3 rfl
  have fb14 : w8.cell? ⟨w.heap.size + 1, 4, none⟩ = some (Value.slice A1B y.names.length c1B) := b1.cell 4 rfl
  have fd00 : w8.cell? ⟨w6.heap.size, 0, none⟩ = some (Value.int IntKind.i64 x.kind) := d0.cell 0 rfl
  have fd01 : w8.cell? ⟨w6.heap.size, 1, none⟩ = some (Value.int IntKind.i64 x.n) := d0.cell 1 rfl
  have fd02 : w8.cell? ⟨w6.heap.size, 2, none⟩ = some (Value.string x.s) := d0.cell 2 rfl
  have fd03 : w8.cell? ⟨w6.heap.size, 3, none⟩ = some (Value.slice A0x x.list.length c0x) := d0.cell 3 rfl
  have fd04 : w8.cell? ⟨w6.heap.size, 4, none⟩ = some (Value.slice A0xB x.names.length c0xB) := d0.cell 4 rfl
  have fd10 : w8.cell? ⟨w7.heap.size, 0, none⟩ = some (Value.int IntKind.i64 y.kind) := d1.cell 0 rfl
  have fd11 : w8.cell? ⟨w7.heap.size, 1, none⟩ = some (Value.int IntKind.i64 y.n) := d1.cell 1 rfl
  have fd12 : w8.cell? ⟨w7.heap.size, 2, none⟩ = some (Value.string y.s) := d1.cell 2 rfl
  have fd13 : w8.cell? ⟨w7.heap.size, 3, none⟩ = some (Value.slice A1x y.list.length c1x) := d1.cell 3 rfl
  have fd14 : w8.cell? ⟨w7.heap.size, 4, none⟩ = some (Value.slice A1xB y.names.length c1xB) := d1.cell 4 rfl
  have hb0 := Hd.mk b0; clear b0; have hb1 := Hd.mk b1; clear b1; have hd0 := Hd.mk d0; clear d0; have hd1 := Hd.mk d1; clear d1
  go_wp2_with fail
  have rfb00 := cell_regrown fb00
  have rfb01 := cell_regrown fb01
  have rfb02 := cell_regrown fb02
  have rfb03 := cell_regrown fb03
  have rfb04 := cell_regrown fb04
  have rfb10 := cell_regrown fb10
  have rfb11 := cell_regrown fb11
  have rfb12 := cell_regrown fb12
  have rfb13 := cell_regrown fb13
  have rfb14 := cell_regrown fb14
  have rfd00 := cell_regrown fd00
  have rfd01 := cell_regrown fd01
  have rfd02 := cell_regrown fd02
  have rfd03 := cell_regrown fd03
  have rfd04 := cell_regrown fd04
  have rfd10 := cell_regrown fd10
  have rfd11 := cell_regrown fd11
  have rfd12 := cell_regrown fd12
  have rfd13 := cell_regrown fd13
  have rfd14 := cell_regrown fd14
  refine region_mix [(true, 0), (true, 1), (false, 2), (false, 3), (true, 4)] (by kernel_rfl) (by kernel_rfl) (fun _ _ _ _ _ h => h) ?_
  try (repeat (refine mix_q rfl ?_; go_big_quiet_want; go_big_quiet_op; go_big_quiet_on; refine wpQuiet_nil ?_))
  refine mix_b rfl ?_ (by rfl)
  go_wp2_with fail
  clear rfb00 rfb01 rfb02 rfb03 rfb04 rfb10 rfb11 rfb12 rfb13 rfb14 rfd00 rfd01 rfd02 rfd03 rfd04 rfd10 rfd11 rfd12 rfd13 rfd14
  clear fb00 fb01 fb02 fb03 fb04 fb10 fb11 fb12 fb13 fb14 fd00 fd01 fd02 fd03 fd04 fd10 fd11 fd12 fd13 fd14
  have b0 := hb0.out; clear hb0; have b1 := hb1.out; clear hb1; have d0 := hd0.out; clear hd0; have d1 := hd1.out; clear hd1
  have hS := Hd.mk (Below.refl w8.heap.size w8)
  apply calls_gen; intro W8 hW
  have hE : Below w8.heap.size w8 W8 := by rw [hW]; (repeat (first | with_reducible refine below_alloc ?_ _ | with_reducible refine below_drew ?_)); exact Below.refl _ _
  clear hW
  have hS := Hd.mk (below_then hS.out hE)
  replace b0 := b0.below hE
  replace b1 := b1.below hE
  replace d0 := d0.below hE
  replace d1 := d1.below hE
  have hK0 := Hd.mk ((tJ (m + 1)).K_below hE hK0.out)
  have hK1 := Hd.mk ((tJ (m + 1)).K_below hE hK1.out)
  have hK0s := Hd.mk ((tJ (m + 1)).K_below hE hK0s.out)
  have hK1s := Hd.mk ((tJ (m + 1)).K_below hE hK1s.out)
  have hK0x := Hd.mk ((tJ (m + 1)).K_below hE hK0x.out)
  have hK1x := Hd.mk ((tJ (m + 1)).K_below hE hK1x.out)
  have hB := Hd.mk (below_then hB.out hE)
  clear hE
  refine (laws_toJson x _ _ hK0.out HL0.out.1).mono ?_
  rintro e w9 ⟨cs0y, rfl, hO0y, hX⟩
  have hS := Hd.mk (below_then hS.out hX)
  replace b0 := b0.below hX
  replace b1 := b1.below hX
  replace d0 := d0.below hX
  replace d1 := d1.below hX
  have hK0 := Hd.mk ((tJ (m + 1)).K_below hX hK0.out)
  have hK1 := Hd.mk ((tJ (m + 1)).K_below hX hK1.out)
  have hK0s := Hd.mk ((tJ (m + 1)).K_below hX hK0s.out)
  have hK1s := Hd.mk ((tJ (m + 1)).K_below hX hK1s.out)
  have hK0x := Hd.mk ((tJ (m + 1)).K_below hX hK0x.out)
  have hK1x := Hd.mk ((tJ (m + 1)).K_below hX hK1x.out)
  have hB := Hd.mk (below_then hB.out hX)
  replace hO0y := (tJ (m + 1)).O_K hO0y
  clear hX
  obtain ⟨A0y, c0y, A0yB, c0yB, rfl, hs0y, ⟨hc0y, hr0y⟩, hc0yB, hr0yB⟩ := tJ_K.1 hO0y
  have hK0y := Hd.mk hO0y; clear hO0y
  clear hr0y hr0yB
  have fb00 : w9.cell? ⟨w.heap.size, 0, none⟩ = some (Value.int IntKind.i64 x.kind) := b0.cell 0 rfl
  have fb01 : w9.cell? ⟨w.heap.size, 1, none⟩ = some (Value.int IntKind.i64 x.n) := b0.cell 1 rfl
  have fb02 : w9.cell? ⟨w.heap.size, 2, none⟩ = some (Value.string x.s) := b0.cell 2 rfl
  have fb03 : w9.cell? ⟨w.heap.size, 3, none⟩ = some (Value.slice A0 x.list.length c0) := b0.cell 3 rfl
  have fb04 : w9.cell? ⟨w.heap.size, 4, none⟩ = some (Value.slice A0B x.names.length c0B) := b0.cell 4 rfl
  have fb10 : w9.cell? ⟨w.heap.size + 1, 0, none⟩ = some (Value.int IntKind.i64 y.kind) := b1.cell 0 rfl
  have fb11 : w9.cell? ⟨w.heap.size + 1, 1, none⟩ = some (Value.int IntKind.i64 y.n) := b1.cell 1 rfl
  have fb12 : w9.cell? ⟨w.heap.size + 1, 2, none⟩ = some (Value.string y.s) := b1.cell 2 rfl
  have fb13 : w9.cell? ⟨w.heap.size + 1, 3, none⟩ = some (Value.slice A1 y.list.length c1) := b1.cell 3 rfl
  have fb14 : w9.cell? ⟨w.heap.size + 1, 4, none⟩ = some (Value.slice A1B y.names.length c1B) := b1.cell 4 rfl
  have fd00 : w9.cell? ⟨w6.heap.size, 0, none⟩ = some (Value.int IntKind.i64 x.kind) := d0.cell 0 rfl
  have fd01 : w9.cell? ⟨w6.heap.size, 1, none⟩ = some (Value.int IntKind.i64 x.n) := d0.cell 1 rfl
  have fd02 : w9.cell? ⟨w6.heap.size, 2, none⟩ = some (Value.string x.s) := d0.cell 2 rfl
  have fd03 : w9.cell? ⟨w6.heap.size, 3, none⟩ = some (Value.slice A0x x.list.length c0x) := d0.cell 3 rfl
  have fd04 : w9.cell? ⟨w6.heap.size, 4, none⟩ = some (Value.slice A0xB x.names.length c0xB) := d0.cell 4 rfl
  have fd10 : w9.cell? ⟨w7.heap.size, 0, none⟩ = some (Value.int IntKind.i64 y.kind) := d1.cell 0 rfl
  have fd11 : w9.cell? ⟨w7.heap.size, 1, none⟩ = some (Value.int IntKind.i64 y.n) := d1.cell 1 rfl
  have fd12 : w9.cell? ⟨w7.heap.size, 2, none⟩ = some (Value.string y.s) := d1.cell 2 rfl
  have fd13 : w9.cell? ⟨w7.heap.size, 3, none⟩ = some (Value.slice A1x y.list.length c1x) := d1.cell 3 rfl
  have fd14 : w9.cell? ⟨w7.heap.size, 4, none⟩ = some (Value.slice A1xB y.names.length c1xB) := d1.cell 4 rfl
  have hb0 := Hd.mk b0; clear b0; have hb1 := Hd.mk b1; clear b1; have hd0 := Hd.mk d0; clear d0; have hd1 := Hd.mk d1; clear d1
  go_wp2_with fail
  refine ⟨cls_below hS.out, ?_⟩
  refine mix_b rfl ?_ (by rfl)
  go_wp2_with fail
  clear fb00 fb01 fb02 fb03 fb04 fb10 fb11 fb12 fb13 fb14 fd00 fd01 fd02 fd03 fd04 fd10 fd11 fd12 fd13 fd14
  have b0 := hb0.out; clear hb0; have b1 := hb1.out; clear hb1; have d0 := hd0.out; clear hd0; have d1 := hd1.out; clear hd1
  apply calls_gen; intro W9 hW
  have hE : Below w9.heap.size w9 W9 := by rw [hW]; (repeat (first | with_reducible refine below_alloc ?_ _ | with_reducible refine below_drew ?_)); exact Below.refl _ _
  clear hW
  have hS := Hd.mk (below_then hS.out hE)
  replace b0 := b0.below hE
  replace b1 := b1.below hE
  replace d0 := d0.below hE
  replace d1 := d1.below hE
  have hK0 := Hd.mk ((tJ (m + 1)).K_below hE hK0.out)
  have hK1 := Hd.mk ((tJ (m + 1)).K_below hE hK1.out)
  have hK0s := Hd.mk ((tJ (m + 1)).K_below hE hK0s.out)
  have hK1s := Hd.mk ((tJ (m + 1)).K_below hE hK1s.out)
  have hK0x := Hd.mk ((tJ (m + 1)).K_below hE hK0x.out)
  have hK1x := Hd.mk ((tJ (m + 1)).K_below hE hK1x.out)
  have hK0y := Hd.mk ((tJ (m + 1)).K_below hE hK0y.out)
  have hB := Hd.mk (below_then hB.out hE)
  clear hE
  refine (laws_eqJson x x _ _ _ hK0x.out hK0y.out).mono ?_
  rintro e w10 ⟨rfl, hX⟩
  have hS := Hd.mk (below_then hS.out hX)
  replace b0 := b0.below hX
  replace b1 := b1.below hX
  replace d0 := d0.below hX
  replace d1 := d1.below hX
  have hK0 := Hd.mk ((tJ (m + 1)).K_below hX hK0.out)
  have hK1 := Hd.mk ((tJ (m + 1)).K_below hX hK1.out)
  have hK0s := Hd.mk ((tJ (m + 1)).K_below hX hK0s.out)
  have hK1s := Hd.mk ((tJ (m + 1)).K_below hX hK1s.out)
  have hK0x := Hd.mk ((tJ (m + 1)).K_below hX hK0x.out)
  have hK1x := Hd.mk ((tJ (m + 1)).K_below hX hK1x.out)
  have hK0y := Hd.mk ((tJ (m + 1)).K_below hX hK0y.out)
  have hB := Hd.mk (below_then hB.out hX)
  clear hX
  rw [eqv_self]
  have fb00 : w10.cell? ⟨w.heap.size, 0, none⟩ = some (Value.int IntKind.i64 x.kind) := b0.cell 0 rfl
  have fb01 : w10.cell? ⟨w.heap.size, 1, none⟩ = some (Value.int IntKind.i64 x.n) := b0.cell 1 rfl
  have fb02 : w10.cell? ⟨w.heap.size, 2, none⟩ = some (Value.string x.s) := b0.cell 2 rfl
  have fb03 : w10.cell? ⟨w.heap.size, 3, none⟩ = some (Value.slice A0 x.list.length c0) := b0.cell 3 rfl
  have fb04 : w10.cell? ⟨w.heap.size, 4, none⟩ = some (Value.slice A0B x.names.length c0B) := b0.cell 4 rfl
  have fb10 : w10.cell? ⟨w.heap.size + 1, 0, none⟩ = some (Value.int IntKind.i64 y.kind) := b1.cell 0 rfl
  have fb11 : w10.cell? ⟨w.heap.size + 1, 1, none⟩ = some (Value.int IntKind.i64 y.n) := b1.cell 1 rfl
  have fb12 : w10.cell? ⟨w.heap.size + 1, 2, none⟩ = some (Value.string y.s) := b1.cell 2 rfl
  have fb13 : w10.cell? ⟨w.heap.size + 1, 3, none⟩ = some (Value.slice A1 y.list.length c1) := b1.cell 3 rfl
  have fb14 : w10.cell? ⟨w.heap.size + 1, 4, none⟩ = some (Value.slice A1B y.names.length c1B) := b1.cell 4 rfl
  have fd00 : w10.cell? ⟨w6.heap.size, 0, none⟩ = some (Value.int IntKind.i64 x.kind) := d0.cell 0 rfl
  have fd01 : w10.cell? ⟨w6.heap.size, 1, none⟩ = some (Value.int IntKind.i64 x.n) := d0.cell 1 rfl
  have fd02 : w10.cell? ⟨w6.heap.size, 2, none⟩ = some (Value.string x.s) := d0.cell 2 rfl
  have fd03 : w10.cell? ⟨w6.heap.size, 3, none⟩ = some (Value.slice A0x x.list.length c0x) := d0.cell 3 rfl
  have fd04 : w10.cell? ⟨w6.heap.size, 4, none⟩ = some (Value.slice A0xB x.names.length c0xB) := d0.cell 4 rfl
  have fd10 : w10.cell? ⟨w7.heap.size, 0, none⟩ = some (Value.int IntKind.i64 y.kind) := d1.cell 0 rfl
  have fd11 : w10.cell? ⟨w7.heap.size, 1, none⟩ = some (Value.int IntKind.i64 y.n) := d1.cell 1 rfl
  have fd12 : w10.cell? ⟨w7.heap.size, 2, none⟩ = some (Value.string y.s) := d1.cell 2 rfl
  have fd13 : w10.cell? ⟨w7.heap.size, 3, none⟩ = some (Value.slice A1x y.list.length c1x) := d1.cell 3 rfl
  have fd14 : w10.cell? ⟨w7.heap.size, 4, none⟩ = some (Value.slice A1xB y.names.length c1xB) := d1.cell 4 rfl
  have hb0 := Hd.mk b0; clear b0; have hb1 := Hd.mk b1; clear b1; have hd0 := Hd.mk d0; clear d0; have hd1 := Hd.mk d1; clear d1
  have rfb00 := cell_regrown fb00
  have rfb01 := cell_regrown fb01
  have rfb02 := cell_regrown fb02
  have rfb03 := cell_regrown fb03
  have rfb04 := cell_regrown fb04
  have rfb10 := cell_regrown fb10
  have rfb11 := cell_regrown fb11
  have rfb12 := cell_regrown fb12
  have rfb13 := cell_regrown fb13
  have rfb14 := cell_regrown fb14
  have rfd00 := cell_regrown fd00
  have rfd01 := cell_regrown fd01
  have rfd02 := cell_regrown fd02
  have rfd03 := cell_regrown fd03
  have rfd04 := cell_regrown fd04
  have rfd10 := cell_regrown fd10
  have rfd11 := cell_regrown fd11
  have rfd12 := cell_regrown fd12
  have rfd13 := cell_regrown fd13
  have rfd14 := cell_regrown fd14
  go_wp2_with fail
  refine ⟨cls_below hS.out, ?_⟩
  try (repeat (refine mix_q rfl ?_; go_big_quiet_want; go_big_quiet_op; go_big_quiet_on; refine wpQuiet_nil ?_))
  refine mix_nil ?_
  clear rfb00 rfb01 rfb02 rfb03 rfb04 rfb10 rfb11 rfb12 rfb13 rfb14 rfd00 rfd01 rfd02 rfd03 rfd04 rfd10 rfd11 rfd12 rfd13 rfd14
  clear hS
  go_wp2_with fail
  clear fb00 fb01 fb02 fb03 fb04 fb10 fb11 fb12 fb13 fb14 fd00 fd01 fd02 fd03 fd04 fd10 fd11 fd12 fd13 fd14
  have b0 := hb0.out; clear hb0; have b1 := hb1.out; clear hb1; have d0 := hd0.out; clear hd0; have d1 := hd1.out; clear hd1
  have fb00 : w10.cell? ⟨w.heap.size, 0, none⟩ = some (Value.int IntKind.i64 x.kind) := b0.cell 0 rfl
  have fb01 : w10.cell? ⟨w.heap.size, 1, none⟩ = some (Value.int IntKind.i64 x.n) := b0.cell 1 rfl
  have fb02 : w10.cell? ⟨w.heap.size, 2, none⟩ = some (Value.string x.s) := b0.cell 2 rfl
  have fb03 : w10.cell? ⟨w.heap.size, 3, none⟩ = some (Value.slice A0 x.list.length c0) := b0.cell 3 rfl
  have fb04 : w10.cell? ⟨w.heap.size, 4, none⟩ = some (Value.slice A0B x.names.length c0B) := b0.cell 4 rfl
  have fb10 : w10.cell? ⟨w.heap.size + 1, 0, none⟩ = some (Value.int IntKind.i64 y.kind) := b1.cell 0 rfl
  have fb11 : w10.cell? ⟨w.heap.size + 1, 1, none⟩ = some (Value.int IntKind.i64 y.n) := b1.cell 1 rfl
  have fb12 : w10.cell? ⟨w.heap.size + 1, 2, none⟩ = some (Value.string y.s) := b1.cell 2 rfl
  have fb13 : w10.cell? ⟨w.heap.size + 1, 3, none⟩ = some (Value.slice A1 y.list.length c1) := b1.cell 3 rfl
  have fb14 : w10.cell? ⟨w.heap.size + 1, 4, none⟩ = some (Value.slice A1B y.names.length c1B) := b1.cell 4 rfl
  have fd00 : w10.cell? ⟨w6.heap.size, 0, none⟩ = some (Value.int IntKind.i64 x.kind) := d0.cell 0 rfl
  have fd01 : w10.cell? ⟨w6.heap.size, 1, none⟩ = some (Value.int IntKind.i64 x.n) := d0.cell 1 rfl
  have fd02 : w10.cell? ⟨w6.heap.size, 2, none⟩ = some (Value.string x.s) := d0.cell 2 rfl
  have fd03 : w10.cell? ⟨w6.heap.size, 3, none⟩ = some (Value.slice A0x x.list.length c0x) := d0.cell 3 rfl
  have fd04 : w10.cell? ⟨w6.heap.size, 4, none⟩ = some (Value.slice A0xB x.names.length c0xB) := d0.cell 4 rfl
  have fd10 : w10.cell? ⟨w7.heap.size, 0, none⟩ = some (Value.int IntKind.i64 y.kind) := d1.cell 0 rfl
  have fd11 : w10.cell? ⟨w7.heap.size, 1, none⟩ = some (Value.int IntKind.i64 y.n) := d1.cell 1 rfl
  have fd12 : w10.cell? ⟨w7.heap.size, 2, none⟩ = some (Value.string y.s) := d1.cell 2 rfl
  have fd13 : w10.cell? ⟨w7.heap.size, 3, none⟩ = some (Value.slice A1x y.list.length c1x) := d1.cell 3 rfl
  have fd14 : w10.cell? ⟨w7.heap.size, 4, none⟩ = some (Value.slice A1xB y.names.length c1xB) := d1.cell 4 rfl
  have hb0 := Hd.mk b0; clear b0; have hb1 := Hd.mk b1; clear b1; have hd0 := Hd.mk d0; clear d0; have hd1 := Hd.mk d1; clear d1
  have rfb00 := cell_regrown fb00
  have rfb01 := cell_regrown fb01
  have rfb02 := cell_regrown fb02
  have rfb03 := cell_regrown fb03
  have rfb04 := cell_regrown fb04
  have rfb10 := cell_regrown fb10
  have rfb11 := cell_regrown fb11
  have rfb12 := cell_regrown fb12
  have rfb13 := cell_regrown fb13
  have rfb14 := cell_regrown fb14
  have rfd00 := cell_regrown fd00
  have rfd01 := cell_regrown fd01
  have rfd02 := cell_regrown fd02
  have rfd03 := cell_regrown fd03
  have rfd04 := cell_regrown fd04
  have rfd10 := cell_regrown fd10
  have rfd11 := cell_regrown fd11
  have rfd12 := cell_regrown fd12
  have rfd13 := cell_regrown fd13
  have rfd14 := cell_regrown fd14
  refine region_mix [(true, 0), (true, 1), (false, 2), (false, 3), (true, 4)] (by kernel_rfl) (by kernel_rfl) (fun _ _ _ _ _ h => h) ?_
  try (repeat (refine mix_q rfl ?_; go_big_quiet_want; go_big_quiet_op; go_big_quiet_on; refine wpQuiet_nil ?_))
  refine mix_b rfl ?_ (by rfl)
  go_wp2_with fail
  clear rfb00 rfb01 rfb02 rfb03 rfb04 rfb10 rfb11 rfb12 rfb13 rfb14 rfd00 rfd01 rfd02 rfd03 rfd04 rfd10 rfd11 rfd12 rfd13 rfd14
  clear fb00 fb01 fb02 fb03 fb04 fb10 fb11 fb12 fb13 fb14 fd00 fd01 fd02 fd03 fd04 fd10 fd11 fd12 fd13 fd14
  have b0 := hb0.out; clear hb0; have b1 := hb1.out; clear hb1; have d0 := hd0.out; clear hd0; have d1 := hd1.out; clear hd1
  have hS := Hd.mk (Below.refl w10.heap.size w10)
  apply calls_gen; intro W10 hW
  have hE : Below w10.heap.size w10 W10 := by rw [hW]; (repeat (first | with_reducible refine below_alloc ?_ _ | with_reducible refine below_drew ?_)); exact Below.refl _ _
  clear hW
  have hS := Hd.mk (below_then hS.out hE)
  replace b0 := b0.below hE
  replace b1 := b1.below hE
  replace d0 := d0.below hE
  replace d1 := d1.below hE
  have hK0 := Hd.mk ((tJ (m + 1)).K_below hE hK0.out)
  have hK1 := Hd.mk ((tJ (m + 1)).K_below hE hK1.out)
  have hK0s := Hd.mk ((tJ (m + 1)).K_below hE hK0s.out)
  have hK1s := Hd.mk ((tJ (m + 1)).K_below hE hK1s.out)
  have hK0x := Hd.mk ((tJ (m + 1)).K_below hE hK0x.out)
  have hK1x := Hd.mk ((tJ (m + 1)).K_below hE hK1x.out)
  have hK0y := Hd.mk ((tJ (m + 1)).K_below hE hK0y.out)
  have hB := Hd.mk (below_then hB.out hE)
  clear hE
  refine (laws_toJson y _ _ hK1.out HL1.out.1).mono ?_
  rintro e w11 ⟨cs1y, rfl, hO1y, hX⟩
  have hS := Hd.mk (below_then hS.out hX)
  replace b0 := b0.below hX
  replace b1 := b1.below hX
  replace d0 := d0.below hX
  replace d1 := d1.below hX
  have hK0 := Hd.mk ((tJ (m + 1)).K_below hX hK0.out)
  have hK1 := Hd.mk ((tJ (m + 1)).K_below hX hK1.out)
  have hK0s := Hd.mk ((tJ (m + 1)).K_below hX hK0s.out)
  have hK1s := Hd.mk ((tJ (m + 1)).K_below hX hK1s.out)
  have hK0x := Hd.mk ((tJ (m + 1)).K_below hX hK0x.out)
  have hK1x := Hd.mk ((tJ (m + 1)).K_below hX hK1x.out)
  have hK0y := Hd.mk ((tJ (m + 1)).K_below hX hK0y.out)
  have hB := Hd.mk (below_then hB.out hX)
  replace hO1y := (tJ (m + 1)).O_K hO1y
  clear hX
  obtain ⟨A1y, c1y, A1yB, c1yB, rfl, hs1y, ⟨hc1y, hr1y⟩, hc1yB, hr1yB⟩ := tJ_K.1 hO1y
  have hK1y := Hd.mk hO1y; clear hO1y
  clear hr1y hr1yB
  have fb00 : w11.cell? ⟨w.heap.size, 0, none⟩ = some (Value.int IntKind.i64 x.kind) := b0.cell 0 rfl
  have fb01 : w11.cell? ⟨w.heap.size, 1, none⟩ = some (Value.int IntKind.i64 x.n) := b0.cell 1 rfl
  have fb02 : w11.cell? ⟨w.heap.size, 2, none⟩ = some (Value.string x.s) := b0.cell 2 rfl
  have fb03 : w11.cell? ⟨w.heap.size, 3, none⟩ = some (Value.slice A0 x.list.length c0) := b0.cell 3 rfl
  have fb04 : w11.cell? ⟨w.heap.size, 4, none⟩ = some (Value.slice A0B x.names.length c0B) := b0.cell 4 rfl
  have fb10 : w11.cell? ⟨w.heap.size + 1, 0, none⟩ = some (Value.int IntKind.i64 y.kind) := b1.cell 0 rfl
  have fb11 : w11.cell? ⟨w.heap.size + 1, 1, none⟩ = some (Value.int IntKind.i64 y.n) := b1.cell 1 rfl
  have fb12 : w11.cell? ⟨w.heap.size + 1, 2, none⟩ = some (Value.string y.s) := b1.cell 2 rfl
  have fb13 : w11.cell? ⟨w.heap.size + 1, 3, none⟩ = some (Value.slice A1 y.list.length c1) := b1.cell 3 rfl
  have fb14 : w11.cell? ⟨w.heap.size + 1, 4, none⟩ = some (Value.slice A1B y.names.length c1B) := b1.cell 4 rfl
  have fd00 : w11.cell? ⟨w6.heap.size, 0, none⟩ = some (Value.int IntKind.i64 x.kind) := d0.cell 0 rfl
  have fd01 : w11.cell? ⟨w6.heap.size, 1, none⟩ = some (Value.int IntKind.i64 x.n) := d0.cell 1 rfl
  have fd02 : w11.cell? ⟨w6.heap.size, 2, none⟩ = some (Value.string x.s) := d0.cell 2 rfl
  have fd03 : w11.cell? ⟨w6.heap.size, 3, none⟩ = some (Value.slice A0x x.list.length c0x) := d0.cell 3 rfl
  have fd04 : w11.cell? ⟨w6.heap.size, 4, none⟩ = some (Value.slice A0xB x.names.length c0xB) := d0.cell 4 rfl
  have fd10 : w11.cell? ⟨w7.heap.size, 0, none⟩ = some (Value.int IntKind.i64 y.kind) := d1.cell 0 rfl
  have fd11 : w11.cell? ⟨w7.heap.size, 1, none⟩ = some (Value.int IntKind.i64 y.n) := d1.cell 1 rfl
  have fd12 : w11.cell? ⟨w7.heap.size, 2, none⟩ = some (Value.string y.s) := d1.cell 2 rfl
  have fd13 : w11.cell? ⟨w7.heap.size, 3, none⟩ = some (Value.slice A1x y.list.length c1x) := d1.cell 3 rfl
  have fd14 : w11.cell? ⟨w7.heap.size, 4, none⟩ = some (Value.slice A1xB y.names.length c1xB) := d1.cell 4 rfl
  have hb0 := Hd.mk b0; clear b0; have hb1 := Hd.mk b1; clear b1; have hd0 := Hd.mk d0; clear d0; have hd1 := Hd.mk d1; clear d1
  go_wp2_with fail
  refine ⟨cls_below hS.out, ?_⟩
  refine mix_b rfl ?_ (by rfl)
  go_wp2_with fail
  clear fb00 fb01 fb02 fb03 fb04 fb10 fb11 fb12 fb13 fb14 fd00 fd01 fd02 fd03 fd04 fd10 fd11 fd12 fd13 fd14
  have b0 := hb0.out; clear hb0; have b1 := hb1.out; clear hb1; have d0 := hd0.out; clear hd0; have d1 := hd1.out; clear hd1
  apply calls_gen; intro W11 hW
  have hE : Below w11.heap.size w11 W11 := by rw [hW]; (repeat (first | with_reducible refine below_alloc ?_ _ | with_reducible refine below_drew ?_)); exact Below.refl _ _
  clear hW
  have hS := Hd.mk (below_then hS.out hE)
  replace b0 := b0.below hE
  replace b1 := b1.below hE
  replace d0 := d0.below hE
  replace d1 := d1.below hE
  have hK0 := Hd.mk ((tJ (m + 1)).K_below hE hK0.out)
  have hK1 := Hd.mk ((tJ (m + 1)).K_below hE hK1.out)
  have hK0s := Hd.mk ((tJ (m + 1)).K_below hE hK0s.out)
  have hK1s := Hd.mk ((tJ (m + 1)).K_below hE hK1s.out)
  have hK0x := Hd.mk ((tJ (m + 1)).K_below hE hK0x.out)
  have hK1x := Hd.mk ((tJ (m + 1)).K_below hE hK1x.out)
  have hK0y := Hd.mk ((tJ (m + 1)).K_below hE hK0y.out)
  have hK1y := Hd.mk ((tJ (m + 1)).K_below hE hK1y.out)
  have hB := Hd.mk (below_then hB.out hE)
  clear hE
  refine (laws_eqJson y y _ _ _ hK1x.out hK1y.out).mono ?_
  rintro e w12 ⟨rfl, hX⟩
  have hS := Hd.mk (below_then hS.out hX)
  replace b0 := b0.below hX
  replace b1 := b1.below hX
  replace d0 := d0.below hX
  replace d1 := d1.below hX
  have hK0 := Hd.mk ((tJ (m + 1)).K_below hX hK0.out)
  have hK1 := Hd.mk ((tJ (m + 1)).K_below hX hK1.out)
  have hK0s := Hd.mk ((tJ (m + 1)).K_below hX hK0s.out)
  have hK1s := Hd.mk ((tJ (m + 1)).K_below hX hK1s.out)
  have hK0x := Hd.mk ((tJ (m + 1)).K_below hX hK0x.out)
  have hK1x := Hd.mk ((tJ (m + 1)).K_below hX hK1x.out)
  have hK0y := Hd.mk ((tJ (m + 1)).K_below hX hK0y.out)
  have hK1y := Hd.mk ((tJ (m + 1)).K_below hX hK1y.out)
  have hB := Hd.mk (below_then hB.out hX)
  clear hX
  rw [eqv_self]
  have fb00 : w12.cell? ⟨w.heap.size, 0, none⟩ = some (Value.int IntKind.i64 x.kind) := b0.cell 0 rfl
  have fb01 : w12.cell? ⟨w.heap.size, 1, none⟩ = some (Value.int IntKind.i64 x.n) := b0.cell 1 rfl
  have fb02 : w12.cell? ⟨w.heap.size, 2, none⟩ = some (Value.string x.s) := b0.cell 2 rfl
  have fb03 : w12.cell? ⟨w.heap.size, 3, none⟩ = some (Value.slice A0 x.list.length c0) := b0.cell 3 rfl
  have fb04 : w12.cell? ⟨w.heap.size, 4, none⟩ = some (Value.slice A0B x.names.length c0B) := b0.cell 4 rfl
  have fb10 : w12.cell? ⟨w.heap.size + 1, 0, none⟩ = some (Value.int IntKind.i64 y.kind) := b1.cell 0 rfl
  have fb11 : w12.cell? ⟨w.heap.size + 1, 1, none⟩ = some (Value.int IntKind.i64 y.n) := b1.cell 1 rfl
  have fb12 : w12.cell? ⟨w.heap.size + 1, 2, none⟩ = some (Value.string y.s) := b1.cell 2 rfl
  have fb13 : w12.cell? ⟨w.heap.size + 1, 3, none⟩ = some (Value.slice A1 y.list.length c1) := b1.cell 3 rfl
  have fb14 : w12.cell? ⟨w.heap.size + 1, 4, none⟩ = some (Value.slice A1B y.names.length c1B) := b1.cell 4 rfl
  have fd00 : w12.cell? ⟨w6.heap.size, 0, none⟩ = some (Value.int IntKind.i64 x.kind) := d0.cell 0 rfl
  have fd01 : w12.cell? ⟨w6.heap.size, 1, none⟩ = some (Value.int IntKind.i64 x.n) := d0.cell 1 rfl
  have fd02 : w12.cell? ⟨w6.heap.size, 2, none⟩ = some (Value.string x.s) := d0.cell 2 rfl
  have fd03 : w12.cell? ⟨w6.heap.size, 3, none⟩ = some (Value.slice A0x x.list.length c0x) := d0.cell 3 rfl
  have fd04 : w12.cell? ⟨w6.heap.size, 4, none⟩ = some (Value.slice A0xB x.names.length c0xB) := d0.cell 4 rfl
  have fd10 : w12.cell? ⟨w7.heap.size, 0, none⟩ = some (Value.int IntKind.i64 y.kind) := d1.cell 0 rfl
  have fd11 : w12.cell? ⟨w7.heap.size, 1, none⟩ = some (Value.int IntKind.i64 y.n) := d1.cell 1 rfl
  have fd12 : w12.cell? ⟨w7.heap.size, 2, none⟩ = some (Value.string y.s) := d1.cell 2 rfl
  have fd13 : w12.cell? ⟨w7.heap.size, 3, none⟩ = some (Value.slice A1x y.list.length c1x) := d1.cell 3 rfl
  have fd14 : w12.cell? ⟨w7.heap.size, 4, none⟩ = some (Value.slice A1xB y.names.length c1xB) := d1.cell 4 rfl
  have hb0 := Hd.mk b0; clear b0; have hb1 := Hd.mk b1; clear b1; have hd0 := Hd.mk d0; clear d0; have hd1 := Hd.mk d1; clear d1
  have rfb00 := cell_regrown fb00
  have rfb01 := cell_regrown fb01
  have rfb02 := cell_regrown fb02
  have rfb03 := cell_regrown fb03
  have rfb04 := cell_regrown fb04
  have rfb10 := cell_regrown fb10
  have rfb11 := cell_regrown fb11
  have rfb12 := cell_regrown fb12
  have rfb13 := cell_regrown fb13
  have rfb14 := cell_regrown fb14
  have rfd00 := cell_regrown fd00
  have rfd01 := cell_regrown fd01
  have rfd02 := cell_regrown fd02
  have rfd03 := cell_regrown fd03
  have rfd04 := cell_regrown fd04
  have rfd10 := cell_regrown fd10
  have rfd11 := cell_regrown fd11
  have rfd12 := cell_regrown fd12
  have rfd13 := cell_regrown fd13
  have rfd14 := cell_regrown fd14
  go_wp2_with fail
  refine ⟨cls_below hS.out, ?_⟩
  try (repeat (refine mix_q rfl ?_; go_big_quiet_want; go_big_quiet_op; go_big_quiet_on; refine wpQuiet_nil ?_))
  refine mix_nil ?_
  clear rfb00 rfb01 rfb02 rfb03 rfb04 rfb10 rfb11 rfb12 rfb13 rfb14 rfd00 rfd01 rfd02 rfd03 rfd04 rfd10 rfd11 rfd12 rfd13 rfd14
  clear hS
  go_wp2_with fail
  clear fb00 fb01 fb02 fb03 fb04 fb10 fb11 fb12 fb13 fb14 fd00 fd01 fd02 fd03 fd04 fd10 fd11 fd12 fd13 fd14
  have b0 := hb0.out; clear hb0; have b1 := hb1.out; clear hb1; have d0 := hd0.out; clear hd0; have d1 := hd1.out; clear hd1
  go_ret
  exact ⟨rfl, hB.out⟩
end Go.Proofs.Ytchjcllpnpibeaa.X
