/- What is proved here: the law FnExactDiff answers true. Conditions: none. -/
import Derived.Test.YtnpogfhfjofbmaaXP
import Derived.Test.YtnpogfhfjofbmaaXDi
import Derived.StillTailTactics
import Derived.Deep.RegionWith
namespace Go.Proofs.Ytnpogfhfjofbmaa.X
open Go.RowKit Go.Sort
set_option linter.unusedVariables false
set_option linter.unusedSimpArgs false
open Ty
set_option maxHeartbeats 16000000 in
set_option maxRecDepth 100000 in
theorem laws_FnExactDiff {w : World} (B0 : Nat) (a : J) (cs0 : List Value) (hk0 : (tJ (B0 + 1)).K w a cs0) (B1 : Nat) (b : J) (cs1 : List Value) (hk1 : (tJ (B1 + 1)).K w b cs1) :
    Calls Try.prog 4 #[.agg cs0.toArray, .agg cs1.toArray] w fun e w' => e = .returned (.bool true) ∧ Below w.heap.size w w' := by
  obtain ⟨m, hm⟩ : ∃ m : Nat, B0 ≤ m ∧ B1 ≤ m := ⟨B0 + B1, by omega⟩
  replace hk0 : (tJ (m + 1)).K w a cs0 := (tJ_le (by omega : B0 + 1 ≤ m + 1)).K _ _ _ hk0
  replace hk1 : (tJ (m + 1)).K w b cs1 := (tJ_le (by omega : B1 + 1 ≤ m + 1)).K _ _ _ hk1
  clear hm
  obtain ⟨y, hy⟩ : ∃ z, z = diffT a b := ⟨_, rfl⟩
  have Hy := Hd.mk hy; clear hy
  obtain ⟨A0, c0, A0B, c0B, rfl, hs0, ⟨hc0, hr0⟩, hc0B, hr0B⟩ := tJ_K.1 hk0
  have hK0 := Hd.mk hk0; clear hk0
  clear hr0 hr0B
  obtain ⟨A1, c1, A1B, c1B, rfl, hs1, ⟨hc1, hr1⟩, hc1B, hr1B⟩ := tJ_K.1 hk1
  have hK1 := Hd.mk hk1; clear hk1
  clear hr1 hr1B
  go_enter Try.func4, Try.ntmps4
  go_wp2_with fail
  apply calls_gen; intro W0 hW
  have hE : Below w.heap.size w W0 := by rw [hW]; (repeat (with_reducible refine below_alloc ?_ _)); exact Below.refl _ _
  have b0 := Hd.mk (show Blk W0 (w.heap.size) #[Value.int IntKind.i64 a.kind, Value.int IntKind.i64 a.n, Value.string a.s, Value.slice A0 a.list.length c0, Value.slice A0B a.names.length c0B] 53 by rw [hW]; exact ((Blk.new w _ _).alloc _))
  have b1 := Hd.mk (show Blk W0 (w.heap.size + 1) #[Value.int IntKind.i64 b.kind, Value.int IntKind.i64 b.n, Value.string b.s, Value.slice A1 b.list.length c1, Value.slice A1B b.names.length c1B] 53 by rw [hW]; simpa using (Blk.new (w.alloc _) _ _))
  have hz_ : w.heap.size + 2 ≤ W0.heap.size := by rw [hW]; simp
  clear hW
  have hB := Hd.mk hE; clear hE
  have ab0 := Hd.mk (show w.heap.size ≤ w.heap.size by omega)
  have eb0 := Hd.mk (show w.heap.size + 1 ≤ W0.heap.size by omega)
  have ab1 := Hd.mk (show w.heap.size ≤ w.heap.size + 1 by omega)
  have eb1 := Hd.mk (show w.heap.size + 1 + 1 ≤ W0.heap.size by omega)
  have db0_b1 := Hd.mk (show w.heap.size + 1 ≤ w.heap.size + 1 by omega)
  clear hz_
  refine (laws_szJson a _ _ _ ((tJ (m + 1)).K_below hB.out hK0.out) (by omega) (by omega)).mono ?_
  rintro e w1 ⟨rfl, hX⟩
  replace b0 := Hd.mk (b0.out.below hX)
  replace eb0 := Hd.mk (Nat.le_trans eb0.out hX.size)
  replace b1 := Hd.mk (b1.out.below hX)
  replace eb1 := Hd.mk (Nat.le_trans eb1.out hX.size)
  replace hB := Hd.mk (below_then hB.out hX)
  clear hX
  have fb00 : w1.cell? ⟨w.heap.size, 0, none⟩ = some (Value.int IntKind.i64 a.kind) := b0.out.cell 0 rfl
  have fb01 : w1.cell? ⟨w.heap.size, 1, none⟩ = some (Value.int IntKind.i64 a.n) := b0.out.cell 1 rfl
  have fb02 : w1.cell? ⟨w.heap.size, 2, none⟩ = some (Value.string a.s) := b0.out.cell 2 rfl
  have fb03 : w1.cell? ⟨w.heap.size, 3, none⟩ = some (Value.slice A0 a.list.length c0) := b0.out.cell 3 rfl
  have fb04 : w1.cell? ⟨w.heap.size, 4, none⟩ = some (Value.slice A0B a.names.length c0B) := b0.out.cell 4 rfl
  have fb10 : w1.cell? ⟨w.heap.size + 1, 0, none⟩ = some (Value.int IntKind.i64 b.kind) := b1.out.cell 0 rfl
  have fb11 : w1.cell? ⟨w.heap.size + 1, 1, none⟩ = some (Value.int IntKind.i64 b.n) := b1.out.cell 1 rfl
  have fb12 : w1.cell? ⟨w.heap.size + 1, 2, none⟩ = some (Value.string b.s) := b1.out.cell 2 rfl
  have fb13 : w1.cell? ⟨w.heap.size + 1, 3, none⟩ = some (Value.slice A1 b.list.length c1) := b1.out.cell 3 rfl
  have fb14 : w1.cell? ⟨w.heap.size + 1, 4, none⟩ = some (Value.slice A1B b.names.length c1B) := b1.out.cell 4 rfl
  by_cases hz0 : szR 1048576 (bulkJ (m + 1) a) < 0
  · go_wp2_with fail
    go_ret
    exact ⟨rfl, hB.out⟩
  have HL0 := Hd.mk (szR_le (Int.not_lt.1 hz0) (by omega))
  have hy0 := HL0.out.2.1
  have hx0 := HL0.out.2.2.1
  clear hz0
  go_wp2_with fail
  clear fb00 fb01 fb02 fb03 fb04 fb10 fb11 fb12 fb13 fb14
  apply calls_gen; intro W2 hW
  have hE : Below w1.heap.size w1 W2 := by rw [hW]; (repeat (first | with_reducible refine below_alloc ?_ _ | with_reducible refine below_drew ?_)); exact Below.refl _ _
  clear hW
  replace b0 := Hd.mk (b0.out.below hE)
  replace eb0 := Hd.mk (Nat.le_trans eb0.out hE.size)
  replace b1 := Hd.mk (b1.out.below hE)
  replace eb1 := Hd.mk (Nat.le_trans eb1.out hE.size)
  replace hB := Hd.mk (below_then hB.out hE)
  clear hE
  refine (laws_szJson b _ _ _ ((tJ (m + 1)).K_below hB.out hK1.out) hy0 hx0).mono ?_
  rintro e w3 ⟨rfl, hX⟩
  replace b0 := Hd.mk (b0.out.below hX)
  replace eb0 := Hd.mk (Nat.le_trans eb0.out hX.size)
  replace b1 := Hd.mk (b1.out.below hX)
  replace eb1 := Hd.mk (Nat.le_trans eb1.out hX.size)
  replace hB := Hd.mk (below_then hB.out hX)
  clear hX
  have fb00 : w3.cell? ⟨w.heap.size, 0, none⟩ = some (Value.int IntKind.i64 a.kind) := b0.out.cell 0 rfl
  have fb01 : w3.cell? ⟨w.heap.size, 1, none⟩ = some (Value.int IntKind.i64 a.n) := b0.out.cell 1 rfl
  have fb02 : w3.cell? ⟨w.heap.size, 2, none⟩ = some (Value.string a.s) := b0.out.cell 2 rfl
  have fb03 : w3.cell? ⟨w.heap.size, 3, none⟩ = some (Value.slice A0 a.list.length c0) := b0.out.cell 3 rfl
  have fb04 : w3.cell? ⟨w.heap.size, 4, none⟩ = some (Value.slice A0B a.names.length c0B) := b0.out.cell 4 rfl
  have fb10 : w3.cell? ⟨w.heap.size + 1, 0, none⟩ = some (Value.int IntKind.i64 b.kind) := b1.out.cell 0 rfl
  have fb11 : w3.cell? ⟨w.heap.size + 1, 1, none⟩ = some (Value.int IntKind.i64 b.n) := b1.out.cell 1 rfl
  have fb12 : w3.cell? ⟨w.heap.size + 1, 2, none⟩ = some (Value.string b.s) := b1.out.cell 2 rfl
  have fb13 : w3.cell? ⟨w.heap.size + 1, 3, none⟩ = some (Value.slice A1 b.list.length c1) := b1.out.cell 3 rfl
  have fb14 : w3.cell? ⟨w.heap.size + 1, 4, none⟩ = some (Value.slice A1B b.names.length c1B) := b1.out.cell 4 rfl
  by_cases hz1 : szR (szR 1048576 (bulkJ (m + 1) a)) (bulkJ (m + 1) b) < 0
  · go_wp2_with fail
    go_ret
    exact ⟨rfl, hB.out⟩
  have HL1 := Hd.mk (szR_le (Int.not_lt.1 hz1) hx0)
  have hy1 := HL1.out.2.1
  have hx1 := HL1.out.2.2.1
  clear hz1
  go_wp2_with fail
  clear fb00 fb01 fb02 fb03 fb04 fb10 fb11 fb12 fb13 fb14
  have hx_0 : ((bulkL (cnJ m) a.list : Int) + (a.names.length : Int) : Int) ≤ 8388608 := by have := cnt_Json m a; have := HL0.out.1; omega
  have hx_1 : ((bulkL (cnJ m) b.list : Int) + (b.names.length : Int) : Int) ≤ 8388608 := by have := cnt_Json m b; have := HL1.out.1; omega
  have hx_y : ((bulkL (cnOp (m + 1)) y : Int) : Int) ≤ 1099511627776 := by (rw [Hy.out]; have h1 := cnt_diff (m + 1) a b; omega)
  have fb00 : w3.cell? ⟨w.heap.size, 0, none⟩ = some (Value.int IntKind.i64 a.kind) := b0.out.cell 0 rfl
  have fb01 : w3.cell? ⟨w.heap.size, 1, none⟩ = some (Value.int IntKind.i64 a.n) := b0.out.cell 1 rfl
  have fb02 : w3.cell? ⟨w.heap.size, 2, none⟩ = some (Value.string a.s) := b0.out.cell 2 rfl
  have fb03 : w3.cell? ⟨w.heap.size, 3, none⟩ = some (Value.slice A0 a.list.length c0) := b0.out.cell 3 rfl
  have fb04 : w3.cell? ⟨w.heap.size, 4, none⟩ = some (Value.slice A0B a.names.length c0B) := b0.out.cell 4 rfl
  have fb10 : w3.cell? ⟨w.heap.size + 1, 0, none⟩ = some (Value.int IntKind.i64 b.kind) := b1.out.cell 0 rfl
  have fb11 : w3.cell? ⟨w.heap.size + 1, 1, none⟩ = some (Value.int IntKind.i64 b.n) := b1.out.cell 1 rfl
  have fb12 : w3.cell? ⟨w.heap.size + 1, 2, none⟩ = some (Value.string b.s) := b1.out.cell 2 rfl
  have fb13 : w3.cell? ⟨w.heap.size + 1, 3, none⟩ = some (Value.slice A1 b.list.length c1) := b1.out.cell 3 rfl
  have fb14 : w3.cell? ⟨w.heap.size + 1, 4, none⟩ = some (Value.slice A1B b.names.length c1B) := b1.out.cell 4 rfl
  have rfb00 := cell_regrown fb00
  have rfb01 := cell_regrown fb01
  have rfb02 := cell_regrown fb02
  have rfb03 := cell_regrown fb03
  have rfb04 := cell_regrown fb04
  have rfb10 := cell_regrown fb10
  have rfb11 := cell_regrown fb11
  have rfb12 := cell_regrown fb12
  have rfb13 := cell_regrown fb13
  have rfb14 := cell_regrown fb14
  refine region_mix [(true, 0), (true, 2), (false, 1), (false, 3), (false, 4), (true, 5)] (by kernel_rfl) (by kernel_rfl) (fun _ _ _ _ _ h => h) ?_
  try (repeat (refine mix_q rfl ?_; go_big_quiet_want; go_big_quiet_op; go_big_quiet_on; refine wpQuiet_nil ?_))
  refine mix_b rfl ?_ (by rfl)
  go_wp2_with fail
  clear rfb00 rfb01 rfb02 rfb03 rfb04 rfb10 rfb11 rfb12 rfb13 rfb14
  clear fb00 fb01 fb02 fb03 fb04 fb10 fb11 fb12 fb13 fb14
  have hS := Hd.mk (Below.refl w3.heap.size w3)
  apply calls_gen; intro W4 hW
  have hE : Below w3.heap.size w3 W4 := by rw [hW]; (repeat (first | with_reducible refine below_alloc ?_ _ | with_reducible refine below_drew ?_)); exact Below.refl _ _
  clear hW
  replace b0 := Hd.mk (b0.out.below hE)
  replace eb0 := Hd.mk (Nat.le_trans eb0.out hE.size)
  replace b1 := Hd.mk (b1.out.below hE)
  replace eb1 := Hd.mk (Nat.le_trans eb1.out hE.size)
  replace hB := Hd.mk (below_then hB.out hE)
  replace hS := Hd.mk (below_then hS.out hE)
  clear hE
  refine (laws_toJson a _ _ ((tJ (m + 1)).K_below hB.out hK0.out) HL0.out.1).mono ?_
  rintro e w5 ⟨cs_, rfl, hO, hX⟩
  have db0_s0 := Hd.mk eb0.out
  have db1_s0 := Hd.mk eb1.out
  have as0 := Hd.mk hB.out.size
  replace b0 := Hd.mk (b0.out.below hX)
  replace eb0 := Hd.mk (Nat.le_trans eb0.out hX.size)
  replace b1 := Hd.mk (b1.out.below hX)
  replace eb1 := Hd.mk (Nat.le_trans eb1.out hX.size)
  replace hB := Hd.mk (below_then hB.out hX)
  replace hS := Hd.mk (below_then hS.out hX)
  clear hX
  replace hO := Ty.O_bound _ hO
  obtain ⟨v_, u_, _, _, hcs, _, r1, r2, _⟩ := tJ_O.1 hO
  subst hcs
  obtain ⟨As0, cs0, hv_, hcs0, _⟩ := R_C r1
  subst hv_
  clear r1
  obtain ⟨As0B, cs0B, hv_, hcs0B, _⟩ := R_C r2
  subst hv_
  clear r2
  have s0 := Hd.mk (show (tJ (m + 1)).O w5 (rng W4.heap.size w5.heap.size) a [Value.int IntKind.i64 a.kind, Value.int IntKind.i64 a.n, Value.string a.s, Value.slice As0 a.list.length cs0, Value.slice As0B a.names.length cs0B] from hO); clear hO
  have es0 := Hd.mk (Nat.le_refl w5.heap.size)
  have fb00 : w5.cell? ⟨w.heap.size, 0, none⟩ = some (Value.int IntKind.i64 a.kind) := b0.out.cell 0 rfl
  have fb01 : w5.cell? ⟨w.heap.size, 1, none⟩ = some (Value.int IntKind.i64 a.n) := b0.out.cell 1 rfl
  have fb02 : w5.cell? ⟨w.heap.size, 2, none⟩ = some (Value.string a.s) := b0.out.cell 2 rfl
  have fb03 : w5.cell? ⟨w.heap.size, 3, none⟩ = some (Value.slice A0 a.list.length c0) := b0.out.cell 3 rfl
  have fb04 : w5.cell? ⟨w.heap.size, 4, none⟩ = some (Value.slice A0B a.names.length c0B) := b0.out.cell 4 rfl
  have fb10 : w5.cell? ⟨w.heap.size + 1, 0, none⟩ = some (Value.int IntKind.i64 b.kind) := b1.out.cell 0 rfl
  have fb11 : w5.cell? ⟨w.heap.size + 1, 1, none⟩ = some (Value.int IntKind.i64 b.n) := b1.out.cell 1 rfl
  have fb12 : w5.cell? ⟨w.heap.size + 1, 2, none⟩ = some (Value.string b.s) := b1.out.cell 2 rfl
  have fb13 : w5.cell? ⟨w.heap.size + 1, 3, none⟩ = some (Value.slice A1 b.list.length c1) := b1.out.cell 3 rfl
  have fb14 : w5.cell? ⟨w.heap.size + 1, 4, none⟩ = some (Value.slice A1B b.names.length c1B) := b1.out.cell 4 rfl
  go_wp2_with fail
  refine ⟨cls_below hS.out, ?_⟩
  refine mix_b rfl ?_ (by rfl)
  go_wp2_with fail
  clear fb00 fb01 fb02 fb03 fb04 fb10 fb11 fb12 fb13 fb14
  apply calls_gen; intro W6 hW
  have hE : Below w5.heap.size w5 W6 := by rw [hW]; (repeat (first | with_reducible refine below_alloc ?_ _ | with_reducible refine below_drew ?_)); exact Below.refl _ _
  clear hW
  replace b0 := Hd.mk (b0.out.below hE)
  replace eb0 := Hd.mk (Nat.le_trans eb0.out hE.size)
  replace b1 := Hd.mk (b1.out.below hE)
  replace eb1 := Hd.mk (Nat.le_trans eb1.out hE.size)
  replace s0 := Hd.mk (Ty.O_below s0.out hE)
  replace es0 := Hd.mk (Nat.le_trans es0.out hE.size)
  replace hB := Hd.mk (below_then hB.out hE)
  replace hS := Hd.mk (below_then hS.out hE)
  clear hE
  refine (laws_toJson b _ _ ((tJ (m + 1)).K_below hB.out hK1.out) HL1.out.1).mono ?_
  rintro e w7 ⟨cs_, rfl, hO, hX⟩
  have db0_s1 := Hd.mk eb0.out
  have db1_s1 := Hd.mk eb1.out
  have ds0_s1 := Hd.mk es0.out
  have as1 := Hd.mk hB.out.size
  replace b0 := Hd.mk (b0.out.below hX)
  replace eb0 := Hd.mk (Nat.le_trans eb0.out hX.size)
  replace b1 := Hd.mk (b1.out.below hX)
  replace eb1 := Hd.mk (Nat.le_trans eb1.out hX.size)
  replace s0 := Hd.mk (Ty.O_below s0.out hX)
  replace es0 := Hd.mk (Nat.le_trans es0.out hX.size)
  replace hB := Hd.mk (below_then hB.out hX)
  replace hS := Hd.mk (below_then hS.out hX)
  clear hX
  replace hO := Ty.O_bound _ hO
  obtain ⟨v_, u_, _, _, hcs, _, r1, r2, _⟩ := tJ_O.1 hO
  subst hcs
  obtain ⟨As1, cs1, hv_, hcs1, _⟩ := R_C r1
  subst hv_
  clear r1
  obtain ⟨As1B, cs1B, hv_, hcs1B, _⟩ := R_C r2
  subst hv_
  clear r2
  have s1 := Hd.mk (show (tJ (m + 1)).O w7 (rng W6.heap.size w7.heap.size) b [Value.int IntKind.i64 b.kind, Value.int IntKind.i64 b.n, Value.string b.s, Value.slice As1 b.list.length cs1, Value.slice As1B b.names.length cs1B] from hO); clear hO
  have es1 := Hd.mk (Nat.le_refl w7.heap.size)
  have fb00 : w7.cell? ⟨w.heap.size, 0, none⟩ = some (Value.int IntKind.i64 a.kind) := b0.out.cell 0 rfl
  have fb01 : w7.cell? ⟨w.heap.size, 1, none⟩ = some (Value.int IntKind.i64 a.n) := b0.out.cell 1 rfl
  have fb02 : w7.cell? ⟨w.heap.size, 2, none⟩ = some (Value.string a.s) := b0.out.cell 2 rfl
  have fb03 : w7.cell? ⟨w.heap.size, 3, none⟩ = some (Value.slice A0 a.list.length c0) := b0.out.cell 3 rfl
  have fb04 : w7.cell? ⟨w.heap.size, 4, none⟩ = some (Value.slice A0B a.names.length c0B) := b0.out.cell 4 rfl
  have fb10 : w7.cell? ⟨w.heap.size + 1, 0, none⟩ = some (Value.int IntKind.i64 b.kind) := b1.out.cell 0 rfl
  have fb11 : w7.cell? ⟨w.heap.size + 1, 1, none⟩ = some (Value.int IntKind.i64 b.n) := b1.out.cell 1 rfl
  have fb12 : w7.cell? ⟨w.heap.size + 1, 2, none⟩ = some (Value.string b.s) := b1.out.cell 2 rfl
  have fb13 : w7.cell? ⟨w.heap.size + 1, 3, none⟩ = some (Value.slice A1 b.list.length c1) := b1.out.cell 3 rfl
  have fb14 : w7.cell? ⟨w.heap.size + 1, 4, none⟩ = some (Value.slice A1B b.names.length c1B) := b1.out.cell 4 rfl
  go_wp2_with fail
  refine ⟨cls_below hS.out, ?_⟩
  refine mix_b rfl ?_ (by rfl)
  go_wp2_with fail
  clear fb00 fb01 fb02 fb03 fb04 fb10 fb11 fb12 fb13 fb14
  apply calls_gen; intro W8 hW
  have hE : Below w7.heap.size w7 W8 := by rw [hW]; (repeat (first | with_reducible refine below_alloc ?_ _ | with_reducible refine below_drew ?_)); exact Below.refl _ _
  clear hW
  replace b0 := Hd.mk (b0.out.below hE)
  replace eb0 := Hd.mk (Nat.le_trans eb0.out hE.size)
  replace b1 := Hd.mk (b1.out.below hE)
  replace eb1 := Hd.mk (Nat.le_trans eb1.out hE.size)
  replace s0 := Hd.mk (Ty.O_below s0.out hE)
  replace es0 := Hd.mk (Nat.le_trans es0.out hE.size)
  replace s1 := Hd.mk (Ty.O_below s1.out hE)
  replace es1 := Hd.mk (Nat.le_trans es1.out hE.size)
  replace hB := Hd.mk (below_then hB.out hE)
  replace hS := Hd.mk (below_then hS.out hE)
  clear hE
  refine (spec_Diff a b _ _ _ ((tJ (m + 1)).O_K s0.out) ((tJ (m + 1)).O_K s1.out)).mono ?_
  rintro e w9 ⟨v_, rfl, hO, hX⟩
  have db0_w0 := Hd.mk eb0.out
  have db1_w0 := Hd.mk eb1.out
  have ds0_w0 := Hd.mk es0.out
  have ds1_w0 := Hd.mk es1.out
  have aw0 := Hd.mk hB.out.size
  replace b0 := Hd.mk (b0.out.below hX)
  replace eb0 := Hd.mk (Nat.le_trans eb0.out hX.size)
  replace b1 := Hd.mk (b1.out.below hX)
  replace eb1 := Hd.mk (Nat.le_trans eb1.out hX.size)
  replace s0 := Hd.mk (Ty.O_below s0.out hX)
  replace es0 := Hd.mk (Nat.le_trans es0.out hX.size)
  replace s1 := Hd.mk (Ty.O_below s1.out hX)
  replace es1 := Hd.mk (Nat.le_trans es1.out hX.size)
  replace hB := Hd.mk (below_then hB.out hX)
  replace hS := Hd.mk (below_then hS.out hX)
  clear hX
  rw [← Hy.out] at hO
  replace hO := R_bound hO
  obtain ⟨Aw0, cw0, hvw0, hcw0, _⟩ := R_C hO
  subst hvw0
  have w0 := Hd.mk (show (tOp (m + 1)).R 94 w9 (rng W8.heap.size w9.heap.size) (.slice Aw0 y.length cw0) y from hO); clear hO
  have hmw0 := (R_Cv w0.out).1
  have ew0 := Hd.mk (Nat.le_refl w9.heap.size)
  have fb00 : w9.cell? ⟨w.heap.size, 0, none⟩ = some (Value.int IntKind.i64 a.kind) := b0.out.cell 0 rfl
  have fb01 : w9.cell? ⟨w.heap.size, 1, none⟩ = some (Value.int IntKind.i64 a.n) := b0.out.cell 1 rfl
  have fb02 : w9.cell? ⟨w.heap.size, 2, none⟩ = some (Value.string a.s) := b0.out.cell 2 rfl
  have fb03 : w9.cell? ⟨w.heap.size, 3, none⟩ = some (Value.slice A0 a.list.length c0) := b0.out.cell 3 rfl
  have fb04 : w9.cell? ⟨w.heap.size, 4, none⟩ = some (Value.slice A0B a.names.length c0B) := b0.out.cell 4 rfl
  have fb10 : w9.cell? ⟨w.heap.size + 1, 0, none⟩ = some (Value.int IntKind.i64 b.kind) := b1.out.cell 0 rfl
  have fb11 : w9.cell? ⟨w.heap.size + 1, 1, none⟩ = some (Value.int IntKind.i64 b.n) := b1.out.cell 1 rfl
  have fb12 : w9.cell? ⟨w.heap.size + 1, 2, none⟩ = some (Value.string b.s) := b1.out.cell 2 rfl
  have fb13 : w9.cell? ⟨w.heap.size + 1, 3, none⟩ = some (Value.slice A1 b.list.length c1) := b1.out.cell 3 rfl
  have fb14 : w9.cell? ⟨w.heap.size + 1, 4, none⟩ = some (Value.slice A1B b.names.length c1B) := b1.out.cell 4 rfl
  have rfb00 := cell_regrown fb00
  have rfb01 := cell_regrown fb01
  have rfb02 := cell_regrown fb02
  have rfb03 := cell_regrown fb03
  have rfb04 := cell_regrown fb04
  have rfb10 := cell_regrown fb10
  have rfb11 := cell_regrown fb11
  have rfb12 := cell_regrown fb12
  have rfb13 := cell_regrown fb13
  have rfb14 := cell_regrown fb14
  go_wp2_with fail
  refine ⟨cls_below hS.out, ?_⟩
  try (repeat (refine mix_q rfl ?_; go_big_quiet_want; go_big_quiet_op; go_big_quiet_on; refine wpQuiet_nil ?_))
  refine mix_nil ?_
  clear rfb00 rfb01 rfb02 rfb03 rfb04 rfb10 rfb11 rfb12 rfb13 rfb14
  clear hS
  go_wp2_with fail
  clear fb00 fb01 fb02 fb03 fb04 fb10 fb11 fb12 fb13 fb14
  clear s0 es0
  clear s1 es1
  have fb00 : w9.cell? ⟨w.heap.size, 0, none⟩ = some (Value.int IntKind.i64 a.kind) := b0.out.cell 0 rfl
  have fb01 : w9.cell? ⟨w.heap.size, 1, none⟩ = some (Value.int IntKind.i64 a.n) := b0.out.cell 1 rfl
  have fb02 : w9.cell? ⟨w.heap.size, 2, none⟩ = some (Value.string a.s) := b0.out.cell 2 rfl
  have fb03 : w9.cell? ⟨w.heap.size, 3, none⟩ = some (Value.slice A0 a.list.length c0) := b0.out.cell 3 rfl
  have fb04 : w9.cell? ⟨w.heap.size, 4, none⟩ = some (Value.slice A0B a.names.length c0B) := b0.out.cell 4 rfl
  have fb10 : w9.cell? ⟨w.heap.size + 1, 0, none⟩ = some (Value.int IntKind.i64 b.kind) := b1.out.cell 0 rfl
  have fb11 : w9.cell? ⟨w.heap.size + 1, 1, none⟩ = some (Value.int IntKind.i64 b.n) := b1.out.cell 1 rfl
  have fb12 : w9.cell? ⟨w.heap.size + 1, 2, none⟩ = some (Value.string b.s) := b1.out.cell 2 rfl
  have fb13 : w9.cell? ⟨w.heap.size + 1, 3, none⟩ = some (Value.slice A1 b.list.length c1) := b1.out.cell 3 rfl
  have fb14 : w9.cell? ⟨w.heap.size + 1, 4, none⟩ = some (Value.slice A1B b.names.length c1B) := b1.out.cell 4 rfl
  go_wp2_with fail
  clear fb00 fb01 fb02 fb03 fb04 fb10 fb11 fb12 fb13 fb14
  apply calls_gen; intro W10 hW
  have hE : Below w9.heap.size w9 W10 := by rw [hW]; (repeat (first | with_reducible refine below_alloc ?_ _ | with_reducible refine below_drew ?_)); exact Below.refl _ _
  clear hW
  replace b0 := Hd.mk (b0.out.below hE)
  replace eb0 := Hd.mk (Nat.le_trans eb0.out hE.size)
  replace b1 := Hd.mk (b1.out.below hE)
  replace eb1 := Hd.mk (Nat.le_trans eb1.out hE.size)
  replace w0 := Hd.mk (R_below w0.out hE)
  replace ew0 := Hd.mk (Nat.le_trans ew0.out hE.size)
  replace hB := Hd.mk (below_then hB.out hE)
  clear hE
  refine (laws_toJson a _ _ ((tJ (m + 1)).K_below hB.out hK0.out) HL0.out.1).mono ?_
  rintro e w11 ⟨cs_, rfl, hO, hX⟩
  have db0_x0 := Hd.mk eb0.out
  have db1_x0 := Hd.mk eb1.out
  have dw0_x0 := Hd.mk ew0.out
  have ax0 := Hd.mk hB.out.size
  replace b0 := Hd.mk (b0.out.below hX)
  replace eb0 := Hd.mk (Nat.le_trans eb0.out hX.size)
  replace b1 := Hd.mk (b1.out.below hX)
  replace eb1 := Hd.mk (Nat.le_trans eb1.out hX.size)
  replace w0 := Hd.mk (R_below w0.out hX)
  replace ew0 := Hd.mk (Nat.le_trans ew0.out hX.size)
  replace hB := Hd.mk (below_then hB.out hX)
  clear hX
  replace hO := Ty.O_bound _ hO
  obtain ⟨v_, u_, _, _, hcs, _, r1, r2, _⟩ := tJ_O.1 hO
  subst hcs
  obtain ⟨Ax0, cx0, hv_, hcx0, _⟩ := R_C r1
  subst hv_
  clear r1
  obtain ⟨Ax0B, cx0B, hv_, hcx0B, _⟩ := R_C r2
  subst hv_
  clear r2
  have x0 := Hd.mk (show (tJ (m + 1)).O w11 (rng W10.heap.size w11.heap.size) a [Value.int IntKind.i64 a.kind, Value.int IntKind.i64 a.n, Value.string a.s, Value.slice Ax0 a.list.length cx0, Value.slice Ax0B a.names.length cx0B] from hO); clear hO
  have ex0 := Hd.mk (Nat.le_refl w11.heap.size)
  have fb00 : w11.cell? ⟨w.heap.size, 0, none⟩ = some (Value.int IntKind.i64 a.kind) := b0.out.cell 0 rfl
  have fb01 : w11.cell? ⟨w.heap.size, 1, none⟩ = some (Value.int IntKind.i64 a.n) := b0.out.cell 1 rfl
  have fb02 : w11.cell? ⟨w.heap.size, 2, none⟩ = some (Value.string a.s) := b0.out.cell 2 rfl
  have fb03 : w11.cell? ⟨w.heap.size, 3, none⟩ = some (Value.slice A0 a.list.length c0) := b0.out.cell 3 rfl
  have fb04 : w11.cell? ⟨w.heap.size, 4, none⟩ = some (Value.slice A0B a.names.length c0B) := b0.out.cell 4 rfl
  have fb10 : w11.cell? ⟨w.heap.size + 1, 0, none⟩ = some (Value.int IntKind.i64 b.kind) := b1.out.cell 0 rfl
  have fb11 : w11.cell? ⟨w.heap.size + 1, 1, none⟩ = some (Value.int IntKind.i64 b.n) := b1.out.cell 1 rfl
  have fb12 : w11.cell? ⟨w.heap.size + 1, 2, none⟩ = some (Value.string b.s) := b1.out.cell 2 rfl
  have fb13 : w11.cell? ⟨w.heap.size + 1, 3, none⟩ = some (Value.slice A1 b.list.length c1) := b1.out.cell 3 rfl
  have fb14 : w11.cell? ⟨w.heap.size + 1, 4, none⟩ = some (Value.slice A1B b.names.length c1B) := b1.out.cell 4 rfl
  have lfb00 := fun o => cell_below (below_alloc (Below.refl _ _) o) fb00
  have lfb01 := fun o => cell_below (below_alloc (Below.refl _ _) o) fb01
  have lfb02 := fun o => cell_below (below_alloc (Below.refl _ _) o) fb02
  have lfb03 := fun o => cell_below (below_alloc (Below.refl _ _) o) fb03
  have lfb04 := fun o => cell_below (below_alloc (Below.refl _ _) o) fb04
  have lfb10 := fun o => cell_below (below_alloc (Below.refl _ _) o) fb10
  have lfb11 := fun o => cell_below (below_alloc (Below.refl _ _) o) fb11
  have lfb12 := fun o => cell_below (below_alloc (Below.refl _ _) o) fb12
  have lfb13 := fun o => cell_below (below_alloc (Below.refl _ _) o) fb13
  have lfb14 := fun o => cell_below (below_alloc (Below.refl _ _) o) fb14
  go_wp2_with fail
  clear lfb00 lfb01 lfb02 lfb03 lfb04 lfb10 lfb11 lfb12 lfb13 lfb14
  clear fb00 fb01 fb02 fb03 fb04 fb10 fb11 fb12 fb13 fb14
  apply calls_gen; intro W12 hW
  have hE : Below w11.heap.size w11 W12 := by rw [hW]; (repeat (first | with_reducible refine below_alloc ?_ _ | with_reducible refine below_drew ?_)); exact Below.refl _ _
  have Bx0 := Hd.mk (show Blk W12 w11.heap.size #[Value.int IntKind.i64 a.kind, Value.int IntKind.i64 a.n, Value.string a.s, Value.slice Ax0 a.list.length cx0, Value.slice Ax0B a.names.length cx0B] 59 by rw [hW]; first | exact Blk.new _ _ _ | exact (Blk.new _ _ _).drew)
  have hz_ : w11.heap.size + 1 ≤ W12.heap.size := by rw [hW]; simp
  clear hW
  have db0_Bx0 := Hd.mk eb0.out
  have db1_Bx0 := Hd.mk eb1.out
  have dw0_Bx0 := Hd.mk ew0.out
  have dx0_Bx0 := Hd.mk ex0.out
  have aBx0 := Hd.mk hB.out.size
  replace b0 := Hd.mk (b0.out.below hE)
  replace eb0 := Hd.mk (Nat.le_trans eb0.out hE.size)
  replace b1 := Hd.mk (b1.out.below hE)
  replace eb1 := Hd.mk (Nat.le_trans eb1.out hE.size)
  replace w0 := Hd.mk (R_below w0.out hE)
  replace ew0 := Hd.mk (Nat.le_trans ew0.out hE.size)
  replace x0 := Hd.mk (Ty.O_below x0.out hE)
  replace ex0 := Hd.mk (Nat.le_trans ex0.out hE.size)
  replace hB := Hd.mk (below_then hB.out hE)
  have eBx0 := Hd.mk hz_; clear hz_
  clear hE
  refine (laws_toJson b _ _ ((tJ (m + 1)).K_below hB.out hK1.out) HL1.out.1).mono ?_
  rintro e w13 ⟨cs_, rfl, hO, hX⟩
  have db0_x1 := Hd.mk eb0.out
  have db1_x1 := Hd.mk eb1.out
  have dw0_x1 := Hd.mk ew0.out
  have dx0_x1 := Hd.mk ex0.out
  have dBx0_x1 := Hd.mk eBx0.out
  have ax1 := Hd.mk hB.out.size
  replace b0 := Hd.mk (b0.out.below hX)
  replace eb0 := Hd.mk (Nat.le_trans eb0.out hX.size)
  replace b1 := Hd.mk (b1.out.below hX)
  replace eb1 := Hd.mk (Nat.le_trans eb1.out hX.size)
  replace w0 := Hd.mk (R_below w0.out hX)
  replace ew0 := Hd.mk (Nat.le_trans ew0.out hX.size)
  replace x0 := Hd.mk (Ty.O_below x0.out hX)
  replace ex0 := Hd.mk (Nat.le_trans ex0.out hX.size)
  replace Bx0 := Hd.mk (Bx0.out.below hX)
  replace eBx0 := Hd.mk (Nat.le_trans eBx0.out hX.size)
  replace hB := Hd.mk (below_then hB.out hX)
  clear hX
  replace hO := Ty.O_bound _ hO
  obtain ⟨v_, u_, _, _, hcs, _, r1, r2, _⟩ := tJ_O.1 hO
  subst hcs
  obtain ⟨Ax1, cx1, hv_, hcx1, _⟩ := R_C r1
  subst hv_
  clear r1
  obtain ⟨Ax1B, cx1B, hv_, hcx1B, _⟩ := R_C r2
  subst hv_
  clear r2
  have x1 := Hd.mk (show (tJ (m + 1)).O w13 (rng W12.heap.size w13.heap.size) b [Value.int IntKind.i64 b.kind, Value.int IntKind.i64 b.n, Value.string b.s, Value.slice Ax1 b.list.length cx1, Value.slice Ax1B b.names.length cx1B] from hO); clear hO
  have ex1 := Hd.mk (Nat.le_refl w13.heap.size)
  have fb00 : w13.cell? ⟨w.heap.size, 0, none⟩ = some (Value.int IntKind.i64 a.kind) := b0.out.cell 0 rfl
  have fb01 : w13.cell? ⟨w.heap.size, 1, none⟩ = some (Value.int IntKind.i64 a.n) := b0.out.cell 1 rfl
  have fb02 : w13.cell? ⟨w.heap.size, 2, none⟩ = some (Value.string a.s) := b0.out.cell 2 rfl
  have fb03 : w13.cell? ⟨w.heap.size, 3, none⟩ = some (Value.slice A0 a.list.length c0) := b0.out.cell 3 rfl
  have fb04 : w13.cell? ⟨w.heap.size, 4, none⟩ = some (Value.slice A0B a.names.length c0B) := b0.out.cell 4 rfl
  have fb10 : w13.cell? ⟨w.heap.size + 1, 0, none⟩ = some (Value.int IntKind.i64 b.kind) := b1.out.cell 0 rfl
  have fb11 : w13.cell? ⟨w.heap.size + 1, 1, none⟩ = some (Value.int IntKind.i64 b.n) := b1.out.cell 1 rfl
  have fb12 : w13.cell? ⟨w.heap.size + 1, 2, none⟩ = some (Value.string b.s) := b1.out.cell 2 rfl
  have fb13 : w13.cell? ⟨w.heap.size + 1, 3, none⟩ = some (Value.slice A1 b.list.length c1) := b1.out.cell 3 rfl
  have fb14 : w13.cell? ⟨w.heap.size + 1, 4, none⟩ = some (Value.slice A1B b.names.length c1B) := b1.out.cell 4 rfl
  have fBx00 : w13.cell? ⟨w11.heap.size, 0, none⟩ = some (Value.int IntKind.i64 a.kind) := Bx0.out.cell 0 rfl
  have fBx01 : w13.cell? ⟨w11.heap.size, 1, none⟩ = some (Value.int IntKind.i64 a.n) := Bx0.out.cell 1 rfl
  have fBx02 : w13.cell? ⟨w11.heap.size, 2, none⟩ = some (Value.string a.s) := Bx0.out.cell 2 rfl
  have fBx03 : w13.cell? ⟨w11.heap.size, 3, none⟩ = some (Value.slice Ax0 a.list.length cx0) := Bx0.out.cell 3 rfl
  have fBx04 : w13.cell? ⟨w11.heap.size, 4, none⟩ = some (Value.slice Ax0B a.names.length cx0B) := Bx0.out.cell 4 rfl
  have lfb00 := fun o => cell_below (below_alloc (Below.refl _ _) o) fb00
  have lfb01 := fun o => cell_below (below_alloc (Below.refl _ _) o) fb01
  have lfb02 := fun o => cell_below (below_alloc (Below.refl _ _) o) fb02
  have lfb03 := fun o => cell_below (below_alloc (Below.refl _ _) o) fb03
  have lfb04 := fun o => cell_below (below_alloc (Below.refl _ _) o) fb04
  have lfb10 := fun o => cell_below (below_alloc (Below.refl _ _) o) fb10
  have lfb11 := fun o => cell_below (below_alloc (Below.refl _ _) o) fb11
  have lfb12 := fun o => cell_below (below_alloc (Below.refl _ _) o) fb12
  have lfb13 := fun o => cell_below (below_alloc (Below.refl _ _) o) fb13
  have lfb14 := fun o => cell_below (below_alloc (Below.refl _ _) o) fb14
  have lfBx00 := fun o => cell_below (below_alloc (Below.refl _ _) o) fBx00
  have lfBx01 := fun o => cell_below (below_alloc (Below.refl _ _) o) fBx01
  have lfBx02 := fun o => cell_below (below_alloc (Below.refl _ _) o) fBx02
  have lfBx03 := fun o => cell_below (below_alloc (Below.refl _ _) o) fBx03
  have lfBx04 := fun o => cell_below (below_alloc (Below.refl _ _) o) fBx04
  go_wp2_with fail
  clear lfb00 lfb01 lfb02 lfb03 lfb04 lfb10 lfb11 lfb12 lfb13 lfb14 lfBx00 lfBx01 lfBx02 lfBx03 lfBx04
  clear fb00 fb01 fb02 fb03 fb04 fb10 fb11 fb12 fb13 fb14 fBx00 fBx01 fBx02 fBx03 fBx04
  apply calls_gen; intro W14 hW
  have hE : Below w13.heap.size w13 W14 := by rw [hW]; (repeat (first | with_reducible refine below_alloc ?_ _ | with_reducible refine below_drew ?_)); exact Below.refl _ _
  have Bx1 := Hd.mk (show Blk W14 w13.heap.size #[Value.int IntKind.i64 b.kind, Value.int IntKind.i64 b.n, Value.string b.s, Value.slice Ax1 b.list.length cx1, Value.slice Ax1B b.names.length cx1B] 59 by rw [hW]; first | exact Blk.new _ _ _ | exact (Blk.new _ _ _).drew)
  have hz_ : w13.heap.size + 1 ≤ W14.heap.size := by rw [hW]; simp
  clear hW
  have db0_Bx1 := Hd.mk eb0.out
  have db1_Bx1 := Hd.mk eb1.out
  have dw0_Bx1 := Hd.mk ew0.out
  have dx0_Bx1 := Hd.mk ex0.out
  have dBx0_Bx1 := Hd.mk eBx0.out
  have dx1_Bx1 := Hd.mk ex1.out
  have aBx1 := Hd.mk hB.out.size
  replace b0 := Hd.mk (b0.out.below hE)
  replace eb0 := Hd.mk (Nat.le_trans eb0.out hE.size)
  replace b1 := Hd.mk (b1.out.below hE)
  replace eb1 := Hd.mk (Nat.le_trans eb1.out hE.size)
  replace w0 := Hd.mk (R_below w0.out hE)
  replace ew0 := Hd.mk (Nat.le_trans ew0.out hE.size)
  replace x0 := Hd.mk (Ty.O_below x0.out hE)
  replace ex0 := Hd.mk (Nat.le_trans ex0.out hE.size)
  replace Bx0 := Hd.mk (Bx0.out.below hE)
  replace eBx0 := Hd.mk (Nat.le_trans eBx0.out hE.size)
  replace x1 := Hd.mk (Ty.O_below x1.out hE)
  replace ex1 := Hd.mk (Nat.le_trans ex1.out hE.size)
  replace hB := Hd.mk (below_then hB.out hE)
  have eBx1 := Hd.mk hz_; clear hz_
  clear hE
  refine (impl_Diff a b _ _ _ ((tJ (m + 1)).O_K x0.out) ((tJ (m + 1)).O_K x1.out)).mono ?_
  rintro e w15 ⟨v_, rfl, hO, hX⟩
  have db0_g0 := Hd.mk eb0.out
  have db1_g0 := Hd.mk eb1.out
  have dw0_g0 := Hd.mk ew0.out
  have dx0_g0 := Hd.mk ex0.out
  have dBx0_g0 := Hd.mk eBx0.out
  have dx1_g0 := Hd.mk ex1.out
  have dBx1_g0 := Hd.mk eBx1.out
  have ag0 := Hd.mk hB.out.size
  replace b0 := Hd.mk (b0.out.below hX)
  replace eb0 := Hd.mk (Nat.le_trans eb0.out hX.size)
  replace b1 := Hd.mk (b1.out.below hX)
  replace eb1 := Hd.mk (Nat.le_trans eb1.out hX.size)
  replace w0 := Hd.mk (R_below w0.out hX)
  replace ew0 := Hd.mk (Nat.le_trans ew0.out hX.size)
  replace x0 := Hd.mk (Ty.O_below x0.out hX)
  replace ex0 := Hd.mk (Nat.le_trans ex0.out hX.size)
  replace Bx0 := Hd.mk (Bx0.out.below hX)
  replace eBx0 := Hd.mk (Nat.le_trans eBx0.out hX.size)
  replace x1 := Hd.mk (Ty.O_below x1.out hX)
  replace ex1 := Hd.mk (Nat.le_trans ex1.out hX.size)
  replace Bx1 := Hd.mk (Bx1.out.below hX)
  replace eBx1 := Hd.mk (Nat.le_trans eBx1.out hX.size)
  replace hB := Hd.mk (below_then hB.out hX)
  clear hX
  rw [← Hy.out] at hO
  replace hO := R_bound hO
  obtain ⟨Ag0, cg0, hvg0, hcg0, _⟩ := R_C hO
  subst hvg0
  have g0 := Hd.mk (show (tOp (m + 1)).R 94 w15 (rng W14.heap.size w15.heap.size) (.slice Ag0 y.length cg0) y from hO); clear hO
  have hmg0 := (R_Cv g0.out).1
  have eg0 := Hd.mk (Nat.le_refl w15.heap.size)
  have fb00 : w15.cell? ⟨w.heap.size, 0, none⟩ = some (Value.int IntKind.i64 a.kind) := b0.out.cell 0 rfl
  have fb01 : w15.cell? ⟨w.heap.size, 1, none⟩ = some (Value.int IntKind.i64 a.n) := b0.out.cell 1 rfl
  have fb02 : w15.cell? ⟨w.heap.size, 2, none⟩ = some (Value.string a.s) := b0.out.cell 2 rfl
  have fb03 : w15.cell? ⟨w.heap.size, 3, none⟩ = some (Value.slice A0 a.list.length c0) := b0.out.cell 3 rfl
  have fb04 : w15.cell? ⟨w.heap.size, 4, none⟩ = some (Value.slice A0B a.names.length c0B) := b0.out.cell 4 rfl
  have fb10 : w15.cell? ⟨w.heap.size + 1, 0, none⟩ = some (Value.int IntKind.i64 b.kind) := b1.out.cell 0 rfl
  have fb11 : w15.cell? ⟨w.heap.size + 1, 1, none⟩ = some (Value.int IntKind.i64 b.n) := b1.out.cell 1 rfl
  have fb12 : w15.cell? ⟨w.heap.size + 1, 2, none⟩ = some (Value.string b.s) := b1.out.cell 2 rfl
  have fb13 : w15.cell? ⟨w.heap.size + 1, 3, none⟩ = some (Value.slice A1 b.list.length c1) := b1.out.cell 3 rfl
  have fb14 : w15.cell? ⟨w.heap.size + 1, 4, none⟩ = some (Value.slice A1B b.names.length c1B) := b1.out.cell 4 rfl
  have fBx00 : w15.cell? ⟨w11.heap.size, 0, none⟩ = some (Value.int IntKind.i64 a.kind) := Bx0.out.cell 0 rfl
  have fBx01 : w15.cell? ⟨w11.heap.size, 1, none⟩ = some (Value.int IntKind.i64 a.n) := Bx0.out.cell 1 rfl
  have fBx02 : w15.cell? ⟨w11.heap.size, 2, none⟩ = some (Value.string a.s) := Bx0.out.cell 2 rfl
  have fBx03 : w15.cell? ⟨w11.heap.size, 3, none⟩ = some (Value.slice Ax0 a.list.length cx0) := Bx0.out.cell 3 rfl
  have fBx04 : w15.cell? ⟨w11.heap.size, 4, none⟩ = some (Value.slice Ax0B a.names.length cx0B) := Bx0.out.cell 4 rfl
  have fBx10 : w15.cell? ⟨w13.heap.size, 0, none⟩ = some (Value.int IntKind.i64 b.kind) := Bx1.out.cell 0 rfl
  have fBx11 : w15.cell? ⟨w13.heap.size, 1, none⟩ = some (Value.int IntKind.i64 b.n) := Bx1.out.cell 1 rfl
  have fBx12 : w15.cell? ⟨w13.heap.size, 2, none⟩ = some (Value.string b.s) := Bx1.out.cell 2 rfl
  have fBx13 : w15.cell? ⟨w13.heap.size, 3, none⟩ = some (Value.slice Ax1 b.list.length cx1) := Bx1.out.cell 3 rfl
  have fBx14 : w15.cell? ⟨w13.heap.size, 4, none⟩ = some (Value.slice Ax1B b.names.length cx1B) := Bx1.out.cell 4 rfl
  go_wp2_with fail
  clear fb00 fb01 fb02 fb03 fb04 fb10 fb11 fb12 fb13 fb14 fBx00 fBx01 fBx02 fBx03 fBx04 fBx10 fBx11 fBx12 fBx13 fBx14
  apply calls_gen; intro W16 hW
  have hE : Below w15.heap.size w15 W16 := by rw [hW]; (repeat (first | with_reducible refine below_alloc ?_ _ | with_reducible refine below_drew ?_)); exact Below.refl _ _
  clear hW
  replace b0 := Hd.mk (b0.out.below hE)
  replace eb0 := Hd.mk (Nat.le_trans eb0.out hE.size)
  replace b1 := Hd.mk (b1.out.below hE)
  replace eb1 := Hd.mk (Nat.le_trans eb1.out hE.size)
  replace w0 := Hd.mk (R_below w0.out hE)
  replace ew0 := Hd.mk (Nat.le_trans ew0.out hE.size)
  replace x0 := Hd.mk (Ty.O_below x0.out hE)
  replace ex0 := Hd.mk (Nat.le_trans ex0.out hE.size)
  replace Bx0 := Hd.mk (Bx0.out.below hE)
  replace eBx0 := Hd.mk (Nat.le_trans eBx0.out hE.size)
  replace x1 := Hd.mk (Ty.O_below x1.out hE)
  replace ex1 := Hd.mk (Nat.le_trans ex1.out hE.size)
  replace Bx1 := Hd.mk (Bx1.out.below hE)
  replace eBx1 := Hd.mk (Nat.le_trans eBx1.out hE.size)
  replace g0 := Hd.mk (R_below g0.out hE)
  replace eg0 := Hd.mk (Nat.le_trans eg0.out hE.size)
  replace hB := Hd.mk (below_then hB.out hE)
  clear hE
  refine (laws_eqOpS _ _ _ _ y y _ (R_Cv g0.out) (R_Cv w0.out)).mono ?_
  rintro e w17 ⟨rfl, hX⟩
  replace b0 := Hd.mk (b0.out.below hX)
  replace eb0 := Hd.mk (Nat.le_trans eb0.out hX.size)
  replace b1 := Hd.mk (b1.out.below hX)
  replace eb1 := Hd.mk (Nat.le_trans eb1.out hX.size)
  replace w0 := Hd.mk (R_below w0.out hX)
  replace ew0 := Hd.mk (Nat.le_trans ew0.out hX.size)
  replace x0 := Hd.mk (Ty.O_below x0.out hX)
  replace ex0 := Hd.mk (Nat.le_trans ex0.out hX.size)
  replace Bx0 := Hd.mk (Bx0.out.below hX)
  replace eBx0 := Hd.mk (Nat.le_trans eBx0.out hX.size)
  replace x1 := Hd.mk (Ty.O_below x1.out hX)
  replace ex1 := Hd.mk (Nat.le_trans ex1.out hX.size)
  replace Bx1 := Hd.mk (Bx1.out.below hX)
  replace eBx1 := Hd.mk (Nat.le_trans eBx1.out hX.size)
  replace g0 := Hd.mk (R_below g0.out hX)
  replace eg0 := Hd.mk (Nat.le_trans eg0.out hX.size)
  replace hB := Hd.mk (below_then hB.out hX)
  clear hX
  rw [eqv_self]
  have fb00 : w17.cell? ⟨w.heap.size, 0, none⟩ = some (Value.int IntKind.i64 a.kind) := b0.out.cell 0 rfl
  have fb01 : w17.cell? ⟨w.heap.size, 1, none⟩ = some (Value.int IntKind.i64 a.n) := b0.out.cell 1 rfl
  have fb02 : w17.cell? ⟨w.heap.size, 2, none⟩ = some (Value.string a.s) := b0.out.cell 2 rfl
  have fb03 : w17.cell? ⟨w.heap.size, 3, none⟩ = some (Value.slice A0 a.list.length c0) := b0.out.cell 3 rfl
  have fb04 : w17.cell? ⟨w.heap.size, 4, none⟩ = some (Value.slice A0B a.names.length c0B) := b0.out.cell 4 rfl
  have fb10 : w17.cell? ⟨w.heap.size + 1, 0, none⟩ = some (Value.int IntKind.i64 b.kind) := b1.out.cell 0 rfl
  have fb11 : w17.cell? ⟨w.heap.size + 1, 1, none⟩ = some (Value.int IntKind.i64 b.n) := b1.out.cell 1 rfl
  have fb12 : w17.cell? ⟨w.heap.size + 1, 2, none⟩ = some (Value.string b.s) := b1.out.cell 2 rfl
  have fb13 : w17.cell? ⟨w.heap.size + 1, 3, none⟩ = some (Value.slice A1 b.list.length c1) := b1.out.cell 3 rfl
  have fb14 : w17.cell? ⟨w.heap.size + 1, 4, none⟩ = some (Value.slice A1B b.names.length c1B) := b1.out.cell 4 rfl
  have fBx00 : w17.cell? ⟨w11.heap.size, 0, none⟩ = some (Value.int IntKind.i64 a.kind) := Bx0.out.cell 0 rfl
  have fBx01 : w17.cell? ⟨w11.heap.size, 1, none⟩ = some (Value.int IntKind.i64 a.n) := Bx0.out.cell 1 rfl
  have fBx02 : w17.cell? ⟨w11.heap.size, 2, none⟩ = some (Value.string a.s) := Bx0.out.cell 2 rfl
  have fBx03 : w17.cell? ⟨w11.heap.size, 3, none⟩ = some (Value.slice Ax0 a.list.length cx0) := Bx0.out.cell 3 rfl
  have fBx04 : w17.cell? ⟨w11.heap.size, 4, none⟩ = some (Value.slice Ax0B a.names.length cx0B) := Bx0.out.cell 4 rfl
  have fBx10 : w17.cell? ⟨w13.heap.size, 0, none⟩ = some (Value.int IntKind.i64 b.kind) := Bx1.out.cell 0 rfl
  have fBx11 : w17.cell? ⟨w13.heap.size, 1, none⟩ = some (Value.int IntKind.i64 b.n) := Bx1.out.cell 1 rfl
  have fBx12 : w17.cell? ⟨w13.heap.size, 2, none⟩ = some (Value.string b.s) := Bx1.out.cell 2 rfl
  have fBx13 : w17.cell? ⟨w13.heap.size, 3, none⟩ = some (Value.slice Ax1 b.list.length cx1) := Bx1.out.cell 3 rfl
  have fBx14 : w17.cell? ⟨w13.heap.size, 4, none⟩ = some (Value.slice Ax1B b.names.length cx1B) := Bx1.out.cell 4 rfl
  go_wp2_with fail
  clear fb00 fb01 fb02 fb03 fb04 fb10 fb11 fb12 fb13 fb14 fBx00 fBx01 fBx02 fBx03 fBx04 fBx10 fBx11 fBx12 fBx13 fBx14
  have fb00 : w17.cell? ⟨w.heap.size, 0, none⟩ = some (Value.int IntKind.i64 a.kind) := b0.out.cell 0 rfl
  have fb01 : w17.cell? ⟨w.heap.size, 1, none⟩ = some (Value.int IntKind.i64 a.n) := b0.out.cell 1 rfl
  have fb02 : w17.cell? ⟨w.heap.size, 2, none⟩ = some (Value.string a.s) := b0.out.cell 2 rfl
  have fb03 : w17.cell? ⟨w.heap.size, 3, none⟩ = some (Value.slice A0 a.list.length c0) := b0.out.cell 3 rfl
  have fb04 : w17.cell? ⟨w.heap.size, 4, none⟩ = some (Value.slice A0B a.names.length c0B) := b0.out.cell 4 rfl
  have fb10 : w17.cell? ⟨w.heap.size + 1, 0, none⟩ = some (Value.int IntKind.i64 b.kind) := b1.out.cell 0 rfl
  have fb11 : w17.cell? ⟨w.heap.size + 1, 1, none⟩ = some (Value.int IntKind.i64 b.n) := b1.out.cell 1 rfl
  have fb12 : w17.cell? ⟨w.heap.size + 1, 2, none⟩ = some (Value.string b.s) := b1.out.cell 2 rfl
  have fb13 : w17.cell? ⟨w.heap.size + 1, 3, none⟩ = some (Value.slice A1 b.list.length c1) := b1.out.cell 3 rfl
  have fb14 : w17.cell? ⟨w.heap.size + 1, 4, none⟩ = some (Value.slice A1B b.names.length c1B) := b1.out.cell 4 rfl
  have fBx00 : w17.cell? ⟨w11.heap.size, 0, none⟩ = some (Value.int IntKind.i64 a.kind) := Bx0.out.cell 0 rfl
  have fBx01 : w17.cell? ⟨w11.heap.size, 1, none⟩ = some (Value.int IntKind.i64 a.n) := Bx0.out.cell 1 rfl
  have fBx02 : w17.cell? ⟨w11.heap.size, 2, none⟩ = some (Value.string a.s) := Bx0.out.cell 2 rfl
  have fBx03 : w17.cell? ⟨w11.heap.size, 3, none⟩ = some (Value.slice Ax0 a.list.length cx0) := Bx0.out.cell 3 rfl
  have fBx04 : w17.cell? ⟨w11.heap.size, 4, none⟩ = some (Value.slice Ax0B a.names.length cx0B) := Bx0.out.cell 4 rfl
  have fBx10 : w17.cell? ⟨w13.heap.size, 0, none⟩ = some (Value.int IntKind.i64 b.kind) := Bx1.out.cell 0 rfl
  have fBx11 : w17.cell? ⟨w13.heap.size, 1, none⟩ = some (Value.int IntKind.i64 b.n) := Bx1.out.cell 1 rfl
  have fBx12 : w17.cell? ⟨w13.heap.size, 2, none⟩ = some (Value.string b.s) := Bx1.out.cell 2 rfl
  have fBx13 : w17.cell? ⟨w13.heap.size, 3, none⟩ = some (Value.slice Ax1 b.list.length cx1) := Bx1.out.cell 3 rfl
  have fBx14 : w17.cell? ⟨w13.heap.size, 4, none⟩ = some (Value.slice Ax1B b.names.length cx1B) := Bx1.out.cell 4 rfl
  have rfb00 := cell_regrown fb00
  have rfb01 := cell_regrown fb01
  have rfb02 := cell_regrown fb02
  have rfb03 := cell_regrown fb03
  have rfb04 := cell_regrown fb04
  have rfb10 := cell_regrown fb10
  have rfb11 := cell_regrown fb11
  have rfb12 := cell_regrown fb12
  have rfb13 := cell_regrown fb13
  have rfb14 := cell_regrown fb14
  have rfBx00 := cell_regrown fBx00
  have rfBx01 := cell_regrown fBx01
  have rfBx02 := cell_regrown fBx02
  have rfBx03 := cell_regrown fBx03
  have rfBx04 := cell_regrown fBx04
  have rfBx10 := cell_regrown fBx10
  have rfBx11 := cell_regrown fBx11
  have rfBx12 := cell_regrown fBx12
  have rfBx13 := cell_regrown fBx13
  have rfBx14 := cell_regrown fBx14
  refine region_mix [(true, 0), (true, 1), (false, 2), (false, 3), (true, 4)] (by kernel_rfl) (by kernel_rfl) (fun _ _ _ _ _ h => h) ?_
  try (repeat (refine mix_q rfl ?_; go_big_quiet_want; go_big_quiet_op; go_big_quiet_on; refine wpQuiet_nil ?_))
  refine mix_b rfl ?_ (by rfl)
  go_wp2_with fail
  clear rfb00 rfb01 rfb02 rfb03 rfb04 rfb10 rfb11 rfb12 rfb13 rfb14 rfBx00 rfBx01 rfBx02 rfBx03 rfBx04 rfBx10 rfBx11 rfBx12 rfBx13 rfBx14
  clear fb00 fb01 fb02 fb03 fb04 fb10 fb11 fb12 fb13 fb14 fBx00 fBx01 fBx02 fBx03 fBx04 fBx10 fBx11 fBx12 fBx13 fBx14
  have hS := Hd.mk (Below.refl w17.heap.size w17)
  apply calls_gen; intro W18 hW
  have hE : Below w17.heap.size w17 W18 := by rw [hW]; (repeat (first | with_reducible refine below_alloc ?_ _ | with_reducible refine below_drew ?_)); exact Below.refl _ _
  clear hW
  replace b0 := Hd.mk (b0.out.below hE)
  replace eb0 := Hd.mk (Nat.le_trans eb0.out hE.size)
  replace b1 := Hd.mk (b1.out.below hE)
  replace eb1 := Hd.mk (Nat.le_trans eb1.out hE.size)
  replace w0 := Hd.mk (R_below w0.out hE)
  replace ew0 := Hd.mk (Nat.le_trans ew0.out hE.size)
  replace x0 := Hd.mk (Ty.O_below x0.out hE)
  replace ex0 := Hd.mk (Nat.le_trans ex0.out hE.size)
  replace Bx0 := Hd.mk (Bx0.out.below hE)
  replace eBx0 := Hd.mk (Nat.le_trans eBx0.out hE.size)
  replace x1 := Hd.mk (Ty.O_below x1.out hE)
  replace ex1 := Hd.mk (Nat.le_trans ex1.out hE.size)
  replace Bx1 := Hd.mk (Bx1.out.below hE)
  replace eBx1 := Hd.mk (Nat.le_trans eBx1.out hE.size)
  replace g0 := Hd.mk (R_below g0.out hE)
  replace eg0 := Hd.mk (Nat.le_trans eg0.out hE.size)
  replace hB := Hd.mk (below_then hB.out hE)
  replace hS := Hd.mk (below_then hS.out hE)
  clear hE
  refine (laws_toJson a _ _ ((tJ (m + 1)).K_below hB.out hK0.out) HL0.out.1).mono ?_
  rintro e w19 ⟨cs_, rfl, hO, hX⟩
  have db0_t0 := Hd.mk eb0.out
  have db1_t0 := Hd.mk eb1.out
  have dw0_t0 := Hd.mk ew0.out
  have dx0_t0 := Hd.mk ex0.out
  have dBx0_t0 := Hd.mk eBx0.out
  have dx1_t0 := Hd.mk ex1.out
  have dBx1_t0 := Hd.mk eBx1.out
  have dg0_t0 := Hd.mk eg0.out
  have at0 := Hd.mk hB.out.size
  replace b0 := Hd.mk (b0.out.below hX)
  replace eb0 := Hd.mk (Nat.le_trans eb0.out hX.size)
  replace b1 := Hd.mk (b1.out.below hX)
  replace eb1 := Hd.mk (Nat.le_trans eb1.out hX.size)
  replace w0 := Hd.mk (R_below w0.out hX)
  replace ew0 := Hd.mk (Nat.le_trans ew0.out hX.size)
  replace x0 := Hd.mk (Ty.O_below x0.out hX)
  replace ex0 := Hd.mk (Nat.le_trans ex0.out hX.size)
  replace Bx0 := Hd.mk (Bx0.out.below hX)
  replace eBx0 := Hd.mk (Nat.le_trans eBx0.out hX.size)
  replace x1 := Hd.mk (Ty.O_below x1.out hX)
  replace ex1 := Hd.mk (Nat.le_trans ex1.out hX.size)
  replace Bx1 := Hd.mk (Bx1.out.below hX)
  replace eBx1 := Hd.mk (Nat.le_trans eBx1.out hX.size)
  replace g0 := Hd.mk (R_below g0.out hX)
  replace eg0 := Hd.mk (Nat.le_trans eg0.out hX.size)
  replace hB := Hd.mk (below_then hB.out hX)
  replace hS := Hd.mk (below_then hS.out hX)
  clear hX
  replace hO := Ty.O_bound _ hO
  obtain ⟨v_, u_, _, _, hcs, _, r1, r2, _⟩ := tJ_O.1 hO
  subst hcs
  obtain ⟨At0, ct0, hv_, hct0, _⟩ := R_C r1
  subst hv_
  clear r1
  obtain ⟨At0B, ct0B, hv_, hct0B, _⟩ := R_C r2
  subst hv_
  clear r2
  have t0 := Hd.mk (show (tJ (m + 1)).O w19 (rng W18.heap.size w19.heap.size) a [Value.int IntKind.i64 a.kind, Value.int IntKind.i64 a.n, Value.string a.s, Value.slice At0 a.list.length ct0, Value.slice At0B a.names.length ct0B] from hO); clear hO
  have et0 := Hd.mk (Nat.le_refl w19.heap.size)
  have fb00 : w19.cell? ⟨w.heap.size, 0, none⟩ = some (Value.int IntKind.i64 a.kind) := b0.out.cell 0 rfl
  have fb01 : w19.cell? ⟨w.heap.size, 1, none⟩ = some (Value.int IntKind.i64 a.n) := b0.out.cell 1 rfl
  have fb02 : w19.cell? ⟨w.heap.size, 2, none⟩ = some (Value.string a.s) := b0.out.cell 2 rfl
  have fb03 : w19.cell? ⟨w.heap.size, 3, none⟩ = some (Value.slice A0 a.list.length c0) := b0.out.cell 3 rfl
  have fb04 : w19.cell? ⟨w.heap.size, 4, none⟩ = some (Value.slice A0B a.names.length c0B) := b0.out.cell 4 rfl
  have fb10 : w19.cell? ⟨w.heap.size + 1, 0, none⟩ = some (Value.int IntKind.i64 b.kind) := b1.out.cell 0 rfl
  have fb11 : w19.cell? ⟨w.heap.size + 1, 1, none⟩ = some (Value.int IntKind.i64 b.n) := b1.out.cell 1 rfl
  have fb12 : w19.cell? ⟨w.heap.size + 1, 2, none⟩ = some (Value.string b.s) := b1.out.cell 2 rfl
  have fb13 : w19.cell? ⟨w.heap.size + 1, 3, none⟩ = some (Value.slice A1 b.list.length c1) := b1.out.cell 3 rfl
  have fb14 : w19.cell? ⟨w.heap.size + 1, 4, none⟩ = some (Value.slice A1B b.names.length c1B) := b1.out.cell 4 rfl
  have fBx00 : w19.cell? ⟨w11.heap.size, 0, none⟩ = some (Value.int IntKind.i64 a.kind) := Bx0.out.cell 0 rfl
  have fBx01 : w19.cell? ⟨w11.heap.size, 1, none⟩ = some (Value.int IntKind.i64 a.n) := Bx0.out.cell 1 rfl
  have fBx02 : w19.cell? ⟨w11.heap.size, 2, none⟩ = some (Value.string a.s) := Bx0.out.cell 2 rfl
  have fBx03 : w19.cell? ⟨w11.heap.size, 3, none⟩ = some (Value.slice Ax0 a.list.length cx0) := Bx0.out.cell 3 rfl
  have fBx04 : w19.cell? ⟨w11.heap.size, 4, none⟩ = some (Value.slice Ax0B a.names.length cx0B) := Bx0.out.cell 4 rfl
  have fBx10 : w19.cell? ⟨w13.heap.size, 0, none⟩ = some (Value.int IntKind.i64 b.kind) := Bx1.out.cell 0 rfl
  have fBx11 : w19.cell? ⟨w13.heap.size, 1, none⟩ = some (Value.int IntKind.i64 b.n) := Bx1.out.cell 1 rfl
  have fBx12 : w19.cell? ⟨w13.heap.size, 2, none⟩ = some (Value.string b.s) := Bx1.out.cell 2 rfl
  have fBx13 : w19.cell? ⟨w13.heap.size, 3, none⟩ = some (Value.slice Ax1 b.list.length cx1) := Bx1.out.cell 3 rfl
  have fBx14 : w19.cell? ⟨w13.heap.size, 4, none⟩ = some (Value.slice Ax1B b.names.length cx1B) := Bx1.out.cell 4 rfl
  go_wp2_with fail
  refine ⟨cls_below hS.out, ?_⟩
  refine mix_b rfl ?_ (by rfl)
  go_wp2_with fail
  clear fb00 fb01 fb02 fb03 fb04 fb10 fb11 fb12 fb13 fb14 fBx00 fBx01 fBx02 fBx03 fBx04 fBx10 fBx11 fBx12 fBx13 fBx14
  apply calls_gen; intro W20 hW
  have hE : Below w19.heap.size w19 W20 := by rw [hW]; (repeat (first | with_reducible refine below_alloc ?_ _ | with_reducible refine below_drew ?_)); exact Below.refl _ _
  clear hW
  replace b0 := Hd.mk (b0.out.below hE)
  replace eb0 := Hd.mk (Nat.le_trans eb0.out hE.size)
  replace b1 := Hd.mk (b1.out.below hE)
  replace eb1 := Hd.mk (Nat.le_trans eb1.out hE.size)
  replace w0 := Hd.mk (R_below w0.out hE)
  replace ew0 := Hd.mk (Nat.le_trans ew0.out hE.size)
  replace x0 := Hd.mk (Ty.O_below x0.out hE)
  replace ex0 := Hd.mk (Nat.le_trans ex0.out hE.size)
  replace Bx0 := Hd.mk (Bx0.out.below hE)
  replace eBx0 := Hd.mk (Nat.le_trans eBx0.out hE.size)
  replace x1 := Hd.mk (Ty.O_below x1.out hE)
  replace ex1 := Hd.mk (Nat.le_trans ex1.out hE.size)
  replace Bx1 := Hd.mk (Bx1.out.below hE)
  replace eBx1 := Hd.mk (Nat.le_trans eBx1.out hE.size)
  replace g0 := Hd.mk (R_below g0.out hE)
  replace eg0 := Hd.mk (Nat.le_trans eg0.out hE.size)
  replace t0 := Hd.mk (Ty.O_below t0.out hE)
  replace et0 := Hd.mk (Nat.le_trans et0.out hE.size)
  replace hB := Hd.mk (below_then hB.out hE)
  replace hS := Hd.mk (below_then hS.out hE)
  clear hE
  refine (laws_eqJson a a _ _ _ ((tJ (m + 1)).O_K x0.out) ((tJ (m + 1)).O_K t0.out)).mono ?_
  rintro e w21 ⟨rfl, hX⟩
  replace b0 := Hd.mk (b0.out.below hX)
  replace eb0 := Hd.mk (Nat.le_trans eb0.out hX.size)
  replace b1 := Hd.mk (b1.out.below hX)
  replace eb1 := Hd.mk (Nat.le_trans eb1.out hX.size)
  replace w0 := Hd.mk (R_below w0.out hX)
  replace ew0 := Hd.mk (Nat.le_trans ew0.out hX.size)
  replace x0 := Hd.mk (Ty.O_below x0.out hX)
  replace ex0 := Hd.mk (Nat.le_trans ex0.out hX.size)
  replace Bx0 := Hd.mk (Bx0.out.below hX)
  replace eBx0 := Hd.mk (Nat.le_trans eBx0.out hX.size)
  replace x1 := Hd.mk (Ty.O_below x1.out hX)
  replace ex1 := Hd.mk (Nat.le_trans ex1.out hX.size)
  replace Bx1 := Hd.mk (Bx1.out.below hX)
  replace eBx1 := Hd.mk (Nat.le_trans eBx1.out hX.size)
  replace g0 := Hd.mk (R_below g0.out hX)
  replace eg0 := Hd.mk (Nat.le_trans eg0.out hX.size)
  replace t0 := Hd.mk (Ty.O_below t0.out hX)
  replace et0 := Hd.mk (Nat.le_trans et0.out hX.size)
  replace hB := Hd.mk (below_then hB.out hX)
  replace hS := Hd.mk (below_then hS.out hX)
  clear hX
  rw [eqv_self]
  have fb00 : w21.cell? ⟨w.heap.size, 0, none⟩ = some (Value.int IntKind.i64 a.kind) := b0.out.cell 0 rfl
  have fb01 : w21.cell? ⟨w.heap.size, 1, none⟩ = some (Value.int IntKind.i64 a.n) := b0.out.cell 1 rfl
  have fb02 : w21.cell? ⟨w.heap.size, 2, none⟩ = some (Value.string a.s) := b0.out.cell 2 rfl
  have fb03 : w21.cell? ⟨w.heap.size, 3, none⟩ = some (Value.slice A0 a.list.length c0) := b0.out.cell 3 rfl
  have fb04 : w21.cell? ⟨w.heap.size, 4, none⟩ = some (Value.slice A0B a.names.length c0B) := b0.out.cell 4 rfl
  have fb10 : w21.cell? ⟨w.heap.size + 1, 0, none⟩ = some (Value.int IntKind.i64 b.kind) := b1.out.cell 0 rfl
  have fb11 : w21.cell? ⟨w.heap.size + 1, 1, none⟩ = some (Value.int IntKind.i64 b.n) := b1.out.cell 1 rfl
  have fb12 : w21.cell? ⟨w.heap.size + 1, 2, none⟩ = some (Value.string b.s) := b1.out.cell 2 rfl
  have fb13 : w21.cell? ⟨w.heap.size + 1, 3, none⟩ = some (Value.slice A1 b.list.length c1) := b1.out.cell 3 rfl
  have fb14 : w21.cell? ⟨w.heap.size + 1, 4, none⟩ = some (Value.slice A1B b.names.length c1B) := b1.out.cell 4 rfl
  have fBx00 : w21.cell? ⟨w11.heap.size, 0, none⟩ = some (Value.int IntKind.i64 a.kind) := Bx0.out.cell 0 rfl
  have fBx01 : w21.cell? ⟨w11.heap.size, 1, none⟩ = some (Value.int IntKind.i64 a.n) := Bx0.out.cell 1 rfl
  have fBx02 : w21.cell? ⟨w11.heap.size, 2, none⟩ = some (Value.string a.s) := Bx0.out.cell 2 rfl
  have fBx03 : w21.cell? ⟨w11.heap.size, 3, none⟩ = some (Value.slice Ax0 a.list.length cx0) := Bx0.out.cell 3 rfl
  have fBx04 : w21.cell? ⟨w11.heap.size, 4, none⟩ = some (Value.slice Ax0B a.names.length cx0B) := Bx0.out.cell 4 rfl
  have fBx10 : w21.cell? ⟨w13.heap.size, 0, none⟩ = some (Value.int IntKind.i64 b.kind) := Bx1.out.cell 0 rfl
  have fBx11 : w21.cell? ⟨w13.heap.size, 1, none⟩ = some (Value.int IntKind.i64 b.n) := Bx1.out.cell 1 rfl
  have fBx12 : w21.cell? ⟨w13.heap.size, 2, none⟩ = some (Value.string b.s) := Bx1.out.cell 2 rfl
  have fBx13 : w21.cell? ⟨w13.heap.size, 3, none⟩ = some (Value.slice Ax1 b.list.length cx1) := Bx1.out.cell 3 rfl
  have fBx14 : w21.cell? ⟨w13.heap.size, 4, none⟩ = some (Value.slice Ax1B b.names.length cx1B) := Bx1.out.cell 4 rfl
  have rfb00 := cell_regrown fb00
  have rfb01 := cell_regrown fb01
  have rfb02 := cell_regrown fb02
  have rfb03 := cell_regrown fb03
  have rfb04 := cell_regrown fb04
  have rfb10 := cell_regrown fb10
  have rfb11 := cell_regrown fb11
  have rfb12 := cell_regrown fb12
  have rfb13 := cell_regrown fb13
  have rfb14 := cell_regrown fb14
  have rfBx00 := cell_regrown fBx00
  have rfBx01 := cell_regrown fBx01
  have rfBx02 := cell_regrown fBx02
  have rfBx03 := cell_regrown fBx03
  have rfBx04 := cell_regrown fBx04
  have rfBx10 := cell_regrown fBx10
  have rfBx11 := cell_regrown fBx11
  have rfBx12 := cell_regrown fBx12
  have rfBx13 := cell_regrown fBx13
  have rfBx14 := cell_regrown fBx14
  go_wp2_with fail
  refine ⟨cls_below hS.out, ?_⟩
  try (repeat (refine mix_q rfl ?_; go_big_quiet_want; go_big_quiet_op; go_big_quiet_on; refine wpQuiet_nil ?_))
  refine mix_nil ?_
  clear rfb00 rfb01 rfb02 rfb03 rfb04 rfb10 rfb11 rfb12 rfb13 rfb14 rfBx00 rfBx01 rfBx02 rfBx03 rfBx04 rfBx10 rfBx11 rfBx12 rfBx13 rfBx14
  clear hS
  go_wp2_with fail
  clear fb00 fb01 fb02 fb03 fb04 fb10 fb11 fb12 fb13 fb14 fBx00 fBx01 fBx02 fBx03 fBx04 fBx10 fBx11 fBx12 fBx13 fBx14
  clear t0 et0
  have fb00 : w21.cell? ⟨w.heap.size, 0, none⟩ = some (Value.int IntKind.i64 a.kind) := b0.out.cell 0 rfl
  have fb01 : w21.cell? ⟨w.heap.size, 1, none⟩ = some (Value.int IntKind.i64 a.n) := b0.out.cell 1 rfl
  have fb02 : w21.cell? ⟨w.heap.size, 2, none⟩ = some (Value.string a.s) := b0.out.cell 2 rfl
  have fb03 : w21.cell? ⟨w.heap.size, 3, none⟩ = some (Value.slice A0 a.list.length c0) := b0.out.cell 3 rfl
  have fb04 : w21.cell? ⟨w.heap.size, 4, none⟩ = some (Value.slice A0B a.names.length c0B) := b0.out.cell 4 rfl
  have fb10 : w21.cell? ⟨w.heap.size + 1, 0, none⟩ = some (Value.int IntKind.i64 b.kind) := b1.out.cell 0 rfl
  have fb11 : w21.cell? ⟨w.heap.size + 1, 1, none⟩ = some (Value.int IntKind.i64 b.n) := b1.out.cell 1 rfl
  have fb12 : w21.cell? ⟨w.heap.size + 1, 2, none⟩ = some (Value.string b.s) := b1.out.cell 2 rfl
  have fb13 : w21.cell? ⟨w.heap.size + 1, 3, none⟩ = some (Value.slice A1 b.list.length c1) := b1.out.cell 3 rfl
  have fb14 : w21.cell? ⟨w.heap.size + 1, 4, none⟩ = some (Value.slice A1B b.names.length c1B) := b1.out.cell 4 rfl
  have fBx00 : w21.cell? ⟨w11.heap.size, 0, none⟩ = some (Value.int IntKind.i64 a.kind) := Bx0.out.cell 0 rfl
  have fBx01 : w21.cell? ⟨w11.heap.size, 1, none⟩ = some (Value.int IntKind.i64 a.n) := Bx0.out.cell 1 rfl
  have fBx02 : w21.cell? ⟨w11.heap.size, 2, none⟩ = some (Value.string a.s) := Bx0.out.cell 2 rfl
  have fBx03 : w21.cell? ⟨w11.heap.size, 3, none⟩ = some (Value.slice Ax0 a.list.length cx0) := Bx0.out.cell 3 rfl
  have fBx04 : w21.cell? ⟨w11.heap.size, 4, none⟩ = some (Value.slice Ax0B a.names.length cx0B) := Bx0.out.cell 4 rfl
  have fBx10 : w21.cell? ⟨w13.heap.size, 0, none⟩ = some (Value.int IntKind.i64 b.kind) := Bx1.out.cell 0 rfl
  have fBx11 : w21.cell? ⟨w13.heap.size, 1, none⟩ = some (Value.int IntKind.i64 b.n) := Bx1.out.cell 1 rfl
  have fBx12 : w21.cell? ⟨w13.heap.size, 2, none⟩ = some (Value.string b.s) := Bx1.out.cell 2 rfl
  have fBx13 : w21.cell? ⟨w13.heap.size, 3, none⟩ = some (Value.slice Ax1 b.list.length cx1) := Bx1.out.cell 3 rfl
  have fBx14 : w21.cell? ⟨w13.heap.size, 4, none⟩ = some (Value.slice Ax1B b.names.length cx1B) := Bx1.out.cell 4 rfl
  have rfb00 := cell_regrown fb00
  have rfb01 := cell_regrown fb01
  have rfb02 := cell_regrown fb02
  have rfb03 := cell_regrown fb03
  have rfb04 := cell_regrown fb04
  have rfb10 := cell_regrown fb10
  have rfb11 := cell_regrown fb11
  have rfb12 := cell_regrown fb12
  have rfb13 := cell_regrown fb13
  have rfb14 := cell_regrown fb14
  have rfBx00 := cell_regrown fBx00
  have rfBx01 := cell_regrown fBx01
  have rfBx02 := cell_regrown fBx02
  have rfBx03 := cell_regrown fBx03
  have rfBx04 := cell_regrown fBx04
  have rfBx10 := cell_regrown fBx10
  have rfBx11 := cell_regrown fBx11
  have rfBx12 := cell_regrown fBx12
  have rfBx13 := cell_regrown fBx13
  have rfBx14 := cell_regrown fBx14
  refine region_mix [(true, 0), (true, 1), (false, 2), (false, 3), (true, 4)] (by kernel_rfl) (by kernel_rfl) (fun _ _ _ _ _ h => h) ?_
  try (repeat (refine mix_q rfl ?_; go_big_quiet_want; go_big_quiet_op; go_big_quiet_on; refine wpQuiet_nil ?_))
  refine mix_b rfl ?_ (by rfl)
  go_wp2_with fail
  clear rfb00 rfb01 rfb02 rfb03 rfb04 rfb10 rfb11 rfb12 rfb13 rfb14 rfBx00 rfBx01 rfBx02 rfBx03 rfBx04 rfBx10 rfBx11 rfBx12 rfBx13 rfBx14
  clear fb00 fb01 fb02 fb03 fb04 fb10 fb11 fb12 fb13 fb14 fBx00 fBx01 fBx02 fBx03 fBx04 fBx10 fBx11 fBx12 fBx13 fBx14
  have hS := Hd.mk (Below.refl w21.heap.size w21)
  apply calls_gen; intro W22 hW
  have hE : Below w21.heap.size w21 W22 := by rw [hW]; (repeat (first | with_reducible refine below_alloc ?_ _ | with_reducible refine below_drew ?_)); exact Below.refl _ _
  clear hW
  replace b0 := Hd.mk (b0.out.below hE)
  replace eb0 := Hd.mk (Nat.le_trans eb0.out hE.size)
  replace b1 := Hd.mk (b1.out.below hE)
  replace eb1 := Hd.mk (Nat.le_trans eb1.out hE.size)
  replace w0 := Hd.mk (R_below w0.out hE)
  replace ew0 := Hd.mk (Nat.le_trans ew0.out hE.size)
  replace x0 := Hd.mk (Ty.O_below x0.out hE)
  replace ex0 := Hd.mk (Nat.le_trans ex0.out hE.size)
  replace Bx0 := Hd.mk (Bx0.out.below hE)
  replace eBx0 := Hd.mk (Nat.le_trans eBx0.out hE.size)
  replace x1 := Hd.mk (Ty.O_below x1.out hE)
  replace ex1 := Hd.mk (Nat.le_trans ex1.out hE.size)
  replace Bx1 := Hd.mk (Bx1.out.below hE)
  replace eBx1 := Hd.mk (Nat.le_trans eBx1.out hE.size)
  replace g0 := Hd.mk (R_below g0.out hE)
  replace eg0 := Hd.mk (Nat.le_trans eg0.out hE.size)
  replace hB := Hd.mk (below_then hB.out hE)
  replace hS := Hd.mk (below_then hS.out hE)
  clear hE
  refine (laws_toJson b _ _ ((tJ (m + 1)).K_below hB.out hK1.out) HL1.out.1).mono ?_
  rintro e w23 ⟨cs_, rfl, hO, hX⟩
  have db0_t1 := Hd.mk eb0.out
  have db1_t1 := Hd.mk eb1.out
  have dw0_t1 := Hd.mk ew0.out
  have dx0_t1 := Hd.mk ex0.out
  have dBx0_t1 := Hd.mk eBx0.out
  have dx1_t1 := Hd.mk ex1.out
  have dBx1_t1 := Hd.mk eBx1.out
  have dg0_t1 := Hd.mk eg0.out
  have at1 := Hd.mk hB.out.size
  replace b0 := Hd.mk (b0.out.below hX)
  replace eb0 := Hd.mk (Nat.le_trans eb0.out hX.size)
  replace b1 := Hd.mk (b1.out.below hX)
  replace eb1 := Hd.mk (Nat.le_trans eb1.out hX.size)
  replace w0 := Hd.mk (R_below w0.out hX)
  replace ew0 := Hd.mk (Nat.le_trans ew0.out hX.size)
  replace x0 := Hd.mk (Ty.O_below x0.out hX)
  replace ex0 := Hd.mk (Nat.le_trans ex0.out hX.size)
  replace Bx0 := Hd.mk (Bx0.out.below hX)
  replace eBx0 := Hd.mk (Nat.le_trans eBx0.out hX.size)
  replace x1 := Hd.mk (Ty.O_below x1.out hX)
  replace ex1 := Hd.mk (Nat.le_trans ex1.out hX.size)
  replace Bx1 := Hd.mk (Bx1.out.below hX)
  replace eBx1 := Hd.mk (Nat.le_trans eBx1.out hX.size)
  replace g0 := Hd.mk (R_below g0.out hX)
  replace eg0 := Hd.mk (Nat.le_trans eg0.out hX.size)
  replace hB := Hd.mk (below_then hB.out hX)
  replace hS := Hd.mk (below_then hS.out hX)
  clear hX
  replace hO := Ty.O_bound _ hO
  obtain ⟨v_, u_, _, _, hcs, _, r1, r2, _⟩ := tJ_O.1 hO
  subst hcs
  obtain ⟨At1, ct1, hv_, hct1, _⟩ := R_C r1
  subst hv_
  clear r1
  obtain ⟨At1B, ct1B, hv_, hct1B, _⟩ := R_C r2
  subst hv_
  clear r2
  have t1 := Hd.mk (show (tJ (m + 1)).O w23 (rng W22.heap.size w23.heap.size) b [Value.int IntKind.i64 b.kind, Value.int IntKind.i64 b.n, Value.string b.s, Value.slice At1 b.list.length ct1, Value.slice At1B b.names.length ct1B] from hO); clear hO
  have et1 := Hd.mk (Nat.le_refl w23.heap.size)
  have fb00 : w23.cell? ⟨w.heap.size, 0, none⟩ = some (Value.int IntKind.i64 a.kind) := b0.out.cell 0 rfl
  have fb01 : w23.cell? ⟨w.heap.size, 1, none⟩ = some (Value.int IntKind.i64 a.n) := b0.out.cell 1 rfl
  have fb02 : w23.cell? ⟨w.heap.size, 2, none⟩ = some (Value.string a.s) := b0.out.cell 2 rfl
  have fb03 : w23.cell? ⟨w.heap.size, 3, none⟩ = some (Value.slice A0 a.list.length c0) := b0.out.cell 3 rfl
  have fb04 : w23.cell? ⟨w.heap.size, 4, none⟩ = some (Value.slice A0B a.names.length c0B) := b0.out.cell 4 rfl
  have fb10 : w23.cell? ⟨w.heap.size + 1, 0, none⟩ = some (Value.int IntKind.i64 b.kind) := b1.out.cell 0 rfl
  have fb11 : w23.cell? ⟨w.heap.size + 1, 1, none⟩ = some (Value.int IntKind.i64 b.n) := b1.out.cell 1 rfl
  have fb12 : w23.cell? ⟨w.heap.size + 1, 2, none⟩ = some (Value.string b.s) := b1.out.cell 2 rfl
  have fb13 : w23.cell? ⟨w.heap.size + 1, 3, none⟩ = some (Value.slice A1 b.list.length c1) := b1.out.cell 3 rfl
  have fb14 : w23.cell? ⟨w.heap.size + 1, 4, none⟩ = some (Value.slice A1B b.names.length c1B) := b1.out.cell 4 rfl
  have fBx00 : w23.cell? ⟨w11.heap.size, 0, none⟩ = some (Value.int IntKind.i64 a.kind) := Bx0.out.cell 0 rfl
  have fBx01 : w23.cell? ⟨w11.heap.size, 1, none⟩ = some (Value.int IntKind.i64 a.n) := Bx0.out.cell 1 rfl
  have fBx02 : w23.cell? ⟨w11.heap.size, 2, none⟩ = some (Value.string a.s) := Bx0.out.cell 2 rfl
  have fBx03 : w23.cell? ⟨w11.heap.size, 3, none⟩ = some (Value.slice Ax0 a.list.length cx0) := Bx0.out.cell 3 rfl
  have fBx04 : w23.cell? ⟨w11.heap.size, 4, none⟩ = some (Value.slice Ax0B a.names.length cx0B) := Bx0.out.cell 4 rfl
  have fBx10 : w23.cell? ⟨w13.heap.size, 0, none⟩ = some (Value.int IntKind.i64 b.kind) := Bx1.out.cell 0 rfl
  have fBx11 : w23.cell? ⟨w13.heap.size, 1, none⟩ = some (Value.int IntKind.i64 b.n) := Bx1.out.cell 1 rfl
  have fBx12 : w23.cell? ⟨w13.heap.size, 2, none⟩ = some (Value.string b.s) := Bx1.out.cell 2 rfl
  have fBx13 : w23.cell? ⟨w13.heap.size, 3, none⟩ = some (Value.slice Ax1 b.list.length cx1) := Bx1.out.cell 3 rfl
  have fBx14 : w23.cell? ⟨w13.heap.size, 4, none⟩ = some (Value.slice Ax1B b.names.length cx1B) := Bx1.out.cell 4 rfl
  go_wp2_with fail
  refine ⟨cls_below hS.out, ?_⟩
  refine mix_b rfl ?_ (by rfl)
  go_wp2_with fail
  clear fb00 fb01 fb02 fb03 fb04 fb10 fb11 fb12 fb13 fb14 fBx00 fBx01 fBx02 fBx03 fBx04 fBx10 fBx11 fBx12 fBx13 fBx14
  apply calls_gen; intro W24 hW
  have hE : Below w23.heap.size w23 W24 := by rw [hW]; (repeat (first | with_reducible refine below_alloc ?_ _ | with_reducible refine below_drew ?_)); exact Below.refl _ _
  clear hW
  replace b0 := Hd.mk (b0.out.below hE)
  replace eb0 := Hd.mk (Nat.le_trans eb0.out hE.size)
  replace b1 := Hd.mk (b1.out.below hE)
  replace eb1 := Hd.mk (Nat.le_trans eb1.out hE.size)
  replace w0 := Hd.mk (R_below w0.out hE)
  replace ew0 := Hd.mk (Nat.le_trans ew0.out hE.size)
  replace x0 := Hd.mk (Ty.O_below x0.out hE)
  replace ex0 := Hd.mk (Nat.le_trans ex0.out hE.size)
  replace Bx0 := Hd.mk (Bx0.out.below hE)
  replace eBx0 := Hd.mk (Nat.le_trans eBx0.out hE.size)
  replace x1 := Hd.mk (Ty.O_below x1.out hE)
  replace ex1 := Hd.mk (Nat.le_trans ex1.out hE.size)
  replace Bx1 := Hd.mk (Bx1.out.below hE)
  replace eBx1 := Hd.mk (Nat.le_trans eBx1.out hE.size)
  replace g0 := Hd.mk (R_below g0.out hE)
  replace eg0 := Hd.mk (Nat.le_trans eg0.out hE.size)
  replace t1 := Hd.mk (Ty.O_below t1.out hE)
  replace et1 := Hd.mk (Nat.le_trans et1.out hE.size)
  replace hB := Hd.mk (below_then hB.out hE)
  replace hS := Hd.mk (below_then hS.out hE)
  clear hE
  refine (laws_eqJson b b _ _ _ ((tJ (m + 1)).O_K x1.out) ((tJ (m + 1)).O_K t1.out)).mono ?_
  rintro e w25 ⟨rfl, hX⟩
  replace b0 := Hd.mk (b0.out.below hX)
  replace eb0 := Hd.mk (Nat.le_trans eb0.out hX.size)
  replace b1 := Hd.mk (b1.out.below hX)
  replace eb1 := Hd.mk (Nat.le_trans eb1.out hX.size)
  replace w0 := Hd.mk (R_below w0.out hX)
  replace ew0 := Hd.mk (Nat.le_trans ew0.out hX.size)
  replace x0 := Hd.mk (Ty.O_below x0.out hX)
  replace ex0 := Hd.mk (Nat.le_trans ex0.out hX.size)
  replace Bx0 := Hd.mk (Bx0.out.below hX)
  replace eBx0 := Hd.mk (Nat.le_trans eBx0.out hX.size)
  replace x1 := Hd.mk (Ty.O_below x1.out hX)
  replace ex1 := Hd.mk (Nat.le_trans ex1.out hX.size)
  replace Bx1 := Hd.mk (Bx1.out.below hX)
  replace eBx1 := Hd.mk (Nat.le_trans eBx1.out hX.size)
  replace g0 := Hd.mk (R_below g0.out hX)
  replace eg0 := Hd.mk (Nat.le_trans eg0.out hX.size)
  replace t1 := Hd.mk (Ty.O_below t1.out hX)
  replace et1 := Hd.mk (Nat.le_trans et1.out hX.size)
  replace hB := Hd.mk (below_then hB.out hX)
  replace hS := Hd.mk (below_then hS.out hX)
  clear hX
  rw [eqv_self]
  have fb00 : w25.cell? ⟨w.heap.size, 0, none⟩ = some (Value.int IntKind.i64 a.kind) := b0.out.cell 0 rfl
  have fb01 : w25.cell? ⟨w.heap.size, 1, none⟩ = some (Value.int IntKind.i64 a.n) := b0.out.cell 1 rfl
  have fb02 : w25.cell? ⟨w.heap.size, 2, none⟩ = some (Value.string a.s) := b0.out.cell 2 rfl
  have fb03 : w25.cell? ⟨w.heap.size, 3, none⟩ = some (Value.slice A0 a.list.length c0) := b0.out.cell 3 rfl
  have fb04 : w25.cell? ⟨w.heap.size, 4, none⟩ = some (Value.slice A0B a.names.length c0B) := b0.out.cell 4 rfl
  have fb10 : w25.cell? ⟨w.heap.size + 1, 0, none⟩ = some (Value.int IntKind.i64 b.kind) := b1.out.cell 0 rfl
  have fb11 : w25.cell? ⟨w.heap.size + 1, 1, none⟩ = some (Value.int IntKind.i64 b.n) := b1.out.cell 1 rfl
  have fb12 : w25.cell? ⟨w.heap.size + 1, 2, none⟩ = some (Value.string b.s) := b1.out.cell 2 rfl
  have fb13 : w25.cell? ⟨w.heap.size + 1, 3, none⟩ = some (Value.slice A1 b.list.length c1) := b1.out.cell 3 rfl
  have fb14 : w25.cell? ⟨w.heap.size + 1, 4, none⟩ = some (Value.slice A1B b.names.length c1B) := b1.out.cell 4 rfl
  have fBx00 : w25.cell? ⟨w11.heap.size, 0, none⟩ = some (Value.int IntKind.i64 a.kind) := Bx0.out.cell 0 rfl
  have fBx01 : w25.cell? ⟨w11.heap.size, 1, none⟩ = some (Value.int IntKind.i64 a.n) := Bx0.out.cell 1 rfl
  have fBx02 : w25.cell? ⟨w11.heap.size, 2, none⟩ = some (Value.string a.s) := Bx0.out.cell 2 rfl
  have fBx03 : w25.cell? ⟨w11.heap.size, 3, none⟩ = some (Value.slice Ax0 a.list.length cx0) := Bx0.out.cell 3 rfl
  have fBx04 : w25.cell? ⟨w11.heap.size, 4, none⟩ = some (Value.slice Ax0B a.names.length cx0B) := Bx0.out.cell 4 rfl
  have fBx10 : w25.cell? ⟨w13.heap.size, 0, none⟩ = some (Value.int IntKind.i64 b.kind) := Bx1.out.cell 0 rfl
  have fBx11 : w25.cell? ⟨w13.heap.size, 1, none⟩ = some (Value.int IntKind.i64 b.n) := Bx1.out.cell 1 rfl
  have fBx12 : w25.cell? ⟨w13.heap.size, 2, none⟩ = some (Value.string b.s) := Bx1.out.cell 2 rfl
  have fBx13 : w25.cell? ⟨w13.heap.size, 3, none⟩ = some (Value.slice Ax1 b.list.length cx1) := Bx1.out.cell 3 rfl
  have fBx14 : w25.cell? ⟨w13.heap.size, 4, none⟩ = some (Value.slice Ax1B b.names.length cx1B) := Bx1.out.cell 4 rfl
  have rfb00 := cell_regrown fb00
  have rfb01 := cell_regrown fb01
  have rfb02 := cell_regrown fb02
  have rfb03 := cell_regrown fb03
  have rfb04 := cell_regrown fb04
  have rfb10 := cell_regrown fb10
  have rfb11 := cell_regrown fb11
  have rfb12 := cell_regrown fb12
  have rfb13 := cell_regrown fb13
  have rfb14 := cell_regrown fb14
  have rfBx00 := cell_regrown fBx00
  have rfBx01 := cell_regrown fBx01
  have rfBx02 := cell_regrown fBx02
  have rfBx03 := cell_regrown fBx03
  have rfBx04 := cell_regrown fBx04
  have rfBx10 := cell_regrown fBx10
  have rfBx11 := cell_regrown fBx11
  have rfBx12 := cell_regrown fBx12
  have rfBx13 := cell_regrown fBx13
  have rfBx14 := cell_regrown fBx14
  go_wp2_with fail
  refine ⟨cls_below hS.out, ?_⟩
  try (repeat (refine mix_q rfl ?_; go_big_quiet_want; go_big_quiet_op; go_big_quiet_on; refine wpQuiet_nil ?_))
  refine mix_nil ?_
  clear rfb00 rfb01 rfb02 rfb03 rfb04 rfb10 rfb11 rfb12 rfb13 rfb14 rfBx00 rfBx01 rfBx02 rfBx03 rfBx04 rfBx10 rfBx11 rfBx12 rfBx13 rfBx14
  clear hS
  go_wp2_with fail
  clear fb00 fb01 fb02 fb03 fb04 fb10 fb11 fb12 fb13 fb14 fBx00 fBx01 fBx02 fBx03 fBx04 fBx10 fBx11 fBx12 fBx13 fBx14
  clear t1 et1
  have fb00 : w25.cell? ⟨w.heap.size, 0, none⟩ = some (Value.int IntKind.i64 a.kind) := b0.out.cell 0 rfl
  have fb01 : w25.cell? ⟨w.heap.size, 1, none⟩ = some (Value.int IntKind.i64 a.n) := b0.out.cell 1 rfl
  have fb02 : w25.cell? ⟨w.heap.size, 2, none⟩ = some (Value.string a.s) := b0.out.cell 2 rfl
  have fb03 : w25.cell? ⟨w.heap.size, 3, none⟩ = some (Value.slice A0 a.list.length c0) := b0.out.cell 3 rfl
  have fb04 : w25.cell? ⟨w.heap.size, 4, none⟩ = some (Value.slice A0B a.names.length c0B) := b0.out.cell 4 rfl
  have fb10 : w25.cell? ⟨w.heap.size + 1, 0, none⟩ = some (Value.int IntKind.i64 b.kind) := b1.out.cell 0 rfl
  have fb11 : w25.cell? ⟨w.heap.size + 1, 1, none⟩ = some (Value.int IntKind.i64 b.n) := b1.out.cell 1 rfl
  have fb12 : w25.cell? ⟨w.heap.size + 1, 2, none⟩ = some (Value.string b.s) := b1.out.cell 2 rfl
  have fb13 : w25.cell? ⟨w.heap.size + 1, 3, none⟩ = some (Value.slice A1 b.list.length c1) := b1.out.cell 3 rfl
  have fb14 : w25.cell? ⟨w.heap.size + 1, 4, none⟩ = some (Value.slice A1B b.names.length c1B) := b1.out.cell 4 rfl
  have fBx00 : w25.cell? ⟨w11.heap.size, 0, none⟩ = some (Value.int IntKind.i64 a.kind) := Bx0.out.cell 0 rfl
  have fBx01 : w25.cell? ⟨w11.heap.size, 1, none⟩ = some (Value.int IntKind.i64 a.n) := Bx0.out.cell 1 rfl
  have fBx02 : w25.cell? ⟨w11.heap.size, 2, none⟩ = some (Value.string a.s) := Bx0.out.cell 2 rfl
  have fBx03 : w25.cell? ⟨w11.heap.size, 3, none⟩ = some (Value.slice Ax0 a.list.length cx0) := Bx0.out.cell 3 rfl
  have fBx04 : w25.cell? ⟨w11.heap.size, 4, none⟩ = some (Value.slice Ax0B a.names.length cx0B) := Bx0.out.cell 4 rfl
  have fBx10 : w25.cell? ⟨w13.heap.size, 0, none⟩ = some (Value.int IntKind.i64 b.kind) := Bx1.out.cell 0 rfl
  have fBx11 : w25.cell? ⟨w13.heap.size, 1, none⟩ = some (Value.int IntKind.i64 b.n) := Bx1.out.cell 1 rfl
  have fBx12 : w25.cell? ⟨w13.heap.size, 2, none⟩ = some (Value.string b.s) := Bx1.out.cell 2 rfl
  have fBx13 : w25.cell? ⟨w13.heap.size, 3, none⟩ = some (Value.slice Ax1 b.list.length cx1) := Bx1.out.cell 3 rfl
  have fBx14 : w25.cell? ⟨w13.heap.size, 4, none⟩ = some (Value.slice Ax1B b.names.length cx1B) := Bx1.out.cell 4 rfl
  go_wp2_with fail
  clear fb00 fb01 fb02 fb03 fb04 fb10 fb11 fb12 fb13 fb14 fBx00 fBx01 fBx02 fBx03 fBx04 fBx10 fBx11 fBx12 fBx13 fBx14
  apply calls_gen; intro W26 hW
  have hE : Below w25.heap.size w25 W26 := by rw [hW]; (repeat (first | with_reducible refine below_alloc ?_ _ | with_reducible refine below_drew ?_)); exact Below.refl _ _
  clear hW
  replace b0 := Hd.mk (b0.out.below hE)
  replace eb0 := Hd.mk (Nat.le_trans eb0.out hE.size)
  replace b1 := Hd.mk (b1.out.below hE)
  replace eb1 := Hd.mk (Nat.le_trans eb1.out hE.size)
  replace w0 := Hd.mk (R_below w0.out hE)
  replace ew0 := Hd.mk (Nat.le_trans ew0.out hE.size)
  replace x0 := Hd.mk (Ty.O_below x0.out hE)
  replace ex0 := Hd.mk (Nat.le_trans ex0.out hE.size)
  replace Bx0 := Hd.mk (Bx0.out.below hE)
  replace eBx0 := Hd.mk (Nat.le_trans eBx0.out hE.size)
  replace x1 := Hd.mk (Ty.O_below x1.out hE)
  replace ex1 := Hd.mk (Nat.le_trans ex1.out hE.size)
  replace Bx1 := Hd.mk (Bx1.out.below hE)
  replace eBx1 := Hd.mk (Nat.le_trans eBx1.out hE.size)
  replace g0 := Hd.mk (R_below g0.out hE)
  replace eg0 := Hd.mk (Nat.le_trans eg0.out hE.size)
  replace hB := Hd.mk (below_then hB.out hE)
  clear hE
  refine (laws_markJson _ _ (1) _ x0.out (by omega) (by omega)).mono ?_
  rintro e w27 ⟨rfl, hM, hX⟩
  have hsz_ := hX.size
  replace b0 := Hd.mk (b0.out.fr hX (rng_not (Or.inl db0_x0.out)))
  replace eb0 := Hd.mk (Nat.le_trans eb0.out hsz_)
  replace b1 := Hd.mk (b1.out.fr hX (rng_not (Or.inl db1_x0.out)))
  replace eb1 := Hd.mk (Nat.le_trans eb1.out hsz_)
  replace w0 := Hd.mk (R_fr w0.out hX (rng_off (Or.inl dw0_x0.out)))
  replace ew0 := Hd.mk (Nat.le_trans ew0.out hsz_)
  replace ex0 := Hd.mk (Nat.le_trans ex0.out hsz_)
  replace Bx0 := Hd.mk (Bx0.out.fr hX (rng_not (Or.inr dx0_Bx0.out)))
  replace eBx0 := Hd.mk (Nat.le_trans eBx0.out hsz_)
  replace x1 := Hd.mk (Ty.O_fr x1.out hX (rng_off (Or.inr dx0_x1.out)))
  replace ex1 := Hd.mk (Nat.le_trans ex1.out hsz_)
  replace Bx1 := Hd.mk (Bx1.out.fr hX (rng_not (Or.inr dx0_Bx1.out)))
  replace eBx1 := Hd.mk (Nat.le_trans eBx1.out hsz_)
  replace g0 := Hd.mk (R_fr g0.out hX (rng_off (Or.inr dx0_g0.out)))
  replace eg0 := Hd.mk (Nat.le_trans eg0.out hsz_)
  replace hB := Hd.mk (below_rng hB.out hX ax0.out)
  clear hsz_
  clear hX
  clear hM
  clear x0 ex0
  have fb00 : w27.cell? ⟨w.heap.size, 0, none⟩ = some (Value.int IntKind.i64 a.kind) := b0.out.cell 0 rfl
  have fb01 : w27.cell? ⟨w.heap.size, 1, none⟩ = some (Value.int IntKind.i64 a.n) := b0.out.cell 1 rfl
  have fb02 : w27.cell? ⟨w.heap.size, 2, none⟩ = some (Value.string a.s) := b0.out.cell 2 rfl
  have fb03 : w27.cell? ⟨w.heap.size, 3, none⟩ = some (Value.slice A0 a.list.length c0) := b0.out.cell 3 rfl
  have fb04 : w27.cell? ⟨w.heap.size, 4, none⟩ = some (Value.slice A0B a.names.length c0B) := b0.out.cell 4 rfl
  have fb10 : w27.cell? ⟨w.heap.size + 1, 0, none⟩ = some (Value.int IntKind.i64 b.kind) := b1.out.cell 0 rfl
  have fb11 : w27.cell? ⟨w.heap.size + 1, 1, none⟩ = some (Value.int IntKind.i64 b.n) := b1.out.cell 1 rfl
  have fb12 : w27.cell? ⟨w.heap.size + 1, 2, none⟩ = some (Value.string b.s) := b1.out.cell 2 rfl
  have fb13 : w27.cell? ⟨w.heap.size + 1, 3, none⟩ = some (Value.slice A1 b.list.length c1) := b1.out.cell 3 rfl
  have fb14 : w27.cell? ⟨w.heap.size + 1, 4, none⟩ = some (Value.slice A1B b.names.length c1B) := b1.out.cell 4 rfl
  have fBx00 : w27.cell? ⟨w11.heap.size, 0, none⟩ = some (Value.int IntKind.i64 a.kind) := Bx0.out.cell 0 rfl
  have fBx01 : w27.cell? ⟨w11.heap.size, 1, none⟩ = some (Value.int IntKind.i64 a.n) := Bx0.out.cell 1 rfl
  have fBx02 : w27.cell? ⟨w11.heap.size, 2, none⟩ = some (Value.string a.s) := Bx0.out.cell 2 rfl
  have fBx03 : w27.cell? ⟨w11.heap.size, 3, none⟩ = some (Value.slice Ax0 a.list.length cx0) := Bx0.out.cell 3 rfl
  have fBx04 : w27.cell? ⟨w11.heap.size, 4, none⟩ = some (Value.slice Ax0B a.names.length cx0B) := Bx0.out.cell 4 rfl
  have fBx10 : w27.cell? ⟨w13.heap.size, 0, none⟩ = some (Value.int IntKind.i64 b.kind) := Bx1.out.cell 0 rfl
  have fBx11 : w27.cell? ⟨w13.heap.size, 1, none⟩ = some (Value.int IntKind.i64 b.n) := Bx1.out.cell 1 rfl
  have fBx12 : w27.cell? ⟨w13.heap.size, 2, none⟩ = some (Value.string b.s) := Bx1.out.cell 2 rfl
  have fBx13 : w27.cell? ⟨w13.heap.size, 3, none⟩ = some (Value.slice Ax1 b.list.length cx1) := Bx1.out.cell 3 rfl
  have fBx14 : w27.cell? ⟨w13.heap.size, 4, none⟩ = some (Value.slice Ax1B b.names.length cx1B) := Bx1.out.cell 4 rfl
  go_wp2_with fail
  clear fb00 fb01 fb02 fb03 fb04 fb10 fb11 fb12 fb13 fb14 fBx00 fBx01 fBx02 fBx03 fBx04 fBx10 fBx11 fBx12 fBx13 fBx14
  apply calls_gen; intro W28 hW
  have hE : Below w27.heap.size w27 W28 := by rw [hW]; (repeat (first | with_reducible refine below_alloc ?_ _ | with_reducible refine below_drew ?_)); exact Below.refl _ _
  clear hW
  replace b0 := Hd.mk (b0.out.below hE)
  replace eb0 := Hd.mk (Nat.le_trans eb0.out hE.size)
  replace b1 := Hd.mk (b1.out.below hE)
  replace eb1 := Hd.mk (Nat.le_trans eb1.out hE.size)
  replace w0 := Hd.mk (R_below w0.out hE)
  replace ew0 := Hd.mk (Nat.le_trans ew0.out hE.size)
  replace Bx0 := Hd.mk (Bx0.out.below hE)
  replace eBx0 := Hd.mk (Nat.le_trans eBx0.out hE.size)
  replace x1 := Hd.mk (Ty.O_below x1.out hE)
  replace ex1 := Hd.mk (Nat.le_trans ex1.out hE.size)
  replace Bx1 := Hd.mk (Bx1.out.below hE)
  replace eBx1 := Hd.mk (Nat.le_trans eBx1.out hE.size)
  replace g0 := Hd.mk (R_below g0.out hE)
  replace eg0 := Hd.mk (Nat.le_trans eg0.out hE.size)
  replace hB := Hd.mk (below_then hB.out hE)
  clear hE
  refine (laws_markJson _ _ (1 + (bulkL (cnJ m) a.list : Int) + (a.names.length : Int)) _ x1.out (by omega) (by omega)).mono ?_
  rintro e w29 ⟨rfl, hM, hX⟩
  have hsz_ := hX.size
  replace b0 := Hd.mk (b0.out.fr hX (rng_not (Or.inl db0_x1.out)))
  replace eb0 := Hd.mk (Nat.le_trans eb0.out hsz_)
  replace b1 := Hd.mk (b1.out.fr hX (rng_not (Or.inl db1_x1.out)))
  replace eb1 := Hd.mk (Nat.le_trans eb1.out hsz_)
  replace w0 := Hd.mk (R_fr w0.out hX (rng_off (Or.inl dw0_x1.out)))
  replace ew0 := Hd.mk (Nat.le_trans ew0.out hsz_)
  replace Bx0 := Hd.mk (Bx0.out.fr hX (rng_not (Or.inl dBx0_x1.out)))
  replace eBx0 := Hd.mk (Nat.le_trans eBx0.out hsz_)
  replace ex1 := Hd.mk (Nat.le_trans ex1.out hsz_)
  replace Bx1 := Hd.mk (Bx1.out.fr hX (rng_not (Or.inr dx1_Bx1.out)))
  replace eBx1 := Hd.mk (Nat.le_trans eBx1.out hsz_)
  replace g0 := Hd.mk (R_fr g0.out hX (rng_off (Or.inr dx1_g0.out)))
  replace eg0 := Hd.mk (Nat.le_trans eg0.out hsz_)
  replace hB := Hd.mk (below_rng hB.out hX ax1.out)
  clear hsz_
  clear hX
  clear hM
  clear x1 ex1
  have hkp : (0 : Int) ≤ 1 + (bulkL (cnJ m) a.list : Int) + (a.names.length : Int) + (bulkL (cnJ m) b.list : Int) + (b.names.length : Int) := by omega
  have fb00 : w29.cell? ⟨w.heap.size, 0, none⟩ = some (Value.int IntKind.i64 a.kind) := b0.out.cell 0 rfl
  have fb01 : w29.cell? ⟨w.heap.size, 1, none⟩ = some (Value.int IntKind.i64 a.n) := b0.out.cell 1 rfl
  have fb02 : w29.cell? ⟨w.heap.size, 2, none⟩ = some (Value.string a.s) := b0.out.cell 2 rfl
  have fb03 : w29.cell? ⟨w.heap.size, 3, none⟩ = some (Value.slice A0 a.list.length c0) := b0.out.cell 3 rfl
  have fb04 : w29.cell? ⟨w.heap.size, 4, none⟩ = some (Value.slice A0B a.names.length c0B) := b0.out.cell 4 rfl
  have fb10 : w29.cell? ⟨w.heap.size + 1, 0, none⟩ = some (Value.int IntKind.i64 b.kind) := b1.out.cell 0 rfl
  have fb11 : w29.cell? ⟨w.heap.size + 1, 1, none⟩ = some (Value.int IntKind.i64 b.n) := b1.out.cell 1 rfl
  have fb12 : w29.cell? ⟨w.heap.size + 1, 2, none⟩ = some (Value.string b.s) := b1.out.cell 2 rfl
  have fb13 : w29.cell? ⟨w.heap.size + 1, 3, none⟩ = some (Value.slice A1 b.list.length c1) := b1.out.cell 3 rfl
  have fb14 : w29.cell? ⟨w.heap.size + 1, 4, none⟩ = some (Value.slice A1B b.names.length c1B) := b1.out.cell 4 rfl
  have fBx00 : w29.cell? ⟨w11.heap.size, 0, none⟩ = some (Value.int IntKind.i64 a.kind) := Bx0.out.cell 0 rfl
  have fBx01 : w29.cell? ⟨w11.heap.size, 1, none⟩ = some (Value.int IntKind.i64 a.n) := Bx0.out.cell 1 rfl
  have fBx02 : w29.cell? ⟨w11.heap.size, 2, none⟩ = some (Value.string a.s) := Bx0.out.cell 2 rfl
  have fBx03 : w29.cell? ⟨w11.heap.size, 3, none⟩ = some (Value.slice Ax0 a.list.length cx0) := Bx0.out.cell 3 rfl
  have fBx04 : w29.cell? ⟨w11.heap.size, 4, none⟩ = some (Value.slice Ax0B a.names.length cx0B) := Bx0.out.cell 4 rfl
  have fBx10 : w29.cell? ⟨w13.heap.size, 0, none⟩ = some (Value.int IntKind.i64 b.kind) := Bx1.out.cell 0 rfl
  have fBx11 : w29.cell? ⟨w13.heap.size, 1, none⟩ = some (Value.int IntKind.i64 b.n) := Bx1.out.cell 1 rfl
  have fBx12 : w29.cell? ⟨w13.heap.size, 2, none⟩ = some (Value.string b.s) := Bx1.out.cell 2 rfl
  have fBx13 : w29.cell? ⟨w13.heap.size, 3, none⟩ = some (Value.slice Ax1 b.list.length cx1) := Bx1.out.cell 3 rfl
  have fBx14 : w29.cell? ⟨w13.heap.size, 4, none⟩ = some (Value.slice Ax1B b.names.length cx1B) := Bx1.out.cell 4 rfl
  go_wp2_with fail
  clear fb00 fb01 fb02 fb03 fb04 fb10 fb11 fb12 fb13 fb14 fBx00 fBx01 fBx02 fBx03 fBx04 fBx10 fBx11 fBx12 fBx13 fBx14
  apply calls_gen; intro W30 hW
  have hE : Below w29.heap.size w29 W30 := by rw [hW]; (repeat (first | with_reducible refine below_alloc ?_ _ | with_reducible refine below_drew ?_)); exact Below.refl _ _
  clear hW
  replace b0 := Hd.mk (b0.out.below hE)
  replace eb0 := Hd.mk (Nat.le_trans eb0.out hE.size)
  replace b1 := Hd.mk (b1.out.below hE)
  replace eb1 := Hd.mk (Nat.le_trans eb1.out hE.size)
  replace w0 := Hd.mk (R_below w0.out hE)
  replace ew0 := Hd.mk (Nat.le_trans ew0.out hE.size)
  replace Bx0 := Hd.mk (Bx0.out.below hE)
  replace eBx0 := Hd.mk (Nat.le_trans eBx0.out hE.size)
  replace Bx1 := Hd.mk (Bx1.out.below hE)
  replace eBx1 := Hd.mk (Nat.le_trans eBx1.out hE.size)
  replace g0 := Hd.mk (R_below g0.out hE)
  replace eg0 := Hd.mk (Nat.le_trans eg0.out hE.size)
  replace hB := Hd.mk (below_then hB.out hE)
  clear hE
  refine (laws_eqOpS _ _ _ _ y y _ (R_Cv g0.out) (R_Cv w0.out)).mono ?_
  rintro e w31 ⟨rfl, hX⟩
  replace b0 := Hd.mk (b0.out.below hX)
  replace eb0 := Hd.mk (Nat.le_trans eb0.out hX.size)
  replace b1 := Hd.mk (b1.out.below hX)
  replace eb1 := Hd.mk (Nat.le_trans eb1.out hX.size)
  replace w0 := Hd.mk (R_below w0.out hX)
  replace ew0 := Hd.mk (Nat.le_trans ew0.out hX.size)
  replace Bx0 := Hd.mk (Bx0.out.below hX)
  replace eBx0 := Hd.mk (Nat.le_trans eBx0.out hX.size)
  replace Bx1 := Hd.mk (Bx1.out.below hX)
  replace eBx1 := Hd.mk (Nat.le_trans eBx1.out hX.size)
  replace g0 := Hd.mk (R_below g0.out hX)
  replace eg0 := Hd.mk (Nat.le_trans eg0.out hX.size)
  replace hB := Hd.mk (below_then hB.out hX)
  clear hX
  rw [eqv_self]
  have fb00 : w31.cell? ⟨w.heap.size, 0, none⟩ = some (Value.int IntKind.i64 a.kind) := b0.out.cell 0 rfl
  have fb01 : w31.cell? ⟨w.heap.size, 1, none⟩ = some (Value.int IntKind.i64 a.n) := b0.out.cell 1 rfl
  have fb02 : w31.cell? ⟨w.heap.size, 2, none⟩ = some (Value.string a.s) := b0.out.cell 2 rfl
  have fb03 : w31.cell? ⟨w.heap.size, 3, none⟩ = some (Value.slice A0 a.list.length c0) := b0.out.cell 3 rfl
  have fb04 : w31.cell? ⟨w.heap.size, 4, none⟩ = some (Value.slice A0B a.names.length c0B) := b0.out.cell 4 rfl
  have fb10 : w31.cell? ⟨w.heap.size + 1, 0, none⟩ = some (Value.int IntKind.i64 b.kind) := b1.out.cell 0 rfl
  have fb11 : w31.cell? ⟨w.heap.size + 1, 1, none⟩ = some (Value.int IntKind.i64 b.n) := b1.out.cell 1 rfl
  have fb12 : w31.cell? ⟨w.heap.size + 1, 2, none⟩ = some (Value.string b.s) := b1.out.cell 2 rfl
  have fb13 : w31.cell? ⟨w.heap.size + 1, 3, none⟩ = some (Value.slice A1 b.list.length c1) := b1.out.cell 3 rfl
  have fb14 : w31.cell? ⟨w.heap.size + 1, 4, none⟩ = some (Value.slice A1B b.names.length c1B) := b1.out.cell 4 rfl
  have fBx00 : w31.cell? ⟨w11.heap.size, 0, none⟩ = some (Value.int IntKind.i64 a.kind) := Bx0.out.cell 0 rfl
  have fBx01 : w31.cell? ⟨w11.heap.size, 1, none⟩ = some (Value.int IntKind.i64 a.n) := Bx0.out.cell 1 rfl
  have fBx02 : w31.cell? ⟨w11.heap.size, 2, none⟩ = some (Value.string a.s) := Bx0.out.cell 2 rfl
  have fBx03 : w31.cell? ⟨w11.heap.size, 3, none⟩ = some (Value.slice Ax0 a.list.length cx0) := Bx0.out.cell 3 rfl
  have fBx04 : w31.cell? ⟨w11.heap.size, 4, none⟩ = some (Value.slice Ax0B a.names.length cx0B) := Bx0.out.cell 4 rfl
  have fBx10 : w31.cell? ⟨w13.heap.size, 0, none⟩ = some (Value.int IntKind.i64 b.kind) := Bx1.out.cell 0 rfl
  have fBx11 : w31.cell? ⟨w13.heap.size, 1, none⟩ = some (Value.int IntKind.i64 b.n) := Bx1.out.cell 1 rfl
  have fBx12 : w31.cell? ⟨w13.heap.size, 2, none⟩ = some (Value.string b.s) := Bx1.out.cell 2 rfl
  have fBx13 : w31.cell? ⟨w13.heap.size, 3, none⟩ = some (Value.slice Ax1 b.list.length cx1) := Bx1.out.cell 3 rfl
  have fBx14 : w31.cell? ⟨w13.heap.size, 4, none⟩ = some (Value.slice Ax1B b.names.length cx1B) := Bx1.out.cell 4 rfl
  go_wp2_with fail
  clear fb00 fb01 fb02 fb03 fb04 fb10 fb11 fb12 fb13 fb14 fBx00 fBx01 fBx02 fBx03 fBx04 fBx10 fBx11 fBx12 fBx13 fBx14
  apply calls_gen; intro W32 hW
  have hE : Below w31.heap.size w31 W32 := by rw [hW]; (repeat (first | with_reducible refine below_alloc ?_ _ | with_reducible refine below_drew ?_)); exact Below.refl _ _
  clear hW
  replace b0 := Hd.mk (b0.out.below hE)
  replace eb0 := Hd.mk (Nat.le_trans eb0.out hE.size)
  replace b1 := Hd.mk (b1.out.below hE)
  replace eb1 := Hd.mk (Nat.le_trans eb1.out hE.size)
  replace w0 := Hd.mk (R_below w0.out hE)
  replace ew0 := Hd.mk (Nat.le_trans ew0.out hE.size)
  replace Bx0 := Hd.mk (Bx0.out.below hE)
  replace eBx0 := Hd.mk (Nat.le_trans eBx0.out hE.size)
  replace Bx1 := Hd.mk (Bx1.out.below hE)
  replace eBx1 := Hd.mk (Nat.le_trans eBx1.out hE.size)
  replace g0 := Hd.mk (R_below g0.out hE)
  replace eg0 := Hd.mk (Nat.le_trans eg0.out hE.size)
  replace hB := Hd.mk (below_then hB.out hE)
  clear hE
  refine (laws_markOpS _ _ (1) _ g0.out (by omega) (by omega)).mono ?_
  rintro e w33 ⟨rfl, hM, hX⟩
  have hsz_ := hX.size
  replace b0 := Hd.mk (b0.out.fr hX (rng_not (Or.inl db0_g0.out)))
  replace eb0 := Hd.mk (Nat.le_trans eb0.out hsz_)
  replace b1 := Hd.mk (b1.out.fr hX (rng_not (Or.inl db1_g0.out)))
  replace eb1 := Hd.mk (Nat.le_trans eb1.out hsz_)
  replace w0 := Hd.mk (R_fr w0.out hX (rng_off (Or.inl dw0_g0.out)))
  replace ew0 := Hd.mk (Nat.le_trans ew0.out hsz_)
  replace Bx0 := Hd.mk (Bx0.out.fr hX (rng_not (Or.inl dBx0_g0.out)))
  replace eBx0 := Hd.mk (Nat.le_trans eBx0.out hsz_)
  replace Bx1 := Hd.mk (Bx1.out.fr hX (rng_not (Or.inl dBx1_g0.out)))
  replace eBx1 := Hd.mk (Nat.le_trans eBx1.out hsz_)
  replace eg0 := Hd.mk (Nat.le_trans eg0.out hsz_)
  replace hB := Hd.mk (below_rng hB.out hX ag0.out)
  clear hsz_
  clear hX
  replace g0 := Hd.mk hM; clear hM
  have hqp : (0 : Int) ≤ 1 + (bulkL (cnOp (m + 1)) y : Int) := by omega
  have fb00 : w33.cell? ⟨w.heap.size, 0, none⟩ = some (Value.int IntKind.i64 a.kind) := b0.out.cell 0 rfl
  have fb01 : w33.cell? ⟨w.heap.size, 1, none⟩ = some (Value.int IntKind.i64 a.n) := b0.out.cell 1 rfl
  have fb02 : w33.cell? ⟨w.heap.size, 2, none⟩ = some (Value.string a.s) := b0.out.cell 2 rfl
  have fb03 : w33.cell? ⟨w.heap.size, 3, none⟩ = some (Value.slice A0 a.list.length c0) := b0.out.cell 3 rfl
  have fb04 : w33.cell? ⟨w.heap.size, 4, none⟩ = some (Value.slice A0B a.names.length c0B) := b0.out.cell 4 rfl
  have fb10 : w33.cell? ⟨w.heap.size + 1, 0, none⟩ = some (Value.int IntKind.i64 b.kind) := b1.out.cell 0 rfl
  have fb11 : w33.cell? ⟨w.heap.size + 1, 1, none⟩ = some (Value.int IntKind.i64 b.n) := b1.out.cell 1 rfl
  have fb12 : w33.cell? ⟨w.heap.size + 1, 2, none⟩ = some (Value.string b.s) := b1.out.cell 2 rfl
  have fb13 : w33.cell? ⟨w.heap.size + 1, 3, none⟩ = some (Value.slice A1 b.list.length c1) := b1.out.cell 3 rfl
  have fb14 : w33.cell? ⟨w.heap.size + 1, 4, none⟩ = some (Value.slice A1B b.names.length c1B) := b1.out.cell 4 rfl
  have fBx00 : w33.cell? ⟨w11.heap.size, 0, none⟩ = some (Value.int IntKind.i64 a.kind) := Bx0.out.cell 0 rfl
  have fBx01 : w33.cell? ⟨w11.heap.size, 1, none⟩ = some (Value.int IntKind.i64 a.n) := Bx0.out.cell 1 rfl
  have fBx02 : w33.cell? ⟨w11.heap.size, 2, none⟩ = some (Value.string a.s) := Bx0.out.cell 2 rfl
  have fBx03 : w33.cell? ⟨w11.heap.size, 3, none⟩ = some (Value.slice Ax0 a.list.length cx0) := Bx0.out.cell 3 rfl
  have fBx04 : w33.cell? ⟨w11.heap.size, 4, none⟩ = some (Value.slice Ax0B a.names.length cx0B) := Bx0.out.cell 4 rfl
  have fBx10 : w33.cell? ⟨w13.heap.size, 0, none⟩ = some (Value.int IntKind.i64 b.kind) := Bx1.out.cell 0 rfl
  have fBx11 : w33.cell? ⟨w13.heap.size, 1, none⟩ = some (Value.int IntKind.i64 b.n) := Bx1.out.cell 1 rfl
  have fBx12 : w33.cell? ⟨w13.heap.size, 2, none⟩ = some (Value.string b.s) := Bx1.out.cell 2 rfl
  have fBx13 : w33.cell? ⟨w13.heap.size, 3, none⟩ = some (Value.slice Ax1 b.list.length cx1) := Bx1.out.cell 3 rfl
  have fBx14 : w33.cell? ⟨w13.heap.size, 4, none⟩ = some (Value.slice Ax1B b.names.length cx1B) := Bx1.out.cell 4 rfl
  go_wp2_with fail
  clear fb00 fb01 fb02 fb03 fb04 fb10 fb11 fb12 fb13 fb14 fBx00 fBx01 fBx02 fBx03 fBx04 fBx10 fBx11 fBx12 fBx13 fBx14
  apply calls_gen; intro W34 hW
  have hE : Below w33.heap.size w33 W34 := by rw [hW]; (repeat (first | with_reducible refine below_alloc ?_ _ | with_reducible refine below_drew ?_)); exact Below.refl _ _
  clear hW
  replace b0 := Hd.mk (b0.out.below hE)
  replace eb0 := Hd.mk (Nat.le_trans eb0.out hE.size)
  replace b1 := Hd.mk (b1.out.below hE)
  replace eb1 := Hd.mk (Nat.le_trans eb1.out hE.size)
  replace w0 := Hd.mk (R_below w0.out hE)
  replace ew0 := Hd.mk (Nat.le_trans ew0.out hE.size)
  replace Bx0 := Hd.mk (Bx0.out.below hE)
  replace eBx0 := Hd.mk (Nat.le_trans eBx0.out hE.size)
  replace Bx1 := Hd.mk (Bx1.out.below hE)
  replace eBx1 := Hd.mk (Nat.le_trans eBx1.out hE.size)
  replace g0 := Hd.mk (R_below g0.out hE)
  replace eg0 := Hd.mk (Nat.le_trans eg0.out hE.size)
  replace hB := Hd.mk (below_then hB.out hE)
  clear hE
  have hlen : (markL (mkOp (m + 1)) (cnOp (m + 1)) 1 y).length = y.length := markL_length _ _
  rw [← hlen]
  refine (laws_heldOpS _ _ _ y 1 _ (R_Cv g0.out) rfl (by omega) (by omega)).mono ?_
  rintro e w35 ⟨rfl, hX⟩
  replace b0 := Hd.mk (b0.out.below hX)
  replace eb0 := Hd.mk (Nat.le_trans eb0.out hX.size)
  replace b1 := Hd.mk (b1.out.below hX)
  replace eb1 := Hd.mk (Nat.le_trans eb1.out hX.size)
  replace w0 := Hd.mk (R_below w0.out hX)
  replace ew0 := Hd.mk (Nat.le_trans ew0.out hX.size)
  replace Bx0 := Hd.mk (Bx0.out.below hX)
  replace eBx0 := Hd.mk (Nat.le_trans eBx0.out hX.size)
  replace Bx1 := Hd.mk (Bx1.out.below hX)
  replace eBx1 := Hd.mk (Nat.le_trans eBx1.out hX.size)
  replace g0 := Hd.mk (R_below g0.out hX)
  replace eg0 := Hd.mk (Nat.le_trans eg0.out hX.size)
  replace hB := Hd.mk (below_then hB.out hX)
  clear hX
  have fb00 : w35.cell? ⟨w.heap.size, 0, none⟩ = some (Value.int IntKind.i64 a.kind) := b0.out.cell 0 rfl
  have fb01 : w35.cell? ⟨w.heap.size, 1, none⟩ = some (Value.int IntKind.i64 a.n) := b0.out.cell 1 rfl
  have fb02 : w35.cell? ⟨w.heap.size, 2, none⟩ = some (Value.string a.s) := b0.out.cell 2 rfl
  have fb03 : w35.cell? ⟨w.heap.size, 3, none⟩ = some (Value.slice A0 a.list.length c0) := b0.out.cell 3 rfl
  have fb04 : w35.cell? ⟨w.heap.size, 4, none⟩ = some (Value.slice A0B a.names.length c0B) := b0.out.cell 4 rfl
  have fb10 : w35.cell? ⟨w.heap.size + 1, 0, none⟩ = some (Value.int IntKind.i64 b.kind) := b1.out.cell 0 rfl
  have fb11 : w35.cell? ⟨w.heap.size + 1, 1, none⟩ = some (Value.int IntKind.i64 b.n) := b1.out.cell 1 rfl
  have fb12 : w35.cell? ⟨w.heap.size + 1, 2, none⟩ = some (Value.string b.s) := b1.out.cell 2 rfl
  have fb13 : w35.cell? ⟨w.heap.size + 1, 3, none⟩ = some (Value.slice A1 b.list.length c1) := b1.out.cell 3 rfl
  have fb14 : w35.cell? ⟨w.heap.size + 1, 4, none⟩ = some (Value.slice A1B b.names.length c1B) := b1.out.cell 4 rfl
  have fBx00 : w35.cell? ⟨w11.heap.size, 0, none⟩ = some (Value.int IntKind.i64 a.kind) := Bx0.out.cell 0 rfl
  have fBx01 : w35.cell? ⟨w11.heap.size, 1, none⟩ = some (Value.int IntKind.i64 a.n) := Bx0.out.cell 1 rfl
  have fBx02 : w35.cell? ⟨w11.heap.size, 2, none⟩ = some (Value.string a.s) := Bx0.out.cell 2 rfl
  have fBx03 : w35.cell? ⟨w11.heap.size, 3, none⟩ = some (Value.slice Ax0 a.list.length cx0) := Bx0.out.cell 3 rfl
  have fBx04 : w35.cell? ⟨w11.heap.size, 4, none⟩ = some (Value.slice Ax0B a.names.length cx0B) := Bx0.out.cell 4 rfl
  have fBx10 : w35.cell? ⟨w13.heap.size, 0, none⟩ = some (Value.int IntKind.i64 b.kind) := Bx1.out.cell 0 rfl
  have fBx11 : w35.cell? ⟨w13.heap.size, 1, none⟩ = some (Value.int IntKind.i64 b.n) := Bx1.out.cell 1 rfl
  have fBx12 : w35.cell? ⟨w13.heap.size, 2, none⟩ = some (Value.string b.s) := Bx1.out.cell 2 rfl
  have fBx13 : w35.cell? ⟨w13.heap.size, 3, none⟩ = some (Value.slice Ax1 b.list.length cx1) := Bx1.out.cell 3 rfl
  have fBx14 : w35.cell? ⟨w13.heap.size, 4, none⟩ = some (Value.slice Ax1B b.names.length cx1B) := Bx1.out.cell 4 rfl
  go_wp2_with fail
  clear fb00 fb01 fb02 fb03 fb04 fb10 fb11 fb12 fb13 fb14 fBx00 fBx01 fBx02 fBx03 fBx04 fBx10 fBx11 fBx12 fBx13 fBx14
  have fb00 : w35.cell? ⟨w.heap.size, 0, none⟩ = some (Value.int IntKind.i64 a.kind) := b0.out.cell 0 rfl
  have fb01 : w35.cell? ⟨w.heap.size, 1, none⟩ = some (Value.int IntKind.i64 a.n) := b0.out.cell 1 rfl
  have fb02 : w35.cell? ⟨w.heap.size, 2, none⟩ = some (Value.string a.s) := b0.out.cell 2 rfl
  have fb03 : w35.cell? ⟨w.heap.size, 3, none⟩ = some (Value.slice A0 a.list.length c0) := b0.out.cell 3 rfl
  have fb04 : w35.cell? ⟨w.heap.size, 4, none⟩ = some (Value.slice A0B a.names.length c0B) := b0.out.cell 4 rfl
  have fb10 : w35.cell? ⟨w.heap.size + 1, 0, none⟩ = some (Value.int IntKind.i64 b.kind) := b1.out.cell 0 rfl
  have fb11 : w35.cell? ⟨w.heap.size + 1, 1, none⟩ = some (Value.int IntKind.i64 b.n) := b1.out.cell 1 rfl
  have fb12 : w35.cell? ⟨w.heap.size + 1, 2, none⟩ = some (Value.string b.s) := b1.out.cell 2 rfl
  have fb13 : w35.cell? ⟨w.heap.size + 1, 3, none⟩ = some (Value.slice A1 b.list.length c1) := b1.out.cell 3 rfl
  have fb14 : w35.cell? ⟨w.heap.size + 1, 4, none⟩ = some (Value.slice A1B b.names.length c1B) := b1.out.cell 4 rfl
  have fBx00 : w35.cell? ⟨w11.heap.size, 0, none⟩ = some (Value.int IntKind.i64 a.kind) := Bx0.out.cell 0 rfl
  have fBx01 : w35.cell? ⟨w11.heap.size, 1, none⟩ = some (Value.int IntKind.i64 a.n) := Bx0.out.cell 1 rfl
  have fBx02 : w35.cell? ⟨w11.heap.size, 2, none⟩ = some (Value.string a.s) := Bx0.out.cell 2 rfl
  have fBx03 : w35.cell? ⟨w11.heap.size, 3, none⟩ = some (Value.slice Ax0 a.list.length cx0) := Bx0.out.cell 3 rfl
  have fBx04 : w35.cell? ⟨w11.heap.size, 4, none⟩ = some (Value.slice Ax0B a.names.length cx0B) := Bx0.out.cell 4 rfl
  have fBx10 : w35.cell? ⟨w13.heap.size, 0, none⟩ = some (Value.int IntKind.i64 b.kind) := Bx1.out.cell 0 rfl
  have fBx11 : w35.cell? ⟨w13.heap.size, 1, none⟩ = some (Value.int IntKind.i64 b.n) := Bx1.out.cell 1 rfl
  have fBx12 : w35.cell? ⟨w13.heap.size, 2, none⟩ = some (Value.string b.s) := Bx1.out.cell 2 rfl
  have fBx13 : w35.cell? ⟨w13.heap.size, 3, none⟩ = some (Value.slice Ax1 b.list.length cx1) := Bx1.out.cell 3 rfl
  have fBx14 : w35.cell? ⟨w13.heap.size, 4, none⟩ = some (Value.slice Ax1B b.names.length cx1B) := Bx1.out.cell 4 rfl
  have rfb00 := cell_regrown fb00
  have rfb01 := cell_regrown fb01
  have rfb02 := cell_regrown fb02
  have rfb03 := cell_regrown fb03
  have rfb04 := cell_regrown fb04
  have rfb10 := cell_regrown fb10
  have rfb11 := cell_regrown fb11
  have rfb12 := cell_regrown fb12
  have rfb13 := cell_regrown fb13
  have rfb14 := cell_regrown fb14
  have rfBx00 := cell_regrown fBx00
  have rfBx01 := cell_regrown fBx01
  have rfBx02 := cell_regrown fBx02
  have rfBx03 := cell_regrown fBx03
  have rfBx04 := cell_regrown fBx04
  have rfBx10 := cell_regrown fBx10
  have rfBx11 := cell_regrown fBx11
  have rfBx12 := cell_regrown fBx12
  have rfBx13 := cell_regrown fBx13
  have rfBx14 := cell_regrown fBx14
  refine region_mix [(true, 0), (true, 2), (false, 1), (false, 3), (false, 4), (true, 5)] (by kernel_rfl) (by kernel_rfl) (fun _ _ _ _ _ h => h) ?_
  try (repeat (refine mix_q rfl ?_; go_big_quiet_want; go_big_quiet_op; go_big_quiet_on; refine wpQuiet_nil ?_))
  refine mix_b rfl ?_ (by rfl)
  go_wp2_with fail
  clear rfb00 rfb01 rfb02 rfb03 rfb04 rfb10 rfb11 rfb12 rfb13 rfb14 rfBx00 rfBx01 rfBx02 rfBx03 rfBx04 rfBx10 rfBx11 rfBx12 rfBx13 rfBx14
  clear fb00 fb01 fb02 fb03 fb04 fb10 fb11 fb12 fb13 fb14 fBx00 fBx01 fBx02 fBx03 fBx04 fBx10 fBx11 fBx12 fBx13 fBx14
  have hS := Hd.mk (Below.refl w35.heap.size w35)
  apply calls_gen; intro W36 hW
  have hE : Below w35.heap.size w35 W36 := by rw [hW]; (repeat (first | with_reducible refine below_alloc ?_ _ | with_reducible refine below_drew ?_)); exact Below.refl _ _
  clear hW
  replace b0 := Hd.mk (b0.out.below hE)
  replace eb0 := Hd.mk (Nat.le_trans eb0.out hE.size)
  replace b1 := Hd.mk (b1.out.below hE)
  replace eb1 := Hd.mk (Nat.le_trans eb1.out hE.size)
  replace w0 := Hd.mk (R_below w0.out hE)
  replace ew0 := Hd.mk (Nat.le_trans ew0.out hE.size)
  replace Bx0 := Hd.mk (Bx0.out.below hE)
  replace eBx0 := Hd.mk (Nat.le_trans eBx0.out hE.size)
  replace Bx1 := Hd.mk (Bx1.out.below hE)
  replace eBx1 := Hd.mk (Nat.le_trans eBx1.out hE.size)
  replace g0 := Hd.mk (R_below g0.out hE)
  replace eg0 := Hd.mk (Nat.le_trans eg0.out hE.size)
  replace hB := Hd.mk (below_then hB.out hE)
  replace hS := Hd.mk (below_then hS.out hE)
  clear hE
  refine (laws_toJson a _ _ ((tJ (m + 1)).K_below hB.out hK0.out) HL0.out.1).mono ?_
  rintro e w37 ⟨cs_, rfl, hO, hX⟩
  have db0_r0 := Hd.mk eb0.out
  have db1_r0 := Hd.mk eb1.out
  have dw0_r0 := Hd.mk ew0.out
  have dBx0_r0 := Hd.mk eBx0.out
  have dBx1_r0 := Hd.mk eBx1.out
  have dg0_r0 := Hd.mk eg0.out
  have ar0 := Hd.mk hB.out.size
  replace b0 := Hd.mk (b0.out.below hX)
  replace eb0 := Hd.mk (Nat.le_trans eb0.out hX.size)
  replace b1 := Hd.mk (b1.out.below hX)
  replace eb1 := Hd.mk (Nat.le_trans eb1.out hX.size)
  replace w0 := Hd.mk (R_below w0.out hX)
  replace ew0 := Hd.mk (Nat.le_trans ew0.out hX.size)
  replace Bx0 := Hd.mk (Bx0.out.below hX)
  replace eBx0 := Hd.mk (Nat.le_trans eBx0.out hX.size)
  replace Bx1 := Hd.mk (Bx1.out.below hX)
  replace eBx1 := Hd.mk (Nat.le_trans eBx1.out hX.size)
  replace g0 := Hd.mk (R_below g0.out hX)
  replace eg0 := Hd.mk (Nat.le_trans eg0.out hX.size)
  replace hB := Hd.mk (below_then hB.out hX)
  replace hS := Hd.mk (below_then hS.out hX)
  clear hX
  replace hO := Ty.O_bound _ hO
  obtain ⟨v_, u_, _, _, hcs, _, r1, r2, _⟩ := tJ_O.1 hO
  subst hcs
  obtain ⟨Ar0, cr0, hv_, hcr0, _⟩ := R_C r1
  subst hv_
  clear r1
  obtain ⟨Ar0B, cr0B, hv_, hcr0B, _⟩ := R_C r2
  subst hv_
  clear r2
  have r0 := Hd.mk (show (tJ (m + 1)).O w37 (rng W36.heap.size w37.heap.size) a [Value.int IntKind.i64 a.kind, Value.int IntKind.i64 a.n, Value.string a.s, Value.slice Ar0 a.list.length cr0, Value.slice Ar0B a.names.length cr0B] from hO); clear hO
  have er0 := Hd.mk (Nat.le_refl w37.heap.size)
  have fb00 : w37.cell? ⟨w.heap.size, 0, none⟩ = some (Value.int IntKind.i64 a.kind) := b0.out.cell 0 rfl
  have fb01 : w37.cell? ⟨w.heap.size, 1, none⟩ = some (Value.int IntKind.i64 a.n) := b0.out.cell 1 rfl
  have fb02 : w37.cell? ⟨w.heap.size, 2, none⟩ = some (Value.string a.s) := b0.out.cell 2 rfl
  have fb03 : w37.cell? ⟨w.heap.size, 3, none⟩ = some (Value.slice A0 a.list.length c0) := b0.out.cell 3 rfl
  have fb04 : w37.cell? ⟨w.heap.size, 4, none⟩ = some (Value.slice A0B a.names.length c0B) := b0.out.cell 4 rfl
  have fb10 : w37.cell? ⟨w.heap.size + 1, 0, none⟩ = some (Value.int IntKind.i64 b.kind) := b1.out.cell 0 rfl
  have fb11 : w37.cell? ⟨w.heap.size + 1, 1, none⟩ = some (Value.int IntKind.i64 b.n) := b1.out.cell 1 rfl
  have fb12 : w37.cell? ⟨w.heap.size + 1, 2, none⟩ = some (Value.string b.s) := b1.out.cell 2 rfl
  have fb13 : w37.cell? ⟨w.heap.size + 1, 3, none⟩ = some (Value.slice A1 b.list.length c1) := b1.out.cell 3 rfl
  have fb14 : w37.cell? ⟨w.heap.size + 1, 4, none⟩ = some (Value.slice A1B b.names.length c1B) := b1.out.cell 4 rfl
  have fBx00 : w37.cell? ⟨w11.heap.size, 0, none⟩ = some (Value.int IntKind.i64 a.kind) := Bx0.out.cell 0 rfl
  have fBx01 : w37.cell? ⟨w11.heap.size, 1, none⟩ = some (Value.int IntKind.i64 a.n) := Bx0.out.cell 1 rfl
  have fBx02 : w37.cell? ⟨w11.heap.size, 2, none⟩ = some (Value.string a.s) := Bx0.out.cell 2 rfl
  have fBx03 : w37.cell? ⟨w11.heap.size, 3, none⟩ = some (Value.slice Ax0 a.list.length cx0) := Bx0.out.cell 3 rfl
  have fBx04 : w37.cell? ⟨w11.heap.size, 4, none⟩ = some (Value.slice Ax0B a.names.length cx0B) := Bx0.out.cell 4 rfl
  have fBx10 : w37.cell? ⟨w13.heap.size, 0, none⟩ = some (Value.int IntKind.i64 b.kind) := Bx1.out.cell 0 rfl
  have fBx11 : w37.cell? ⟨w13.heap.size, 1, none⟩ = some (Value.int IntKind.i64 b.n) := Bx1.out.cell 1 rfl
  have fBx12 : w37.cell? ⟨w13.heap.size, 2, none⟩ = some (Value.string b.s) := Bx1.out.cell 2 rfl
  have fBx13 : w37.cell? ⟨w13.heap.size, 3, none⟩ = some (Value.slice Ax1 b.list.length cx1) := Bx1.out.cell 3 rfl
  have fBx14 : w37.cell? ⟨w13.heap.size, 4, none⟩ = some (Value.slice Ax1B b.names.length cx1B) := Bx1.out.cell 4 rfl
  go_wp2_with fail
  refine ⟨cls_below hS.out, ?_⟩
  refine mix_b rfl ?_ (by rfl)
  go_wp2_with fail
  clear fb00 fb01 fb02 fb03 fb04 fb10 fb11 fb12 fb13 fb14 fBx00 fBx01 fBx02 fBx03 fBx04 fBx10 fBx11 fBx12 fBx13 fBx14
  apply calls_gen; intro W38 hW
  have hE : Below w37.heap.size w37 W38 := by rw [hW]; (repeat (first | with_reducible refine below_alloc ?_ _ | with_reducible refine below_drew ?_)); exact Below.refl _ _
  clear hW
  replace b0 := Hd.mk (b0.out.below hE)
  replace eb0 := Hd.mk (Nat.le_trans eb0.out hE.size)
  replace b1 := Hd.mk (b1.out.below hE)
  replace eb1 := Hd.mk (Nat.le_trans eb1.out hE.size)
  replace w0 := Hd.mk (R_below w0.out hE)
  replace ew0 := Hd.mk (Nat.le_trans ew0.out hE.size)
  replace Bx0 := Hd.mk (Bx0.out.below hE)
  replace eBx0 := Hd.mk (Nat.le_trans eBx0.out hE.size)
  replace Bx1 := Hd.mk (Bx1.out.below hE)
  replace eBx1 := Hd.mk (Nat.le_trans eBx1.out hE.size)
  replace g0 := Hd.mk (R_below g0.out hE)
  replace eg0 := Hd.mk (Nat.le_trans eg0.out hE.size)
  replace r0 := Hd.mk (Ty.O_below r0.out hE)
  replace er0 := Hd.mk (Nat.le_trans er0.out hE.size)
  replace hB := Hd.mk (below_then hB.out hE)
  replace hS := Hd.mk (below_then hS.out hE)
  clear hE
  refine (laws_toJson b _ _ ((tJ (m + 1)).K_below hB.out hK1.out) HL1.out.1).mono ?_
  rintro e w39 ⟨cs_, rfl, hO, hX⟩
  have db0_r1 := Hd.mk eb0.out
  have db1_r1 := Hd.mk eb1.out
  have dw0_r1 := Hd.mk ew0.out
  have dBx0_r1 := Hd.mk eBx0.out
  have dBx1_r1 := Hd.mk eBx1.out
  have dg0_r1 := Hd.mk eg0.out
  have dr0_r1 := Hd.mk er0.out
  have ar1 := Hd.mk hB.out.size
  replace b0 := Hd.mk (b0.out.below hX)
  replace eb0 := Hd.mk (Nat.le_trans eb0.out hX.size)
  replace b1 := Hd.mk (b1.out.below hX)
  replace eb1 := Hd.mk (Nat.le_trans eb1.out hX.size)
  replace w0 := Hd.mk (R_below w0.out hX)
  replace ew0 := Hd.mk (Nat.le_trans ew0.out hX.size)
  replace Bx0 := Hd.mk (Bx0.out.below hX)
  replace eBx0 := Hd.mk (Nat.le_trans eBx0.out hX.size)
  replace Bx1 := Hd.mk (Bx1.out.below hX)
  replace eBx1 := Hd.mk (Nat.le_trans eBx1.out hX.size)
  replace g0 := Hd.mk (R_below g0.out hX)
  replace eg0 := Hd.mk (Nat.le_trans eg0.out hX.size)
  replace r0 := Hd.mk (Ty.O_below r0.out hX)
  replace er0 := Hd.mk (Nat.le_trans er0.out hX.size)
  replace hB := Hd.mk (below_then hB.out hX)
  replace hS := Hd.mk (below_then hS.out hX)
  clear hX
  replace hO := Ty.O_bound _ hO
  obtain ⟨v_, u_, _, _, hcs, _, r1, r2, _⟩ := tJ_O.1 hO
  subst hcs
  obtain ⟨Ar1, cr1, hv_, hcr1, _⟩ := R_C r1
  subst hv_
  clear r1
  obtain ⟨Ar1B, cr1B, hv_, hcr1B, _⟩ := R_C r2
  subst hv_
  clear r2
  have r1 := Hd.mk (show (tJ (m + 1)).O w39 (rng W38.heap.size w39.heap.size) b [Value.int IntKind.i64 b.kind, Value.int IntKind.i64 b.n, Value.string b.s, Value.slice Ar1 b.list.length cr1, Value.slice Ar1B b.names.length cr1B] from hO); clear hO
  have er1 := Hd.mk (Nat.le_refl w39.heap.size)
  have fb00 : w39.cell? ⟨w.heap.size, 0, none⟩ = some (Value.int IntKind.i64 a.kind) := b0.out.cell 0 rfl
  have fb01 : w39.cell? ⟨w.heap.size, 1, none⟩ = some (Value.int IntKind.i64 a.n) := b0.out.cell 1 rfl
  have fb02 : w39.cell? ⟨w.heap.size, 2, none⟩ = some (Value.string a.s) := b0.out.cell 2 rfl
  have fb03 : w39.cell? ⟨w.heap.size, 3, none⟩ = some (Value.slice A0 a.list.length c0) := b0.out.cell 3 rfl
  have fb04 : w39.cell? ⟨w.heap.size, 4, none⟩ = some (Value.slice A0B a.names.length c0B) := b0.out.cell 4 rfl
  have fb10 : w39.cell? ⟨w.heap.size + 1, 0, none⟩ = some (Value.int IntKind.i64 b.kind) := b1.out.cell 0 rfl
  have fb11 : w39.cell? ⟨w.heap.size + 1, 1, none⟩ = some (Value.int IntKind.i64 b.n) := b1.out.cell 1 rfl
  have fb12 : w39.cell? ⟨w.heap.size + 1, 2, none⟩ = some (Value.string b.s) := b1.out.cell 2 rfl
  have fb13 : w39.cell? ⟨w.heap.size + 1, 3, none⟩ = some (Value.slice A1 b.list.length c1) := b1.out.cell 3 rfl
  have fb14 : w39.cell? ⟨w.heap.size + 1, 4, none⟩ = some (Value.slice A1B b.names.length c1B) := b1.out.cell 4 rfl
  have fBx00 : w39.cell? ⟨w11.heap.size, 0, none⟩ = some (Value.int IntKind.i64 a.kind) := Bx0.out.cell 0 rfl
  have fBx01 : w39.cell? ⟨w11.heap.size, 1, none⟩ = some (Value.int IntKind.i64 a.n) := Bx0.out.cell 1 rfl
  have fBx02 : w39.cell? ⟨w11.heap.size, 2, none⟩ = some (Value.string a.s) := Bx0.out.cell 2 rfl
  have fBx03 : w39.cell? ⟨w11.heap.size, 3, none⟩ = some (Value.slice Ax0 a.list.length cx0) := Bx0.out.cell 3 rfl
  have fBx04 : w39.cell? ⟨w11.heap.size, 4, none⟩ = some (Value.slice Ax0B a.names.length cx0B) := Bx0.out.cell 4 rfl
  have fBx10 : w39.cell? ⟨w13.heap.size, 0, none⟩ = some (Value.int IntKind.i64 b.kind) := Bx1.out.cell 0 rfl
  have fBx11 : w39.cell? ⟨w13.heap.size, 1, none⟩ = some (Value.int IntKind.i64 b.n) := Bx1.out.cell 1 rfl
  have fBx12 : w39.cell? ⟨w13.heap.size, 2, none⟩ = some (Value.string b.s) := Bx1.out.cell 2 rfl
  have fBx13 : w39.cell? ⟨w13.heap.size, 3, none⟩ = some (Value.slice Ax1 b.list.length cx1) := Bx1.out.cell 3 rfl
  have fBx14 : w39.cell? ⟨w13.heap.size, 4, none⟩ = some (Value.slice Ax1B b.names.length cx1B) := Bx1.out.cell 4 rfl
  go_wp2_with fail
  refine ⟨cls_below hS.out, ?_⟩
  refine mix_b rfl ?_ (by rfl)
  go_wp2_with fail
  clear fb00 fb01 fb02 fb03 fb04 fb10 fb11 fb12 fb13 fb14 fBx00 fBx01 fBx02 fBx03 fBx04 fBx10 fBx11 fBx12 fBx13 fBx14
  apply calls_gen; intro W40 hW
  have hE : Below w39.heap.size w39 W40 := by rw [hW]; (repeat (first | with_reducible refine below_alloc ?_ _ | with_reducible refine below_drew ?_)); exact Below.refl _ _
  clear hW
  replace b0 := Hd.mk (b0.out.below hE)
  replace eb0 := Hd.mk (Nat.le_trans eb0.out hE.size)
  replace b1 := Hd.mk (b1.out.below hE)
  replace eb1 := Hd.mk (Nat.le_trans eb1.out hE.size)
  replace w0 := Hd.mk (R_below w0.out hE)
  replace ew0 := Hd.mk (Nat.le_trans ew0.out hE.size)
  replace Bx0 := Hd.mk (Bx0.out.below hE)
  replace eBx0 := Hd.mk (Nat.le_trans eBx0.out hE.size)
  replace Bx1 := Hd.mk (Bx1.out.below hE)
  replace eBx1 := Hd.mk (Nat.le_trans eBx1.out hE.size)
  replace g0 := Hd.mk (R_below g0.out hE)
  replace eg0 := Hd.mk (Nat.le_trans eg0.out hE.size)
  replace r0 := Hd.mk (Ty.O_below r0.out hE)
  replace er0 := Hd.mk (Nat.le_trans er0.out hE.size)
  replace r1 := Hd.mk (Ty.O_below r1.out hE)
  replace er1 := Hd.mk (Nat.le_trans er1.out hE.size)
  replace hB := Hd.mk (below_then hB.out hE)
  replace hS := Hd.mk (below_then hS.out hE)
  clear hE
  refine (impl_Diff a b _ _ _ ((tJ (m + 1)).O_K r0.out) ((tJ (m + 1)).O_K r1.out)).mono ?_
  rintro e w41 ⟨v_, rfl, hO, hX⟩
  have db0_h0 := Hd.mk eb0.out
  have db1_h0 := Hd.mk eb1.out
  have dw0_h0 := Hd.mk ew0.out
  have dBx0_h0 := Hd.mk eBx0.out
  have dBx1_h0 := Hd.mk eBx1.out
  have dg0_h0 := Hd.mk eg0.out
  have dr0_h0 := Hd.mk er0.out
  have dr1_h0 := Hd.mk er1.out
  have ah0 := Hd.mk hB.out.size
  replace b0 := Hd.mk (b0.out.below hX)
  replace eb0 := Hd.mk (Nat.le_trans eb0.out hX.size)
  replace b1 := Hd.mk (b1.out.below hX)
  replace eb1 := Hd.mk (Nat.le_trans eb1.out hX.size)
  replace w0 := Hd.mk (R_below w0.out hX)
  replace ew0 := Hd.mk (Nat.le_trans ew0.out hX.size)
  replace Bx0 := Hd.mk (Bx0.out.below hX)
  replace eBx0 := Hd.mk (Nat.le_trans eBx0.out hX.size)
  replace Bx1 := Hd.mk (Bx1.out.below hX)
  replace eBx1 := Hd.mk (Nat.le_trans eBx1.out hX.size)
  replace g0 := Hd.mk (R_below g0.out hX)
  replace eg0 := Hd.mk (Nat.le_trans eg0.out hX.size)
  replace r0 := Hd.mk (Ty.O_below r0.out hX)
  replace er0 := Hd.mk (Nat.le_trans er0.out hX.size)
  replace r1 := Hd.mk (Ty.O_below r1.out hX)
  replace er1 := Hd.mk (Nat.le_trans er1.out hX.size)
  replace hB := Hd.mk (below_then hB.out hX)
  replace hS := Hd.mk (below_then hS.out hX)
  clear hX
  rw [← Hy.out] at hO
  replace hO := R_bound hO
  obtain ⟨Ah0, ch0, hvh0, hch0, _⟩ := R_C hO
  subst hvh0
  have h0 := Hd.mk (show (tOp (m + 1)).R 94 w41 (rng W40.heap.size w41.heap.size) (.slice Ah0 y.length ch0) y from hO); clear hO
  have hmh0 := (R_Cv h0.out).1
  have eh0 := Hd.mk (Nat.le_refl w41.heap.size)
  have fb00 : w41.cell? ⟨w.heap.size, 0, none⟩ = some (Value.int IntKind.i64 a.kind) := b0.out.cell 0 rfl
  have fb01 : w41.cell? ⟨w.heap.size, 1, none⟩ = some (Value.int IntKind.i64 a.n) := b0.out.cell 1 rfl
  have fb02 : w41.cell? ⟨w.heap.size, 2, none⟩ = some (Value.string a.s) := b0.out.cell 2 rfl
  have fb03 : w41.cell? ⟨w.heap.size, 3, none⟩ = some (Value.slice A0 a.list.length c0) := b0.out.cell 3 rfl
  have fb04 : w41.cell? ⟨w.heap.size, 4, none⟩ = some (Value.slice A0B a.names.length c0B) := b0.out.cell 4 rfl
  have fb10 : w41.cell? ⟨w.heap.size + 1, 0, none⟩ = some (Value.int IntKind.i64 b.kind) := b1.out.cell 0 rfl
  have fb11 : w41.cell? ⟨w.heap.size + 1, 1, none⟩ = some (Value.int IntKind.i64 b.n) := b1.out.cell 1 rfl
  have fb12 : w41.cell? ⟨w.heap.size + 1, 2, none⟩ = some (Value.string b.s) := b1.out.cell 2 rfl
  have fb13 : w41.cell? ⟨w.heap.size + 1, 3, none⟩ = some (Value.slice A1 b.list.length c1) := b1.out.cell 3 rfl
  have fb14 : w41.cell? ⟨w.heap.size + 1, 4, none⟩ = some (Value.slice A1B b.names.length c1B) := b1.out.cell 4 rfl
  have fBx00 : w41.cell? ⟨w11.heap.size, 0, none⟩ = some (Value.int IntKind.i64 a.kind) := Bx0.out.cell 0 rfl
  have fBx01 : w41.cell? ⟨w11.heap.size, 1, none⟩ = some (Value.int IntKind.i64 a.n) := Bx0.out.cell 1 rfl
  have fBx02 : w41.cell? ⟨w11.heap.size, 2, none⟩ = some (Value.string a.s) := Bx0.out.cell 2 rfl
  have fBx03 : w41.cell? ⟨w11.heap.size, 3, none⟩ = some (Value.slice Ax0 a.list.length cx0) := Bx0.out.cell 3 rfl
  have fBx04 : w41.cell? ⟨w11.heap.size, 4, none⟩ = some (Value.slice Ax0B a.names.length cx0B) := Bx0.out.cell 4 rfl
  have fBx10 : w41.cell? ⟨w13.heap.size, 0, none⟩ = some (Value.int IntKind.i64 b.kind) := Bx1.out.cell 0 rfl
  have fBx11 : w41.cell? ⟨w13.heap.size, 1, none⟩ = some (Value.int IntKind.i64 b.n) := Bx1.out.cell 1 rfl
  have fBx12 : w41.cell? ⟨w13.heap.size, 2, none⟩ = some (Value.string b.s) := Bx1.out.cell 2 rfl
  have fBx13 : w41.cell? ⟨w13.heap.size, 3, none⟩ = some (Value.slice Ax1 b.list.length cx1) := Bx1.out.cell 3 rfl
  have fBx14 : w41.cell? ⟨w13.heap.size, 4, none⟩ = some (Value.slice Ax1B b.names.length cx1B) := Bx1.out.cell 4 rfl
  have rfb00 := cell_regrown fb00
  have rfb01 := cell_regrown fb01
  have rfb02 := cell_regrown fb02
  have rfb03 := cell_regrown fb03
  have rfb04 := cell_regrown fb04
  have rfb10 := cell_regrown fb10
  have rfb11 := cell_regrown fb11
  have rfb12 := cell_regrown fb12
  have rfb13 := cell_regrown fb13
  have rfb14 := cell_regrown fb14
  have rfBx00 := cell_regrown fBx00
  have rfBx01 := cell_regrown fBx01
  have rfBx02 := cell_regrown fBx02
  have rfBx03 := cell_regrown fBx03
  have rfBx04 := cell_regrown fBx04
  have rfBx10 := cell_regrown fBx10
  have rfBx11 := cell_regrown fBx11
  have rfBx12 := cell_regrown fBx12
  have rfBx13 := cell_regrown fBx13
  have rfBx14 := cell_regrown fBx14
  go_wp2_with fail
  refine ⟨cls_below hS.out, ?_⟩
  try (repeat (refine mix_q rfl ?_; go_big_quiet_want; go_big_quiet_op; go_big_quiet_on; refine wpQuiet_nil ?_))
  refine mix_nil ?_
  clear rfb00 rfb01 rfb02 rfb03 rfb04 rfb10 rfb11 rfb12 rfb13 rfb14 rfBx00 rfBx01 rfBx02 rfBx03 rfBx04 rfBx10 rfBx11 rfBx12 rfBx13 rfBx14
  clear hS
  go_wp2_with fail
  clear fb00 fb01 fb02 fb03 fb04 fb10 fb11 fb12 fb13 fb14 fBx00 fBx01 fBx02 fBx03 fBx04 fBx10 fBx11 fBx12 fBx13 fBx14
  clear r0 er0
  clear r1 er1
  have fb00 : w41.cell? ⟨w.heap.size, 0, none⟩ = some (Value.int IntKind.i64 a.kind) := b0.out.cell 0 rfl
  have fb01 : w41.cell? ⟨w.heap.size, 1, none⟩ = some (Value.int IntKind.i64 a.n) := b0.out.cell 1 rfl
  have fb02 : w41.cell? ⟨w.heap.size, 2, none⟩ = some (Value.string a.s) := b0.out.cell 2 rfl
  have fb03 : w41.cell? ⟨w.heap.size, 3, none⟩ = some (Value.slice A0 a.list.length c0) := b0.out.cell 3 rfl
  have fb04 : w41.cell? ⟨w.heap.size, 4, none⟩ = some (Value.slice A0B a.names.length c0B) := b0.out.cell 4 rfl
  have fb10 : w41.cell? ⟨w.heap.size + 1, 0, none⟩ = some (Value.int IntKind.i64 b.kind) := b1.out.cell 0 rfl
  have fb11 : w41.cell? ⟨w.heap.size + 1, 1, none⟩ = some (Value.int IntKind.i64 b.n) := b1.out.cell 1 rfl
  have fb12 : w41.cell? ⟨w.heap.size + 1, 2, none⟩ = some (Value.string b.s) := b1.out.cell 2 rfl
  have fb13 : w41.cell? ⟨w.heap.size + 1, 3, none⟩ = some (Value.slice A1 b.list.length c1) := b1.out.cell 3 rfl
  have fb14 : w41.cell? ⟨w.heap.size + 1, 4, none⟩ = some (Value.slice A1B b.names.length c1B) := b1.out.cell 4 rfl
  have fBx00 : w41.cell? ⟨w11.heap.size, 0, none⟩ = some (Value.int IntKind.i64 a.kind) := Bx0.out.cell 0 rfl
  have fBx01 : w41.cell? ⟨w11.heap.size, 1, none⟩ = some (Value.int IntKind.i64 a.n) := Bx0.out.cell 1 rfl
  have fBx02 : w41.cell? ⟨w11.heap.size, 2, none⟩ = some (Value.string a.s) := Bx0.out.cell 2 rfl
  have fBx03 : w41.cell? ⟨w11.heap.size, 3, none⟩ = some (Value.slice Ax0 a.list.length cx0) := Bx0.out.cell 3 rfl
  have fBx04 : w41.cell? ⟨w11.heap.size, 4, none⟩ = some (Value.slice Ax0B a.names.length cx0B) := Bx0.out.cell 4 rfl
  have fBx10 : w41.cell? ⟨w13.heap.size, 0, none⟩ = some (Value.int IntKind.i64 b.kind) := Bx1.out.cell 0 rfl
  have fBx11 : w41.cell? ⟨w13.heap.size, 1, none⟩ = some (Value.int IntKind.i64 b.n) := Bx1.out.cell 1 rfl
  have fBx12 : w41.cell? ⟨w13.heap.size, 2, none⟩ = some (Value.string b.s) := Bx1.out.cell 2 rfl
  have fBx13 : w41.cell? ⟨w13.heap.size, 3, none⟩ = some (Value.slice Ax1 b.list.length cx1) := Bx1.out.cell 3 rfl
  have fBx14 : w41.cell? ⟨w13.heap.size, 4, none⟩ = some (Value.slice Ax1B b.names.length cx1B) := Bx1.out.cell 4 rfl
  go_wp2_with fail
  clear fb00 fb01 fb02 fb03 fb04 fb10 fb11 fb12 fb13 fb14 fBx00 fBx01 fBx02 fBx03 fBx04 fBx10 fBx11 fBx12 fBx13 fBx14
  apply calls_gen; intro W42 hW
  have hE : Below w41.heap.size w41 W42 := by rw [hW]; (repeat (first | with_reducible refine below_alloc ?_ _ | with_reducible refine below_drew ?_)); exact Below.refl _ _
  clear hW
  replace b0 := Hd.mk (b0.out.below hE)
  replace eb0 := Hd.mk (Nat.le_trans eb0.out hE.size)
  replace b1 := Hd.mk (b1.out.below hE)
  replace eb1 := Hd.mk (Nat.le_trans eb1.out hE.size)
  replace w0 := Hd.mk (R_below w0.out hE)
  replace ew0 := Hd.mk (Nat.le_trans ew0.out hE.size)
  replace Bx0 := Hd.mk (Bx0.out.below hE)
  replace eBx0 := Hd.mk (Nat.le_trans eBx0.out hE.size)
  replace Bx1 := Hd.mk (Bx1.out.below hE)
  replace eBx1 := Hd.mk (Nat.le_trans eBx1.out hE.size)
  replace g0 := Hd.mk (R_below g0.out hE)
  replace eg0 := Hd.mk (Nat.le_trans eg0.out hE.size)
  replace h0 := Hd.mk (R_below h0.out hE)
  replace eh0 := Hd.mk (Nat.le_trans eh0.out hE.size)
  replace hB := Hd.mk (below_then hB.out hE)
  clear hE
  refine (laws_eqOpS _ _ _ _ y y _ (R_Cv h0.out) (R_Cv w0.out)).mono ?_
  rintro e w43 ⟨rfl, hX⟩
  replace b0 := Hd.mk (b0.out.below hX)
  replace eb0 := Hd.mk (Nat.le_trans eb0.out hX.size)
  replace b1 := Hd.mk (b1.out.below hX)
  replace eb1 := Hd.mk (Nat.le_trans eb1.out hX.size)
  replace w0 := Hd.mk (R_below w0.out hX)
  replace ew0 := Hd.mk (Nat.le_trans ew0.out hX.size)
  replace Bx0 := Hd.mk (Bx0.out.below hX)
  replace eBx0 := Hd.mk (Nat.le_trans eBx0.out hX.size)
  replace Bx1 := Hd.mk (Bx1.out.below hX)
  replace eBx1 := Hd.mk (Nat.le_trans eBx1.out hX.size)
  replace g0 := Hd.mk (R_below g0.out hX)
  replace eg0 := Hd.mk (Nat.le_trans eg0.out hX.size)
  replace h0 := Hd.mk (R_below h0.out hX)
  replace eh0 := Hd.mk (Nat.le_trans eh0.out hX.size)
  replace hB := Hd.mk (below_then hB.out hX)
  clear hX
  rw [eqv_self]
  have fb00 : w43.cell? ⟨w.heap.size, 0, none⟩ = some (Value.int IntKind.i64 a.kind) := b0.out.cell 0 rfl
  have fb01 : w43.cell? ⟨w.heap.size, 1, none⟩ = some (Value.int IntKind.i64 a.n) := b0.out.cell 1 rfl
  have fb02 : w43.cell? ⟨w.heap.size, 2, none⟩ = some (Value.string a.s) := b0.out.cell 2 rfl
  have fb03 : w43.cell? ⟨w.heap.size, 3, none⟩ = some (Value.slice A0 a.list.length c0) := b0.out.cell 3 rfl
  have fb04 : w43.cell? ⟨w.heap.size, 4, none⟩ = some (Value.slice A0B a.names.length c0B) := b0.out.cell 4 rfl
  have fb10 : w43.cell? ⟨w.heap.size + 1, 0, none⟩ = some (Value.int IntKind.i64 b.kind) := b1.out.cell 0 rfl
  have fb11 : w43.cell? ⟨w.heap.size + 1, 1, none⟩ = some (Value.int IntKind.i64 b.n) := b1.out.cell 1 rfl
  have fb12 : w43.cell? ⟨w.heap.size + 1, 2, none⟩ = some (Value.string b.s) := b1.out.cell 2 rfl
  have fb13 : w43.cell? ⟨w.heap.size + 1, 3, none⟩ = some (Value.slice A1 b.list.length c1) := b1.out.cell 3 rfl
  have fb14 : w43.cell? ⟨w.heap.size + 1, 4, none⟩ = some (Value.slice A1B b.names.length c1B) := b1.out.cell 4 rfl
  have fBx00 : w43.cell? ⟨w11.heap.size, 0, none⟩ = some (Value.int IntKind.i64 a.kind) := Bx0.out.cell 0 rfl
  have fBx01 : w43.cell? ⟨w11.heap.size, 1, none⟩ = some (Value.int IntKind.i64 a.n) := Bx0.out.cell 1 rfl
  have fBx02 : w43.cell? ⟨w11.heap.size, 2, none⟩ = some (Value.string a.s) := Bx0.out.cell 2 rfl
  have fBx03 : w43.cell? ⟨w11.heap.size, 3, none⟩ = some (Value.slice Ax0 a.list.length cx0) := Bx0.out.cell 3 rfl
  have fBx04 : w43.cell? ⟨w11.heap.size, 4, none⟩ = some (Value.slice Ax0B a.names.length cx0B) := Bx0.out.cell 4 rfl
  have fBx10 : w43.cell? ⟨w13.heap.size, 0, none⟩ = some (Value.int IntKind.i64 b.kind) := Bx1.out.cell 0 rfl
  have fBx11 : w43.cell? ⟨w13.heap.size, 1, none⟩ = some (Value.int IntKind.i64 b.n) := Bx1.out.cell 1 rfl
  have fBx12 : w43.cell? ⟨w13.heap.size, 2, none⟩ = some (Value.string b.s) := Bx1.out.cell 2 rfl
  have fBx13 : w43.cell? ⟨w13.heap.size, 3, none⟩ = some (Value.slice Ax1 b.list.length cx1) := Bx1.out.cell 3 rfl
  have fBx14 : w43.cell? ⟨w13.heap.size, 4, none⟩ = some (Value.slice Ax1B b.names.length cx1B) := Bx1.out.cell 4 rfl
  go_wp2_with fail
  clear fb00 fb01 fb02 fb03 fb04 fb10 fb11 fb12 fb13 fb14 fBx00 fBx01 fBx02 fBx03 fBx04 fBx10 fBx11 fBx12 fBx13 fBx14
  apply calls_gen; intro W44 hW
  have hE : Below w43.heap.size w43 W44 := by rw [hW]; (repeat (first | with_reducible refine below_alloc ?_ _ | with_reducible refine below_drew ?_)); exact Below.refl _ _
  clear hW
  replace b0 := Hd.mk (b0.out.below hE)
  replace eb0 := Hd.mk (Nat.le_trans eb0.out hE.size)
  replace b1 := Hd.mk (b1.out.below hE)
  replace eb1 := Hd.mk (Nat.le_trans eb1.out hE.size)
  replace w0 := Hd.mk (R_below w0.out hE)
  replace ew0 := Hd.mk (Nat.le_trans ew0.out hE.size)
  replace Bx0 := Hd.mk (Bx0.out.below hE)
  replace eBx0 := Hd.mk (Nat.le_trans eBx0.out hE.size)
  replace Bx1 := Hd.mk (Bx1.out.below hE)
  replace eBx1 := Hd.mk (Nat.le_trans eBx1.out hE.size)
  replace g0 := Hd.mk (R_below g0.out hE)
  replace eg0 := Hd.mk (Nat.le_trans eg0.out hE.size)
  replace h0 := Hd.mk (R_below h0.out hE)
  replace eh0 := Hd.mk (Nat.le_trans eh0.out hE.size)
  replace hB := Hd.mk (below_then hB.out hE)
  clear hE
  have hlen : (markL (mkOp (m + 1)) (cnOp (m + 1)) 1 y).length = y.length := markL_length _ _
  rw [← hlen]
  refine (laws_heldOpS _ _ _ y 1 _ (R_Cv g0.out) rfl (by omega) (by omega)).mono ?_
  rintro e w45 ⟨rfl, hX⟩
  replace b0 := Hd.mk (b0.out.below hX)
  replace eb0 := Hd.mk (Nat.le_trans eb0.out hX.size)
  replace b1 := Hd.mk (b1.out.below hX)
  replace eb1 := Hd.mk (Nat.le_trans eb1.out hX.size)
  replace w0 := Hd.mk (R_below w0.out hX)
  replace ew0 := Hd.mk (Nat.le_trans ew0.out hX.size)
  replace Bx0 := Hd.mk (Bx0.out.below hX)
  replace eBx0 := Hd.mk (Nat.le_trans eBx0.out hX.size)
  replace Bx1 := Hd.mk (Bx1.out.below hX)
  replace eBx1 := Hd.mk (Nat.le_trans eBx1.out hX.size)
  replace g0 := Hd.mk (R_below g0.out hX)
  replace eg0 := Hd.mk (Nat.le_trans eg0.out hX.size)
  replace h0 := Hd.mk (R_below h0.out hX)
  replace eh0 := Hd.mk (Nat.le_trans eh0.out hX.size)
  replace hB := Hd.mk (below_then hB.out hX)
  clear hX
  have fb00 : w45.cell? ⟨w.heap.size, 0, none⟩ = some (Value.int IntKind.i64 a.kind) := b0.out.cell 0 rfl
  have fb01 : w45.cell? ⟨w.heap.size, 1, none⟩ = some (Value.int IntKind.i64 a.n) := b0.out.cell 1 rfl
  have fb02 : w45.cell? ⟨w.heap.size, 2, none⟩ = some (Value.string a.s) := b0.out.cell 2 rfl
  have fb03 : w45.cell? ⟨w.heap.size, 3, none⟩ = some (Value.slice A0 a.list.length c0) := b0.out.cell 3 rfl
  have fb04 : w45.cell? ⟨w.heap.size, 4, none⟩ = some (Value.slice A0B a.names.length c0B) := b0.out.cell 4 rfl
  have fb10 : w45.cell? ⟨w.heap.size + 1, 0, none⟩ = some (Value.int IntKind.i64 b.kind) := b1.out.cell 0 rfl
  have fb11 : w45.cell? ⟨w.heap.size + 1, 1, none⟩ = some (Value.int IntKind.i64 b.n) := b1.out.cell 1 rfl
  have fb12 : w45.cell? ⟨w.heap.size + 1, 2, none⟩ = some (Value.string b.s) := b1.out.cell 2 rfl
  have fb13 : w45.cell? ⟨w.heap.size + 1, 3, none⟩ = some (Value.slice A1 b.list.length c1) := b1.out.cell 3 rfl
  have fb14 : w45.cell? ⟨w.heap.size + 1, 4, none⟩ = some (Value.slice A1B b.names.length c1B) := b1.out.cell 4 rfl
  have fBx00 : w45.cell? ⟨w11.heap.size, 0, none⟩ = some (Value.int IntKind.i64 a.kind) := Bx0.out.cell 0 rfl
  have fBx01 : w45.cell? ⟨w11.heap.size, 1, none⟩ = some (Value.int IntKind.i64 a.n) := Bx0.out.cell 1 rfl
  have fBx02 : w45.cell? ⟨w11.heap.size, 2, none⟩ = some (Value.string a.s) := Bx0.out.cell 2 rfl
  have fBx03 : w45.cell? ⟨w11.heap.size, 3, none⟩ = some (Value.slice Ax0 a.list.length cx0) := Bx0.out.cell 3 rfl
  have fBx04 : w45.cell? ⟨w11.heap.size, 4, none⟩ = some (Value.slice Ax0B a.names.length cx0B) := Bx0.out.cell 4 rfl
  have fBx10 : w45.cell? ⟨w13.heap.size, 0, none⟩ = some (Value.int IntKind.i64 b.kind) := Bx1.out.cell 0 rfl
  have fBx11 : w45.cell? ⟨w13.heap.size, 1, none⟩ = some (Value.int IntKind.i64 b.n) := Bx1.out.cell 1 rfl
  have fBx12 : w45.cell? ⟨w13.heap.size, 2, none⟩ = some (Value.string b.s) := Bx1.out.cell 2 rfl
  have fBx13 : w45.cell? ⟨w13.heap.size, 3, none⟩ = some (Value.slice Ax1 b.list.length cx1) := Bx1.out.cell 3 rfl
  have fBx14 : w45.cell? ⟨w13.heap.size, 4, none⟩ = some (Value.slice Ax1B b.names.length cx1B) := Bx1.out.cell 4 rfl
  go_wp2_with fail
  clear fb00 fb01 fb02 fb03 fb04 fb10 fb11 fb12 fb13 fb14 fBx00 fBx01 fBx02 fBx03 fBx04 fBx10 fBx11 fBx12 fBx13 fBx14
  go_ret
  exact ⟨rfl, hB.out⟩
end Go.Proofs.Ytnpogfhfjofbmaa.X
