/- What is proved here: the law FnExactRowPut answers true. Conditions: none. -/
import Derived.Test.YtchjcllpnpibeaaXP
import Derived.Test.YtchjcllpnpibeaaXHs
import Derived.StillTailTactics
import Derived.Deep.RegionWith
namespace Go.Proofs.Ytchjcllpnpibeaa.X
open Go.RowKit Go.Sort
set_option linter.unusedVariables false
set_option linter.unusedSimpArgs false
open Ty
set_option maxRecDepth 100000 in
theorem laws_FnExactRowPut {w : World} (A0 : Option Addr) (c0 : Nat) (l : List Row) (hv0 : l.length ≤ c0) (hk0 : tRow.C w A0 l) (r : Row) (cs1 : List Value) (hk1 : tRow.K w r cs1) :
    Calls Try.prog 22 #[.slice A0 l.length c0, .agg cs1.toArray] w fun e w' => e = .returned (.bool true) ∧ Below w.heap.size w w' := by
  obtain ⟨y, hy⟩ : ∃ z, z = rowPut l r := ⟨_, rfl⟩
  have Hy := Hd.mk hy; clear hy
  have hm0 := hk0.1
  have hK0 := Hd.mk hk0; clear hk0
  obtain ⟨A1, c1, rfl, hc1, hr1⟩ := tRow_K.1 hk1
  have hK1 := Hd.mk hk1; clear hk1
  clear hr1
  go_enter Try.func22, Try.ntmps22
  go_wp2_with fail
  apply calls_gen; intro W0 hW
  have hE : Below w.heap.size w W0 := by rw [hW]; (repeat (with_reducible refine below_alloc ?_ _)); exact Below.refl _ _
  have b1 := Hd.mk (show Blk W0 (w.heap.size) #[Value.int IntKind.i64 r.id, Value.slice A1 r.cells.length c1] 33 by rw [hW]; exact (Blk.new w _ _))
  have hz_ : w.heap.size + 1 ≤ W0.heap.size := by rw [hW]; simp
  clear hW
  have hB := Hd.mk hE; clear hE
  have ab1 := Hd.mk (show w.heap.size ≤ w.heap.size by omega)
  have eb1 := Hd.mk (show w.heap.size + 1 ≤ W0.heap.size by omega)
  clear hz_
  refine (laws_szRowS _ _ l _ _ (C_below hK0.out hB.out) (by omega) (by omega)).mono ?_
  rintro e w1 ⟨rfl, hX⟩
  replace b1 := Hd.mk (b1.out.below hX)
  replace eb1 := Hd.mk (Nat.le_trans eb1.out hX.size)
  replace hB := Hd.mk (below_then hB.out hX)
  clear hX
  have fb10 : w1.cell? ⟨w.heap.size, 0, none⟩ = some (Value.int IntKind.i64 r.id) := b1.out.cell 0 rfl
  have fb11 : w1.cell? ⟨w.heap.size, 1, none⟩ = some (Value.slice A1 r.cells.length c1) := b1.out.cell 1 rfl
  by_cases hz0 : szR 1048576 (bulkRowS l) < 0
  · go_wp2_with fail
    go_ret
    exact ⟨rfl, hB.out⟩
  have HL0 := Hd.mk (szR_le (Int.not_lt.1 hz0) (by omega))
  have hy0 := HL0.out.2.1
  have hx0 := HL0.out.2.2.1
  clear hz0
  go_wp2_with fail
  clear fb10 fb11
  apply calls_gen; intro W2 hW
  have hE : Below w1.heap.size w1 W2 := by rw [hW]; (repeat (first | with_reducible refine below_alloc ?_ _ | with_reducible refine below_drew ?_)); exact Below.refl _ _
  clear hW
  replace b1 := Hd.mk (b1.out.below hE)
  replace eb1 := Hd.mk (Nat.le_trans eb1.out hE.size)
  replace hB := Hd.mk (below_then hB.out hE)
  clear hE
  refine (laws_szRow r _ _ _ (tRow.K_below hB.out hK1.out) hy0 hx0).mono ?_
  rintro e w3 ⟨rfl, hX⟩
  replace b1 := Hd.mk (b1.out.below hX)
  replace eb1 := Hd.mk (Nat.le_trans eb1.out hX.size)
  replace hB := Hd.mk (below_then hB.out hX)
  clear hX
  have fb10 : w3.cell? ⟨w.heap.size, 0, none⟩ = some (Value.int IntKind.i64 r.id) := b1.out.cell 0 rfl
  have fb11 : w3.cell? ⟨w.heap.size, 1, none⟩ = some (Value.slice A1 r.cells.length c1) := b1.out.cell 1 rfl
  by_cases hz1 : szR (szR 1048576 (bulkRowS l)) (bulkRow r) < 0
  · go_wp2_with fail
    go_ret
    exact ⟨rfl, hB.out⟩
  have HL1 := Hd.mk (szR_le (Int.not_lt.1 hz1) hx0)
  have hy1 := HL1.out.2.1
  have hx1 := HL1.out.2.2.1
  clear hz1
  go_wp2_with fail
  clear fb10 fb11
  have hx_0 : ((bulkL cnRow l : Int) : Int) ≤ 8388608 := by have := cnt_Rows l; have := HL0.out.1; omega
  have hx_1 : ((r.cells.length : Int) : Int) ≤ 8388608 := by have := cnt_Row r; have := HL1.out.1; omega
  have hx_y : ((bulkL cnRow y : Int) : Int) ≤ 1099511627776 := by (rw [Hy.out]; have h1 := cnt_Rows (rowPut l r); have h2 := bulk_rowPut l r; have h3 := HL0.out.1; have h4 := HL1.out.1; omega)
  have fb10 : w3.cell? ⟨w.heap.size, 0, none⟩ = some (Value.int IntKind.i64 r.id) := b1.out.cell 0 rfl
  have fb11 : w3.cell? ⟨w.heap.size, 1, none⟩ = some (Value.slice A1 r.cells.length c1) := b1.out.cell 1 rfl
  have rfb10 := cell_regrown fb10
  have rfb11 := cell_regrown fb11
  refine region_mix [(true, 0), (true, 2), (false, 1), (false, 3), (false, 4), (true, 5)] (by kernel_rfl) (by kernel_rfl) (fun _ _ _ _ _ h => h) ?_
  try (repeat (refine mix_q rfl ?_; go_big_quiet_want; go_big_quiet_op; go_big_quiet_on; refine wpQuiet_nil ?_))
  refine mix_b rfl ?_ (by rfl)
  go_wp2_with fail
  clear rfb10 rfb11
  clear fb10 fb11
  have hS := Hd.mk (Below.refl w3.heap.size w3)
  apply calls_gen; intro W4 hW
  have hE : Below w3.heap.size w3 W4 := by rw [hW]; (repeat (first | with_reducible refine below_alloc ?_ _ | with_reducible refine below_drew ?_)); exact Below.refl _ _
  clear hW
  replace b1 := Hd.mk (b1.out.below hE)
  replace eb1 := Hd.mk (Nat.le_trans eb1.out hE.size)
  replace hB := Hd.mk (below_then hB.out hE)
  replace hS := Hd.mk (below_then hS.out hE)
  clear hE
  refine (laws_toRowS _ _ l _ (C_below hK0.out hB.out) HL0.out.1).mono ?_
  rintro e w5 ⟨v_, rfl, hO, hX⟩
  have db1_s0 := Hd.mk eb1.out
  have as0 := Hd.mk hB.out.size
  replace b1 := Hd.mk (b1.out.below hX)
  replace eb1 := Hd.mk (Nat.le_trans eb1.out hX.size)
  replace hB := Hd.mk (below_then hB.out hX)
  replace hS := Hd.mk (below_then hS.out hX)
  clear hX
  replace hO := R_bound hO
  obtain ⟨As0, cs0, hvs0, hcs0, _⟩ := R_C hO
  subst hvs0
  have s0 := Hd.mk (show tRow.R 36 w5 (rng W4.heap.size w5.heap.size) (.slice As0 l.length cs0) l from hO); clear hO
  have hms0 := (R_Cv s0.out).1
  have es0 := Hd.mk (Nat.le_refl w5.heap.size)
  have fb10 : w5.cell? ⟨w.heap.size, 0, none⟩ = some (Value.int IntKind.i64 r.id) := b1.out.cell 0 rfl
  have fb11 : w5.cell? ⟨w.heap.size, 1, none⟩ = some (Value.slice A1 r.cells.length c1) := b1.out.cell 1 rfl
  go_wp2_with fail
  refine ⟨cls_below hS.out, ?_⟩
  refine mix_b rfl ?_ (by rfl)
  go_wp2_with fail
  clear fb10 fb11
  apply calls_gen; intro W6 hW
  have hE : Below w5.heap.size w5 W6 := by rw [hW]; (repeat (first | with_reducible refine below_alloc ?_ _ | with_reducible refine below_drew ?_)); exact Below.refl _ _
  clear hW
  replace b1 := Hd.mk (b1.out.below hE)
  replace eb1 := Hd.mk (Nat.le_trans eb1.out hE.size)
  replace s0 := Hd.mk (R_below s0.out hE)
  replace es0 := Hd.mk (Nat.le_trans es0.out hE.size)
  replace hB := Hd.mk (below_then hB.out hE)
  replace hS := Hd.mk (below_then hS.out hE)
  clear hE
  refine (laws_toRow r _ _ (tRow.K_below hB.out hK1.out) HL1.out.1).mono ?_
  rintro e w7 ⟨cs_, rfl, hO, hX⟩
  have db1_s1 := Hd.mk eb1.out
  have ds0_s1 := Hd.mk es0.out
  have as1 := Hd.mk hB.out.size
  replace b1 := Hd.mk (b1.out.below hX)
  replace eb1 := Hd.mk (Nat.le_trans eb1.out hX.size)
  replace s0 := Hd.mk (R_below s0.out hX)
  replace es0 := Hd.mk (Nat.le_trans es0.out hX.size)
  replace hB := Hd.mk (below_then hB.out hX)
  replace hS := Hd.mk (below_then hS.out hX)
  clear hX
  replace hO := Ty.O_bound _ hO
  obtain ⟨v_, hcs, r1⟩ := tRow_O.1 hO
  subst hcs
  obtain ⟨As1, cs1, hv_, hcs1, _⟩ := R_C r1
  subst hv_
  clear r1
  have s1 := Hd.mk (show tRow.O w7 (rng W6.heap.size w7.heap.size) r [Value.int IntKind.i64 r.id, Value.slice As1 r.cells.length cs1] from hO); clear hO
  have es1 := Hd.mk (Nat.le_refl w7.heap.size)
  have fb10 : w7.cell? ⟨w.heap.size, 0, none⟩ = some (Value.int IntKind.i64 r.id) := b1.out.cell 0 rfl
  have fb11 : w7.cell? ⟨w.heap.size, 1, none⟩ = some (Value.slice A1 r.cells.length c1) := b1.out.cell 1 rfl
  go_wp2_with fail
  refine ⟨cls_below hS.out, ?_⟩
  refine mix_b rfl ?_ (by rfl)
  go_wp2_with fail
  clear fb10 fb11
  apply calls_gen; intro W8 hW
  have hE : Below w7.heap.size w7 W8 := by rw [hW]; (repeat (first | with_reducible refine below_alloc ?_ _ | with_reducible refine below_drew ?_)); exact Below.refl _ _
  clear hW
  replace b1 := Hd.mk (b1.out.below hE)
  replace eb1 := Hd.mk (Nat.le_trans eb1.out hE.size)
  replace s0 := Hd.mk (R_below s0.out hE)
  replace es0 := Hd.mk (Nat.le_trans es0.out hE.size)
  replace s1 := Hd.mk (Ty.O_below s1.out hE)
  replace es1 := Hd.mk (Nat.le_trans es1.out hE.size)
  replace hB := Hd.mk (below_then hB.out hE)
  replace hS := Hd.mk (below_then hS.out hE)
  clear hE
  refine (spec_RowPut _ _ l r _ _ (R_Cv s0.out) (tRow.O_K s1.out) (by have := HL0.out.1; omega) (by have h9 := HL1.out.1; simp only [bulkRow] at h9; omega)).mono ?_
  rintro e w9 ⟨v_, rfl, hO, hX⟩
  have db1_w0 := Hd.mk eb1.out
  have ds0_w0 := Hd.mk es0.out
  have ds1_w0 := Hd.mk es1.out
  have aw0 := Hd.mk hB.out.size
  replace b1 := Hd.mk (b1.out.below hX)
  replace eb1 := Hd.mk (Nat.le_trans eb1.out hX.size)
  replace s0 := Hd.mk (R_below s0.out hX)
  replace es0 := Hd.mk (Nat.le_trans es0.out hX.size)
  replace s1 := Hd.mk (Ty.O_below s1.out hX)
  replace es1 := Hd.mk (Nat.le_trans es1.out hX.size)
  replace hB := Hd.mk (below_then hB.out hX)
  replace hS := Hd.mk (below_then hS.out hX)
  clear hX
  rw [← Hy.out] at hO
  replace hO := R_bound hO
  obtain ⟨Aw0, cw0, hvw0, hcw0, _⟩ := R_C hO
  subst hvw0
  have w0 := Hd.mk (show tRow.R 36 w9 (rng W8.heap.size w9.heap.size) (.slice Aw0 y.length cw0) y from hO); clear hO
  have hmw0 := (R_Cv w0.out).1
  have ew0 := Hd.mk (Nat.le_refl w9.heap.size)
  have fb10 : w9.cell? ⟨w.heap.size, 0, none⟩ = some (Value.int IntKind.i64 r.id) := b1.out.cell 0 rfl
  have fb11 : w9.cell? ⟨w.heap.size, 1, none⟩ = some (Value.slice A1 r.cells.length c1) := b1.out.cell 1 rfl
  have rfb10 := cell_regrown fb10
  have rfb11 := cell_regrown fb11
  go_wp2_with fail
  refine ⟨cls_below hS.out, ?_⟩
  try (repeat (refine mix_q rfl ?_; go_big_quiet_want; go_big_quiet_op; go_big_quiet_on; refine wpQuiet_nil ?_))
  refine mix_nil ?_
  clear rfb10 rfb11
  clear hS
  go_wp2_with fail
  clear fb10 fb11
  clear s0 es0
  clear s1 es1
  have fb10 : w9.cell? ⟨w.heap.size, 0, none⟩ = some (Value.int IntKind.i64 r.id) := b1.out.cell 0 rfl
  have fb11 : w9.cell? ⟨w.heap.size, 1, none⟩ = some (Value.slice A1 r.cells.length c1) := b1.out.cell 1 rfl
  go_wp2_with fail
  clear fb10 fb11
  apply calls_gen; intro W10 hW
  have hE : Below w9.heap.size w9 W10 := by rw [hW]; (repeat (first | with_reducible refine below_alloc ?_ _ | with_reducible refine below_drew ?_)); exact Below.refl _ _
  clear hW
  replace b1 := Hd.mk (b1.out.below hE)
  replace eb1 := Hd.mk (Nat.le_trans eb1.out hE.size)
  replace w0 := Hd.mk (R_below w0.out hE)
  replace ew0 := Hd.mk (Nat.le_trans ew0.out hE.size)
  replace hB := Hd.mk (below_then hB.out hE)
  clear hE
  refine (laws_toRowS _ _ l _ (C_below hK0.out hB.out) HL0.out.1).mono ?_
  rintro e w11 ⟨v_, rfl, hO, hX⟩
  have db1_x0 := Hd.mk eb1.out
  have dw0_x0 := Hd.mk ew0.out
  have ax0 := Hd.mk hB.out.size
  replace b1 := Hd.mk (b1.out.below hX)
  replace eb1 := Hd.mk (Nat.le_trans eb1.out hX.size)
  replace w0 := Hd.mk (R_below w0.out hX)
  replace ew0 := Hd.mk (Nat.le_trans ew0.out hX.size)
  replace hB := Hd.mk (below_then hB.out hX)
  clear hX
  replace hO := R_bound hO
  obtain ⟨Ax0, cx0, hvx0, hcx0, _⟩ := R_C hO
  subst hvx0
  have x0 := Hd.mk (show tRow.R 36 w11 (rng W10.heap.size w11.heap.size) (.slice Ax0 l.length cx0) l from hO); clear hO
  have hmx0 := (R_Cv x0.out).1
  have ex0 := Hd.mk (Nat.le_refl w11.heap.size)
  have fb10 : w11.cell? ⟨w.heap.size, 0, none⟩ = some (Value.int IntKind.i64 r.id) := b1.out.cell 0 rfl
  have fb11 : w11.cell? ⟨w.heap.size, 1, none⟩ = some (Value.slice A1 r.cells.length c1) := b1.out.cell 1 rfl
  go_wp2_with fail
  clear fb10 fb11
  apply calls_gen; intro W12 hW
  have hE : Below w11.heap.size w11 W12 := by rw [hW]; (repeat (first | with_reducible refine below_alloc ?_ _ | with_reducible refine below_drew ?_)); exact Below.refl _ _
  clear hW
  replace b1 := Hd.mk (b1.out.below hE)
  replace eb1 := Hd.mk (Nat.le_trans eb1.out hE.size)
  replace w0 := Hd.mk (R_below w0.out hE)
  replace ew0 := Hd.mk (Nat.le_trans ew0.out hE.size)
  replace x0 := Hd.mk (R_below x0.out hE)
  replace ex0 := Hd.mk (Nat.le_trans ex0.out hE.size)
  replace hB := Hd.mk (below_then hB.out hE)
  clear hE
  refine (laws_toRow r _ _ (tRow.K_below hB.out hK1.out) HL1.out.1).mono ?_
  rintro e w13 ⟨cs_, rfl, hO, hX⟩
  have db1_x1 := Hd.mk eb1.out
  have dw0_x1 := Hd.mk ew0.out
  have dx0_x1 := Hd.mk ex0.out
  have ax1 := Hd.mk hB.out.size
  replace b1 := Hd.mk (b1.out.below hX)
  replace eb1 := Hd.mk (Nat.le_trans eb1.out hX.size)
  replace w0 := Hd.mk (R_below w0.out hX)
  replace ew0 := Hd.mk (Nat.le_trans ew0.out hX.size)
  replace x0 := Hd.mk (R_below x0.out hX)
  replace ex0 := Hd.mk (Nat.le_trans ex0.out hX.size)
  replace hB := Hd.mk (below_then hB.out hX)
  clear hX
  replace hO := Ty.O_bound _ hO
  obtain ⟨v_, hcs, r1⟩ := tRow_O.1 hO
  subst hcs
  obtain ⟨Ax1, cx1, hv_, hcx1, _⟩ := R_C r1
  subst hv_
  clear r1
  have x1 := Hd.mk (show tRow.O w13 (rng W12.heap.size w13.heap.size) r [Value.int IntKind.i64 r.id, Value.slice Ax1 r.cells.length cx1] from hO); clear hO
  have ex1 := Hd.mk (Nat.le_refl w13.heap.size)
  have fb10 : w13.cell? ⟨w.heap.size, 0, none⟩ = some (Value.int IntKind.i64 r.id) := b1.out.cell 0 rfl
  have fb11 : w13.cell? ⟨w.heap.size, 1, none⟩ = some (Value.slice A1 r.cells.length c1) := b1.out.cell 1 rfl
  have lfb10 := fun o => cell_below (below_alloc (Below.refl _ _) o) fb10
  have lfb11 := fun o => cell_below (below_alloc (Below.refl _ _) o) fb11
  go_wp2_with fail
  clear lfb10 lfb11
  clear fb10 fb11
  apply calls_gen; intro W14 hW
  have hE : Below w13.heap.size w13 W14 := by rw [hW]; (repeat (first | with_reducible refine below_alloc ?_ _ | with_reducible refine below_drew ?_)); exact Below.refl _ _
  have Bx1 := Hd.mk (show Blk W14 w13.heap.size #[Value.int IntKind.i64 r.id, Value.slice Ax1 r.cells.length cx1] 36 by rw [hW]; first | exact Blk.new _ _ _ | exact (Blk.new _ _ _).drew)
  have hz_ : w13.heap.size + 1 ≤ W14.heap.size := by rw [hW]; simp
  clear hW
  have db1_Bx1 := Hd.mk eb1.out
  have dw0_Bx1 := Hd.mk ew0.out
  have dx0_Bx1 := Hd.mk ex0.out
  have dx1_Bx1 := Hd.mk ex1.out
  have aBx1 := Hd.mk hB.out.size
  replace b1 := Hd.mk (b1.out.below hE)
  replace eb1 := Hd.mk (Nat.le_trans eb1.out hE.size)
  replace w0 := Hd.mk (R_below w0.out hE)
  replace ew0 := Hd.mk (Nat.le_trans ew0.out hE.size)
  replace x0 := Hd.mk (R_below x0.out hE)
  replace ex0 := Hd.mk (Nat.le_trans ex0.out hE.size)
  replace x1 := Hd.mk (Ty.O_below x1.out hE)
  replace ex1 := Hd.mk (Nat.le_trans ex1.out hE.size)
  replace hB := Hd.mk (below_then hB.out hE)
  have eBx1 := Hd.mk hz_; clear hz_
  clear hE
  refine (impl_RowPut _ _ l r _ _ (R_Cv x0.out) (tRow.O_K x1.out) (by have := HL0.out.1; omega) (by have h9 := HL1.out.1; simp only [bulkRow] at h9; omega)).mono ?_
  rintro e w15 ⟨v_, rfl, hO, hX⟩
  have db1_g0 := Hd.mk eb1.out
  have dw0_g0 := Hd.mk ew0.out
  have dx0_g0 := Hd.mk ex0.out
  have dx1_g0 := Hd.mk ex1.out
  have dBx1_g0 := Hd.mk eBx1.out
  have ag0 := Hd.mk hB.out.size
  replace b1 := Hd.mk (b1.out.below hX)
  replace eb1 := Hd.mk (Nat.le_trans eb1.out hX.size)
  replace w0 := Hd.mk (R_below w0.out hX)
  replace ew0 := Hd.mk (Nat.le_trans ew0.out hX.size)
  replace x0 := Hd.mk (R_below x0.out hX)
  replace ex0 := Hd.mk (Nat.le_trans ex0.out hX.size)
  replace x1 := Hd.mk (Ty.O_below x1.out hX)
  replace ex1 := Hd.mk (Nat.le_trans ex1.out hX.size)
  replace Bx1 := Hd.mk (Bx1.out.below hX)
  replace eBx1 := Hd.mk (Nat.le_trans eBx1.out hX.size)
  replace hB := Hd.mk (below_then hB.out hX)
  clear hX
  rw [← Hy.out] at hO
  replace hO := R_bound hO
  obtain ⟨Ag0, cg0, hvg0, hcg0, _⟩ := R_C hO
  subst hvg0
  have g0 := Hd.mk (show tRow.R 36 w15 (rng W14.heap.size w15.heap.size) (.slice Ag0 y.length cg0) y from hO); clear hO
  have hmg0 := (R_Cv g0.out).1
  have eg0 := Hd.mk (Nat.le_refl w15.heap.size)
  have fb10 : w15.cell? ⟨w.heap.size, 0, none⟩ = some (Value.int IntKind.i64 r.id) := b1.out.cell 0 rfl
  have fb11 : w15.cell? ⟨w.heap.size, 1, none⟩ = some (Value.slice A1 r.cells.length c1) := b1.out.cell 1 rfl
  have fBx10 : w15.cell? ⟨w13.heap.size, 0, none⟩ = some (Value.int IntKind.i64 r.id) := Bx1.out.cell 0 rfl
  have fBx11 : w15.cell? ⟨w13.heap.size, 1, none⟩ = some (Value.slice Ax1 r.cells.length cx1) := Bx1.out.cell 1 rfl
  go_wp2_with fail
  clear fb10 fb11 fBx10 fBx11
  apply calls_gen; intro W16 hW
  have hE : Below w15.heap.size w15 W16 := by rw [hW]; (repeat (first | with_reducible refine below_alloc ?_ _ | with_reducible refine below_drew ?_)); exact Below.refl _ _
  clear hW
  replace b1 := Hd.mk (b1.out.below hE)
  replace eb1 := Hd.mk (Nat.le_trans eb1.out hE.size)
  replace w0 := Hd.mk (R_below w0.out hE)
  replace ew0 := Hd.mk (Nat.le_trans ew0.out hE.size)
  replace x0 := Hd.mk (R_below x0.out hE)
  replace ex0 := Hd.mk (Nat.le_trans ex0.out hE.size)
  replace x1 := Hd.mk (Ty.O_below x1.out hE)
  replace ex1 := Hd.mk (Nat.le_trans ex1.out hE.size)
  replace Bx1 := Hd.mk (Bx1.out.below hE)
  replace eBx1 := Hd.mk (Nat.le_trans eBx1.out hE.size)
  replace g0 := Hd.mk (R_below g0.out hE)
  replace eg0 := Hd.mk (Nat.le_trans eg0.out hE.size)
  replace hB := Hd.mk (below_then hB.out hE)
  clear hE
  refine (laws_eqRowS _ _ _ _ y y _ (R_Cv g0.out) (R_Cv w0.out)).mono ?_
  rintro e w17 ⟨rfl, hX⟩
  replace b1 := Hd.mk (b1.out.below hX)
  replace eb1 := Hd.mk (Nat.le_trans eb1.out hX.size)
  replace w0 := Hd.mk (R_below w0.out hX)
  replace ew0 := Hd.mk (Nat.le_trans ew0.out hX.size)
  replace x0 := Hd.mk (R_below x0.out hX)
  replace ex0 := Hd.mk (Nat.le_trans ex0.out hX.size)
  replace x1 := Hd.mk (Ty.O_below x1.out hX)
  replace ex1 := Hd.mk (Nat.le_trans ex1.out hX.size)
  replace Bx1 := Hd.mk (Bx1.out.below hX)
  replace eBx1 := Hd.mk (Nat.le_trans eBx1.out hX.size)
  replace g0 := Hd.mk (R_below g0.out hX)
  replace eg0 := Hd.mk (Nat.le_trans eg0.out hX.size)
  replace hB := Hd.mk (below_then hB.out hX)
  clear hX
  rw [eqv_self]
  have fb10 : w17.cell? ⟨w.heap.size, 0, none⟩ = some (Value.int IntKind.i64 r.id) := b1.out.cell 0 rfl
  have fb11 : w17.cell? ⟨w.heap.size, 1, none⟩ = some (Value.slice A1 r.cells.length c1) := b1.out.cell 1 rfl
  have fBx10 : w17.cell? ⟨w13.heap.size, 0, none⟩ = some (Value.int IntKind.i64 r.id) := Bx1.out.cell 0 rfl
  have fBx11 : w17.cell? ⟨w13.heap.size, 1, none⟩ = some (Value.slice Ax1 r.cells.length cx1) := Bx1.out.cell 1 rfl
  go_wp2_with fail
  clear fb10 fb11 fBx10 fBx11
  apply calls_gen; intro W18 hW
  have hE : Below w17.heap.size w17 W18 := by rw [hW]; (repeat (first | with_reducible refine below_alloc ?_ _ | with_reducible refine below_drew ?_)); exact Below.refl _ _
  clear hW
  replace b1 := Hd.mk (b1.out.below hE)
  replace eb1 := Hd.mk (Nat.le_trans eb1.out hE.size)
  replace w0 := Hd.mk (R_below w0.out hE)
  replace ew0 := Hd.mk (Nat.le_trans ew0.out hE.size)
  replace x0 := Hd.mk (R_below x0.out hE)
  replace ex0 := Hd.mk (Nat.le_trans ex0.out hE.size)
  replace x1 := Hd.mk (Ty.O_below x1.out hE)
  replace ex1 := Hd.mk (Nat.le_trans ex1.out hE.size)
  replace Bx1 := Hd.mk (Bx1.out.below hE)
  replace eBx1 := Hd.mk (Nat.le_trans eBx1.out hE.size)
  replace g0 := Hd.mk (R_below g0.out hE)
  replace eg0 := Hd.mk (Nat.le_trans eg0.out hE.size)
  replace hB := Hd.mk (below_then hB.out hE)
  clear hE
  refine (laws_toRowS _ _ l _ (C_below hK0.out hB.out) HL0.out.1).mono ?_
  rintro e w19 ⟨v_, rfl, hO, hX⟩
  have db1_t0 := Hd.mk eb1.out
  have dw0_t0 := Hd.mk ew0.out
  have dx0_t0 := Hd.mk ex0.out
  have dx1_t0 := Hd.mk ex1.out
  have dBx1_t0 := Hd.mk eBx1.out
  have dg0_t0 := Hd.mk eg0.out
  have at0 := Hd.mk hB.out.size
  replace b1 := Hd.mk (b1.out.below hX)
  replace eb1 := Hd.mk (Nat.le_trans eb1.out hX.size)
  replace w0 := Hd.mk (R_below w0.out hX)
  replace ew0 := Hd.mk (Nat.le_trans ew0.out hX.size)
  replace x0 := Hd.mk (R_below x0.out hX)
  replace ex0 := Hd.mk (Nat.le_trans ex0.out hX.size)
  replace x1 := Hd.mk (Ty.O_below x1.out hX)
  replace ex1 := Hd.mk (Nat.le_trans ex1.out hX.size)
  replace Bx1 := Hd.mk (Bx1.out.below hX)
  replace eBx1 := Hd.mk (Nat.le_trans eBx1.out hX.size)
  replace g0 := Hd.mk (R_below g0.out hX)
  replace eg0 := Hd.mk (Nat.le_trans eg0.out hX.size)
  replace hB := Hd.mk (below_then hB.out hX)
  clear hX
  replace hO := R_bound hO
  obtain ⟨At0, ct0, hvt0, hct0, _⟩ := R_C hO
  subst hvt0
  have t0 := Hd.mk (show tRow.R 36 w19 (rng W18.heap.size w19.heap.size) (.slice At0 l.length ct0) l from hO); clear hO
  have hmt0 := (R_Cv t0.out).1
  have et0 := Hd.mk (Nat.le_refl w19.heap.size)
  have fb10 : w19.cell? ⟨w.heap.size, 0, none⟩ = some (Value.int IntKind.i64 r.id) := b1.out.cell 0 rfl
  have fb11 : w19.cell? ⟨w.heap.size, 1, none⟩ = some (Value.slice A1 r.cells.length c1) := b1.out.cell 1 rfl
  have fBx10 : w19.cell? ⟨w13.heap.size, 0, none⟩ = some (Value.int IntKind.i64 r.id) := Bx1.out.cell 0 rfl
  have fBx11 : w19.cell? ⟨w13.heap.size, 1, none⟩ = some (Value.slice Ax1 r.cells.length cx1) := Bx1.out.cell 1 rfl
  go_wp2_with fail
  clear fb10 fb11 fBx10 fBx11
  apply calls_gen; intro W20 hW
  have hE : Below w19.heap.size w19 W20 := by rw [hW]; (repeat (first | with_reducible refine below_alloc ?_ _ | with_reducible refine below_drew ?_)); exact Below.refl _ _
  clear hW
  replace b1 := Hd.mk (b1.out.below hE)
  replace eb1 := Hd.mk (Nat.le_trans eb1.out hE.size)
  replace w0 := Hd.mk (R_below w0.out hE)
  replace ew0 := Hd.mk (Nat.le_trans ew0.out hE.size)
  replace x0 := Hd.mk (R_below x0.out hE)
  replace ex0 := Hd.mk (Nat.le_trans ex0.out hE.size)
  replace x1 := Hd.mk (Ty.O_below x1.out hE)
  replace ex1 := Hd.mk (Nat.le_trans ex1.out hE.size)
  replace Bx1 := Hd.mk (Bx1.out.below hE)
  replace eBx1 := Hd.mk (Nat.le_trans eBx1.out hE.size)
  replace g0 := Hd.mk (R_below g0.out hE)
  replace eg0 := Hd.mk (Nat.le_trans eg0.out hE.size)
  replace t0 := Hd.mk (R_below t0.out hE)
  replace et0 := Hd.mk (Nat.le_trans et0.out hE.size)
  replace hB := Hd.mk (below_then hB.out hE)
  clear hE
  refine (laws_eqRowS _ _ _ _ l l _ (R_Cv x0.out) (R_Cv t0.out)).mono ?_
  rintro e w21 ⟨rfl, hX⟩
  replace b1 := Hd.mk (b1.out.below hX)
  replace eb1 := Hd.mk (Nat.le_trans eb1.out hX.size)
  replace w0 := Hd.mk (R_below w0.out hX)
  replace ew0 := Hd.mk (Nat.le_trans ew0.out hX.size)
  replace x0 := Hd.mk (R_below x0.out hX)
  replace ex0 := Hd.mk (Nat.le_trans ex0.out hX.size)
  replace x1 := Hd.mk (Ty.O_below x1.out hX)
  replace ex1 := Hd.mk (Nat.le_trans ex1.out hX.size)
  replace Bx1 := Hd.mk (Bx1.out.below hX)
  replace eBx1 := Hd.mk (Nat.le_trans eBx1.out hX.size)
  replace g0 := Hd.mk (R_below g0.out hX)
  replace eg0 := Hd.mk (Nat.le_trans eg0.out hX.size)
  replace t0 := Hd.mk (R_below t0.out hX)
  replace et0 := Hd.mk (Nat.le_trans et0.out hX.size)
  replace hB := Hd.mk (below_then hB.out hX)
  clear hX
  rw [eqv_self]
  clear t0 et0
  have fb10 : w21.cell? ⟨w.heap.size, 0, none⟩ = some (Value.int IntKind.i64 r.id) := b1.out.cell 0 rfl
  have fb11 : w21.cell? ⟨w.heap.size, 1, none⟩ = some (Value.slice A1 r.cells.length c1) := b1.out.cell 1 rfl
  have fBx10 : w21.cell? ⟨w13.heap.size, 0, none⟩ = some (Value.int IntKind.i64 r.id) := Bx1.out.cell 0 rfl
  have fBx11 : w21.cell? ⟨w13.heap.size, 1, none⟩ = some (Value.slice Ax1 r.cells.length cx1) := Bx1.out.cell 1 rfl
  go_wp2_with fail
  clear fb10 fb11 fBx10 fBx11
  have fb10 : w21.cell? ⟨w.heap.size, 0, none⟩ = some (Value.int IntKind.i64 r.id) := b1.out.cell 0 rfl
  have fb11 : w21.cell? ⟨w.heap.size, 1, none⟩ = some (Value.slice A1 r.cells.length c1) := b1.out.cell 1 rfl
  have fBx10 : w21.cell? ⟨w13.heap.size, 0, none⟩ = some (Value.int IntKind.i64 r.id) := Bx1.out.cell 0 rfl
  have fBx11 : w21.cell? ⟨w13.heap.size, 1, none⟩ = some (Value.slice Ax1 r.cells.length cx1) := Bx1.out.cell 1 rfl
  have rfb10 := cell_regrown fb10
  have rfb11 := cell_regrown fb11
  have rfBx10 := cell_regrown fBx10
  have rfBx11 := cell_regrown fBx11
  refine region_mix [(true, 0), (true, 1), (false, 2), (false, 3), (true, 4)] (by kernel_rfl) (by kernel_rfl) (fun _ _ _ _ _ h => h) ?_
  try (repeat (refine mix_q rfl ?_; go_big_quiet_want; go_big_quiet_op; go_big_quiet_on; refine wpQuiet_nil ?_))
  refine mix_b rfl ?_ (by rfl)
  go_wp2_with fail
  clear rfb10 rfb11 rfBx10 rfBx11
  clear fb10 fb11 fBx10 fBx11
  have hS := Hd.mk (Below.refl w21.heap.size w21)
  apply calls_gen; intro W22 hW
  have hE : Below w21.heap.size w21 W22 := by rw [hW]; (repeat (first | with_reducible refine below_alloc ?_ _ | with_reducible refine below_drew ?_)); exact Below.refl _ _
  clear hW
  replace b1 := Hd.mk (b1.out.below hE)
  replace eb1 := Hd.mk (Nat.le_trans eb1.out hE.size)
  replace w0 := Hd.mk (R_below w0.out hE)
  replace ew0 := Hd.mk (Nat.le_trans ew0.out hE.size)
  replace x0 := Hd.mk (R_below x0.out hE)
  replace ex0 := Hd.mk (Nat.le_trans ex0.out hE.size)
  replace x1 := Hd.mk (Ty.O_below x1.out hE)
  replace ex1 := Hd.mk (Nat.le_trans ex1.out hE.size)
  replace Bx1 := Hd.mk (Bx1.out.below hE)
  replace eBx1 := Hd.mk (Nat.le_trans eBx1.out hE.size)
  replace g0 := Hd.mk (R_below g0.out hE)
  replace eg0 := Hd.mk (Nat.le_trans eg0.out hE.size)
  replace hB := Hd.mk (below_then hB.out hE)
  replace hS := Hd.mk (below_then hS.out hE)
  clear hE
  refine (laws_toRow r _ _ (tRow.K_below hB.out hK1.out) HL1.out.1).mono ?_
  rintro e w23 ⟨cs_, rfl, hO, hX⟩
  have db1_t1 := Hd.mk eb1.out
  have dw0_t1 := Hd.mk ew0.out
  have dx0_t1 := Hd.mk ex0.out
  have dx1_t1 := Hd.mk ex1.out
  have dBx1_t1 := Hd.mk eBx1.out
  have dg0_t1 := Hd.mk eg0.out
  have at1 := Hd.mk hB.out.size
  replace b1 := Hd.mk (b1.out.below hX)
  replace eb1 := Hd.mk (Nat.le_trans eb1.out hX.size)
  replace w0 := Hd.mk (R_below w0.out hX)
  replace ew0 := Hd.mk (Nat.le_trans ew0.out hX.size)
  replace x0 := Hd.mk (R_below x0.out hX)
  replace ex0 := Hd.mk (Nat.le_trans ex0.out hX.size)
  replace x1 := Hd.mk (Ty.O_below x1.out hX)
  replace ex1 := Hd.mk (Nat.le_trans ex1.out hX.size)
  replace Bx1 := Hd.mk (Bx1.out.below hX)
  replace eBx1 := Hd.mk (Nat.le_trans eBx1.out hX.size)
  replace g0 := Hd.mk (R_below g0.out hX)
  replace eg0 := Hd.mk (Nat.le_trans eg0.out hX.size)
  replace hB := Hd.mk (below_then hB.out hX)
  replace hS := Hd.mk (below_then hS.out hX)
  clear hX
  replace hO := Ty.O_bound _ hO
  obtain ⟨v_, hcs, r1⟩ := tRow_O.1 hO
  subst hcs
  obtain ⟨At1, ct1, hv_, hct1, _⟩ := R_C r1
  subst hv_
  clear r1
  have t1 := Hd.mk (show tRow.O w23 (rng W22.heap.size w23.heap.size) r [Value.int IntKind.i64 r.id, Value.slice At1 r.cells.length ct1] from hO); clear hO
  have et1 := Hd.mk (Nat.le_refl w23.heap.size)
  have fb10 : w23.cell? ⟨w.heap.size, 0, none⟩ = some (Value.int IntKind.i64 r.id) := b1.out.cell 0 rfl
  have fb11 : w23.cell? ⟨w.heap.size, 1, none⟩ = some (Value.slice A1 r.cells.length c1) := b1.out.cell 1 rfl
  have fBx10 : w23.cell? ⟨w13.heap.size, 0, none⟩ = some (Value.int IntKind.i64 r.id) := Bx1.out.cell 0 rfl
  have fBx11 : w23.cell? ⟨w13.heap.size, 1, none⟩ = some (Value.slice Ax1 r.cells.length cx1) := Bx1.out.cell 1 rfl
  go_wp2_with fail
  refine ⟨cls_below hS.out, ?_⟩
  refine mix_b rfl ?_ (by rfl)
  go_wp2_with fail
  clear fb10 fb11 fBx10 fBx11
  apply calls_gen; intro W24 hW
  have hE : Below w23.heap.size w23 W24 := by rw [hW]; (repeat (first | with_reducible refine below_alloc ?_ _ | with_reducible refine below_drew ?_)); exact Below.refl _ _
  clear hW
  replace b1 := Hd.mk (b1.out.below hE)
  replace eb1 := Hd.mk (Nat.le_trans eb1.out hE.size)
  replace w0 := Hd.mk (R_below w0.out hE)
  replace ew0 := Hd.mk (Nat.le_trans ew0.out hE.size)
  replace x0 := Hd.mk (R_below x0.out hE)
  replace ex0 := Hd.mk (Nat.le_trans ex0.out hE.size)
  replace x1 := Hd.mk (Ty.O_below x1.out hE)
  replace ex1 := Hd.mk (Nat.le_trans ex1.out hE.size)
  replace Bx1 := Hd.mk (Bx1.out.below hE)
  replace eBx1 := Hd.mk (Nat.le_trans eBx1.out hE.size)
  replace g0 := Hd.mk (R_below g0.out hE)
  replace eg0 := Hd.mk (Nat.le_trans eg0.out hE.size)
  replace t1 := Hd.mk (Ty.O_below t1.out hE)
  replace et1 := Hd.mk (Nat.le_trans et1.out hE.size)
  replace hB := Hd.mk (below_then hB.out hE)
  replace hS := Hd.mk (below_then hS.out hE)
  clear hE
  refine (laws_eqRow r r _ _ _ (tRow.O_K x1.out) (tRow.O_K t1.out)).mono ?_
  rintro e w25 ⟨rfl, hX⟩
  replace b1 := Hd.mk (b1.out.below hX)
  replace eb1 := Hd.mk (Nat.le_trans eb1.out hX.size)
  replace w0 := Hd.mk (R_below w0.out hX)
  replace ew0 := Hd.mk (Nat.le_trans ew0.out hX.size)
  replace x0 := Hd.mk (R_below x0.out hX)
  replace ex0 := Hd.mk (Nat.le_trans ex0.out hX.size)
  replace x1 := Hd.mk (Ty.O_below x1.out hX)
  replace ex1 := Hd.mk (Nat.le_trans ex1.out hX.size)
  replace Bx1 := Hd.mk (Bx1.out.below hX)
  replace eBx1 := Hd.mk (Nat.le_trans eBx1.out hX.size)
  replace g0 := Hd.mk (R_below g0.out hX)
  replace eg0 := Hd.mk (Nat.le_trans eg0.out hX.size)
  replace t1 := Hd.mk (Ty.O_below t1.out hX)
  replace et1 := Hd.mk (Nat.le_trans et1.out hX.size)
  replace hB := Hd.mk (below_then hB.out hX)
  replace hS := Hd.mk (below_then hS.out hX)
  clear hX
  rw [eqv_self]
  have fb10 : w25.cell? ⟨w.heap.size, 0, none⟩ = some (Value.int IntKind.i64 r.id) := b1.out.cell 0 rfl
  have fb11 : w25.cell? ⟨w.heap.size, 1, none⟩ = some (Value.slice A1 r.cells.length c1) := b1.out.cell 1 rfl
  have fBx10 : w25.cell? ⟨w13.heap.size, 0, none⟩ = some (Value.int IntKind.i64 r.id) := Bx1.out.cell 0 rfl
  have fBx11 : w25.cell? ⟨w13.heap.size, 1, none⟩ = some (Value.slice Ax1 r.cells.length cx1) := Bx1.out.cell 1 rfl
  have rfb10 := cell_regrown fb10
  have rfb11 := cell_regrown fb11
  have rfBx10 := cell_regrown fBx10
  have rfBx11 := cell_regrown fBx11
  go_wp2_with fail
  refine ⟨cls_below hS.out, ?_⟩
  try (repeat (refine mix_q rfl ?_; go_big_quiet_want; go_big_quiet_op; go_big_quiet_on; refine wpQuiet_nil ?_))
  refine mix_nil ?_
  clear rfb10 rfb11 rfBx10 rfBx11
  clear hS
  go_wp2_with fail
  clear fb10 fb11 fBx10 fBx11
  clear t1 et1
  have fb10 : w25.cell? ⟨w.heap.size, 0, none⟩ = some (Value.int IntKind.i64 r.id) := b1.out.cell 0 rfl
  have fb11 : w25.cell? ⟨w.heap.size, 1, none⟩ = some (Value.slice A1 r.cells.length c1) := b1.out.cell 1 rfl
  have fBx10 : w25.cell? ⟨w13.heap.size, 0, none⟩ = some (Value.int IntKind.i64 r.id) := Bx1.out.cell 0 rfl
  have fBx11 : w25.cell? ⟨w13.heap.size, 1, none⟩ = some (Value.slice Ax1 r.cells.length cx1) := Bx1.out.cell 1 rfl
  go_wp2_with fail
  clear fb10 fb11 fBx10 fBx11
  apply calls_gen; intro W26 hW
  have hE : Below w25.heap.size w25 W26 := by rw [hW]; (repeat (first | with_reducible refine below_alloc ?_ _ | with_reducible refine below_drew ?_)); exact Below.refl _ _
  clear hW
  replace b1 := Hd.mk (b1.out.below hE)
  replace eb1 := Hd.mk (Nat.le_trans eb1.out hE.size)
  replace w0 := Hd.mk (R_below w0.out hE)
  replace ew0 := Hd.mk (Nat.le_trans ew0.out hE.size)
  replace x0 := Hd.mk (R_below x0.out hE)
  replace ex0 := Hd.mk (Nat.le_trans ex0.out hE.size)
  replace x1 := Hd.mk (Ty.O_below x1.out hE)
  replace ex1 := Hd.mk (Nat.le_trans ex1.out hE.size)
  replace Bx1 := Hd.mk (Bx1.out.below hE)
  replace eBx1 := Hd.mk (Nat.le_trans eBx1.out hE.size)
  replace g0 := Hd.mk (R_below g0.out hE)
  replace eg0 := Hd.mk (Nat.le_trans eg0.out hE.size)
  replace hB := Hd.mk (below_then hB.out hE)
  clear hE
  refine (laws_markRowS _ _ (1) _ x0.out (by omega) (by omega)).mono ?_
  rintro e w27 ⟨rfl, hM, hX⟩
  have hsz_ := hX.size
  replace b1 := Hd.mk (b1.out.fr hX (rng_not (Or.inl db1_x0.out)))
  replace eb1 := Hd.mk (Nat.le_trans eb1.out hsz_)
  replace w0 := Hd.mk (R_fr w0.out hX (rng_off (Or.inl dw0_x0.out)))
  replace ew0 := Hd.mk (Nat.le_trans ew0.out hsz_)
  replace ex0 := Hd.mk (Nat.le_trans ex0.out hsz_)
  replace x1 := Hd.mk (Ty.O_fr x1.out hX (rng_off (Or.inr dx0_x1.out)))
  replace ex1 := Hd.mk (Nat.le_trans ex1.out hsz_)
  replace Bx1 := Hd.mk (Bx1.out.fr hX (rng_not (Or.inr dx0_Bx1.out)))
  replace eBx1 := Hd.mk (Nat.le_trans eBx1.out hsz_)
  replace g0 := Hd.mk (R_fr g0.out hX (rng_off (Or.inr dx0_g0.out)))
  replace eg0 := Hd.mk (Nat.le_trans eg0.out hsz_)
  replace hB := Hd.mk (below_rng hB.out hX ax0.out)
  clear hsz_
  clear hX
  clear hM
  clear x0 ex0
  have fb10 : w27.cell? ⟨w.heap.size, 0, none⟩ = some (Value.int IntKind.i64 r.id) := b1.out.cell 0 rfl
  have fb11 : w27.cell? ⟨w.heap.size, 1, none⟩ = some (Value.slice A1 r.cells.length c1) := b1.out.cell 1 rfl
  have fBx10 : w27.cell? ⟨w13.heap.size, 0, none⟩ = some (Value.int IntKind.i64 r.id) := Bx1.out.cell 0 rfl
  have fBx11 : w27.cell? ⟨w13.heap.size, 1, none⟩ = some (Value.slice Ax1 r.cells.length cx1) := Bx1.out.cell 1 rfl
  go_wp2_with fail
  clear fb10 fb11 fBx10 fBx11
  apply calls_gen; intro W28 hW
  have hE : Below w27.heap.size w27 W28 := by rw [hW]; (repeat (first | with_reducible refine below_alloc ?_ _ | with_reducible refine below_drew ?_)); exact Below.refl _ _
  clear hW
  replace b1 := Hd.mk (b1.out.below hE)
  replace eb1 := Hd.mk (Nat.le_trans eb1.out hE.size)
  replace w0 := Hd.mk (R_below w0.out hE)
  replace ew0 := Hd.mk (Nat.le_trans ew0.out hE.size)
  replace x1 := Hd.mk (Ty.O_below x1.out hE)
  replace ex1 := Hd.mk (Nat.le_trans ex1.out hE.size)
  replace Bx1 := Hd.mk (Bx1.out.below hE)
  replace eBx1 := Hd.mk (Nat.le_trans eBx1.out hE.size)
  replace g0 := Hd.mk (R_below g0.out hE)
  replace eg0 := Hd.mk (Nat.le_trans eg0.out hE.size)
  replace hB := Hd.mk (below_then hB.out hE)
  clear hE
  refine (laws_markRow _ _ (1 + (bulkL cnRow l : Int)) _ x1.out (by omega) (by omega)).mono ?_
  rintro e w29 ⟨rfl, hM, hX⟩
  have hsz_ := hX.size
  replace b1 := Hd.mk (b1.out.fr hX (rng_not (Or.inl db1_x1.out)))
  replace eb1 := Hd.mk (Nat.le_trans eb1.out hsz_)
  replace w0 := Hd.mk (R_fr w0.out hX (rng_off (Or.inl dw0_x1.out)))
  replace ew0 := Hd.mk (Nat.le_trans ew0.out hsz_)
  replace ex1 := Hd.mk (Nat.le_trans ex1.out hsz_)
  replace Bx1 := Hd.mk (Bx1.out.fr hX (rng_not (Or.inr dx1_Bx1.out)))
  replace eBx1 := Hd.mk (Nat.le_trans eBx1.out hsz_)
  replace g0 := Hd.mk (R_fr g0.out hX (rng_off (Or.inr dx1_g0.out)))
  replace eg0 := Hd.mk (Nat.le_trans eg0.out hsz_)
  replace hB := Hd.mk (below_rng hB.out hX ax1.out)
  clear hsz_
  clear hX
  clear hM
  clear x1 ex1
  have hkp : (0 : Int) ≤ 1 + (bulkL cnRow l : Int) + (r.cells.length : Int) := by omega
  have fb10 : w29.cell? ⟨w.heap.size, 0, none⟩ = some (Value.int IntKind.i64 r.id) := b1.out.cell 0 rfl
  have fb11 : w29.cell? ⟨w.heap.size, 1, none⟩ = some (Value.slice A1 r.cells.length c1) := b1.out.cell 1 rfl
  have fBx10 : w29.cell? ⟨w13.heap.size, 0, none⟩ = some (Value.int IntKind.i64 r.id) := Bx1.out.cell 0 rfl
  have fBx11 : w29.cell? ⟨w13.heap.size, 1, none⟩ = some (Value.slice Ax1 r.cells.length cx1) := Bx1.out.cell 1 rfl
  go_wp2_with fail
  clear fb10 fb11 fBx10 fBx11
  apply calls_gen; intro W30 hW
  have hE : Below w29.heap.size w29 W30 := by rw [hW]; (repeat (first | with_reducible refine below_alloc ?_ _ | with_reducible refine below_drew ?_)); exact Below.refl _ _
  clear hW
  replace b1 := Hd.mk (b1.out.below hE)
  replace eb1 := Hd.mk (Nat.le_trans eb1.out hE.size)
  replace w0 := Hd.mk (R_below w0.out hE)
  replace ew0 := Hd.mk (Nat.le_trans ew0.out hE.size)
  replace Bx1 := Hd.mk (Bx1.out.below hE)
  replace eBx1 := Hd.mk (Nat.le_trans eBx1.out hE.size)
  replace g0 := Hd.mk (R_below g0.out hE)
  replace eg0 := Hd.mk (Nat.le_trans eg0.out hE.size)
  replace hB := Hd.mk (below_then hB.out hE)
  clear hE
  refine (laws_eqRowS _ _ _ _ y y _ (R_Cv g0.out) (R_Cv w0.out)).mono ?_
  rintro e w31 ⟨rfl, hX⟩
  replace b1 := Hd.mk (b1.out.below hX)
  replace eb1 := Hd.mk (Nat.le_trans eb1.out hX.size)
  replace w0 := Hd.mk (R_below w0.out hX)
  replace ew0 := Hd.mk (Nat.le_trans ew0.out hX.size)
  replace Bx1 := Hd.mk (Bx1.out.below hX)
  replace eBx1 := Hd.mk (Nat.le_trans eBx1.out hX.size)
  replace g0 := Hd.mk (R_below g0.out hX)
  replace eg0 := Hd.mk (Nat.le_trans eg0.out hX.size)
  replace hB := Hd.mk (below_then hB.out hX)
  clear hX
  rw [eqv_self]
  have fb10 : w31.cell? ⟨w.heap.size, 0, none⟩ = some (Value.int IntKind.i64 r.id) := b1.out.cell 0 rfl
  have fb11 : w31.cell? ⟨w.heap.size, 1, none⟩ = some (Value.slice A1 r.cells.length c1) := b1.out.cell 1 rfl
  have fBx10 : w31.cell? ⟨w13.heap.size, 0, none⟩ = some (Value.int IntKind.i64 r.id) := Bx1.out.cell 0 rfl
  have fBx11 : w31.cell? ⟨w13.heap.size, 1, none⟩ = some (Value.slice Ax1 r.cells.length cx1) := Bx1.out.cell 1 rfl
  go_wp2_with fail
  clear fb10 fb11 fBx10 fBx11
  apply calls_gen; intro W32 hW
  have hE : Below w31.heap.size w31 W32 := by rw [hW]; (repeat (first | with_reducible refine below_alloc ?_ _ | with_reducible refine below_drew ?_)); exact Below.refl _ _
  clear hW
  replace b1 := Hd.mk (b1.out.below hE)
  replace eb1 := Hd.mk (Nat.le_trans eb1.out hE.size)
  replace w0 := Hd.mk (R_below w0.out hE)
  replace ew0 := Hd.mk (Nat.le_trans ew0.out hE.size)
  replace Bx1 := Hd.mk (Bx1.out.below hE)
  replace eBx1 := Hd.mk (Nat.le_trans eBx1.out hE.size)
  replace g0 := Hd.mk (R_below g0.out hE)
  replace eg0 := Hd.mk (Nat.le_trans eg0.out hE.size)
  replace hB := Hd.mk (below_then hB.out hE)
  clear hE
  refine (laws_markRowS _ _ (1) _ g0.out (by omega) (by omega)).mono ?_
  rintro e w33 ⟨rfl, hM, hX⟩
  have hsz_ := hX.size
  replace b1 := Hd.mk (b1.out.fr hX (rng_not (Or.inl db1_g0.out)))
  replace eb1 := Hd.mk (Nat.le_trans eb1.out hsz_)
  replace w0 := Hd.mk (R_fr w0.out hX (rng_off (Or.inl dw0_g0.out)))
  replace ew0 := Hd.mk (Nat.le_trans ew0.out hsz_)
  replace Bx1 := Hd.mk (Bx1.out.fr hX (rng_not (Or.inl dBx1_g0.out)))
  replace eBx1 := Hd.mk (Nat.le_trans eBx1.out hsz_)
  replace eg0 := Hd.mk (Nat.le_trans eg0.out hsz_)
  replace hB := Hd.mk (below_rng hB.out hX ag0.out)
  clear hsz_
  clear hX
  replace g0 := Hd.mk hM; clear hM
  have hqp : (0 : Int) ≤ 1 + (bulkL cnRow y : Int) := by omega
  have fb10 : w33.cell? ⟨w.heap.size, 0, none⟩ = some (Value.int IntKind.i64 r.id) := b1.out.cell 0 rfl
  have fb11 : w33.cell? ⟨w.heap.size, 1, none⟩ = some (Value.slice A1 r.cells.length c1) := b1.out.cell 1 rfl
  have fBx10 : w33.cell? ⟨w13.heap.size, 0, none⟩ = some (Value.int IntKind.i64 r.id) := Bx1.out.cell 0 rfl
  have fBx11 : w33.cell? ⟨w13.heap.size, 1, none⟩ = some (Value.slice Ax1 r.cells.length cx1) := Bx1.out.cell 1 rfl
  go_wp2_with fail
  clear fb10 fb11 fBx10 fBx11
  apply calls_gen; intro W34 hW
  have hE : Below w33.heap.size w33 W34 := by rw [hW]; (repeat (first | with_reducible refine below_alloc ?_ _ | with_reducible refine below_drew ?_)); exact Below.refl _ _
  clear hW
  replace b1 := Hd.mk (b1.out.below hE)
  replace eb1 := Hd.mk (Nat.le_trans eb1.out hE.size)
  replace w0 := Hd.mk (R_below w0.out hE)
  replace ew0 := Hd.mk (Nat.le_trans ew0.out hE.size)
  replace Bx1 := Hd.mk (Bx1.out.below hE)
  replace eBx1 := Hd.mk (Nat.le_trans eBx1.out hE.size)
  replace g0 := Hd.mk (R_below g0.out hE)
  replace eg0 := Hd.mk (Nat.le_trans eg0.out hE.size)
  replace hB := Hd.mk (below_then hB.out hE)
  clear hE
  have hlen : (markL mkRow cnRow 1 y).length = y.length := markL_length _ _
  rw [← hlen]
  refine (laws_heldRowS _ _ _ y 1 _ (R_Cv g0.out) rfl (by omega) (by omega)).mono ?_
  rintro e w35 ⟨rfl, hX⟩
  replace b1 := Hd.mk (b1.out.below hX)
  replace eb1 := Hd.mk (Nat.le_trans eb1.out hX.size)
  replace w0 := Hd.mk (R_below w0.out hX)
  replace ew0 := Hd.mk (Nat.le_trans ew0.out hX.size)
  replace Bx1 := Hd.mk (Bx1.out.below hX)
  replace eBx1 := Hd.mk (Nat.le_trans eBx1.out hX.size)
  replace g0 := Hd.mk (R_below g0.out hX)
  replace eg0 := Hd.mk (Nat.le_trans eg0.out hX.size)
  replace hB := Hd.mk (below_then hB.out hX)
  clear hX
  have fb10 : w35.cell? ⟨w.heap.size, 0, none⟩ = some (Value.int IntKind.i64 r.id) := b1.out.cell 0 rfl
  have fb11 : w35.cell? ⟨w.heap.size, 1, none⟩ = some (Value.slice A1 r.cells.length c1) := b1.out.cell 1 rfl
  have fBx10 : w35.cell? ⟨w13.heap.size, 0, none⟩ = some (Value.int IntKind.i64 r.id) := Bx1.out.cell 0 rfl
  have fBx11 : w35.cell? ⟨w13.heap.size, 1, none⟩ = some (Value.slice Ax1 r.cells.length cx1) := Bx1.out.cell 1 rfl
  go_wp2_with fail
  clear fb10 fb11 fBx10 fBx11
  have fb10 : w35.cell? ⟨w.heap.size, 0, none⟩ = some (Value.int IntKind.i64 r.id) := b1.out.cell 0 rfl
  have fb11 : w35.cell? ⟨w.heap.size, 1, none⟩ = some (Value.slice A1 r.cells.length c1) := b1.out.cell 1 rfl
  have fBx10 : w35.cell? ⟨w13.heap.size, 0, none⟩ = some (Value.int IntKind.i64 r.id) := Bx1.out.cell 0 rfl
  have fBx11 : w35.cell? ⟨w13.heap.size, 1, none⟩ = some (Value.slice Ax1 r.cells.length cx1) := Bx1.out.cell 1 rfl
  have rfb10 := cell_regrown fb10
  have rfb11 := cell_regrown fb11
  have rfBx10 := cell_regrown fBx10
  have rfBx11 := cell_regrown fBx11
  refine region_mix [(true, 0), (true, 2), (false, 1), (false, 3), (false, 4), (true, 5)] (by kernel_rfl) (by kernel_rfl) (fun _ _ _ _ _ h => h) ?_
  try (repeat (refine mix_q rfl ?_; go_big_quiet_want; go_big_quiet_op; go_big_quiet_on; refine wpQuiet_nil ?_))
  refine mix_b rfl ?_ (by rfl)
  go_wp2_with fail
  clear rfb10 rfb11 rfBx10 rfBx11
  clear fb10 fb11 fBx10 fBx11
  have hS := Hd.mk (Below.refl w35.heap.size w35)
  apply calls_gen; intro W36 hW
  have hE : Below w35.heap.size w35 W36 := by rw [hW]; (repeat (first | with_reducible refine below_alloc ?_ _ | with_reducible refine below_drew ?_)); exact Below.refl _ _
  clear hW
  replace b1 := Hd.mk (b1.out.below hE)
  replace eb1 := Hd.mk (Nat.le_trans eb1.out hE.size)
  replace w0 := Hd.mk (R_below w0.out hE)
  replace ew0 := Hd.mk (Nat.le_trans ew0.out hE.size)
  replace Bx1 := Hd.mk (Bx1.out.below hE)
  replace eBx1 := Hd.mk (Nat.le_trans eBx1.out hE.size)
  replace g0 := Hd.mk (R_below g0.out hE)
  replace eg0 := Hd.mk (Nat.le_trans eg0.out hE.size)
  replace hB := Hd.mk (below_then hB.out hE)
  replace hS := Hd.mk (below_then hS.out hE)
  clear hE
  refine (laws_toRowS _ _ l _ (C_below hK0.out hB.out) HL0.out.1).mono ?_
  rintro e w37 ⟨v_, rfl, hO, hX⟩
  have db1_r0 := Hd.mk eb1.out
  have dw0_r0 := Hd.mk ew0.out
  have dBx1_r0 := Hd.mk eBx1.out
  have dg0_r0 := Hd.mk eg0.out
  have ar0 := Hd.mk hB.out.size
  replace b1 := Hd.mk (b1.out.below hX)
  replace eb1 := Hd.mk (Nat.le_trans eb1.out hX.size)
  replace w0 := Hd.mk (R_below w0.out hX)
  replace ew0 := Hd.mk (Nat.le_trans ew0.out hX.size)
  replace Bx1 := Hd.mk (Bx1.out.below hX)
  replace eBx1 := Hd.mk (Nat.le_trans eBx1.out hX.size)
  replace g0 := Hd.mk (R_below g0.out hX)
  replace eg0 := Hd.mk (Nat.le_trans eg0.out hX.size)
  replace hB := Hd.mk (below_then hB.out hX)
  replace hS := Hd.mk (below_then hS.out hX)
  clear hX
  replace hO := R_bound hO
  obtain ⟨Ar0, cr0, hvr0, hcr0, _⟩ := R_C hO
  subst hvr0
  have r0 := Hd.mk (show tRow.R 36 w37 (rng W36.heap.size w37.heap.size) (.slice Ar0 l.length cr0) l from hO); clear hO
  have hmr0 := (R_Cv r0.out).1
  have er0 := Hd.mk (Nat.le_refl w37.heap.size)
  have fb10 : w37.cell? ⟨w.heap.size, 0, none⟩ = some (Value.int IntKind.i64 r.id) := b1.out.cell 0 rfl
  have fb11 : w37.cell? ⟨w.heap.size, 1, none⟩ = some (Value.slice A1 r.cells.length c1) := b1.out.cell 1 rfl
  have fBx10 : w37.cell? ⟨w13.heap.size, 0, none⟩ = some (Value.int IntKind.i64 r.id) := Bx1.out.cell 0 rfl
  have fBx11 : w37.cell? ⟨w13.heap.size, 1, none⟩ = some (Value.slice Ax1 r.cells.length cx1) := Bx1.out.cell 1 rfl
  go_wp2_with fail
  refine ⟨cls_below hS.out, ?_⟩
  refine mix_b rfl ?_ (by rfl)
  go_wp2_with fail
  clear fb10 fb11 fBx10 fBx11
  apply calls_gen; intro W38 hW
  have hE : Below w37.heap.size w37 W38 := by rw [hW]; (repeat (first | with_reducible refine below_alloc ?_ _ | with_reducible refine below_drew ?_)); exact Below.refl _ _
  clear hW
  replace b1 := Hd.mk (b1.out.below hE)
  replace eb1 := Hd.mk (Nat.le_trans eb1.out hE.size)
  replace w0 := Hd.mk (R_below w0.out hE)
  replace ew0 := Hd.mk (Nat.le_trans ew0.out hE.size)
  replace Bx1 := Hd.mk (Bx1.out.below hE)
  replace eBx1 := Hd.mk (Nat.le_trans eBx1.out hE.size)
  replace g0 := Hd.mk (R_below g0.out hE)
  replace eg0 := Hd.mk (Nat.le_trans eg0.out hE.size)
  replace r0 := Hd.mk (R_below r0.out hE)
  replace er0 := Hd.mk (Nat.le_trans er0.out hE.size)
  replace hB := Hd.mk (below_then hB.out hE)
  replace hS := Hd.mk (below_then hS.out hE)
  clear hE
  refine (laws_toRow r _ _ (tRow.K_below hB.out hK1.out) HL1.out.1).mono ?_
  rintro e w39 ⟨cs_, rfl, hO, hX⟩
  have db1_r1 := Hd.mk eb1.out
  have dw0_r1 := Hd.mk ew0.out
  have dBx1_r1 := Hd.mk eBx1.out
  have dg0_r1 := Hd.mk eg0.out
  have dr0_r1 := Hd.mk er0.out
  have ar1 := Hd.mk hB.out.size
  replace b1 := Hd.mk (b1.out.below hX)
  replace eb1 := Hd.mk (Nat.le_trans eb1.out hX.size)
  replace w0 := Hd.mk (R_below w0.out hX)
  replace ew0 := Hd.mk (Nat.le_trans ew0.out hX.size)
  replace Bx1 := Hd.mk (Bx1.out.below hX)
  replace eBx1 := Hd.mk (Nat.le_trans eBx1.out hX.size)
  replace g0 := Hd.mk (R_below g0.out hX)
  replace eg0 := Hd.mk (Nat.le_trans eg0.out hX.size)
  replace r0 := Hd.mk (R_below r0.out hX)
  replace er0 := Hd.mk (Nat.le_trans er0.out hX.size)
  replace hB := Hd.mk (below_then hB.out hX)
  replace hS := Hd.mk (below_then hS.out hX)
  clear hX
  replace hO := Ty.O_bound _ hO
  obtain ⟨v_, hcs, r1⟩ := tRow_O.1 hO
  subst hcs
  obtain ⟨Ar1, cr1, hv_, hcr1, _⟩ := R_C r1
  subst hv_
  clear r1
  have r1 := Hd.mk (show tRow.O w39 (rng W38.heap.size w39.heap.size) r [Value.int IntKind.i64 r.id, Value.slice Ar1 r.cells.length cr1] from hO); clear hO
  have er1 := Hd.mk (Nat.le_refl w39.heap.size)
  have fb10 : w39.cell? ⟨w.heap.size, 0, none⟩ = some (Value.int IntKind.i64 r.id) := b1.out.cell 0 rfl
  have fb11 : w39.cell? ⟨w.heap.size, 1, none⟩ = some (Value.slice A1 r.cells.length c1) := b1.out.cell 1 rfl
  have fBx10 : w39.cell? ⟨w13.heap.size, 0, none⟩ = some (Value.int IntKind.i64 r.id) := Bx1.out.cell 0 rfl
  have fBx11 : w39.cell? ⟨w13.heap.size, 1, none⟩ = some (Value.slice Ax1 r.cells.length cx1) := Bx1.out.cell 1 rfl
  go_wp2_with fail
  refine ⟨cls_below hS.out, ?_⟩
  refine mix_b rfl ?_ (by rfl)
  go_wp2_with fail
  clear fb10 fb11 fBx10 fBx11
  apply calls_gen; intro W40 hW
  have hE : Below w39.heap.size w39 W40 := by rw [hW]; (repeat (first | with_reducible refine below_alloc ?_ _ | with_reducible refine below_drew ?_)); exact Below.refl _ _
  clear hW
  replace b1 := Hd.mk (b1.out.below hE)
  replace eb1 := Hd.mk (Nat.le_trans eb1.out hE.size)
  replace w0 := Hd.mk (R_below w0.out hE)
  replace ew0 := Hd.mk (Nat.le_trans ew0.out hE.size)
  replace Bx1 := Hd.mk (Bx1.out.below hE)
  replace eBx1 := Hd.mk (Nat.le_trans eBx1.out hE.size)
  replace g0 := Hd.mk (R_below g0.out hE)
  replace eg0 := Hd.mk (Nat.le_trans eg0.out hE.size)
  replace r0 := Hd.mk (R_below r0.out hE)
  replace er0 := Hd.mk (Nat.le_trans er0.out hE.size)
  replace r1 := Hd.mk (Ty.O_below r1.out hE)
  replace er1 := Hd.mk (Nat.le_trans er1.out hE.size)
  replace hB := Hd.mk (below_then hB.out hE)
  replace hS := Hd.mk (below_then hS.out hE)
  clear hE
  refine (impl_RowPut _ _ l r _ _ (R_Cv r0.out) (tRow.O_K r1.out) (by have := HL0.out.1; omega) (by have h9 := HL1.out.1; simp only [bulkRow] at h9; omega)).mono ?_
  rintro e w41 ⟨v_, rfl, hO, hX⟩
  have db1_h0 := Hd.mk eb1.out
  have dw0_h0 := Hd.mk ew0.out
  have dBx1_h0 := Hd.mk eBx1.out
  have dg0_h0 := Hd.mk eg0.out
  have dr0_h0 := Hd.mk er0.out
  have dr1_h0 := Hd.mk er1.out
  have ah0 := Hd.mk hB.out.size
  replace b1 := Hd.mk (b1.out.below hX)
  replace eb1 := Hd.mk (Nat.le_trans eb1.out hX.size)
  replace w0 := Hd.mk (R_below w0.out hX)
  replace ew0 := Hd.mk (Nat.le_trans ew0.out hX.size)
  replace Bx1 := Hd.mk (Bx1.out.below hX)
  replace eBx1 := Hd.mk (Nat.le_trans eBx1.out hX.size)
  replace g0 := Hd.mk (R_below g0.out hX)
  replace eg0 := Hd.mk (Nat.le_trans eg0.out hX.size)
  replace r0 := Hd.mk (R_below r0.out hX)
  replace er0 := Hd.mk (Nat.le_trans er0.out hX.size)
  replace r1 := Hd.mk (Ty.O_below r1.out hX)
  replace er1 := Hd.mk (Nat.le_trans er1.out hX.size)
  replace hB := Hd.mk (below_then hB.out hX)
  replace hS := Hd.mk (below_then hS.out hX)
  clear hX
  rw [← Hy.out] at hO
  replace hO := R_bound hO
  obtain ⟨Ah0, ch0, hvh0, hch0, _⟩ := R_C hO
  subst hvh0
  have h0 := Hd.mk (show tRow.R 36 w41 (rng W40.heap.size w41.heap.size) (.slice Ah0 y.length ch0) y from hO); clear hO
  have hmh0 := (R_Cv h0.out).1
  have eh0 := Hd.mk (Nat.le_refl w41.heap.size)
  have fb10 : w41.cell? ⟨w.heap.size, 0, none⟩ = some (Value.int IntKind.i64 r.id) := b1.out.cell 0 rfl
  have fb11 : w41.cell? ⟨w.heap.size, 1, none⟩ = some (Value.slice A1 r.cells.length c1) := b1.out.cell 1 rfl
  have fBx10 : w41.cell? ⟨w13.heap.size, 0, none⟩ = some (Value.int IntKind.i64 r.id) := Bx1.out.cell 0 rfl
  have fBx11 : w41.cell? ⟨w13.heap.size, 1, none⟩ = some (Value.slice Ax1 r.cells.length cx1) := Bx1.out.cell 1 rfl
  have rfb10 := cell_regrown fb10
  have rfb11 := cell_regrown fb11
  have rfBx10 := cell_regrown fBx10
  have rfBx11 := cell_regrown fBx11
  go_wp2_with fail
  refine ⟨cls_below hS.out, ?_⟩
  try (repeat (refine mix_q rfl ?_; go_big_quiet_want; go_big_quiet_op; go_big_quiet_on; refine wpQuiet_nil ?_))
  refine mix_nil ?_
  clear rfb10 rfb11 rfBx10 rfBx11
  clear hS
  go_wp2_with fail
  clear fb10 fb11 fBx10 fBx11
  clear r0 er0
  clear r1 er1
  have fb10 : w41.cell? ⟨w.heap.size, 0, none⟩ = some (Value.int IntKind.i64 r.id) := b1.out.cell 0 rfl
  have fb11 : w41.cell? ⟨w.heap.size, 1, none⟩ = some (Value.slice A1 r.cells.length c1) := b1.out.cell 1 rfl
  have fBx10 : w41.cell? ⟨w13.heap.size, 0, none⟩ = some (Value.int IntKind.i64 r.id) := Bx1.out.cell 0 rfl
  have fBx11 : w41.cell? ⟨w13.heap.size, 1, none⟩ = some (Value.slice Ax1 r.cells.length cx1) := Bx1.out.cell 1 rfl
  go_wp2_with fail
  clear fb10 fb11 fBx10 fBx11
  apply calls_gen; intro W42 hW
  have hE : Below w41.heap.size w41 W42 := by rw [hW]; (repeat (first | with_reducible refine below_alloc ?_ _ | with_reducible refine below_drew ?_)); exact Below.refl _ _
  clear hW
  replace b1 := Hd.mk (b1.out.below hE)
  replace eb1 := Hd.mk (Nat.le_trans eb1.out hE.size)
  replace w0 := Hd.mk (R_below w0.out hE)
  replace ew0 := Hd.mk (Nat.le_trans ew0.out hE.size)
  replace Bx1 := Hd.mk (Bx1.out.below hE)
  replace eBx1 := Hd.mk (Nat.le_trans eBx1.out hE.size)
  replace g0 := Hd.mk (R_below g0.out hE)
  replace eg0 := Hd.mk (Nat.le_trans eg0.out hE.size)
  replace h0 := Hd.mk (R_below h0.out hE)
  replace eh0 := Hd.mk (Nat.le_trans eh0.out hE.size)
  replace hB := Hd.mk (below_then hB.out hE)
  clear hE
  refine (laws_eqRowS _ _ _ _ y y _ (R_Cv h0.out) (R_Cv w0.out)).mono ?_
  rintro e w43 ⟨rfl, hX⟩
  replace b1 := Hd.mk (b1.out.below hX)
  replace eb1 := Hd.mk (Nat.le_trans eb1.out hX.size)
  replace w0 := Hd.mk (R_below w0.out hX)
  replace ew0 := Hd.mk (Nat.le_trans ew0.out hX.size)
  replace Bx1 := Hd.mk (Bx1.out.below hX)
  replace eBx1 := Hd.mk (Nat.le_trans eBx1.out hX.size)
  replace g0 := Hd.mk (R_below g0.out hX)
  replace eg0 := Hd.mk (Nat.le_trans eg0.out hX.size)
  replace h0 := Hd.mk (R_below h0.out hX)
  replace eh0 := Hd.mk (Nat.le_trans eh0.out hX.size)
  replace hB := Hd.mk (below_then hB.out hX)
  clear hX
  rw [eqv_self]
  have fb10 : w43.cell? ⟨w.heap.size, 0, none⟩ = some (Value.int IntKind.i64 r.id) := b1.out.cell 0 rfl
  have fb11 : w43.cell? ⟨w.heap.size, 1, none⟩ = some (Value.slice A1 r.cells.length c1) := b1.out.cell 1 rfl
  have fBx10 : w43.cell? ⟨w13.heap.size, 0, none⟩ = some (Value.int IntKind.i64 r.id) := Bx1.out.cell 0 rfl
  have fBx11 : w43.cell? ⟨w13.heap.size, 1, none⟩ = some (Value.slice Ax1 r.cells.length cx1) := Bx1.out.cell 1 rfl
  go_wp2_with fail
  clear fb10 fb11 fBx10 fBx11
  apply calls_gen; intro W44 hW
  have hE : Below w43.heap.size w43 W44 := by rw [hW]; (repeat (first | with_reducible refine below_alloc ?_ _ | with_reducible refine below_drew ?_)); exact Below.refl _ _
  clear hW
  replace b1 := Hd.mk (b1.out.below hE)
  replace eb1 := Hd.mk (Nat.le_trans eb1.out hE.size)
  replace w0 := Hd.mk (R_below w0.out hE)
  replace ew0 := Hd.mk (Nat.le_trans ew0.out hE.size)
  replace Bx1 := Hd.mk (Bx1.out.below hE)
  replace eBx1 := Hd.mk (Nat.le_trans eBx1.out hE.size)
  replace g0 := Hd.mk (R_below g0.out hE)
  replace eg0 := Hd.mk (Nat.le_trans eg0.out hE.size)
  replace h0 := Hd.mk (R_below h0.out hE)
  replace eh0 := Hd.mk (Nat.le_trans eh0.out hE.size)
  replace hB := Hd.mk (below_then hB.out hE)
  clear hE
  have hlen : (markL mkRow cnRow 1 y).length = y.length := markL_length _ _
  rw [← hlen]
  refine (laws_heldRowS _ _ _ y 1 _ (R_Cv g0.out) rfl (by omega) (by omega)).mono ?_
  rintro e w45 ⟨rfl, hX⟩
  replace b1 := Hd.mk (b1.out.below hX)
  replace eb1 := Hd.mk (Nat.le_trans eb1.out hX.size)
  replace w0 := Hd.mk (R_below w0.out hX)
  replace ew0 := Hd.mk (Nat.le_trans ew0.out hX.size)
  replace Bx1 := Hd.mk (Bx1.out.below hX)
  replace eBx1 := Hd.mk (Nat.le_trans eBx1.out hX.size)
  replace g0 := Hd.mk (R_below g0.out hX)
  replace eg0 := Hd.mk (Nat.le_trans eg0.out hX.size)
  replace h0 := Hd.mk (R_below h0.out hX)
  replace eh0 := Hd.mk (Nat.le_trans eh0.out hX.size)
  replace hB := Hd.mk (below_then hB.out hX)
  clear hX
  have fb10 : w45.cell? ⟨w.heap.size, 0, none⟩ = some (Value.int IntKind.i64 r.id) := b1.out.cell 0 rfl
  have fb11 : w45.cell? ⟨w.heap.size, 1, none⟩ = some (Value.slice A1 r.cells.length c1) := b1.out.cell 1 rfl
  have fBx10 : w45.cell? ⟨w13.heap.size, 0, none⟩ = some (Value.int IntKind.i64 r.id) := Bx1.out.cell 0 rfl
  have fBx11 : w45.cell? ⟨w13.heap.size, 1, none⟩ = some (Value.slice Ax1 r.cells.length cx1) := Bx1.out.cell 1 rfl
  go_wp2_with fail
  clear fb10 fb11 fBx10 fBx11
  go_ret
  exact ⟨rfl, hB.out⟩
end Go.Proofs.Ytchjcllpnpibeaa.X
