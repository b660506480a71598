/- What is proved here: the law FnExactOpRead answers true. Conditions: none. -/
import Derived.Test.YtkgefjjgjjmklaaDoorXP
import Derived.Test.YtkgefjjgjjmklaaDoorXOo
import Derived.Test.YtkgefjjgjjmklaaDoorXOr
import Derived.Test.YtkgefjjgjjmklaaDoorXOs
import Derived.StillTailTactics
import Derived.Deep.RegionWith
namespace Go.Proofs.YtkgefjjgjjmklaaDoor.X
open Go.RowKit Go.Sort
set_option linter.unusedVariables false
set_option linter.unusedSimpArgs false
open Ty
set_option maxHeartbeats 16000000 in
set_option maxRecDepth 100000 in
theorem laws_FnExactOpRead {w : World} (B0 : Nat) (j : J) (cs0 : List Value) (hk0 : (tJ (B0 + 1)).K w j cs0) (hM : EnvM w) :
    Calls Tryd.prog 10 #[.agg cs0.toArray] w fun e w' => e = .returned (.bool true) ∧ Below w.heap.size w w' := by
  obtain ⟨m, hm⟩ : ∃ m : Nat, B0 ≤ m := ⟨B0, by omega⟩
  replace hk0 : (tJ (m + 1)).K w j cs0 := (tJ_le (by omega : B0 + 1 ≤ m + 1)).K _ _ _ hk0
  clear hm
  obtain ⟨y, hy⟩ : ∃ z, z = readO j := ⟨_, rfl⟩
  have Hy := Hd.mk hy; clear hy
  obtain ⟨yb, hyb⟩ : ∃ z, z = readB j := ⟨_, rfl⟩
  have Hyb := Hd.mk hyb; clear hyb
  obtain ⟨A0, c0, A0B, c0B, rfl, hs0, ⟨hc0, hr0⟩, hc0B, hr0B⟩ := tJ_K.1 hk0
  have hK0 := Hd.mk hk0; clear hk0
  clear hr0 hr0B
  replace hM := Hd.mk hM
  go_enter Tryd.func10, Tryd.ntmps10
  go_wp2_with fail
  apply calls_gen; intro W0 hW
  have hE : Below w.heap.size w W0 := by rw [hW]; (repeat (with_reducible refine below_alloc ?_ _)); exact Below.refl _ _
  have b0 := Hd.mk (show Blk W0 (w.heap.size) #[Value.int IntKind.i64 j.kind, Value.int IntKind.i64 j.n, Value.string j.s, Value.slice A0 j.list.length c0, Value.slice A0B j.names.length c0B] 35 by rw [hW]; exact (Blk.new w _ _))
  have hz_ : w.heap.size + 1 ≤ W0.heap.size := by rw [hW]; simp
  clear hW
  have hB := Hd.mk hE; clear hE
  have ab0 := Hd.mk (show w.heap.size ≤ w.heap.size by omega)
  have eb0 := Hd.mk (show w.heap.size + 1 ≤ W0.heap.size by omega)
  clear hz_
  refine (laws_szJson j _ _ _ ((tJ (m + 1)).K_below hB.out hK0.out) (by omega) (by omega)).mono ?_
  rintro e w1 ⟨rfl, hX⟩
  replace b0 := Hd.mk (b0.out.below hX)
  replace eb0 := Hd.mk (Nat.le_trans eb0.out hX.size)
  replace hB := Hd.mk (below_then hB.out hX)
  clear hX
  have fb00 : w1.cell? ⟨w.heap.size, 0, none⟩ = some (Value.int IntKind.i64 j.kind) := b0.out.cell 0 rfl
  have fb01 : w1.cell? ⟨w.heap.size, 1, none⟩ = some (Value.int IntKind.i64 j.n) := b0.out.cell 1 rfl
  have fb02 : w1.cell? ⟨w.heap.size, 2, none⟩ = some (Value.string j.s) := b0.out.cell 2 rfl
  have fb03 : w1.cell? ⟨w.heap.size, 3, none⟩ = some (Value.slice A0 j.list.length c0) := b0.out.cell 3 rfl
  have fb04 : w1.cell? ⟨w.heap.size, 4, none⟩ = some (Value.slice A0B j.names.length c0B) := b0.out.cell 4 rfl
  by_cases hz0 : szR 1048576 (bulkJ (m + 1) j) < 0
  · go_wp2_with fail
    go_ret
    exact ⟨rfl, hB.out⟩
  have HL0 := Hd.mk (szR_le (Int.not_lt.1 hz0) (by omega))
  have hy0 := HL0.out.2.1
  have hx0 := HL0.out.2.2.1
  clear hz0
  go_wp2_with fail
  clear fb00 fb01 fb02 fb03 fb04
  have hx_0 : ((bulkL (cnJ m) j.list : Int) + (j.names.length : Int) : Int) ≤ 8388608 := by have := cnt_Json m j; have := HL0.out.1; omega
  have hx_y : ((y.way.length : Int) + (bulkL (cnJ m) y.value.list : Int) + (y.value.names.length : Int) : Int) ≤ 1099511627776 := by (rw [Hy.out]; have h1 := cnt_Op m (readO j); have h2 := bulk_readO hK0.out; have h3 := HL0.out.1; omega)
  apply calls_gen; intro W2 hW
  have hE : Below w1.heap.size w1 W2 := by rw [hW]; (repeat (first | with_reducible refine below_alloc ?_ _ | with_reducible refine below_drew ?_)); exact Below.refl _ _
  clear hW
  replace b0 := Hd.mk (b0.out.below hE)
  replace eb0 := Hd.mk (Nat.le_trans eb0.out hE.size)
  replace hB := Hd.mk (below_then hB.out hE)
  clear hE
  refine (laws_toJson j _ _ ((tJ (m + 1)).K_below hB.out hK0.out) HL0.out.1).mono ?_
  rintro e w3 ⟨cs_, rfl, hO, hX⟩
  have db0_s0 := Hd.mk eb0.out
  have as0 := Hd.mk hB.out.size
  replace b0 := Hd.mk (b0.out.below hX)
  replace eb0 := Hd.mk (Nat.le_trans eb0.out hX.size)
  replace hB := Hd.mk (below_then hB.out hX)
  clear hX
  replace hO := Ty.O_bound _ hO
  obtain ⟨v_, u_, _, _, hcs, _, r1, r2, _⟩ := tJ_O.1 hO
  subst hcs
  obtain ⟨As0, cs0, hv_, hcs0, _⟩ := R_C r1
  subst hv_
  clear r1
  obtain ⟨As0B, cs0B, hv_, hcs0B, _⟩ := R_C r2
  subst hv_
  clear r2
  have s0 := Hd.mk (show (tJ (m + 1)).O w3 (rng W2.heap.size w3.heap.size) j [Value.int IntKind.i64 j.kind, Value.int IntKind.i64 j.n, Value.string j.s, Value.slice As0 j.list.length cs0, Value.slice As0B j.names.length cs0B] from hO); clear hO
  have es0 := Hd.mk (Nat.le_refl w3.heap.size)
  have fb00 : w3.cell? ⟨w.heap.size, 0, none⟩ = some (Value.int IntKind.i64 j.kind) := b0.out.cell 0 rfl
  have fb01 : w3.cell? ⟨w.heap.size, 1, none⟩ = some (Value.int IntKind.i64 j.n) := b0.out.cell 1 rfl
  have fb02 : w3.cell? ⟨w.heap.size, 2, none⟩ = some (Value.string j.s) := b0.out.cell 2 rfl
  have fb03 : w3.cell? ⟨w.heap.size, 3, none⟩ = some (Value.slice A0 j.list.length c0) := b0.out.cell 3 rfl
  have fb04 : w3.cell? ⟨w.heap.size, 4, none⟩ = some (Value.slice A0B j.names.length c0B) := b0.out.cell 4 rfl
  go_wp2_with fail
  clear fb00 fb01 fb02 fb03 fb04
  apply calls_gen; intro W4 hW
  have hE : Below w3.heap.size w3 W4 := by rw [hW]; (repeat (first | with_reducible refine below_alloc ?_ _ | with_reducible refine below_drew ?_)); exact Below.refl _ _
  clear hW
  replace b0 := Hd.mk (b0.out.below hE)
  replace eb0 := Hd.mk (Nat.le_trans eb0.out hE.size)
  replace s0 := Hd.mk (Ty.O_below s0.out hE)
  replace es0 := Hd.mk (Nat.le_trans es0.out hE.size)
  replace hB := Hd.mk (below_then hB.out hE)
  clear hE
  refine (spec_OpRead j _ _ ((tJ (m + 1)).O_K s0.out) (by have := HL0.out.1; omega)).mono ?_
  rintro e w5 ⟨cs_, rfl, hO, hX⟩
  have db0_w0 := Hd.mk eb0.out
  have ds0_w0 := Hd.mk es0.out
  have aw0 := Hd.mk hB.out.size
  replace b0 := Hd.mk (b0.out.below hX)
  replace eb0 := Hd.mk (Nat.le_trans eb0.out hX.size)
  replace s0 := Hd.mk (Ty.O_below s0.out hX)
  replace es0 := Hd.mk (Nat.le_trans es0.out hX.size)
  replace hB := Hd.mk (below_then hB.out hX)
  clear hX
  rw [← Hy.out] at hO
  rw [← Hyb.out]
  replace hO := Ty.O_bound _ hO
  obtain ⟨v_, c1_, _, _, hcs, r1, rj_, _⟩ := tOp_O.1 hO
  obtain ⟨Aw0w, cw0w, hv_, hcw0w, _⟩ := R_C r1
  subst hv_
  clear r1
  obtain ⟨v_, u_, _, _, hcs2, _, r1, r2, _⟩ := tJ_O.1 rj_
  clear rj_
  subst hcs2
  subst hcs
  obtain ⟨Aw0, cw0, hv_, hcw0, _⟩ := R_C r1
  subst hv_
  clear r1
  obtain ⟨Aw0B, cw0B, hv_, hcw0B, _⟩ := R_C r2
  subst hv_
  clear r2
  have w0 := Hd.mk (show (tOp (m + 1)).O w5 (rng W4.heap.size w5.heap.size) y [Value.int IntKind.i64 y.kind, Value.slice Aw0w y.way.length cw0w, Value.int IntKind.i64 y.value.kind, Value.int IntKind.i64 y.value.n, Value.string y.value.s, Value.slice Aw0 y.value.list.length cw0, Value.slice Aw0B y.value.names.length cw0B] from hO); clear hO
  have ew0 := Hd.mk (Nat.le_refl w5.heap.size)
  clear s0 es0
  have fb00 : w5.cell? ⟨w.heap.size, 0, none⟩ = some (Value.int IntKind.i64 j.kind) := b0.out.cell 0 rfl
  have fb01 : w5.cell? ⟨w.heap.size, 1, none⟩ = some (Value.int IntKind.i64 j.n) := b0.out.cell 1 rfl
  have fb02 : w5.cell? ⟨w.heap.size, 2, none⟩ = some (Value.string j.s) := b0.out.cell 2 rfl
  have fb03 : w5.cell? ⟨w.heap.size, 3, none⟩ = some (Value.slice A0 j.list.length c0) := b0.out.cell 3 rfl
  have fb04 : w5.cell? ⟨w.heap.size, 4, none⟩ = some (Value.slice A0B j.names.length c0B) := b0.out.cell 4 rfl
  have lfb00 := fun o => cell_below (below_alloc (Below.refl _ _) o) fb00
  have lfb01 := fun o => cell_below (below_alloc (Below.refl _ _) o) fb01
  have lfb02 := fun o => cell_below (below_alloc (Below.refl _ _) o) fb02
  have lfb03 := fun o => cell_below (below_alloc (Below.refl _ _) o) fb03
  have lfb04 := fun o => cell_below (below_alloc (Below.refl _ _) o) fb04
  go_wp2_with fail
  clear lfb00 lfb01 lfb02 lfb03 lfb04
  clear fb00 fb01 fb02 fb03 fb04
  apply calls_gen; intro W6 hW
  have hE : Below w5.heap.size w5 W6 := by rw [hW]; (repeat (first | with_reducible refine below_alloc ?_ _ | with_reducible refine below_drew ?_)); exact Below.refl _ _
  have Bw0 := Hd.mk (show Blk W6 w5.heap.size #[Value.int IntKind.i64 y.kind, Value.slice Aw0w y.way.length cw0w, Value.int IntKind.i64 y.value.kind, Value.int IntKind.i64 y.value.n, Value.string y.value.s, Value.slice Aw0 y.value.list.length cw0, Value.slice Aw0B y.value.names.length cw0B] 49 by rw [hW]; first | exact Blk.new _ _ _ | exact (Blk.new _ _ _).drew)
  have hz_ : w5.heap.size + 1 ≤ W6.heap.size := by rw [hW]; simp
  clear hW
  have db0_Bw0 := Hd.mk eb0.out
  have dw0_Bw0 := Hd.mk ew0.out
  have aBw0 := Hd.mk hB.out.size
  replace b0 := Hd.mk (b0.out.below hE)
  replace eb0 := Hd.mk (Nat.le_trans eb0.out hE.size)
  replace w0 := Hd.mk (Ty.O_below w0.out hE)
  replace ew0 := Hd.mk (Nat.le_trans ew0.out hE.size)
  replace hB := Hd.mk (below_then hB.out hE)
  have eBw0 := Hd.mk hz_; clear hz_
  clear hE
  refine (laws_toJson j _ _ ((tJ (m + 1)).K_below hB.out hK0.out) HL0.out.1).mono ?_
  rintro e w7 ⟨cs_, rfl, hO, hX⟩
  have db0_x0 := Hd.mk eb0.out
  have dw0_x0 := Hd.mk ew0.out
  have dBw0_x0 := Hd.mk eBw0.out
  have ax0 := Hd.mk hB.out.size
  replace b0 := Hd.mk (b0.out.below hX)
  replace eb0 := Hd.mk (Nat.le_trans eb0.out hX.size)
  replace w0 := Hd.mk (Ty.O_below w0.out hX)
  replace ew0 := Hd.mk (Nat.le_trans ew0.out hX.size)
  replace Bw0 := Hd.mk (Bw0.out.below hX)
  replace eBw0 := Hd.mk (Nat.le_trans eBw0.out hX.size)
  replace hB := Hd.mk (below_then hB.out hX)
  clear hX
  replace hO := Ty.O_bound _ hO
  obtain ⟨v_, u_, _, _, hcs, _, r1, r2, _⟩ := tJ_O.1 hO
  subst hcs
  obtain ⟨Ax0, cx0, hv_, hcx0, _⟩ := R_C r1
  subst hv_
  clear r1
  obtain ⟨Ax0B, cx0B, hv_, hcx0B, _⟩ := R_C r2
  subst hv_
  clear r2
  have x0 := Hd.mk (show (tJ (m + 1)).O w7 (rng W6.heap.size w7.heap.size) j [Value.int IntKind.i64 j.kind, Value.int IntKind.i64 j.n, Value.string j.s, Value.slice Ax0 j.list.length cx0, Value.slice Ax0B j.names.length cx0B] from hO); clear hO
  have ex0 := Hd.mk (Nat.le_refl w7.heap.size)
  have fb00 : w7.cell? ⟨w.heap.size, 0, none⟩ = some (Value.int IntKind.i64 j.kind) := b0.out.cell 0 rfl
  have fb01 : w7.cell? ⟨w.heap.size, 1, none⟩ = some (Value.int IntKind.i64 j.n) := b0.out.cell 1 rfl
  have fb02 : w7.cell? ⟨w.heap.size, 2, none⟩ = some (Value.string j.s) := b0.out.cell 2 rfl
  have fb03 : w7.cell? ⟨w.heap.size, 3, none⟩ = some (Value.slice A0 j.list.length c0) := b0.out.cell 3 rfl
  have fb04 : w7.cell? ⟨w.heap.size, 4, none⟩ = some (Value.slice A0B j.names.length c0B) := b0.out.cell 4 rfl
  have fBw00 : w7.cell? ⟨w5.heap.size, 0, none⟩ = some (Value.int IntKind.i64 y.kind) := Bw0.out.cell 0 rfl
  have fBw01 : w7.cell? ⟨w5.heap.size, 1, none⟩ = some (Value.slice Aw0w y.way.length cw0w) := Bw0.out.cell 1 rfl
  have fBw02 : w7.cell? ⟨w5.heap.size, 2, none⟩ = some (Value.int IntKind.i64 y.value.kind) := Bw0.out.cell 2 rfl
  have fBw03 : w7.cell? ⟨w5.heap.size, 3, none⟩ = some (Value.int IntKind.i64 y.value.n) := Bw0.out.cell 3 rfl
  have fBw04 : w7.cell? ⟨w5.heap.size, 4, none⟩ = some (Value.string y.value.s) := Bw0.out.cell 4 rfl
  have fBw05 : w7.cell? ⟨w5.heap.size, 5, none⟩ = some (Value.slice Aw0 y.value.list.length cw0) := Bw0.out.cell 5 rfl
  have fBw06 : w7.cell? ⟨w5.heap.size, 6, none⟩ = some (Value.slice Aw0B y.value.names.length cw0B) := Bw0.out.cell 6 rfl
  have lfb00 := fun o => cell_below (below_alloc (Below.refl _ _) o) fb00
  have lfb01 := fun o => cell_below (below_alloc (Below.refl _ _) o) fb01
  have lfb02 := fun o => cell_below (below_alloc (Below.refl _ _) o) fb02
  have lfb03 := fun o => cell_below (below_alloc (Below.refl _ _) o) fb03
  have lfb04 := fun o => cell_below (below_alloc (Below.refl _ _) o) fb04
  have lfBw00 := fun o => cell_below (below_alloc (Below.refl _ _) o) fBw00
  have lfBw01 := fun o => cell_below (below_alloc (Below.refl _ _) o) fBw01
  have lfBw02 := fun o => cell_below (below_alloc (Below.refl _ _) o) fBw02
  have lfBw03 := fun o => cell_below (below_alloc (Below.refl _ _) o) fBw03
  have lfBw04 := fun o => cell_below (below_alloc (Below.refl _ _) o) fBw04
  have lfBw05 := fun o => cell_below (below_alloc (Below.refl _ _) o) fBw05
  have lfBw06 := fun o => cell_below (below_alloc (Below.refl _ _) o) fBw06
  go_wp2_with fail
  clear lfb00 lfb01 lfb02 lfb03 lfb04 lfBw00 lfBw01 lfBw02 lfBw03 lfBw04 lfBw05 lfBw06
  clear fb00 fb01 fb02 fb03 fb04 fBw00 fBw01 fBw02 fBw03 fBw04 fBw05 fBw06
  apply calls_gen; intro W8 hW
  have hE : Below w7.heap.size w7 W8 := by rw [hW]; (repeat (first | with_reducible refine below_alloc ?_ _ | with_reducible refine below_drew ?_)); exact Below.refl _ _
  have Bx0 := Hd.mk (show Blk W8 w7.heap.size #[Value.int IntKind.i64 j.kind, Value.int IntKind.i64 j.n, Value.string j.s, Value.slice Ax0 j.list.length cx0, Value.slice Ax0B j.names.length cx0B] 40 by rw [hW]; first | exact Blk.new _ _ _ | exact (Blk.new _ _ _).drew)
  have hz_ : w7.heap.size + 1 ≤ W8.heap.size := by rw [hW]; simp
  clear hW
  have db0_Bx0 := Hd.mk eb0.out
  have dw0_Bx0 := Hd.mk ew0.out
  have dBw0_Bx0 := Hd.mk eBw0.out
  have dx0_Bx0 := Hd.mk ex0.out
  have aBx0 := Hd.mk hB.out.size
  replace b0 := Hd.mk (b0.out.below hE)
  replace eb0 := Hd.mk (Nat.le_trans eb0.out hE.size)
  replace w0 := Hd.mk (Ty.O_below w0.out hE)
  replace ew0 := Hd.mk (Nat.le_trans ew0.out hE.size)
  replace Bw0 := Hd.mk (Bw0.out.below hE)
  replace eBw0 := Hd.mk (Nat.le_trans eBw0.out hE.size)
  replace x0 := Hd.mk (Ty.O_below x0.out hE)
  replace ex0 := Hd.mk (Nat.le_trans ex0.out hE.size)
  replace hB := Hd.mk (below_then hB.out hE)
  have eBx0 := Hd.mk hz_; clear hz_
  clear hE
  refine (impl_OpRead j _ _ ((tJ (m + 1)).O_K x0.out) (by have := HL0.out.1; omega) (hM.out.below hB.out)).mono ?_
  rintro e w9 ⟨cs_, rfl, hO, hX⟩
  have db0_g0 := Hd.mk eb0.out
  have dw0_g0 := Hd.mk ew0.out
  have dBw0_g0 := Hd.mk eBw0.out
  have dx0_g0 := Hd.mk ex0.out
  have dBx0_g0 := Hd.mk eBx0.out
  have ag0 := Hd.mk hB.out.size
  replace b0 := Hd.mk (b0.out.below hX)
  replace eb0 := Hd.mk (Nat.le_trans eb0.out hX.size)
  replace w0 := Hd.mk (Ty.O_below w0.out hX)
  replace ew0 := Hd.mk (Nat.le_trans ew0.out hX.size)
  replace Bw0 := Hd.mk (Bw0.out.below hX)
  replace eBw0 := Hd.mk (Nat.le_trans eBw0.out hX.size)
  replace x0 := Hd.mk (Ty.O_below x0.out hX)
  replace ex0 := Hd.mk (Nat.le_trans ex0.out hX.size)
  replace Bx0 := Hd.mk (Bx0.out.below hX)
  replace eBx0 := Hd.mk (Nat.le_trans eBx0.out hX.size)
  replace hB := Hd.mk (below_then hB.out hX)
  clear hX
  rw [← Hy.out] at hO
  rw [← Hyb.out]
  replace hO := Ty.O_bound _ hO
  obtain ⟨v_, c1_, _, _, hcs, r1, rj_, _⟩ := tOp_O.1 hO
  obtain ⟨Ag0w, cg0w, hv_, hcg0w, _⟩ := R_C r1
  subst hv_
  clear r1
  obtain ⟨v_, u_, _, _, hcs2, _, r1, r2, _⟩ := tJ_O.1 rj_
  clear rj_
  subst hcs2
  subst hcs
  obtain ⟨Ag0, cg0, hv_, hcg0, _⟩ := R_C r1
  subst hv_
  clear r1
  obtain ⟨Ag0B, cg0B, hv_, hcg0B, _⟩ := R_C r2
  subst hv_
  clear r2
  have g0 := Hd.mk (show (tOp (m + 1)).O w9 (rng W8.heap.size w9.heap.size) y [Value.int IntKind.i64 y.kind, Value.slice Ag0w y.way.length cg0w, Value.int IntKind.i64 y.value.kind, Value.int IntKind.i64 y.value.n, Value.string y.value.s, Value.slice Ag0 y.value.list.length cg0, Value.slice Ag0B y.value.names.length cg0B] from hO); clear hO
  have eg0 := Hd.mk (Nat.le_refl w9.heap.size)
  have fb00 : w9.cell? ⟨w.heap.size, 0, none⟩ = some (Value.int IntKind.i64 j.kind) := b0.out.cell 0 rfl
  have fb01 : w9.cell? ⟨w.heap.size, 1, none⟩ = some (Value.int IntKind.i64 j.n) := b0.out.cell 1 rfl
  have fb02 : w9.cell? ⟨w.heap.size, 2, none⟩ = some (Value.string j.s) := b0.out.cell 2 rfl
  have fb03 : w9.cell? ⟨w.heap.size, 3, none⟩ = some (Value.slice A0 j.list.length c0) := b0.out.cell 3 rfl
  have fb04 : w9.cell? ⟨w.heap.size, 4, none⟩ = some (Value.slice A0B j.names.length c0B) := b0.out.cell 4 rfl
  have fBw00 : w9.cell? ⟨w5.heap.size, 0, none⟩ = some (Value.int IntKind.i64 y.kind) := Bw0.out.cell 0 rfl
  have fBw01 : w9.cell? ⟨w5.heap.size, 1, none⟩ = some (Value.slice Aw0w y.way.length cw0w) := Bw0.out.cell 1 rfl
  have fBw02 : w9.cell? ⟨w5.heap.size, 2, none⟩ = some (Value.int IntKind.i64 y.value.kind) := Bw0.out.cell 2 rfl
  have fBw03 : w9.cell? ⟨w5.heap.size, 3, none⟩ = some (Value.int IntKind.i64 y.value.n) := Bw0.out.cell 3 rfl
  have fBw04 : w9.cell? ⟨w5.heap.size, 4, none⟩ = some (Value.string y.value.s) := Bw0.out.cell 4 rfl
  have fBw05 : w9.cell? ⟨w5.heap.size, 5, none⟩ = some (Value.slice Aw0 y.value.list.length cw0) := Bw0.out.cell 5 rfl
  have fBw06 : w9.cell? ⟨w5.heap.size, 6, none⟩ = some (Value.slice Aw0B y.value.names.length cw0B) := Bw0.out.cell 6 rfl
  have fBx00 : w9.cell? ⟨w7.heap.size, 0, none⟩ = some (Value.int IntKind.i64 j.kind) := Bx0.out.cell 0 rfl
  have fBx01 : w9.cell? ⟨w7.heap.size, 1, none⟩ = some (Value.int IntKind.i64 j.n) := Bx0.out.cell 1 rfl
  have fBx02 : w9.cell? ⟨w7.heap.size, 2, none⟩ = some (Value.string j.s) := Bx0.out.cell 2 rfl
  have fBx03 : w9.cell? ⟨w7.heap.size, 3, none⟩ = some (Value.slice Ax0 j.list.length cx0) := Bx0.out.cell 3 rfl
  have fBx04 : w9.cell? ⟨w7.heap.size, 4, none⟩ = some (Value.slice Ax0B j.names.length cx0B) := Bx0.out.cell 4 rfl
  have lfb00 := fun o => cell_below (below_alloc (Below.refl _ _) o) fb00
  have lfb01 := fun o => cell_below (below_alloc (Below.refl _ _) o) fb01
  have lfb02 := fun o => cell_below (below_alloc (Below.refl _ _) o) fb02
  have lfb03 := fun o => cell_below (below_alloc (Below.refl _ _) o) fb03
  have lfb04 := fun o => cell_below (below_alloc (Below.refl _ _) o) fb04
  have lfBw00 := fun o => cell_below (below_alloc (Below.refl _ _) o) fBw00
  have lfBw01 := fun o => cell_below (below_alloc (Below.refl _ _) o) fBw01
  have lfBw02 := fun o => cell_below (below_alloc (Below.refl _ _) o) fBw02
  have lfBw03 := fun o => cell_below (below_alloc (Below.refl _ _) o) fBw03
  have lfBw04 := fun o => cell_below (below_alloc (Below.refl _ _) o) fBw04
  have lfBw05 := fun o => cell_below (below_alloc (Below.refl _ _) o) fBw05
  have lfBw06 := fun o => cell_below (below_alloc (Below.refl _ _) o) fBw06
  have lfBx00 := fun o => cell_below (below_alloc (Below.refl _ _) o) fBx00
  have lfBx01 := fun o => cell_below (below_alloc (Below.refl _ _) o) fBx01
  have lfBx02 := fun o => cell_below (below_alloc (Below.refl _ _) o) fBx02
  have lfBx03 := fun o => cell_below (below_alloc (Below.refl _ _) o) fBx03
  have lfBx04 := fun o => cell_below (below_alloc (Below.refl _ _) o) fBx04
  go_wp2_with fail
  clear lfb00 lfb01 lfb02 lfb03 lfb04 lfBw00 lfBw01 lfBw02 lfBw03 lfBw04 lfBw05 lfBw06 lfBx00 lfBx01 lfBx02 lfBx03 lfBx04
  clear fb00 fb01 fb02 fb03 fb04 fBw00 fBw01 fBw02 fBw03 fBw04 fBw05 fBw06 fBx00 fBx01 fBx02 fBx03 fBx04
  apply calls_gen; intro W10 hW
  have hE : Below w9.heap.size w9 W10 := by rw [hW]; (repeat (first | with_reducible refine below_alloc ?_ _ | with_reducible refine below_drew ?_)); exact Below.refl _ _
  have Bg0 := Hd.mk (show Blk W10 w9.heap.size #[Value.int IntKind.i64 y.kind, Value.slice Ag0w y.way.length cg0w, Value.int IntKind.i64 y.value.kind, Value.int IntKind.i64 y.value.n, Value.string y.value.s, Value.slice Ag0 y.value.list.length cg0, Value.slice Ag0B y.value.names.length cg0B] 49 by rw [hW]; first | exact Blk.new _ _ _ | exact (Blk.new _ _ _).drew)
  have hz_ : w9.heap.size + 1 ≤ W10.heap.size := by rw [hW]; simp
  clear hW
  have db0_Bg0 := Hd.mk eb0.out
  have dw0_Bg0 := Hd.mk ew0.out
  have dBw0_Bg0 := Hd.mk eBw0.out
  have dx0_Bg0 := Hd.mk ex0.out
  have dBx0_Bg0 := Hd.mk eBx0.out
  have dg0_Bg0 := Hd.mk eg0.out
  have aBg0 := Hd.mk hB.out.size
  replace b0 := Hd.mk (b0.out.below hE)
  replace eb0 := Hd.mk (Nat.le_trans eb0.out hE.size)
  replace w0 := Hd.mk (Ty.O_below w0.out hE)
  replace ew0 := Hd.mk (Nat.le_trans ew0.out hE.size)
  replace Bw0 := Hd.mk (Bw0.out.below hE)
  replace eBw0 := Hd.mk (Nat.le_trans eBw0.out hE.size)
  replace x0 := Hd.mk (Ty.O_below x0.out hE)
  replace ex0 := Hd.mk (Nat.le_trans ex0.out hE.size)
  replace Bx0 := Hd.mk (Bx0.out.below hE)
  replace eBx0 := Hd.mk (Nat.le_trans eBx0.out hE.size)
  replace g0 := Hd.mk (Ty.O_below g0.out hE)
  replace eg0 := Hd.mk (Nat.le_trans eg0.out hE.size)
  replace hB := Hd.mk (below_then hB.out hE)
  have eBg0 := Hd.mk hz_; clear hz_
  clear hE
  refine (laws_eqOp y y _ _ _ ((tOp (m + 1)).O_K g0.out) ((tOp (m + 1)).O_K w0.out)).mono ?_
  rintro e w11 ⟨rfl, hX⟩
  replace b0 := Hd.mk (b0.out.below hX)
  replace eb0 := Hd.mk (Nat.le_trans eb0.out hX.size)
  replace w0 := Hd.mk (Ty.O_below w0.out hX)
  replace ew0 := Hd.mk (Nat.le_trans ew0.out hX.size)
  replace Bw0 := Hd.mk (Bw0.out.below hX)
  replace eBw0 := Hd.mk (Nat.le_trans eBw0.out hX.size)
  replace x0 := Hd.mk (Ty.O_below x0.out hX)
  replace ex0 := Hd.mk (Nat.le_trans ex0.out hX.size)
  replace Bx0 := Hd.mk (Bx0.out.below hX)
  replace eBx0 := Hd.mk (Nat.le_trans eBx0.out hX.size)
  replace g0 := Hd.mk (Ty.O_below g0.out hX)
  replace eg0 := Hd.mk (Nat.le_trans eg0.out hX.size)
  replace Bg0 := Hd.mk (Bg0.out.below hX)
  replace eBg0 := Hd.mk (Nat.le_trans eBg0.out hX.size)
  replace hB := Hd.mk (below_then hB.out hX)
  clear hX
  rw [eqv_self]
  have fb00 : w11.cell? ⟨w.heap.size, 0, none⟩ = some (Value.int IntKind.i64 j.kind) := b0.out.cell 0 rfl
  have fb01 : w11.cell? ⟨w.heap.size, 1, none⟩ = some (Value.int IntKind.i64 j.n) := b0.out.cell 1 rfl
  have fb02 : w11.cell? ⟨w.heap.size, 2, none⟩ = some (Value.string j.s) := b0.out.cell 2 rfl
  have fb03 : w11.cell? ⟨w.heap.size, 3, none⟩ = some (Value.slice A0 j.list.length c0) := b0.out.cell 3 rfl
  have fb04 : w11.cell? ⟨w.heap.size, 4, none⟩ = some (Value.slice A0B j.names.length c0B) := b0.out.cell 4 rfl
  have fBw00 : w11.cell? ⟨w5.heap.size, 0, none⟩ = some (Value.int IntKind.i64 y.kind) := Bw0.out.cell 0 rfl
  have fBw01 : w11.cell? ⟨w5.heap.size, 1, none⟩ = some (Value.slice Aw0w y.way.length cw0w) := Bw0.out.cell 1 rfl
  have fBw02 : w11.cell? ⟨w5.heap.size, 2, none⟩ = some (Value.int IntKind.i64 y.value.kind) := Bw0.out.cell 2 rfl
  have fBw03 : w11.cell? ⟨w5.heap.size, 3, none⟩ = some (Value.int IntKind.i64 y.value.n) := Bw0.out.cell 3 rfl
  have fBw04 : w11.cell? ⟨w5.heap.size, 4, none⟩ = some (Value.string y.value.s) := Bw0.out.cell 4 rfl
  have fBw05 : w11.cell? ⟨w5.heap.size, 5, none⟩ = some (Value.slice Aw0 y.value.list.length cw0) := Bw0.out.cell 5 rfl
  have fBw06 : w11.cell? ⟨w5.heap.size, 6, none⟩ = some (Value.slice Aw0B y.value.names.length cw0B) := Bw0.out.cell 6 rfl
  have fBx00 : w11.cell? ⟨w7.heap.size, 0, none⟩ = some (Value.int IntKind.i64 j.kind) := Bx0.out.cell 0 rfl
  have fBx01 : w11.cell? ⟨w7.heap.size, 1, none⟩ = some (Value.int IntKind.i64 j.n) := Bx0.out.cell 1 rfl
  have fBx02 : w11.cell? ⟨w7.heap.size, 2, none⟩ = some (Value.string j.s) := Bx0.out.cell 2 rfl
  have fBx03 : w11.cell? ⟨w7.heap.size, 3, none⟩ = some (Value.slice Ax0 j.list.length cx0) := Bx0.out.cell 3 rfl
  have fBx04 : w11.cell? ⟨w7.heap.size, 4, none⟩ = some (Value.slice Ax0B j.names.length cx0B) := Bx0.out.cell 4 rfl
  have fBg00 : w11.cell? ⟨w9.heap.size, 0, none⟩ = some (Value.int IntKind.i64 y.kind) := Bg0.out.cell 0 rfl
  have fBg01 : w11.cell? ⟨w9.heap.size, 1, none⟩ = some (Value.slice Ag0w y.way.length cg0w) := Bg0.out.cell 1 rfl
  have fBg02 : w11.cell? ⟨w9.heap.size, 2, none⟩ = some (Value.int IntKind.i64 y.value.kind) := Bg0.out.cell 2 rfl
  have fBg03 : w11.cell? ⟨w9.heap.size, 3, none⟩ = some (Value.int IntKind.i64 y.value.n) := Bg0.out.cell 3 rfl
  have fBg04 : w11.cell? ⟨w9.heap.size, 4, none⟩ = some (Value.string y.value.s) := Bg0.out.cell 4 rfl
  have fBg05 : w11.cell? ⟨w9.heap.size, 5, none⟩ = some (Value.slice Ag0 y.value.list.length cg0) := Bg0.out.cell 5 rfl
  have fBg06 : w11.cell? ⟨w9.heap.size, 6, none⟩ = some (Value.slice Ag0B y.value.names.length cg0B) := Bg0.out.cell 6 rfl
  go_wp2_with fail
  clear fb00 fb01 fb02 fb03 fb04 fBw00 fBw01 fBw02 fBw03 fBw04 fBw05 fBw06 fBx00 fBx01 fBx02 fBx03 fBx04 fBg00 fBg01 fBg02 fBg03 fBg04 fBg05 fBg06
  have fb00 : w11.cell? ⟨w.heap.size, 0, none⟩ = some (Value.int IntKind.i64 j.kind) := b0.out.cell 0 rfl
  have fb01 : w11.cell? ⟨w.heap.size, 1, none⟩ = some (Value.int IntKind.i64 j.n) := b0.out.cell 1 rfl
  have fb02 : w11.cell? ⟨w.heap.size, 2, none⟩ = some (Value.string j.s) := b0.out.cell 2 rfl
  have fb03 : w11.cell? ⟨w.heap.size, 3, none⟩ = some (Value.slice A0 j.list.length c0) := b0.out.cell 3 rfl
  have fb04 : w11.cell? ⟨w.heap.size, 4, none⟩ = some (Value.slice A0B j.names.length c0B) := b0.out.cell 4 rfl
  have fBw00 : w11.cell? ⟨w5.heap.size, 0, none⟩ = some (Value.int IntKind.i64 y.kind) := Bw0.out.cell 0 rfl
  have fBw01 : w11.cell? ⟨w5.heap.size, 1, none⟩ = some (Value.slice Aw0w y.way.length cw0w) := Bw0.out.cell 1 rfl
  have fBw02 : w11.cell? ⟨w5.heap.size, 2, none⟩ = some (Value.int IntKind.i64 y.value.kind) := Bw0.out.cell 2 rfl
  have fBw03 : w11.cell? ⟨w5.heap.size, 3, none⟩ = some (Value.int IntKind.i64 y.value.n) := Bw0.out.cell 3 rfl
  have fBw04 : w11.cell? ⟨w5.heap.size, 4, none⟩ = some (Value.string y.value.s) := Bw0.out.cell 4 rfl
  have fBw05 : w11.cell? ⟨w5.heap.size, 5, none⟩ = some (Value.slice Aw0 y.value.list.length cw0) := Bw0.out.cell 5 rfl
  have fBw06 : w11.cell? ⟨w5.heap.size, 6, none⟩ = some (Value.slice Aw0B y.value.names.length cw0B) := Bw0.out.cell 6 rfl
  have fBx00 : w11.cell? ⟨w7.heap.size, 0, none⟩ = some (Value.int IntKind.i64 j.kind) := Bx0.out.cell 0 rfl
  have fBx01 : w11.cell? ⟨w7.heap.size, 1, none⟩ = some (Value.int IntKind.i64 j.n) := Bx0.out.cell 1 rfl
  have fBx02 : w11.cell? ⟨w7.heap.size, 2, none⟩ = some (Value.string j.s) := Bx0.out.cell 2 rfl
  have fBx03 : w11.cell? ⟨w7.heap.size, 3, none⟩ = some (Value.slice Ax0 j.list.length cx0) := Bx0.out.cell 3 rfl
  have fBx04 : w11.cell? ⟨w7.heap.size, 4, none⟩ = some (Value.slice Ax0B j.names.length cx0B) := Bx0.out.cell 4 rfl
  have fBg00 : w11.cell? ⟨w9.heap.size, 0, none⟩ = some (Value.int IntKind.i64 y.kind) := Bg0.out.cell 0 rfl
  have fBg01 : w11.cell? ⟨w9.heap.size, 1, none⟩ = some (Value.slice Ag0w y.way.length cg0w) := Bg0.out.cell 1 rfl
  have fBg02 : w11.cell? ⟨w9.heap.size, 2, none⟩ = some (Value.int IntKind.i64 y.value.kind) := Bg0.out.cell 2 rfl
  have fBg03 : w11.cell? ⟨w9.heap.size, 3, none⟩ = some (Value.int IntKind.i64 y.value.n) := Bg0.out.cell 3 rfl
  have fBg04 : w11.cell? ⟨w9.heap.size, 4, none⟩ = some (Value.string y.value.s) := Bg0.out.cell 4 rfl
  have fBg05 : w11.cell? ⟨w9.heap.size, 5, none⟩ = some (Value.slice Ag0 y.value.list.length cg0) := Bg0.out.cell 5 rfl
  have fBg06 : w11.cell? ⟨w9.heap.size, 6, none⟩ = some (Value.slice Ag0B y.value.names.length cg0B) := Bg0.out.cell 6 rfl
  have rfb00 := cell_regrown fb00
  have rfb01 := cell_regrown fb01
  have rfb02 := cell_regrown fb02
  have rfb03 := cell_regrown fb03
  have rfb04 := cell_regrown fb04
  have rfBw00 := cell_regrown fBw00
  have rfBw01 := cell_regrown fBw01
  have rfBw02 := cell_regrown fBw02
  have rfBw03 := cell_regrown fBw03
  have rfBw04 := cell_regrown fBw04
  have rfBw05 := cell_regrown fBw05
  have rfBw06 := cell_regrown fBw06
  have rfBx00 := cell_regrown fBx00
  have rfBx01 := cell_regrown fBx01
  have rfBx02 := cell_regrown fBx02
  have rfBx03 := cell_regrown fBx03
  have rfBx04 := cell_regrown fBx04
  have rfBg00 := cell_regrown fBg00
  have rfBg01 := cell_regrown fBg01
  have rfBg02 := cell_regrown fBg02
  have rfBg03 := cell_regrown fBg03
  have rfBg04 := cell_regrown fBg04
  have rfBg05 := cell_regrown fBg05
  have rfBg06 := cell_regrown fBg06
  refine region_mix [(true, 0), (true, 1), (false, 2), (false, 3), (true, 4)] (by kernel_rfl) (by kernel_rfl) (fun _ _ _ _ _ h => h) ?_
  try (repeat (refine mix_q rfl ?_; go_big_quiet_want; go_big_quiet_op; go_big_quiet_on; refine wpQuiet_nil ?_))
  refine mix_b rfl ?_ (by rfl)
  go_wp2_with fail
  clear rfb00 rfb01 rfb02 rfb03 rfb04 rfBw00 rfBw01 rfBw02 rfBw03 rfBw04 rfBw05 rfBw06 rfBx00 rfBx01 rfBx02 rfBx03 rfBx04 rfBg00 rfBg01 rfBg02 rfBg03 rfBg04 rfBg05 rfBg06
  clear fb00 fb01 fb02 fb03 fb04 fBw00 fBw01 fBw02 fBw03 fBw04 fBw05 fBw06 fBx00 fBx01 fBx02 fBx03 fBx04 fBg00 fBg01 fBg02 fBg03 fBg04 fBg05 fBg06
  have hS := Hd.mk (Below.refl w11.heap.size w11)
  apply calls_gen; intro W12 hW
  have hE : Below w11.heap.size w11 W12 := by rw [hW]; (repeat (first | with_reducible refine below_alloc ?_ _ | with_reducible refine below_drew ?_)); exact Below.refl _ _
  clear hW
  replace b0 := Hd.mk (b0.out.below hE)
  replace eb0 := Hd.mk (Nat.le_trans eb0.out hE.size)
  replace w0 := Hd.mk (Ty.O_below w0.out hE)
  replace ew0 := Hd.mk (Nat.le_trans ew0.out hE.size)
  replace Bw0 := Hd.mk (Bw0.out.below hE)
  replace eBw0 := Hd.mk (Nat.le_trans eBw0.out hE.size)
  replace x0 := Hd.mk (Ty.O_below x0.out hE)
  replace ex0 := Hd.mk (Nat.le_trans ex0.out hE.size)
  replace Bx0 := Hd.mk (Bx0.out.below hE)
  replace eBx0 := Hd.mk (Nat.le_trans eBx0.out hE.size)
  replace g0 := Hd.mk (Ty.O_below g0.out hE)
  replace eg0 := Hd.mk (Nat.le_trans eg0.out hE.size)
  replace Bg0 := Hd.mk (Bg0.out.below hE)
  replace eBg0 := Hd.mk (Nat.le_trans eBg0.out hE.size)
  replace hB := Hd.mk (below_then hB.out hE)
  replace hS := Hd.mk (below_then hS.out hE)
  clear hE
  refine (laws_toJson j _ _ ((tJ (m + 1)).K_below hB.out hK0.out) HL0.out.1).mono ?_
  rintro e w13 ⟨cs_, rfl, hO, hX⟩
  have db0_t0 := Hd.mk eb0.out
  have dw0_t0 := Hd.mk ew0.out
  have dBw0_t0 := Hd.mk eBw0.out
  have dx0_t0 := Hd.mk ex0.out
  have dBx0_t0 := Hd.mk eBx0.out
  have dg0_t0 := Hd.mk eg0.out
  have dBg0_t0 := Hd.mk eBg0.out
  have at0 := Hd.mk hB.out.size
  replace b0 := Hd.mk (b0.out.below hX)
  replace eb0 := Hd.mk (Nat.le_trans eb0.out hX.size)
  replace w0 := Hd.mk (Ty.O_below w0.out hX)
  replace ew0 := Hd.mk (Nat.le_trans ew0.out hX.size)
  replace Bw0 := Hd.mk (Bw0.out.below hX)
  replace eBw0 := Hd.mk (Nat.le_trans eBw0.out hX.size)
  replace x0 := Hd.mk (Ty.O_below x0.out hX)
  replace ex0 := Hd.mk (Nat.le_trans ex0.out hX.size)
  replace Bx0 := Hd.mk (Bx0.out.below hX)
  replace eBx0 := Hd.mk (Nat.le_trans eBx0.out hX.size)
  replace g0 := Hd.mk (Ty.O_below g0.out hX)
  replace eg0 := Hd.mk (Nat.le_trans eg0.out hX.size)
  replace Bg0 := Hd.mk (Bg0.out.below hX)
  replace eBg0 := Hd.mk (Nat.le_trans eBg0.out hX.size)
  replace hB := Hd.mk (below_then hB.out hX)
  replace hS := Hd.mk (below_then hS.out hX)
  clear hX
  replace hO := Ty.O_bound _ hO
  obtain ⟨v_, u_, _, _, hcs, _, r1, r2, _⟩ := tJ_O.1 hO
  subst hcs
  obtain ⟨At0, ct0, hv_, hct0, _⟩ := R_C r1
  subst hv_
  clear r1
  obtain ⟨At0B, ct0B, hv_, hct0B, _⟩ := R_C r2
  subst hv_
  clear r2
  have t0 := Hd.mk (show (tJ (m + 1)).O w13 (rng W12.heap.size w13.heap.size) j [Value.int IntKind.i64 j.kind, Value.int IntKind.i64 j.n, Value.string j.s, Value.slice At0 j.list.length ct0, Value.slice At0B j.names.length ct0B] from hO); clear hO
  have et0 := Hd.mk (Nat.le_refl w13.heap.size)
  have fb00 : w13.cell? ⟨w.heap.size, 0, none⟩ = some (Value.int IntKind.i64 j.kind) := b0.out.cell 0 rfl
  have fb01 : w13.cell? ⟨w.heap.size, 1, none⟩ = some (Value.int IntKind.i64 j.n) := b0.out.cell 1 rfl
  have fb02 : w13.cell? ⟨w.heap.size, 2, none⟩ = some (Value.string j.s) := b0.out.cell 2 rfl
  have fb03 : w13.cell? ⟨w.heap.size, 3, none⟩ = some (Value.slice A0 j.list.length c0) := b0.out.cell 3 rfl
  have fb04 : w13.cell? ⟨w.heap.size, 4, none⟩ = some (Value.slice A0B j.names.length c0B) := b0.out.cell 4 rfl
  have fBw00 : w13.cell? ⟨w5.heap.size, 0, none⟩ = some (Value.int IntKind.i64 y.kind) := Bw0.out.cell 0 rfl
  have fBw01 : w13.cell? ⟨w5.heap.size, 1, none⟩ = some (Value.slice Aw0w y.way.length cw0w) := Bw0.out.cell 1 rfl
  have fBw02 : w13.cell? ⟨w5.heap.size, 2, none⟩ = some (Value.int IntKind.i64 y.value.kind) := Bw0.out.cell 2 rfl
  have fBw03 : w13.cell? ⟨w5.heap.size, 3, none⟩ = some (Value.int IntKind.i64 y.value.n) := Bw0.out.cell 3 rfl
  have fBw04 : w13.cell? ⟨w5.heap.size, 4, none⟩ = some (Value.string y.value.s) := Bw0.out.cell 4 rfl
  have fBw05 : w13.cell? ⟨w5.heap.size, 5, none⟩ = some (Value.slice Aw0 y.value.list.length cw0) := Bw0.out.cell 5 rfl
  have fBw06 : w13.cell? ⟨w5.heap.size, 6, none⟩ = some (Value.slice Aw0B y.value.names.length cw0B) := Bw0.out.cell 6 rfl
  have fBx00 : w13.cell? ⟨w7.heap.size, 0, none⟩ = some (Value.int IntKind.i64 j.kind) := Bx0.out.cell 0 rfl
  have fBx01 : w13.cell? ⟨w7.heap.size, 1, none⟩ = some (Value.int IntKind.i64 j.n) := Bx0.out.cell 1 rfl
  have fBx02 : w13.cell? ⟨w7.heap.size, 2, none⟩ = some (Value.string j.s) := Bx0.out.cell 2 rfl
  have fBx03 : w13.cell? ⟨w7.heap.size, 3, none⟩ = some (Value.slice Ax0 j.list.length cx0) := Bx0.out.cell 3 rfl
  have fBx04 : w13.cell? ⟨w7.heap.size, 4, none⟩ = some (Value.slice Ax0B j.names.length cx0B) := Bx0.out.cell 4 rfl
  have fBg00 : w13.cell? ⟨w9.heap.size, 0, none⟩ = some (Value.int IntKind.i64 y.kind) := Bg0.out.cell 0 rfl
  have fBg01 : w13.cell? ⟨w9.heap.size, 1, none⟩ = some (Value.slice Ag0w y.way.length cg0w) := Bg0.out.cell 1 rfl
  have fBg02 : w13.cell? ⟨w9.heap.size, 2, none⟩ = some (Value.int IntKind.i64 y.value.kind) := Bg0.out.cell 2 rfl
  have fBg03 : w13.cell? ⟨w9.heap.size, 3, none⟩ = some (Value.int IntKind.i64 y.value.n) := Bg0.out.cell 3 rfl
  have fBg04 : w13.cell? ⟨w9.heap.size, 4, none⟩ = some (Value.string y.value.s) := Bg0.out.cell 4 rfl
  have fBg05 : w13.cell? ⟨w9.heap.size, 5, none⟩ = some (Value.slice Ag0 y.value.list.length cg0) := Bg0.out.cell 5 rfl
  have fBg06 : w13.cell? ⟨w9.heap.size, 6, none⟩ = some (Value.slice Ag0B y.value.names.length cg0B) := Bg0.out.cell 6 rfl
  go_wp2_with fail
  refine ⟨cls_below hS.out, ?_⟩
  refine mix_b rfl ?_ (by rfl)
  go_wp2_with fail
  clear fb00 fb01 fb02 fb03 fb04 fBw00 fBw01 fBw02 fBw03 fBw04 fBw05 fBw06 fBx00 fBx01 fBx02 fBx03 fBx04 fBg00 fBg01 fBg02 fBg03 fBg04 fBg05 fBg06
  apply calls_gen; intro W14 hW
  have hE : Below w13.heap.size w13 W14 := by rw [hW]; (repeat (first | with_reducible refine below_alloc ?_ _ | with_reducible refine below_drew ?_)); exact Below.refl _ _
  clear hW
  replace b0 := Hd.mk (b0.out.below hE)
  replace eb0 := Hd.mk (Nat.le_trans eb0.out hE.size)
  replace w0 := Hd.mk (Ty.O_below w0.out hE)
  replace ew0 := Hd.mk (Nat.le_trans ew0.out hE.size)
  replace Bw0 := Hd.mk (Bw0.out.below hE)
  replace eBw0 := Hd.mk (Nat.le_trans eBw0.out hE.size)
  replace x0 := Hd.mk (Ty.O_below x0.out hE)
  replace ex0 := Hd.mk (Nat.le_trans ex0.out hE.size)
  replace Bx0 := Hd.mk (Bx0.out.below hE)
  replace eBx0 := Hd.mk (Nat.le_trans eBx0.out hE.size)
  replace g0 := Hd.mk (Ty.O_below g0.out hE)
  replace eg0 := Hd.mk (Nat.le_trans eg0.out hE.size)
  replace Bg0 := Hd.mk (Bg0.out.below hE)
  replace eBg0 := Hd.mk (Nat.le_trans eBg0.out hE.size)
  replace t0 := Hd.mk (Ty.O_below t0.out hE)
  replace et0 := Hd.mk (Nat.le_trans et0.out hE.size)
  replace hB := Hd.mk (below_then hB.out hE)
  replace hS := Hd.mk (below_then hS.out hE)
  clear hE
  refine (laws_eqJson j j _ _ _ ((tJ (m + 1)).O_K x0.out) ((tJ (m + 1)).O_K t0.out)).mono ?_
  rintro e w15 ⟨rfl, hX⟩
  replace b0 := Hd.mk (b0.out.below hX)
  replace eb0 := Hd.mk (Nat.le_trans eb0.out hX.size)
  replace w0 := Hd.mk (Ty.O_below w0.out hX)
  replace ew0 := Hd.mk (Nat.le_trans ew0.out hX.size)
  replace Bw0 := Hd.mk (Bw0.out.below hX)
  replace eBw0 := Hd.mk (Nat.le_trans eBw0.out hX.size)
  replace x0 := Hd.mk (Ty.O_below x0.out hX)
  replace ex0 := Hd.mk (Nat.le_trans ex0.out hX.size)
  replace Bx0 := Hd.mk (Bx0.out.below hX)
  replace eBx0 := Hd.mk (Nat.le_trans eBx0.out hX.size)
  replace g0 := Hd.mk (Ty.O_below g0.out hX)
  replace eg0 := Hd.mk (Nat.le_trans eg0.out hX.size)
  replace Bg0 := Hd.mk (Bg0.out.below hX)
  replace eBg0 := Hd.mk (Nat.le_trans eBg0.out hX.size)
  replace t0 := Hd.mk (Ty.O_below t0.out hX)
  replace et0 := Hd.mk (Nat.le_trans et0.out hX.size)
  replace hB := Hd.mk (below_then hB.out hX)
  replace hS := Hd.mk (below_then hS.out hX)
  clear hX
  rw [eqv_self]
  have fb00 : w15.cell? ⟨w.heap.size, 0, none⟩ = some (Value.int IntKind.i64 j.kind) := b0.out.cell 0 rfl
  have fb01 : w15.cell? ⟨w.heap.size, 1, none⟩ = some (Value.int IntKind.i64 j.n) := b0.out.cell 1 rfl
  have fb02 : w15.cell? ⟨w.heap.size, 2, none⟩ = some (Value.string j.s) := b0.out.cell 2 rfl
  have fb03 : w15.cell? ⟨w.heap.size, 3, none⟩ = some (Value.slice A0 j.list.length c0) := b0.out.cell 3 rfl
  have fb04 : w15.cell? ⟨w.heap.size, 4, none⟩ = some (Value.slice A0B j.names.length c0B) := b0.out.cell 4 rfl
  have fBw00 : w15.cell? ⟨w5.heap.size, 0, none⟩ = some (Value.int IntKind.i64 y.kind) := Bw0.out.cell 0 rfl
  have fBw01 : w15.cell? ⟨w5.heap.size, 1, none⟩ = some (Value.slice Aw0w y.way.length cw0w) := Bw0.out.cell 1 rfl
  have fBw02 : w15.cell? ⟨w5.heap.size, 2, none⟩ = some (Value.int IntKind.i64 y.value.kind) := Bw0.out.cell 2 rfl
  have fBw03 : w15.cell? ⟨w5.heap.size, 3, none⟩ = some (Value.int IntKind.i64 y.value.n) := Bw0.out.cell 3 rfl
  have fBw04 : w15.cell? ⟨w5.heap.size, 4, none⟩ = some (Value.string y.value.s) := Bw0.out.cell 4 rfl
  have fBw05 : w15.cell? ⟨w5.heap.size, 5, none⟩ = some (Value.slice Aw0 y.value.list.length cw0) := Bw0.out.cell 5 rfl
  have fBw06 : w15.cell? ⟨w5.heap.size, 6, none⟩ = some (Value.slice Aw0B y.value.names.length cw0B) := Bw0.out.cell 6 rfl
  have fBx00 : w15.cell? ⟨w7.heap.size, 0, none⟩ = some (Value.int IntKind.i64 j.kind) := Bx0.out.cell 0 rfl
  have fBx01 : w15.cell? ⟨w7.heap.size, 1, none⟩ = some (Value.int IntKind.i64 j.n) := Bx0.out.cell 1 rfl
  have fBx02 : w15.cell? ⟨w7.heap.size, 2, none⟩ = some (Value.string j.s) := Bx0.out.cell 2 rfl
  have fBx03 : w15.cell? ⟨w7.heap.size, 3, none⟩ = some (Value.slice Ax0 j.list.length cx0) := Bx0.out.cell 3 rfl
  have fBx04 : w15.cell? ⟨w7.heap.size, 4, none⟩ = some (Value.slice Ax0B j.names.length cx0B) := Bx0.out.cell 4 rfl
  have fBg00 : w15.cell? ⟨w9.heap.size, 0, none⟩ = some (Value.int IntKind.i64 y.kind) := Bg0.out.cell 0 rfl
  have fBg01 : w15.cell? ⟨w9.heap.size, 1, none⟩ = some (Value.slice Ag0w y.way.length cg0w) := Bg0.out.cell 1 rfl
  have fBg02 : w15.cell? ⟨w9.heap.size, 2, none⟩ = some (Value.int IntKind.i64 y.value.kind) := Bg0.out.cell 2 rfl
  have fBg03 : w15.cell? ⟨w9.heap.size, 3, none⟩ = some (Value.int IntKind.i64 y.value.n) := Bg0.out.cell 3 rfl
  have fBg04 : w15.cell? ⟨w9.heap.size, 4, none⟩ = some (Value.string y.value.s) := Bg0.out.cell 4 rfl
  have fBg05 : w15.cell? ⟨w9.heap.size, 5, none⟩ = some (Value.slice Ag0 y.value.list.length cg0) := Bg0.out.cell 5 rfl
  have fBg06 : w15.cell? ⟨w9.heap.size, 6, none⟩ = some (Value.slice Ag0B y.value.names.length cg0B) := Bg0.out.cell 6 rfl
  have rfb00 := cell_regrown fb00
  have rfb01 := cell_regrown fb01
  have rfb02 := cell_regrown fb02
  have rfb03 := cell_regrown fb03
  have rfb04 := cell_regrown fb04
  have rfBw00 := cell_regrown fBw00
  have rfBw01 := cell_regrown fBw01
  have rfBw02 := cell_regrown fBw02
  have rfBw03 := cell_regrown fBw03
  have rfBw04 := cell_regrown fBw04
  have rfBw05 := cell_regrown fBw05
  have rfBw06 := cell_regrown fBw06
  have rfBx00 := cell_regrown fBx00
  have rfBx01 := cell_regrown fBx01
  have rfBx02 := cell_regrown fBx02
  have rfBx03 := cell_regrown fBx03
  have rfBx04 := cell_regrown fBx04
  have rfBg00 := cell_regrown fBg00
  have rfBg01 := cell_regrown fBg01
  have rfBg02 := cell_regrown fBg02
  have rfBg03 := cell_regrown fBg03
  have rfBg04 := cell_regrown fBg04
  have rfBg05 := cell_regrown fBg05
  have rfBg06 := cell_regrown fBg06
  go_wp2_with fail
  refine ⟨cls_below hS.out, ?_⟩
  try (repeat (refine mix_q rfl ?_; go_big_quiet_want; go_big_quiet_op; go_big_quiet_on; refine wpQuiet_nil ?_))
  refine mix_nil ?_
  clear rfb00 rfb01 rfb02 rfb03 rfb04 rfBw00 rfBw01 rfBw02 rfBw03 rfBw04 rfBw05 rfBw06 rfBx00 rfBx01 rfBx02 rfBx03 rfBx04 rfBg00 rfBg01 rfBg02 rfBg03 rfBg04 rfBg05 rfBg06
  clear hS
  go_wp2_with fail
  clear fb00 fb01 fb02 fb03 fb04 fBw00 fBw01 fBw02 fBw03 fBw04 fBw05 fBw06 fBx00 fBx01 fBx02 fBx03 fBx04 fBg00 fBg01 fBg02 fBg03 fBg04 fBg05 fBg06
  clear t0 et0
  have fb00 : w15.cell? ⟨w.heap.size, 0, none⟩ = some (Value.int IntKind.i64 j.kind) := b0.out.cell 0 rfl
  have fb01 : w15.cell? ⟨w.heap.size, 1, none⟩ = some (Value.int IntKind.i64 j.n) := b0.out.cell 1 rfl
  have fb02 : w15.cell? ⟨w.heap.size, 2, none⟩ = some (Value.string j.s) := b0.out.cell 2 rfl
  have fb03 : w15.cell? ⟨w.heap.size, 3, none⟩ = some (Value.slice A0 j.list.length c0) := b0.out.cell 3 rfl
  have fb04 : w15.cell? ⟨w.heap.size, 4, none⟩ = some (Value.slice A0B j.names.length c0B) := b0.out.cell 4 rfl
  have fBw00 : w15.cell? ⟨w5.heap.size, 0, none⟩ = some (Value.int IntKind.i64 y.kind) := Bw0.out.cell 0 rfl
  have fBw01 : w15.cell? ⟨w5.heap.size, 1, none⟩ = some (Value.slice Aw0w y.way.length cw0w) := Bw0.out.cell 1 rfl
  have fBw02 : w15.cell? ⟨w5.heap.size, 2, none⟩ = some (Value.int IntKind.i64 y.value.kind) := Bw0.out.cell 2 rfl
  have fBw03 : w15.cell? ⟨w5.heap.size, 3, none⟩ = some (Value.int IntKind.i64 y.value.n) := Bw0.out.cell 3 rfl
  have fBw04 : w15.cell? ⟨w5.heap.size, 4, none⟩ = some (Value.string y.value.s) := Bw0.out.cell 4 rfl
  have fBw05 : w15.cell? ⟨w5.heap.size, 5, none⟩ = some (Value.slice Aw0 y.value.list.length cw0) := Bw0.out.cell 5 rfl
  have fBw06 : w15.cell? ⟨w5.heap.size, 6, none⟩ = some (Value.slice Aw0B y.value.names.length cw0B) := Bw0.out.cell 6 rfl
  have fBx00 : w15.cell? ⟨w7.heap.size, 0, none⟩ = some (Value.int IntKind.i64 j.kind) := Bx0.out.cell 0 rfl
  have fBx01 : w15.cell? ⟨w7.heap.size, 1, none⟩ = some (Value.int IntKind.i64 j.n) := Bx0.out.cell 1 rfl
  have fBx02 : w15.cell? ⟨w7.heap.size, 2, none⟩ = some (Value.string j.s) := Bx0.out.cell 2 rfl
  have fBx03 : w15.cell? ⟨w7.heap.size, 3, none⟩ = some (Value.slice Ax0 j.list.length cx0) := Bx0.out.cell 3 rfl
  have fBx04 : w15.cell? ⟨w7.heap.size, 4, none⟩ = some (Value.slice Ax0B j.names.length cx0B) := Bx0.out.cell 4 rfl
  have fBg00 : w15.cell? ⟨w9.heap.size, 0, none⟩ = some (Value.int IntKind.i64 y.kind) := Bg0.out.cell 0 rfl
  have fBg01 : w15.cell? ⟨w9.heap.size, 1, none⟩ = some (Value.slice Ag0w y.way.length cg0w) := Bg0.out.cell 1 rfl
  have fBg02 : w15.cell? ⟨w9.heap.size, 2, none⟩ = some (Value.int IntKind.i64 y.value.kind) := Bg0.out.cell 2 rfl
  have fBg03 : w15.cell? ⟨w9.heap.size, 3, none⟩ = some (Value.int IntKind.i64 y.value.n) := Bg0.out.cell 3 rfl
  have fBg04 : w15.cell? ⟨w9.heap.size, 4, none⟩ = some (Value.string y.value.s) := Bg0.out.cell 4 rfl
  have fBg05 : w15.cell? ⟨w9.heap.size, 5, none⟩ = some (Value.slice Ag0 y.value.list.length cg0) := Bg0.out.cell 5 rfl
  have fBg06 : w15.cell? ⟨w9.heap.size, 6, none⟩ = some (Value.slice Ag0B y.value.names.length cg0B) := Bg0.out.cell 6 rfl
  go_wp2_with fail
  clear fb00 fb01 fb02 fb03 fb04 fBw00 fBw01 fBw02 fBw03 fBw04 fBw05 fBw06 fBx00 fBx01 fBx02 fBx03 fBx04 fBg00 fBg01 fBg02 fBg03 fBg04 fBg05 fBg06
  apply calls_gen; intro W16 hW
  have hE : Below w15.heap.size w15 W16 := by rw [hW]; (repeat (first | with_reducible refine below_alloc ?_ _ | with_reducible refine below_drew ?_)); exact Below.refl _ _
  clear hW
  replace b0 := Hd.mk (b0.out.below hE)
  replace eb0 := Hd.mk (Nat.le_trans eb0.out hE.size)
  replace w0 := Hd.mk (Ty.O_below w0.out hE)
  replace ew0 := Hd.mk (Nat.le_trans ew0.out hE.size)
  replace Bw0 := Hd.mk (Bw0.out.below hE)
  replace eBw0 := Hd.mk (Nat.le_trans eBw0.out hE.size)
  replace x0 := Hd.mk (Ty.O_below x0.out hE)
  replace ex0 := Hd.mk (Nat.le_trans ex0.out hE.size)
  replace Bx0 := Hd.mk (Bx0.out.below hE)
  replace eBx0 := Hd.mk (Nat.le_trans eBx0.out hE.size)
  replace g0 := Hd.mk (Ty.O_below g0.out hE)
  replace eg0 := Hd.mk (Nat.le_trans eg0.out hE.size)
  replace Bg0 := Hd.mk (Bg0.out.below hE)
  replace eBg0 := Hd.mk (Nat.le_trans eBg0.out hE.size)
  replace hB := Hd.mk (below_then hB.out hE)
  clear hE
  refine (laws_markJson _ _ (1) _ x0.out (by omega) (by omega)).mono ?_
  rintro e w17 ⟨rfl, hM, hX⟩
  have hsz_ := hX.size
  replace b0 := Hd.mk (b0.out.fr hX (rng_not (Or.inl db0_x0.out)))
  replace eb0 := Hd.mk (Nat.le_trans eb0.out hsz_)
  replace w0 := Hd.mk (Ty.O_fr w0.out hX (rng_off (Or.inl dw0_x0.out)))
  replace ew0 := Hd.mk (Nat.le_trans ew0.out hsz_)
  replace Bw0 := Hd.mk (Bw0.out.fr hX (rng_not (Or.inl dBw0_x0.out)))
  replace eBw0 := Hd.mk (Nat.le_trans eBw0.out hsz_)
  replace ex0 := Hd.mk (Nat.le_trans ex0.out hsz_)
  replace Bx0 := Hd.mk (Bx0.out.fr hX (rng_not (Or.inr dx0_Bx0.out)))
  replace eBx0 := Hd.mk (Nat.le_trans eBx0.out hsz_)
  replace g0 := Hd.mk (Ty.O_fr g0.out hX (rng_off (Or.inr dx0_g0.out)))
  replace eg0 := Hd.mk (Nat.le_trans eg0.out hsz_)
  replace Bg0 := Hd.mk (Bg0.out.fr hX (rng_not (Or.inr dx0_Bg0.out)))
  replace eBg0 := Hd.mk (Nat.le_trans eBg0.out hsz_)
  replace hB := Hd.mk (below_rng hB.out hX ax0.out)
  clear hsz_
  clear hX
  clear hM
  clear x0 ex0
  have hkp : (0 : Int) ≤ 1 + (bulkL (cnJ m) j.list : Int) + (j.names.length : Int) := by omega
  have fb00 : w17.cell? ⟨w.heap.size, 0, none⟩ = some (Value.int IntKind.i64 j.kind) := b0.out.cell 0 rfl
  have fb01 : w17.cell? ⟨w.heap.size, 1, none⟩ = some (Value.int IntKind.i64 j.n) := b0.out.cell 1 rfl
  have fb02 : w17.cell? ⟨w.heap.size, 2, none⟩ = some (Value.string j.s) := b0.out.cell 2 rfl
  have fb03 : w17.cell? ⟨w.heap.size, 3, none⟩ = some (Value.slice A0 j.list.length c0) := b0.out.cell 3 rfl
  have fb04 : w17.cell? ⟨w.heap.size, 4, none⟩ = some (Value.slice A0B j.names.length c0B) := b0.out.cell 4 rfl
  have fBw00 : w17.cell? ⟨w5.heap.size, 0, none⟩ = some (Value.int IntKind.i64 y.kind) := Bw0.out.cell 0 rfl
  have fBw01 : w17.cell? ⟨w5.heap.size, 1, none⟩ = some (Value.slice Aw0w y.way.length cw0w) := Bw0.out.cell 1 rfl
  have fBw02 : w17.cell? ⟨w5.heap.size, 2, none⟩ = some (Value.int IntKind.i64 y.value.kind) := Bw0.out.cell 2 rfl
  have fBw03 : w17.cell? ⟨w5.heap.size, 3, none⟩ = some (Value.int IntKind.i64 y.value.n) := Bw0.out.cell 3 rfl
  have fBw04 : w17.cell? ⟨w5.heap.size, 4, none⟩ = some (Value.string y.value.s) := Bw0.out.cell 4 rfl
  have fBw05 : w17.cell? ⟨w5.heap.size, 5, none⟩ = some (Value.slice Aw0 y.value.list.length cw0) := Bw0.out.cell 5 rfl
  have fBw06 : w17.cell? ⟨w5.heap.size, 6, none⟩ = some (Value.slice Aw0B y.value.names.length cw0B) := Bw0.out.cell 6 rfl
  have fBx00 : w17.cell? ⟨w7.heap.size, 0, none⟩ = some (Value.int IntKind.i64 j.kind) := Bx0.out.cell 0 rfl
  have fBx01 : w17.cell? ⟨w7.heap.size, 1, none⟩ = some (Value.int IntKind.i64 j.n) := Bx0.out.cell 1 rfl
  have fBx02 : w17.cell? ⟨w7.heap.size, 2, none⟩ = some (Value.string j.s) := Bx0.out.cell 2 rfl
  have fBx03 : w17.cell? ⟨w7.heap.size, 3, none⟩ = some (Value.slice Ax0 j.list.length cx0) := Bx0.out.cell 3 rfl
  have fBx04 : w17.cell? ⟨w7.heap.size, 4, none⟩ = some (Value.slice Ax0B j.names.length cx0B) := Bx0.out.cell 4 rfl
  have fBg00 : w17.cell? ⟨w9.heap.size, 0, none⟩ = some (Value.int IntKind.i64 y.kind) := Bg0.out.cell 0 rfl
  have fBg01 : w17.cell? ⟨w9.heap.size, 1, none⟩ = some (Value.slice Ag0w y.way.length cg0w) := Bg0.out.cell 1 rfl
  have fBg02 : w17.cell? ⟨w9.heap.size, 2, none⟩ = some (Value.int IntKind.i64 y.value.kind) := Bg0.out.cell 2 rfl
  have fBg03 : w17.cell? ⟨w9.heap.size, 3, none⟩ = some (Value.int IntKind.i64 y.value.n) := Bg0.out.cell 3 rfl
  have fBg04 : w17.cell? ⟨w9.heap.size, 4, none⟩ = some (Value.string y.value.s) := Bg0.out.cell 4 rfl
  have fBg05 : w17.cell? ⟨w9.heap.size, 5, none⟩ = some (Value.slice Ag0 y.value.list.length cg0) := Bg0.out.cell 5 rfl
  have fBg06 : w17.cell? ⟨w9.heap.size, 6, none⟩ = some (Value.slice Ag0B y.value.names.length cg0B) := Bg0.out.cell 6 rfl
  go_wp2_with fail
  clear fb00 fb01 fb02 fb03 fb04 fBw00 fBw01 fBw02 fBw03 fBw04 fBw05 fBw06 fBx00 fBx01 fBx02 fBx03 fBx04 fBg00 fBg01 fBg02 fBg03 fBg04 fBg05 fBg06
  apply calls_gen; intro W18 hW
  have hE : Below w17.heap.size w17 W18 := by rw [hW]; (repeat (first | with_reducible refine below_alloc ?_ _ | with_reducible refine below_drew ?_)); exact Below.refl _ _
  clear hW
  replace b0 := Hd.mk (b0.out.below hE)
  replace eb0 := Hd.mk (Nat.le_trans eb0.out hE.size)
  replace w0 := Hd.mk (Ty.O_below w0.out hE)
  replace ew0 := Hd.mk (Nat.le_trans ew0.out hE.size)
  replace Bw0 := Hd.mk (Bw0.out.below hE)
  replace eBw0 := Hd.mk (Nat.le_trans eBw0.out hE.size)
  replace Bx0 := Hd.mk (Bx0.out.below hE)
  replace eBx0 := Hd.mk (Nat.le_trans eBx0.out hE.size)
  replace g0 := Hd.mk (Ty.O_below g0.out hE)
  replace eg0 := Hd.mk (Nat.le_trans eg0.out hE.size)
  replace Bg0 := Hd.mk (Bg0.out.below hE)
  replace eBg0 := Hd.mk (Nat.le_trans eBg0.out hE.size)
  replace hB := Hd.mk (below_then hB.out hE)
  clear hE
  refine (laws_eqOp y y _ _ _ ((tOp (m + 1)).O_K g0.out) ((tOp (m + 1)).O_K w0.out)).mono ?_
  rintro e w19 ⟨rfl, hX⟩
  replace b0 := Hd.mk (b0.out.below hX)
  replace eb0 := Hd.mk (Nat.le_trans eb0.out hX.size)
  replace w0 := Hd.mk (Ty.O_below w0.out hX)
  replace ew0 := Hd.mk (Nat.le_trans ew0.out hX.size)
  replace Bw0 := Hd.mk (Bw0.out.below hX)
  replace eBw0 := Hd.mk (Nat.le_trans eBw0.out hX.size)
  replace Bx0 := Hd.mk (Bx0.out.below hX)
  replace eBx0 := Hd.mk (Nat.le_trans eBx0.out hX.size)
  replace g0 := Hd.mk (Ty.O_below g0.out hX)
  replace eg0 := Hd.mk (Nat.le_trans eg0.out hX.size)
  replace Bg0 := Hd.mk (Bg0.out.below hX)
  replace eBg0 := Hd.mk (Nat.le_trans eBg0.out hX.size)
  replace hB := Hd.mk (below_then hB.out hX)
  clear hX
  rw [eqv_self]
  have fb00 : w19.cell? ⟨w.heap.size, 0, none⟩ = some (Value.int IntKind.i64 j.kind) := b0.out.cell 0 rfl
  have fb01 : w19.cell? ⟨w.heap.size, 1, none⟩ = some (Value.int IntKind.i64 j.n) := b0.out.cell 1 rfl
  have fb02 : w19.cell? ⟨w.heap.size, 2, none⟩ = some (Value.string j.s) := b0.out.cell 2 rfl
  have fb03 : w19.cell? ⟨w.heap.size, 3, none⟩ = some (Value.slice A0 j.list.length c0) := b0.out.cell 3 rfl
  have fb04 : w19.cell? ⟨w.heap.size, 4, none⟩ = some (Value.slice A0B j.names.length c0B) := b0.out.cell 4 rfl
  have fBw00 : w19.cell? ⟨w5.heap.size, 0, none⟩ = some (Value.int IntKind.i64 y.kind) := Bw0.out.cell 0 rfl
  have fBw01 : w19.cell? ⟨w5.heap.size, 1, none⟩ = some (Value.slice Aw0w y.way.length cw0w) := Bw0.out.cell 1 rfl
  have fBw02 : w19.cell? ⟨w5.heap.size, 2, none⟩ = some (Value.int IntKind.i64 y.value.kind) := Bw0.out.cell 2 rfl
  have fBw03 : w19.cell? ⟨w5.heap.size, 3, none⟩ = some (Value.int IntKind.i64 y.value.n) := Bw0.out.cell 3 rfl
  have fBw04 : w19.cell? ⟨w5.heap.size, 4, none⟩ = some (Value.string y.value.s) := Bw0.out.cell 4 rfl
  have fBw05 : w19.cell? ⟨w5.heap.size, 5, none⟩ = some (Value.slice Aw0 y.value.list.length cw0) := Bw0.out.cell 5 rfl
  have fBw06 : w19.cell? ⟨w5.heap.size, 6, none⟩ = some (Value.slice Aw0B y.value.names.length cw0B) := Bw0.out.cell 6 rfl
  have fBx00 : w19.cell? ⟨w7.heap.size, 0, none⟩ = some (Value.int IntKind.i64 j.kind) := Bx0.out.cell 0 rfl
  have fBx01 : w19.cell? ⟨w7.heap.size, 1, none⟩ = some (Value.int IntKind.i64 j.n) := Bx0.out.cell 1 rfl
  have fBx02 : w19.cell? ⟨w7.heap.size, 2, none⟩ = some (Value.string j.s) := Bx0.out.cell 2 rfl
  have fBx03 : w19.cell? ⟨w7.heap.size, 3, none⟩ = some (Value.slice Ax0 j.list.length cx0) := Bx0.out.cell 3 rfl
  have fBx04 : w19.cell? ⟨w7.heap.size, 4, none⟩ = some (Value.slice Ax0B j.names.length cx0B) := Bx0.out.cell 4 rfl
  have fBg00 : w19.cell? ⟨w9.heap.size, 0, none⟩ = some (Value.int IntKind.i64 y.kind) := Bg0.out.cell 0 rfl
  have fBg01 : w19.cell? ⟨w9.heap.size, 1, none⟩ = some (Value.slice Ag0w y.way.length cg0w) := Bg0.out.cell 1 rfl
  have fBg02 : w19.cell? ⟨w9.heap.size, 2, none⟩ = some (Value.int IntKind.i64 y.value.kind) := Bg0.out.cell 2 rfl
  have fBg03 : w19.cell? ⟨w9.heap.size, 3, none⟩ = some (Value.int IntKind.i64 y.value.n) := Bg0.out.cell 3 rfl
  have fBg04 : w19.cell? ⟨w9.heap.size, 4, none⟩ = some (Value.string y.value.s) := Bg0.out.cell 4 rfl
  have fBg05 : w19.cell? ⟨w9.heap.size, 5, none⟩ = some (Value.slice Ag0 y.value.list.length cg0) := Bg0.out.cell 5 rfl
  have fBg06 : w19.cell? ⟨w9.heap.size, 6, none⟩ = some (Value.slice Ag0B y.value.names.length cg0B) := Bg0.out.cell 6 rfl
  go_wp2_with fail
  clear fb00 fb01 fb02 fb03 fb04 fBw00 fBw01 fBw02 fBw03 fBw04 fBw05 fBw06 fBx00 fBx01 fBx02 fBx03 fBx04 fBg00 fBg01 fBg02 fBg03 fBg04 fBg05 fBg06
  apply calls_gen; intro W20 hW
  have hE : Below w19.heap.size w19 W20 := by rw [hW]; (repeat (first | with_reducible refine below_alloc ?_ _ | with_reducible refine below_drew ?_)); exact Below.refl _ _
  clear hW
  replace b0 := Hd.mk (b0.out.below hE)
  replace eb0 := Hd.mk (Nat.le_trans eb0.out hE.size)
  replace w0 := Hd.mk (Ty.O_below w0.out hE)
  replace ew0 := Hd.mk (Nat.le_trans ew0.out hE.size)
  replace Bw0 := Hd.mk (Bw0.out.below hE)
  replace eBw0 := Hd.mk (Nat.le_trans eBw0.out hE.size)
  replace Bx0 := Hd.mk (Bx0.out.below hE)
  replace eBx0 := Hd.mk (Nat.le_trans eBx0.out hE.size)
  replace g0 := Hd.mk (Ty.O_below g0.out hE)
  replace eg0 := Hd.mk (Nat.le_trans eg0.out hE.size)
  replace Bg0 := Hd.mk (Bg0.out.below hE)
  replace eBg0 := Hd.mk (Nat.le_trans eBg0.out hE.size)
  replace hB := Hd.mk (below_then hB.out hE)
  clear hE
  refine (laws_markOp _ _ (1) _ g0.out (by omega) (by omega)).mono ?_
  rintro e w21 ⟨rfl, hM, hX⟩
  have hsz_ := hX.size
  replace b0 := Hd.mk (b0.out.fr hX (rng_not (Or.inl db0_g0.out)))
  replace eb0 := Hd.mk (Nat.le_trans eb0.out hsz_)
  replace w0 := Hd.mk (Ty.O_fr w0.out hX (rng_off (Or.inl dw0_g0.out)))
  replace ew0 := Hd.mk (Nat.le_trans ew0.out hsz_)
  replace Bw0 := Hd.mk (Bw0.out.fr hX (rng_not (Or.inl dBw0_g0.out)))
  replace eBw0 := Hd.mk (Nat.le_trans eBw0.out hsz_)
  replace Bx0 := Hd.mk (Bx0.out.fr hX (rng_not (Or.inl dBx0_g0.out)))
  replace eBx0 := Hd.mk (Nat.le_trans eBx0.out hsz_)
  replace eg0 := Hd.mk (Nat.le_trans eg0.out hsz_)
  replace Bg0 := Hd.mk (Bg0.out.fr hX (rng_not (Or.inr dg0_Bg0.out)))
  replace eBg0 := Hd.mk (Nat.le_trans eBg0.out hsz_)
  replace hB := Hd.mk (below_rng hB.out hX ag0.out)
  clear hsz_
  clear hX
  replace g0 := Hd.mk hM; clear hM
  have hqp : (0 : Int) ≤ 1 + (y.way.length : Int) + (bulkL (cnJ m) y.value.list : Int) + (y.value.names.length : Int) := by omega
  have fb00 : w21.cell? ⟨w.heap.size, 0, none⟩ = some (Value.int IntKind.i64 j.kind) := b0.out.cell 0 rfl
  have fb01 : w21.cell? ⟨w.heap.size, 1, none⟩ = some (Value.int IntKind.i64 j.n) := b0.out.cell 1 rfl
  have fb02 : w21.cell? ⟨w.heap.size, 2, none⟩ = some (Value.string j.s) := b0.out.cell 2 rfl
  have fb03 : w21.cell? ⟨w.heap.size, 3, none⟩ = some (Value.slice A0 j.list.length c0) := b0.out.cell 3 rfl
  have fb04 : w21.cell? ⟨w.heap.size, 4, none⟩ = some (Value.slice A0B j.names.length c0B) := b0.out.cell 4 rfl
  have fBw00 : w21.cell? ⟨w5.heap.size, 0, none⟩ = some (Value.int IntKind.i64 y.kind) := Bw0.out.cell 0 rfl
  have fBw01 : w21.cell? ⟨w5.heap.size, 1, none⟩ = some (Value.slice Aw0w y.way.length cw0w) := Bw0.out.cell 1 rfl
  have fBw02 : w21.cell? ⟨w5.heap.size, 2, none⟩ = some (Value.int IntKind.i64 y.value.kind) := Bw0.out.cell 2 rfl
  have fBw03 : w21.cell? ⟨w5.heap.size, 3, none⟩ = some (Value.int IntKind.i64 y.value.n) := Bw0.out.cell 3 rfl
  have fBw04 : w21.cell? ⟨w5.heap.size, 4, none⟩ = some (Value.string y.value.s) := Bw0.out.cell 4 rfl
  have fBw05 : w21.cell? ⟨w5.heap.size, 5, none⟩ = some (Value.slice Aw0 y.value.list.length cw0) := Bw0.out.cell 5 rfl
  have fBw06 : w21.cell? ⟨w5.heap.size, 6, none⟩ = some (Value.slice Aw0B y.value.names.length cw0B) := Bw0.out.cell 6 rfl
  have fBx00 : w21.cell? ⟨w7.heap.size, 0, none⟩ = some (Value.int IntKind.i64 j.kind) := Bx0.out.cell 0 rfl
  have fBx01 : w21.cell? ⟨w7.heap.size, 1, none⟩ = some (Value.int IntKind.i64 j.n) := Bx0.out.cell 1 rfl
  have fBx02 : w21.cell? ⟨w7.heap.size, 2, none⟩ = some (Value.string j.s) := Bx0.out.cell 2 rfl
  have fBx03 : w21.cell? ⟨w7.heap.size, 3, none⟩ = some (Value.slice Ax0 j.list.length cx0) := Bx0.out.cell 3 rfl
  have fBx04 : w21.cell? ⟨w7.heap.size, 4, none⟩ = some (Value.slice Ax0B j.names.length cx0B) := Bx0.out.cell 4 rfl
  have fBg00 : w21.cell? ⟨w9.heap.size, 0, none⟩ = some (Value.int IntKind.i64 y.kind) := Bg0.out.cell 0 rfl
  have fBg01 : w21.cell? ⟨w9.heap.size, 1, none⟩ = some (Value.slice Ag0w y.way.length cg0w) := Bg0.out.cell 1 rfl
  have fBg02 : w21.cell? ⟨w9.heap.size, 2, none⟩ = some (Value.int IntKind.i64 y.value.kind) := Bg0.out.cell 2 rfl
  have fBg03 : w21.cell? ⟨w9.heap.size, 3, none⟩ = some (Value.int IntKind.i64 y.value.n) := Bg0.out.cell 3 rfl
  have fBg04 : w21.cell? ⟨w9.heap.size, 4, none⟩ = some (Value.string y.value.s) := Bg0.out.cell 4 rfl
  have fBg05 : w21.cell? ⟨w9.heap.size, 5, none⟩ = some (Value.slice Ag0 y.value.list.length cg0) := Bg0.out.cell 5 rfl
  have fBg06 : w21.cell? ⟨w9.heap.size, 6, none⟩ = some (Value.slice Ag0B y.value.names.length cg0B) := Bg0.out.cell 6 rfl
  go_wp2_with fail
  clear fb00 fb01 fb02 fb03 fb04 fBw00 fBw01 fBw02 fBw03 fBw04 fBw05 fBw06 fBx00 fBx01 fBx02 fBx03 fBx04 fBg00 fBg01 fBg02 fBg03 fBg04 fBg05 fBg06
  apply calls_gen; intro W22 hW
  have hE : Below w21.heap.size w21 W22 := by rw [hW]; (repeat (first | with_reducible refine below_alloc ?_ _ | with_reducible refine below_drew ?_)); exact Below.refl _ _
  clear hW
  replace b0 := Hd.mk (b0.out.below hE)
  replace eb0 := Hd.mk (Nat.le_trans eb0.out hE.size)
  replace w0 := Hd.mk (Ty.O_below w0.out hE)
  replace ew0 := Hd.mk (Nat.le_trans ew0.out hE.size)
  replace Bw0 := Hd.mk (Bw0.out.below hE)
  replace eBw0 := Hd.mk (Nat.le_trans eBw0.out hE.size)
  replace Bx0 := Hd.mk (Bx0.out.below hE)
  replace eBx0 := Hd.mk (Nat.le_trans eBx0.out hE.size)
  replace g0 := Hd.mk (Ty.O_below g0.out hE)
  replace eg0 := Hd.mk (Nat.le_trans eg0.out hE.size)
  replace Bg0 := Hd.mk (Bg0.out.below hE)
  replace eBg0 := Hd.mk (Nat.le_trans eBg0.out hE.size)
  replace hB := Hd.mk (below_then hB.out hE)
  clear hE
  refine (laws_heldOp y _ 1 _ ((tOp (m + 1)).O_K g0.out) (by omega) (by omega)).mono ?_
  rintro e w23 ⟨rfl, hX⟩
  replace b0 := Hd.mk (b0.out.below hX)
  replace eb0 := Hd.mk (Nat.le_trans eb0.out hX.size)
  replace w0 := Hd.mk (Ty.O_below w0.out hX)
  replace ew0 := Hd.mk (Nat.le_trans ew0.out hX.size)
  replace Bw0 := Hd.mk (Bw0.out.below hX)
  replace eBw0 := Hd.mk (Nat.le_trans eBw0.out hX.size)
  replace Bx0 := Hd.mk (Bx0.out.below hX)
  replace eBx0 := Hd.mk (Nat.le_trans eBx0.out hX.size)
  replace g0 := Hd.mk (Ty.O_below g0.out hX)
  replace eg0 := Hd.mk (Nat.le_trans eg0.out hX.size)
  replace Bg0 := Hd.mk (Bg0.out.below hX)
  replace eBg0 := Hd.mk (Nat.le_trans eBg0.out hX.size)
  replace hB := Hd.mk (below_then hB.out hX)
  clear hX
  have fb00 : w23.cell? ⟨w.heap.size, 0, none⟩ = some (Value.int IntKind.i64 j.kind) := b0.out.cell 0 rfl
  have fb01 : w23.cell? ⟨w.heap.size, 1, none⟩ = some (Value.int IntKind.i64 j.n) := b0.out.cell 1 rfl
  have fb02 : w23.cell? ⟨w.heap.size, 2, none⟩ = some (Value.string j.s) := b0.out.cell 2 rfl
  have fb03 : w23.cell? ⟨w.heap.size, 3, none⟩ = some (Value.slice A0 j.list.length c0) := b0.out.cell 3 rfl
  have fb04 : w23.cell? ⟨w.heap.size, 4, none⟩ = some (Value.slice A0B j.names.length c0B) := b0.out.cell 4 rfl
  have fBw00 : w23.cell? ⟨w5.heap.size, 0, none⟩ = some (Value.int IntKind.i64 y.kind) := Bw0.out.cell 0 rfl
  have fBw01 : w23.cell? ⟨w5.heap.size, 1, none⟩ = some (Value.slice Aw0w y.way.length cw0w) := Bw0.out.cell 1 rfl
  have fBw02 : w23.cell? ⟨w5.heap.size, 2, none⟩ = some (Value.int IntKind.i64 y.value.kind) := Bw0.out.cell 2 rfl
  have fBw03 : w23.cell? ⟨w5.heap.size, 3, none⟩ = some (Value.int IntKind.i64 y.value.n) := Bw0.out.cell 3 rfl
  have fBw04 : w23.cell? ⟨w5.heap.size, 4, none⟩ = some (Value.string y.value.s) := Bw0.out.cell 4 rfl
  have fBw05 : w23.cell? ⟨w5.heap.size, 5, none⟩ = some (Value.slice Aw0 y.value.list.length cw0) := Bw0.out.cell 5 rfl
  have fBw06 : w23.cell? ⟨w5.heap.size, 6, none⟩ = some (Value.slice Aw0B y.value.names.length cw0B) := Bw0.out.cell 6 rfl
  have fBx00 : w23.cell? ⟨w7.heap.size, 0, none⟩ = some (Value.int IntKind.i64 j.kind) := Bx0.out.cell 0 rfl
  have fBx01 : w23.cell? ⟨w7.heap.size, 1, none⟩ = some (Value.int IntKind.i64 j.n) := Bx0.out.cell 1 rfl
  have fBx02 : w23.cell? ⟨w7.heap.size, 2, none⟩ = some (Value.string j.s) := Bx0.out.cell 2 rfl
  have fBx03 : w23.cell? ⟨w7.heap.size, 3, none⟩ = some (Value.slice Ax0 j.list.length cx0) := Bx0.out.cell 3 rfl
  have fBx04 : w23.cell? ⟨w7.heap.size, 4, none⟩ = some (Value.slice Ax0B j.names.length cx0B) := Bx0.out.cell 4 rfl
  have fBg00 : w23.cell? ⟨w9.heap.size, 0, none⟩ = some (Value.int IntKind.i64 y.kind) := Bg0.out.cell 0 rfl
  have fBg01 : w23.cell? ⟨w9.heap.size, 1, none⟩ = some (Value.slice Ag0w y.way.length cg0w) := Bg0.out.cell 1 rfl
  have fBg02 : w23.cell? ⟨w9.heap.size, 2, none⟩ = some (Value.int IntKind.i64 y.value.kind) := Bg0.out.cell 2 rfl
  have fBg03 : w23.cell? ⟨w9.heap.size, 3, none⟩ = some (Value.int IntKind.i64 y.value.n) := Bg0.out.cell 3 rfl
  have fBg04 : w23.cell? ⟨w9.heap.size, 4, none⟩ = some (Value.string y.value.s) := Bg0.out.cell 4 rfl
  have fBg05 : w23.cell? ⟨w9.heap.size, 5, none⟩ = some (Value.slice Ag0 y.value.list.length cg0) := Bg0.out.cell 5 rfl
  have fBg06 : w23.cell? ⟨w9.heap.size, 6, none⟩ = some (Value.slice Ag0B y.value.names.length cg0B) := Bg0.out.cell 6 rfl
  go_wp2_with fail
  clear fb00 fb01 fb02 fb03 fb04 fBw00 fBw01 fBw02 fBw03 fBw04 fBw05 fBw06 fBx00 fBx01 fBx02 fBx03 fBx04 fBg00 fBg01 fBg02 fBg03 fBg04 fBg05 fBg06
  apply calls_gen; intro W24 hW
  have hE : Below w23.heap.size w23 W24 := by rw [hW]; (repeat (first | with_reducible refine below_alloc ?_ _ | with_reducible refine below_drew ?_)); exact Below.refl _ _
  clear hW
  replace b0 := Hd.mk (b0.out.below hE)
  replace eb0 := Hd.mk (Nat.le_trans eb0.out hE.size)
  replace w0 := Hd.mk (Ty.O_below w0.out hE)
  replace ew0 := Hd.mk (Nat.le_trans ew0.out hE.size)
  replace Bw0 := Hd.mk (Bw0.out.below hE)
  replace eBw0 := Hd.mk (Nat.le_trans eBw0.out hE.size)
  replace Bx0 := Hd.mk (Bx0.out.below hE)
  replace eBx0 := Hd.mk (Nat.le_trans eBx0.out hE.size)
  replace g0 := Hd.mk (Ty.O_below g0.out hE)
  replace eg0 := Hd.mk (Nat.le_trans eg0.out hE.size)
  replace Bg0 := Hd.mk (Bg0.out.below hE)
  replace eBg0 := Hd.mk (Nat.le_trans eBg0.out hE.size)
  replace hB := Hd.mk (below_then hB.out hE)
  clear hE
  refine (laws_toJson j _ _ ((tJ (m + 1)).K_below hB.out hK0.out) HL0.out.1).mono ?_
  rintro e w25 ⟨cs_, rfl, hO, hX⟩
  have db0_r0 := Hd.mk eb0.out
  have dw0_r0 := Hd.mk ew0.out
  have dBw0_r0 := Hd.mk eBw0.out
  have dBx0_r0 := Hd.mk eBx0.out
  have dg0_r0 := Hd.mk eg0.out
  have dBg0_r0 := Hd.mk eBg0.out
  have ar0 := Hd.mk hB.out.size
  replace b0 := Hd.mk (b0.out.below hX)
  replace eb0 := Hd.mk (Nat.le_trans eb0.out hX.size)
  replace w0 := Hd.mk (Ty.O_below w0.out hX)
  replace ew0 := Hd.mk (Nat.le_trans ew0.out hX.size)
  replace Bw0 := Hd.mk (Bw0.out.below hX)
  replace eBw0 := Hd.mk (Nat.le_trans eBw0.out hX.size)
  replace Bx0 := Hd.mk (Bx0.out.below hX)
  replace eBx0 := Hd.mk (Nat.le_trans eBx0.out hX.size)
  replace g0 := Hd.mk (Ty.O_below g0.out hX)
  replace eg0 := Hd.mk (Nat.le_trans eg0.out hX.size)
  replace Bg0 := Hd.mk (Bg0.out.below hX)
  replace eBg0 := Hd.mk (Nat.le_trans eBg0.out hX.size)
  replace hB := Hd.mk (below_then hB.out hX)
  clear hX
  replace hO := Ty.O_bound _ hO
  obtain ⟨v_, u_, _, _, hcs, _, r1, r2, _⟩ := tJ_O.1 hO
  subst hcs
  obtain ⟨Ar0, cr0, hv_, hcr0, _⟩ := R_C r1
  subst hv_
  clear r1
  obtain ⟨Ar0B, cr0B, hv_, hcr0B, _⟩ := R_C r2
  subst hv_
  clear r2
  have r0 := Hd.mk (show (tJ (m + 1)).O w25 (rng W24.heap.size w25.heap.size) j [Value.int IntKind.i64 j.kind, Value.int IntKind.i64 j.n, Value.string j.s, Value.slice Ar0 j.list.length cr0, Value.slice Ar0B j.names.length cr0B] from hO); clear hO
  have er0 := Hd.mk (Nat.le_refl w25.heap.size)
  have fb00 : w25.cell? ⟨w.heap.size, 0, none⟩ = some (Value.int IntKind.i64 j.kind) := b0.out.cell 0 rfl
  have fb01 : w25.cell? ⟨w.heap.size, 1, none⟩ = some (Value.int IntKind.i64 j.n) := b0.out.cell 1 rfl
  have fb02 : w25.cell? ⟨w.heap.size, 2, none⟩ = some (Value.string j.s) := b0.out.cell 2 rfl
  have fb03 : w25.cell? ⟨w.heap.size, 3, none⟩ = some (Value.slice A0 j.list.length c0) := b0.out.cell 3 rfl
  have fb04 : w25.cell? ⟨w.heap.size, 4, none⟩ = some (Value.slice A0B j.names.length c0B) := b0.out.cell 4 rfl
  have fBw00 : w25.cell? ⟨w5.heap.size, 0, none⟩ = some (Value.int IntKind.i64 y.kind) := Bw0.out.cell 0 rfl
  have fBw01 : w25.cell? ⟨w5.heap.size, 1, none⟩ = some (Value.slice Aw0w y.way.length cw0w) := Bw0.out.cell 1 rfl
  have fBw02 : w25.cell? ⟨w5.heap.size, 2, none⟩ = some (Value.int IntKind.i64 y.value.kind) := Bw0.out.cell 2 rfl
  have fBw03 : w25.cell? ⟨w5.heap.size, 3, none⟩ = some (Value.int IntKind.i64 y.value.n) := Bw0.out.cell 3 rfl
  have fBw04 : w25.cell? ⟨w5.heap.size, 4, none⟩ = some (Value.string y.value.s) := Bw0.out.cell 4 rfl
  have fBw05 : w25.cell? ⟨w5.heap.size, 5, none⟩ = some (Value.slice Aw0 y.value.list.length cw0) := Bw0.out.cell 5 rfl
  have fBw06 : w25.cell? ⟨w5.heap.size, 6, none⟩ = some (Value.slice Aw0B y.value.names.length cw0B) := Bw0.out.cell 6 rfl
  have fBx00 : w25.cell? ⟨w7.heap.size, 0, none⟩ = some (Value.int IntKind.i64 j.kind) := Bx0.out.cell 0 rfl
  have fBx01 : w25.cell? ⟨w7.heap.size, 1, none⟩ = some (Value.int IntKind.i64 j.n) := Bx0.out.cell 1 rfl
  have fBx02 : w25.cell? ⟨w7.heap.size, 2, none⟩ = some (Value.string j.s) := Bx0.out.cell 2 rfl
  have fBx03 : w25.cell? ⟨w7.heap.size, 3, none⟩ = some (Value.slice Ax0 j.list.length cx0) := Bx0.out.cell 3 rfl
  have fBx04 : w25.cell? ⟨w7.heap.size, 4, none⟩ = some (Value.slice Ax0B j.names.length cx0B) := Bx0.out.cell 4 rfl
  have fBg00 : w25.cell? ⟨w9.heap.size, 0, none⟩ = some (Value.int IntKind.i64 y.kind) := Bg0.out.cell 0 rfl
  have fBg01 : w25.cell? ⟨w9.heap.size, 1, none⟩ = some (Value.slice Ag0w y.way.length cg0w) := Bg0.out.cell 1 rfl
  have fBg02 : w25.cell? ⟨w9.heap.size, 2, none⟩ = some (Value.int IntKind.i64 y.value.kind) := Bg0.out.cell 2 rfl
  have fBg03 : w25.cell? ⟨w9.heap.size, 3, none⟩ = some (Value.int IntKind.i64 y.value.n) := Bg0.out.cell 3 rfl
  have fBg04 : w25.cell? ⟨w9.heap.size, 4, none⟩ = some (Value.string y.value.s) := Bg0.out.cell 4 rfl
  have fBg05 : w25.cell? ⟨w9.heap.size, 5, none⟩ = some (Value.slice Ag0 y.value.list.length cg0) := Bg0.out.cell 5 rfl
  have fBg06 : w25.cell? ⟨w9.heap.size, 6, none⟩ = some (Value.slice Ag0B y.value.names.length cg0B) := Bg0.out.cell 6 rfl
  go_wp2_with fail
  clear fb00 fb01 fb02 fb03 fb04 fBw00 fBw01 fBw02 fBw03 fBw04 fBw05 fBw06 fBx00 fBx01 fBx02 fBx03 fBx04 fBg00 fBg01 fBg02 fBg03 fBg04 fBg05 fBg06
  apply calls_gen; intro W26 hW
  have hE : Below w25.heap.size w25 W26 := by rw [hW]; (repeat (first | with_reducible refine below_alloc ?_ _ | with_reducible refine below_drew ?_)); exact Below.refl _ _
  clear hW
  replace b0 := Hd.mk (b0.out.below hE)
  replace eb0 := Hd.mk (Nat.le_trans eb0.out hE.size)
  replace w0 := Hd.mk (Ty.O_below w0.out hE)
  replace ew0 := Hd.mk (Nat.le_trans ew0.out hE.size)
  replace Bw0 := Hd.mk (Bw0.out.below hE)
  replace eBw0 := Hd.mk (Nat.le_trans eBw0.out hE.size)
  replace Bx0 := Hd.mk (Bx0.out.below hE)
  replace eBx0 := Hd.mk (Nat.le_trans eBx0.out hE.size)
  replace g0 := Hd.mk (Ty.O_below g0.out hE)
  replace eg0 := Hd.mk (Nat.le_trans eg0.out hE.size)
  replace Bg0 := Hd.mk (Bg0.out.below hE)
  replace eBg0 := Hd.mk (Nat.le_trans eBg0.out hE.size)
  replace r0 := Hd.mk (Ty.O_below r0.out hE)
  replace er0 := Hd.mk (Nat.le_trans er0.out hE.size)
  replace hB := Hd.mk (below_then hB.out hE)
  clear hE
  refine (impl_OpRead j _ _ ((tJ (m + 1)).O_K r0.out) (by have := HL0.out.1; omega) (hM.out.below hB.out)).mono ?_
  rintro e w27 ⟨cs_, rfl, hO, hX⟩
  have db0_h0 := Hd.mk eb0.out
  have dw0_h0 := Hd.mk ew0.out
  have dBw0_h0 := Hd.mk eBw0.out
  have dBx0_h0 := Hd.mk eBx0.out
  have dg0_h0 := Hd.mk eg0.out
  have dBg0_h0 := Hd.mk eBg0.out
  have dr0_h0 := Hd.mk er0.out
  have ah0 := Hd.mk hB.out.size
  replace b0 := Hd.mk (b0.out.below hX)
  replace eb0 := Hd.mk (Nat.le_trans eb0.out hX.size)
  replace w0 := Hd.mk (Ty.O_below w0.out hX)
  replace ew0 := Hd.mk (Nat.le_trans ew0.out hX.size)
  replace Bw0 := Hd.mk (Bw0.out.below hX)
  replace eBw0 := Hd.mk (Nat.le_trans eBw0.out hX.size)
  replace Bx0 := Hd.mk (Bx0.out.below hX)
  replace eBx0 := Hd.mk (Nat.le_trans eBx0.out hX.size)
  replace g0 := Hd.mk (Ty.O_below g0.out hX)
  replace eg0 := Hd.mk (Nat.le_trans eg0.out hX.size)
  replace Bg0 := Hd.mk (Bg0.out.below hX)
  replace eBg0 := Hd.mk (Nat.le_trans eBg0.out hX.size)
  replace r0 := Hd.mk (Ty.O_below r0.out hX)
  replace er0 := Hd.mk (Nat.le_trans er0.out hX.size)
  replace hB := Hd.mk (below_then hB.out hX)
  clear hX
  rw [← Hy.out] at hO
  rw [← Hyb.out]
  replace hO := Ty.O_bound _ hO
  obtain ⟨v_, c1_, _, _, hcs, r1, rj_, _⟩ := tOp_O.1 hO
  obtain ⟨Ah0w, ch0w, hv_, hch0w, _⟩ := R_C r1
  subst hv_
  clear r1
  obtain ⟨v_, u_, _, _, hcs2, _, r1, r2, _⟩ := tJ_O.1 rj_
  clear rj_
  subst hcs2
  subst hcs
  obtain ⟨Ah0, ch0, hv_, hch0, _⟩ := R_C r1
  subst hv_
  clear r1
  obtain ⟨Ah0B, ch0B, hv_, hch0B, _⟩ := R_C r2
  subst hv_
  clear r2
  have h0 := Hd.mk (show (tOp (m + 1)).O w27 (rng W26.heap.size w27.heap.size) y [Value.int IntKind.i64 y.kind, Value.slice Ah0w y.way.length ch0w, Value.int IntKind.i64 y.value.kind, Value.int IntKind.i64 y.value.n, Value.string y.value.s, Value.slice Ah0 y.value.list.length ch0, Value.slice Ah0B y.value.names.length ch0B] from hO); clear hO
  have eh0 := Hd.mk (Nat.le_refl w27.heap.size)
  clear r0 er0
  have fb00 : w27.cell? ⟨w.heap.size, 0, none⟩ = some (Value.int IntKind.i64 j.kind) := b0.out.cell 0 rfl
  have fb01 : w27.cell? ⟨w.heap.size, 1, none⟩ = some (Value.int IntKind.i64 j.n) := b0.out.cell 1 rfl
  have fb02 : w27.cell? ⟨w.heap.size, 2, none⟩ = some (Value.string j.s) := b0.out.cell 2 rfl
  have fb03 : w27.cell? ⟨w.heap.size, 3, none⟩ = some (Value.slice A0 j.list.length c0) := b0.out.cell 3 rfl
  have fb04 : w27.cell? ⟨w.heap.size, 4, none⟩ = some (Value.slice A0B j.names.length c0B) := b0.out.cell 4 rfl
  have fBw00 : w27.cell? ⟨w5.heap.size, 0, none⟩ = some (Value.int IntKind.i64 y.kind) := Bw0.out.cell 0 rfl
  have fBw01 : w27.cell? ⟨w5.heap.size, 1, none⟩ = some (Value.slice Aw0w y.way.length cw0w) := Bw0.out.cell 1 rfl
  have fBw02 : w27.cell? ⟨w5.heap.size, 2, none⟩ = some (Value.int IntKind.i64 y.value.kind) := Bw0.out.cell 2 rfl
  have fBw03 : w27.cell? ⟨w5.heap.size, 3, none⟩ = some (Value.int IntKind.i64 y.value.n) := Bw0.out.cell 3 rfl
  have fBw04 : w27.cell? ⟨w5.heap.size, 4, none⟩ = some (Value.string y.value.s) := Bw0.out.cell 4 rfl
  have fBw05 : w27.cell? ⟨w5.heap.size, 5, none⟩ = some (Value.slice Aw0 y.value.list.length cw0) := Bw0.out.cell 5 rfl
  have fBw06 : w27.cell? ⟨w5.heap.size, 6, none⟩ = some (Value.slice Aw0B y.value.names.length cw0B) := Bw0.out.cell 6 rfl
  have fBx00 : w27.cell? ⟨w7.heap.size, 0, none⟩ = some (Value.int IntKind.i64 j.kind) := Bx0.out.cell 0 rfl
  have fBx01 : w27.cell? ⟨w7.heap.size, 1, none⟩ = some (Value.int IntKind.i64 j.n) := Bx0.out.cell 1 rfl
  have fBx02 : w27.cell? ⟨w7.heap.size, 2, none⟩ = some (Value.string j.s) := Bx0.out.cell 2 rfl
  have fBx03 : w27.cell? ⟨w7.heap.size, 3, none⟩ = some (Value.slice Ax0 j.list.length cx0) := Bx0.out.cell 3 rfl
  have fBx04 : w27.cell? ⟨w7.heap.size, 4, none⟩ = some (Value.slice Ax0B j.names.length cx0B) := Bx0.out.cell 4 rfl
  have fBg00 : w27.cell? ⟨w9.heap.size, 0, none⟩ = some (Value.int IntKind.i64 y.kind) := Bg0.out.cell 0 rfl
  have fBg01 : w27.cell? ⟨w9.heap.size, 1, none⟩ = some (Value.slice Ag0w y.way.length cg0w) := Bg0.out.cell 1 rfl
  have fBg02 : w27.cell? ⟨w9.heap.size, 2, none⟩ = some (Value.int IntKind.i64 y.value.kind) := Bg0.out.cell 2 rfl
  have fBg03 : w27.cell? ⟨w9.heap.size, 3, none⟩ = some (Value.int IntKind.i64 y.value.n) := Bg0.out.cell 3 rfl
  have fBg04 : w27.cell? ⟨w9.heap.size, 4, none⟩ = some (Value.string y.value.s) := Bg0.out.cell 4 rfl
  have fBg05 : w27.cell? ⟨w9.heap.size, 5, none⟩ = some (Value.slice Ag0 y.value.list.length cg0) := Bg0.out.cell 5 rfl
  have fBg06 : w27.cell? ⟨w9.heap.size, 6, none⟩ = some (Value.slice Ag0B y.value.names.length cg0B) := Bg0.out.cell 6 rfl
  have lfb00 := fun o => cell_below (below_alloc (Below.refl _ _) o) fb00
  have lfb01 := fun o => cell_below (below_alloc (Below.refl _ _) o) fb01
  have lfb02 := fun o => cell_below (below_alloc (Below.refl _ _) o) fb02
  have lfb03 := fun o => cell_below (below_alloc (Below.refl _ _) o) fb03
  have lfb04 := fun o => cell_below (below_alloc (Below.refl _ _) o) fb04
  have lfBw00 := fun o => cell_below (below_alloc (Below.refl _ _) o) fBw00
  have lfBw01 := fun o => cell_below (below_alloc (Below.refl _ _) o) fBw01
  have lfBw02 := fun o => cell_below (below_alloc (Below.refl _ _) o) fBw02
  have lfBw03 := fun o => cell_below (below_alloc (Below.refl _ _) o) fBw03
  have lfBw04 := fun o => cell_below (below_alloc (Below.refl _ _) o) fBw04
  have lfBw05 := fun o => cell_below (below_alloc (Below.refl _ _) o) fBw05
  have lfBw06 := fun o => cell_below (below_alloc (Below.refl _ _) o) fBw06
  have lfBx00 := fun o => cell_below (below_alloc (Below.refl _ _) o) fBx00
  have lfBx01 := fun o => cell_below (below_alloc (Below.refl _ _) o) fBx01
  have lfBx02 := fun o => cell_below (below_alloc (Below.refl _ _) o) fBx02
  have lfBx03 := fun o => cell_below (below_alloc (Below.refl _ _) o) fBx03
  have lfBx04 := fun o => cell_below (below_alloc (Below.refl _ _) o) fBx04
  have lfBg00 := fun o => cell_below (below_alloc (Below.refl _ _) o) fBg00
  have lfBg01 := fun o => cell_below (below_alloc (Below.refl _ _) o) fBg01
  have lfBg02 := fun o => cell_below (below_alloc (Below.refl _ _) o) fBg02
  have lfBg03 := fun o => cell_below (below_alloc (Below.refl _ _) o) fBg03
  have lfBg04 := fun o => cell_below (below_alloc (Below.refl _ _) o) fBg04
  have lfBg05 := fun o => cell_below (below_alloc (Below.refl _ _) o) fBg05
  have lfBg06 := fun o => cell_below (below_alloc (Below.refl _ _) o) fBg06
  go_wp2_with fail
  clear lfb00 lfb01 lfb02 lfb03 lfb04 lfBw00 lfBw01 lfBw02 lfBw03 lfBw04 lfBw05 lfBw06 lfBx00 lfBx01 lfBx02 lfBx03 lfBx04 lfBg00 lfBg01 lfBg02 lfBg03 lfBg04 lfBg05 lfBg06
  clear fb00 fb01 fb02 fb03 fb04 fBw00 fBw01 fBw02 fBw03 fBw04 fBw05 fBw06 fBx00 fBx01 fBx02 fBx03 fBx04 fBg00 fBg01 fBg02 fBg03 fBg04 fBg05 fBg06
  apply calls_gen; intro W28 hW
  have hE : Below w27.heap.size w27 W28 := by rw [hW]; (repeat (first | with_reducible refine below_alloc ?_ _ | with_reducible refine below_drew ?_)); exact Below.refl _ _
  have Bh0 := Hd.mk (show Blk W28 w27.heap.size #[Value.int IntKind.i64 y.kind, Value.slice Ah0w y.way.length ch0w, Value.int IntKind.i64 y.value.kind, Value.int IntKind.i64 y.value.n, Value.string y.value.s, Value.slice Ah0 y.value.list.length ch0, Value.slice Ah0B y.value.names.length ch0B] 49 by rw [hW]; first | exact Blk.new _ _ _ | exact (Blk.new _ _ _).drew)
  have hz_ : w27.heap.size + 1 ≤ W28.heap.size := by rw [hW]; simp
  clear hW
  have db0_Bh0 := Hd.mk eb0.out
  have dw0_Bh0 := Hd.mk ew0.out
  have dBw0_Bh0 := Hd.mk eBw0.out
  have dBx0_Bh0 := Hd.mk eBx0.out
  have dg0_Bh0 := Hd.mk eg0.out
  have dBg0_Bh0 := Hd.mk eBg0.out
  have dh0_Bh0 := Hd.mk eh0.out
  have aBh0 := Hd.mk hB.out.size
  replace b0 := Hd.mk (b0.out.below hE)
  replace eb0 := Hd.mk (Nat.le_trans eb0.out hE.size)
  replace w0 := Hd.mk (Ty.O_below w0.out hE)
  replace ew0 := Hd.mk (Nat.le_trans ew0.out hE.size)
  replace Bw0 := Hd.mk (Bw0.out.below hE)
  replace eBw0 := Hd.mk (Nat.le_trans eBw0.out hE.size)
  replace Bx0 := Hd.mk (Bx0.out.below hE)
  replace eBx0 := Hd.mk (Nat.le_trans eBx0.out hE.size)
  replace g0 := Hd.mk (Ty.O_below g0.out hE)
  replace eg0 := Hd.mk (Nat.le_trans eg0.out hE.size)
  replace Bg0 := Hd.mk (Bg0.out.below hE)
  replace eBg0 := Hd.mk (Nat.le_trans eBg0.out hE.size)
  replace h0 := Hd.mk (Ty.O_below h0.out hE)
  replace eh0 := Hd.mk (Nat.le_trans eh0.out hE.size)
  replace hB := Hd.mk (below_then hB.out hE)
  have eBh0 := Hd.mk hz_; clear hz_
  clear hE
  refine (laws_eqOp y y _ _ _ ((tOp (m + 1)).O_K h0.out) ((tOp (m + 1)).O_K w0.out)).mono ?_
  rintro e w29 ⟨rfl, hX⟩
  replace b0 := Hd.mk (b0.out.below hX)
  replace eb0 := Hd.mk (Nat.le_trans eb0.out hX.size)
  replace w0 := Hd.mk (Ty.O_below w0.out hX)
  replace ew0 := Hd.mk (Nat.le_trans ew0.out hX.size)
  replace Bw0 := Hd.mk (Bw0.out.below hX)
  replace eBw0 := Hd.mk (Nat.le_trans eBw0.out hX.size)
  replace Bx0 := Hd.mk (Bx0.out.below hX)
  replace eBx0 := Hd.mk (Nat.le_trans eBx0.out hX.size)
  replace g0 := Hd.mk (Ty.O_below g0.out hX)
  replace eg0 := Hd.mk (Nat.le_trans eg0.out hX.size)
  replace Bg0 := Hd.mk (Bg0.out.below hX)
  replace eBg0 := Hd.mk (Nat.le_trans eBg0.out hX.size)
  replace h0 := Hd.mk (Ty.O_below h0.out hX)
  replace eh0 := Hd.mk (Nat.le_trans eh0.out hX.size)
  replace Bh0 := Hd.mk (Bh0.out.below hX)
  replace eBh0 := Hd.mk (Nat.le_trans eBh0.out hX.size)
  replace hB := Hd.mk (below_then hB.out hX)
  clear hX
  rw [eqv_self]
  have fb00 : w29.cell? ⟨w.heap.size, 0, none⟩ = some (Value.int IntKind.i64 j.kind) := b0.out.cell 0 rfl
  have fb01 : w29.cell? ⟨w.heap.size, 1, none⟩ = some (Value.int IntKind.i64 j.n) := b0.out.cell 1 rfl
  have fb02 : w29.cell? ⟨w.heap.size, 2, none⟩ = some (Value.string j.s) := b0.out.cell 2 rfl
  have fb03 : w29.cell? ⟨w.heap.size, 3, none⟩ = some (Value.slice A0 j.list.length c0) := b0.out.cell 3 rfl
  have fb04 : w29.cell? ⟨w.heap.size, 4, none⟩ = some (Value.slice A0B j.names.length c0B) := b0.out.cell 4 rfl
  have fBw00 : w29.cell? ⟨w5.heap.size, 0, none⟩ = some (Value.int IntKind.i64 y.kind) := Bw0.out.cell 0 rfl
  have fBw01 : w29.cell? ⟨w5.heap.size, 1, none⟩ = some (Value.slice Aw0w y.way.length cw0w) := Bw0.out.cell 1 rfl
  have fBw02 : w29.cell? ⟨w5.heap.size, 2, none⟩ = some (Value.int IntKind.i64 y.value.kind) := Bw0.out.cell 2 rfl
  have fBw03 : w29.cell? ⟨w5.heap.size, 3, none⟩ = some (Value.int IntKind.i64 y.value.n) := Bw0.out.cell 3 rfl
  have fBw04 : w29.cell? ⟨w5.heap.size, 4, none⟩ = some (Value.string y.value.s) := Bw0.out.cell 4 rfl
  have fBw05 : w29.cell? ⟨w5.heap.size, 5, none⟩ = some (Value.slice Aw0 y.value.list.length cw0) := Bw0.out.cell 5 rfl
  have fBw06 : w29.cell? ⟨w5.heap.size, 6, none⟩ = some (Value.slice Aw0B y.value.names.length cw0B) := Bw0.out.cell 6 rfl
  have fBx00 : w29.cell? ⟨w7.heap.size, 0, none⟩ = some (Value.int IntKind.i64 j.kind) := Bx0.out.cell 0 rfl
  have fBx01 : w29.cell? ⟨w7.heap.size, 1, none⟩ = some (Value.int IntKind.i64 j.n) := Bx0.out.cell 1 rfl
  have fBx02 : w29.cell? ⟨w7.heap.size, 2, none⟩ = some (Value.string j.s) := Bx0.out.cell 2 rfl
  have fBx03 : w29.cell? ⟨w7.heap.size, 3, none⟩ = some (Value.slice Ax0 j.list.length cx0) := Bx0.out.cell 3 rfl
  have fBx04 : w29.cell? ⟨w7.heap.size, 4, none⟩ = some (Value.slice Ax0B j.names.length cx0B) := Bx0.out.cell 4 rfl
  have fBg00 : w29.cell? ⟨w9.heap.size, 0, none⟩ = some (Value.int IntKind.i64 y.kind) := Bg0.out.cell 0 rfl
  have fBg01 : w29.cell? ⟨w9.heap.size, 1, none⟩ = some (Value.slice Ag0w y.way.length cg0w) := Bg0.out.cell 1 rfl
  have fBg02 : w29.cell? ⟨w9.heap.size, 2, none⟩ = some (Value.int IntKind.i64 y.value.kind) := Bg0.out.cell 2 rfl
  have fBg03 : w29.cell? ⟨w9.heap.size, 3, none⟩ = some (Value.int IntKind.i64 y.value.n) := Bg0.out.cell 3 rfl
  have fBg04 : w29.cell? ⟨w9.heap.size, 4, none⟩ = some (Value.string y.value.s) := Bg0.out.cell 4 rfl
  have fBg05 : w29.cell? ⟨w9.heap.size, 5, none⟩ = some (Value.slice Ag0 y.value.list.length cg0) := Bg0.out.cell 5 rfl
  have fBg06 : w29.cell? ⟨w9.heap.size, 6, none⟩ = some (Value.slice Ag0B y.value.names.length cg0B) := Bg0.out.cell 6 rfl
  have fBh00 : w29.cell? ⟨w27.heap.size, 0, none⟩ = some (Value.int IntKind.i64 y.kind) := Bh0.out.cell 0 rfl
  have fBh01 : w29.cell? ⟨w27.heap.size, 1, none⟩ = some (Value.slice Ah0w y.way.length ch0w) := Bh0.out.cell 1 rfl
  have fBh02 : w29.cell? ⟨w27.heap.size, 2, none⟩ = some (Value.int IntKind.i64 y.value.kind) := Bh0.out.cell 2 rfl
  have fBh03 : w29.cell? ⟨w27.heap.size, 3, none⟩ = some (Value.int IntKind.i64 y.value.n) := Bh0.out.cell 3 rfl
  have fBh04 : w29.cell? ⟨w27.heap.size, 4, none⟩ = some (Value.string y.value.s) := Bh0.out.cell 4 rfl
  have fBh05 : w29.cell? ⟨w27.heap.size, 5, none⟩ = some (Value.slice Ah0 y.value.list.length ch0) := Bh0.out.cell 5 rfl
  have fBh06 : w29.cell? ⟨w27.heap.size, 6, none⟩ = some (Value.slice Ah0B y.value.names.length ch0B) := Bh0.out.cell 6 rfl
  go_wp2_with fail
  clear fb00 fb01 fb02 fb03 fb04 fBw00 fBw01 fBw02 fBw03 fBw04 fBw05 fBw06 fBx00 fBx01 fBx02 fBx03 fBx04 fBg00 fBg01 fBg02 fBg03 fBg04 fBg05 fBg06 fBh00 fBh01 fBh02 fBh03 fBh04 fBh05 fBh06
  apply calls_gen; intro W30 hW
  have hE : Below w29.heap.size w29 W30 := by rw [hW]; (repeat (first | with_reducible refine below_alloc ?_ _ | with_reducible refine below_drew ?_)); exact Below.refl _ _
  clear hW
  replace b0 := Hd.mk (b0.out.below hE)
  replace eb0 := Hd.mk (Nat.le_trans eb0.out hE.size)
  replace w0 := Hd.mk (Ty.O_below w0.out hE)
  replace ew0 := Hd.mk (Nat.le_trans ew0.out hE.size)
  replace Bw0 := Hd.mk (Bw0.out.below hE)
  replace eBw0 := Hd.mk (Nat.le_trans eBw0.out hE.size)
  replace Bx0 := Hd.mk (Bx0.out.below hE)
  replace eBx0 := Hd.mk (Nat.le_trans eBx0.out hE.size)
  replace g0 := Hd.mk (Ty.O_below g0.out hE)
  replace eg0 := Hd.mk (Nat.le_trans eg0.out hE.size)
  replace Bg0 := Hd.mk (Bg0.out.below hE)
  replace eBg0 := Hd.mk (Nat.le_trans eBg0.out hE.size)
  replace h0 := Hd.mk (Ty.O_below h0.out hE)
  replace eh0 := Hd.mk (Nat.le_trans eh0.out hE.size)
  replace Bh0 := Hd.mk (Bh0.out.below hE)
  replace eBh0 := Hd.mk (Nat.le_trans eBh0.out hE.size)
  replace hB := Hd.mk (below_then hB.out hE)
  clear hE
  refine (laws_heldOp y _ 1 _ ((tOp (m + 1)).O_K g0.out) (by omega) (by omega)).mono ?_
  rintro e w31 ⟨rfl, hX⟩
  replace b0 := Hd.mk (b0.out.below hX)
  replace eb0 := Hd.mk (Nat.le_trans eb0.out hX.size)
  replace w0 := Hd.mk (Ty.O_below w0.out hX)
  replace ew0 := Hd.mk (Nat.le_trans ew0.out hX.size)
  replace Bw0 := Hd.mk (Bw0.out.below hX)
  replace eBw0 := Hd.mk (Nat.le_trans eBw0.out hX.size)
  replace Bx0 := Hd.mk (Bx0.out.below hX)
  replace eBx0 := Hd.mk (Nat.le_trans eBx0.out hX.size)
  replace g0 := Hd.mk (Ty.O_below g0.out hX)
  replace eg0 := Hd.mk (Nat.le_trans eg0.out hX.size)
  replace Bg0 := Hd.mk (Bg0.out.below hX)
  replace eBg0 := Hd.mk (Nat.le_trans eBg0.out hX.size)
  replace h0 := Hd.mk (Ty.O_below h0.out hX)
  replace eh0 := Hd.mk (Nat.le_trans eh0.out hX.size)
  replace Bh0 := Hd.mk (Bh0.out.below hX)
  replace eBh0 := Hd.mk (Nat.le_trans eBh0.out hX.size)
  replace hB := Hd.mk (below_then hB.out hX)
  clear hX
  have fb00 : w31.cell? ⟨w.heap.size, 0, none⟩ = some (Value.int IntKind.i64 j.kind) := b0.out.cell 0 rfl
  have fb01 : w31.cell? ⟨w.heap.size, 1, none⟩ = some (Value.int IntKind.i64 j.n) := b0.out.cell 1 rfl
  have fb02 : w31.cell? ⟨w.heap.size, 2, none⟩ = some (Value.string j.s) := b0.out.cell 2 rfl
  have fb03 : w31.cell? ⟨w.heap.size, 3, none⟩ = some (Value.slice A0 j.list.length c0) := b0.out.cell 3 rfl
  have fb04 : w31.cell? ⟨w.heap.size, 4, none⟩ = some (Value.slice A0B j.names.length c0B) := b0.out.cell 4 rfl
  have fBw00 : w31.cell? ⟨w5.heap.size, 0, none⟩ = some (Value.int IntKind.i64 y.kind) := Bw0.out.cell 0 rfl
  have fBw01 : w31.cell? ⟨w5.heap.size, 1, none⟩ = some (Value.slice Aw0w y.way.length cw0w) := Bw0.out.cell 1 rfl
  have fBw02 : w31.cell? ⟨w5.heap.size, 2, none⟩ = some (Value.int IntKind.i64 y.value.kind) := Bw0.out.cell 2 rfl
  have fBw03 : w31.cell? ⟨w5.heap.size, 3, none⟩ = some (Value.int IntKind.i64 y.value.n) := Bw0.out.cell 3 rfl
  have fBw04 : w31.cell? ⟨w5.heap.size, 4, none⟩ = some (Value.string y.value.s) := Bw0.out.cell 4 rfl
  have fBw05 : w31.cell? ⟨w5.heap.size, 5, none⟩ = some (Value.slice Aw0 y.value.list.length cw0) := Bw0.out.cell 5 rfl
  have fBw06 : w31.cell? ⟨w5.heap.size, 6, none⟩ = some (Value.slice Aw0B y.value.names.length cw0B) := Bw0.out.cell 6 rfl
  have fBx00 : w31.cell? ⟨w7.heap.size, 0, none⟩ = some (Value.int IntKind.i64 j.kind) := Bx0.out.cell 0 rfl
  have fBx01 : w31.cell? ⟨w7.heap.size, 1, none⟩ = some (Value.int IntKind.i64 j.n) := Bx0.out.cell 1 rfl
  have fBx02 : w31.cell? ⟨w7.heap.size, 2, none⟩ = some (Value.string j.s) := Bx0.out.cell 2 rfl
  have fBx03 : w31.cell? ⟨w7.heap.size, 3, none⟩ = some (Value.slice Ax0 j.list.length cx0) := Bx0.out.cell 3 rfl
  have fBx04 : w31.cell? ⟨w7.heap.size, 4, none⟩ = some (Value.slice Ax0B j.names.length cx0B) := Bx0.out.cell 4 rfl
  have fBg00 : w31.cell? ⟨w9.heap.size, 0, none⟩ = some (Value.int IntKind.i64 y.kind) := Bg0.out.cell 0 rfl
  have fBg01 : w31.cell? ⟨w9.heap.size, 1, none⟩ = some (Value.slice Ag0w y.way.length cg0w) := Bg0.out.cell 1 rfl
  have fBg02 : w31.cell? ⟨w9.heap.size, 2, none⟩ = some (Value.int IntKind.i64 y.value.kind) := Bg0.out.cell 2 rfl
  have fBg03 : w31.cell? ⟨w9.heap.size, 3, none⟩ = some (Value.int IntKind.i64 y.value.n) := Bg0.out.cell 3 rfl
  have fBg04 : w31.cell? ⟨w9.heap.size, 4, none⟩ = some (Value.string y.value.s) := Bg0.out.cell 4 rfl
  have fBg05 : w31.cell? ⟨w9.heap.size, 5, none⟩ = some (Value.slice Ag0 y.value.list.length cg0) := Bg0.out.cell 5 rfl
  have fBg06 : w31.cell? ⟨w9.heap.size, 6, none⟩ = some (Value.slice Ag0B y.value.names.length cg0B) := Bg0.out.cell 6 rfl
  have fBh00 : w31.cell? ⟨w27.heap.size, 0, none⟩ = some (Value.int IntKind.i64 y.kind) := Bh0.out.cell 0 rfl
  have fBh01 : w31.cell? ⟨w27.heap.size, 1, none⟩ = some (Value.slice Ah0w y.way.length ch0w) := Bh0.out.cell 1 rfl
  have fBh02 : w31.cell? ⟨w27.heap.size, 2, none⟩ = some (Value.int IntKind.i64 y.value.kind) := Bh0.out.cell 2 rfl
  have fBh03 : w31.cell? ⟨w27.heap.size, 3, none⟩ = some (Value.int IntKind.i64 y.value.n) := Bh0.out.cell 3 rfl
  have fBh04 : w31.cell? ⟨w27.heap.size, 4, none⟩ = some (Value.string y.value.s) := Bh0.out.cell 4 rfl
  have fBh05 : w31.cell? ⟨w27.heap.size, 5, none⟩ = some (Value.slice Ah0 y.value.list.length ch0) := Bh0.out.cell 5 rfl
  have fBh06 : w31.cell? ⟨w27.heap.size, 6, none⟩ = some (Value.slice Ah0B y.value.names.length ch0B) := Bh0.out.cell 6 rfl
  go_wp2_with fail
  clear fb00 fb01 fb02 fb03 fb04 fBw00 fBw01 fBw02 fBw03 fBw04 fBw05 fBw06 fBx00 fBx01 fBx02 fBx03 fBx04 fBg00 fBg01 fBg02 fBg03 fBg04 fBg05 fBg06 fBh00 fBh01 fBh02 fBh03 fBh04 fBh05 fBh06
  go_ret
  exact ⟨rfl, hB.out⟩
end Go.Proofs.YtkgefjjgjjmklaaDoor.X
