/- What is proved here: the law FnExactBack answers true. Conditions: none. -/
import Derived.Test.YtnpogfhfjofbmaaXP
import Derived.Test.YtnpogfhfjofbmaaXBm
import Derived.StillTailTactics
import Derived.Deep.RegionWith
namespace Go.Proofs.Ytnpogfhfjofbmaa.X
open Go.RowKit Go.Sort
set_option linter.unusedVariables false
set_option linter.unusedSimpArgs false
open Ty
set_option maxHeartbeats 16000000 in
set_option maxRecDepth 100000 in
theorem laws_FnExactBack {w : World} (x : Store) (cs0 : List Value) (hk0 : tStore.K w x cs0) (u : Change) (cs1 : List Value) (hk1 : tChange.K w u cs1) :
    Calls Try.prog 3 #[.agg cs0.toArray, .agg cs1.toArray] w fun e w' => e = .returned (.bool true) ∧ Below w.heap.size w w' := by
  obtain ⟨y, hy⟩ : ∃ z, z = backV x u := ⟨_, rfl⟩
  have Hy := Hd.mk hy; clear hy
  obtain ⟨yb, hyb⟩ : ∃ z, z = backB x u := ⟨_, rfl⟩
  have Hyb := Hd.mk hyb; clear hyb
  obtain ⟨A0, c0, A0B, c0B, rfl, ⟨hc0, hr0⟩, hc0B, hr0B⟩ := tStore_K.1 hk0
  have hK0 := Hd.mk hk0; clear hk0
  clear hr0 hr0B
  obtain ⟨A1, c1, A1B, c1B, rfl, ⟨hc1, hr1⟩, hc1B, hr1B⟩ := tChange_K.1 hk1
  have hK1 := Hd.mk hk1; clear hk1
  clear hr1 hr1B
  go_enter Try.func3, Try.ntmps3
  go_wp2_with fail
  apply calls_gen; intro W0 hW
  have hE : Below w.heap.size w W0 := by rw [hW]; (repeat (with_reducible refine below_alloc ?_ _)); exact Below.refl _ _
  have b0 := Hd.mk (show Blk W0 (w.heap.size) #[Value.slice A0 x.cols.length c0, Value.int IntKind.i64 x.ver, Value.slice A0B x.tabs.length c0B] 27 by rw [hW]; exact ((Blk.new w _ _).alloc _))
  have b1 := Hd.mk (show Blk W0 (w.heap.size + 1) #[Value.int IntKind.i64 u.table, Value.bool u.had, Value.bool u.has, Value.int IntKind.i64 u.old.id, Value.slice A1 u.old.cells.length c1, Value.int IntKind.i64 u.new.id, Value.slice A1B u.new.cells.length c1B] 31 by rw [hW]; simpa using (Blk.new (w.alloc _) _ _))
  have hz_ : w.heap.size + 2 ≤ W0.heap.size := by rw [hW]; simp
  clear hW
  have hB := Hd.mk hE; clear hE
  have ab0 := Hd.mk (show w.heap.size ≤ w.heap.size by omega)
  have eb0 := Hd.mk (show w.heap.size + 1 ≤ W0.heap.size by omega)
  have ab1 := Hd.mk (show w.heap.size ≤ w.heap.size + 1 by omega)
  have eb1 := Hd.mk (show w.heap.size + 1 + 1 ≤ W0.heap.size by omega)
  have db0_b1 := Hd.mk (show w.heap.size + 1 ≤ w.heap.size + 1 by omega)
  clear hz_
  refine (laws_szStore x _ _ _ (tStore.K_below hB.out hK0.out) (by omega) (by omega)).mono ?_
  rintro e w1 ⟨rfl, hX⟩
  replace b0 := Hd.mk (b0.out.below hX)
  replace eb0 := Hd.mk (Nat.le_trans eb0.out hX.size)
  replace b1 := Hd.mk (b1.out.below hX)
  replace eb1 := Hd.mk (Nat.le_trans eb1.out hX.size)
  replace hB := Hd.mk (below_then hB.out hX)
  clear hX
  have fb00 : w1.cell? ⟨w.heap.size, 0, none⟩ = some (Value.slice A0 x.cols.length c0) := b0.out.cell 0 rfl
  have fb01 : w1.cell? ⟨w.heap.size, 1, none⟩ = some (Value.int IntKind.i64 x.ver) := b0.out.cell 1 rfl
  have fb02 : w1.cell? ⟨w.heap.size, 2, none⟩ = some (Value.slice A0B x.tabs.length c0B) := b0.out.cell 2 rfl
  have fb10 : w1.cell? ⟨w.heap.size + 1, 0, none⟩ = some (Value.int IntKind.i64 u.table) := b1.out.cell 0 rfl
  have fb11 : w1.cell? ⟨w.heap.size + 1, 1, none⟩ = some (Value.bool u.had) := b1.out.cell 1 rfl
  have fb12 : w1.cell? ⟨w.heap.size + 1, 2, none⟩ = some (Value.bool u.has) := b1.out.cell 2 rfl
  have fb13 : w1.cell? ⟨w.heap.size + 1, 3, none⟩ = some (Value.int IntKind.i64 u.old.id) := b1.out.cell 3 rfl
  have fb14 : w1.cell? ⟨w.heap.size + 1, 4, none⟩ = some (Value.slice A1 u.old.cells.length c1) := b1.out.cell 4 rfl
  have fb15 : w1.cell? ⟨w.heap.size + 1, 5, none⟩ = some (Value.int IntKind.i64 u.new.id) := b1.out.cell 5 rfl
  have fb16 : w1.cell? ⟨w.heap.size + 1, 6, none⟩ = some (Value.slice A1B u.new.cells.length c1B) := b1.out.cell 6 rfl
  by_cases hz0 : szR 1048576 (bulkStore x) < 0
  · go_wp2_with fail
    go_ret
    exact ⟨rfl, hB.out⟩
  have HL0 := Hd.mk (szR_le (Int.not_lt.1 hz0) (by omega))
  have hy0 := HL0.out.2.1
  have hx0 := HL0.out.2.2.1
  clear hz0
  go_wp2_with fail
  clear fb00 fb01 fb02 fb10 fb11 fb12 fb13 fb14 fb15 fb16
  apply calls_gen; intro W2 hW
  have hE : Below w1.heap.size w1 W2 := by rw [hW]; (repeat (first | with_reducible refine below_alloc ?_ _ | with_reducible refine below_drew ?_)); exact Below.refl _ _
  clear hW
  replace b0 := Hd.mk (b0.out.below hE)
  replace eb0 := Hd.mk (Nat.le_trans eb0.out hE.size)
  replace b1 := Hd.mk (b1.out.below hE)
  replace eb1 := Hd.mk (Nat.le_trans eb1.out hE.size)
  replace hB := Hd.mk (below_then hB.out hE)
  clear hE
  refine (laws_szChange u _ _ _ (tChange.K_below hB.out hK1.out) hy0 hx0).mono ?_
  rintro e w3 ⟨rfl, hX⟩
  replace b0 := Hd.mk (b0.out.below hX)
  replace eb0 := Hd.mk (Nat.le_trans eb0.out hX.size)
  replace b1 := Hd.mk (b1.out.below hX)
  replace eb1 := Hd.mk (Nat.le_trans eb1.out hX.size)
  replace hB := Hd.mk (below_then hB.out hX)
  clear hX
  have fb00 : w3.cell? ⟨w.heap.size, 0, none⟩ = some (Value.slice A0 x.cols.length c0) := b0.out.cell 0 rfl
  have fb01 : w3.cell? ⟨w.heap.size, 1, none⟩ = some (Value.int IntKind.i64 x.ver) := b0.out.cell 1 rfl
  have fb02 : w3.cell? ⟨w.heap.size, 2, none⟩ = some (Value.slice A0B x.tabs.length c0B) := b0.out.cell 2 rfl
  have fb10 : w3.cell? ⟨w.heap.size + 1, 0, none⟩ = some (Value.int IntKind.i64 u.table) := b1.out.cell 0 rfl
  have fb11 : w3.cell? ⟨w.heap.size + 1, 1, none⟩ = some (Value.bool u.had) := b1.out.cell 1 rfl
  have fb12 : w3.cell? ⟨w.heap.size + 1, 2, none⟩ = some (Value.bool u.has) := b1.out.cell 2 rfl
  have fb13 : w3.cell? ⟨w.heap.size + 1, 3, none⟩ = some (Value.int IntKind.i64 u.old.id) := b1.out.cell 3 rfl
  have fb14 : w3.cell? ⟨w.heap.size + 1, 4, none⟩ = some (Value.slice A1 u.old.cells.length c1) := b1.out.cell 4 rfl
  have fb15 : w3.cell? ⟨w.heap.size + 1, 5, none⟩ = some (Value.int IntKind.i64 u.new.id) := b1.out.cell 5 rfl
  have fb16 : w3.cell? ⟨w.heap.size + 1, 6, none⟩ = some (Value.slice A1B u.new.cells.length c1B) := b1.out.cell 6 rfl
  by_cases hz1 : szR (szR 1048576 (bulkStore x)) (bulkChange u) < 0
  · go_wp2_with fail
    go_ret
    exact ⟨rfl, hB.out⟩
  have HL1 := Hd.mk (szR_le (Int.not_lt.1 hz1) hx0)
  have hy1 := HL1.out.2.1
  have hx1 := HL1.out.2.2.1
  clear hz1
  go_wp2_with fail
  clear fb00 fb01 fb02 fb10 fb11 fb12 fb13 fb14 fb15 fb16
  have hx_0 : ((x.cols.length : Int) + (bulkL cnRows x.tabs : Int) : Int) ≤ 8388608 := by have := cnt_Store x; have := HL0.out.1; omega
  have hx_1 : ((u.old.cells.length : Int) + (u.new.cells.length : Int) : Int) ≤ 8388608 := by have := cnt_Change u; have := HL1.out.1; omega
  have hx_y : ((y.cols.length : Int) + (bulkL cnRows y.tabs : Int) : Int) ≤ 1099511627776 := by (rw [Hy.out]; have h1 := cnt_Store (backV x u); have h2 := bulk_backV x u; have h3 := HL0.out.1; have h4 := HL1.out.1; omega)
  obtain ⟨RR, hRR⟩ : ∃ RR : Act → World → Prop, RR = (fun a w' => ∃ (p a0 b0 : Nat) (Aw0 : Option Addr) (cw0 : Nat) (Aw0B : Option Addr) (cw0B : Nat) (u5 u17 u18 u19 u20 u21 u22 u23 u24 u25 u26 u28 u29 u30 u31 u32 u27 u33 u34 : Value), a = ⟨#[.agg #[Value.slice A0 x.cols.length c0, Value.int IntKind.i64 x.ver, Value.slice A0B x.tabs.length c0B], .agg #[Value.int IntKind.i64 u.table, Value.bool u.had, Value.bool u.has, Value.int IntKind.i64 u.old.id, Value.slice A1 u.old.cells.length c1, Value.int IntKind.i64 u.new.id, Value.slice A1B u.new.cells.length c1B], .pointer (some ⟨w.heap.size, 0, none⟩), .pointer (some ⟨w.heap.size + 1, 0, none⟩), .bool false, u5, .pointer (some ⟨p, 0, none⟩), .bool yb, undef, undef, undef, undef, undef, undef, undef, undef, undef, u17, u18, u19, u20, u21, u22, u23, u24, u25, u26, u27, u28, u29, u30, u31, u32, u33, u34, undef, undef, undef, undef, undef, undef, undef, undef, undef, undef, undef, undef, undef, undef, undef, undef, undef, undef, undef, undef, undef, undef, undef, undef, undef, undef, undef, undef, undef, undef, undef, undef, undef, undef, undef, undef, undef, undef, undef, undef, undef, undef, undef, undef, undef, undef, undef, undef, undef, undef, undef, undef, undef, undef, undef, undef, undef, undef, undef, undef, undef, undef, undef, undef, undef, undef, undef, undef, undef, undef, undef, undef, undef, undef, undef, undef, undef, undef, undef, undef, undef, undef, undef, undef], []⟩ ∧ Hd (Blk w' p #[Value.slice Aw0 y.cols.length cw0, Value.int IntKind.i64 y.ver, Value.slice Aw0B y.tabs.length cw0B] 37) ∧ Hd (Blk w' (w.heap.size) #[Value.slice A0 x.cols.length c0, Value.int IntKind.i64 x.ver, Value.slice A0B x.tabs.length c0B] 27) ∧ Hd (w.heap.size + 1 ≤ w'.heap.size) ∧ Hd (Blk w' (w.heap.size + 1) #[Value.int IntKind.i64 u.table, Value.bool u.had, Value.bool u.has, Value.int IntKind.i64 u.old.id, Value.slice A1 u.old.cells.length c1, Value.int IntKind.i64 u.new.id, Value.slice A1B u.new.cells.length c1B] 31) ∧ Hd (w.heap.size + 1 + 1 ≤ w'.heap.size) ∧ Hd (tStore.O w' (rng a0 b0) y [Value.slice Aw0 y.cols.length cw0, Value.int IntKind.i64 y.ver, Value.slice Aw0B y.tabs.length cw0B]) ∧ Hd (w.heap.size ≤ p) ∧ Hd (p + 1 ≤ w'.heap.size) ∧ Hd (w.heap.size ≤ a0) ∧ Hd (b0 ≤ w'.heap.size) ∧ Hd (Below w.heap.size w w')) := ⟨_, rfl⟩
  have HRR := Hd.mk hRR; clear hRR
  refine region_to RR ?_ ?_
  case refine_1 =>
    have fb00 : w3.cell? ⟨w.heap.size, 0, none⟩ = some (Value.slice A0 x.cols.length c0) := b0.out.cell 0 rfl
    have fb01 : w3.cell? ⟨w.heap.size, 1, none⟩ = some (Value.int IntKind.i64 x.ver) := b0.out.cell 1 rfl
    have fb02 : w3.cell? ⟨w.heap.size, 2, none⟩ = some (Value.slice A0B x.tabs.length c0B) := b0.out.cell 2 rfl
    have fb10 : w3.cell? ⟨w.heap.size + 1, 0, none⟩ = some (Value.int IntKind.i64 u.table) := b1.out.cell 0 rfl
    have fb11 : w3.cell? ⟨w.heap.size + 1, 1, none⟩ = some (Value.bool u.had) := b1.out.cell 1 rfl
    have fb12 : w3.cell? ⟨w.heap.size + 1, 2, none⟩ = some (Value.bool u.has) := b1.out.cell 2 rfl
    have fb13 : w3.cell? ⟨w.heap.size + 1, 3, none⟩ = some (Value.int IntKind.i64 u.old.id) := b1.out.cell 3 rfl
    have fb14 : w3.cell? ⟨w.heap.size + 1, 4, none⟩ = some (Value.slice A1 u.old.cells.length c1) := b1.out.cell 4 rfl
    have fb15 : w3.cell? ⟨w.heap.size + 1, 5, none⟩ = some (Value.int IntKind.i64 u.new.id) := b1.out.cell 5 rfl
    have fb16 : w3.cell? ⟨w.heap.size + 1, 6, none⟩ = some (Value.slice A1B u.new.cells.length c1B) := b1.out.cell 6 rfl
    have rfb00 := cell_regrown fb00
    have rfb01 := cell_regrown fb01
    have rfb02 := cell_regrown fb02
    have rfb10 := cell_regrown fb10
    have rfb11 := cell_regrown fb11
    have rfb12 := cell_regrown fb12
    have rfb13 := cell_regrown fb13
    have rfb14 := cell_regrown fb14
    have rfb15 := cell_regrown fb15
    have rfb16 := cell_regrown fb16
    refine region_mixT (.q 0 (.q 2 (.br 1 8 (.br 3 8 (.br 4 8 (.p 5 (.p 6 (.p 7 (.b 8 .fin)))) (.b 4 (.p 5 (.p 6 (.p 7 .fin))))) (.b 3 (.b 4 (.p 5 (.p 6 (.p 7 .fin)))))) (.b 1 (.b 3 (.b 4 (.p 5 (.p 6 (.p 7 .fin))))))))) [9, 10] (by kernel_rfl) (by kernel_rfl) (fun _ _ _ _ _ h => h) ?_
    refine genT ?_; intro W4 hW
    have hE : Below w3.heap.size w3 W4 := by rw [hW]; exact below_drew (Below.refl _ _)
    have hS := Hd.mk hE
    clear hW
    replace b0 := Hd.mk (b0.out.below hE)
    replace eb0 := Hd.mk (Nat.le_trans eb0.out hE.size)
    replace b1 := Hd.mk (b1.out.below hE)
    replace eb1 := Hd.mk (Nat.le_trans eb1.out hE.size)
    replace hB := Hd.mk (below_then hB.out hE)
    clear hE
    refine mixT_q rfl ?_
    go_big_quiet_want; go_big_quiet_op; go_big_quiet_on; refine wpQuiet_nil ?_
    refine mixT_q rfl ?_
    go_big_quiet_want; go_big_quiet_op; go_big_quiet_on; refine wpQuiet_nil ?_
    refine ⟨?_, ?_⟩
    · refine stepM_of rfl ?_ (by rfl)
      go_wp2_with fail
      apply calls_gen; intro W5 hW
      have hE : Below W4.heap.size W4 W5 := by rw [hW]; (repeat (first | with_reducible refine below_alloc ?_ _ | with_reducible refine below_drew ?_)); exact Below.refl _ _
      clear hW
      replace b0 := Hd.mk (b0.out.below hE)
      replace eb0 := Hd.mk (Nat.le_trans eb0.out hE.size)
      replace b1 := Hd.mk (b1.out.below hE)
      replace eb1 := Hd.mk (Nat.le_trans eb1.out hE.size)
      replace hB := Hd.mk (below_then hB.out hE)
      replace hS := Hd.mk (below_then hS.out hE)
      clear hE
      refine (laws_toStore x _ _ (tStore.K_below hB.out hK0.out) HL0.out.1).mono ?_
      rintro e w6 ⟨cs_, rfl, hO, hX⟩
      have db0_s0 := Hd.mk eb0.out
      have db1_s0 := Hd.mk eb1.out
      have as0 := Hd.mk hB.out.size
      replace b0 := Hd.mk (b0.out.below hX)
      replace eb0 := Hd.mk (Nat.le_trans eb0.out hX.size)
      replace b1 := Hd.mk (b1.out.below hX)
      replace eb1 := Hd.mk (Nat.le_trans eb1.out hX.size)
      replace hB := Hd.mk (below_then hB.out hX)
      replace hS := Hd.mk (below_then hS.out hX)
      clear hX
      replace hO := Ty.O_bound _ hO
      obtain ⟨v_, u_, _, _, hcs, r1, r2, _⟩ := tStore_O.1 hO
      subst hcs
      obtain ⟨As0, cs0, hv_, hcs0, _⟩ := R_C r1
      subst hv_
      clear r1
      obtain ⟨As0B, cs0B, hv_, hcs0B, _⟩ := R_C r2
      subst hv_
      clear r2
      have s0 := Hd.mk (show tStore.O w6 (rng W5.heap.size w6.heap.size) x [Value.slice As0 x.cols.length cs0, Value.int IntKind.i64 x.ver, Value.slice As0B x.tabs.length cs0B] from hO); clear hO
      have es0 := Hd.mk (Nat.le_refl w6.heap.size)
      go_wp2_with fail
      refine ⟨cls_below hS.out, ?_⟩
      refine ⟨?_, ?_⟩
      · refine stepM_of rfl ?_ (by rfl)
        go_wp2_with fail
        apply calls_gen; intro W7 hW
        have hE : Below w6.heap.size w6 W7 := by rw [hW]; (repeat (first | with_reducible refine below_alloc ?_ _ | with_reducible refine below_drew ?_)); exact Below.refl _ _
        clear hW
        replace b0 := Hd.mk (b0.out.below hE)
        replace eb0 := Hd.mk (Nat.le_trans eb0.out hE.size)
        replace b1 := Hd.mk (b1.out.below hE)
        replace eb1 := Hd.mk (Nat.le_trans eb1.out hE.size)
        replace s0 := Hd.mk (Ty.O_below s0.out hE)
        replace es0 := Hd.mk (Nat.le_trans es0.out hE.size)
        replace hB := Hd.mk (below_then hB.out hE)
        replace hS := Hd.mk (below_then hS.out hE)
        clear hE
        refine (laws_toChange u _ _ (tChange.K_below hB.out hK1.out) HL1.out.1).mono ?_
        rintro e w8 ⟨cs_, rfl, hO, hX⟩
        have db0_s1 := Hd.mk eb0.out
        have db1_s1 := Hd.mk eb1.out
        have ds0_s1 := Hd.mk es0.out
        have as1 := Hd.mk hB.out.size
        replace b0 := Hd.mk (b0.out.below hX)
        replace eb0 := Hd.mk (Nat.le_trans eb0.out hX.size)
        replace b1 := Hd.mk (b1.out.below hX)
        replace eb1 := Hd.mk (Nat.le_trans eb1.out hX.size)
        replace s0 := Hd.mk (Ty.O_below s0.out hX)
        replace es0 := Hd.mk (Nat.le_trans es0.out hX.size)
        replace hB := Hd.mk (below_then hB.out hX)
        replace hS := Hd.mk (below_then hS.out hX)
        clear hX
        replace hO := Ty.O_bound _ hO
        obtain ⟨v_, u_, _, _, hcs, r1, r2, _⟩ := tChange_O.1 hO
        subst hcs
        obtain ⟨As1, cs1, hv_, hcs1, _⟩ := R_C r1
        subst hv_
        clear r1
        obtain ⟨As1B, cs1B, hv_, hcs1B, _⟩ := R_C r2
        subst hv_
        clear r2
        have s1 := Hd.mk (show tChange.O w8 (rng W7.heap.size w8.heap.size) u [Value.int IntKind.i64 u.table, Value.bool u.had, Value.bool u.has, Value.int IntKind.i64 u.old.id, Value.slice As1 u.old.cells.length cs1, Value.int IntKind.i64 u.new.id, Value.slice As1B u.new.cells.length cs1B] from hO); clear hO
        have es1 := Hd.mk (Nat.le_refl w8.heap.size)
        go_wp2_with fail
        refine ⟨cls_below hS.out, ?_⟩
        refine ⟨?_, ?_⟩
        · refine stepM_of rfl ?_ (by rfl)
          go_wp2_with fail
          apply calls_gen; intro W9 hW
          have hE : Below w8.heap.size w8 W9 := by rw [hW]; (repeat (first | with_reducible refine below_alloc ?_ _ | with_reducible refine below_drew ?_)); exact Below.refl _ _
          clear hW
          replace b0 := Hd.mk (b0.out.below hE)
          replace eb0 := Hd.mk (Nat.le_trans eb0.out hE.size)
          replace b1 := Hd.mk (b1.out.below hE)
          replace eb1 := Hd.mk (Nat.le_trans eb1.out hE.size)
          replace s0 := Hd.mk (Ty.O_below s0.out hE)
          replace es0 := Hd.mk (Nat.le_trans es0.out hE.size)
          replace s1 := Hd.mk (Ty.O_below s1.out hE)
          replace es1 := Hd.mk (Nat.le_trans es1.out hE.size)
          replace hB := Hd.mk (below_then hB.out hE)
          replace hS := Hd.mk (below_then hS.out hE)
          clear hE
          refine (spec_Back x _ u _ _ (tStore.O_K s0.out) (tChange.O_K s1.out) (by have := HL0.out.1; omega) (by have := HL1.out.1; omega)).mono ?_
          rintro e w10 ⟨cs_, rfl, hO, hX⟩
          have db0_w0 := Hd.mk eb0.out
          have db1_w0 := Hd.mk eb1.out
          have ds0_w0 := Hd.mk es0.out
          have ds1_w0 := Hd.mk es1.out
          have aw0 := Hd.mk hB.out.size
          replace b0 := Hd.mk (b0.out.below hX)
          replace eb0 := Hd.mk (Nat.le_trans eb0.out hX.size)
          replace b1 := Hd.mk (b1.out.below hX)
          replace eb1 := Hd.mk (Nat.le_trans eb1.out hX.size)
          replace s0 := Hd.mk (Ty.O_below s0.out hX)
          replace es0 := Hd.mk (Nat.le_trans es0.out hX.size)
          replace s1 := Hd.mk (Ty.O_below s1.out hX)
          replace es1 := Hd.mk (Nat.le_trans es1.out hX.size)
          replace hB := Hd.mk (below_then hB.out hX)
          replace hS := Hd.mk (below_then hS.out hX)
          clear hX
          rw [← Hy.out] at hO
          rw [← Hyb.out]
          replace hO := Ty.O_bound _ hO
          obtain ⟨v_, u_, _, _, hcs, r1, r2, _⟩ := tStore_O.1 hO
          subst hcs
          obtain ⟨Aw0, cw0, hv_, hcw0, _⟩ := R_C r1
          subst hv_
          clear r1
          obtain ⟨Aw0B, cw0B, hv_, hcw0B, _⟩ := R_C r2
          subst hv_
          clear r2
          have w0 := Hd.mk (show tStore.O w10 (rng W9.heap.size w10.heap.size) y [Value.slice Aw0 y.cols.length cw0, Value.int IntKind.i64 y.ver, Value.slice Aw0B y.tabs.length cw0B] from hO); clear hO
          have ew0 := Hd.mk (Nat.le_refl w10.heap.size)
          go_wp2_with fail
          refine ⟨cls_below hS.out, ?_⟩
          refine mixT_p rfl ?_
          go_big_quiet_want; go_big_quiet_op; go_big_quiet_on; refine wpQuiet_nil ?_
          refine mixT_p rfl ?_
          go_big_quiet_want; go_big_quiet_op; go_big_quiet_on; refine wpQuiet_nil ?_
          refine mixT_p rfl ?_
          go_big_quiet_want; go_big_quiet_op; go_big_quiet_on; refine wpQuiet_nil ?_
          refine mixT_b rfl ?_ (by rfl)
          go_wp2_with fail
          refine ⟨cls_below (below_alloc hS.out _), ?_⟩
          refine genT ?_; intro W11 hW
          have hE : Below w10.heap.size w10 W11 := by rw [hW]; exact below_alloc (Below.refl _ _) _
          have Bw0 := Hd.mk (show Blk W11 w10.heap.size #[Value.slice none 0 0, Value.int IntKind.i64 0, Value.slice none 0 0] 37 by rw [hW]; exact Blk.new _ _ _)
          have hz_ : w10.heap.size + 1 ≤ W11.heap.size := by rw [hW]; simp
          clear hW
          have db0_Bw0 := Hd.mk eb0.out
          have db1_Bw0 := Hd.mk eb1.out
          have ds0_Bw0 := Hd.mk es0.out
          have ds1_Bw0 := Hd.mk es1.out
          have dw0_Bw0 := Hd.mk ew0.out
          have aBw0 := Hd.mk hB.out.size
          replace b0 := Hd.mk (b0.out.below hE)
          replace eb0 := Hd.mk (Nat.le_trans eb0.out hE.size)
          replace b1 := Hd.mk (b1.out.below hE)
          replace eb1 := Hd.mk (Nat.le_trans eb1.out hE.size)
          replace s0 := Hd.mk (Ty.O_below s0.out hE)
          replace es0 := Hd.mk (Nat.le_trans es0.out hE.size)
          replace s1 := Hd.mk (Ty.O_below s1.out hE)
          replace es1 := Hd.mk (Nat.le_trans es1.out hE.size)
          replace w0 := Hd.mk (Ty.O_below w0.out hE)
          replace ew0 := Hd.mk (Nat.le_trans ew0.out hE.size)
          replace hB := Hd.mk (below_then hB.out hE)
          replace hS := Hd.mk (below_then hS.out hE)
          have eBw0 := Hd.mk hz_; clear hz_ hE
          refine mixT_fin ?_
          clear hS
          clear fb00 fb01 fb02 fb10 fb11 fb12 fb13 fb14 fb15 fb16 rfb00 rfb01 rfb02 rfb10 rfb11 rfb12 rfb13 rfb14 rfb15 rfb16
          have fb00 : W11.cell? ⟨w.heap.size, 0, none⟩ = some (Value.slice A0 x.cols.length c0) := b0.out.cell 0 rfl
          have fb01 : W11.cell? ⟨w.heap.size, 1, none⟩ = some (Value.int IntKind.i64 x.ver) := b0.out.cell 1 rfl
          have fb02 : W11.cell? ⟨w.heap.size, 2, none⟩ = some (Value.slice A0B x.tabs.length c0B) := b0.out.cell 2 rfl
          have fb10 : W11.cell? ⟨w.heap.size + 1, 0, none⟩ = some (Value.int IntKind.i64 u.table) := b1.out.cell 0 rfl
          have fb11 : W11.cell? ⟨w.heap.size + 1, 1, none⟩ = some (Value.bool u.had) := b1.out.cell 1 rfl
          have fb12 : W11.cell? ⟨w.heap.size + 1, 2, none⟩ = some (Value.bool u.has) := b1.out.cell 2 rfl
          have fb13 : W11.cell? ⟨w.heap.size + 1, 3, none⟩ = some (Value.int IntKind.i64 u.old.id) := b1.out.cell 3 rfl
          have fb14 : W11.cell? ⟨w.heap.size + 1, 4, none⟩ = some (Value.slice A1 u.old.cells.length c1) := b1.out.cell 4 rfl
          have fb15 : W11.cell? ⟨w.heap.size + 1, 5, none⟩ = some (Value.int IntKind.i64 u.new.id) := b1.out.cell 5 rfl
          have fb16 : W11.cell? ⟨w.heap.size + 1, 6, none⟩ = some (Value.slice A1B u.new.cells.length c1B) := b1.out.cell 6 rfl
          have fBw00 : W11.cell? ⟨w10.heap.size, 0, none⟩ = some (Value.slice none 0 0) := Bw0.out.cell 0 rfl
          have fBw01 : W11.cell? ⟨w10.heap.size, 1, none⟩ = some (Value.int IntKind.i64 0) := Bw0.out.cell 1 rfl
          have fBw02 : W11.cell? ⟨w10.heap.size, 2, none⟩ = some (Value.slice none 0 0) := Bw0.out.cell 2 rfl
          have fz_ := Bw0.out.frozen
          refine tail_b rfl ?_ (by rfl)
          go_wp2_with fail
          refine mixQ_n ?_
          refine tail_b rfl ?_ (by rfl)
          go_wp2_with fail
          refine mixQ_n ?_
          refine tail_nil ?_
          refine region_gen ?_; intro W hW
          clear fz_
          clear fb00 fb01 fb02 fb10 fb11 fb12 fb13 fb14 fb15 fb16 fBw00 fBw01 fBw02
          have eF : Fr W11 W (fun k => k = w10.heap.size) := by rw [hW]; (repeat (first | with_reducible refine Fr.setCell (S := fun k => k = w10.heap.size) ?_ _ (fun _ => rfl) _)); exact Fr.refl _ _
          have hsz_ := eF.size
          replace b0 := Hd.mk (b0.out.fr eF (fun h => by have := db0_Bw0.out; (try simp only at h); omega))
          replace eb0 := Hd.mk (Nat.le_trans eb0.out hsz_)
          replace b1 := Hd.mk (b1.out.fr eF (fun h => by have := db1_Bw0.out; (try simp only at h); omega))
          replace eb1 := Hd.mk (Nat.le_trans eb1.out hsz_)
          replace s0 := Hd.mk (Ty.O_fr s0.out eF (fun k hk hl h => by have := ds0_Bw0.out; have h1 := hk.1; have h2 := hk.2; (try simp only at h); omega))
          replace es0 := Hd.mk (Nat.le_trans es0.out hsz_)
          replace s1 := Hd.mk (Ty.O_fr s1.out eF (fun k hk hl h => by have := ds1_Bw0.out; have h1 := hk.1; have h2 := hk.2; (try simp only at h); omega))
          replace es1 := Hd.mk (Nat.le_trans es1.out hsz_)
          replace w0 := Hd.mk (Ty.O_fr w0.out eF (fun k hk hl h => by have := dw0_Bw0.out; have h1 := hk.1; have h2 := hk.2; (try simp only at h); omega))
          replace ew0 := Hd.mk (Nat.le_trans ew0.out hsz_)
          replace Bw0 := Hd.mk (show Blk W (w10.heap.size) #[Value.slice Aw0 y.cols.length cw0, Value.int IntKind.i64 y.ver, Value.slice Aw0B y.tabs.length cw0B] 37 by rw [hW]; exact (((Bw0.out.set 0 (Value.slice Aw0 y.cols.length cw0)).set 1 (Value.int IntKind.i64 y.ver)).set 2 (Value.slice Aw0B y.tabs.length cw0B)))
          replace eBw0 := Hd.mk (Nat.le_trans eBw0.out hsz_)
          replace hB := Hd.mk (((Fr.of_below hB.out (fun k => k = w10.heap.size)).then_ eF (fun k h _ => h)).below (fun k h => by have := aBw0.out; (try simp only at h); omega))
          clear hW eF hsz_
          rw [HRR.out]
          exact ⟨_, _, _, _, _, _, _, _, _, _, _, _, _, _, _, _, _, _, _, _, _, _, _, _, _, _, rfl, Bw0, b0, eb0, b1, eb1, w0, aBw0, eBw0, aw0, ew0, hB⟩
        · refine stepM_of rfl ?_ (by rfl)
          go_wp2_with fail
          refine ⟨cls_below (below_alloc hS.out _), ?_⟩
          refine genT ?_; intro W9 hW
          have hE : Below w8.heap.size w8 W9 := by rw [hW]; exact below_alloc (Below.refl _ _) _
          have Bw0 := Hd.mk (show Blk W9 w8.heap.size #[Value.slice none 0 0, Value.int IntKind.i64 0, Value.slice none 0 0] 37 by rw [hW]; exact Blk.new _ _ _)
          have hz_ : w8.heap.size + 1 ≤ W9.heap.size := by rw [hW]; simp
          clear hW
          have db0_Bw0 := Hd.mk eb0.out
          have db1_Bw0 := Hd.mk eb1.out
          have ds0_Bw0 := Hd.mk es0.out
          have ds1_Bw0 := Hd.mk es1.out
          have aBw0 := Hd.mk hB.out.size
          replace b0 := Hd.mk (b0.out.below hE)
          replace eb0 := Hd.mk (Nat.le_trans eb0.out hE.size)
          replace b1 := Hd.mk (b1.out.below hE)
          replace eb1 := Hd.mk (Nat.le_trans eb1.out hE.size)
          replace s0 := Hd.mk (Ty.O_below s0.out hE)
          replace es0 := Hd.mk (Nat.le_trans es0.out hE.size)
          replace s1 := Hd.mk (Ty.O_below s1.out hE)
          replace es1 := Hd.mk (Nat.le_trans es1.out hE.size)
          replace hB := Hd.mk (below_then hB.out hE)
          replace hS := Hd.mk (below_then hS.out hE)
          have eBw0 := Hd.mk hz_; clear hz_ hE
          refine mixT_b rfl ?_ (by rfl)
          go_wp2_with fail
          apply calls_gen; intro W10 hW
          have hE : Below W9.heap.size W9 W10 := by rw [hW]; (repeat (first | with_reducible refine below_alloc ?_ _ | with_reducible refine below_drew ?_)); exact Below.refl _ _
          clear hW
          replace b0 := Hd.mk (b0.out.below hE)
          replace eb0 := Hd.mk (Nat.le_trans eb0.out hE.size)
          replace b1 := Hd.mk (b1.out.below hE)
          replace eb1 := Hd.mk (Nat.le_trans eb1.out hE.size)
          replace s0 := Hd.mk (Ty.O_below s0.out hE)
          replace es0 := Hd.mk (Nat.le_trans es0.out hE.size)
          replace s1 := Hd.mk (Ty.O_below s1.out hE)
          replace es1 := Hd.mk (Nat.le_trans es1.out hE.size)
          replace Bw0 := Hd.mk (Bw0.out.below hE)
          replace eBw0 := Hd.mk (Nat.le_trans eBw0.out hE.size)
          replace hB := Hd.mk (below_then hB.out hE)
          replace hS := Hd.mk (below_then hS.out hE)
          clear hE
          refine (spec_Back x _ u _ _ (tStore.O_K s0.out) (tChange.O_K s1.out) (by have := HL0.out.1; omega) (by have := HL1.out.1; omega)).mono ?_
          rintro e w11 ⟨cs_, rfl, hO, hX⟩
          have db0_w0 := Hd.mk eb0.out
          have db1_w0 := Hd.mk eb1.out
          have ds0_w0 := Hd.mk es0.out
          have ds1_w0 := Hd.mk es1.out
          have dBw0_w0 := Hd.mk eBw0.out
          have aw0 := Hd.mk hB.out.size
          replace b0 := Hd.mk (b0.out.below hX)
          replace eb0 := Hd.mk (Nat.le_trans eb0.out hX.size)
          replace b1 := Hd.mk (b1.out.below hX)
          replace eb1 := Hd.mk (Nat.le_trans eb1.out hX.size)
          replace s0 := Hd.mk (Ty.O_below s0.out hX)
          replace es0 := Hd.mk (Nat.le_trans es0.out hX.size)
          replace s1 := Hd.mk (Ty.O_below s1.out hX)
          replace es1 := Hd.mk (Nat.le_trans es1.out hX.size)
          replace Bw0 := Hd.mk (Bw0.out.below hX)
          replace eBw0 := Hd.mk (Nat.le_trans eBw0.out hX.size)
          replace hB := Hd.mk (below_then hB.out hX)
          replace hS := Hd.mk (below_then hS.out hX)
          clear hX
          rw [← Hy.out] at hO
          rw [← Hyb.out]
          replace hO := Ty.O_bound _ hO
          obtain ⟨v_, u_, _, _, hcs, r1, r2, _⟩ := tStore_O.1 hO
          subst hcs
          obtain ⟨Aw0, cw0, hv_, hcw0, _⟩ := R_C r1
          subst hv_
          clear r1
          obtain ⟨Aw0B, cw0B, hv_, hcw0B, _⟩ := R_C r2
          subst hv_
          clear r2
          have w0 := Hd.mk (show tStore.O w11 (rng W10.heap.size w11.heap.size) y [Value.slice Aw0 y.cols.length cw0, Value.int IntKind.i64 y.ver, Value.slice Aw0B y.tabs.length cw0B] from hO); clear hO
          have ew0 := Hd.mk (Nat.le_refl w11.heap.size)
          go_wp2_with fail
          refine ⟨cls_below hS.out, ?_⟩
          refine mixT_p rfl ?_
          go_big_quiet_want; go_big_quiet_op; go_big_quiet_on; refine wpQuiet_nil ?_
          refine mixT_p rfl ?_
          go_big_quiet_want; go_big_quiet_op; go_big_quiet_on; refine wpQuiet_nil ?_
          refine mixT_p rfl ?_
          go_big_quiet_want; go_big_quiet_op; go_big_quiet_on; refine wpQuiet_nil ?_
          refine mixT_fin ?_
          clear hS
          clear fb00 fb01 fb02 fb10 fb11 fb12 fb13 fb14 fb15 fb16 rfb00 rfb01 rfb02 rfb10 rfb11 rfb12 rfb13 rfb14 rfb15 rfb16
          have fb00 : w11.cell? ⟨w.heap.size, 0, none⟩ = some (Value.slice A0 x.cols.length c0) := b0.out.cell 0 rfl
          have fb01 : w11.cell? ⟨w.heap.size, 1, none⟩ = some (Value.int IntKind.i64 x.ver) := b0.out.cell 1 rfl
          have fb02 : w11.cell? ⟨w.heap.size, 2, none⟩ = some (Value.slice A0B x.tabs.length c0B) := b0.out.cell 2 rfl
          have fb10 : w11.cell? ⟨w.heap.size + 1, 0, none⟩ = some (Value.int IntKind.i64 u.table) := b1.out.cell 0 rfl
          have fb11 : w11.cell? ⟨w.heap.size + 1, 1, none⟩ = some (Value.bool u.had) := b1.out.cell 1 rfl
          have fb12 : w11.cell? ⟨w.heap.size + 1, 2, none⟩ = some (Value.bool u.has) := b1.out.cell 2 rfl
          have fb13 : w11.cell? ⟨w.heap.size + 1, 3, none⟩ = some (Value.int IntKind.i64 u.old.id) := b1.out.cell 3 rfl
          have fb14 : w11.cell? ⟨w.heap.size + 1, 4, none⟩ = some (Value.slice A1 u.old.cells.length c1) := b1.out.cell 4 rfl
          have fb15 : w11.cell? ⟨w.heap.size + 1, 5, none⟩ = some (Value.int IntKind.i64 u.new.id) := b1.out.cell 5 rfl
          have fb16 : w11.cell? ⟨w.heap.size + 1, 6, none⟩ = some (Value.slice A1B u.new.cells.length c1B) := b1.out.cell 6 rfl
          have fBw00 : w11.cell? ⟨w8.heap.size, 0, none⟩ = some (Value.slice none 0 0) := Bw0.out.cell 0 rfl
          have fBw01 : w11.cell? ⟨w8.heap.size, 1, none⟩ = some (Value.int IntKind.i64 0) := Bw0.out.cell 1 rfl
          have fBw02 : w11.cell? ⟨w8.heap.size, 2, none⟩ = some (Value.slice none 0 0) := Bw0.out.cell 2 rfl
          have fz_ := Bw0.out.frozen
          refine tail_b rfl ?_ (by rfl)
          go_wp2_with fail
          refine mixQ_n ?_
          refine tail_b rfl ?_ (by rfl)
          go_wp2_with fail
          refine mixQ_n ?_
          refine tail_nil ?_
          refine region_gen ?_; intro W hW
          clear fz_
          clear fb00 fb01 fb02 fb10 fb11 fb12 fb13 fb14 fb15 fb16 fBw00 fBw01 fBw02
          have eF : Fr w11 W (fun k => k = w8.heap.size) := by rw [hW]; (repeat (first | with_reducible refine Fr.setCell (S := fun k => k = w8.heap.size) ?_ _ (fun _ => rfl) _)); exact Fr.refl _ _
          have hsz_ := eF.size
          replace b0 := Hd.mk (b0.out.fr eF (fun h => by have := db0_Bw0.out; (try simp only at h); omega))
          replace eb0 := Hd.mk (Nat.le_trans eb0.out hsz_)
          replace b1 := Hd.mk (b1.out.fr eF (fun h => by have := db1_Bw0.out; (try simp only at h); omega))
          replace eb1 := Hd.mk (Nat.le_trans eb1.out hsz_)
          replace s0 := Hd.mk (Ty.O_fr s0.out eF (fun k hk hl h => by have := ds0_Bw0.out; have h1 := hk.1; have h2 := hk.2; (try simp only at h); omega))
          replace es0 := Hd.mk (Nat.le_trans es0.out hsz_)
          replace s1 := Hd.mk (Ty.O_fr s1.out eF (fun k hk hl h => by have := ds1_Bw0.out; have h1 := hk.1; have h2 := hk.2; (try simp only at h); omega))
          replace es1 := Hd.mk (Nat.le_trans es1.out hsz_)
          replace w0 := Hd.mk (Ty.O_fr w0.out eF (fun k hk hl h => by have := dBw0_w0.out; have h1 := hk.1; have h2 := hk.2; (try simp only at h); omega))
          replace ew0 := Hd.mk (Nat.le_trans ew0.out hsz_)
          replace Bw0 := Hd.mk (show Blk W (w8.heap.size) #[Value.slice Aw0 y.cols.length cw0, Value.int IntKind.i64 y.ver, Value.slice Aw0B y.tabs.length cw0B] 37 by rw [hW]; exact (((Bw0.out.set 0 (Value.slice Aw0 y.cols.length cw0)).set 1 (Value.int IntKind.i64 y.ver)).set 2 (Value.slice Aw0B y.tabs.length cw0B)))
          replace eBw0 := Hd.mk (Nat.le_trans eBw0.out hsz_)
          replace hB := Hd.mk (((Fr.of_below hB.out (fun k => k = w8.heap.size)).then_ eF (fun k h _ => h)).below (fun k h => by have := aBw0.out; (try simp only at h); omega))
          clear hW eF hsz_
          rw [HRR.out]
          exact ⟨_, _, _, _, _, _, _, _, _, _, _, _, _, _, _, _, _, _, _, _, _, _, _, _, _, _, rfl, Bw0, b0, eb0, b1, eb1, w0, aBw0, eBw0, aw0, ew0, hB⟩
      · refine stepM_of rfl ?_ (by rfl)
        go_wp2_with fail
        refine ⟨cls_below (below_alloc hS.out _), ?_⟩
        refine genT ?_; intro W7 hW
        have hE : Below w6.heap.size w6 W7 := by rw [hW]; exact below_alloc (Below.refl _ _) _
        have Bw0 := Hd.mk (show Blk W7 w6.heap.size #[Value.slice none 0 0, Value.int IntKind.i64 0, Value.slice none 0 0] 37 by rw [hW]; exact Blk.new _ _ _)
        have hz_ : w6.heap.size + 1 ≤ W7.heap.size := by rw [hW]; simp
        clear hW
        have db0_Bw0 := Hd.mk eb0.out
        have db1_Bw0 := Hd.mk eb1.out
        have ds0_Bw0 := Hd.mk es0.out
        have aBw0 := Hd.mk hB.out.size
        replace b0 := Hd.mk (b0.out.below hE)
        replace eb0 := Hd.mk (Nat.le_trans eb0.out hE.size)
        replace b1 := Hd.mk (b1.out.below hE)
        replace eb1 := Hd.mk (Nat.le_trans eb1.out hE.size)
        replace s0 := Hd.mk (Ty.O_below s0.out hE)
        replace es0 := Hd.mk (Nat.le_trans es0.out hE.size)
        replace hB := Hd.mk (below_then hB.out hE)
        replace hS := Hd.mk (below_then hS.out hE)
        have eBw0 := Hd.mk hz_; clear hz_ hE
        refine mixT_b rfl ?_ (by rfl)
        go_wp2_with fail
        apply calls_gen; intro W8 hW
        have hE : Below W7.heap.size W7 W8 := by rw [hW]; (repeat (first | with_reducible refine below_alloc ?_ _ | with_reducible refine below_drew ?_)); exact Below.refl _ _
        clear hW
        replace b0 := Hd.mk (b0.out.below hE)
        replace eb0 := Hd.mk (Nat.le_trans eb0.out hE.size)
        replace b1 := Hd.mk (b1.out.below hE)
        replace eb1 := Hd.mk (Nat.le_trans eb1.out hE.size)
        replace s0 := Hd.mk (Ty.O_below s0.out hE)
        replace es0 := Hd.mk (Nat.le_trans es0.out hE.size)
        replace Bw0 := Hd.mk (Bw0.out.below hE)
        replace eBw0 := Hd.mk (Nat.le_trans eBw0.out hE.size)
        replace hB := Hd.mk (below_then hB.out hE)
        replace hS := Hd.mk (below_then hS.out hE)
        clear hE
        refine (laws_toChange u _ _ (tChange.K_below hB.out hK1.out) HL1.out.1).mono ?_
        rintro e w9 ⟨cs_, rfl, hO, hX⟩
        have db0_s1 := Hd.mk eb0.out
        have db1_s1 := Hd.mk eb1.out
        have ds0_s1 := Hd.mk es0.out
        have dBw0_s1 := Hd.mk eBw0.out
        have as1 := Hd.mk hB.out.size
        replace b0 := Hd.mk (b0.out.below hX)
        replace eb0 := Hd.mk (Nat.le_trans eb0.out hX.size)
        replace b1 := Hd.mk (b1.out.below hX)
        replace eb1 := Hd.mk (Nat.le_trans eb1.out hX.size)
        replace s0 := Hd.mk (Ty.O_below s0.out hX)
        replace es0 := Hd.mk (Nat.le_trans es0.out hX.size)
        replace Bw0 := Hd.mk (Bw0.out.below hX)
        replace eBw0 := Hd.mk (Nat.le_trans eBw0.out hX.size)
        replace hB := Hd.mk (below_then hB.out hX)
        replace hS := Hd.mk (below_then hS.out hX)
        clear hX
        replace hO := Ty.O_bound _ hO
        obtain ⟨v_, u_, _, _, hcs, r1, r2, _⟩ := tChange_O.1 hO
        subst hcs
        obtain ⟨As1, cs1, hv_, hcs1, _⟩ := R_C r1
        subst hv_
        clear r1
        obtain ⟨As1B, cs1B, hv_, hcs1B, _⟩ := R_C r2
        subst hv_
        clear r2
        have s1 := Hd.mk (show tChange.O w9 (rng W8.heap.size w9.heap.size) u [Value.int IntKind.i64 u.table, Value.bool u.had, Value.bool u.has, Value.int IntKind.i64 u.old.id, Value.slice As1 u.old.cells.length cs1, Value.int IntKind.i64 u.new.id, Value.slice As1B u.new.cells.length cs1B] from hO); clear hO
        have es1 := Hd.mk (Nat.le_refl w9.heap.size)
        go_wp2_with fail
        refine ⟨cls_below hS.out, ?_⟩
        refine mixT_b rfl ?_ (by rfl)
        go_wp2_with fail
        apply calls_gen; intro W10 hW
        have hE : Below w9.heap.size w9 W10 := by rw [hW]; (repeat (first | with_reducible refine below_alloc ?_ _ | with_reducible refine below_drew ?_)); exact Below.refl _ _
        clear hW
        replace b0 := Hd.mk (b0.out.below hE)
        replace eb0 := Hd.mk (Nat.le_trans eb0.out hE.size)
        replace b1 := Hd.mk (b1.out.below hE)
        replace eb1 := Hd.mk (Nat.le_trans eb1.out hE.size)
        replace s0 := Hd.mk (Ty.O_below s0.out hE)
        replace es0 := Hd.mk (Nat.le_trans es0.out hE.size)
        replace Bw0 := Hd.mk (Bw0.out.below hE)
        replace eBw0 := Hd.mk (Nat.le_trans eBw0.out hE.size)
        replace s1 := Hd.mk (Ty.O_below s1.out hE)
        replace es1 := Hd.mk (Nat.le_trans es1.out hE.size)
        replace hB := Hd.mk (below_then hB.out hE)
        replace hS := Hd.mk (below_then hS.out hE)
        clear hE
        refine (spec_Back x _ u _ _ (tStore.O_K s0.out) (tChange.O_K s1.out) (by have := HL0.out.1; omega) (by have := HL1.out.1; omega)).mono ?_
        rintro e w11 ⟨cs_, rfl, hO, hX⟩
        have db0_w0 := Hd.mk eb0.out
        have db1_w0 := Hd.mk eb1.out
        have ds0_w0 := Hd.mk es0.out
        have dBw0_w0 := Hd.mk eBw0.out
        have ds1_w0 := Hd.mk es1.out
        have aw0 := Hd.mk hB.out.size
        replace b0 := Hd.mk (b0.out.below hX)
        replace eb0 := Hd.mk (Nat.le_trans eb0.out hX.size)
        replace b1 := Hd.mk (b1.out.below hX)
        replace eb1 := Hd.mk (Nat.le_trans eb1.out hX.size)
        replace s0 := Hd.mk (Ty.O_below s0.out hX)
        replace es0 := Hd.mk (Nat.le_trans es0.out hX.size)
        replace Bw0 := Hd.mk (Bw0.out.below hX)
        replace eBw0 := Hd.mk (Nat.le_trans eBw0.out hX.size)
        replace s1 := Hd.mk (Ty.O_below s1.out hX)
        replace es1 := Hd.mk (Nat.le_trans es1.out hX.size)
        replace hB := Hd.mk (below_then hB.out hX)
        replace hS := Hd.mk (below_then hS.out hX)
        clear hX
        rw [← Hy.out] at hO
        rw [← Hyb.out]
        replace hO := Ty.O_bound _ hO
        obtain ⟨v_, u_, _, _, hcs, r1, r2, _⟩ := tStore_O.1 hO
        subst hcs
        obtain ⟨Aw0, cw0, hv_, hcw0, _⟩ := R_C r1
        subst hv_
        clear r1
        obtain ⟨Aw0B, cw0B, hv_, hcw0B, _⟩ := R_C r2
        subst hv_
        clear r2
        have w0 := Hd.mk (show tStore.O w11 (rng W10.heap.size w11.heap.size) y [Value.slice Aw0 y.cols.length cw0, Value.int IntKind.i64 y.ver, Value.slice Aw0B y.tabs.length cw0B] from hO); clear hO
        have ew0 := Hd.mk (Nat.le_refl w11.heap.size)
        go_wp2_with fail
        refine ⟨cls_below hS.out, ?_⟩
        refine mixT_p rfl ?_
        go_big_quiet_want; go_big_quiet_op; go_big_quiet_on; refine wpQuiet_nil ?_
        refine mixT_p rfl ?_
        go_big_quiet_want; go_big_quiet_op; go_big_quiet_on; refine wpQuiet_nil ?_
        refine mixT_p rfl ?_
        go_big_quiet_want; go_big_quiet_op; go_big_quiet_on; refine wpQuiet_nil ?_
        refine mixT_fin ?_
        clear hS
        clear fb00 fb01 fb02 fb10 fb11 fb12 fb13 fb14 fb15 fb16 rfb00 rfb01 rfb02 rfb10 rfb11 rfb12 rfb13 rfb14 rfb15 rfb16
        have fb00 : w11.cell? ⟨w.heap.size, 0, none⟩ = some (Value.slice A0 x.cols.length c0) := b0.out.cell 0 rfl
        have fb01 : w11.cell? ⟨w.heap.size, 1, none⟩ = some (Value.int IntKind.i64 x.ver) := b0.out.cell 1 rfl
        have fb02 : w11.cell? ⟨w.heap.size, 2, none⟩ = some (Value.slice A0B x.tabs.length c0B) := b0.out.cell 2 rfl
        have fb10 : w11.cell? ⟨w.heap.size + 1, 0, none⟩ = some (Value.int IntKind.i64 u.table) := b1.out.cell 0 rfl
        have fb11 : w11.cell? ⟨w.heap.size + 1, 1, none⟩ = some (Value.bool u.had) := b1.out.cell 1 rfl
        have fb12 : w11.cell? ⟨w.heap.size + 1, 2, none⟩ = some (Value.bool u.has) := b1.out.cell 2 rfl
        have fb13 : w11.cell? ⟨w.heap.size + 1, 3, none⟩ = some (Value.int IntKind.i64 u.old.id) := b1.out.cell 3 rfl
        have fb14 : w11.cell? ⟨w.heap.size + 1, 4, none⟩ = some (Value.slice A1 u.old.cells.length c1) := b1.out.cell 4 rfl
        have fb15 : w11.cell? ⟨w.heap.size + 1, 5, none⟩ = some (Value.int IntKind.i64 u.new.id) := b1.out.cell 5 rfl
        have fb16 : w11.cell? ⟨w.heap.size + 1, 6, none⟩ = some (Value.slice A1B u.new.cells.length c1B) := b1.out.cell 6 rfl
        have fBw00 : w11.cell? ⟨w6.heap.size, 0, none⟩ = some (Value.slice none 0 0) := Bw0.out.cell 0 rfl
        have fBw01 : w11.cell? ⟨w6.heap.size, 1, none⟩ = some (Value.int IntKind.i64 0) := Bw0.out.cell 1 rfl
        have fBw02 : w11.cell? ⟨w6.heap.size, 2, none⟩ = some (Value.slice none 0 0) := Bw0.out.cell 2 rfl
        have fz_ := Bw0.out.frozen
        refine tail_b rfl ?_ (by rfl)
        go_wp2_with fail
        refine mixQ_n ?_
        refine tail_b rfl ?_ (by rfl)
        go_wp2_with fail
        refine mixQ_n ?_
        refine tail_nil ?_
        refine region_gen ?_; intro W hW
        clear fz_
        clear fb00 fb01 fb02 fb10 fb11 fb12 fb13 fb14 fb15 fb16 fBw00 fBw01 fBw02
        have eF : Fr w11 W (fun k => k = w6.heap.size) := by rw [hW]; (repeat (first | with_reducible refine Fr.setCell (S := fun k => k = w6.heap.size) ?_ _ (fun _ => rfl) _)); exact Fr.refl _ _
        have hsz_ := eF.size
        replace b0 := Hd.mk (b0.out.fr eF (fun h => by have := db0_Bw0.out; (try simp only at h); omega))
        replace eb0 := Hd.mk (Nat.le_trans eb0.out hsz_)
        replace b1 := Hd.mk (b1.out.fr eF (fun h => by have := db1_Bw0.out; (try simp only at h); omega))
        replace eb1 := Hd.mk (Nat.le_trans eb1.out hsz_)
        replace s0 := Hd.mk (Ty.O_fr s0.out eF (fun k hk hl h => by have := ds0_Bw0.out; have h1 := hk.1; have h2 := hk.2; (try simp only at h); omega))
        replace es0 := Hd.mk (Nat.le_trans es0.out hsz_)
        replace s1 := Hd.mk (Ty.O_fr s1.out eF (fun k hk hl h => by have := dBw0_s1.out; have h1 := hk.1; have h2 := hk.2; (try simp only at h); omega))
        replace es1 := Hd.mk (Nat.le_trans es1.out hsz_)
        replace w0 := Hd.mk (Ty.O_fr w0.out eF (fun k hk hl h => by have := dBw0_w0.out; have h1 := hk.1; have h2 := hk.2; (try simp only at h); omega))
        replace ew0 := Hd.mk (Nat.le_trans ew0.out hsz_)
        replace Bw0 := Hd.mk (show Blk W (w6.heap.size) #[Value.slice Aw0 y.cols.length cw0, Value.int IntKind.i64 y.ver, Value.slice Aw0B y.tabs.length cw0B] 37 by rw [hW]; exact (((Bw0.out.set 0 (Value.slice Aw0 y.cols.length cw0)).set 1 (Value.int IntKind.i64 y.ver)).set 2 (Value.slice Aw0B y.tabs.length cw0B)))
        replace eBw0 := Hd.mk (Nat.le_trans eBw0.out hsz_)
        replace hB := Hd.mk (((Fr.of_below hB.out (fun k => k = w6.heap.size)).then_ eF (fun k h _ => h)).below (fun k h => by have := aBw0.out; (try simp only at h); omega))
        clear hW eF hsz_
        rw [HRR.out]
        exact ⟨_, _, _, _, _, _, _, _, _, _, _, _, _, _, _, _, _, _, _, _, _, _, _, _, _, _, rfl, Bw0, b0, eb0, b1, eb1, w0, aBw0, eBw0, aw0, ew0, hB⟩
    · refine stepM_of rfl ?_ (by rfl)
      go_wp2_with fail
      refine ⟨cls_below (below_alloc hS.out _), ?_⟩
      refine genT ?_; intro W5 hW
      have hE : Below W4.heap.size W4 W5 := by rw [hW]; exact below_alloc (Below.refl _ _) _
      have Bw0 := Hd.mk (show Blk W5 W4.heap.size #[Value.slice none 0 0, Value.int IntKind.i64 0, Value.slice none 0 0] 37 by rw [hW]; exact Blk.new _ _ _)
      have hz_ : W4.heap.size + 1 ≤ W5.heap.size := by rw [hW]; simp
      clear hW
      have db0_Bw0 := Hd.mk eb0.out
      have db1_Bw0 := Hd.mk eb1.out
      have aBw0 := Hd.mk hB.out.size
      replace b0 := Hd.mk (b0.out.below hE)
      replace eb0 := Hd.mk (Nat.le_trans eb0.out hE.size)
      replace b1 := Hd.mk (b1.out.below hE)
      replace eb1 := Hd.mk (Nat.le_trans eb1.out hE.size)
      replace hB := Hd.mk (below_then hB.out hE)
      replace hS := Hd.mk (below_then hS.out hE)
      have eBw0 := Hd.mk hz_; clear hz_ hE
      refine mixT_b rfl ?_ (by rfl)
      go_wp2_with fail
      apply calls_gen; intro W6 hW
      have hE : Below W5.heap.size W5 W6 := by rw [hW]; (repeat (first | with_reducible refine below_alloc ?_ _ | with_reducible refine below_drew ?_)); exact Below.refl _ _
      clear hW
      replace b0 := Hd.mk (b0.out.below hE)
      replace eb0 := Hd.mk (Nat.le_trans eb0.out hE.size)
      replace b1 := Hd.mk (b1.out.below hE)
      replace eb1 := Hd.mk (Nat.le_trans eb1.out hE.size)
      replace Bw0 := Hd.mk (Bw0.out.below hE)
      replace eBw0 := Hd.mk (Nat.le_trans eBw0.out hE.size)
      replace hB := Hd.mk (below_then hB.out hE)
      replace hS := Hd.mk (below_then hS.out hE)
      clear hE
      refine (laws_toStore x _ _ (tStore.K_below hB.out hK0.out) HL0.out.1).mono ?_
      rintro e w7 ⟨cs_, rfl, hO, hX⟩
      have db0_s0 := Hd.mk eb0.out
      have db1_s0 := Hd.mk eb1.out
      have dBw0_s0 := Hd.mk eBw0.out
      have as0 := Hd.mk hB.out.size
      replace b0 := Hd.mk (b0.out.below hX)
      replace eb0 := Hd.mk (Nat.le_trans eb0.out hX.size)
      replace b1 := Hd.mk (b1.out.below hX)
      replace eb1 := Hd.mk (Nat.le_trans eb1.out hX.size)
      replace Bw0 := Hd.mk (Bw0.out.below hX)
      replace eBw0 := Hd.mk (Nat.le_trans eBw0.out hX.size)
      replace hB := Hd.mk (below_then hB.out hX)
      replace hS := Hd.mk (below_then hS.out hX)
      clear hX
      replace hO := Ty.O_bound _ hO
      obtain ⟨v_, u_, _, _, hcs, r1, r2, _⟩ := tStore_O.1 hO
      subst hcs
      obtain ⟨As0, cs0, hv_, hcs0, _⟩ := R_C r1
      subst hv_
      clear r1
      obtain ⟨As0B, cs0B, hv_, hcs0B, _⟩ := R_C r2
      subst hv_
      clear r2
      have s0 := Hd.mk (show tStore.O w7 (rng W6.heap.size w7.heap.size) x [Value.slice As0 x.cols.length cs0, Value.int IntKind.i64 x.ver, Value.slice As0B x.tabs.length cs0B] from hO); clear hO
      have es0 := Hd.mk (Nat.le_refl w7.heap.size)
      go_wp2_with fail
      refine ⟨cls_below hS.out, ?_⟩
      refine mixT_b rfl ?_ (by rfl)
      go_wp2_with fail
      apply calls_gen; intro W8 hW
      have hE : Below w7.heap.size w7 W8 := by rw [hW]; (repeat (first | with_reducible refine below_alloc ?_ _ | with_reducible refine below_drew ?_)); exact Below.refl _ _
      clear hW
      replace b0 := Hd.mk (b0.out.below hE)
      replace eb0 := Hd.mk (Nat.le_trans eb0.out hE.size)
      replace b1 := Hd.mk (b1.out.below hE)
      replace eb1 := Hd.mk (Nat.le_trans eb1.out hE.size)
      replace Bw0 := Hd.mk (Bw0.out.below hE)
      replace eBw0 := Hd.mk (Nat.le_trans eBw0.out hE.size)
      replace s0 := Hd.mk (Ty.O_below s0.out hE)
      replace es0 := Hd.mk (Nat.le_trans es0.out hE.size)
      replace hB := Hd.mk (below_then hB.out hE)
      replace hS := Hd.mk (below_then hS.out hE)
      clear hE
      refine (laws_toChange u _ _ (tChange.K_below hB.out hK1.out) HL1.out.1).mono ?_
      rintro e w9 ⟨cs_, rfl, hO, hX⟩
      have db0_s1 := Hd.mk eb0.out
      have db1_s1 := Hd.mk eb1.out
      have dBw0_s1 := Hd.mk eBw0.out
      have ds0_s1 := Hd.mk es0.out
      have as1 := Hd.mk hB.out.size
      replace b0 := Hd.mk (b0.out.below hX)
      replace eb0 := Hd.mk (Nat.le_trans eb0.out hX.size)
      replace b1 := Hd.mk (b1.out.below hX)
      replace eb1 := Hd.mk (Nat.le_trans eb1.out hX.size)
      replace Bw0 := Hd.mk (Bw0.out.below hX)
      replace eBw0 := Hd.mk (Nat.le_trans eBw0.out hX.size)
      replace s0 := Hd.mk (Ty.O_below s0.out hX)
      replace es0 := Hd.mk (Nat.le_trans es0.out hX.size)
      replace hB := Hd.mk (below_then hB.out hX)
      replace hS := Hd.mk (below_then hS.out hX)
      clear hX
      replace hO := Ty.O_bound _ hO
      obtain ⟨v_, u_, _, _, hcs, r1, r2, _⟩ := tChange_O.1 hO
      subst hcs
      obtain ⟨As1, cs1, hv_, hcs1, _⟩ := R_C r1
      subst hv_
      clear r1
      obtain ⟨As1B, cs1B, hv_, hcs1B, _⟩ := R_C r2
      subst hv_
      clear r2
      have s1 := Hd.mk (show tChange.O w9 (rng W8.heap.size w9.heap.size) u [Value.int IntKind.i64 u.table, Value.bool u.had, Value.bool u.has, Value.int IntKind.i64 u.old.id, Value.slice As1 u.old.cells.length cs1, Value.int IntKind.i64 u.new.id, Value.slice As1B u.new.cells.length cs1B] from hO); clear hO
      have es1 := Hd.mk (Nat.le_refl w9.heap.size)
      go_wp2_with fail
      refine ⟨cls_below hS.out, ?_⟩
      refine mixT_b rfl ?_ (by rfl)
      go_wp2_with fail
      apply calls_gen; intro W10 hW
      have hE : Below w9.heap.size w9 W10 := by rw [hW]; (repeat (first | with_reducible refine below_alloc ?_ _ | with_reducible refine below_drew ?_)); exact Below.refl _ _
      clear hW
      replace b0 := Hd.mk (b0.out.below hE)
      replace eb0 := Hd.mk (Nat.le_trans eb0.out hE.size)
      replace b1 := Hd.mk (b1.out.below hE)
      replace eb1 := Hd.mk (Nat.le_trans eb1.out hE.size)
      replace Bw0 := Hd.mk (Bw0.out.below hE)
      replace eBw0 := Hd.mk (Nat.le_trans eBw0.out hE.size)
      replace s0 := Hd.mk (Ty.O_below s0.out hE)
      replace es0 := Hd.mk (Nat.le_trans es0.out hE.size)
      replace s1 := Hd.mk (Ty.O_below s1.out hE)
      replace es1 := Hd.mk (Nat.le_trans es1.out hE.size)
      replace hB := Hd.mk (below_then hB.out hE)
      replace hS := Hd.mk (below_then hS.out hE)
      clear hE
      refine (spec_Back x _ u _ _ (tStore.O_K s0.out) (tChange.O_K s1.out) (by have := HL0.out.1; omega) (by have := HL1.out.1; omega)).mono ?_
      rintro e w11 ⟨cs_, rfl, hO, hX⟩
      have db0_w0 := Hd.mk eb0.out
      have db1_w0 := Hd.mk eb1.out
      have dBw0_w0 := Hd.mk eBw0.out
      have ds0_w0 := Hd.mk es0.out
      have ds1_w0 := Hd.mk es1.out
      have aw0 := Hd.mk hB.out.size
      replace b0 := Hd.mk (b0.out.below hX)
      replace eb0 := Hd.mk (Nat.le_trans eb0.out hX.size)
      replace b1 := Hd.mk (b1.out.below hX)
      replace eb1 := Hd.mk (Nat.le_trans eb1.out hX.size)
      replace Bw0 := Hd.mk (Bw0.out.below hX)
      replace eBw0 := Hd.mk (Nat.le_trans eBw0.out hX.size)
      replace s0 := Hd.mk (Ty.O_below s0.out hX)
      replace es0 := Hd.mk (Nat.le_trans es0.out hX.size)
      replace s1 := Hd.mk (Ty.O_below s1.out hX)
      replace es1 := Hd.mk (Nat.le_trans es1.out hX.size)
      replace hB := Hd.mk (below_then hB.out hX)
      replace hS := Hd.mk (below_then hS.out hX)
      clear hX
      rw [← Hy.out] at hO
      rw [← Hyb.out]
      replace hO := Ty.O_bound _ hO
      obtain ⟨v_, u_, _, _, hcs, r1, r2, _⟩ := tStore_O.1 hO
      subst hcs
      obtain ⟨Aw0, cw0, hv_, hcw0, _⟩ := R_C r1
      subst hv_
      clear r1
      obtain ⟨Aw0B, cw0B, hv_, hcw0B, _⟩ := R_C r2
      subst hv_
      clear r2
      have w0 := Hd.mk (show tStore.O w11 (rng W10.heap.size w11.heap.size) y [Value.slice Aw0 y.cols.length cw0, Value.int IntKind.i64 y.ver, Value.slice Aw0B y.tabs.length cw0B] from hO); clear hO
      have ew0 := Hd.mk (Nat.le_refl w11.heap.size)
      go_wp2_with fail
      refine ⟨cls_below hS.out, ?_⟩
      refine mixT_p rfl ?_
      go_big_quiet_want; go_big_quiet_op; go_big_quiet_on; refine wpQuiet_nil ?_
      refine mixT_p rfl ?_
      go_big_quiet_want; go_big_quiet_op; go_big_quiet_on; refine wpQuiet_nil ?_
      refine mixT_p rfl ?_
      go_big_quiet_want; go_big_quiet_op; go_big_quiet_on; refine wpQuiet_nil ?_
      refine mixT_fin ?_
      clear hS
      clear fb00 fb01 fb02 fb10 fb11 fb12 fb13 fb14 fb15 fb16 rfb00 rfb01 rfb02 rfb10 rfb11 rfb12 rfb13 rfb14 rfb15 rfb16
      have fb00 : w11.cell? ⟨w.heap.size, 0, none⟩ = some (Value.slice A0 x.cols.length c0) := b0.out.cell 0 rfl
      have fb01 : w11.cell? ⟨w.heap.size, 1, none⟩ = some (Value.int IntKind.i64 x.ver) := b0.out.cell 1 rfl
      have fb02 : w11.cell? ⟨w.heap.size, 2, none⟩ = some (Value.slice A0B x.tabs.length c0B) := b0.out.cell 2 rfl
      have fb10 : w11.cell? ⟨w.heap.size + 1, 0, none⟩ = some (Value.int IntKind.i64 u.table) := b1.out.cell 0 rfl
      have fb11 : w11.cell? ⟨w.heap.size + 1, 1, none⟩ = some (Value.bool u.had) := b1.out.cell 1 rfl
      have fb12 : w11.cell? ⟨w.heap.size + 1, 2, none⟩ = some (Value.bool u.has) := b1.out.cell 2 rfl
      have fb13 : w11.cell? ⟨w.heap.size + 1, 3, none⟩ = some (Value.int IntKind.i64 u.old.id) := b1.out.cell 3 rfl
      have fb14 : w11.cell? ⟨w.heap.size + 1, 4, none⟩ = some (Value.slice A1 u.old.cells.length c1) := b1.out.cell 4 rfl
      have fb15 : w11.cell? ⟨w.heap.size + 1, 5, none⟩ = some (Value.int IntKind.i64 u.new.id) := b1.out.cell 5 rfl
      have fb16 : w11.cell? ⟨w.heap.size + 1, 6, none⟩ = some (Value.slice A1B u.new.cells.length c1B) := b1.out.cell 6 rfl
      have fBw00 : w11.cell? ⟨W4.heap.size, 0, none⟩ = some (Value.slice none 0 0) := Bw0.out.cell 0 rfl
      have fBw01 : w11.cell? ⟨W4.heap.size, 1, none⟩ = some (Value.int IntKind.i64 0) := Bw0.out.cell 1 rfl
      have fBw02 : w11.cell? ⟨W4.heap.size, 2, none⟩ = some (Value.slice none 0 0) := Bw0.out.cell 2 rfl
      have fz_ := Bw0.out.frozen
      refine tail_b rfl ?_ (by rfl)
      go_wp2_with fail
      refine mixQ_n ?_
      refine tail_b rfl ?_ (by rfl)
      go_wp2_with fail
      refine mixQ_n ?_
      refine tail_nil ?_
      refine region_gen ?_; intro W hW
      clear fz_
      clear fb00 fb01 fb02 fb10 fb11 fb12 fb13 fb14 fb15 fb16 fBw00 fBw01 fBw02
      have eF : Fr w11 W (fun k => k = W4.heap.size) := by rw [hW]; (repeat (first | with_reducible refine Fr.setCell (S := fun k => k = W4.heap.size) ?_ _ (fun _ => rfl) _)); exact Fr.refl _ _
      have hsz_ := eF.size
      replace b0 := Hd.mk (b0.out.fr eF (fun h => by have := db0_Bw0.out; (try simp only at h); omega))
      replace eb0 := Hd.mk (Nat.le_trans eb0.out hsz_)
      replace b1 := Hd.mk (b1.out.fr eF (fun h => by have := db1_Bw0.out; (try simp only at h); omega))
      replace eb1 := Hd.mk (Nat.le_trans eb1.out hsz_)
      replace s0 := Hd.mk (Ty.O_fr s0.out eF (fun k hk hl h => by have := dBw0_s0.out; have h1 := hk.1; have h2 := hk.2; (try simp only at h); omega))
      replace es0 := Hd.mk (Nat.le_trans es0.out hsz_)
      replace s1 := Hd.mk (Ty.O_fr s1.out eF (fun k hk hl h => by have := dBw0_s1.out; have h1 := hk.1; have h2 := hk.2; (try simp only at h); omega))
      replace es1 := Hd.mk (Nat.le_trans es1.out hsz_)
      replace w0 := Hd.mk (Ty.O_fr w0.out eF (fun k hk hl h => by have := dBw0_w0.out; have h1 := hk.1; have h2 := hk.2; (try simp only at h); omega))
      replace ew0 := Hd.mk (Nat.le_trans ew0.out hsz_)
      replace Bw0 := Hd.mk (show Blk W (W4.heap.size) #[Value.slice Aw0 y.cols.length cw0, Value.int IntKind.i64 y.ver, Value.slice Aw0B y.tabs.length cw0B] 37 by rw [hW]; exact (((Bw0.out.set 0 (Value.slice Aw0 y.cols.length cw0)).set 1 (Value.int IntKind.i64 y.ver)).set 2 (Value.slice Aw0B y.tabs.length cw0B)))
      replace eBw0 := Hd.mk (Nat.le_trans eBw0.out hsz_)
      replace hB := Hd.mk (((Fr.of_below hB.out (fun k => k = W4.heap.size)).then_ eF (fun k h _ => h)).below (fun k h => by have := aBw0.out; (try simp only at h); omega))
      clear hW eF hsz_
      rw [HRR.out]
      exact ⟨_, _, _, _, _, _, _, _, _, _, _, _, _, _, _, _, _, _, _, _, _, _, _, _, _, _, rfl, Bw0, b0, eb0, b1, eb1, w0, aBw0, eBw0, aw0, ew0, hB⟩
  rw [HRR.out]
  clear HRR
  rintro a w1 ⟨p, a0, b0, Aw0, cw0, Aw0B, cw0B, u5, u17, u18, u19, u20, u21, u22, u23, u24, u25, u26, u28, u29, u30, u31, u32, u27, u33, u34, rfl, Bw0, b0, eb0, b1, eb1, w0, aBw0, eBw0, aw0, ew0, hB1⟩
  replace hB := hB1; clear hB1
  have fb00 : w1.cell? ⟨w.heap.size, 0, none⟩ = some (Value.slice A0 x.cols.length c0) := b0.out.cell 0 rfl
  have fb01 : w1.cell? ⟨w.heap.size, 1, none⟩ = some (Value.int IntKind.i64 x.ver) := b0.out.cell 1 rfl
  have fb02 : w1.cell? ⟨w.heap.size, 2, none⟩ = some (Value.slice A0B x.tabs.length c0B) := b0.out.cell 2 rfl
  have fb10 : w1.cell? ⟨w.heap.size + 1, 0, none⟩ = some (Value.int IntKind.i64 u.table) := b1.out.cell 0 rfl
  have fb11 : w1.cell? ⟨w.heap.size + 1, 1, none⟩ = some (Value.bool u.had) := b1.out.cell 1 rfl
  have fb12 : w1.cell? ⟨w.heap.size + 1, 2, none⟩ = some (Value.bool u.has) := b1.out.cell 2 rfl
  have fb13 : w1.cell? ⟨w.heap.size + 1, 3, none⟩ = some (Value.int IntKind.i64 u.old.id) := b1.out.cell 3 rfl
  have fb14 : w1.cell? ⟨w.heap.size + 1, 4, none⟩ = some (Value.slice A1 u.old.cells.length c1) := b1.out.cell 4 rfl
  have fb15 : w1.cell? ⟨w.heap.size + 1, 5, none⟩ = some (Value.int IntKind.i64 u.new.id) := b1.out.cell 5 rfl
  have fb16 : w1.cell? ⟨w.heap.size + 1, 6, none⟩ = some (Value.slice A1B u.new.cells.length c1B) := b1.out.cell 6 rfl
  have fBw00 : w1.cell? ⟨p, 0, none⟩ = some (Value.slice Aw0 y.cols.length cw0) := Bw0.out.cell 0 rfl
  have fBw01 : w1.cell? ⟨p, 1, none⟩ = some (Value.int IntKind.i64 y.ver) := Bw0.out.cell 1 rfl
  have fBw02 : w1.cell? ⟨p, 2, none⟩ = some (Value.slice Aw0B y.tabs.length cw0B) := Bw0.out.cell 2 rfl
  go_wp2_with fail
  clear fb00 fb01 fb02 fb10 fb11 fb12 fb13 fb14 fb15 fb16 fBw00 fBw01 fBw02
  apply calls_gen; intro W51 hW
  have hE : Below w1.heap.size w1 W51 := by rw [hW]; (repeat (first | with_reducible refine below_alloc ?_ _ | with_reducible refine below_drew ?_)); exact Below.refl _ _
  clear hW
  replace b0 := Hd.mk (b0.out.below hE)
  replace eb0 := Hd.mk (Nat.le_trans eb0.out hE.size)
  replace b1 := Hd.mk (b1.out.below hE)
  replace eb1 := Hd.mk (Nat.le_trans eb1.out hE.size)
  replace w0 := Hd.mk (Ty.O_below w0.out hE)
  replace ew0 := Hd.mk (Nat.le_trans ew0.out hE.size)
  replace Bw0 := Hd.mk (Bw0.out.below hE)
  replace eBw0 := Hd.mk (Nat.le_trans eBw0.out hE.size)
  replace hB := Hd.mk (below_then hB.out hE)
  clear hE
  refine (laws_toStore x _ _ (tStore.K_below hB.out hK0.out) HL0.out.1).mono ?_
  rintro e w52 ⟨cs_, rfl, hO, hX⟩
  have db0_x0 := Hd.mk eb0.out
  have db1_x0 := Hd.mk eb1.out
  have dw0_x0 := Hd.mk ew0.out
  have dBw0_x0 := Hd.mk eBw0.out
  have ax0 := Hd.mk hB.out.size
  replace b0 := Hd.mk (b0.out.below hX)
  replace eb0 := Hd.mk (Nat.le_trans eb0.out hX.size)
  replace b1 := Hd.mk (b1.out.below hX)
  replace eb1 := Hd.mk (Nat.le_trans eb1.out hX.size)
  replace w0 := Hd.mk (Ty.O_below w0.out hX)
  replace ew0 := Hd.mk (Nat.le_trans ew0.out hX.size)
  replace Bw0 := Hd.mk (Bw0.out.below hX)
  replace eBw0 := Hd.mk (Nat.le_trans eBw0.out hX.size)
  replace hB := Hd.mk (below_then hB.out hX)
  clear hX
  replace hO := Ty.O_bound _ hO
  obtain ⟨v_, u_, _, _, hcs, r1, r2, _⟩ := tStore_O.1 hO
  subst hcs
  obtain ⟨Ax0, cx0, hv_, hcx0, _⟩ := R_C r1
  subst hv_
  clear r1
  obtain ⟨Ax0B, cx0B, hv_, hcx0B, _⟩ := R_C r2
  subst hv_
  clear r2
  have x0 := Hd.mk (show tStore.O w52 (rng W51.heap.size w52.heap.size) x [Value.slice Ax0 x.cols.length cx0, Value.int IntKind.i64 x.ver, Value.slice Ax0B x.tabs.length cx0B] from hO); clear hO
  have ex0 := Hd.mk (Nat.le_refl w52.heap.size)
  have fb00 : w52.cell? ⟨w.heap.size, 0, none⟩ = some (Value.slice A0 x.cols.length c0) := b0.out.cell 0 rfl
  have fb01 : w52.cell? ⟨w.heap.size, 1, none⟩ = some (Value.int IntKind.i64 x.ver) := b0.out.cell 1 rfl
  have fb02 : w52.cell? ⟨w.heap.size, 2, none⟩ = some (Value.slice A0B x.tabs.length c0B) := b0.out.cell 2 rfl
  have fb10 : w52.cell? ⟨w.heap.size + 1, 0, none⟩ = some (Value.int IntKind.i64 u.table) := b1.out.cell 0 rfl
  have fb11 : w52.cell? ⟨w.heap.size + 1, 1, none⟩ = some (Value.bool u.had) := b1.out.cell 1 rfl
  have fb12 : w52.cell? ⟨w.heap.size + 1, 2, none⟩ = some (Value.bool u.has) := b1.out.cell 2 rfl
  have fb13 : w52.cell? ⟨w.heap.size + 1, 3, none⟩ = some (Value.int IntKind.i64 u.old.id) := b1.out.cell 3 rfl
  have fb14 : w52.cell? ⟨w.heap.size + 1, 4, none⟩ = some (Value.slice A1 u.old.cells.length c1) := b1.out.cell 4 rfl
  have fb15 : w52.cell? ⟨w.heap.size + 1, 5, none⟩ = some (Value.int IntKind.i64 u.new.id) := b1.out.cell 5 rfl
  have fb16 : w52.cell? ⟨w.heap.size + 1, 6, none⟩ = some (Value.slice A1B u.new.cells.length c1B) := b1.out.cell 6 rfl
  have fBw00 : w52.cell? ⟨p, 0, none⟩ = some (Value.slice Aw0 y.cols.length cw0) := Bw0.out.cell 0 rfl
  have fBw01 : w52.cell? ⟨p, 1, none⟩ = some (Value.int IntKind.i64 y.ver) := Bw0.out.cell 1 rfl
  have fBw02 : w52.cell? ⟨p, 2, none⟩ = some (Value.slice Aw0B y.tabs.length cw0B) := Bw0.out.cell 2 rfl
  have lfb00 := fun o => cell_below (below_alloc (Below.refl _ _) o) fb00
  have lfb01 := fun o => cell_below (below_alloc (Below.refl _ _) o) fb01
  have lfb02 := fun o => cell_below (below_alloc (Below.refl _ _) o) fb02
  have lfb10 := fun o => cell_below (below_alloc (Below.refl _ _) o) fb10
  have lfb11 := fun o => cell_below (below_alloc (Below.refl _ _) o) fb11
  have lfb12 := fun o => cell_below (below_alloc (Below.refl _ _) o) fb12
  have lfb13 := fun o => cell_below (below_alloc (Below.refl _ _) o) fb13
  have lfb14 := fun o => cell_below (below_alloc (Below.refl _ _) o) fb14
  have lfb15 := fun o => cell_below (below_alloc (Below.refl _ _) o) fb15
  have lfb16 := fun o => cell_below (below_alloc (Below.refl _ _) o) fb16
  have lfBw00 := fun o => cell_below (below_alloc (Below.refl _ _) o) fBw00
  have lfBw01 := fun o => cell_below (below_alloc (Below.refl _ _) o) fBw01
  have lfBw02 := fun o => cell_below (below_alloc (Below.refl _ _) o) fBw02
  go_wp2_with fail
  clear lfb00 lfb01 lfb02 lfb10 lfb11 lfb12 lfb13 lfb14 lfb15 lfb16 lfBw00 lfBw01 lfBw02
  clear fb00 fb01 fb02 fb10 fb11 fb12 fb13 fb14 fb15 fb16 fBw00 fBw01 fBw02
  apply calls_gen; intro W53 hW
  have hE : Below w52.heap.size w52 W53 := by rw [hW]; (repeat (first | with_reducible refine below_alloc ?_ _ | with_reducible refine below_drew ?_)); exact Below.refl _ _
  have Bx0 := Hd.mk (show Blk W53 w52.heap.size #[Value.slice Ax0 x.cols.length cx0, Value.int IntKind.i64 x.ver, Value.slice Ax0B x.tabs.length cx0B] 37 by rw [hW]; first | exact Blk.new _ _ _ | exact (Blk.new _ _ _).drew)
  have hz_ : w52.heap.size + 1 ≤ W53.heap.size := by rw [hW]; simp
  clear hW
  have db0_Bx0 := Hd.mk eb0.out
  have db1_Bx0 := Hd.mk eb1.out
  have dw0_Bx0 := Hd.mk ew0.out
  have dBw0_Bx0 := Hd.mk eBw0.out
  have dx0_Bx0 := Hd.mk ex0.out
  have aBx0 := Hd.mk hB.out.size
  replace b0 := Hd.mk (b0.out.below hE)
  replace eb0 := Hd.mk (Nat.le_trans eb0.out hE.size)
  replace b1 := Hd.mk (b1.out.below hE)
  replace eb1 := Hd.mk (Nat.le_trans eb1.out hE.size)
  replace w0 := Hd.mk (Ty.O_below w0.out hE)
  replace ew0 := Hd.mk (Nat.le_trans ew0.out hE.size)
  replace Bw0 := Hd.mk (Bw0.out.below hE)
  replace eBw0 := Hd.mk (Nat.le_trans eBw0.out hE.size)
  replace x0 := Hd.mk (Ty.O_below x0.out hE)
  replace ex0 := Hd.mk (Nat.le_trans ex0.out hE.size)
  replace hB := Hd.mk (below_then hB.out hE)
  have eBx0 := Hd.mk hz_; clear hz_
  clear hE
  refine (laws_toChange u _ _ (tChange.K_below hB.out hK1.out) HL1.out.1).mono ?_
  rintro e w54 ⟨cs_, rfl, hO, hX⟩
  have db0_x1 := Hd.mk eb0.out
  have db1_x1 := Hd.mk eb1.out
  have dw0_x1 := Hd.mk ew0.out
  have dBw0_x1 := Hd.mk eBw0.out
  have dx0_x1 := Hd.mk ex0.out
  have dBx0_x1 := Hd.mk eBx0.out
  have ax1 := Hd.mk hB.out.size
  replace b0 := Hd.mk (b0.out.below hX)
  replace eb0 := Hd.mk (Nat.le_trans eb0.out hX.size)
  replace b1 := Hd.mk (b1.out.below hX)
  replace eb1 := Hd.mk (Nat.le_trans eb1.out hX.size)
  replace w0 := Hd.mk (Ty.O_below w0.out hX)
  replace ew0 := Hd.mk (Nat.le_trans ew0.out hX.size)
  replace Bw0 := Hd.mk (Bw0.out.below hX)
  replace eBw0 := Hd.mk (Nat.le_trans eBw0.out hX.size)
  replace x0 := Hd.mk (Ty.O_below x0.out hX)
  replace ex0 := Hd.mk (Nat.le_trans ex0.out hX.size)
  replace Bx0 := Hd.mk (Bx0.out.below hX)
  replace eBx0 := Hd.mk (Nat.le_trans eBx0.out hX.size)
  replace hB := Hd.mk (below_then hB.out hX)
  clear hX
  replace hO := Ty.O_bound _ hO
  obtain ⟨v_, u_, _, _, hcs, r1, r2, _⟩ := tChange_O.1 hO
  subst hcs
  obtain ⟨Ax1, cx1, hv_, hcx1, _⟩ := R_C r1
  subst hv_
  clear r1
  obtain ⟨Ax1B, cx1B, hv_, hcx1B, _⟩ := R_C r2
  subst hv_
  clear r2
  have x1 := Hd.mk (show tChange.O w54 (rng W53.heap.size w54.heap.size) u [Value.int IntKind.i64 u.table, Value.bool u.had, Value.bool u.has, Value.int IntKind.i64 u.old.id, Value.slice Ax1 u.old.cells.length cx1, Value.int IntKind.i64 u.new.id, Value.slice Ax1B u.new.cells.length cx1B] from hO); clear hO
  have ex1 := Hd.mk (Nat.le_refl w54.heap.size)
  have fb00 : w54.cell? ⟨w.heap.size, 0, none⟩ = some (Value.slice A0 x.cols.length c0) := b0.out.cell 0 rfl
  have fb01 : w54.cell? ⟨w.heap.size, 1, none⟩ = some (Value.int IntKind.i64 x.ver) := b0.out.cell 1 rfl
  have fb02 : w54.cell? ⟨w.heap.size, 2, none⟩ = some (Value.slice A0B x.tabs.length c0B) := b0.out.cell 2 rfl
  have fb10 : w54.cell? ⟨w.heap.size + 1, 0, none⟩ = some (Value.int IntKind.i64 u.table) := b1.out.cell 0 rfl
  have fb11 : w54.cell? ⟨w.heap.size + 1, 1, none⟩ = some (Value.bool u.had) := b1.out.cell 1 rfl
  have fb12 : w54.cell? ⟨w.heap.size + 1, 2, none⟩ = some (Value.bool u.has) := b1.out.cell 2 rfl
  have fb13 : w54.cell? ⟨w.heap.size + 1, 3, none⟩ = some (Value.int IntKind.i64 u.old.id) := b1.out.cell 3 rfl
  have fb14 : w54.cell? ⟨w.heap.size + 1, 4, none⟩ = some (Value.slice A1 u.old.cells.length c1) := b1.out.cell 4 rfl
  have fb15 : w54.cell? ⟨w.heap.size + 1, 5, none⟩ = some (Value.int IntKind.i64 u.new.id) := b1.out.cell 5 rfl
  have fb16 : w54.cell? ⟨w.heap.size + 1, 6, none⟩ = some (Value.slice A1B u.new.cells.length c1B) := b1.out.cell 6 rfl
  have fBw00 : w54.cell? ⟨p, 0, none⟩ = some (Value.slice Aw0 y.cols.length cw0) := Bw0.out.cell 0 rfl
  have fBw01 : w54.cell? ⟨p, 1, none⟩ = some (Value.int IntKind.i64 y.ver) := Bw0.out.cell 1 rfl
  have fBw02 : w54.cell? ⟨p, 2, none⟩ = some (Value.slice Aw0B y.tabs.length cw0B) := Bw0.out.cell 2 rfl
  have fBx00 : w54.cell? ⟨w52.heap.size, 0, none⟩ = some (Value.slice Ax0 x.cols.length cx0) := Bx0.out.cell 0 rfl
  have fBx01 : w54.cell? ⟨w52.heap.size, 1, none⟩ = some (Value.int IntKind.i64 x.ver) := Bx0.out.cell 1 rfl
  have fBx02 : w54.cell? ⟨w52.heap.size, 2, none⟩ = some (Value.slice Ax0B x.tabs.length cx0B) := Bx0.out.cell 2 rfl
  have lfb00 := fun o => cell_below (below_alloc (Below.refl _ _) o) fb00
  have lfb01 := fun o => cell_below (below_alloc (Below.refl _ _) o) fb01
  have lfb02 := fun o => cell_below (below_alloc (Below.refl _ _) o) fb02
  have lfb10 := fun o => cell_below (below_alloc (Below.refl _ _) o) fb10
  have lfb11 := fun o => cell_below (below_alloc (Below.refl _ _) o) fb11
  have lfb12 := fun o => cell_below (below_alloc (Below.refl _ _) o) fb12
  have lfb13 := fun o => cell_below (below_alloc (Below.refl _ _) o) fb13
  have lfb14 := fun o => cell_below (below_alloc (Below.refl _ _) o) fb14
  have lfb15 := fun o => cell_below (below_alloc (Below.refl _ _) o) fb15
  have lfb16 := fun o => cell_below (below_alloc (Below.refl _ _) o) fb16
  have lfBw00 := fun o => cell_below (below_alloc (Below.refl _ _) o) fBw00
  have lfBw01 := fun o => cell_below (below_alloc (Below.refl _ _) o) fBw01
  have lfBw02 := fun o => cell_below (below_alloc (Below.refl _ _) o) fBw02
  have lfBx00 := fun o => cell_below (below_alloc (Below.refl _ _) o) fBx00
  have lfBx01 := fun o => cell_below (below_alloc (Below.refl _ _) o) fBx01
  have lfBx02 := fun o => cell_below (below_alloc (Below.refl _ _) o) fBx02
  go_wp2_with fail
  clear lfb00 lfb01 lfb02 lfb10 lfb11 lfb12 lfb13 lfb14 lfb15 lfb16 lfBw00 lfBw01 lfBw02 lfBx00 lfBx01 lfBx02
  clear fb00 fb01 fb02 fb10 fb11 fb12 fb13 fb14 fb15 fb16 fBw00 fBw01 fBw02 fBx00 fBx01 fBx02
  apply calls_gen; intro W55 hW
  have hE : Below w54.heap.size w54 W55 := by rw [hW]; (repeat (first | with_reducible refine below_alloc ?_ _ | with_reducible refine below_drew ?_)); exact Below.refl _ _
  have Bx1 := Hd.mk (show Blk W55 w54.heap.size #[Value.int IntKind.i64 u.table, Value.bool u.had, Value.bool u.has, Value.int IntKind.i64 u.old.id, Value.slice Ax1 u.old.cells.length cx1, Value.int IntKind.i64 u.new.id, Value.slice Ax1B u.new.cells.length cx1B] 43 by rw [hW]; first | exact Blk.new _ _ _ | exact (Blk.new _ _ _).drew)
  have hz_ : w54.heap.size + 1 ≤ W55.heap.size := by rw [hW]; simp
  clear hW
  have db0_Bx1 := Hd.mk eb0.out
  have db1_Bx1 := Hd.mk eb1.out
  have dw0_Bx1 := Hd.mk ew0.out
  have dBw0_Bx1 := Hd.mk eBw0.out
  have dx0_Bx1 := Hd.mk ex0.out
  have dBx0_Bx1 := Hd.mk eBx0.out
  have dx1_Bx1 := Hd.mk ex1.out
  have aBx1 := Hd.mk hB.out.size
  replace b0 := Hd.mk (b0.out.below hE)
  replace eb0 := Hd.mk (Nat.le_trans eb0.out hE.size)
  replace b1 := Hd.mk (b1.out.below hE)
  replace eb1 := Hd.mk (Nat.le_trans eb1.out hE.size)
  replace w0 := Hd.mk (Ty.O_below w0.out hE)
  replace ew0 := Hd.mk (Nat.le_trans ew0.out hE.size)
  replace Bw0 := Hd.mk (Bw0.out.below hE)
  replace eBw0 := Hd.mk (Nat.le_trans eBw0.out hE.size)
  replace x0 := Hd.mk (Ty.O_below x0.out hE)
  replace ex0 := Hd.mk (Nat.le_trans ex0.out hE.size)
  replace Bx0 := Hd.mk (Bx0.out.below hE)
  replace eBx0 := Hd.mk (Nat.le_trans eBx0.out hE.size)
  replace x1 := Hd.mk (Ty.O_below x1.out hE)
  replace ex1 := Hd.mk (Nat.le_trans ex1.out hE.size)
  replace hB := Hd.mk (below_then hB.out hE)
  have eBx1 := Hd.mk hz_; clear hz_
  clear hE
  refine (impl_Back x _ u _ _ (tStore.O_K x0.out) (tChange.O_K x1.out) (by have := HL0.out.1; omega) (by have := HL1.out.1; omega)).mono ?_
  rintro e w56 ⟨cs_, rfl, hO, hX⟩
  have db0_g0 := Hd.mk eb0.out
  have db1_g0 := Hd.mk eb1.out
  have dw0_g0 := Hd.mk ew0.out
  have dBw0_g0 := Hd.mk eBw0.out
  have dx0_g0 := Hd.mk ex0.out
  have dBx0_g0 := Hd.mk eBx0.out
  have dx1_g0 := Hd.mk ex1.out
  have dBx1_g0 := Hd.mk eBx1.out
  have ag0 := Hd.mk hB.out.size
  replace b0 := Hd.mk (b0.out.below hX)
  replace eb0 := Hd.mk (Nat.le_trans eb0.out hX.size)
  replace b1 := Hd.mk (b1.out.below hX)
  replace eb1 := Hd.mk (Nat.le_trans eb1.out hX.size)
  replace w0 := Hd.mk (Ty.O_below w0.out hX)
  replace ew0 := Hd.mk (Nat.le_trans ew0.out hX.size)
  replace Bw0 := Hd.mk (Bw0.out.below hX)
  replace eBw0 := Hd.mk (Nat.le_trans eBw0.out hX.size)
  replace x0 := Hd.mk (Ty.O_below x0.out hX)
  replace ex0 := Hd.mk (Nat.le_trans ex0.out hX.size)
  replace Bx0 := Hd.mk (Bx0.out.below hX)
  replace eBx0 := Hd.mk (Nat.le_trans eBx0.out hX.size)
  replace x1 := Hd.mk (Ty.O_below x1.out hX)
  replace ex1 := Hd.mk (Nat.le_trans ex1.out hX.size)
  replace Bx1 := Hd.mk (Bx1.out.below hX)
  replace eBx1 := Hd.mk (Nat.le_trans eBx1.out hX.size)
  replace hB := Hd.mk (below_then hB.out hX)
  clear hX
  rw [← Hy.out] at hO
  rw [← Hyb.out]
  replace hO := Ty.O_bound _ hO
  obtain ⟨v_, u_, _, _, hcs, r1, r2, _⟩ := tStore_O.1 hO
  subst hcs
  obtain ⟨Ag0, cg0, hv_, hcg0, _⟩ := R_C r1
  subst hv_
  clear r1
  obtain ⟨Ag0B, cg0B, hv_, hcg0B, _⟩ := R_C r2
  subst hv_
  clear r2
  have g0 := Hd.mk (show tStore.O w56 (rng W55.heap.size w56.heap.size) y [Value.slice Ag0 y.cols.length cg0, Value.int IntKind.i64 y.ver, Value.slice Ag0B y.tabs.length cg0B] from hO); clear hO
  have eg0 := Hd.mk (Nat.le_refl w56.heap.size)
  have fb00 : w56.cell? ⟨w.heap.size, 0, none⟩ = some (Value.slice A0 x.cols.length c0) := b0.out.cell 0 rfl
  have fb01 : w56.cell? ⟨w.heap.size, 1, none⟩ = some (Value.int IntKind.i64 x.ver) := b0.out.cell 1 rfl
  have fb02 : w56.cell? ⟨w.heap.size, 2, none⟩ = some (Value.slice A0B x.tabs.length c0B) := b0.out.cell 2 rfl
  have fb10 : w56.cell? ⟨w.heap.size + 1, 0, none⟩ = some (Value.int IntKind.i64 u.table) := b1.out.cell 0 rfl
  have fb11 : w56.cell? ⟨w.heap.size + 1, 1, none⟩ = some (Value.bool u.had) := b1.out.cell 1 rfl
  have fb12 : w56.cell? ⟨w.heap.size + 1, 2, none⟩ = some (Value.bool u.has) := b1.out.cell 2 rfl
  have fb13 : w56.cell? ⟨w.heap.size + 1, 3, none⟩ = some (Value.int IntKind.i64 u.old.id) := b1.out.cell 3 rfl
  have fb14 : w56.cell? ⟨w.heap.size + 1, 4, none⟩ = some (Value.slice A1 u.old.cells.length c1) := b1.out.cell 4 rfl
  have fb15 : w56.cell? ⟨w.heap.size + 1, 5, none⟩ = some (Value.int IntKind.i64 u.new.id) := b1.out.cell 5 rfl
  have fb16 : w56.cell? ⟨w.heap.size + 1, 6, none⟩ = some (Value.slice A1B u.new.cells.length c1B) := b1.out.cell 6 rfl
  have fBw00 : w56.cell? ⟨p, 0, none⟩ = some (Value.slice Aw0 y.cols.length cw0) := Bw0.out.cell 0 rfl
  have fBw01 : w56.cell? ⟨p, 1, none⟩ = some (Value.int IntKind.i64 y.ver) := Bw0.out.cell 1 rfl
  have fBw02 : w56.cell? ⟨p, 2, none⟩ = some (Value.slice Aw0B y.tabs.length cw0B) := Bw0.out.cell 2 rfl
  have fBx00 : w56.cell? ⟨w52.heap.size, 0, none⟩ = some (Value.slice Ax0 x.cols.length cx0) := Bx0.out.cell 0 rfl
  have fBx01 : w56.cell? ⟨w52.heap.size, 1, none⟩ = some (Value.int IntKind.i64 x.ver) := Bx0.out.cell 1 rfl
  have fBx02 : w56.cell? ⟨w52.heap.size, 2, none⟩ = some (Value.slice Ax0B x.tabs.length cx0B) := Bx0.out.cell 2 rfl
  have fBx10 : w56.cell? ⟨w54.heap.size, 0, none⟩ = some (Value.int IntKind.i64 u.table) := Bx1.out.cell 0 rfl
  have fBx11 : w56.cell? ⟨w54.heap.size, 1, none⟩ = some (Value.bool u.had) := Bx1.out.cell 1 rfl
  have fBx12 : w56.cell? ⟨w54.heap.size, 2, none⟩ = some (Value.bool u.has) := Bx1.out.cell 2 rfl
  have fBx13 : w56.cell? ⟨w54.heap.size, 3, none⟩ = some (Value.int IntKind.i64 u.old.id) := Bx1.out.cell 3 rfl
  have fBx14 : w56.cell? ⟨w54.heap.size, 4, none⟩ = some (Value.slice Ax1 u.old.cells.length cx1) := Bx1.out.cell 4 rfl
  have fBx15 : w56.cell? ⟨w54.heap.size, 5, none⟩ = some (Value.int IntKind.i64 u.new.id) := Bx1.out.cell 5 rfl
  have fBx16 : w56.cell? ⟨w54.heap.size, 6, none⟩ = some (Value.slice Ax1B u.new.cells.length cx1B) := Bx1.out.cell 6 rfl
  have lfb00 := fun o => cell_below (below_alloc (Below.refl _ _) o) fb00
  have lfb01 := fun o => cell_below (below_alloc (Below.refl _ _) o) fb01
  have lfb02 := fun o => cell_below (below_alloc (Below.refl _ _) o) fb02
  have lfb10 := fun o => cell_below (below_alloc (Below.refl _ _) o) fb10
  have lfb11 := fun o => cell_below (below_alloc (Below.refl _ _) o) fb11
  have lfb12 := fun o => cell_below (below_alloc (Below.refl _ _) o) fb12
  have lfb13 := fun o => cell_below (below_alloc (Below.refl _ _) o) fb13
  have lfb14 := fun o => cell_below (below_alloc (Below.refl _ _) o) fb14
  have lfb15 := fun o => cell_below (below_alloc (Below.refl _ _) o) fb15
  have lfb16 := fun o => cell_below (below_alloc (Below.refl _ _) o) fb16
  have lfBw00 := fun o => cell_below (below_alloc (Below.refl _ _) o) fBw00
  have lfBw01 := fun o => cell_below (below_alloc (Below.refl _ _) o) fBw01
  have lfBw02 := fun o => cell_below (below_alloc (Below.refl _ _) o) fBw02
  have lfBx00 := fun o => cell_below (below_alloc (Below.refl _ _) o) fBx00
  have lfBx01 := fun o => cell_below (below_alloc (Below.refl _ _) o) fBx01
  have lfBx02 := fun o => cell_below (below_alloc (Below.refl _ _) o) fBx02
  have lfBx10 := fun o => cell_below (below_alloc (Below.refl _ _) o) fBx10
  have lfBx11 := fun o => cell_below (below_alloc (Below.refl _ _) o) fBx11
  have lfBx12 := fun o => cell_below (below_alloc (Below.refl _ _) o) fBx12
  have lfBx13 := fun o => cell_below (below_alloc (Below.refl _ _) o) fBx13
  have lfBx14 := fun o => cell_below (below_alloc (Below.refl _ _) o) fBx14
  have lfBx15 := fun o => cell_below (below_alloc (Below.refl _ _) o) fBx15
  have lfBx16 := fun o => cell_below (below_alloc (Below.refl _ _) o) fBx16
  go_wp2_with fail
  clear lfb00 lfb01 lfb02 lfb10 lfb11 lfb12 lfb13 lfb14 lfb15 lfb16 lfBw00 lfBw01 lfBw02 lfBx00 lfBx01 lfBx02 lfBx10 lfBx11 lfBx12 lfBx13 lfBx14 lfBx15 lfBx16
  clear fb00 fb01 fb02 fb10 fb11 fb12 fb13 fb14 fb15 fb16 fBw00 fBw01 fBw02 fBx00 fBx01 fBx02 fBx10 fBx11 fBx12 fBx13 fBx14 fBx15 fBx16
  apply calls_gen; intro W57 hW
  have hE : Below w56.heap.size w56 W57 := by rw [hW]; (repeat (first | with_reducible refine below_alloc ?_ _ | with_reducible refine below_drew ?_)); exact Below.refl _ _
  have Bg0 := Hd.mk (show Blk W57 w56.heap.size #[Value.slice Ag0 y.cols.length cg0, Value.int IntKind.i64 y.ver, Value.slice Ag0B y.tabs.length cg0B] 37 by rw [hW]; first | exact Blk.new _ _ _ | exact (Blk.new _ _ _).drew)
  have hz_ : w56.heap.size + 1 ≤ W57.heap.size := by rw [hW]; simp
  clear hW
  have db0_Bg0 := Hd.mk eb0.out
  have db1_Bg0 := Hd.mk eb1.out
  have dw0_Bg0 := Hd.mk ew0.out
  have dBw0_Bg0 := Hd.mk eBw0.out
  have dx0_Bg0 := Hd.mk ex0.out
  have dBx0_Bg0 := Hd.mk eBx0.out
  have dx1_Bg0 := Hd.mk ex1.out
  have dBx1_Bg0 := Hd.mk eBx1.out
  have dg0_Bg0 := Hd.mk eg0.out
  have aBg0 := Hd.mk hB.out.size
  replace b0 := Hd.mk (b0.out.below hE)
  replace eb0 := Hd.mk (Nat.le_trans eb0.out hE.size)
  replace b1 := Hd.mk (b1.out.below hE)
  replace eb1 := Hd.mk (Nat.le_trans eb1.out hE.size)
  replace w0 := Hd.mk (Ty.O_below w0.out hE)
  replace ew0 := Hd.mk (Nat.le_trans ew0.out hE.size)
  replace Bw0 := Hd.mk (Bw0.out.below hE)
  replace eBw0 := Hd.mk (Nat.le_trans eBw0.out hE.size)
  replace x0 := Hd.mk (Ty.O_below x0.out hE)
  replace ex0 := Hd.mk (Nat.le_trans ex0.out hE.size)
  replace Bx0 := Hd.mk (Bx0.out.below hE)
  replace eBx0 := Hd.mk (Nat.le_trans eBx0.out hE.size)
  replace x1 := Hd.mk (Ty.O_below x1.out hE)
  replace ex1 := Hd.mk (Nat.le_trans ex1.out hE.size)
  replace Bx1 := Hd.mk (Bx1.out.below hE)
  replace eBx1 := Hd.mk (Nat.le_trans eBx1.out hE.size)
  replace g0 := Hd.mk (Ty.O_below g0.out hE)
  replace eg0 := Hd.mk (Nat.le_trans eg0.out hE.size)
  replace hB := Hd.mk (below_then hB.out hE)
  have eBg0 := Hd.mk hz_; clear hz_
  clear hE
  refine (laws_eqStore y y _ _ _ (tStore.O_K g0.out) (tStore.O_K w0.out)).mono ?_
  rintro e w58 ⟨rfl, hX⟩
  replace b0 := Hd.mk (b0.out.below hX)
  replace eb0 := Hd.mk (Nat.le_trans eb0.out hX.size)
  replace b1 := Hd.mk (b1.out.below hX)
  replace eb1 := Hd.mk (Nat.le_trans eb1.out hX.size)
  replace w0 := Hd.mk (Ty.O_below w0.out hX)
  replace ew0 := Hd.mk (Nat.le_trans ew0.out hX.size)
  replace Bw0 := Hd.mk (Bw0.out.below hX)
  replace eBw0 := Hd.mk (Nat.le_trans eBw0.out hX.size)
  replace x0 := Hd.mk (Ty.O_below x0.out hX)
  replace ex0 := Hd.mk (Nat.le_trans ex0.out hX.size)
  replace Bx0 := Hd.mk (Bx0.out.below hX)
  replace eBx0 := Hd.mk (Nat.le_trans eBx0.out hX.size)
  replace x1 := Hd.mk (Ty.O_below x1.out hX)
  replace ex1 := Hd.mk (Nat.le_trans ex1.out hX.size)
  replace Bx1 := Hd.mk (Bx1.out.below hX)
  replace eBx1 := Hd.mk (Nat.le_trans eBx1.out hX.size)
  replace g0 := Hd.mk (Ty.O_below g0.out hX)
  replace eg0 := Hd.mk (Nat.le_trans eg0.out hX.size)
  replace Bg0 := Hd.mk (Bg0.out.below hX)
  replace eBg0 := Hd.mk (Nat.le_trans eBg0.out hX.size)
  replace hB := Hd.mk (below_then hB.out hX)
  clear hX
  rw [eqv_self]
  have fb00 : w58.cell? ⟨w.heap.size, 0, none⟩ = some (Value.slice A0 x.cols.length c0) := b0.out.cell 0 rfl
  have fb01 : w58.cell? ⟨w.heap.size, 1, none⟩ = some (Value.int IntKind.i64 x.ver) := b0.out.cell 1 rfl
  have fb02 : w58.cell? ⟨w.heap.size, 2, none⟩ = some (Value.slice A0B x.tabs.length c0B) := b0.out.cell 2 rfl
  have fb10 : w58.cell? ⟨w.heap.size + 1, 0, none⟩ = some (Value.int IntKind.i64 u.table) := b1.out.cell 0 rfl
  have fb11 : w58.cell? ⟨w.heap.size + 1, 1, none⟩ = some (Value.bool u.had) := b1.out.cell 1 rfl
  have fb12 : w58.cell? ⟨w.heap.size + 1, 2, none⟩ = some (Value.bool u.has) := b1.out.cell 2 rfl
  have fb13 : w58.cell? ⟨w.heap.size + 1, 3, none⟩ = some (Value.int IntKind.i64 u.old.id) := b1.out.cell 3 rfl
  have fb14 : w58.cell? ⟨w.heap.size + 1, 4, none⟩ = some (Value.slice A1 u.old.cells.length c1) := b1.out.cell 4 rfl
  have fb15 : w58.cell? ⟨w.heap.size + 1, 5, none⟩ = some (Value.int IntKind.i64 u.new.id) := b1.out.cell 5 rfl
  have fb16 : w58.cell? ⟨w.heap.size + 1, 6, none⟩ = some (Value.slice A1B u.new.cells.length c1B) := b1.out.cell 6 rfl
  have fBw00 : w58.cell? ⟨p, 0, none⟩ = some (Value.slice Aw0 y.cols.length cw0) := Bw0.out.cell 0 rfl
  have fBw01 : w58.cell? ⟨p, 1, none⟩ = some (Value.int IntKind.i64 y.ver) := Bw0.out.cell 1 rfl
  have fBw02 : w58.cell? ⟨p, 2, none⟩ = some (Value.slice Aw0B y.tabs.length cw0B) := Bw0.out.cell 2 rfl
  have fBx00 : w58.cell? ⟨w52.heap.size, 0, none⟩ = some (Value.slice Ax0 x.cols.length cx0) := Bx0.out.cell 0 rfl
  have fBx01 : w58.cell? ⟨w52.heap.size, 1, none⟩ = some (Value.int IntKind.i64 x.ver) := Bx0.out.cell 1 rfl
  have fBx02 : w58.cell? ⟨w52.heap.size, 2, none⟩ = some (Value.slice Ax0B x.tabs.length cx0B) := Bx0.out.cell 2 rfl
  have fBx10 : w58.cell? ⟨w54.heap.size, 0, none⟩ = some (Value.int IntKind.i64 u.table) := Bx1.out.cell 0 rfl
  have fBx11 : w58.cell? ⟨w54.heap.size, 1, none⟩ = some (Value.bool u.had) := Bx1.out.cell 1 rfl
  have fBx12 : w58.cell? ⟨w54.heap.size, 2, none⟩ = some (Value.bool u.has) := Bx1.out.cell 2 rfl
  have fBx13 : w58.cell? ⟨w54.heap.size, 3, none⟩ = some (Value.int IntKind.i64 u.old.id) := Bx1.out.cell 3 rfl
  have fBx14 : w58.cell? ⟨w54.heap.size, 4, none⟩ = some (Value.slice Ax1 u.old.cells.length cx1) := Bx1.out.cell 4 rfl
  have fBx15 : w58.cell? ⟨w54.heap.size, 5, none⟩ = some (Value.int IntKind.i64 u.new.id) := Bx1.out.cell 5 rfl
  have fBx16 : w58.cell? ⟨w54.heap.size, 6, none⟩ = some (Value.slice Ax1B u.new.cells.length cx1B) := Bx1.out.cell 6 rfl
  have fBg00 : w58.cell? ⟨w56.heap.size, 0, none⟩ = some (Value.slice Ag0 y.cols.length cg0) := Bg0.out.cell 0 rfl
  have fBg01 : w58.cell? ⟨w56.heap.size, 1, none⟩ = some (Value.int IntKind.i64 y.ver) := Bg0.out.cell 1 rfl
  have fBg02 : w58.cell? ⟨w56.heap.size, 2, none⟩ = some (Value.slice Ag0B y.tabs.length cg0B) := Bg0.out.cell 2 rfl
  go_wp2_with fail
  clear fb00 fb01 fb02 fb10 fb11 fb12 fb13 fb14 fb15 fb16 fBw00 fBw01 fBw02 fBx00 fBx01 fBx02 fBx10 fBx11 fBx12 fBx13 fBx14 fBx15 fBx16 fBg00 fBg01 fBg02
  have fb00 : w58.cell? ⟨w.heap.size, 0, none⟩ = some (Value.slice A0 x.cols.length c0) := b0.out.cell 0 rfl
  have fb01 : w58.cell? ⟨w.heap.size, 1, none⟩ = some (Value.int IntKind.i64 x.ver) := b0.out.cell 1 rfl
  have fb02 : w58.cell? ⟨w.heap.size, 2, none⟩ = some (Value.slice A0B x.tabs.length c0B) := b0.out.cell 2 rfl
  have fb10 : w58.cell? ⟨w.heap.size + 1, 0, none⟩ = some (Value.int IntKind.i64 u.table) := b1.out.cell 0 rfl
  have fb11 : w58.cell? ⟨w.heap.size + 1, 1, none⟩ = some (Value.bool u.had) := b1.out.cell 1 rfl
  have fb12 : w58.cell? ⟨w.heap.size + 1, 2, none⟩ = some (Value.bool u.has) := b1.out.cell 2 rfl
  have fb13 : w58.cell? ⟨w.heap.size + 1, 3, none⟩ = some (Value.int IntKind.i64 u.old.id) := b1.out.cell 3 rfl
  have fb14 : w58.cell? ⟨w.heap.size + 1, 4, none⟩ = some (Value.slice A1 u.old.cells.length c1) := b1.out.cell 4 rfl
  have fb15 : w58.cell? ⟨w.heap.size + 1, 5, none⟩ = some (Value.int IntKind.i64 u.new.id) := b1.out.cell 5 rfl
  have fb16 : w58.cell? ⟨w.heap.size + 1, 6, none⟩ = some (Value.slice A1B u.new.cells.length c1B) := b1.out.cell 6 rfl
  have fBw00 : w58.cell? ⟨p, 0, none⟩ = some (Value.slice Aw0 y.cols.length cw0) := Bw0.out.cell 0 rfl
  have fBw01 : w58.cell? ⟨p, 1, none⟩ = some (Value.int IntKind.i64 y.ver) := Bw0.out.cell 1 rfl
  have fBw02 : w58.cell? ⟨p, 2, none⟩ = some (Value.slice Aw0B y.tabs.length cw0B) := Bw0.out.cell 2 rfl
  have fBx00 : w58.cell? ⟨w52.heap.size, 0, none⟩ = some (Value.slice Ax0 x.cols.length cx0) := Bx0.out.cell 0 rfl
  have fBx01 : w58.cell? ⟨w52.heap.size, 1, none⟩ = some (Value.int IntKind.i64 x.ver) := Bx0.out.cell 1 rfl
  have fBx02 : w58.cell? ⟨w52.heap.size, 2, none⟩ = some (Value.slice Ax0B x.tabs.length cx0B) := Bx0.out.cell 2 rfl
  have fBx10 : w58.cell? ⟨w54.heap.size, 0, none⟩ = some (Value.int IntKind.i64 u.table) := Bx1.out.cell 0 rfl
  have fBx11 : w58.cell? ⟨w54.heap.size, 1, none⟩ = some (Value.bool u.had) := Bx1.out.cell 1 rfl
  have fBx12 : w58.cell? ⟨w54.heap.size, 2, none⟩ = some (Value.bool u.has) := Bx1.out.cell 2 rfl
  have fBx13 : w58.cell? ⟨w54.heap.size, 3, none⟩ = some (Value.int IntKind.i64 u.old.id) := Bx1.out.cell 3 rfl
  have fBx14 : w58.cell? ⟨w54.heap.size, 4, none⟩ = some (Value.slice Ax1 u.old.cells.length cx1) := Bx1.out.cell 4 rfl
  have fBx15 : w58.cell? ⟨w54.heap.size, 5, none⟩ = some (Value.int IntKind.i64 u.new.id) := Bx1.out.cell 5 rfl
  have fBx16 : w58.cell? ⟨w54.heap.size, 6, none⟩ = some (Value.slice Ax1B u.new.cells.length cx1B) := Bx1.out.cell 6 rfl
  have fBg00 : w58.cell? ⟨w56.heap.size, 0, none⟩ = some (Value.slice Ag0 y.cols.length cg0) := Bg0.out.cell 0 rfl
  have fBg01 : w58.cell? ⟨w56.heap.size, 1, none⟩ = some (Value.int IntKind.i64 y.ver) := Bg0.out.cell 1 rfl
  have fBg02 : w58.cell? ⟨w56.heap.size, 2, none⟩ = some (Value.slice Ag0B y.tabs.length cg0B) := Bg0.out.cell 2 rfl
  have rfb00 := cell_regrown fb00
  have rfb01 := cell_regrown fb01
  have rfb02 := cell_regrown fb02
  have rfb10 := cell_regrown fb10
  have rfb11 := cell_regrown fb11
  have rfb12 := cell_regrown fb12
  have rfb13 := cell_regrown fb13
  have rfb14 := cell_regrown fb14
  have rfb15 := cell_regrown fb15
  have rfb16 := cell_regrown fb16
  have rfBw00 := cell_regrown fBw00
  have rfBw01 := cell_regrown fBw01
  have rfBw02 := cell_regrown fBw02
  have rfBx00 := cell_regrown fBx00
  have rfBx01 := cell_regrown fBx01
  have rfBx02 := cell_regrown fBx02
  have rfBx10 := cell_regrown fBx10
  have rfBx11 := cell_regrown fBx11
  have rfBx12 := cell_regrown fBx12
  have rfBx13 := cell_regrown fBx13
  have rfBx14 := cell_regrown fBx14
  have rfBx15 := cell_regrown fBx15
  have rfBx16 := cell_regrown fBx16
  have rfBg00 := cell_regrown fBg00
  have rfBg01 := cell_regrown fBg01
  have rfBg02 := cell_regrown fBg02
  refine region_mix [(true, 0), (true, 1), (false, 2), (false, 3), (true, 4)] (by kernel_rfl) (by kernel_rfl) (fun _ _ _ _ _ h => h) ?_
  try (repeat (refine mix_q rfl ?_; go_big_quiet_want; go_big_quiet_op; go_big_quiet_on; refine wpQuiet_nil ?_))
  refine mix_b rfl ?_ (by rfl)
  go_wp2_with fail
  clear rfb00 rfb01 rfb02 rfb10 rfb11 rfb12 rfb13 rfb14 rfb15 rfb16 rfBw00 rfBw01 rfBw02 rfBx00 rfBx01 rfBx02 rfBx10 rfBx11 rfBx12 rfBx13 rfBx14 rfBx15 rfBx16 rfBg00 rfBg01 rfBg02
  clear fb00 fb01 fb02 fb10 fb11 fb12 fb13 fb14 fb15 fb16 fBw00 fBw01 fBw02 fBx00 fBx01 fBx02 fBx10 fBx11 fBx12 fBx13 fBx14 fBx15 fBx16 fBg00 fBg01 fBg02
  have hS := Hd.mk (Below.refl w58.heap.size w58)
  apply calls_gen; intro W59 hW
  have hE : Below w58.heap.size w58 W59 := by rw [hW]; (repeat (first | with_reducible refine below_alloc ?_ _ | with_reducible refine below_drew ?_)); exact Below.refl _ _
  clear hW
  replace b0 := Hd.mk (b0.out.below hE)
  replace eb0 := Hd.mk (Nat.le_trans eb0.out hE.size)
  replace b1 := Hd.mk (b1.out.below hE)
  replace eb1 := Hd.mk (Nat.le_trans eb1.out hE.size)
  replace w0 := Hd.mk (Ty.O_below w0.out hE)
  replace ew0 := Hd.mk (Nat.le_trans ew0.out hE.size)
  replace Bw0 := Hd.mk (Bw0.out.below hE)
  replace eBw0 := Hd.mk (Nat.le_trans eBw0.out hE.size)
  replace x0 := Hd.mk (Ty.O_below x0.out hE)
  replace ex0 := Hd.mk (Nat.le_trans ex0.out hE.size)
  replace Bx0 := Hd.mk (Bx0.out.below hE)
  replace eBx0 := Hd.mk (Nat.le_trans eBx0.out hE.size)
  replace x1 := Hd.mk (Ty.O_below x1.out hE)
  replace ex1 := Hd.mk (Nat.le_trans ex1.out hE.size)
  replace Bx1 := Hd.mk (Bx1.out.below hE)
  replace eBx1 := Hd.mk (Nat.le_trans eBx1.out hE.size)
  replace g0 := Hd.mk (Ty.O_below g0.out hE)
  replace eg0 := Hd.mk (Nat.le_trans eg0.out hE.size)
  replace Bg0 := Hd.mk (Bg0.out.below hE)
  replace eBg0 := Hd.mk (Nat.le_trans eBg0.out hE.size)
  replace hB := Hd.mk (below_then hB.out hE)
  replace hS := Hd.mk (below_then hS.out hE)
  clear hE
  refine (laws_toStore x _ _ (tStore.K_below hB.out hK0.out) HL0.out.1).mono ?_
  rintro e w60 ⟨cs_, rfl, hO, hX⟩
  have db0_t0 := Hd.mk eb0.out
  have db1_t0 := Hd.mk eb1.out
  have dw0_t0 := Hd.mk ew0.out
  have dBw0_t0 := Hd.mk eBw0.out
  have dx0_t0 := Hd.mk ex0.out
  have dBx0_t0 := Hd.mk eBx0.out
  have dx1_t0 := Hd.mk ex1.out
  have dBx1_t0 := Hd.mk eBx1.out
  have dg0_t0 := Hd.mk eg0.out
  have dBg0_t0 := Hd.mk eBg0.out
  have at0 := Hd.mk hB.out.size
  replace b0 := Hd.mk (b0.out.below hX)
  replace eb0 := Hd.mk (Nat.le_trans eb0.out hX.size)
  replace b1 := Hd.mk (b1.out.below hX)
  replace eb1 := Hd.mk (Nat.le_trans eb1.out hX.size)
  replace w0 := Hd.mk (Ty.O_below w0.out hX)
  replace ew0 := Hd.mk (Nat.le_trans ew0.out hX.size)
  replace Bw0 := Hd.mk (Bw0.out.below hX)
  replace eBw0 := Hd.mk (Nat.le_trans eBw0.out hX.size)
  replace x0 := Hd.mk (Ty.O_below x0.out hX)
  replace ex0 := Hd.mk (Nat.le_trans ex0.out hX.size)
  replace Bx0 := Hd.mk (Bx0.out.below hX)
  replace eBx0 := Hd.mk (Nat.le_trans eBx0.out hX.size)
  replace x1 := Hd.mk (Ty.O_below x1.out hX)
  replace ex1 := Hd.mk (Nat.le_trans ex1.out hX.size)
  replace Bx1 := Hd.mk (Bx1.out.below hX)
  replace eBx1 := Hd.mk (Nat.le_trans eBx1.out hX.size)
  replace g0 := Hd.mk (Ty.O_below g0.out hX)
  replace eg0 := Hd.mk (Nat.le_trans eg0.out hX.size)
  replace Bg0 := Hd.mk (Bg0.out.below hX)
  replace eBg0 := Hd.mk (Nat.le_trans eBg0.out hX.size)
  replace hB := Hd.mk (below_then hB.out hX)
  replace hS := Hd.mk (below_then hS.out hX)
  clear hX
  replace hO := Ty.O_bound _ hO
  obtain ⟨v_, u_, _, _, hcs, r1, r2, _⟩ := tStore_O.1 hO
  subst hcs
  obtain ⟨At0, ct0, hv_, hct0, _⟩ := R_C r1
  subst hv_
  clear r1
  obtain ⟨At0B, ct0B, hv_, hct0B, _⟩ := R_C r2
  subst hv_
  clear r2
  have t0 := Hd.mk (show tStore.O w60 (rng W59.heap.size w60.heap.size) x [Value.slice At0 x.cols.length ct0, Value.int IntKind.i64 x.ver, Value.slice At0B x.tabs.length ct0B] from hO); clear hO
  have et0 := Hd.mk (Nat.le_refl w60.heap.size)
  have fb00 : w60.cell? ⟨w.heap.size, 0, none⟩ = some (Value.slice A0 x.cols.length c0) := b0.out.cell 0 rfl
  have fb01 : w60.cell? ⟨w.heap.size, 1, none⟩ = some (Value.int IntKind.i64 x.ver) := b0.out.cell 1 rfl
  have fb02 : w60.cell? ⟨w.heap.size, 2, none⟩ = some (Value.slice A0B x.tabs.length c0B) := b0.out.cell 2 rfl
  have fb10 : w60.cell? ⟨w.heap.size + 1, 0, none⟩ = some (Value.int IntKind.i64 u.table) := b1.out.cell 0 rfl
  have fb11 : w60.cell? ⟨w.heap.size + 1, 1, none⟩ = some (Value.bool u.had) := b1.out.cell 1 rfl
  have fb12 : w60.cell? ⟨w.heap.size + 1, 2, none⟩ = some (Value.bool u.has) := b1.out.cell 2 rfl
  have fb13 : w60.cell? ⟨w.heap.size + 1, 3, none⟩ = some (Value.int IntKind.i64 u.old.id) := b1.out.cell 3 rfl
  have fb14 : w60.cell? ⟨w.heap.size + 1, 4, none⟩ = some (Value.slice A1 u.old.cells.length c1) := b1.out.cell 4 rfl
  have fb15 : w60.cell? ⟨w.heap.size + 1, 5, none⟩ = some (Value.int IntKind.i64 u.new.id) := b1.out.cell 5 rfl
  have fb16 : w60.cell? ⟨w.heap.size + 1, 6, none⟩ = some (Value.slice A1B u.new.cells.length c1B) := b1.out.cell 6 rfl
  have fBw00 : w60.cell? ⟨p, 0, none⟩ = some (Value.slice Aw0 y.cols.length cw0) := Bw0.out.cell 0 rfl
  have fBw01 : w60.cell? ⟨p, 1, none⟩ = some (Value.int IntKind.i64 y.ver) := Bw0.out.cell 1 rfl
  have fBw02 : w60.cell? ⟨p, 2, none⟩ = some (Value.slice Aw0B y.tabs.length cw0B) := Bw0.out.cell 2 rfl
  have fBx00 : w60.cell? ⟨w52.heap.size, 0, none⟩ = some (Value.slice Ax0 x.cols.length cx0) := Bx0.out.cell 0 rfl
  have fBx01 : w60.cell? ⟨w52.heap.size, 1, none⟩ = some (Value.int IntKind.i64 x.ver) := Bx0.out.cell 1 rfl
  have fBx02 : w60.cell? ⟨w52.heap.size, 2, none⟩ = some (Value.slice Ax0B x.tabs.length cx0B) := Bx0.out.cell 2 rfl
  have fBx10 : w60.cell? ⟨w54.heap.size, 0, none⟩ = some (Value.int IntKind.i64 u.table) := Bx1.out.cell 0 rfl
  have fBx11 : w60.cell? ⟨w54.heap.size, 1, none⟩ = some (Value.bool u.had) := Bx1.out.cell 1 rfl
  have fBx12 : w60.cell? ⟨w54.heap.size, 2, none⟩ = some (Value.bool u.has) := Bx1.out.cell 2 rfl
  have fBx13 : w60.cell? ⟨w54.heap.size, 3, none⟩ = some (Value.int IntKind.i64 u.old.id) := Bx1.out.cell 3 rfl
  have fBx14 : w60.cell? ⟨w54.heap.size, 4, none⟩ = some (Value.slice Ax1 u.old.cells.length cx1) := Bx1.out.cell 4 rfl
  have fBx15 : w60.cell? ⟨w54.heap.size, 5, none⟩ = some (Value.int IntKind.i64 u.new.id) := Bx1.out.cell 5 rfl
  have fBx16 : w60.cell? ⟨w54.heap.size, 6, none⟩ = some (Value.slice Ax1B u.new.cells.length cx1B) := Bx1.out.cell 6 rfl
  have fBg00 : w60.cell? ⟨w56.heap.size, 0, none⟩ = some (Value.slice Ag0 y.cols.length cg0) := Bg0.out.cell 0 rfl
  have fBg01 : w60.cell? ⟨w56.heap.size, 1, none⟩ = some (Value.int IntKind.i64 y.ver) := Bg0.out.cell 1 rfl
  have fBg02 : w60.cell? ⟨w56.heap.size, 2, none⟩ = some (Value.slice Ag0B y.tabs.length cg0B) := Bg0.out.cell 2 rfl
  go_wp2_with fail
  refine ⟨cls_below hS.out, ?_⟩
  refine mix_b rfl ?_ (by rfl)
  go_wp2_with fail
  clear fb00 fb01 fb02 fb10 fb11 fb12 fb13 fb14 fb15 fb16 fBw00 fBw01 fBw02 fBx00 fBx01 fBx02 fBx10 fBx11 fBx12 fBx13 fBx14 fBx15 fBx16 fBg00 fBg01 fBg02
  apply calls_gen; intro W61 hW
  have hE : Below w60.heap.size w60 W61 := by rw [hW]; (repeat (first | with_reducible refine below_alloc ?_ _ | with_reducible refine below_drew ?_)); exact Below.refl _ _
  clear hW
  replace b0 := Hd.mk (b0.out.below hE)
  replace eb0 := Hd.mk (Nat.le_trans eb0.out hE.size)
  replace b1 := Hd.mk (b1.out.below hE)
  replace eb1 := Hd.mk (Nat.le_trans eb1.out hE.size)
  replace w0 := Hd.mk (Ty.O_below w0.out hE)
  replace ew0 := Hd.mk (Nat.le_trans ew0.out hE.size)
  replace Bw0 := Hd.mk (Bw0.out.below hE)
  replace eBw0 := Hd.mk (Nat.le_trans eBw0.out hE.size)
  replace x0 := Hd.mk (Ty.O_below x0.out hE)
  replace ex0 := Hd.mk (Nat.le_trans ex0.out hE.size)
  replace Bx0 := Hd.mk (Bx0.out.below hE)
  replace eBx0 := Hd.mk (Nat.le_trans eBx0.out hE.size)
  replace x1 := Hd.mk (Ty.O_below x1.out hE)
  replace ex1 := Hd.mk (Nat.le_trans ex1.out hE.size)
  replace Bx1 := Hd.mk (Bx1.out.below hE)
  replace eBx1 := Hd.mk (Nat.le_trans eBx1.out hE.size)
  replace g0 := Hd.mk (Ty.O_below g0.out hE)
  replace eg0 := Hd.mk (Nat.le_trans eg0.out hE.size)
  replace Bg0 := Hd.mk (Bg0.out.below hE)
  replace eBg0 := Hd.mk (Nat.le_trans eBg0.out hE.size)
  replace t0 := Hd.mk (Ty.O_below t0.out hE)
  replace et0 := Hd.mk (Nat.le_trans et0.out hE.size)
  replace hB := Hd.mk (below_then hB.out hE)
  replace hS := Hd.mk (below_then hS.out hE)
  clear hE
  refine (laws_eqStore x x _ _ _ (tStore.O_K x0.out) (tStore.O_K t0.out)).mono ?_
  rintro e w62 ⟨rfl, hX⟩
  replace b0 := Hd.mk (b0.out.below hX)
  replace eb0 := Hd.mk (Nat.le_trans eb0.out hX.size)
  replace b1 := Hd.mk (b1.out.below hX)
  replace eb1 := Hd.mk (Nat.le_trans eb1.out hX.size)
  replace w0 := Hd.mk (Ty.O_below w0.out hX)
  replace ew0 := Hd.mk (Nat.le_trans ew0.out hX.size)
  replace Bw0 := Hd.mk (Bw0.out.below hX)
  replace eBw0 := Hd.mk (Nat.le_trans eBw0.out hX.size)
  replace x0 := Hd.mk (Ty.O_below x0.out hX)
  replace ex0 := Hd.mk (Nat.le_trans ex0.out hX.size)
  replace Bx0 := Hd.mk (Bx0.out.below hX)
  replace eBx0 := Hd.mk (Nat.le_trans eBx0.out hX.size)
  replace x1 := Hd.mk (Ty.O_below x1.out hX)
  replace ex1 := Hd.mk (Nat.le_trans ex1.out hX.size)
  replace Bx1 := Hd.mk (Bx1.out.below hX)
  replace eBx1 := Hd.mk (Nat.le_trans eBx1.out hX.size)
  replace g0 := Hd.mk (Ty.O_below g0.out hX)
  replace eg0 := Hd.mk (Nat.le_trans eg0.out hX.size)
  replace Bg0 := Hd.mk (Bg0.out.below hX)
  replace eBg0 := Hd.mk (Nat.le_trans eBg0.out hX.size)
  replace t0 := Hd.mk (Ty.O_below t0.out hX)
  replace et0 := Hd.mk (Nat.le_trans et0.out hX.size)
  replace hB := Hd.mk (below_then hB.out hX)
  replace hS := Hd.mk (below_then hS.out hX)
  clear hX
  rw [eqv_self]
  have fb00 : w62.cell? ⟨w.heap.size, 0, none⟩ = some (Value.slice A0 x.cols.length c0) := b0.out.cell 0 rfl
  have fb01 : w62.cell? ⟨w.heap.size, 1, none⟩ = some (Value.int IntKind.i64 x.ver) := b0.out.cell 1 rfl
  have fb02 : w62.cell? ⟨w.heap.size, 2, none⟩ = some (Value.slice A0B x.tabs.length c0B) := b0.out.cell 2 rfl
  have fb10 : w62.cell? ⟨w.heap.size + 1, 0, none⟩ = some (Value.int IntKind.i64 u.table) := b1.out.cell 0 rfl
  have fb11 : w62.cell? ⟨w.heap.size + 1, 1, none⟩ = some (Value.bool u.had) := b1.out.cell 1 rfl
  have fb12 : w62.cell? ⟨w.heap.size + 1, 2, none⟩ = some (Value.bool u.has) := b1.out.cell 2 rfl
  have fb13 : w62.cell? ⟨w.heap.size + 1, 3, none⟩ = some (Value.int IntKind.i64 u.old.id) := b1.out.cell 3 rfl
  have fb14 : w62.cell? ⟨w.heap.size + 1, 4, none⟩ = some (Value.slice A1 u.old.cells.length c1) := b1.out.cell 4 rfl
  have fb15 : w62.cell? ⟨w.heap.size + 1, 5, none⟩ = some (Value.int IntKind.i64 u.new.id) := b1.out.cell 5 rfl
  have fb16 : w62.cell? ⟨w.heap.size + 1, 6, none⟩ = some (Value.slice A1B u.new.cells.length c1B) := b1.out.cell 6 rfl
  have fBw00 : w62.cell? ⟨p, 0, none⟩ = some (Value.slice Aw0 y.cols.length cw0) := Bw0.out.cell 0 rfl
  have fBw01 : w62.cell? ⟨p, 1, none⟩ = some (Value.int IntKind.i64 y.ver) := Bw0.out.cell 1 rfl
  have fBw02 : w62.cell? ⟨p, 2, none⟩ = some (Value.slice Aw0B y.tabs.length cw0B) := Bw0.out.cell 2 rfl
  have fBx00 : w62.cell? ⟨w52.heap.size, 0, none⟩ = some (Value.slice Ax0 x.cols.length cx0) := Bx0.out.cell 0 rfl
  have fBx01 : w62.cell? ⟨w52.heap.size, 1, none⟩ = some (Value.int IntKind.i64 x.ver) := Bx0.out.cell 1 rfl
  have fBx02 : w62.cell? ⟨w52.heap.size, 2, none⟩ = some (Value.slice Ax0B x.tabs.length cx0B) := Bx0.out.cell 2 rfl
  have fBx10 : w62.cell? ⟨w54.heap.size, 0, none⟩ = some (Value.int IntKind.i64 u.table) := Bx1.out.cell 0 rfl
  have fBx11 : w62.cell? ⟨w54.heap.size, 1, none⟩ = some (Value.bool u.had) := Bx1.out.cell 1 rfl
  have fBx12 : w62.cell? ⟨w54.heap.size, 2, none⟩ = some (Value.bool u.has) := Bx1.out.cell 2 rfl
  have fBx13 : w62.cell? ⟨w54.heap.size, 3, none⟩ = some (Value.int IntKind.i64 u.old.id) := Bx1.out.cell 3 rfl
  have fBx14 : w62.cell? ⟨w54.heap.size, 4, none⟩ = some (Value.slice Ax1 u.old.cells.length cx1) := Bx1.out.cell 4 rfl
  have fBx15 : w62.cell? ⟨w54.heap.size, 5, none⟩ = some (Value.int IntKind.i64 u.new.id) := Bx1.out.cell 5 rfl
  have fBx16 : w62.cell? ⟨w54.heap.size, 6, none⟩ = some (Value.slice Ax1B u.new.cells.length cx1B) := Bx1.out.cell 6 rfl
  have fBg00 : w62.cell? ⟨w56.heap.size, 0, none⟩ = some (Value.slice Ag0 y.cols.length cg0) := Bg0.out.cell 0 rfl
  have fBg01 : w62.cell? ⟨w56.heap.size, 1, none⟩ = some (Value.int IntKind.i64 y.ver) := Bg0.out.cell 1 rfl
  have fBg02 : w62.cell? ⟨w56.heap.size, 2, none⟩ = some (Value.slice Ag0B y.tabs.length cg0B) := Bg0.out.cell 2 rfl
  have rfb00 := cell_regrown fb00
  have rfb01 := cell_regrown fb01
  have rfb02 := cell_regrown fb02
  have rfb10 := cell_regrown fb10
  have rfb11 := cell_regrown fb11
  have rfb12 := cell_regrown fb12
  have rfb13 := cell_regrown fb13
  have rfb14 := cell_regrown fb14
  have rfb15 := cell_regrown fb15
  have rfb16 := cell_regrown fb16
  have rfBw00 := cell_regrown fBw00
  have rfBw01 := cell_regrown fBw01
  have rfBw02 := cell_regrown fBw02
  have rfBx00 := cell_regrown fBx00
  have rfBx01 := cell_regrown fBx01
  have rfBx02 := cell_regrown fBx02
  have rfBx10 := cell_regrown fBx10
  have rfBx11 := cell_regrown fBx11
  have rfBx12 := cell_regrown fBx12
  have rfBx13 := cell_regrown fBx13
  have rfBx14 := cell_regrown fBx14
  have rfBx15 := cell_regrown fBx15
  have rfBx16 := cell_regrown fBx16
  have rfBg00 := cell_regrown fBg00
  have rfBg01 := cell_regrown fBg01
  have rfBg02 := cell_regrown fBg02
  go_wp2_with fail
  refine ⟨cls_below hS.out, ?_⟩
  try (repeat (refine mix_q rfl ?_; go_big_quiet_want; go_big_quiet_op; go_big_quiet_on; refine wpQuiet_nil ?_))
  refine mix_nil ?_
  clear rfb00 rfb01 rfb02 rfb10 rfb11 rfb12 rfb13 rfb14 rfb15 rfb16 rfBw00 rfBw01 rfBw02 rfBx00 rfBx01 rfBx02 rfBx10 rfBx11 rfBx12 rfBx13 rfBx14 rfBx15 rfBx16 rfBg00 rfBg01 rfBg02
  clear hS
  go_wp2_with fail
  clear fb00 fb01 fb02 fb10 fb11 fb12 fb13 fb14 fb15 fb16 fBw00 fBw01 fBw02 fBx00 fBx01 fBx02 fBx10 fBx11 fBx12 fBx13 fBx14 fBx15 fBx16 fBg00 fBg01 fBg02
  clear t0 et0
  have fb00 : w62.cell? ⟨w.heap.size, 0, none⟩ = some (Value.slice A0 x.cols.length c0) := b0.out.cell 0 rfl
  have fb01 : w62.cell? ⟨w.heap.size, 1, none⟩ = some (Value.int IntKind.i64 x.ver) := b0.out.cell 1 rfl
  have fb02 : w62.cell? ⟨w.heap.size, 2, none⟩ = some (Value.slice A0B x.tabs.length c0B) := b0.out.cell 2 rfl
  have fb10 : w62.cell? ⟨w.heap.size + 1, 0, none⟩ = some (Value.int IntKind.i64 u.table) := b1.out.cell 0 rfl
  have fb11 : w62.cell? ⟨w.heap.size + 1, 1, none⟩ = some (Value.bool u.had) := b1.out.cell 1 rfl
  have fb12 : w62.cell? ⟨w.heap.size + 1, 2, none⟩ = some (Value.bool u.has) := b1.out.cell 2 rfl
  have fb13 : w62.cell? ⟨w.heap.size + 1, 3, none⟩ = some (Value.int IntKind.i64 u.old.id) := b1.out.cell 3 rfl
  have fb14 : w62.cell? ⟨w.heap.size + 1, 4, none⟩ = some (Value.slice A1 u.old.cells.length c1) := b1.out.cell 4 rfl
  have fb15 : w62.cell? ⟨w.heap.size + 1, 5, none⟩ = some (Value.int IntKind.i64 u.new.id) := b1.out.cell 5 rfl
  have fb16 : w62.cell? ⟨w.heap.size + 1, 6, none⟩ = some (Value.slice A1B u.new.cells.length c1B) := b1.out.cell 6 rfl
  have fBw00 : w62.cell? ⟨p, 0, none⟩ = some (Value.slice Aw0 y.cols.length cw0) := Bw0.out.cell 0 rfl
  have fBw01 : w62.cell? ⟨p, 1, none⟩ = some (Value.int IntKind.i64 y.ver) := Bw0.out.cell 1 rfl
  have fBw02 : w62.cell? ⟨p, 2, none⟩ = some (Value.slice Aw0B y.tabs.length cw0B) := Bw0.out.cell 2 rfl
  have fBx00 : w62.cell? ⟨w52.heap.size, 0, none⟩ = some (Value.slice Ax0 x.cols.length cx0) := Bx0.out.cell 0 rfl
  have fBx01 : w62.cell? ⟨w52.heap.size, 1, none⟩ = some (Value.int IntKind.i64 x.ver) := Bx0.out.cell 1 rfl
  have fBx02 : w62.cell? ⟨w52.heap.size, 2, none⟩ = some (Value.slice Ax0B x.tabs.length cx0B) := Bx0.out.cell 2 rfl
  have fBx10 : w62.cell? ⟨w54.heap.size, 0, none⟩ = some (Value.int IntKind.i64 u.table) := Bx1.out.cell 0 rfl
  have fBx11 : w62.cell? ⟨w54.heap.size, 1, none⟩ = some (Value.bool u.had) := Bx1.out.cell 1 rfl
  have fBx12 : w62.cell? ⟨w54.heap.size, 2, none⟩ = some (Value.bool u.has) := Bx1.out.cell 2 rfl
  have fBx13 : w62.cell? ⟨w54.heap.size, 3, none⟩ = some (Value.int IntKind.i64 u.old.id) := Bx1.out.cell 3 rfl
  have fBx14 : w62.cell? ⟨w54.heap.size, 4, none⟩ = some (Value.slice Ax1 u.old.cells.length cx1) := Bx1.out.cell 4 rfl
  have fBx15 : w62.cell? ⟨w54.heap.size, 5, none⟩ = some (Value.int IntKind.i64 u.new.id) := Bx1.out.cell 5 rfl
  have fBx16 : w62.cell? ⟨w54.heap.size, 6, none⟩ = some (Value.slice Ax1B u.new.cells.length cx1B) := Bx1.out.cell 6 rfl
  have fBg00 : w62.cell? ⟨w56.heap.size, 0, none⟩ = some (Value.slice Ag0 y.cols.length cg0) := Bg0.out.cell 0 rfl
  have fBg01 : w62.cell? ⟨w56.heap.size, 1, none⟩ = some (Value.int IntKind.i64 y.ver) := Bg0.out.cell 1 rfl
  have fBg02 : w62.cell? ⟨w56.heap.size, 2, none⟩ = some (Value.slice Ag0B y.tabs.length cg0B) := Bg0.out.cell 2 rfl
  have rfb00 := cell_regrown fb00
  have rfb01 := cell_regrown fb01
  have rfb02 := cell_regrown fb02
  have rfb10 := cell_regrown fb10
  have rfb11 := cell_regrown fb11
  have rfb12 := cell_regrown fb12
  have rfb13 := cell_regrown fb13
  have rfb14 := cell_regrown fb14
  have rfb15 := cell_regrown fb15
  have rfb16 := cell_regrown fb16
  have rfBw00 := cell_regrown fBw00
  have rfBw01 := cell_regrown fBw01
  have rfBw02 := cell_regrown fBw02
  have rfBx00 := cell_regrown fBx00
  have rfBx01 := cell_regrown fBx01
  have rfBx02 := cell_regrown fBx02
  have rfBx10 := cell_regrown fBx10
  have rfBx11 := cell_regrown fBx11
  have rfBx12 := cell_regrown fBx12
  have rfBx13 := cell_regrown fBx13
  have rfBx14 := cell_regrown fBx14
  have rfBx15 := cell_regrown fBx15
  have rfBx16 := cell_regrown fBx16
  have rfBg00 := cell_regrown fBg00
  have rfBg01 := cell_regrown fBg01
  have rfBg02 := cell_regrown fBg02
  refine region_mix [(true, 0), (true, 1), (false, 2), (false, 3), (true, 4)] (by kernel_rfl) (by kernel_rfl) (fun _ _ _ _ _ h => h) ?_
  try (repeat (refine mix_q rfl ?_; go_big_quiet_want; go_big_quiet_op; go_big_quiet_on; refine wpQuiet_nil ?_))
  refine mix_b rfl ?_ (by rfl)
  go_wp2_with fail
  clear rfb00 rfb01 rfb02 rfb10 rfb11 rfb12 rfb13 rfb14 rfb15 rfb16 rfBw00 rfBw01 rfBw02 rfBx00 rfBx01 rfBx02 rfBx10 rfBx11 rfBx12 rfBx13 rfBx14 rfBx15 rfBx16 rfBg00 rfBg01 rfBg02
  clear fb00 fb01 fb02 fb10 fb11 fb12 fb13 fb14 fb15 fb16 fBw00 fBw01 fBw02 fBx00 fBx01 fBx02 fBx10 fBx11 fBx12 fBx13 fBx14 fBx15 fBx16 fBg00 fBg01 fBg02
  have hS := Hd.mk (Below.refl w62.heap.size w62)
  apply calls_gen; intro W63 hW
  have hE : Below w62.heap.size w62 W63 := by rw [hW]; (repeat (first | with_reducible refine below_alloc ?_ _ | with_reducible refine below_drew ?_)); exact Below.refl _ _
  clear hW
  replace b0 := Hd.mk (b0.out.below hE)
  replace eb0 := Hd.mk (Nat.le_trans eb0.out hE.size)
  replace b1 := Hd.mk (b1.out.below hE)
  replace eb1 := Hd.mk (Nat.le_trans eb1.out hE.size)
  replace w0 := Hd.mk (Ty.O_below w0.out hE)
  replace ew0 := Hd.mk (Nat.le_trans ew0.out hE.size)
  replace Bw0 := Hd.mk (Bw0.out.below hE)
  replace eBw0 := Hd.mk (Nat.le_trans eBw0.out hE.size)
  replace x0 := Hd.mk (Ty.O_below x0.out hE)
  replace ex0 := Hd.mk (Nat.le_trans ex0.out hE.size)
  replace Bx0 := Hd.mk (Bx0.out.below hE)
  replace eBx0 := Hd.mk (Nat.le_trans eBx0.out hE.size)
  replace x1 := Hd.mk (Ty.O_below x1.out hE)
  replace ex1 := Hd.mk (Nat.le_trans ex1.out hE.size)
  replace Bx1 := Hd.mk (Bx1.out.below hE)
  replace eBx1 := Hd.mk (Nat.le_trans eBx1.out hE.size)
  replace g0 := Hd.mk (Ty.O_below g0.out hE)
  replace eg0 := Hd.mk (Nat.le_trans eg0.out hE.size)
  replace Bg0 := Hd.mk (Bg0.out.below hE)
  replace eBg0 := Hd.mk (Nat.le_trans eBg0.out hE.size)
  replace hB := Hd.mk (below_then hB.out hE)
  replace hS := Hd.mk (below_then hS.out hE)
  clear hE
  refine (laws_toChange u _ _ (tChange.K_below hB.out hK1.out) HL1.out.1).mono ?_
  rintro e w64 ⟨cs_, rfl, hO, hX⟩
  have db0_t1 := Hd.mk eb0.out
  have db1_t1 := Hd.mk eb1.out
  have dw0_t1 := Hd.mk ew0.out
  have dBw0_t1 := Hd.mk eBw0.out
  have dx0_t1 := Hd.mk ex0.out
  have dBx0_t1 := Hd.mk eBx0.out
  have dx1_t1 := Hd.mk ex1.out
  have dBx1_t1 := Hd.mk eBx1.out
  have dg0_t1 := Hd.mk eg0.out
  have dBg0_t1 := Hd.mk eBg0.out
  have at1 := Hd.mk hB.out.size
  replace b0 := Hd.mk (b0.out.below hX)
  replace eb0 := Hd.mk (Nat.le_trans eb0.out hX.size)
  replace b1 := Hd.mk (b1.out.below hX)
  replace eb1 := Hd.mk (Nat.le_trans eb1.out hX.size)
  replace w0 := Hd.mk (Ty.O_below w0.out hX)
  replace ew0 := Hd.mk (Nat.le_trans ew0.out hX.size)
  replace Bw0 := Hd.mk (Bw0.out.below hX)
  replace eBw0 := Hd.mk (Nat.le_trans eBw0.out hX.size)
  replace x0 := Hd.mk (Ty.O_below x0.out hX)
  replace ex0 := Hd.mk (Nat.le_trans ex0.out hX.size)
  replace Bx0 := Hd.mk (Bx0.out.below hX)
  replace eBx0 := Hd.mk (Nat.le_trans eBx0.out hX.size)
  replace x1 := Hd.mk (Ty.O_below x1.out hX)
  replace ex1 := Hd.mk (Nat.le_trans ex1.out hX.size)
  replace Bx1 := Hd.mk (Bx1.out.below hX)
  replace eBx1 := Hd.mk (Nat.le_trans eBx1.out hX.size)
  replace g0 := Hd.mk (Ty.O_below g0.out hX)
  replace eg0 := Hd.mk (Nat.le_trans eg0.out hX.size)
  replace Bg0 := Hd.mk (Bg0.out.below hX)
  replace eBg0 := Hd.mk (Nat.le_trans eBg0.out hX.size)
  replace hB := Hd.mk (below_then hB.out hX)
  replace hS := Hd.mk (below_then hS.out hX)
  clear hX
  replace hO := Ty.O_bound _ hO
  obtain ⟨v_, u_, _, _, hcs, r1, r2, _⟩ := tChange_O.1 hO
  subst hcs
  obtain ⟨At1, ct1, hv_, hct1, _⟩ := R_C r1
  subst hv_
  clear r1
  obtain ⟨At1B, ct1B, hv_, hct1B, _⟩ := R_C r2
  subst hv_
  clear r2
  have t1 := Hd.mk (show tChange.O w64 (rng W63.heap.size w64.heap.size) u [Value.int IntKind.i64 u.table, Value.bool u.had, Value.bool u.has, Value.int IntKind.i64 u.old.id, Value.slice At1 u.old.cells.length ct1, Value.int IntKind.i64 u.new.id, Value.slice At1B u.new.cells.length ct1B] from hO); clear hO
  have et1 := Hd.mk (Nat.le_refl w64.heap.size)
  have fb00 : w64.cell? ⟨w.heap.size, 0, none⟩ = some (Value.slice A0 x.cols.length c0) := b0.out.cell 0 rfl
  have fb01 : w64.cell? ⟨w.heap.size, 1, none⟩ = some (Value.int IntKind.i64 x.ver) := b0.out.cell 1 rfl
  have fb02 : w64.cell? ⟨w.heap.size, 2, none⟩ = some (Value.slice A0B x.tabs.length c0B) := b0.out.cell 2 rfl
  have fb10 : w64.cell? ⟨w.heap.size + 1, 0, none⟩ = some (Value.int IntKind.i64 u.table) := b1.out.cell 0 rfl
  have fb11 : w64.cell? ⟨w.heap.size + 1, 1, none⟩ = some (Value.bool u.had) := b1.out.cell 1 rfl
  have fb12 : w64.cell? ⟨w.heap.size + 1, 2, none⟩ = some (Value.bool u.has) := b1.out.cell 2 rfl
  have fb13 : w64.cell? ⟨w.heap.size + 1, 3, none⟩ = some (Value.int IntKind.i64 u.old.id) := b1.out.cell 3 rfl
  have fb14 : w64.cell? ⟨w.heap.size + 1, 4, none⟩ = some (Value.slice A1 u.old.cells.length c1) := b1.out.cell 4 rfl
  have fb15 : w64.cell? ⟨w.heap.size + 1, 5, none⟩ = some (Value.int IntKind.i64 u.new.id) := b1.out.cell 5 rfl
  have fb16 : w64.cell? ⟨w.heap.size + 1, 6, none⟩ = some (Value.slice A1B u.new.cells.length c1B) := b1.out.cell 6 rfl
  have fBw00 : w64.cell? ⟨p, 0, none⟩ = some (Value.slice Aw0 y.cols.length cw0) := Bw0.out.cell 0 rfl
  have fBw01 : w64.cell? ⟨p, 1, none⟩ = some (Value.int IntKind.i64 y.ver) := Bw0.out.cell 1 rfl
  have fBw02 : w64.cell? ⟨p, 2, none⟩ = some (Value.slice Aw0B y.tabs.length cw0B) := Bw0.out.cell 2 rfl
  have fBx00 : w64.cell? ⟨w52.heap.size, 0, none⟩ = some (Value.slice Ax0 x.cols.length cx0) := Bx0.out.cell 0 rfl
  have fBx01 : w64.cell? ⟨w52.heap.size, 1, none⟩ = some (Value.int IntKind.i64 x.ver) := Bx0.out.cell 1 rfl
  have fBx02 : w64.cell? ⟨w52.heap.size, 2, none⟩ = some (Value.slice Ax0B x.tabs.length cx0B) := Bx0.out.cell 2 rfl
  have fBx10 : w64.cell? ⟨w54.heap.size, 0, none⟩ = some (Value.int IntKind.i64 u.table) := Bx1.out.cell 0 rfl
  have fBx11 : w64.cell? ⟨w54.heap.size, 1, none⟩ = some (Value.bool u.had) := Bx1.out.cell 1 rfl
  have fBx12 : w64.cell? ⟨w54.heap.size, 2, none⟩ = some (Value.bool u.has) := Bx1.out.cell 2 rfl
  have fBx13 : w64.cell? ⟨w54.heap.size, 3, none⟩ = some (Value.int IntKind.i64 u.old.id) := Bx1.out.cell 3 rfl
  have fBx14 : w64.cell? ⟨w54.heap.size, 4, none⟩ = some (Value.slice Ax1 u.old.cells.length cx1) := Bx1.out.cell 4 rfl
  have fBx15 : w64.cell? ⟨w54.heap.size, 5, none⟩ = some (Value.int IntKind.i64 u.new.id) := Bx1.out.cell 5 rfl
  have fBx16 : w64.cell? ⟨w54.heap.size, 6, none⟩ = some (Value.slice Ax1B u.new.cells.length cx1B) := Bx1.out.cell 6 rfl
  have fBg00 : w64.cell? ⟨w56.heap.size, 0, none⟩ = some (Value.slice Ag0 y.cols.length cg0) := Bg0.out.cell 0 rfl
  have fBg01 : w64.cell? ⟨w56.heap.size, 1, none⟩ = some (Value.int IntKind.i64 y.ver) := Bg0.out.cell 1 rfl
  have fBg02 : w64.cell? ⟨w56.heap.size, 2, none⟩ = some (Value.slice Ag0B y.tabs.length cg0B) := Bg0.out.cell 2 rfl
  go_wp2_with fail
  refine ⟨cls_below hS.out, ?_⟩
  refine mix_b rfl ?_ (by rfl)
  go_wp2_with fail
  clear fb00 fb01 fb02 fb10 fb11 fb12 fb13 fb14 fb15 fb16 fBw00 fBw01 fBw02 fBx00 fBx01 fBx02 fBx10 fBx11 fBx12 fBx13 fBx14 fBx15 fBx16 fBg00 fBg01 fBg02
  apply calls_gen; intro W65 hW
  have hE : Below w64.heap.size w64 W65 := by rw [hW]; (repeat (first | with_reducible refine below_alloc ?_ _ | with_reducible refine below_drew ?_)); exact Below.refl _ _
  clear hW
  replace b0 := Hd.mk (b0.out.below hE)
  replace eb0 := Hd.mk (Nat.le_trans eb0.out hE.size)
  replace b1 := Hd.mk (b1.out.below hE)
  replace eb1 := Hd.mk (Nat.le_trans eb1.out hE.size)
  replace w0 := Hd.mk (Ty.O_below w0.out hE)
  replace ew0 := Hd.mk (Nat.le_trans ew0.out hE.size)
  replace Bw0 := Hd.mk (Bw0.out.below hE)
  replace eBw0 := Hd.mk (Nat.le_trans eBw0.out hE.size)
  replace x0 := Hd.mk (Ty.O_below x0.out hE)
  replace ex0 := Hd.mk (Nat.le_trans ex0.out hE.size)
  replace Bx0 := Hd.mk (Bx0.out.below hE)
  replace eBx0 := Hd.mk (Nat.le_trans eBx0.out hE.size)
  replace x1 := Hd.mk (Ty.O_below x1.out hE)
  replace ex1 := Hd.mk (Nat.le_trans ex1.out hE.size)
  replace Bx1 := Hd.mk (Bx1.out.below hE)
  replace eBx1 := Hd.mk (Nat.le_trans eBx1.out hE.size)
  replace g0 := Hd.mk (Ty.O_below g0.out hE)
  replace eg0 := Hd.mk (Nat.le_trans eg0.out hE.size)
  replace Bg0 := Hd.mk (Bg0.out.below hE)
  replace eBg0 := Hd.mk (Nat.le_trans eBg0.out hE.size)
  replace t1 := Hd.mk (Ty.O_below t1.out hE)
  replace et1 := Hd.mk (Nat.le_trans et1.out hE.size)
  replace hB := Hd.mk (below_then hB.out hE)
  replace hS := Hd.mk (below_then hS.out hE)
  clear hE
  refine (laws_eqChange u u _ _ _ (tChange.O_K x1.out) (tChange.O_K t1.out)).mono ?_
  rintro e w66 ⟨rfl, hX⟩
  replace b0 := Hd.mk (b0.out.below hX)
  replace eb0 := Hd.mk (Nat.le_trans eb0.out hX.size)
  replace b1 := Hd.mk (b1.out.below hX)
  replace eb1 := Hd.mk (Nat.le_trans eb1.out hX.size)
  replace w0 := Hd.mk (Ty.O_below w0.out hX)
  replace ew0 := Hd.mk (Nat.le_trans ew0.out hX.size)
  replace Bw0 := Hd.mk (Bw0.out.below hX)
  replace eBw0 := Hd.mk (Nat.le_trans eBw0.out hX.size)
  replace x0 := Hd.mk (Ty.O_below x0.out hX)
  replace ex0 := Hd.mk (Nat.le_trans ex0.out hX.size)
  replace Bx0 := Hd.mk (Bx0.out.below hX)
  replace eBx0 := Hd.mk (Nat.le_trans eBx0.out hX.size)
  replace x1 := Hd.mk (Ty.O_below x1.out hX)
  replace ex1 := Hd.mk (Nat.le_trans ex1.out hX.size)
  replace Bx1 := Hd.mk (Bx1.out.below hX)
  replace eBx1 := Hd.mk (Nat.le_trans eBx1.out hX.size)
  replace g0 := Hd.mk (Ty.O_below g0.out hX)
  replace eg0 := Hd.mk (Nat.le_trans eg0.out hX.size)
  replace Bg0 := Hd.mk (Bg0.out.below hX)
  replace eBg0 := Hd.mk (Nat.le_trans eBg0.out hX.size)
  replace t1 := Hd.mk (Ty.O_below t1.out hX)
  replace et1 := Hd.mk (Nat.le_trans et1.out hX.size)
  replace hB := Hd.mk (below_then hB.out hX)
  replace hS := Hd.mk (below_then hS.out hX)
  clear hX
  rw [eqv_self]
  have fb00 : w66.cell? ⟨w.heap.size, 0, none⟩ = some (Value.slice A0 x.cols.length c0) := b0.out.cell 0 rfl
  have fb01 : w66.cell? ⟨w.heap.size, 1, none⟩ = some (Value.int IntKind.i64 x.ver) := b0.out.cell 1 rfl
  have fb02 : w66.cell? ⟨w.heap.size, 2, none⟩ = some (Value.slice A0B x.tabs.length c0B) := b0.out.cell 2 rfl
  have fb10 : w66.cell? ⟨w.heap.size + 1, 0, none⟩ = some (Value.int IntKind.i64 u.table) := b1.out.cell 0 rfl
  have fb11 : w66.cell? ⟨w.heap.size + 1, 1, none⟩ = some (Value.bool u.had) := b1.out.cell 1 rfl
  have fb12 : w66.cell? ⟨w.heap.size + 1, 2, none⟩ = some (Value.bool u.has) := b1.out.cell 2 rfl
  have fb13 : w66.cell? ⟨w.heap.size + 1, 3, none⟩ = some (Value.int IntKind.i64 u.old.id) := b1.out.cell 3 rfl
  have fb14 : w66.cell? ⟨w.heap.size + 1, 4, none⟩ = some (Value.slice A1 u.old.cells.length c1) := b1.out.cell 4 rfl
  have fb15 : w66.cell? ⟨w.heap.size + 1, 5, none⟩ = some (Value.int IntKind.i64 u.new.id) := b1.out.cell 5 rfl
  have fb16 : w66.cell? ⟨w.heap.size + 1, 6, none⟩ = some (Value.slice A1B u.new.cells.length c1B) := b1.out.cell 6 rfl
  have fBw00 : w66.cell? ⟨p, 0, none⟩ = some (Value.slice Aw0 y.cols.length cw0) := Bw0.out.cell 0 rfl
  have fBw01 : w66.cell? ⟨p, 1, none⟩ = some (Value.int IntKind.i64 y.ver) := Bw0.out.cell 1 rfl
  have fBw02 : w66.cell? ⟨p, 2, none⟩ = some (Value.slice Aw0B y.tabs.length cw0B) := Bw0.out.cell 2 rfl
  have fBx00 : w66.cell? ⟨w52.heap.size, 0, none⟩ = some (Value.slice Ax0 x.cols.length cx0) := Bx0.out.cell 0 rfl
  have fBx01 : w66.cell? ⟨w52.heap.size, 1, none⟩ = some (Value.int IntKind.i64 x.ver) := Bx0.out.cell 1 rfl
  have fBx02 : w66.cell? ⟨w52.heap.size, 2, none⟩ = some (Value.slice Ax0B x.tabs.length cx0B) := Bx0.out.cell 2 rfl
  have fBx10 : w66.cell? ⟨w54.heap.size, 0, none⟩ = some (Value.int IntKind.i64 u.table) := Bx1.out.cell 0 rfl
  have fBx11 : w66.cell? ⟨w54.heap.size, 1, none⟩ = some (Value.bool u.had) := Bx1.out.cell 1 rfl
  have fBx12 : w66.cell? ⟨w54.heap.size, 2, none⟩ = some (Value.bool u.has) := Bx1.out.cell 2 rfl
  have fBx13 : w66.cell? ⟨w54.heap.size, 3, none⟩ = some (Value.int IntKind.i64 u.old.id) := Bx1.out.cell 3 rfl
  have fBx14 : w66.cell? ⟨w54.heap.size, 4, none⟩ = some (Value.slice Ax1 u.old.cells.length cx1) := Bx1.out.cell 4 rfl
  have fBx15 : w66.cell? ⟨w54.heap.size, 5, none⟩ = some (Value.int IntKind.i64 u.new.id) := Bx1.out.cell 5 rfl
  have fBx16 : w66.cell? ⟨w54.heap.size, 6, none⟩ = some (Value.slice Ax1B u.new.cells.length cx1B) := Bx1.out.cell 6 rfl
  have fBg00 : w66.cell? ⟨w56.heap.size, 0, none⟩ = some (Value.slice Ag0 y.cols.length cg0) := Bg0.out.cell 0 rfl
  have fBg01 : w66.cell? ⟨w56.heap.size, 1, none⟩ = some (Value.int IntKind.i64 y.ver) := Bg0.out.cell 1 rfl
  have fBg02 : w66.cell? ⟨w56.heap.size, 2, none⟩ = some (Value.slice Ag0B y.tabs.length cg0B) := Bg0.out.cell 2 rfl
  have rfb00 := cell_regrown fb00
  have rfb01 := cell_regrown fb01
  have rfb02 := cell_regrown fb02
  have rfb10 := cell_regrown fb10
  have rfb11 := cell_regrown fb11
  have rfb12 := cell_regrown fb12
  have rfb13 := cell_regrown fb13
  have rfb14 := cell_regrown fb14
  have rfb15 := cell_regrown fb15
  have rfb16 := cell_regrown fb16
  have rfBw00 := cell_regrown fBw00
  have rfBw01 := cell_regrown fBw01
  have rfBw02 := cell_regrown fBw02
  have rfBx00 := cell_regrown fBx00
  have rfBx01 := cell_regrown fBx01
  have rfBx02 := cell_regrown fBx02
  have rfBx10 := cell_regrown fBx10
  have rfBx11 := cell_regrown fBx11
  have rfBx12 := cell_regrown fBx12
  have rfBx13 := cell_regrown fBx13
  have rfBx14 := cell_regrown fBx14
  have rfBx15 := cell_regrown fBx15
  have rfBx16 := cell_regrown fBx16
  have rfBg00 := cell_regrown fBg00
  have rfBg01 := cell_regrown fBg01
  have rfBg02 := cell_regrown fBg02
  go_wp2_with fail
  refine ⟨cls_below hS.out, ?_⟩
  try (repeat (refine mix_q rfl ?_; go_big_quiet_want; go_big_quiet_op; go_big_quiet_on; refine wpQuiet_nil ?_))
  refine mix_nil ?_
  clear rfb00 rfb01 rfb02 rfb10 rfb11 rfb12 rfb13 rfb14 rfb15 rfb16 rfBw00 rfBw01 rfBw02 rfBx00 rfBx01 rfBx02 rfBx10 rfBx11 rfBx12 rfBx13 rfBx14 rfBx15 rfBx16 rfBg00 rfBg01 rfBg02
  clear hS
  go_wp2_with fail
  clear fb00 fb01 fb02 fb10 fb11 fb12 fb13 fb14 fb15 fb16 fBw00 fBw01 fBw02 fBx00 fBx01 fBx02 fBx10 fBx11 fBx12 fBx13 fBx14 fBx15 fBx16 fBg00 fBg01 fBg02
  clear t1 et1
  have fb00 : w66.cell? ⟨w.heap.size, 0, none⟩ = some (Value.slice A0 x.cols.length c0) := b0.out.cell 0 rfl
  have fb01 : w66.cell? ⟨w.heap.size, 1, none⟩ = some (Value.int IntKind.i64 x.ver) := b0.out.cell 1 rfl
  have fb02 : w66.cell? ⟨w.heap.size, 2, none⟩ = some (Value.slice A0B x.tabs.length c0B) := b0.out.cell 2 rfl
  have fb10 : w66.cell? ⟨w.heap.size + 1, 0, none⟩ = some (Value.int IntKind.i64 u.table) := b1.out.cell 0 rfl
  have fb11 : w66.cell? ⟨w.heap.size + 1, 1, none⟩ = some (Value.bool u.had) := b1.out.cell 1 rfl
  have fb12 : w66.cell? ⟨w.heap.size + 1, 2, none⟩ = some (Value.bool u.has) := b1.out.cell 2 rfl
  have fb13 : w66.cell? ⟨w.heap.size + 1, 3, none⟩ = some (Value.int IntKind.i64 u.old.id) := b1.out.cell 3 rfl
  have fb14 : w66.cell? ⟨w.heap.size + 1, 4, none⟩ = some (Value.slice A1 u.old.cells.length c1) := b1.out.cell 4 rfl
  have fb15 : w66.cell? ⟨w.heap.size + 1, 5, none⟩ = some (Value.int IntKind.i64 u.new.id) := b1.out.cell 5 rfl
  have fb16 : w66.cell? ⟨w.heap.size + 1, 6, none⟩ = some (Value.slice A1B u.new.cells.length c1B) := b1.out.cell 6 rfl
  have fBw00 : w66.cell? ⟨p, 0, none⟩ = some (Value.slice Aw0 y.cols.length cw0) := Bw0.out.cell 0 rfl
  have fBw01 : w66.cell? ⟨p, 1, none⟩ = some (Value.int IntKind.i64 y.ver) := Bw0.out.cell 1 rfl
  have fBw02 : w66.cell? ⟨p, 2, none⟩ = some (Value.slice Aw0B y.tabs.length cw0B) := Bw0.out.cell 2 rfl
  have fBx00 : w66.cell? ⟨w52.heap.size, 0, none⟩ = some (Value.slice Ax0 x.cols.length cx0) := Bx0.out.cell 0 rfl
  have fBx01 : w66.cell? ⟨w52.heap.size, 1, none⟩ = some (Value.int IntKind.i64 x.ver) := Bx0.out.cell 1 rfl
  have fBx02 : w66.cell? ⟨w52.heap.size, 2, none⟩ = some (Value.slice Ax0B x.tabs.length cx0B) := Bx0.out.cell 2 rfl
  have fBx10 : w66.cell? ⟨w54.heap.size, 0, none⟩ = some (Value.int IntKind.i64 u.table) := Bx1.out.cell 0 rfl
  have fBx11 : w66.cell? ⟨w54.heap.size, 1, none⟩ = some (Value.bool u.had) := Bx1.out.cell 1 rfl
  have fBx12 : w66.cell? ⟨w54.heap.size, 2, none⟩ = some (Value.bool u.has) := Bx1.out.cell 2 rfl
  have fBx13 : w66.cell? ⟨w54.heap.size, 3, none⟩ = some (Value.int IntKind.i64 u.old.id) := Bx1.out.cell 3 rfl
  have fBx14 : w66.cell? ⟨w54.heap.size, 4, none⟩ = some (Value.slice Ax1 u.old.cells.length cx1) := Bx1.out.cell 4 rfl
  have fBx15 : w66.cell? ⟨w54.heap.size, 5, none⟩ = some (Value.int IntKind.i64 u.new.id) := Bx1.out.cell 5 rfl
  have fBx16 : w66.cell? ⟨w54.heap.size, 6, none⟩ = some (Value.slice Ax1B u.new.cells.length cx1B) := Bx1.out.cell 6 rfl
  have fBg00 : w66.cell? ⟨w56.heap.size, 0, none⟩ = some (Value.slice Ag0 y.cols.length cg0) := Bg0.out.cell 0 rfl
  have fBg01 : w66.cell? ⟨w56.heap.size, 1, none⟩ = some (Value.int IntKind.i64 y.ver) := Bg0.out.cell 1 rfl
  have fBg02 : w66.cell? ⟨w56.heap.size, 2, none⟩ = some (Value.slice Ag0B y.tabs.length cg0B) := Bg0.out.cell 2 rfl
  go_wp2_with fail
  clear fb00 fb01 fb02 fb10 fb11 fb12 fb13 fb14 fb15 fb16 fBw00 fBw01 fBw02 fBx00 fBx01 fBx02 fBx10 fBx11 fBx12 fBx13 fBx14 fBx15 fBx16 fBg00 fBg01 fBg02
  apply calls_gen; intro W67 hW
  have hE : Below w66.heap.size w66 W67 := by rw [hW]; (repeat (first | with_reducible refine below_alloc ?_ _ | with_reducible refine below_drew ?_)); exact Below.refl _ _
  clear hW
  replace b0 := Hd.mk (b0.out.below hE)
  replace eb0 := Hd.mk (Nat.le_trans eb0.out hE.size)
  replace b1 := Hd.mk (b1.out.below hE)
  replace eb1 := Hd.mk (Nat.le_trans eb1.out hE.size)
  replace w0 := Hd.mk (Ty.O_below w0.out hE)
  replace ew0 := Hd.mk (Nat.le_trans ew0.out hE.size)
  replace Bw0 := Hd.mk (Bw0.out.below hE)
  replace eBw0 := Hd.mk (Nat.le_trans eBw0.out hE.size)
  replace x0 := Hd.mk (Ty.O_below x0.out hE)
  replace ex0 := Hd.mk (Nat.le_trans ex0.out hE.size)
  replace Bx0 := Hd.mk (Bx0.out.below hE)
  replace eBx0 := Hd.mk (Nat.le_trans eBx0.out hE.size)
  replace x1 := Hd.mk (Ty.O_below x1.out hE)
  replace ex1 := Hd.mk (Nat.le_trans ex1.out hE.size)
  replace Bx1 := Hd.mk (Bx1.out.below hE)
  replace eBx1 := Hd.mk (Nat.le_trans eBx1.out hE.size)
  replace g0 := Hd.mk (Ty.O_below g0.out hE)
  replace eg0 := Hd.mk (Nat.le_trans eg0.out hE.size)
  replace Bg0 := Hd.mk (Bg0.out.below hE)
  replace eBg0 := Hd.mk (Nat.le_trans eBg0.out hE.size)
  replace hB := Hd.mk (below_then hB.out hE)
  clear hE
  refine (laws_markStore _ _ (1) _ x0.out (by omega) (by omega)).mono ?_
  rintro e w68 ⟨rfl, hM, hX⟩
  have hsz_ := hX.size
  replace b0 := Hd.mk (b0.out.fr hX (rng_not (Or.inl db0_x0.out)))
  replace eb0 := Hd.mk (Nat.le_trans eb0.out hsz_)
  replace b1 := Hd.mk (b1.out.fr hX (rng_not (Or.inl db1_x0.out)))
  replace eb1 := Hd.mk (Nat.le_trans eb1.out hsz_)
  replace w0 := Hd.mk (Ty.O_fr w0.out hX (rng_off (Or.inl dw0_x0.out)))
  replace ew0 := Hd.mk (Nat.le_trans ew0.out hsz_)
  replace Bw0 := Hd.mk (Bw0.out.fr hX (rng_not (Or.inl dBw0_x0.out)))
  replace eBw0 := Hd.mk (Nat.le_trans eBw0.out hsz_)
  replace ex0 := Hd.mk (Nat.le_trans ex0.out hsz_)
  replace Bx0 := Hd.mk (Bx0.out.fr hX (rng_not (Or.inr dx0_Bx0.out)))
  replace eBx0 := Hd.mk (Nat.le_trans eBx0.out hsz_)
  replace x1 := Hd.mk (Ty.O_fr x1.out hX (rng_off (Or.inr dx0_x1.out)))
  replace ex1 := Hd.mk (Nat.le_trans ex1.out hsz_)
  replace Bx1 := Hd.mk (Bx1.out.fr hX (rng_not (Or.inr dx0_Bx1.out)))
  replace eBx1 := Hd.mk (Nat.le_trans eBx1.out hsz_)
  replace g0 := Hd.mk (Ty.O_fr g0.out hX (rng_off (Or.inr dx0_g0.out)))
  replace eg0 := Hd.mk (Nat.le_trans eg0.out hsz_)
  replace Bg0 := Hd.mk (Bg0.out.fr hX (rng_not (Or.inr dx0_Bg0.out)))
  replace eBg0 := Hd.mk (Nat.le_trans eBg0.out hsz_)
  replace hB := Hd.mk (below_rng hB.out hX ax0.out)
  clear hsz_
  clear hX
  clear hM
  clear x0 ex0
  have fb00 : w68.cell? ⟨w.heap.size, 0, none⟩ = some (Value.slice A0 x.cols.length c0) := b0.out.cell 0 rfl
  have fb01 : w68.cell? ⟨w.heap.size, 1, none⟩ = some (Value.int IntKind.i64 x.ver) := b0.out.cell 1 rfl
  have fb02 : w68.cell? ⟨w.heap.size, 2, none⟩ = some (Value.slice A0B x.tabs.length c0B) := b0.out.cell 2 rfl
  have fb10 : w68.cell? ⟨w.heap.size + 1, 0, none⟩ = some (Value.int IntKind.i64 u.table) := b1.out.cell 0 rfl
  have fb11 : w68.cell? ⟨w.heap.size + 1, 1, none⟩ = some (Value.bool u.had) := b1.out.cell 1 rfl
  have fb12 : w68.cell? ⟨w.heap.size + 1, 2, none⟩ = some (Value.bool u.has) := b1.out.cell 2 rfl
  have fb13 : w68.cell? ⟨w.heap.size + 1, 3, none⟩ = some (Value.int IntKind.i64 u.old.id) := b1.out.cell 3 rfl
  have fb14 : w68.cell? ⟨w.heap.size + 1, 4, none⟩ = some (Value.slice A1 u.old.cells.length c1) := b1.out.cell 4 rfl
  have fb15 : w68.cell? ⟨w.heap.size + 1, 5, none⟩ = some (Value.int IntKind.i64 u.new.id) := b1.out.cell 5 rfl
  have fb16 : w68.cell? ⟨w.heap.size + 1, 6, none⟩ = some (Value.slice A1B u.new.cells.length c1B) := b1.out.cell 6 rfl
  have fBw00 : w68.cell? ⟨p, 0, none⟩ = some (Value.slice Aw0 y.cols.length cw0) := Bw0.out.cell 0 rfl
  have fBw01 : w68.cell? ⟨p, 1, none⟩ = some (Value.int IntKind.i64 y.ver) := Bw0.out.cell 1 rfl
  have fBw02 : w68.cell? ⟨p, 2, none⟩ = some (Value.slice Aw0B y.tabs.length cw0B) := Bw0.out.cell 2 rfl
  have fBx00 : w68.cell? ⟨w52.heap.size, 0, none⟩ = some (Value.slice Ax0 x.cols.length cx0) := Bx0.out.cell 0 rfl
  have fBx01 : w68.cell? ⟨w52.heap.size, 1, none⟩ = some (Value.int IntKind.i64 x.ver) := Bx0.out.cell 1 rfl
  have fBx02 : w68.cell? ⟨w52.heap.size, 2, none⟩ = some (Value.slice Ax0B x.tabs.length cx0B) := Bx0.out.cell 2 rfl
  have fBx10 : w68.cell? ⟨w54.heap.size, 0, none⟩ = some (Value.int IntKind.i64 u.table) := Bx1.out.cell 0 rfl
  have fBx11 : w68.cell? ⟨w54.heap.size, 1, none⟩ = some (Value.bool u.had) := Bx1.out.cell 1 rfl
  have fBx12 : w68.cell? ⟨w54.heap.size, 2, none⟩ = some (Value.bool u.has) := Bx1.out.cell 2 rfl
  have fBx13 : w68.cell? ⟨w54.heap.size, 3, none⟩ = some (Value.int IntKind.i64 u.old.id) := Bx1.out.cell 3 rfl
  have fBx14 : w68.cell? ⟨w54.heap.size, 4, none⟩ = some (Value.slice Ax1 u.old.cells.length cx1) := Bx1.out.cell 4 rfl
  have fBx15 : w68.cell? ⟨w54.heap.size, 5, none⟩ = some (Value.int IntKind.i64 u.new.id) := Bx1.out.cell 5 rfl
  have fBx16 : w68.cell? ⟨w54.heap.size, 6, none⟩ = some (Value.slice Ax1B u.new.cells.length cx1B) := Bx1.out.cell 6 rfl
  have fBg00 : w68.cell? ⟨w56.heap.size, 0, none⟩ = some (Value.slice Ag0 y.cols.length cg0) := Bg0.out.cell 0 rfl
  have fBg01 : w68.cell? ⟨w56.heap.size, 1, none⟩ = some (Value.int IntKind.i64 y.ver) := Bg0.out.cell 1 rfl
  have fBg02 : w68.cell? ⟨w56.heap.size, 2, none⟩ = some (Value.slice Ag0B y.tabs.length cg0B) := Bg0.out.cell 2 rfl
  go_wp2_with fail
  clear fb00 fb01 fb02 fb10 fb11 fb12 fb13 fb14 fb15 fb16 fBw00 fBw01 fBw02 fBx00 fBx01 fBx02 fBx10 fBx11 fBx12 fBx13 fBx14 fBx15 fBx16 fBg00 fBg01 fBg02
  apply calls_gen; intro W69 hW
  have hE : Below w68.heap.size w68 W69 := by rw [hW]; (repeat (first | with_reducible refine below_alloc ?_ _ | with_reducible refine below_drew ?_)); exact Below.refl _ _
  clear hW
  replace b0 := Hd.mk (b0.out.below hE)
  replace eb0 := Hd.mk (Nat.le_trans eb0.out hE.size)
  replace b1 := Hd.mk (b1.out.below hE)
  replace eb1 := Hd.mk (Nat.le_trans eb1.out hE.size)
  replace w0 := Hd.mk (Ty.O_below w0.out hE)
  replace ew0 := Hd.mk (Nat.le_trans ew0.out hE.size)
  replace Bw0 := Hd.mk (Bw0.out.below hE)
  replace eBw0 := Hd.mk (Nat.le_trans eBw0.out hE.size)
  replace Bx0 := Hd.mk (Bx0.out.below hE)
  replace eBx0 := Hd.mk (Nat.le_trans eBx0.out hE.size)
  replace x1 := Hd.mk (Ty.O_below x1.out hE)
  replace ex1 := Hd.mk (Nat.le_trans ex1.out hE.size)
  replace Bx1 := Hd.mk (Bx1.out.below hE)
  replace eBx1 := Hd.mk (Nat.le_trans eBx1.out hE.size)
  replace g0 := Hd.mk (Ty.O_below g0.out hE)
  replace eg0 := Hd.mk (Nat.le_trans eg0.out hE.size)
  replace Bg0 := Hd.mk (Bg0.out.below hE)
  replace eBg0 := Hd.mk (Nat.le_trans eBg0.out hE.size)
  replace hB := Hd.mk (below_then hB.out hE)
  clear hE
  refine (laws_markChange _ _ (1 + (x.cols.length : Int) + (bulkL cnRows x.tabs : Int)) _ x1.out (by omega) (by omega)).mono ?_
  rintro e w70 ⟨rfl, hM, hX⟩
  have hsz_ := hX.size
  replace b0 := Hd.mk (b0.out.fr hX (rng_not (Or.inl db0_x1.out)))
  replace eb0 := Hd.mk (Nat.le_trans eb0.out hsz_)
  replace b1 := Hd.mk (b1.out.fr hX (rng_not (Or.inl db1_x1.out)))
  replace eb1 := Hd.mk (Nat.le_trans eb1.out hsz_)
  replace w0 := Hd.mk (Ty.O_fr w0.out hX (rng_off (Or.inl dw0_x1.out)))
  replace ew0 := Hd.mk (Nat.le_trans ew0.out hsz_)
  replace Bw0 := Hd.mk (Bw0.out.fr hX (rng_not (Or.inl dBw0_x1.out)))
  replace eBw0 := Hd.mk (Nat.le_trans eBw0.out hsz_)
  replace Bx0 := Hd.mk (Bx0.out.fr hX (rng_not (Or.inl dBx0_x1.out)))
  replace eBx0 := Hd.mk (Nat.le_trans eBx0.out hsz_)
  replace ex1 := Hd.mk (Nat.le_trans ex1.out hsz_)
  replace Bx1 := Hd.mk (Bx1.out.fr hX (rng_not (Or.inr dx1_Bx1.out)))
  replace eBx1 := Hd.mk (Nat.le_trans eBx1.out hsz_)
  replace g0 := Hd.mk (Ty.O_fr g0.out hX (rng_off (Or.inr dx1_g0.out)))
  replace eg0 := Hd.mk (Nat.le_trans eg0.out hsz_)
  replace Bg0 := Hd.mk (Bg0.out.fr hX (rng_not (Or.inr dx1_Bg0.out)))
  replace eBg0 := Hd.mk (Nat.le_trans eBg0.out hsz_)
  replace hB := Hd.mk (below_rng hB.out hX ax1.out)
  clear hsz_
  clear hX
  clear hM
  clear x1 ex1
  have hkp : (0 : Int) ≤ 1 + (x.cols.length : Int) + (bulkL cnRows x.tabs : Int) + (u.old.cells.length : Int) + (u.new.cells.length : Int) := by omega
  have fb00 : w70.cell? ⟨w.heap.size, 0, none⟩ = some (Value.slice A0 x.cols.length c0) := b0.out.cell 0 rfl
  have fb01 : w70.cell? ⟨w.heap.size, 1, none⟩ = some (Value.int IntKind.i64 x.ver) := b0.out.cell 1 rfl
  have fb02 : w70.cell? ⟨w.heap.size, 2, none⟩ = some (Value.slice A0B x.tabs.length c0B) := b0.out.cell 2 rfl
  have fb10 : w70.cell? ⟨w.heap.size + 1, 0, none⟩ = some (Value.int IntKind.i64 u.table) := b1.out.cell 0 rfl
  have fb11 : w70.cell? ⟨w.heap.size + 1, 1, none⟩ = some (Value.bool u.had) := b1.out.cell 1 rfl
  have fb12 : w70.cell? ⟨w.heap.size + 1, 2, none⟩ = some (Value.bool u.has) := b1.out.cell 2 rfl
  have fb13 : w70.cell? ⟨w.heap.size + 1, 3, none⟩ = some (Value.int IntKind.i64 u.old.id) := b1.out.cell 3 rfl
  have fb14 : w70.cell? ⟨w.heap.size + 1, 4, none⟩ = some (Value.slice A1 u.old.cells.length c1) := b1.out.cell 4 rfl
  have fb15 : w70.cell? ⟨w.heap.size + 1, 5, none⟩ = some (Value.int IntKind.i64 u.new.id) := b1.out.cell 5 rfl
  have fb16 : w70.cell? ⟨w.heap.size + 1, 6, none⟩ = some (Value.slice A1B u.new.cells.length c1B) := b1.out.cell 6 rfl
  have fBw00 : w70.cell? ⟨p, 0, none⟩ = some (Value.slice Aw0 y.cols.length cw0) := Bw0.out.cell 0 rfl
  have fBw01 : w70.cell? ⟨p, 1, none⟩ = some (Value.int IntKind.i64 y.ver) := Bw0.out.cell 1 rfl
  have fBw02 : w70.cell? ⟨p, 2, none⟩ = some (Value.slice Aw0B y.tabs.length cw0B) := Bw0.out.cell 2 rfl
  have fBx00 : w70.cell? ⟨w52.heap.size, 0, none⟩ = some (Value.slice Ax0 x.cols.length cx0) := Bx0.out.cell 0 rfl
  have fBx01 : w70.cell? ⟨w52.heap.size, 1, none⟩ = some (Value.int IntKind.i64 x.ver) := Bx0.out.cell 1 rfl
  have fBx02 : w70.cell? ⟨w52.heap.size, 2, none⟩ = some (Value.slice Ax0B x.tabs.length cx0B) := Bx0.out.cell 2 rfl
  have fBx10 : w70.cell? ⟨w54.heap.size, 0, none⟩ = some (Value.int IntKind.i64 u.table) := Bx1.out.cell 0 rfl
  have fBx11 : w70.cell? ⟨w54.heap.size, 1, none⟩ = some (Value.bool u.had) := Bx1.out.cell 1 rfl
  have fBx12 : w70.cell? ⟨w54.heap.size, 2, none⟩ = some (Value.bool u.has) := Bx1.out.cell 2 rfl
  have fBx13 : w70.cell? ⟨w54.heap.size, 3, none⟩ = some (Value.int IntKind.i64 u.old.id) := Bx1.out.cell 3 rfl
  have fBx14 : w70.cell? ⟨w54.heap.size, 4, none⟩ = some (Value.slice Ax1 u.old.cells.length cx1) := Bx1.out.cell 4 rfl
  have fBx15 : w70.cell? ⟨w54.heap.size, 5, none⟩ = some (Value.int IntKind.i64 u.new.id) := Bx1.out.cell 5 rfl
  have fBx16 : w70.cell? ⟨w54.heap.size, 6, none⟩ = some (Value.slice Ax1B u.new.cells.length cx1B) := Bx1.out.cell 6 rfl
  have fBg00 : w70.cell? ⟨w56.heap.size, 0, none⟩ = some (Value.slice Ag0 y.cols.length cg0) := Bg0.out.cell 0 rfl
  have fBg01 : w70.cell? ⟨w56.heap.size, 1, none⟩ = some (Value.int IntKind.i64 y.ver) := Bg0.out.cell 1 rfl
  have fBg02 : w70.cell? ⟨w56.heap.size, 2, none⟩ = some (Value.slice Ag0B y.tabs.length cg0B) := Bg0.out.cell 2 rfl
  go_wp2_with fail
  clear fb00 fb01 fb02 fb10 fb11 fb12 fb13 fb14 fb15 fb16 fBw00 fBw01 fBw02 fBx00 fBx01 fBx02 fBx10 fBx11 fBx12 fBx13 fBx14 fBx15 fBx16 fBg00 fBg01 fBg02
  apply calls_gen; intro W71 hW
  have hE : Below w70.heap.size w70 W71 := by rw [hW]; (repeat (first | with_reducible refine below_alloc ?_ _ | with_reducible refine below_drew ?_)); exact Below.refl _ _
  clear hW
  replace b0 := Hd.mk (b0.out.below hE)
  replace eb0 := Hd.mk (Nat.le_trans eb0.out hE.size)
  replace b1 := Hd.mk (b1.out.below hE)
  replace eb1 := Hd.mk (Nat.le_trans eb1.out hE.size)
  replace w0 := Hd.mk (Ty.O_below w0.out hE)
  replace ew0 := Hd.mk (Nat.le_trans ew0.out hE.size)
  replace Bw0 := Hd.mk (Bw0.out.below hE)
  replace eBw0 := Hd.mk (Nat.le_trans eBw0.out hE.size)
  replace Bx0 := Hd.mk (Bx0.out.below hE)
  replace eBx0 := Hd.mk (Nat.le_trans eBx0.out hE.size)
  replace Bx1 := Hd.mk (Bx1.out.below hE)
  replace eBx1 := Hd.mk (Nat.le_trans eBx1.out hE.size)
  replace g0 := Hd.mk (Ty.O_below g0.out hE)
  replace eg0 := Hd.mk (Nat.le_trans eg0.out hE.size)
  replace Bg0 := Hd.mk (Bg0.out.below hE)
  replace eBg0 := Hd.mk (Nat.le_trans eBg0.out hE.size)
  replace hB := Hd.mk (below_then hB.out hE)
  clear hE
  refine (laws_eqStore y y _ _ _ (tStore.O_K g0.out) (tStore.O_K w0.out)).mono ?_
  rintro e w72 ⟨rfl, hX⟩
  replace b0 := Hd.mk (b0.out.below hX)
  replace eb0 := Hd.mk (Nat.le_trans eb0.out hX.size)
  replace b1 := Hd.mk (b1.out.below hX)
  replace eb1 := Hd.mk (Nat.le_trans eb1.out hX.size)
  replace w0 := Hd.mk (Ty.O_below w0.out hX)
  replace ew0 := Hd.mk (Nat.le_trans ew0.out hX.size)
  replace Bw0 := Hd.mk (Bw0.out.below hX)
  replace eBw0 := Hd.mk (Nat.le_trans eBw0.out hX.size)
  replace Bx0 := Hd.mk (Bx0.out.below hX)
  replace eBx0 := Hd.mk (Nat.le_trans eBx0.out hX.size)
  replace Bx1 := Hd.mk (Bx1.out.below hX)
  replace eBx1 := Hd.mk (Nat.le_trans eBx1.out hX.size)
  replace g0 := Hd.mk (Ty.O_below g0.out hX)
  replace eg0 := Hd.mk (Nat.le_trans eg0.out hX.size)
  replace Bg0 := Hd.mk (Bg0.out.below hX)
  replace eBg0 := Hd.mk (Nat.le_trans eBg0.out hX.size)
  replace hB := Hd.mk (below_then hB.out hX)
  clear hX
  rw [eqv_self]
  have fb00 : w72.cell? ⟨w.heap.size, 0, none⟩ = some (Value.slice A0 x.cols.length c0) := b0.out.cell 0 rfl
  have fb01 : w72.cell? ⟨w.heap.size, 1, none⟩ = some (Value.int IntKind.i64 x.ver) := b0.out.cell 1 rfl
  have fb02 : w72.cell? ⟨w.heap.size, 2, none⟩ = some (Value.slice A0B x.tabs.length c0B) := b0.out.cell 2 rfl
  have fb10 : w72.cell? ⟨w.heap.size + 1, 0, none⟩ = some (Value.int IntKind.i64 u.table) := b1.out.cell 0 rfl
  have fb11 : w72.cell? ⟨w.heap.size + 1, 1, none⟩ = some (Value.bool u.had) := b1.out.cell 1 rfl
  have fb12 : w72.cell? ⟨w.heap.size + 1, 2, none⟩ = some (Value.bool u.has) := b1.out.cell 2 rfl
  have fb13 : w72.cell? ⟨w.heap.size + 1, 3, none⟩ = some (Value.int IntKind.i64 u.old.id) := b1.out.cell 3 rfl
  have fb14 : w72.cell? ⟨w.heap.size + 1, 4, none⟩ = some (Value.slice A1 u.old.cells.length c1) := b1.out.cell 4 rfl
  have fb15 : w72.cell? ⟨w.heap.size + 1, 5, none⟩ = some (Value.int IntKind.i64 u.new.id) := b1.out.cell 5 rfl
  have fb16 : w72.cell? ⟨w.heap.size + 1, 6, none⟩ = some (Value.slice A1B u.new.cells.length c1B) := b1.out.cell 6 rfl
  have fBw00 : w72.cell? ⟨p, 0, none⟩ = some (Value.slice Aw0 y.cols.length cw0) := Bw0.out.cell 0 rfl
  have fBw01 : w72.cell? ⟨p, 1, none⟩ = some (Value.int IntKind.i64 y.ver) := Bw0.out.cell 1 rfl
  have fBw02 : w72.cell? ⟨p, 2, none⟩ = some (Value.slice Aw0B y.tabs.length cw0B) := Bw0.out.cell 2 rfl
  have fBx00 : w72.cell? ⟨w52.heap.size, 0, none⟩ = some (Value.slice Ax0 x.cols.length cx0) := Bx0.out.cell 0 rfl
  have fBx01 : w72.cell? ⟨w52.heap.size, 1, none⟩ = some (Value.int IntKind.i64 x.ver) := Bx0.out.cell 1 rfl
  have fBx02 : w72.cell? ⟨w52.heap.size, 2, none⟩ = some (Value.slice Ax0B x.tabs.length cx0B) := Bx0.out.cell 2 rfl
  have fBx10 : w72.cell? ⟨w54.heap.size, 0, none⟩ = some (Value.int IntKind.i64 u.table) := Bx1.out.cell 0 rfl
  have fBx11 : w72.cell? ⟨w54.heap.size, 1, none⟩ = some (Value.bool u.had) := Bx1.out.cell 1 rfl
  have fBx12 : w72.cell? ⟨w54.heap.size, 2, none⟩ = some (Value.bool u.has) := Bx1.out.cell 2 rfl
  have fBx13 : w72.cell? ⟨w54.heap.size, 3, none⟩ = some (Value.int IntKind.i64 u.old.id) := Bx1.out.cell 3 rfl
  have fBx14 : w72.cell? ⟨w54.heap.size, 4, none⟩ = some (Value.slice Ax1 u.old.cells.length cx1) := Bx1.out.cell 4 rfl
  have fBx15 : w72.cell? ⟨w54.heap.size, 5, none⟩ = some (Value.int IntKind.i64 u.new.id) := Bx1.out.cell 5 rfl
  have fBx16 : w72.cell? ⟨w54.heap.size, 6, none⟩ = some (Value.slice Ax1B u.new.cells.length cx1B) := Bx1.out.cell 6 rfl
  have fBg00 : w72.cell? ⟨w56.heap.size, 0, none⟩ = some (Value.slice Ag0 y.cols.length cg0) := Bg0.out.cell 0 rfl
  have fBg01 : w72.cell? ⟨w56.heap.size, 1, none⟩ = some (Value.int IntKind.i64 y.ver) := Bg0.out.cell 1 rfl
  have fBg02 : w72.cell? ⟨w56.heap.size, 2, none⟩ = some (Value.slice Ag0B y.tabs.length cg0B) := Bg0.out.cell 2 rfl
  go_wp2_with fail
  clear fb00 fb01 fb02 fb10 fb11 fb12 fb13 fb14 fb15 fb16 fBw00 fBw01 fBw02 fBx00 fBx01 fBx02 fBx10 fBx11 fBx12 fBx13 fBx14 fBx15 fBx16 fBg00 fBg01 fBg02
  apply calls_gen; intro W73 hW
  have hE : Below w72.heap.size w72 W73 := by rw [hW]; (repeat (first | with_reducible refine below_alloc ?_ _ | with_reducible refine below_drew ?_)); exact Below.refl _ _
  clear hW
  replace b0 := Hd.mk (b0.out.below hE)
  replace eb0 := Hd.mk (Nat.le_trans eb0.out hE.size)
  replace b1 := Hd.mk (b1.out.below hE)
  replace eb1 := Hd.mk (Nat.le_trans eb1.out hE.size)
  replace w0 := Hd.mk (Ty.O_below w0.out hE)
  replace ew0 := Hd.mk (Nat.le_trans ew0.out hE.size)
  replace Bw0 := Hd.mk (Bw0.out.below hE)
  replace eBw0 := Hd.mk (Nat.le_trans eBw0.out hE.size)
  replace Bx0 := Hd.mk (Bx0.out.below hE)
  replace eBx0 := Hd.mk (Nat.le_trans eBx0.out hE.size)
  replace Bx1 := Hd.mk (Bx1.out.below hE)
  replace eBx1 := Hd.mk (Nat.le_trans eBx1.out hE.size)
  replace g0 := Hd.mk (Ty.O_below g0.out hE)
  replace eg0 := Hd.mk (Nat.le_trans eg0.out hE.size)
  replace Bg0 := Hd.mk (Bg0.out.below hE)
  replace eBg0 := Hd.mk (Nat.le_trans eBg0.out hE.size)
  replace hB := Hd.mk (below_then hB.out hE)
  clear hE
  refine (laws_markStore _ _ (1) _ g0.out (by omega) (by omega)).mono ?_
  rintro e w74 ⟨rfl, hM, hX⟩
  have hsz_ := hX.size
  replace b0 := Hd.mk (b0.out.fr hX (rng_not (Or.inl db0_g0.out)))
  replace eb0 := Hd.mk (Nat.le_trans eb0.out hsz_)
  replace b1 := Hd.mk (b1.out.fr hX (rng_not (Or.inl db1_g0.out)))
  replace eb1 := Hd.mk (Nat.le_trans eb1.out hsz_)
  replace w0 := Hd.mk (Ty.O_fr w0.out hX (rng_off (Or.inl dw0_g0.out)))
  replace ew0 := Hd.mk (Nat.le_trans ew0.out hsz_)
  replace Bw0 := Hd.mk (Bw0.out.fr hX (rng_not (Or.inl dBw0_g0.out)))
  replace eBw0 := Hd.mk (Nat.le_trans eBw0.out hsz_)
  replace Bx0 := Hd.mk (Bx0.out.fr hX (rng_not (Or.inl dBx0_g0.out)))
  replace eBx0 := Hd.mk (Nat.le_trans eBx0.out hsz_)
  replace Bx1 := Hd.mk (Bx1.out.fr hX (rng_not (Or.inl dBx1_g0.out)))
  replace eBx1 := Hd.mk (Nat.le_trans eBx1.out hsz_)
  replace eg0 := Hd.mk (Nat.le_trans eg0.out hsz_)
  replace Bg0 := Hd.mk (Bg0.out.fr hX (rng_not (Or.inr dg0_Bg0.out)))
  replace eBg0 := Hd.mk (Nat.le_trans eBg0.out hsz_)
  replace hB := Hd.mk (below_rng hB.out hX ag0.out)
  clear hsz_
  clear hX
  replace g0 := Hd.mk hM; clear hM
  have hqp : (0 : Int) ≤ 1 + (y.cols.length : Int) + (bulkL cnRows y.tabs : Int) := by omega
  have fb00 : w74.cell? ⟨w.heap.size, 0, none⟩ = some (Value.slice A0 x.cols.length c0) := b0.out.cell 0 rfl
  have fb01 : w74.cell? ⟨w.heap.size, 1, none⟩ = some (Value.int IntKind.i64 x.ver) := b0.out.cell 1 rfl
  have fb02 : w74.cell? ⟨w.heap.size, 2, none⟩ = some (Value.slice A0B x.tabs.length c0B) := b0.out.cell 2 rfl
  have fb10 : w74.cell? ⟨w.heap.size + 1, 0, none⟩ = some (Value.int IntKind.i64 u.table) := b1.out.cell 0 rfl
  have fb11 : w74.cell? ⟨w.heap.size + 1, 1, none⟩ = some (Value.bool u.had) := b1.out.cell 1 rfl
  have fb12 : w74.cell? ⟨w.heap.size + 1, 2, none⟩ = some (Value.bool u.has) := b1.out.cell 2 rfl
  have fb13 : w74.cell? ⟨w.heap.size + 1, 3, none⟩ = some (Value.int IntKind.i64 u.old.id) := b1.out.cell 3 rfl
  have fb14 : w74.cell? ⟨w.heap.size + 1, 4, none⟩ = some (Value.slice A1 u.old.cells.length c1) := b1.out.cell 4 rfl
  have fb15 : w74.cell? ⟨w.heap.size + 1, 5, none⟩ = some (Value.int IntKind.i64 u.new.id) := b1.out.cell 5 rfl
  have fb16 : w74.cell? ⟨w.heap.size + 1, 6, none⟩ = some (Value.slice A1B u.new.cells.length c1B) := b1.out.cell 6 rfl
  have fBw00 : w74.cell? ⟨p, 0, none⟩ = some (Value.slice Aw0 y.cols.length cw0) := Bw0.out.cell 0 rfl
  have fBw01 : w74.cell? ⟨p, 1, none⟩ = some (Value.int IntKind.i64 y.ver) := Bw0.out.cell 1 rfl
  have fBw02 : w74.cell? ⟨p, 2, none⟩ = some (Value.slice Aw0B y.tabs.length cw0B) := Bw0.out.cell 2 rfl
  have fBx00 : w74.cell? ⟨w52.heap.size, 0, none⟩ = some (Value.slice Ax0 x.cols.length cx0) := Bx0.out.cell 0 rfl
  have fBx01 : w74.cell? ⟨w52.heap.size, 1, none⟩ = some (Value.int IntKind.i64 x.ver) := Bx0.out.cell 1 rfl
  have fBx02 : w74.cell? ⟨w52.heap.size, 2, none⟩ = some (Value.slice Ax0B x.tabs.length cx0B) := Bx0.out.cell 2 rfl
  have fBx10 : w74.cell? ⟨w54.heap.size, 0, none⟩ = some (Value.int IntKind.i64 u.table) := Bx1.out.cell 0 rfl
  have fBx11 : w74.cell? ⟨w54.heap.size, 1, none⟩ = some (Value.bool u.had) := Bx1.out.cell 1 rfl
  have fBx12 : w74.cell? ⟨w54.heap.size, 2, none⟩ = some (Value.bool u.has) := Bx1.out.cell 2 rfl
  have fBx13 : w74.cell? ⟨w54.heap.size, 3, none⟩ = some (Value.int IntKind.i64 u.old.id) := Bx1.out.cell 3 rfl
  have fBx14 : w74.cell? ⟨w54.heap.size, 4, none⟩ = some (Value.slice Ax1 u.old.cells.length cx1) := Bx1.out.cell 4 rfl
  have fBx15 : w74.cell? ⟨w54.heap.size, 5, none⟩ = some (Value.int IntKind.i64 u.new.id) := Bx1.out.cell 5 rfl
  have fBx16 : w74.cell? ⟨w54.heap.size, 6, none⟩ = some (Value.slice Ax1B u.new.cells.length cx1B) := Bx1.out.cell 6 rfl
  have fBg00 : w74.cell? ⟨w56.heap.size, 0, none⟩ = some (Value.slice Ag0 y.cols.length cg0) := Bg0.out.cell 0 rfl
  have fBg01 : w74.cell? ⟨w56.heap.size, 1, none⟩ = some (Value.int IntKind.i64 y.ver) := Bg0.out.cell 1 rfl
  have fBg02 : w74.cell? ⟨w56.heap.size, 2, none⟩ = some (Value.slice Ag0B y.tabs.length cg0B) := Bg0.out.cell 2 rfl
  go_wp2_with fail
  clear fb00 fb01 fb02 fb10 fb11 fb12 fb13 fb14 fb15 fb16 fBw00 fBw01 fBw02 fBx00 fBx01 fBx02 fBx10 fBx11 fBx12 fBx13 fBx14 fBx15 fBx16 fBg00 fBg01 fBg02
  apply calls_gen; intro W75 hW
  have hE : Below w74.heap.size w74 W75 := by rw [hW]; (repeat (first | with_reducible refine below_alloc ?_ _ | with_reducible refine below_drew ?_)); exact Below.refl _ _
  clear hW
  replace b0 := Hd.mk (b0.out.below hE)
  replace eb0 := Hd.mk (Nat.le_trans eb0.out hE.size)
  replace b1 := Hd.mk (b1.out.below hE)
  replace eb1 := Hd.mk (Nat.le_trans eb1.out hE.size)
  replace w0 := Hd.mk (Ty.O_below w0.out hE)
  replace ew0 := Hd.mk (Nat.le_trans ew0.out hE.size)
  replace Bw0 := Hd.mk (Bw0.out.below hE)
  replace eBw0 := Hd.mk (Nat.le_trans eBw0.out hE.size)
  replace Bx0 := Hd.mk (Bx0.out.below hE)
  replace eBx0 := Hd.mk (Nat.le_trans eBx0.out hE.size)
  replace Bx1 := Hd.mk (Bx1.out.below hE)
  replace eBx1 := Hd.mk (Nat.le_trans eBx1.out hE.size)
  replace g0 := Hd.mk (Ty.O_below g0.out hE)
  replace eg0 := Hd.mk (Nat.le_trans eg0.out hE.size)
  replace Bg0 := Hd.mk (Bg0.out.below hE)
  replace eBg0 := Hd.mk (Nat.le_trans eBg0.out hE.size)
  replace hB := Hd.mk (below_then hB.out hE)
  clear hE
  refine (laws_heldStore y _ 1 _ (tStore.O_K g0.out) (by omega) (by omega)).mono ?_
  rintro e w76 ⟨rfl, hX⟩
  replace b0 := Hd.mk (b0.out.below hX)
  replace eb0 := Hd.mk (Nat.le_trans eb0.out hX.size)
  replace b1 := Hd.mk (b1.out.below hX)
  replace eb1 := Hd.mk (Nat.le_trans eb1.out hX.size)
  replace w0 := Hd.mk (Ty.O_below w0.out hX)
  replace ew0 := Hd.mk (Nat.le_trans ew0.out hX.size)
  replace Bw0 := Hd.mk (Bw0.out.below hX)
  replace eBw0 := Hd.mk (Nat.le_trans eBw0.out hX.size)
  replace Bx0 := Hd.mk (Bx0.out.below hX)
  replace eBx0 := Hd.mk (Nat.le_trans eBx0.out hX.size)
  replace Bx1 := Hd.mk (Bx1.out.below hX)
  replace eBx1 := Hd.mk (Nat.le_trans eBx1.out hX.size)
  replace g0 := Hd.mk (Ty.O_below g0.out hX)
  replace eg0 := Hd.mk (Nat.le_trans eg0.out hX.size)
  replace Bg0 := Hd.mk (Bg0.out.below hX)
  replace eBg0 := Hd.mk (Nat.le_trans eBg0.out hX.size)
  replace hB := Hd.mk (below_then hB.out hX)
  clear hX
  have fb00 : w76.cell? ⟨w.heap.size, 0, none⟩ = some (Value.slice A0 x.cols.length c0) := b0.out.cell 0 rfl
  have fb01 : w76.cell? ⟨w.heap.size, 1, none⟩ = some (Value.int IntKind.i64 x.ver) := b0.out.cell 1 rfl
  have fb02 : w76.cell? ⟨w.heap.size, 2, none⟩ = some (Value.slice A0B x.tabs.length c0B) := b0.out.cell 2 rfl
  have fb10 : w76.cell? ⟨w.heap.size + 1, 0, none⟩ = some (Value.int IntKind.i64 u.table) := b1.out.cell 0 rfl
  have fb11 : w76.cell? ⟨w.heap.size + 1, 1, none⟩ = some (Value.bool u.had) := b1.out.cell 1 rfl
  have fb12 : w76.cell? ⟨w.heap.size + 1, 2, none⟩ = some (Value.bool u.has) := b1.out.cell 2 rfl
  have fb13 : w76.cell? ⟨w.heap.size + 1, 3, none⟩ = some (Value.int IntKind.i64 u.old.id) := b1.out.cell 3 rfl
  have fb14 : w76.cell? ⟨w.heap.size + 1, 4, none⟩ = some (Value.slice A1 u.old.cells.length c1) := b1.out.cell 4 rfl
  have fb15 : w76.cell? ⟨w.heap.size + 1, 5, none⟩ = some (Value.int IntKind.i64 u.new.id) := b1.out.cell 5 rfl
  have fb16 : w76.cell? ⟨w.heap.size + 1, 6, none⟩ = some (Value.slice A1B u.new.cells.length c1B) := b1.out.cell 6 rfl
  have fBw00 : w76.cell? ⟨p, 0, none⟩ = some (Value.slice Aw0 y.cols.length cw0) := Bw0.out.cell 0 rfl
  have fBw01 : w76.cell? ⟨p, 1, none⟩ = some (Value.int IntKind.i64 y.ver) := Bw0.out.cell 1 rfl
  have fBw02 : w76.cell? ⟨p, 2, none⟩ = some (Value.slice Aw0B y.tabs.length cw0B) := Bw0.out.cell 2 rfl
  have fBx00 : w76.cell? ⟨w52.heap.size, 0, none⟩ = some (Value.slice Ax0 x.cols.length cx0) := Bx0.out.cell 0 rfl
  have fBx01 : w76.cell? ⟨w52.heap.size, 1, none⟩ = some (Value.int IntKind.i64 x.ver) := Bx0.out.cell 1 rfl
  have fBx02 : w76.cell? ⟨w52.heap.size, 2, none⟩ = some (Value.slice Ax0B x.tabs.length cx0B) := Bx0.out.cell 2 rfl
  have fBx10 : w76.cell? ⟨w54.heap.size, 0, none⟩ = some (Value.int IntKind.i64 u.table) := Bx1.out.cell 0 rfl
  have fBx11 : w76.cell? ⟨w54.heap.size, 1, none⟩ = some (Value.bool u.had) := Bx1.out.cell 1 rfl
  have fBx12 : w76.cell? ⟨w54.heap.size, 2, none⟩ = some (Value.bool u.has) := Bx1.out.cell 2 rfl
  have fBx13 : w76.cell? ⟨w54.heap.size, 3, none⟩ = some (Value.int IntKind.i64 u.old.id) := Bx1.out.cell 3 rfl
  have fBx14 : w76.cell? ⟨w54.heap.size, 4, none⟩ = some (Value.slice Ax1 u.old.cells.length cx1) := Bx1.out.cell 4 rfl
  have fBx15 : w76.cell? ⟨w54.heap.size, 5, none⟩ = some (Value.int IntKind.i64 u.new.id) := Bx1.out.cell 5 rfl
  have fBx16 : w76.cell? ⟨w54.heap.size, 6, none⟩ = some (Value.slice Ax1B u.new.cells.length cx1B) := Bx1.out.cell 6 rfl
  have fBg00 : w76.cell? ⟨w56.heap.size, 0, none⟩ = some (Value.slice Ag0 y.cols.length cg0) := Bg0.out.cell 0 rfl
  have fBg01 : w76.cell? ⟨w56.heap.size, 1, none⟩ = some (Value.int IntKind.i64 y.ver) := Bg0.out.cell 1 rfl
  have fBg02 : w76.cell? ⟨w56.heap.size, 2, none⟩ = some (Value.slice Ag0B y.tabs.length cg0B) := Bg0.out.cell 2 rfl
  go_wp2_with fail
  clear fb00 fb01 fb02 fb10 fb11 fb12 fb13 fb14 fb15 fb16 fBw00 fBw01 fBw02 fBx00 fBx01 fBx02 fBx10 fBx11 fBx12 fBx13 fBx14 fBx15 fBx16 fBg00 fBg01 fBg02
  have fb00 : w76.cell? ⟨w.heap.size, 0, none⟩ = some (Value.slice A0 x.cols.length c0) := b0.out.cell 0 rfl
  have fb01 : w76.cell? ⟨w.heap.size, 1, none⟩ = some (Value.int IntKind.i64 x.ver) := b0.out.cell 1 rfl
  have fb02 : w76.cell? ⟨w.heap.size, 2, none⟩ = some (Value.slice A0B x.tabs.length c0B) := b0.out.cell 2 rfl
  have fb10 : w76.cell? ⟨w.heap.size + 1, 0, none⟩ = some (Value.int IntKind.i64 u.table) := b1.out.cell 0 rfl
  have fb11 : w76.cell? ⟨w.heap.size + 1, 1, none⟩ = some (Value.bool u.had) := b1.out.cell 1 rfl
  have fb12 : w76.cell? ⟨w.heap.size + 1, 2, none⟩ = some (Value.bool u.has) := b1.out.cell 2 rfl
  have fb13 : w76.cell? ⟨w.heap.size + 1, 3, none⟩ = some (Value.int IntKind.i64 u.old.id) := b1.out.cell 3 rfl
  have fb14 : w76.cell? ⟨w.heap.size + 1, 4, none⟩ = some (Value.slice A1 u.old.cells.length c1) := b1.out.cell 4 rfl
  have fb15 : w76.cell? ⟨w.heap.size + 1, 5, none⟩ = some (Value.int IntKind.i64 u.new.id) := b1.out.cell 5 rfl
  have fb16 : w76.cell? ⟨w.heap.size + 1, 6, none⟩ = some (Value.slice A1B u.new.cells.length c1B) := b1.out.cell 6 rfl
  have fBw00 : w76.cell? ⟨p, 0, none⟩ = some (Value.slice Aw0 y.cols.length cw0) := Bw0.out.cell 0 rfl
  have fBw01 : w76.cell? ⟨p, 1, none⟩ = some (Value.int IntKind.i64 y.ver) := Bw0.out.cell 1 rfl
  have fBw02 : w76.cell? ⟨p, 2, none⟩ = some (Value.slice Aw0B y.tabs.length cw0B) := Bw0.out.cell 2 rfl
  have fBx00 : w76.cell? ⟨w52.heap.size, 0, none⟩ = some (Value.slice Ax0 x.cols.length cx0) := Bx0.out.cell 0 rfl
  have fBx01 : w76.cell? ⟨w52.heap.size, 1, none⟩ = some (Value.int IntKind.i64 x.ver) := Bx0.out.cell 1 rfl
  have fBx02 : w76.cell? ⟨w52.heap.size, 2, none⟩ = some (Value.slice Ax0B x.tabs.length cx0B) := Bx0.out.cell 2 rfl
  have fBx10 : w76.cell? ⟨w54.heap.size, 0, none⟩ = some (Value.int IntKind.i64 u.table) := Bx1.out.cell 0 rfl
  have fBx11 : w76.cell? ⟨w54.heap.size, 1, none⟩ = some (Value.bool u.had) := Bx1.out.cell 1 rfl
  have fBx12 : w76.cell? ⟨w54.heap.size, 2, none⟩ = some (Value.bool u.has) := Bx1.out.cell 2 rfl
  have fBx13 : w76.cell? ⟨w54.heap.size, 3, none⟩ = some (Value.int IntKind.i64 u.old.id) := Bx1.out.cell 3 rfl
  have fBx14 : w76.cell? ⟨w54.heap.size, 4, none⟩ = some (Value.slice Ax1 u.old.cells.length cx1) := Bx1.out.cell 4 rfl
  have fBx15 : w76.cell? ⟨w54.heap.size, 5, none⟩ = some (Value.int IntKind.i64 u.new.id) := Bx1.out.cell 5 rfl
  have fBx16 : w76.cell? ⟨w54.heap.size, 6, none⟩ = some (Value.slice Ax1B u.new.cells.length cx1B) := Bx1.out.cell 6 rfl
  have fBg00 : w76.cell? ⟨w56.heap.size, 0, none⟩ = some (Value.slice Ag0 y.cols.length cg0) := Bg0.out.cell 0 rfl
  have fBg01 : w76.cell? ⟨w56.heap.size, 1, none⟩ = some (Value.int IntKind.i64 y.ver) := Bg0.out.cell 1 rfl
  have fBg02 : w76.cell? ⟨w56.heap.size, 2, none⟩ = some (Value.slice Ag0B y.tabs.length cg0B) := Bg0.out.cell 2 rfl
  have rfb00 := cell_regrown fb00
  have rfb01 := cell_regrown fb01
  have rfb02 := cell_regrown fb02
  have rfb10 := cell_regrown fb10
  have rfb11 := cell_regrown fb11
  have rfb12 := cell_regrown fb12
  have rfb13 := cell_regrown fb13
  have rfb14 := cell_regrown fb14
  have rfb15 := cell_regrown fb15
  have rfb16 := cell_regrown fb16
  have rfBw00 := cell_regrown fBw00
  have rfBw01 := cell_regrown fBw01
  have rfBw02 := cell_regrown fBw02
  have rfBx00 := cell_regrown fBx00
  have rfBx01 := cell_regrown fBx01
  have rfBx02 := cell_regrown fBx02
  have rfBx10 := cell_regrown fBx10
  have rfBx11 := cell_regrown fBx11
  have rfBx12 := cell_regrown fBx12
  have rfBx13 := cell_regrown fBx13
  have rfBx14 := cell_regrown fBx14
  have rfBx15 := cell_regrown fBx15
  have rfBx16 := cell_regrown fBx16
  have rfBg00 := cell_regrown fBg00
  have rfBg01 := cell_regrown fBg01
  have rfBg02 := cell_regrown fBg02
  refine region_mixT (.q 0 (.q 2 (.br 1 8 (.br 3 8 (.br 4 8 (.p 5 (.p 6 (.p 7 (.b 8 .fin)))) (.b 4 (.p 5 (.p 6 (.p 7 .fin))))) (.b 3 (.b 4 (.p 5 (.p 6 (.p 7 .fin)))))) (.b 1 (.b 3 (.b 4 (.p 5 (.p 6 (.p 7 .fin))))))))) [9, 10] (by kernel_rfl) (by kernel_rfl) (fun _ _ _ _ _ h => h) ?_
  refine genT ?_; intro W77 hW
  have hE : Below w76.heap.size w76 W77 := by rw [hW]; exact below_drew (Below.refl _ _)
  have hS := Hd.mk hE
  clear hW
  replace b0 := Hd.mk (b0.out.below hE)
  replace eb0 := Hd.mk (Nat.le_trans eb0.out hE.size)
  replace b1 := Hd.mk (b1.out.below hE)
  replace eb1 := Hd.mk (Nat.le_trans eb1.out hE.size)
  replace w0 := Hd.mk (Ty.O_below w0.out hE)
  replace ew0 := Hd.mk (Nat.le_trans ew0.out hE.size)
  replace Bw0 := Hd.mk (Bw0.out.below hE)
  replace eBw0 := Hd.mk (Nat.le_trans eBw0.out hE.size)
  replace Bx0 := Hd.mk (Bx0.out.below hE)
  replace eBx0 := Hd.mk (Nat.le_trans eBx0.out hE.size)
  replace Bx1 := Hd.mk (Bx1.out.below hE)
  replace eBx1 := Hd.mk (Nat.le_trans eBx1.out hE.size)
  replace g0 := Hd.mk (Ty.O_below g0.out hE)
  replace eg0 := Hd.mk (Nat.le_trans eg0.out hE.size)
  replace Bg0 := Hd.mk (Bg0.out.below hE)
  replace eBg0 := Hd.mk (Nat.le_trans eBg0.out hE.size)
  replace hB := Hd.mk (below_then hB.out hE)
  clear hE
  refine mixT_q rfl ?_
  go_big_quiet_want; go_big_quiet_op; go_big_quiet_on; refine wpQuiet_nil ?_
  refine mixT_q rfl ?_
  go_big_quiet_want; go_big_quiet_op; go_big_quiet_on; refine wpQuiet_nil ?_
  refine ⟨?_, ?_⟩
  · refine stepM_of rfl ?_ (by rfl)
    go_wp2_with fail
    apply calls_gen; intro W78 hW
    have hE : Below W77.heap.size W77 W78 := by rw [hW]; (repeat (first | with_reducible refine below_alloc ?_ _ | with_reducible refine below_drew ?_)); exact Below.refl _ _
    clear hW
    replace b0 := Hd.mk (b0.out.below hE)
    replace eb0 := Hd.mk (Nat.le_trans eb0.out hE.size)
    replace b1 := Hd.mk (b1.out.below hE)
    replace eb1 := Hd.mk (Nat.le_trans eb1.out hE.size)
    replace w0 := Hd.mk (Ty.O_below w0.out hE)
    replace ew0 := Hd.mk (Nat.le_trans ew0.out hE.size)
    replace Bw0 := Hd.mk (Bw0.out.below hE)
    replace eBw0 := Hd.mk (Nat.le_trans eBw0.out hE.size)
    replace Bx0 := Hd.mk (Bx0.out.below hE)
    replace eBx0 := Hd.mk (Nat.le_trans eBx0.out hE.size)
    replace Bx1 := Hd.mk (Bx1.out.below hE)
    replace eBx1 := Hd.mk (Nat.le_trans eBx1.out hE.size)
    replace g0 := Hd.mk (Ty.O_below g0.out hE)
    replace eg0 := Hd.mk (Nat.le_trans eg0.out hE.size)
    replace Bg0 := Hd.mk (Bg0.out.below hE)
    replace eBg0 := Hd.mk (Nat.le_trans eBg0.out hE.size)
    replace hB := Hd.mk (below_then hB.out hE)
    replace hS := Hd.mk (below_then hS.out hE)
    clear hE
    refine (laws_toStore x _ _ (tStore.K_below hB.out hK0.out) HL0.out.1).mono ?_
    rintro e w79 ⟨cs_, rfl, hO, hX⟩
    have db0_r0 := Hd.mk eb0.out
    have db1_r0 := Hd.mk eb1.out
    have dw0_r0 := Hd.mk ew0.out
    have dBw0_r0 := Hd.mk eBw0.out
    have dBx0_r0 := Hd.mk eBx0.out
    have dBx1_r0 := Hd.mk eBx1.out
    have dg0_r0 := Hd.mk eg0.out
    have dBg0_r0 := Hd.mk eBg0.out
    have ar0 := Hd.mk hB.out.size
    replace b0 := Hd.mk (b0.out.below hX)
    replace eb0 := Hd.mk (Nat.le_trans eb0.out hX.size)
    replace b1 := Hd.mk (b1.out.below hX)
    replace eb1 := Hd.mk (Nat.le_trans eb1.out hX.size)
    replace w0 := Hd.mk (Ty.O_below w0.out hX)
    replace ew0 := Hd.mk (Nat.le_trans ew0.out hX.size)
    replace Bw0 := Hd.mk (Bw0.out.below hX)
    replace eBw0 := Hd.mk (Nat.le_trans eBw0.out hX.size)
    replace Bx0 := Hd.mk (Bx0.out.below hX)
    replace eBx0 := Hd.mk (Nat.le_trans eBx0.out hX.size)
    replace Bx1 := Hd.mk (Bx1.out.below hX)
    replace eBx1 := Hd.mk (Nat.le_trans eBx1.out hX.size)
    replace g0 := Hd.mk (Ty.O_below g0.out hX)
    replace eg0 := Hd.mk (Nat.le_trans eg0.out hX.size)
    replace Bg0 := Hd.mk (Bg0.out.below hX)
    replace eBg0 := Hd.mk (Nat.le_trans eBg0.out hX.size)
    replace hB := Hd.mk (below_then hB.out hX)
    replace hS := Hd.mk (below_then hS.out hX)
    clear hX
    replace hO := Ty.O_bound _ hO
    obtain ⟨v_, u_, _, _, hcs, r1, r2, _⟩ := tStore_O.1 hO
    subst hcs
    obtain ⟨Ar0, cr0, hv_, hcr0, _⟩ := R_C r1
    subst hv_
    clear r1
    obtain ⟨Ar0B, cr0B, hv_, hcr0B, _⟩ := R_C r2
    subst hv_
    clear r2
    have r0 := Hd.mk (show tStore.O w79 (rng W78.heap.size w79.heap.size) x [Value.slice Ar0 x.cols.length cr0, Value.int IntKind.i64 x.ver, Value.slice Ar0B x.tabs.length cr0B] from hO); clear hO
    have er0 := Hd.mk (Nat.le_refl w79.heap.size)
    go_wp2_with fail
    refine ⟨cls_below hS.out, ?_⟩
    refine ⟨?_, ?_⟩
    · refine stepM_of rfl ?_ (by rfl)
      go_wp2_with fail
      apply calls_gen; intro W80 hW
      have hE : Below w79.heap.size w79 W80 := by rw [hW]; (repeat (first | with_reducible refine below_alloc ?_ _ | with_reducible refine below_drew ?_)); exact Below.refl _ _
      clear hW
      replace b0 := Hd.mk (b0.out.below hE)
      replace eb0 := Hd.mk (Nat.le_trans eb0.out hE.size)
      replace b1 := Hd.mk (b1.out.below hE)
      replace eb1 := Hd.mk (Nat.le_trans eb1.out hE.size)
      replace w0 := Hd.mk (Ty.O_below w0.out hE)
      replace ew0 := Hd.mk (Nat.le_trans ew0.out hE.size)
      replace Bw0 := Hd.mk (Bw0.out.below hE)
      replace eBw0 := Hd.mk (Nat.le_trans eBw0.out hE.size)
      replace Bx0 := Hd.mk (Bx0.out.below hE)
      replace eBx0 := Hd.mk (Nat.le_trans eBx0.out hE.size)
      replace Bx1 := Hd.mk (Bx1.out.below hE)
      replace eBx1 := Hd.mk (Nat.le_trans eBx1.out hE.size)
      replace g0 := Hd.mk (Ty.O_below g0.out hE)
      replace eg0 := Hd.mk (Nat.le_trans eg0.out hE.size)
      replace Bg0 := Hd.mk (Bg0.out.below hE)
      replace eBg0 := Hd.mk (Nat.le_trans eBg0.out hE.size)
      replace r0 := Hd.mk (Ty.O_below r0.out hE)
      replace er0 := Hd.mk (Nat.le_trans er0.out hE.size)
      replace hB := Hd.mk (below_then hB.out hE)
      replace hS := Hd.mk (below_then hS.out hE)
      clear hE
      refine (laws_toChange u _ _ (tChange.K_below hB.out hK1.out) HL1.out.1).mono ?_
      rintro e w81 ⟨cs_, rfl, hO, hX⟩
      have db0_r1 := Hd.mk eb0.out
      have db1_r1 := Hd.mk eb1.out
      have dw0_r1 := Hd.mk ew0.out
      have dBw0_r1 := Hd.mk eBw0.out
      have dBx0_r1 := Hd.mk eBx0.out
      have dBx1_r1 := Hd.mk eBx1.out
      have dg0_r1 := Hd.mk eg0.out
      have dBg0_r1 := Hd.mk eBg0.out
      have dr0_r1 := Hd.mk er0.out
      have ar1 := Hd.mk hB.out.size
      replace b0 := Hd.mk (b0.out.below hX)
      replace eb0 := Hd.mk (Nat.le_trans eb0.out hX.size)
      replace b1 := Hd.mk (b1.out.below hX)
      replace eb1 := Hd.mk (Nat.le_trans eb1.out hX.size)
      replace w0 := Hd.mk (Ty.O_below w0.out hX)
      replace ew0 := Hd.mk (Nat.le_trans ew0.out hX.size)
      replace Bw0 := Hd.mk (Bw0.out.below hX)
      replace eBw0 := Hd.mk (Nat.le_trans eBw0.out hX.size)
      replace Bx0 := Hd.mk (Bx0.out.below hX)
      replace eBx0 := Hd.mk (Nat.le_trans eBx0.out hX.size)
      replace Bx1 := Hd.mk (Bx1.out.below hX)
      replace eBx1 := Hd.mk (Nat.le_trans eBx1.out hX.size)
      replace g0 := Hd.mk (Ty.O_below g0.out hX)
      replace eg0 := Hd.mk (Nat.le_trans eg0.out hX.size)
      replace Bg0 := Hd.mk (Bg0.out.below hX)
      replace eBg0 := Hd.mk (Nat.le_trans eBg0.out hX.size)
      replace r0 := Hd.mk (Ty.O_below r0.out hX)
      replace er0 := Hd.mk (Nat.le_trans er0.out hX.size)
      replace hB := Hd.mk (below_then hB.out hX)
      replace hS := Hd.mk (below_then hS.out hX)
      clear hX
      replace hO := Ty.O_bound _ hO
      obtain ⟨v_, u_, _, _, hcs, r1, r2, _⟩ := tChange_O.1 hO
      subst hcs
      obtain ⟨Ar1, cr1, hv_, hcr1, _⟩ := R_C r1
      subst hv_
      clear r1
      obtain ⟨Ar1B, cr1B, hv_, hcr1B, _⟩ := R_C r2
      subst hv_
      clear r2
      have r1 := Hd.mk (show tChange.O w81 (rng W80.heap.size w81.heap.size) u [Value.int IntKind.i64 u.table, Value.bool u.had, Value.bool u.has, Value.int IntKind.i64 u.old.id, Value.slice Ar1 u.old.cells.length cr1, Value.int IntKind.i64 u.new.id, Value.slice Ar1B u.new.cells.length cr1B] from hO); clear hO
      have er1 := Hd.mk (Nat.le_refl w81.heap.size)
      go_wp2_with fail
      refine ⟨cls_below hS.out, ?_⟩
      refine ⟨?_, ?_⟩
      · refine stepM_of rfl ?_ (by rfl)
        go_wp2_with fail
        apply calls_gen; intro W82 hW
        have hE : Below w81.heap.size w81 W82 := by rw [hW]; (repeat (first | with_reducible refine below_alloc ?_ _ | with_reducible refine below_drew ?_)); exact Below.refl _ _
        clear hW
        replace b0 := Hd.mk (b0.out.below hE)
        replace eb0 := Hd.mk (Nat.le_trans eb0.out hE.size)
        replace b1 := Hd.mk (b1.out.below hE)
        replace eb1 := Hd.mk (Nat.le_trans eb1.out hE.size)
        replace w0 := Hd.mk (Ty.O_below w0.out hE)
        replace ew0 := Hd.mk (Nat.le_trans ew0.out hE.size)
        replace Bw0 := Hd.mk (Bw0.out.below hE)
        replace eBw0 := Hd.mk (Nat.le_trans eBw0.out hE.size)
        replace Bx0 := Hd.mk (Bx0.out.below hE)
        replace eBx0 := Hd.mk (Nat.le_trans eBx0.out hE.size)
        replace Bx1 := Hd.mk (Bx1.out.below hE)
        replace eBx1 := Hd.mk (Nat.le_trans eBx1.out hE.size)
        replace g0 := Hd.mk (Ty.O_below g0.out hE)
        replace eg0 := Hd.mk (Nat.le_trans eg0.out hE.size)
        replace Bg0 := Hd.mk (Bg0.out.below hE)
        replace eBg0 := Hd.mk (Nat.le_trans eBg0.out hE.size)
        replace r0 := Hd.mk (Ty.O_below r0.out hE)
        replace er0 := Hd.mk (Nat.le_trans er0.out hE.size)
        replace r1 := Hd.mk (Ty.O_below r1.out hE)
        replace er1 := Hd.mk (Nat.le_trans er1.out hE.size)
        replace hB := Hd.mk (below_then hB.out hE)
        replace hS := Hd.mk (below_then hS.out hE)
        clear hE
        refine (impl_Back x _ u _ _ (tStore.O_K r0.out) (tChange.O_K r1.out) (by have := HL0.out.1; omega) (by have := HL1.out.1; omega)).mono ?_
        rintro e w83 ⟨cs_, rfl, hO, hX⟩
        have db0_h0 := Hd.mk eb0.out
        have db1_h0 := Hd.mk eb1.out
        have dw0_h0 := Hd.mk ew0.out
        have dBw0_h0 := Hd.mk eBw0.out
        have dBx0_h0 := Hd.mk eBx0.out
        have dBx1_h0 := Hd.mk eBx1.out
        have dg0_h0 := Hd.mk eg0.out
        have dBg0_h0 := Hd.mk eBg0.out
        have dr0_h0 := Hd.mk er0.out
        have dr1_h0 := Hd.mk er1.out
        have ah0 := Hd.mk hB.out.size
        replace b0 := Hd.mk (b0.out.below hX)
        replace eb0 := Hd.mk (Nat.le_trans eb0.out hX.size)
        replace b1 := Hd.mk (b1.out.below hX)
        replace eb1 := Hd.mk (Nat.le_trans eb1.out hX.size)
        replace w0 := Hd.mk (Ty.O_below w0.out hX)
        replace ew0 := Hd.mk (Nat.le_trans ew0.out hX.size)
        replace Bw0 := Hd.mk (Bw0.out.below hX)
        replace eBw0 := Hd.mk (Nat.le_trans eBw0.out hX.size)
        replace Bx0 := Hd.mk (Bx0.out.below hX)
        replace eBx0 := Hd.mk (Nat.le_trans eBx0.out hX.size)
        replace Bx1 := Hd.mk (Bx1.out.below hX)
        replace eBx1 := Hd.mk (Nat.le_trans eBx1.out hX.size)
        replace g0 := Hd.mk (Ty.O_below g0.out hX)
        replace eg0 := Hd.mk (Nat.le_trans eg0.out hX.size)
        replace Bg0 := Hd.mk (Bg0.out.below hX)
        replace eBg0 := Hd.mk (Nat.le_trans eBg0.out hX.size)
        replace r0 := Hd.mk (Ty.O_below r0.out hX)
        replace er0 := Hd.mk (Nat.le_trans er0.out hX.size)
        replace r1 := Hd.mk (Ty.O_below r1.out hX)
        replace er1 := Hd.mk (Nat.le_trans er1.out hX.size)
        replace hB := Hd.mk (below_then hB.out hX)
        replace hS := Hd.mk (below_then hS.out hX)
        clear hX
        rw [← Hy.out] at hO
        rw [← Hyb.out]
        replace hO := Ty.O_bound _ hO
        obtain ⟨v_, u_, _, _, hcs, r1, r2, _⟩ := tStore_O.1 hO
        subst hcs
        obtain ⟨Ah0, ch0, hv_, hch0, _⟩ := R_C r1
        subst hv_
        clear r1
        obtain ⟨Ah0B, ch0B, hv_, hch0B, _⟩ := R_C r2
        subst hv_
        clear r2
        have h0 := Hd.mk (show tStore.O w83 (rng W82.heap.size w83.heap.size) y [Value.slice Ah0 y.cols.length ch0, Value.int IntKind.i64 y.ver, Value.slice Ah0B y.tabs.length ch0B] from hO); clear hO
        have eh0 := Hd.mk (Nat.le_refl w83.heap.size)
        go_wp2_with fail
        refine ⟨cls_below hS.out, ?_⟩
        refine mixT_p rfl ?_
        go_big_quiet_want; go_big_quiet_op; go_big_quiet_on; refine wpQuiet_nil ?_
        refine mixT_p rfl ?_
        go_big_quiet_want; go_big_quiet_op; go_big_quiet_on; refine wpQuiet_nil ?_
        refine mixT_p rfl ?_
        go_big_quiet_want; go_big_quiet_op; go_big_quiet_on; refine wpQuiet_nil ?_
        refine mixT_b rfl ?_ (by rfl)
        go_wp2_with fail
        refine ⟨cls_below (below_alloc hS.out _), ?_⟩
        refine genT ?_; intro W84 hW
        have hE : Below w83.heap.size w83 W84 := by rw [hW]; exact below_alloc (Below.refl _ _) _
        have Bh0 := Hd.mk (show Blk W84 w83.heap.size #[Value.slice none 0 0, Value.int IntKind.i64 0, Value.slice none 0 0] 37 by rw [hW]; exact Blk.new _ _ _)
        have hz_ : w83.heap.size + 1 ≤ W84.heap.size := by rw [hW]; simp
        clear hW
        have db0_Bh0 := Hd.mk eb0.out
        have db1_Bh0 := Hd.mk eb1.out
        have dw0_Bh0 := Hd.mk ew0.out
        have dBw0_Bh0 := Hd.mk eBw0.out
        have dBx0_Bh0 := Hd.mk eBx0.out
        have dBx1_Bh0 := Hd.mk eBx1.out
        have dg0_Bh0 := Hd.mk eg0.out
        have dBg0_Bh0 := Hd.mk eBg0.out
        have dr0_Bh0 := Hd.mk er0.out
        have dr1_Bh0 := Hd.mk er1.out
        have dh0_Bh0 := Hd.mk eh0.out
        have aBh0 := Hd.mk hB.out.size
        replace b0 := Hd.mk (b0.out.below hE)
        replace eb0 := Hd.mk (Nat.le_trans eb0.out hE.size)
        replace b1 := Hd.mk (b1.out.below hE)
        replace eb1 := Hd.mk (Nat.le_trans eb1.out hE.size)
        replace w0 := Hd.mk (Ty.O_below w0.out hE)
        replace ew0 := Hd.mk (Nat.le_trans ew0.out hE.size)
        replace Bw0 := Hd.mk (Bw0.out.below hE)
        replace eBw0 := Hd.mk (Nat.le_trans eBw0.out hE.size)
        replace Bx0 := Hd.mk (Bx0.out.below hE)
        replace eBx0 := Hd.mk (Nat.le_trans eBx0.out hE.size)
        replace Bx1 := Hd.mk (Bx1.out.below hE)
        replace eBx1 := Hd.mk (Nat.le_trans eBx1.out hE.size)
        replace g0 := Hd.mk (Ty.O_below g0.out hE)
        replace eg0 := Hd.mk (Nat.le_trans eg0.out hE.size)
        replace Bg0 := Hd.mk (Bg0.out.below hE)
        replace eBg0 := Hd.mk (Nat.le_trans eBg0.out hE.size)
        replace r0 := Hd.mk (Ty.O_below r0.out hE)
        replace er0 := Hd.mk (Nat.le_trans er0.out hE.size)
        replace r1 := Hd.mk (Ty.O_below r1.out hE)
        replace er1 := Hd.mk (Nat.le_trans er1.out hE.size)
        replace h0 := Hd.mk (Ty.O_below h0.out hE)
        replace eh0 := Hd.mk (Nat.le_trans eh0.out hE.size)
        replace hB := Hd.mk (below_then hB.out hE)
        replace hS := Hd.mk (below_then hS.out hE)
        have eBh0 := Hd.mk hz_; clear hz_ hE
        refine mixT_fin ?_
        clear hS
        clear fb00 fb01 fb02 fb10 fb11 fb12 fb13 fb14 fb15 fb16 fBw00 fBw01 fBw02 fBx00 fBx01 fBx02 fBx10 fBx11 fBx12 fBx13 fBx14 fBx15 fBx16 fBg00 fBg01 fBg02 rfb00 rfb01 rfb02 rfb10 rfb11 rfb12 rfb13 rfb14 rfb15 rfb16 rfBw00 rfBw01 rfBw02 rfBx00 rfBx01 rfBx02 rfBx10 rfBx11 rfBx12 rfBx13 rfBx14 rfBx15 rfBx16 rfBg00 rfBg01 rfBg02
        have fb00 : W84.cell? ⟨w.heap.size, 0, none⟩ = some (Value.slice A0 x.cols.length c0) := b0.out.cell 0 rfl
        have fb01 : W84.cell? ⟨w.heap.size, 1, none⟩ = some (Value.int IntKind.i64 x.ver) := b0.out.cell 1 rfl
        have fb02 : W84.cell? ⟨w.heap.size, 2, none⟩ = some (Value.slice A0B x.tabs.length c0B) := b0.out.cell 2 rfl
        have fb10 : W84.cell? ⟨w.heap.size + 1, 0, none⟩ = some (Value.int IntKind.i64 u.table) := b1.out.cell 0 rfl
        have fb11 : W84.cell? ⟨w.heap.size + 1, 1, none⟩ = some (Value.bool u.had) := b1.out.cell 1 rfl
        have fb12 : W84.cell? ⟨w.heap.size + 1, 2, none⟩ = some (Value.bool u.has) := b1.out.cell 2 rfl
        have fb13 : W84.cell? ⟨w.heap.size + 1, 3, none⟩ = some (Value.int IntKind.i64 u.old.id) := b1.out.cell 3 rfl
        have fb14 : W84.cell? ⟨w.heap.size + 1, 4, none⟩ = some (Value.slice A1 u.old.cells.length c1) := b1.out.cell 4 rfl
        have fb15 : W84.cell? ⟨w.heap.size + 1, 5, none⟩ = some (Value.int IntKind.i64 u.new.id) := b1.out.cell 5 rfl
        have fb16 : W84.cell? ⟨w.heap.size + 1, 6, none⟩ = some (Value.slice A1B u.new.cells.length c1B) := b1.out.cell 6 rfl
        have fBw00 : W84.cell? ⟨p, 0, none⟩ = some (Value.slice Aw0 y.cols.length cw0) := Bw0.out.cell 0 rfl
        have fBw01 : W84.cell? ⟨p, 1, none⟩ = some (Value.int IntKind.i64 y.ver) := Bw0.out.cell 1 rfl
        have fBw02 : W84.cell? ⟨p, 2, none⟩ = some (Value.slice Aw0B y.tabs.length cw0B) := Bw0.out.cell 2 rfl
        have fBx00 : W84.cell? ⟨w52.heap.size, 0, none⟩ = some (Value.slice Ax0 x.cols.length cx0) := Bx0.out.cell 0 rfl
        have fBx01 : W84.cell? ⟨w52.heap.size, 1, none⟩ = some (Value.int IntKind.i64 x.ver) := Bx0.out.cell 1 rfl
        have fBx02 : W84.cell? ⟨w52.heap.size, 2, none⟩ = some (Value.slice Ax0B x.tabs.length cx0B) := Bx0.out.cell 2 rfl
        have fBx10 : W84.cell? ⟨w54.heap.size, 0, none⟩ = some (Value.int IntKind.i64 u.table) := Bx1.out.cell 0 rfl
        have fBx11 : W84.cell? ⟨w54.heap.size, 1, none⟩ = some (Value.bool u.had) := Bx1.out.cell 1 rfl
        have fBx12 : W84.cell? ⟨w54.heap.size, 2, none⟩ = some (Value.bool u.has) := Bx1.out.cell 2 rfl
        have fBx13 : W84.cell? ⟨w54.heap.size, 3, none⟩ = some (Value.int IntKind.i64 u.old.id) := Bx1.out.cell 3 rfl
        have fBx14 : W84.cell? ⟨w54.heap.size, 4, none⟩ = some (Value.slice Ax1 u.old.cells.length cx1) := Bx1.out.cell 4 rfl
        have fBx15 : W84.cell? ⟨w54.heap.size, 5, none⟩ = some (Value.int IntKind.i64 u.new.id) := Bx1.out.cell 5 rfl
        have fBx16 : W84.cell? ⟨w54.heap.size, 6, none⟩ = some (Value.slice Ax1B u.new.cells.length cx1B) := Bx1.out.cell 6 rfl
        have fBg00 : W84.cell? ⟨w56.heap.size, 0, none⟩ = some (Value.slice Ag0 y.cols.length cg0) := Bg0.out.cell 0 rfl
        have fBg01 : W84.cell? ⟨w56.heap.size, 1, none⟩ = some (Value.int IntKind.i64 y.ver) := Bg0.out.cell 1 rfl
        have fBg02 : W84.cell? ⟨w56.heap.size, 2, none⟩ = some (Value.slice Ag0B y.tabs.length cg0B) := Bg0.out.cell 2 rfl
        have fBh00 : W84.cell? ⟨w83.heap.size, 0, none⟩ = some (Value.slice none 0 0) := Bh0.out.cell 0 rfl
        have fBh01 : W84.cell? ⟨w83.heap.size, 1, none⟩ = some (Value.int IntKind.i64 0) := Bh0.out.cell 1 rfl
        have fBh02 : W84.cell? ⟨w83.heap.size, 2, none⟩ = some (Value.slice none 0 0) := Bh0.out.cell 2 rfl
        have fz_ := Bh0.out.frozen
        refine tail_b rfl ?_ (by rfl)
        go_wp2_with fail
        refine mixQ_n ?_
        refine tail_b rfl ?_ (by rfl)
        go_wp2_with fail
        refine mixQ_n ?_
        refine tail_nil ?_
        refine exit_gen ?_; intro W hW
        clear fz_
        clear fb00 fb01 fb02 fb10 fb11 fb12 fb13 fb14 fb15 fb16 fBw00 fBw01 fBw02 fBx00 fBx01 fBx02 fBx10 fBx11 fBx12 fBx13 fBx14 fBx15 fBx16 fBg00 fBg01 fBg02 fBh00 fBh01 fBh02
        have eF : Fr W84 W (fun k => k = w83.heap.size) := by rw [hW]; (repeat (first | with_reducible refine Fr.setCell (S := fun k => k = w83.heap.size) ?_ _ (fun _ => rfl) _)); exact Fr.refl _ _
        have hsz_ := eF.size
        replace b0 := Hd.mk (b0.out.fr eF (fun h => by have := db0_Bh0.out; (try simp only at h); omega))
        replace eb0 := Hd.mk (Nat.le_trans eb0.out hsz_)
        replace b1 := Hd.mk (b1.out.fr eF (fun h => by have := db1_Bh0.out; (try simp only at h); omega))
        replace eb1 := Hd.mk (Nat.le_trans eb1.out hsz_)
        replace w0 := Hd.mk (Ty.O_fr w0.out eF (fun k hk hl h => by have := dw0_Bh0.out; have h1 := hk.1; have h2 := hk.2; (try simp only at h); omega))
        replace ew0 := Hd.mk (Nat.le_trans ew0.out hsz_)
        replace Bw0 := Hd.mk (Bw0.out.fr eF (fun h => by have := dBw0_Bh0.out; (try simp only at h); omega))
        replace eBw0 := Hd.mk (Nat.le_trans eBw0.out hsz_)
        replace Bx0 := Hd.mk (Bx0.out.fr eF (fun h => by have := dBx0_Bh0.out; (try simp only at h); omega))
        replace eBx0 := Hd.mk (Nat.le_trans eBx0.out hsz_)
        replace Bx1 := Hd.mk (Bx1.out.fr eF (fun h => by have := dBx1_Bh0.out; (try simp only at h); omega))
        replace eBx1 := Hd.mk (Nat.le_trans eBx1.out hsz_)
        replace g0 := Hd.mk (Ty.O_fr g0.out eF (fun k hk hl h => by have := dg0_Bh0.out; have h1 := hk.1; have h2 := hk.2; (try simp only at h); omega))
        replace eg0 := Hd.mk (Nat.le_trans eg0.out hsz_)
        replace Bg0 := Hd.mk (Bg0.out.fr eF (fun h => by have := dBg0_Bh0.out; (try simp only at h); omega))
        replace eBg0 := Hd.mk (Nat.le_trans eBg0.out hsz_)
        replace r0 := Hd.mk (Ty.O_fr r0.out eF (fun k hk hl h => by have := dr0_Bh0.out; have h1 := hk.1; have h2 := hk.2; (try simp only at h); omega))
        replace er0 := Hd.mk (Nat.le_trans er0.out hsz_)
        replace r1 := Hd.mk (Ty.O_fr r1.out eF (fun k hk hl h => by have := dr1_Bh0.out; have h1 := hk.1; have h2 := hk.2; (try simp only at h); omega))
        replace er1 := Hd.mk (Nat.le_trans er1.out hsz_)
        replace h0 := Hd.mk (Ty.O_fr h0.out eF (fun k hk hl h => by have := dh0_Bh0.out; have h1 := hk.1; have h2 := hk.2; (try simp only at h); omega))
        replace eh0 := Hd.mk (Nat.le_trans eh0.out hsz_)
        replace Bh0 := Hd.mk (show Blk W (w83.heap.size) #[Value.slice Ah0 y.cols.length ch0, Value.int IntKind.i64 y.ver, Value.slice Ah0B y.tabs.length ch0B] 37 by rw [hW]; exact (((Bh0.out.set 0 (Value.slice Ah0 y.cols.length ch0)).set 1 (Value.int IntKind.i64 y.ver)).set 2 (Value.slice Ah0B y.tabs.length ch0B)))
        replace eBh0 := Hd.mk (Nat.le_trans eBh0.out hsz_)
        replace hB := Hd.mk (((Fr.of_below hB.out (fun k => k = w83.heap.size)).then_ eF (fun k h _ => h)).below (fun k h => by have := aBh0.out; (try simp only at h); omega))
        clear hW eF hsz_
        clear r0 er0
        clear r1 er1
        have fb00 : W.cell? ⟨w.heap.size, 0, none⟩ = some (Value.slice A0 x.cols.length c0) := b0.out.cell 0 rfl
        have fb01 : W.cell? ⟨w.heap.size, 1, none⟩ = some (Value.int IntKind.i64 x.ver) := b0.out.cell 1 rfl
        have fb02 : W.cell? ⟨w.heap.size, 2, none⟩ = some (Value.slice A0B x.tabs.length c0B) := b0.out.cell 2 rfl
        have fb10 : W.cell? ⟨w.heap.size + 1, 0, none⟩ = some (Value.int IntKind.i64 u.table) := b1.out.cell 0 rfl
        have fb11 : W.cell? ⟨w.heap.size + 1, 1, none⟩ = some (Value.bool u.had) := b1.out.cell 1 rfl
        have fb12 : W.cell? ⟨w.heap.size + 1, 2, none⟩ = some (Value.bool u.has) := b1.out.cell 2 rfl
        have fb13 : W.cell? ⟨w.heap.size + 1, 3, none⟩ = some (Value.int IntKind.i64 u.old.id) := b1.out.cell 3 rfl
        have fb14 : W.cell? ⟨w.heap.size + 1, 4, none⟩ = some (Value.slice A1 u.old.cells.length c1) := b1.out.cell 4 rfl
        have fb15 : W.cell? ⟨w.heap.size + 1, 5, none⟩ = some (Value.int IntKind.i64 u.new.id) := b1.out.cell 5 rfl
        have fb16 : W.cell? ⟨w.heap.size + 1, 6, none⟩ = some (Value.slice A1B u.new.cells.length c1B) := b1.out.cell 6 rfl
        have fBw00 : W.cell? ⟨p, 0, none⟩ = some (Value.slice Aw0 y.cols.length cw0) := Bw0.out.cell 0 rfl
        have fBw01 : W.cell? ⟨p, 1, none⟩ = some (Value.int IntKind.i64 y.ver) := Bw0.out.cell 1 rfl
        have fBw02 : W.cell? ⟨p, 2, none⟩ = some (Value.slice Aw0B y.tabs.length cw0B) := Bw0.out.cell 2 rfl
        have fBx00 : W.cell? ⟨w52.heap.size, 0, none⟩ = some (Value.slice Ax0 x.cols.length cx0) := Bx0.out.cell 0 rfl
        have fBx01 : W.cell? ⟨w52.heap.size, 1, none⟩ = some (Value.int IntKind.i64 x.ver) := Bx0.out.cell 1 rfl
        have fBx02 : W.cell? ⟨w52.heap.size, 2, none⟩ = some (Value.slice Ax0B x.tabs.length cx0B) := Bx0.out.cell 2 rfl
        have fBx10 : W.cell? ⟨w54.heap.size, 0, none⟩ = some (Value.int IntKind.i64 u.table) := Bx1.out.cell 0 rfl
        have fBx11 : W.cell? ⟨w54.heap.size, 1, none⟩ = some (Value.bool u.had) := Bx1.out.cell 1 rfl
        have fBx12 : W.cell? ⟨w54.heap.size, 2, none⟩ = some (Value.bool u.has) := Bx1.out.cell 2 rfl
        have fBx13 : W.cell? ⟨w54.heap.size, 3, none⟩ = some (Value.int IntKind.i64 u.old.id) := Bx1.out.cell 3 rfl
        have fBx14 : W.cell? ⟨w54.heap.size, 4, none⟩ = some (Value.slice Ax1 u.old.cells.length cx1) := Bx1.out.cell 4 rfl
        have fBx15 : W.cell? ⟨w54.heap.size, 5, none⟩ = some (Value.int IntKind.i64 u.new.id) := Bx1.out.cell 5 rfl
        have fBx16 : W.cell? ⟨w54.heap.size, 6, none⟩ = some (Value.slice Ax1B u.new.cells.length cx1B) := Bx1.out.cell 6 rfl
        have fBg00 : W.cell? ⟨w56.heap.size, 0, none⟩ = some (Value.slice Ag0 y.cols.length cg0) := Bg0.out.cell 0 rfl
        have fBg01 : W.cell? ⟨w56.heap.size, 1, none⟩ = some (Value.int IntKind.i64 y.ver) := Bg0.out.cell 1 rfl
        have fBg02 : W.cell? ⟨w56.heap.size, 2, none⟩ = some (Value.slice Ag0B y.tabs.length cg0B) := Bg0.out.cell 2 rfl
        have fBh00 : W.cell? ⟨w83.heap.size, 0, none⟩ = some (Value.slice Ah0 y.cols.length ch0) := Bh0.out.cell 0 rfl
        have fBh01 : W.cell? ⟨w83.heap.size, 1, none⟩ = some (Value.int IntKind.i64 y.ver) := Bh0.out.cell 1 rfl
        have fBh02 : W.cell? ⟨w83.heap.size, 2, none⟩ = some (Value.slice Ah0B y.tabs.length ch0B) := Bh0.out.cell 2 rfl
        go_wp2_with fail
        clear fb00 fb01 fb02 fb10 fb11 fb12 fb13 fb14 fb15 fb16 fBw00 fBw01 fBw02 fBx00 fBx01 fBx02 fBx10 fBx11 fBx12 fBx13 fBx14 fBx15 fBx16 fBg00 fBg01 fBg02 fBh00 fBh01 fBh02
        apply calls_gen; intro W85 hW
        have hE : Below W.heap.size W W85 := by rw [hW]; (repeat (first | with_reducible refine below_alloc ?_ _ | with_reducible refine below_drew ?_)); exact Below.refl _ _
        clear hW
        replace b0 := Hd.mk (b0.out.below hE)
        replace eb0 := Hd.mk (Nat.le_trans eb0.out hE.size)
        replace b1 := Hd.mk (b1.out.below hE)
        replace eb1 := Hd.mk (Nat.le_trans eb1.out hE.size)
        replace w0 := Hd.mk (Ty.O_below w0.out hE)
        replace ew0 := Hd.mk (Nat.le_trans ew0.out hE.size)
        replace Bw0 := Hd.mk (Bw0.out.below hE)
        replace eBw0 := Hd.mk (Nat.le_trans eBw0.out hE.size)
        replace Bx0 := Hd.mk (Bx0.out.below hE)
        replace eBx0 := Hd.mk (Nat.le_trans eBx0.out hE.size)
        replace Bx1 := Hd.mk (Bx1.out.below hE)
        replace eBx1 := Hd.mk (Nat.le_trans eBx1.out hE.size)
        replace g0 := Hd.mk (Ty.O_below g0.out hE)
        replace eg0 := Hd.mk (Nat.le_trans eg0.out hE.size)
        replace Bg0 := Hd.mk (Bg0.out.below hE)
        replace eBg0 := Hd.mk (Nat.le_trans eBg0.out hE.size)
        replace h0 := Hd.mk (Ty.O_below h0.out hE)
        replace eh0 := Hd.mk (Nat.le_trans eh0.out hE.size)
        replace Bh0 := Hd.mk (Bh0.out.below hE)
        replace eBh0 := Hd.mk (Nat.le_trans eBh0.out hE.size)
        replace hB := Hd.mk (below_then hB.out hE)
        clear hE
        refine (laws_eqStore y y _ _ _ (tStore.O_K h0.out) (tStore.O_K w0.out)).mono ?_
        rintro e w86 ⟨rfl, hX⟩
        replace b0 := Hd.mk (b0.out.below hX)
        replace eb0 := Hd.mk (Nat.le_trans eb0.out hX.size)
        replace b1 := Hd.mk (b1.out.below hX)
        replace eb1 := Hd.mk (Nat.le_trans eb1.out hX.size)
        replace w0 := Hd.mk (Ty.O_below w0.out hX)
        replace ew0 := Hd.mk (Nat.le_trans ew0.out hX.size)
        replace Bw0 := Hd.mk (Bw0.out.below hX)
        replace eBw0 := Hd.mk (Nat.le_trans eBw0.out hX.size)
        replace Bx0 := Hd.mk (Bx0.out.below hX)
        replace eBx0 := Hd.mk (Nat.le_trans eBx0.out hX.size)
        replace Bx1 := Hd.mk (Bx1.out.below hX)
        replace eBx1 := Hd.mk (Nat.le_trans eBx1.out hX.size)
        replace g0 := Hd.mk (Ty.O_below g0.out hX)
        replace eg0 := Hd.mk (Nat.le_trans eg0.out hX.size)
        replace Bg0 := Hd.mk (Bg0.out.below hX)
        replace eBg0 := Hd.mk (Nat.le_trans eBg0.out hX.size)
        replace h0 := Hd.mk (Ty.O_below h0.out hX)
        replace eh0 := Hd.mk (Nat.le_trans eh0.out hX.size)
        replace Bh0 := Hd.mk (Bh0.out.below hX)
        replace eBh0 := Hd.mk (Nat.le_trans eBh0.out hX.size)
        replace hB := Hd.mk (below_then hB.out hX)
        clear hX
        rw [eqv_self]
        have fb00 : w86.cell? ⟨w.heap.size, 0, none⟩ = some (Value.slice A0 x.cols.length c0) := b0.out.cell 0 rfl
        have fb01 : w86.cell? ⟨w.heap.size, 1, none⟩ = some (Value.int IntKind.i64 x.ver) := b0.out.cell 1 rfl
        have fb02 : w86.cell? ⟨w.heap.size, 2, none⟩ = some (Value.slice A0B x.tabs.length c0B) := b0.out.cell 2 rfl
        have fb10 : w86.cell? ⟨w.heap.size + 1, 0, none⟩ = some (Value.int IntKind.i64 u.table) := b1.out.cell 0 rfl
        have fb11 : w86.cell? ⟨w.heap.size + 1, 1, none⟩ = some (Value.bool u.had) := b1.out.cell 1 rfl
        have fb12 : w86.cell? ⟨w.heap.size + 1, 2, none⟩ = some (Value.bool u.has) := b1.out.cell 2 rfl
        have fb13 : w86.cell? ⟨w.heap.size + 1, 3, none⟩ = some (Value.int IntKind.i64 u.old.id) := b1.out.cell 3 rfl
        have fb14 : w86.cell? ⟨w.heap.size + 1, 4, none⟩ = some (Value.slice A1 u.old.cells.length c1) := b1.out.cell 4 rfl
        have fb15 : w86.cell? ⟨w.heap.size + 1, 5, none⟩ = some (Value.int IntKind.i64 u.new.id) := b1.out.cell 5 rfl
        have fb16 : w86.cell? ⟨w.heap.size + 1, 6, none⟩ = some (Value.slice A1B u.new.cells.length c1B) := b1.out.cell 6 rfl
        have fBw00 : w86.cell? ⟨p, 0, none⟩ = some (Value.slice Aw0 y.cols.length cw0) := Bw0.out.cell 0 rfl
        have fBw01 : w86.cell? ⟨p, 1, none⟩ = some (Value.int IntKind.i64 y.ver) := Bw0.out.cell 1 rfl
        have fBw02 : w86.cell? ⟨p, 2, none⟩ = some (Value.slice Aw0B y.tabs.length cw0B) := Bw0.out.cell 2 rfl
        have fBx00 : w86.cell? ⟨w52.heap.size, 0, none⟩ = some (Value.slice Ax0 x.cols.length cx0) := Bx0.out.cell 0 rfl
        have fBx01 : w86.cell? ⟨w52.heap.size, 1, none⟩ = some (Value.int IntKind.i64 x.ver) := Bx0.out.cell 1 rfl
        have fBx02 : w86.cell? ⟨w52.heap.size, 2, none⟩ = some (Value.slice Ax0B x.tabs.length cx0B) := Bx0.out.cell 2 rfl
        have fBx10 : w86.cell? ⟨w54.heap.size, 0, none⟩ = some (Value.int IntKind.i64 u.table) := Bx1.out.cell 0 rfl
        have fBx11 : w86.cell? ⟨w54.heap.size, 1, none⟩ = some (Value.bool u.had) := Bx1.out.cell 1 rfl
        have fBx12 : w86.cell? ⟨w54.heap.size, 2, none⟩ = some (Value.bool u.has) := Bx1.out.cell 2 rfl
        have fBx13 : w86.cell? ⟨w54.heap.size, 3, none⟩ = some (Value.int IntKind.i64 u.old.id) := Bx1.out.cell 3 rfl
        have fBx14 : w86.cell? ⟨w54.heap.size, 4, none⟩ = some (Value.slice Ax1 u.old.cells.length cx1) := Bx1.out.cell 4 rfl
        have fBx15 : w86.cell? ⟨w54.heap.size, 5, none⟩ = some (Value.int IntKind.i64 u.new.id) := Bx1.out.cell 5 rfl
        have fBx16 : w86.cell? ⟨w54.heap.size, 6, none⟩ = some (Value.slice Ax1B u.new.cells.length cx1B) := Bx1.out.cell 6 rfl
        have fBg00 : w86.cell? ⟨w56.heap.size, 0, none⟩ = some (Value.slice Ag0 y.cols.length cg0) := Bg0.out.cell 0 rfl
        have fBg01 : w86.cell? ⟨w56.heap.size, 1, none⟩ = some (Value.int IntKind.i64 y.ver) := Bg0.out.cell 1 rfl
        have fBg02 : w86.cell? ⟨w56.heap.size, 2, none⟩ = some (Value.slice Ag0B y.tabs.length cg0B) := Bg0.out.cell 2 rfl
        have fBh00 : w86.cell? ⟨w83.heap.size, 0, none⟩ = some (Value.slice Ah0 y.cols.length ch0) := Bh0.out.cell 0 rfl
        have fBh01 : w86.cell? ⟨w83.heap.size, 1, none⟩ = some (Value.int IntKind.i64 y.ver) := Bh0.out.cell 1 rfl
        have fBh02 : w86.cell? ⟨w83.heap.size, 2, none⟩ = some (Value.slice Ah0B y.tabs.length ch0B) := Bh0.out.cell 2 rfl
        go_wp2_with fail
        clear fb00 fb01 fb02 fb10 fb11 fb12 fb13 fb14 fb15 fb16 fBw00 fBw01 fBw02 fBx00 fBx01 fBx02 fBx10 fBx11 fBx12 fBx13 fBx14 fBx15 fBx16 fBg00 fBg01 fBg02 fBh00 fBh01 fBh02
        apply calls_gen; intro W87 hW
        have hE : Below w86.heap.size w86 W87 := by rw [hW]; (repeat (first | with_reducible refine below_alloc ?_ _ | with_reducible refine below_drew ?_)); exact Below.refl _ _
        clear hW
        replace b0 := Hd.mk (b0.out.below hE)
        replace eb0 := Hd.mk (Nat.le_trans eb0.out hE.size)
        replace b1 := Hd.mk (b1.out.below hE)
        replace eb1 := Hd.mk (Nat.le_trans eb1.out hE.size)
        replace w0 := Hd.mk (Ty.O_below w0.out hE)
        replace ew0 := Hd.mk (Nat.le_trans ew0.out hE.size)
        replace Bw0 := Hd.mk (Bw0.out.below hE)
        replace eBw0 := Hd.mk (Nat.le_trans eBw0.out hE.size)
        replace Bx0 := Hd.mk (Bx0.out.below hE)
        replace eBx0 := Hd.mk (Nat.le_trans eBx0.out hE.size)
        replace Bx1 := Hd.mk (Bx1.out.below hE)
        replace eBx1 := Hd.mk (Nat.le_trans eBx1.out hE.size)
        replace g0 := Hd.mk (Ty.O_below g0.out hE)
        replace eg0 := Hd.mk (Nat.le_trans eg0.out hE.size)
        replace Bg0 := Hd.mk (Bg0.out.below hE)
        replace eBg0 := Hd.mk (Nat.le_trans eBg0.out hE.size)
        replace h0 := Hd.mk (Ty.O_below h0.out hE)
        replace eh0 := Hd.mk (Nat.le_trans eh0.out hE.size)
        replace Bh0 := Hd.mk (Bh0.out.below hE)
        replace eBh0 := Hd.mk (Nat.le_trans eBh0.out hE.size)
        replace hB := Hd.mk (below_then hB.out hE)
        clear hE
        refine (laws_heldStore y _ 1 _ (tStore.O_K g0.out) (by omega) (by omega)).mono ?_
        rintro e w88 ⟨rfl, hX⟩
        replace b0 := Hd.mk (b0.out.below hX)
        replace eb0 := Hd.mk (Nat.le_trans eb0.out hX.size)
        replace b1 := Hd.mk (b1.out.below hX)
        replace eb1 := Hd.mk (Nat.le_trans eb1.out hX.size)
        replace w0 := Hd.mk (Ty.O_below w0.out hX)
        replace ew0 := Hd.mk (Nat.le_trans ew0.out hX.size)
        replace Bw0 := Hd.mk (Bw0.out.below hX)
        replace eBw0 := Hd.mk (Nat.le_trans eBw0.out hX.size)
        replace Bx0 := Hd.mk (Bx0.out.below hX)
        replace eBx0 := Hd.mk (Nat.le_trans eBx0.out hX.size)
        replace Bx1 := Hd.mk (Bx1.out.below hX)
        replace eBx1 := Hd.mk (Nat.le_trans eBx1.out hX.size)
        replace g0 := Hd.mk (Ty.O_below g0.out hX)
        replace eg0 := Hd.mk (Nat.le_trans eg0.out hX.size)
        replace Bg0 := Hd.mk (Bg0.out.below hX)
        replace eBg0 := Hd.mk (Nat.le_trans eBg0.out hX.size)
        replace h0 := Hd.mk (Ty.O_below h0.out hX)
        replace eh0 := Hd.mk (Nat.le_trans eh0.out hX.size)
        replace Bh0 := Hd.mk (Bh0.out.below hX)
        replace eBh0 := Hd.mk (Nat.le_trans eBh0.out hX.size)
        replace hB := Hd.mk (below_then hB.out hX)
        clear hX
        have fb00 : w88.cell? ⟨w.heap.size, 0, none⟩ = some (Value.slice A0 x.cols.length c0) := b0.out.cell 0 rfl
        have fb01 : w88.cell? ⟨w.heap.size, 1, none⟩ = some (Value.int IntKind.i64 x.ver) := b0.out.cell 1 rfl
        have fb02 : w88.cell? ⟨w.heap.size, 2, none⟩ = some (Value.slice A0B x.tabs.length c0B) := b0.out.cell 2 rfl
        have fb10 : w88.cell? ⟨w.heap.size + 1, 0, none⟩ = some (Value.int IntKind.i64 u.table) := b1.out.cell 0 rfl
        have fb11 : w88.cell? ⟨w.heap.size + 1, 1, none⟩ = some (Value.bool u.had) := b1.out.cell 1 rfl
        have fb12 : w88.cell? ⟨w.heap.size + 1, 2, none⟩ = some (Value.bool u.has) := b1.out.cell 2 rfl
        have fb13 : w88.cell? ⟨w.heap.size + 1, 3, none⟩ = some (Value.int IntKind.i64 u.old.id) := b1.out.cell 3 rfl
        have fb14 : w88.cell? ⟨w.heap.size + 1, 4, none⟩ = some (Value.slice A1 u.old.cells.length c1) := b1.out.cell 4 rfl
        have fb15 : w88.cell? ⟨w.heap.size + 1, 5, none⟩ = some (Value.int IntKind.i64 u.new.id) := b1.out.cell 5 rfl
        have fb16 : w88.cell? ⟨w.heap.size + 1, 6, none⟩ = some (Value.slice A1B u.new.cells.length c1B) := b1.out.cell 6 rfl
        have fBw00 : w88.cell? ⟨p, 0, none⟩ = some (Value.slice Aw0 y.cols.length cw0) := Bw0.out.cell 0 rfl
        have fBw01 : w88.cell? ⟨p, 1, none⟩ = some (Value.int IntKind.i64 y.ver) := Bw0.out.cell 1 rfl
        have fBw02 : w88.cell? ⟨p, 2, none⟩ = some (Value.slice Aw0B y.tabs.length cw0B) := Bw0.out.cell 2 rfl
        have fBx00 : w88.cell? ⟨w52.heap.size, 0, none⟩ = some (Value.slice Ax0 x.cols.length cx0) := Bx0.out.cell 0 rfl
        have fBx01 : w88.cell? ⟨w52.heap.size, 1, none⟩ = some (Value.int IntKind.i64 x.ver) := Bx0.out.cell 1 rfl
        have fBx02 : w88.cell? ⟨w52.heap.size, 2, none⟩ = some (Value.slice Ax0B x.tabs.length cx0B) := Bx0.out.cell 2 rfl
        have fBx10 : w88.cell? ⟨w54.heap.size, 0, none⟩ = some (Value.int IntKind.i64 u.table) := Bx1.out.cell 0 rfl
        have fBx11 : w88.cell? ⟨w54.heap.size, 1, none⟩ = some (Value.bool u.had) := Bx1.out.cell 1 rfl
        have fBx12 : w88.cell? ⟨w54.heap.size, 2, none⟩ = some (Value.bool u.has) := Bx1.out.cell 2 rfl
        have fBx13 : w88.cell? ⟨w54.heap.size, 3, none⟩ = some (Value.int IntKind.i64 u.old.id) := Bx1.out.cell 3 rfl
        have fBx14 : w88.cell? ⟨w54.heap.size, 4, none⟩ = some (Value.slice Ax1 u.old.cells.length cx1) := Bx1.out.cell 4 rfl
        have fBx15 : w88.cell? ⟨w54.heap.size, 5, none⟩ = some (Value.int IntKind.i64 u.new.id) := Bx1.out.cell 5 rfl
        have fBx16 : w88.cell? ⟨w54.heap.size, 6, none⟩ = some (Value.slice Ax1B u.new.cells.length cx1B) := Bx1.out.cell 6 rfl
        have fBg00 : w88.cell? ⟨w56.heap.size, 0, none⟩ = some (Value.slice Ag0 y.cols.length cg0) := Bg0.out.cell 0 rfl
        have fBg01 : w88.cell? ⟨w56.heap.size, 1, none⟩ = some (Value.int IntKind.i64 y.ver) := Bg0.out.cell 1 rfl
        have fBg02 : w88.cell? ⟨w56.heap.size, 2, none⟩ = some (Value.slice Ag0B y.tabs.length cg0B) := Bg0.out.cell 2 rfl
        have fBh00 : w88.cell? ⟨w83.heap.size, 0, none⟩ = some (Value.slice Ah0 y.cols.length ch0) := Bh0.out.cell 0 rfl
        have fBh01 : w88.cell? ⟨w83.heap.size, 1, none⟩ = some (Value.int IntKind.i64 y.ver) := Bh0.out.cell 1 rfl
        have fBh02 : w88.cell? ⟨w83.heap.size, 2, none⟩ = some (Value.slice Ah0B y.tabs.length ch0B) := Bh0.out.cell 2 rfl
        go_wp2_with fail
        clear fb00 fb01 fb02 fb10 fb11 fb12 fb13 fb14 fb15 fb16 fBw00 fBw01 fBw02 fBx00 fBx01 fBx02 fBx10 fBx11 fBx12 fBx13 fBx14 fBx15 fBx16 fBg00 fBg01 fBg02 fBh00 fBh01 fBh02
        go_ret
        exact ⟨rfl, hB.out⟩
      · refine stepM_of rfl ?_ (by rfl)
        go_wp2_with fail
        refine ⟨cls_below (below_alloc hS.out _), ?_⟩
        refine genT ?_; intro W82 hW
        have hE : Below w81.heap.size w81 W82 := by rw [hW]; exact below_alloc (Below.refl _ _) _
        have Bh0 := Hd.mk (show Blk W82 w81.heap.size #[Value.slice none 0 0, Value.int IntKind.i64 0, Value.slice none 0 0] 37 by rw [hW]; exact Blk.new _ _ _)
        have hz_ : w81.heap.size + 1 ≤ W82.heap.size := by rw [hW]; simp
        clear hW
        have db0_Bh0 := Hd.mk eb0.out
        have db1_Bh0 := Hd.mk eb1.out
        have dw0_Bh0 := Hd.mk ew0.out
        have dBw0_Bh0 := Hd.mk eBw0.out
        have dBx0_Bh0 := Hd.mk eBx0.out
        have dBx1_Bh0 := Hd.mk eBx1.out
        have dg0_Bh0 := Hd.mk eg0.out
        have dBg0_Bh0 := Hd.mk eBg0.out
        have dr0_Bh0 := Hd.mk er0.out
        have dr1_Bh0 := Hd.mk er1.out
        have aBh0 := Hd.mk hB.out.size
        replace b0 := Hd.mk (b0.out.below hE)
        replace eb0 := Hd.mk (Nat.le_trans eb0.out hE.size)
        replace b1 := Hd.mk (b1.out.below hE)
        replace eb1 := Hd.mk (Nat.le_trans eb1.out hE.size)
        replace w0 := Hd.mk (Ty.O_below w0.out hE)
        replace ew0 := Hd.mk (Nat.le_trans ew0.out hE.size)
        replace Bw0 := Hd.mk (Bw0.out.below hE)
        replace eBw0 := Hd.mk (Nat.le_trans eBw0.out hE.size)
        replace Bx0 := Hd.mk (Bx0.out.below hE)
        replace eBx0 := Hd.mk (Nat.le_trans eBx0.out hE.size)
        replace Bx1 := Hd.mk (Bx1.out.below hE)
        replace eBx1 := Hd.mk (Nat.le_trans eBx1.out hE.size)
        replace g0 := Hd.mk (Ty.O_below g0.out hE)
        replace eg0 := Hd.mk (Nat.le_trans eg0.out hE.size)
        replace Bg0 := Hd.mk (Bg0.out.below hE)
        replace eBg0 := Hd.mk (Nat.le_trans eBg0.out hE.size)
        replace r0 := Hd.mk (Ty.O_below r0.out hE)
        replace er0 := Hd.mk (Nat.le_trans er0.out hE.size)
        replace r1 := Hd.mk (Ty.O_below r1.out hE)
        replace er1 := Hd.mk (Nat.le_trans er1.out hE.size)
        replace hB := Hd.mk (below_then hB.out hE)
        replace hS := Hd.mk (below_then hS.out hE)
        have eBh0 := Hd.mk hz_; clear hz_ hE
        refine mixT_b rfl ?_ (by rfl)
        go_wp2_with fail
        apply calls_gen; intro W83 hW
        have hE : Below W82.heap.size W82 W83 := by rw [hW]; (repeat (first | with_reducible refine below_alloc ?_ _ | with_reducible refine below_drew ?_)); exact Below.refl _ _
        clear hW
        replace b0 := Hd.mk (b0.out.below hE)
        replace eb0 := Hd.mk (Nat.le_trans eb0.out hE.size)
        replace b1 := Hd.mk (b1.out.below hE)
        replace eb1 := Hd.mk (Nat.le_trans eb1.out hE.size)
        replace w0 := Hd.mk (Ty.O_below w0.out hE)
        replace ew0 := Hd.mk (Nat.le_trans ew0.out hE.size)
        replace Bw0 := Hd.mk (Bw0.out.below hE)
        replace eBw0 := Hd.mk (Nat.le_trans eBw0.out hE.size)
        replace Bx0 := Hd.mk (Bx0.out.below hE)
        replace eBx0 := Hd.mk (Nat.le_trans eBx0.out hE.size)
        replace Bx1 := Hd.mk (Bx1.out.below hE)
        replace eBx1 := Hd.mk (Nat.le_trans eBx1.out hE.size)
        replace g0 := Hd.mk (Ty.O_below g0.out hE)
        replace eg0 := Hd.mk (Nat.le_trans eg0.out hE.size)
        replace Bg0 := Hd.mk (Bg0.out.below hE)
        replace eBg0 := Hd.mk (Nat.le_trans eBg0.out hE.size)
        replace r0 := Hd.mk (Ty.O_below r0.out hE)
        replace er0 := Hd.mk (Nat.le_trans er0.out hE.size)
        replace r1 := Hd.mk (Ty.O_below r1.out hE)
        replace er1 := Hd.mk (Nat.le_trans er1.out hE.size)
        replace Bh0 := Hd.mk (Bh0.out.below hE)
        replace eBh0 := Hd.mk (Nat.le_trans eBh0.out hE.size)
        replace hB := Hd.mk (below_then hB.out hE)
        replace hS := Hd.mk (below_then hS.out hE)
        clear hE
        refine (impl_Back x _ u _ _ (tStore.O_K r0.out) (tChange.O_K r1.out) (by have := HL0.out.1; omega) (by have := HL1.out.1; omega)).mono ?_
        rintro e w84 ⟨cs_, rfl, hO, hX⟩
        have db0_h0 := Hd.mk eb0.out
        have db1_h0 := Hd.mk eb1.out
        have dw0_h0 := Hd.mk ew0.out
        have dBw0_h0 := Hd.mk eBw0.out
        have dBx0_h0 := Hd.mk eBx0.out
        have dBx1_h0 := Hd.mk eBx1.out
        have dg0_h0 := Hd.mk eg0.out
        have dBg0_h0 := Hd.mk eBg0.out
        have dr0_h0 := Hd.mk er0.out
        have dr1_h0 := Hd.mk er1.out
        have dBh0_h0 := Hd.mk eBh0.out
        have ah0 := Hd.mk hB.out.size
        replace b0 := Hd.mk (b0.out.below hX)
        replace eb0 := Hd.mk (Nat.le_trans eb0.out hX.size)
        replace b1 := Hd.mk (b1.out.below hX)
        replace eb1 := Hd.mk (Nat.le_trans eb1.out hX.size)
        replace w0 := Hd.mk (Ty.O_below w0.out hX)
        replace ew0 := Hd.mk (Nat.le_trans ew0.out hX.size)
        replace Bw0 := Hd.mk (Bw0.out.below hX)
        replace eBw0 := Hd.mk (Nat.le_trans eBw0.out hX.size)
        replace Bx0 := Hd.mk (Bx0.out.below hX)
        replace eBx0 := Hd.mk (Nat.le_trans eBx0.out hX.size)
        replace Bx1 := Hd.mk (Bx1.out.below hX)
        replace eBx1 := Hd.mk (Nat.le_trans eBx1.out hX.size)
        replace g0 := Hd.mk (Ty.O_below g0.out hX)
        replace eg0 := Hd.mk (Nat.le_trans eg0.out hX.size)
        replace Bg0 := Hd.mk (Bg0.out.below hX)
        replace eBg0 := Hd.mk (Nat.le_trans eBg0.out hX.size)
        replace r0 := Hd.mk (Ty.O_below r0.out hX)
        replace er0 := Hd.mk (Nat.le_trans er0.out hX.size)
        replace r1 := Hd.mk (Ty.O_below r1.out hX)
        replace er1 := Hd.mk (Nat.le_trans er1.out hX.size)
        replace Bh0 := Hd.mk (Bh0.out.below hX)
        replace eBh0 := Hd.mk (Nat.le_trans eBh0.out hX.size)
        replace hB := Hd.mk (below_then hB.out hX)
        replace hS := Hd.mk (below_then hS.out hX)
        clear hX
        rw [← Hy.out] at hO
        rw [← Hyb.out]
        replace hO := Ty.O_bound _ hO
        obtain ⟨v_, u_, _, _, hcs, r1, r2, _⟩ := tStore_O.1 hO
        subst hcs
        obtain ⟨Ah0, ch0, hv_, hch0, _⟩ := R_C r1
        subst hv_
        clear r1
        obtain ⟨Ah0B, ch0B, hv_, hch0B, _⟩ := R_C r2
        subst hv_
        clear r2
        have h0 := Hd.mk (show tStore.O w84 (rng W83.heap.size w84.heap.size) y [Value.slice Ah0 y.cols.length ch0, Value.int IntKind.i64 y.ver, Value.slice Ah0B y.tabs.length ch0B] from hO); clear hO
        have eh0 := Hd.mk (Nat.le_refl w84.heap.size)
        go_wp2_with fail
        refine ⟨cls_below hS.out, ?_⟩
        refine mixT_p rfl ?_
        go_big_quiet_want; go_big_quiet_op; go_big_quiet_on; refine wpQuiet_nil ?_
        refine mixT_p rfl ?_
        go_big_quiet_want; go_big_quiet_op; go_big_quiet_on; refine wpQuiet_nil ?_
        refine mixT_p rfl ?_
        go_big_quiet_want; go_big_quiet_op; go_big_quiet_on; refine wpQuiet_nil ?_
        refine mixT_fin ?_
        clear hS
        clear fb00 fb01 fb02 fb10 fb11 fb12 fb13 fb14 fb15 fb16 fBw00 fBw01 fBw02 fBx00 fBx01 fBx02 fBx10 fBx11 fBx12 fBx13 fBx14 fBx15 fBx16 fBg00 fBg01 fBg02 rfb00 rfb01 rfb02 rfb10 rfb11 rfb12 rfb13 rfb14 rfb15 rfb16 rfBw00 rfBw01 rfBw02 rfBx00 rfBx01 rfBx02 rfBx10 rfBx11 rfBx12 rfBx13 rfBx14 rfBx15 rfBx16 rfBg00 rfBg01 rfBg02
        have fb00 : w84.cell? ⟨w.heap.size, 0, none⟩ = some (Value.slice A0 x.cols.length c0) := b0.out.cell 0 rfl
        have fb01 : w84.cell? ⟨w.heap.size, 1, none⟩ = some (Value.int IntKind.i64 x.ver) := b0.out.cell 1 rfl
        have fb02 : w84.cell? ⟨w.heap.size, 2, none⟩ = some (Value.slice A0B x.tabs.length c0B) := b0.out.cell 2 rfl
        have fb10 : w84.cell? ⟨w.heap.size + 1, 0, none⟩ = some (Value.int IntKind.i64 u.table) := b1.out.cell 0 rfl
        have fb11 : w84.cell? ⟨w.heap.size + 1, 1, none⟩ = some (Value.bool u.had) := b1.out.cell 1 rfl
        have fb12 : w84.cell? ⟨w.heap.size + 1, 2, none⟩ = some (Value.bool u.has) := b1.out.cell 2 rfl
        have fb13 : w84.cell? ⟨w.heap.size + 1, 3, none⟩ = some (Value.int IntKind.i64 u.old.id) := b1.out.cell 3 rfl
        have fb14 : w84.cell? ⟨w.heap.size + 1, 4, none⟩ = some (Value.slice A1 u.old.cells.length c1) := b1.out.cell 4 rfl
        have fb15 : w84.cell? ⟨w.heap.size + 1, 5, none⟩ = some (Value.int IntKind.i64 u.new.id) := b1.out.cell 5 rfl
        have fb16 : w84.cell? ⟨w.heap.size + 1, 6, none⟩ = some (Value.slice A1B u.new.cells.length c1B) := b1.out.cell 6 rfl
        have fBw00 : w84.cell? ⟨p, 0, none⟩ = some (Value.slice Aw0 y.cols.length cw0) := Bw0.out.cell 0 rfl
        have fBw01 : w84.cell? ⟨p, 1, none⟩ = some (Value.int IntKind.i64 y.ver) := Bw0.out.cell 1 rfl
        have fBw02 : w84.cell? ⟨p, 2, none⟩ = some (Value.slice Aw0B y.tabs.length cw0B) := Bw0.out.cell 2 rfl
        have fBx00 : w84.cell? ⟨w52.heap.size, 0, none⟩ = some (Value.slice Ax0 x.cols.length cx0) := Bx0.out.cell 0 rfl
        have fBx01 : w84.cell? ⟨w52.heap.size, 1, none⟩ = some (Value.int IntKind.i64 x.ver) := Bx0.out.cell 1 rfl
        have fBx02 : w84.cell? ⟨w52.heap.size, 2, none⟩ = some (Value.slice Ax0B x.tabs.length cx0B) := Bx0.out.cell 2 rfl
        have fBx10 : w84.cell? ⟨w54.heap.size, 0, none⟩ = some (Value.int IntKind.i64 u.table) := Bx1.out.cell 0 rfl
        have fBx11 : w84.cell? ⟨w54.heap.size, 1, none⟩ = some (Value.bool u.had) := Bx1.out.cell 1 rfl
        have fBx12 : w84.cell? ⟨w54.heap.size, 2, none⟩ = some (Value.bool u.has) := Bx1.out.cell 2 rfl
        have fBx13 : w84.cell? ⟨w54.heap.size, 3, none⟩ = some (Value.int IntKind.i64 u.old.id) := Bx1.out.cell 3 rfl
        have fBx14 : w84.cell? ⟨w54.heap.size, 4, none⟩ = some (Value.slice Ax1 u.old.cells.length cx1) := Bx1.out.cell 4 rfl
        have fBx15 : w84.cell? ⟨w54.heap.size, 5, none⟩ = some (Value.int IntKind.i64 u.new.id) := Bx1.out.cell 5 rfl
        have fBx16 : w84.cell? ⟨w54.heap.size, 6, none⟩ = some (Value.slice Ax1B u.new.cells.length cx1B) := Bx1.out.cell 6 rfl
        have fBg00 : w84.cell? ⟨w56.heap.size, 0, none⟩ = some (Value.slice Ag0 y.cols.length cg0) := Bg0.out.cell 0 rfl
        have fBg01 : w84.cell? ⟨w56.heap.size, 1, none⟩ = some (Value.int IntKind.i64 y.ver) := Bg0.out.cell 1 rfl
        have fBg02 : w84.cell? ⟨w56.heap.size, 2, none⟩ = some (Value.slice Ag0B y.tabs.length cg0B) := Bg0.out.cell 2 rfl
        have fBh00 : w84.cell? ⟨w81.heap.size, 0, none⟩ = some (Value.slice none 0 0) := Bh0.out.cell 0 rfl
        have fBh01 : w84.cell? ⟨w81.heap.size, 1, none⟩ = some (Value.int IntKind.i64 0) := Bh0.out.cell 1 rfl
        have fBh02 : w84.cell? ⟨w81.heap.size, 2, none⟩ = some (Value.slice none 0 0) := Bh0.out.cell 2 rfl
        have fz_ := Bh0.out.frozen
        refine tail_b rfl ?_ (by rfl)
        go_wp2_with fail
        refine mixQ_n ?_
        refine tail_b rfl ?_ (by rfl)
        go_wp2_with fail
        refine mixQ_n ?_
        refine tail_nil ?_
        refine exit_gen ?_; intro W hW
        clear fz_
        clear fb00 fb01 fb02 fb10 fb11 fb12 fb13 fb14 fb15 fb16 fBw00 fBw01 fBw02 fBx00 fBx01 fBx02 fBx10 fBx11 fBx12 fBx13 fBx14 fBx15 fBx16 fBg00 fBg01 fBg02 fBh00 fBh01 fBh02
        have eF : Fr w84 W (fun k => k = w81.heap.size) := by rw [hW]; (repeat (first | with_reducible refine Fr.setCell (S := fun k => k = w81.heap.size) ?_ _ (fun _ => rfl) _)); exact Fr.refl _ _
        have hsz_ := eF.size
        replace b0 := Hd.mk (b0.out.fr eF (fun h => by have := db0_Bh0.out; (try simp only at h); omega))
        replace eb0 := Hd.mk (Nat.le_trans eb0.out hsz_)
        replace b1 := Hd.mk (b1.out.fr eF (fun h => by have := db1_Bh0.out; (try simp only at h); omega))
        replace eb1 := Hd.mk (Nat.le_trans eb1.out hsz_)
        replace w0 := Hd.mk (Ty.O_fr w0.out eF (fun k hk hl h => by have := dw0_Bh0.out; have h1 := hk.1; have h2 := hk.2; (try simp only at h); omega))
        replace ew0 := Hd.mk (Nat.le_trans ew0.out hsz_)
        replace Bw0 := Hd.mk (Bw0.out.fr eF (fun h => by have := dBw0_Bh0.out; (try simp only at h); omega))
        replace eBw0 := Hd.mk (Nat.le_trans eBw0.out hsz_)
        replace Bx0 := Hd.mk (Bx0.out.fr eF (fun h => by have := dBx0_Bh0.out; (try simp only at h); omega))
        replace eBx0 := Hd.mk (Nat.le_trans eBx0.out hsz_)
        replace Bx1 := Hd.mk (Bx1.out.fr eF (fun h => by have := dBx1_Bh0.out; (try simp only at h); omega))
        replace eBx1 := Hd.mk (Nat.le_trans eBx1.out hsz_)
        replace g0 := Hd.mk (Ty.O_fr g0.out eF (fun k hk hl h => by have := dg0_Bh0.out; have h1 := hk.1; have h2 := hk.2; (try simp only at h); omega))
        replace eg0 := Hd.mk (Nat.le_trans eg0.out hsz_)
        replace Bg0 := Hd.mk (Bg0.out.fr eF (fun h => by have := dBg0_Bh0.out; (try simp only at h); omega))
        replace eBg0 := Hd.mk (Nat.le_trans eBg0.out hsz_)
        replace r0 := Hd.mk (Ty.O_fr r0.out eF (fun k hk hl h => by have := dr0_Bh0.out; have h1 := hk.1; have h2 := hk.2; (try simp only at h); omega))
        replace er0 := Hd.mk (Nat.le_trans er0.out hsz_)
        replace r1 := Hd.mk (Ty.O_fr r1.out eF (fun k hk hl h => by have := dr1_Bh0.out; have h1 := hk.1; have h2 := hk.2; (try simp only at h); omega))
        replace er1 := Hd.mk (Nat.le_trans er1.out hsz_)
        replace h0 := Hd.mk (Ty.O_fr h0.out eF (fun k hk hl h => by have := dBh0_h0.out; have h1 := hk.1; have h2 := hk.2; (try simp only at h); omega))
        replace eh0 := Hd.mk (Nat.le_trans eh0.out hsz_)
        replace Bh0 := Hd.mk (show Blk W (w81.heap.size) #[Value.slice Ah0 y.cols.length ch0, Value.int IntKind.i64 y.ver, Value.slice Ah0B y.tabs.length ch0B] 37 by rw [hW]; exact (((Bh0.out.set 0 (Value.slice Ah0 y.cols.length ch0)).set 1 (Value.int IntKind.i64 y.ver)).set 2 (Value.slice Ah0B y.tabs.length ch0B)))
        replace eBh0 := Hd.mk (Nat.le_trans eBh0.out hsz_)
        replace hB := Hd.mk (((Fr.of_below hB.out (fun k => k = w81.heap.size)).then_ eF (fun k h _ => h)).below (fun k h => by have := aBh0.out; (try simp only at h); omega))
        clear hW eF hsz_
        clear r0 er0
        clear r1 er1
        have fb00 : W.cell? ⟨w.heap.size, 0, none⟩ = some (Value.slice A0 x.cols.length c0) := b0.out.cell 0 rfl
        have fb01 : W.cell? ⟨w.heap.size, 1, none⟩ = some (Value.int IntKind.i64 x.ver) := b0.out.cell 1 rfl
        have fb02 : W.cell? ⟨w.heap.size, 2, none⟩ = some (Value.slice A0B x.tabs.length c0B) := b0.out.cell 2 rfl
        have fb10 : W.cell? ⟨w.heap.size + 1, 0, none⟩ = some (Value.int IntKind.i64 u.table) := b1.out.cell 0 rfl
        have fb11 : W.cell? ⟨w.heap.size + 1, 1, none⟩ = some (Value.bool u.had) := b1.out.cell 1 rfl
        have fb12 : W.cell? ⟨w.heap.size + 1, 2, none⟩ = some (Value.bool u.has) := b1.out.cell 2 rfl
        have fb13 : W.cell? ⟨w.heap.size + 1, 3, none⟩ = some (Value.int IntKind.i64 u.old.id) := b1.out.cell 3 rfl
        have fb14 : W.cell? ⟨w.heap.size + 1, 4, none⟩ = some (Value.slice A1 u.old.cells.length c1) := b1.out.cell 4 rfl
        have fb15 : W.cell? ⟨w.heap.size + 1, 5, none⟩ = some (Value.int IntKind.i64 u.new.id) := b1.out.cell 5 rfl
        have fb16 : W.cell? ⟨w.heap.size + 1, 6, none⟩ = some (Value.slice A1B u.new.cells.length c1B) := b1.out.cell 6 rfl
        have fBw00 : W.cell? ⟨p, 0, none⟩ = some (Value.slice Aw0 y.cols.length cw0) := Bw0.out.cell 0 rfl
        have fBw01 : W.cell? ⟨p, 1, none⟩ = some (Value.int IntKind.i64 y.ver) := Bw0.out.cell 1 rfl
        have fBw02 : W.cell? ⟨p, 2, none⟩ = some (Value.slice Aw0B y.tabs.length cw0B) := Bw0.out.cell 2 rfl
        have fBx00 : W.cell? ⟨w52.heap.size, 0, none⟩ = some (Value.slice Ax0 x.cols.length cx0) := Bx0.out.cell 0 rfl
        have fBx01 : W.cell? ⟨w52.heap.size, 1, none⟩ = some (Value.int IntKind.i64 x.ver) := Bx0.out.cell 1 rfl
        have fBx02 : W.cell? ⟨w52.heap.size, 2, none⟩ = some (Value.slice Ax0B x.tabs.length cx0B) := Bx0.out.cell 2 rfl
        have fBx10 : W.cell? ⟨w54.heap.size, 0, none⟩ = some (Value.int IntKind.i64 u.table) := Bx1.out.cell 0 rfl
        have fBx11 : W.cell? ⟨w54.heap.size, 1, none⟩ = some (Value.bool u.had) := Bx1.out.cell 1 rfl
        have fBx12 : W.cell? ⟨w54.heap.size, 2, none⟩ = some (Value.bool u.has) := Bx1.out.cell 2 rfl
        have fBx13 : W.cell? ⟨w54.heap.size, 3, none⟩ = some (Value.int IntKind.i64 u.old.id) := Bx1.out.cell 3 rfl
        have fBx14 : W.cell? ⟨w54.heap.size, 4, none⟩ = some (Value.slice Ax1 u.old.cells.length cx1) := Bx1.out.cell 4 rfl
        have fBx15 : W.cell? ⟨w54.heap.size, 5, none⟩ = some (Value.int IntKind.i64 u.new.id) := Bx1.out.cell 5 rfl
        have fBx16 : W.cell? ⟨w54.heap.size, 6, none⟩ = some (Value.slice Ax1B u.new.cells.length cx1B) := Bx1.out.cell 6 rfl
        have fBg00 : W.cell? ⟨w56.heap.size, 0, none⟩ = some (Value.slice Ag0 y.cols.length cg0) := Bg0.out.cell 0 rfl
        have fBg01 : W.cell? ⟨w56.heap.size, 1, none⟩ = some (Value.int IntKind.i64 y.ver) := Bg0.out.cell 1 rfl
        have fBg02 : W.cell? ⟨w56.heap.size, 2, none⟩ = some (Value.slice Ag0B y.tabs.length cg0B) := Bg0.out.cell 2 rfl
        have fBh00 : W.cell? ⟨w81.heap.size, 0, none⟩ = some (Value.slice Ah0 y.cols.length ch0) := Bh0.out.cell 0 rfl
        have fBh01 : W.cell? ⟨w81.heap.size, 1, none⟩ = some (Value.int IntKind.i64 y.ver) := Bh0.out.cell 1 rfl
        have fBh02 : W.cell? ⟨w81.heap.size, 2, none⟩ = some (Value.slice Ah0B y.tabs.length ch0B) := Bh0.out.cell 2 rfl
        go_wp2_with fail
        clear fb00 fb01 fb02 fb10 fb11 fb12 fb13 fb14 fb15 fb16 fBw00 fBw01 fBw02 fBx00 fBx01 fBx02 fBx10 fBx11 fBx12 fBx13 fBx14 fBx15 fBx16 fBg00 fBg01 fBg02 fBh00 fBh01 fBh02
        apply calls_gen; intro W85 hW
        have hE : Below W.heap.size W W85 := by rw [hW]; (repeat (first | with_reducible refine below_alloc ?_ _ | with_reducible refine below_drew ?_)); exact Below.refl _ _
        clear hW
        replace b0 := Hd.mk (b0.out.below hE)
        replace eb0 := Hd.mk (Nat.le_trans eb0.out hE.size)
        replace b1 := Hd.mk (b1.out.below hE)
        replace eb1 := Hd.mk (Nat.le_trans eb1.out hE.size)
        replace w0 := Hd.mk (Ty.O_below w0.out hE)
        replace ew0 := Hd.mk (Nat.le_trans ew0.out hE.size)
        replace Bw0 := Hd.mk (Bw0.out.below hE)
        replace eBw0 := Hd.mk (Nat.le_trans eBw0.out hE.size)
        replace Bx0 := Hd.mk (Bx0.out.below hE)
        replace eBx0 := Hd.mk (Nat.le_trans eBx0.out hE.size)
        replace Bx1 := Hd.mk (Bx1.out.below hE)
        replace eBx1 := Hd.mk (Nat.le_trans eBx1.out hE.size)
        replace g0 := Hd.mk (Ty.O_below g0.out hE)
        replace eg0 := Hd.mk (Nat.le_trans eg0.out hE.size)
        replace Bg0 := Hd.mk (Bg0.out.below hE)
        replace eBg0 := Hd.mk (Nat.le_trans eBg0.out hE.size)
        replace Bh0 := Hd.mk (Bh0.out.below hE)
        replace eBh0 := Hd.mk (Nat.le_trans eBh0.out hE.size)
        replace h0 := Hd.mk (Ty.O_below h0.out hE)
        replace eh0 := Hd.mk (Nat.le_trans eh0.out hE.size)
        replace hB := Hd.mk (below_then hB.out hE)
        clear hE
        refine (laws_eqStore y y _ _ _ (tStore.O_K h0.out) (tStore.O_K w0.out)).mono ?_
        rintro e w86 ⟨rfl, hX⟩
        replace b0 := Hd.mk (b0.out.below hX)
        replace eb0 := Hd.mk (Nat.le_trans eb0.out hX.size)
        replace b1 := Hd.mk (b1.out.below hX)
        replace eb1 := Hd.mk (Nat.le_trans eb1.out hX.size)
        replace w0 := Hd.mk (Ty.O_below w0.out hX)
        replace ew0 := Hd.mk (Nat.le_trans ew0.out hX.size)
        replace Bw0 := Hd.mk (Bw0.out.below hX)
        replace eBw0 := Hd.mk (Nat.le_trans eBw0.out hX.size)
        replace Bx0 := Hd.mk (Bx0.out.below hX)
        replace eBx0 := Hd.mk (Nat.le_trans eBx0.out hX.size)
        replace Bx1 := Hd.mk (Bx1.out.below hX)
        replace eBx1 := Hd.mk (Nat.le_trans eBx1.out hX.size)
        replace g0 := Hd.mk (Ty.O_below g0.out hX)
        replace eg0 := Hd.mk (Nat.le_trans eg0.out hX.size)
        replace Bg0 := Hd.mk (Bg0.out.below hX)
        replace eBg0 := Hd.mk (Nat.le_trans eBg0.out hX.size)
        replace Bh0 := Hd.mk (Bh0.out.below hX)
        replace eBh0 := Hd.mk (Nat.le_trans eBh0.out hX.size)
        replace h0 := Hd.mk (Ty.O_below h0.out hX)
        replace eh0 := Hd.mk (Nat.le_trans eh0.out hX.size)
        replace hB := Hd.mk (below_then hB.out hX)
        clear hX
        rw [eqv_self]
        have fb00 : w86.cell? ⟨w.heap.size, 0, none⟩ = some (Value.slice A0 x.cols.length c0) := b0.out.cell 0 rfl
        have fb01 : w86.cell? ⟨w.heap.size, 1, none⟩ = some (Value.int IntKind.i64 x.ver) := b0.out.cell 1 rfl
        have fb02 : w86.cell? ⟨w.heap.size, 2, none⟩ = some (Value.slice A0B x.tabs.length c0B) := b0.out.cell 2 rfl
        have fb10 : w86.cell? ⟨w.heap.size + 1, 0, none⟩ = some (Value.int IntKind.i64 u.table) := b1.out.cell 0 rfl
        have fb11 : w86.cell? ⟨w.heap.size + 1, 1, none⟩ = some (Value.bool u.had) := b1.out.cell 1 rfl
        have fb12 : w86.cell? ⟨w.heap.size + 1, 2, none⟩ = some (Value.bool u.has) := b1.out.cell 2 rfl
        have fb13 : w86.cell? ⟨w.heap.size + 1, 3, none⟩ = some (Value.int IntKind.i64 u.old.id) := b1.out.cell 3 rfl
        have fb14 : w86.cell? ⟨w.heap.size + 1, 4, none⟩ = some (Value.slice A1 u.old.cells.length c1) := b1.out.cell 4 rfl
        have fb15 : w86.cell? ⟨w.heap.size + 1, 5, none⟩ = some (Value.int IntKind.i64 u.new.id) := b1.out.cell 5 rfl
        have fb16 : w86.cell? ⟨w.heap.size + 1, 6, none⟩ = some (Value.slice A1B u.new.cells.length c1B) := b1.out.cell 6 rfl
        have fBw00 : w86.cell? ⟨p, 0, none⟩ = some (Value.slice Aw0 y.cols.length cw0) := Bw0.out.cell 0 rfl
        have fBw01 : w86.cell? ⟨p, 1, none⟩ = some (Value.int IntKind.i64 y.ver) := Bw0.out.cell 1 rfl
        have fBw02 : w86.cell? ⟨p, 2, none⟩ = some (Value.slice Aw0B y.tabs.length cw0B) := Bw0.out.cell 2 rfl
        have fBx00 : w86.cell? ⟨w52.heap.size, 0, none⟩ = some (Value.slice Ax0 x.cols.length cx0) := Bx0.out.cell 0 rfl
        have fBx01 : w86.cell? ⟨w52.heap.size, 1, none⟩ = some (Value.int IntKind.i64 x.ver) := Bx0.out.cell 1 rfl
        have fBx02 : w86.cell? ⟨w52.heap.size, 2, none⟩ = some (Value.slice Ax0B x.tabs.length cx0B) := Bx0.out.cell 2 rfl
        have fBx10 : w86.cell? ⟨w54.heap.size, 0, none⟩ = some (Value.int IntKind.i64 u.table) := Bx1.out.cell 0 rfl
        have fBx11 : w86.cell? ⟨w54.heap.size, 1, none⟩ = some (Value.bool u.had) := Bx1.out.cell 1 rfl
        have fBx12 : w86.cell? ⟨w54.heap.size, 2, none⟩ = some (Value.bool u.has) := Bx1.out.cell 2 rfl
        have fBx13 : w86.cell? ⟨w54.heap.size, 3, none⟩ = some (Value.int IntKind.i64 u.old.id) := Bx1.out.cell 3 rfl
        have fBx14 : w86.cell? ⟨w54.heap.size, 4, none⟩ = some (Value.slice Ax1 u.old.cells.length cx1) := Bx1.out.cell 4 rfl
        have fBx15 : w86.cell? ⟨w54.heap.size, 5, none⟩ = some (Value.int IntKind.i64 u.new.id) := Bx1.out.cell 5 rfl
        have fBx16 : w86.cell? ⟨w54.heap.size, 6, none⟩ = some (Value.slice Ax1B u.new.cells.length cx1B) := Bx1.out.cell 6 rfl
        have fBg00 : w86.cell? ⟨w56.heap.size, 0, none⟩ = some (Value.slice Ag0 y.cols.length cg0) := Bg0.out.cell 0 rfl
        have fBg01 : w86.cell? ⟨w56.heap.size, 1, none⟩ = some (Value.int IntKind.i64 y.ver) := Bg0.out.cell 1 rfl
        have fBg02 : w86.cell? ⟨w56.heap.size, 2, none⟩ = some (Value.slice Ag0B y.tabs.length cg0B) := Bg0.out.cell 2 rfl
        have fBh00 : w86.cell? ⟨w81.heap.size, 0, none⟩ = some (Value.slice Ah0 y.cols.length ch0) := Bh0.out.cell 0 rfl
        have fBh01 : w86.cell? ⟨w81.heap.size, 1, none⟩ = some (Value.int IntKind.i64 y.ver) := Bh0.out.cell 1 rfl
        have fBh02 : w86.cell? ⟨w81.heap.size, 2, none⟩ = some (Value.slice Ah0B y.tabs.length ch0B) := Bh0.out.cell 2 rfl
        go_wp2_with fail
        clear fb00 fb01 fb02 fb10 fb11 fb12 fb13 fb14 fb15 fb16 fBw00 fBw01 fBw02 fBx00 fBx01 fBx02 fBx10 fBx11 fBx12 fBx13 fBx14 fBx15 fBx16 fBg00 fBg01 fBg02 fBh00 fBh01 fBh02
        apply calls_gen; intro W87 hW
        have hE : Below w86.heap.size w86 W87 := by rw [hW]; (repeat (first | with_reducible refine below_alloc ?_ _ | with_reducible refine below_drew ?_)); exact Below.refl _ _
        clear hW
        replace b0 := Hd.mk (b0.out.below hE)
        replace eb0 := Hd.mk (Nat.le_trans eb0.out hE.size)
        replace b1 := Hd.mk (b1.out.below hE)
        replace eb1 := Hd.mk (Nat.le_trans eb1.out hE.size)
        replace w0 := Hd.mk (Ty.O_below w0.out hE)
        replace ew0 := Hd.mk (Nat.le_trans ew0.out hE.size)
        replace Bw0 := Hd.mk (Bw0.out.below hE)
        replace eBw0 := Hd.mk (Nat.le_trans eBw0.out hE.size)
        replace Bx0 := Hd.mk (Bx0.out.below hE)
        replace eBx0 := Hd.mk (Nat.le_trans eBx0.out hE.size)
        replace Bx1 := Hd.mk (Bx1.out.below hE)
        replace eBx1 := Hd.mk (Nat.le_trans eBx1.out hE.size)
        replace g0 := Hd.mk (Ty.O_below g0.out hE)
        replace eg0 := Hd.mk (Nat.le_trans eg0.out hE.size)
        replace Bg0 := Hd.mk (Bg0.out.below hE)
        replace eBg0 := Hd.mk (Nat.le_trans eBg0.out hE.size)
        replace Bh0 := Hd.mk (Bh0.out.below hE)
        replace eBh0 := Hd.mk (Nat.le_trans eBh0.out hE.size)
        replace h0 := Hd.mk (Ty.O_below h0.out hE)
        replace eh0 := Hd.mk (Nat.le_trans eh0.out hE.size)
        replace hB := Hd.mk (below_then hB.out hE)
        clear hE
        refine (laws_heldStore y _ 1 _ (tStore.O_K g0.out) (by omega) (by omega)).mono ?_
        rintro e w88 ⟨rfl, hX⟩
        replace b0 := Hd.mk (b0.out.below hX)
        replace eb0 := Hd.mk (Nat.le_trans eb0.out hX.size)
        replace b1 := Hd.mk (b1.out.below hX)
        replace eb1 := Hd.mk (Nat.le_trans eb1.out hX.size)
        replace w0 := Hd.mk (Ty.O_below w0.out hX)
        replace ew0 := Hd.mk (Nat.le_trans ew0.out hX.size)
        replace Bw0 := Hd.mk (Bw0.out.below hX)
        replace eBw0 := Hd.mk (Nat.le_trans eBw0.out hX.size)
        replace Bx0 := Hd.mk (Bx0.out.below hX)
        replace eBx0 := Hd.mk (Nat.le_trans eBx0.out hX.size)
        replace Bx1 := Hd.mk (Bx1.out.below hX)
        replace eBx1 := Hd.mk (Nat.le_trans eBx1.out hX.size)
        replace g0 := Hd.mk (Ty.O_below g0.out hX)
        replace eg0 := Hd.mk (Nat.le_trans eg0.out hX.size)
        replace Bg0 := Hd.mk (Bg0.out.below hX)
        replace eBg0 := Hd.mk (Nat.le_trans eBg0.out hX.size)
        replace Bh0 := Hd.mk (Bh0.out.below hX)
        replace eBh0 := Hd.mk (Nat.le_trans eBh0.out hX.size)
        replace h0 := Hd.mk (Ty.O_below h0.out hX)
        replace eh0 := Hd.mk (Nat.le_trans eh0.out hX.size)
        replace hB := Hd.mk (below_then hB.out hX)
        clear hX
        have fb00 : w88.cell? ⟨w.heap.size, 0, none⟩ = some (Value.slice A0 x.cols.length c0) := b0.out.cell 0 rfl
        have fb01 : w88.cell? ⟨w.heap.size, 1, none⟩ = some (Value.int IntKind.i64 x.ver) := b0.out.cell 1 rfl
        have fb02 : w88.cell? ⟨w.heap.size, 2, none⟩ = some (Value.slice A0B x.tabs.length c0B) := b0.out.cell 2 rfl
        have fb10 : w88.cell? ⟨w.heap.size + 1, 0, none⟩ = some (Value.int IntKind.i64 u.table) := b1.out.cell 0 rfl
        have fb11 : w88.cell? ⟨w.heap.size + 1, 1, none⟩ = some (Value.bool u.had) := b1.out.cell 1 rfl
        have fb12 : w88.cell? ⟨w.heap.size + 1, 2, none⟩ = some (Value.bool u.has) := b1.out.cell 2 rfl
        have fb13 : w88.cell? ⟨w.heap.size + 1, 3, none⟩ = some (Value.int IntKind.i64 u.old.id) := b1.out.cell 3 rfl
        have fb14 : w88.cell? ⟨w.heap.size + 1, 4, none⟩ = some (Value.slice A1 u.old.cells.length c1) := b1.out.cell 4 rfl
        have fb15 : w88.cell? ⟨w.heap.size + 1, 5, none⟩ = some (Value.int IntKind.i64 u.new.id) := b1.out.cell 5 rfl
        have fb16 : w88.cell? ⟨w.heap.size + 1, 6, none⟩ = some (Value.slice A1B u.new.cells.length c1B) := b1.out.cell 6 rfl
        have fBw00 : w88.cell? ⟨p, 0, none⟩ = some (Value.slice Aw0 y.cols.length cw0) := Bw0.out.cell 0 rfl
        have fBw01 : w88.cell? ⟨p, 1, none⟩ = some (Value.int IntKind.i64 y.ver) := Bw0.out.cell 1 rfl
        have fBw02 : w88.cell? ⟨p, 2, none⟩ = some (Value.slice Aw0B y.tabs.length cw0B) := Bw0.out.cell 2 rfl
        have fBx00 : w88.cell? ⟨w52.heap.size, 0, none⟩ = some (Value.slice Ax0 x.cols.length cx0) := Bx0.out.cell 0 rfl
        have fBx01 : w88.cell? ⟨w52.heap.size, 1, none⟩ = some (Value.int IntKind.i64 x.ver) := Bx0.out.cell 1 rfl
        have fBx02 : w88.cell? ⟨w52.heap.size, 2, none⟩ = some (Value.slice Ax0B x.tabs.length cx0B) := Bx0.out.cell 2 rfl
        have fBx10 : w88.cell? ⟨w54.heap.size, 0, none⟩ = some (Value.int IntKind.i64 u.table) := Bx1.out.cell 0 rfl
        have fBx11 : w88.cell? ⟨w54.heap.size, 1, none⟩ = some (Value.bool u.had) := Bx1.out.cell 1 rfl
        have fBx12 : w88.cell? ⟨w54.heap.size, 2, none⟩ = some (Value.bool u.has) := Bx1.out.cell 2 rfl
        have fBx13 : w88.cell? ⟨w54.heap.size, 3, none⟩ = some (Value.int IntKind.i64 u.old.id) := Bx1.out.cell 3 rfl
        have fBx14 : w88.cell? ⟨w54.heap.size, 4, none⟩ = some (Value.slice Ax1 u.old.cells.length cx1) := Bx1.out.cell 4 rfl
        have fBx15 : w88.cell? ⟨w54.heap.size, 5, none⟩ = some (Value.int IntKind.i64 u.new.id) := Bx1.out.cell 5 rfl
        have fBx16 : w88.cell? ⟨w54.heap.size, 6, none⟩ = some (Value.slice Ax1B u.new.cells.length cx1B) := Bx1.out.cell 6 rfl
        have fBg00 : w88.cell? ⟨w56.heap.size, 0, none⟩ = some (Value.slice Ag0 y.cols.length cg0) := Bg0.out.cell 0 rfl
        have fBg01 : w88.cell? ⟨w56.heap.size, 1, none⟩ = some (Value.int IntKind.i64 y.ver) := Bg0.out.cell 1 rfl
        have fBg02 : w88.cell? ⟨w56.heap.size, 2, none⟩ = some (Value.slice Ag0B y.tabs.length cg0B) := Bg0.out.cell 2 rfl
        have fBh00 : w88.cell? ⟨w81.heap.size, 0, none⟩ = some (Value.slice Ah0 y.cols.length ch0) := Bh0.out.cell 0 rfl
        have fBh01 : w88.cell? ⟨w81.heap.size, 1, none⟩ = some (Value.int IntKind.i64 y.ver) := Bh0.out.cell 1 rfl
        have fBh02 : w88.cell? ⟨w81.heap.size, 2, none⟩ = some (Value.slice Ah0B y.tabs.length ch0B) := Bh0.out.cell 2 rfl
        go_wp2_with fail
        clear fb00 fb01 fb02 fb10 fb11 fb12 fb13 fb14 fb15 fb16 fBw00 fBw01 fBw02 fBx00 fBx01 fBx02 fBx10 fBx11 fBx12 fBx13 fBx14 fBx15 fBx16 fBg00 fBg01 fBg02 fBh00 fBh01 fBh02
        go_ret
        exact ⟨rfl, hB.out⟩
    · refine stepM_of rfl ?_ (by rfl)
      go_wp2_with fail
      refine ⟨cls_below (below_alloc hS.out _), ?_⟩
      refine genT ?_; intro W80 hW
      have hE : Below w79.heap.size w79 W80 := by rw [hW]; exact below_alloc (Below.refl _ _) _
      have Bh0 := Hd.mk (show Blk W80 w79.heap.size #[Value.slice none 0 0, Value.int IntKind.i64 0, Value.slice none 0 0] 37 by rw [hW]; exact Blk.new _ _ _)
      have hz_ : w79.heap.size + 1 ≤ W80.heap.size := by rw [hW]; simp
      clear hW
      have db0_Bh0 := Hd.mk eb0.out
      have db1_Bh0 := Hd.mk eb1.out
      have dw0_Bh0 := Hd.mk ew0.out
      have dBw0_Bh0 := Hd.mk eBw0.out
      have dBx0_Bh0 := Hd.mk eBx0.out
      have dBx1_Bh0 := Hd.mk eBx1.out
      have dg0_Bh0 := Hd.mk eg0.out
      have dBg0_Bh0 := Hd.mk eBg0.out
      have dr0_Bh0 := Hd.mk er0.out
      have aBh0 := Hd.mk hB.out.size
      replace b0 := Hd.mk (b0.out.below hE)
      replace eb0 := Hd.mk (Nat.le_trans eb0.out hE.size)
      replace b1 := Hd.mk (b1.out.below hE)
      replace eb1 := Hd.mk (Nat.le_trans eb1.out hE.size)
      replace w0 := Hd.mk (Ty.O_below w0.out hE)
      replace ew0 := Hd.mk (Nat.le_trans ew0.out hE.size)
      replace Bw0 := Hd.mk (Bw0.out.below hE)
      replace eBw0 := Hd.mk (Nat.le_trans eBw0.out hE.size)
      replace Bx0 := Hd.mk (Bx0.out.below hE)
      replace eBx0 := Hd.mk (Nat.le_trans eBx0.out hE.size)
      replace Bx1 := Hd.mk (Bx1.out.below hE)
      replace eBx1 := Hd.mk (Nat.le_trans eBx1.out hE.size)
      replace g0 := Hd.mk (Ty.O_below g0.out hE)
      replace eg0 := Hd.mk (Nat.le_trans eg0.out hE.size)
      replace Bg0 := Hd.mk (Bg0.out.below hE)
      replace eBg0 := Hd.mk (Nat.le_trans eBg0.out hE.size)
      replace r0 := Hd.mk (Ty.O_below r0.out hE)
      replace er0 := Hd.mk (Nat.le_trans er0.out hE.size)
      replace hB := Hd.mk (below_then hB.out hE)
      replace hS := Hd.mk (below_then hS.out hE)
      have eBh0 := Hd.mk hz_; clear hz_ hE
      refine mixT_b rfl ?_ (by rfl)
      go_wp2_with fail
      apply calls_gen; intro W81 hW
      have hE : Below W80.heap.size W80 W81 := by rw [hW]; (repeat (first | with_reducible refine below_alloc ?_ _ | with_reducible refine below_drew ?_)); exact Below.refl _ _
      clear hW
      replace b0 := Hd.mk (b0.out.below hE)
      replace eb0 := Hd.mk (Nat.le_trans eb0.out hE.size)
      replace b1 := Hd.mk (b1.out.below hE)
      replace eb1 := Hd.mk (Nat.le_trans eb1.out hE.size)
      replace w0 := Hd.mk (Ty.O_below w0.out hE)
      replace ew0 := Hd.mk (Nat.le_trans ew0.out hE.size)
      replace Bw0 := Hd.mk (Bw0.out.below hE)
      replace eBw0 := Hd.mk (Nat.le_trans eBw0.out hE.size)
      replace Bx0 := Hd.mk (Bx0.out.below hE)
      replace eBx0 := Hd.mk (Nat.le_trans eBx0.out hE.size)
      replace Bx1 := Hd.mk (Bx1.out.below hE)
      replace eBx1 := Hd.mk (Nat.le_trans eBx1.out hE.size)
      replace g0 := Hd.mk (Ty.O_below g0.out hE)
      replace eg0 := Hd.mk (Nat.le_trans eg0.out hE.size)
      replace Bg0 := Hd.mk (Bg0.out.below hE)
      replace eBg0 := Hd.mk (Nat.le_trans eBg0.out hE.size)
      replace r0 := Hd.mk (Ty.O_below r0.out hE)
      replace er0 := Hd.mk (Nat.le_trans er0.out hE.size)
      replace Bh0 := Hd.mk (Bh0.out.below hE)
      replace eBh0 := Hd.mk (Nat.le_trans eBh0.out hE.size)
      replace hB := Hd.mk (below_then hB.out hE)
      replace hS := Hd.mk (below_then hS.out hE)
      clear hE
      refine (laws_toChange u _ _ (tChange.K_below hB.out hK1.out) HL1.out.1).mono ?_
      rintro e w82 ⟨cs_, rfl, hO, hX⟩
      have db0_r1 := Hd.mk eb0.out
      have db1_r1 := Hd.mk eb1.out
      have dw0_r1 := Hd.mk ew0.out
      have dBw0_r1 := Hd.mk eBw0.out
      have dBx0_r1 := Hd.mk eBx0.out
      have dBx1_r1 := Hd.mk eBx1.out
      have dg0_r1 := Hd.mk eg0.out
      have dBg0_r1 := Hd.mk eBg0.out
      have dr0_r1 := Hd.mk er0.out
      have dBh0_r1 := Hd.mk eBh0.out
      have ar1 := Hd.mk hB.out.size
      replace b0 := Hd.mk (b0.out.below hX)
      replace eb0 := Hd.mk (Nat.le_trans eb0.out hX.size)
      replace b1 := Hd.mk (b1.out.below hX)
      replace eb1 := Hd.mk (Nat.le_trans eb1.out hX.size)
      replace w0 := Hd.mk (Ty.O_below w0.out hX)
      replace ew0 := Hd.mk (Nat.le_trans ew0.out hX.size)
      replace Bw0 := Hd.mk (Bw0.out.below hX)
      replace eBw0 := Hd.mk (Nat.le_trans eBw0.out hX.size)
      replace Bx0 := Hd.mk (Bx0.out.below hX)
      replace eBx0 := Hd.mk (Nat.le_trans eBx0.out hX.size)
      replace Bx1 := Hd.mk (Bx1.out.below hX)
      replace eBx1 := Hd.mk (Nat.le_trans eBx1.out hX.size)
      replace g0 := Hd.mk (Ty.O_below g0.out hX)
      replace eg0 := Hd.mk (Nat.le_trans eg0.out hX.size)
      replace Bg0 := Hd.mk (Bg0.out.below hX)
      replace eBg0 := Hd.mk (Nat.le_trans eBg0.out hX.size)
      replace r0 := Hd.mk (Ty.O_below r0.out hX)
      replace er0 := Hd.mk (Nat.le_trans er0.out hX.size)
      replace Bh0 := Hd.mk (Bh0.out.below hX)
      replace eBh0 := Hd.mk (Nat.le_trans eBh0.out hX.size)
      replace hB := Hd.mk (below_then hB.out hX)
      replace hS := Hd.mk (below_then hS.out hX)
      clear hX
      replace hO := Ty.O_bound _ hO
      obtain ⟨v_, u_, _, _, hcs, r1, r2, _⟩ := tChange_O.1 hO
      subst hcs
      obtain ⟨Ar1, cr1, hv_, hcr1, _⟩ := R_C r1
      subst hv_
      clear r1
      obtain ⟨Ar1B, cr1B, hv_, hcr1B, _⟩ := R_C r2
      subst hv_
      clear r2
      have r1 := Hd.mk (show tChange.O w82 (rng W81.heap.size w82.heap.size) u [Value.int IntKind.i64 u.table, Value.bool u.had, Value.bool u.has, Value.int IntKind.i64 u.old.id, Value.slice Ar1 u.old.cells.length cr1, Value.int IntKind.i64 u.new.id, Value.slice Ar1B u.new.cells.length cr1B] from hO); clear hO
      have er1 := Hd.mk (Nat.le_refl w82.heap.size)
      go_wp2_with fail
      refine ⟨cls_below hS.out, ?_⟩
      refine mixT_b rfl ?_ (by rfl)
      go_wp2_with fail
      apply calls_gen; intro W83 hW
      have hE : Below w82.heap.size w82 W83 := by rw [hW]; (repeat (first | with_reducible refine below_alloc ?_ _ | with_reducible refine below_drew ?_)); exact Below.refl _ _
      clear hW
      replace b0 := Hd.mk (b0.out.below hE)
      replace eb0 := Hd.mk (Nat.le_trans eb0.out hE.size)
      replace b1 := Hd.mk (b1.out.below hE)
      replace eb1 := Hd.mk (Nat.le_trans eb1.out hE.size)
      replace w0 := Hd.mk (Ty.O_below w0.out hE)
      replace ew0 := Hd.mk (Nat.le_trans ew0.out hE.size)
      replace Bw0 := Hd.mk (Bw0.out.below hE)
      replace eBw0 := Hd.mk (Nat.le_trans eBw0.out hE.size)
      replace Bx0 := Hd.mk (Bx0.out.below hE)
      replace eBx0 := Hd.mk (Nat.le_trans eBx0.out hE.size)
      replace Bx1 := Hd.mk (Bx1.out.below hE)
      replace eBx1 := Hd.mk (Nat.le_trans eBx1.out hE.size)
      replace g0 := Hd.mk (Ty.O_below g0.out hE)
      replace eg0 := Hd.mk (Nat.le_trans eg0.out hE.size)
      replace Bg0 := Hd.mk (Bg0.out.below hE)
      replace eBg0 := Hd.mk (Nat.le_trans eBg0.out hE.size)
      replace r0 := Hd.mk (Ty.O_below r0.out hE)
      replace er0 := Hd.mk (Nat.le_trans er0.out hE.size)
      replace Bh0 := Hd.mk (Bh0.out.below hE)
      replace eBh0 := Hd.mk (Nat.le_trans eBh0.out hE.size)
      replace r1 := Hd.mk (Ty.O_below r1.out hE)
      replace er1 := Hd.mk (Nat.le_trans er1.out hE.size)
      replace hB := Hd.mk (below_then hB.out hE)
      replace hS := Hd.mk (below_then hS.out hE)
      clear hE
      refine (impl_Back x _ u _ _ (tStore.O_K r0.out) (tChange.O_K r1.out) (by have := HL0.out.1; omega) (by have := HL1.out.1; omega)).mono ?_
      rintro e w84 ⟨cs_, rfl, hO, hX⟩
      have db0_h0 := Hd.mk eb0.out
      have db1_h0 := Hd.mk eb1.out
      have dw0_h0 := Hd.mk ew0.out
      have dBw0_h0 := Hd.mk eBw0.out
      have dBx0_h0 := Hd.mk eBx0.out
      have dBx1_h0 := Hd.mk eBx1.out
      have dg0_h0 := Hd.mk eg0.out
      have dBg0_h0 := Hd.mk eBg0.out
      have dr0_h0 := Hd.mk er0.out
      have dBh0_h0 := Hd.mk eBh0.out
      have dr1_h0 := Hd.mk er1.out
      have ah0 := Hd.mk hB.out.size
      replace b0 := Hd.mk (b0.out.below hX)
      replace eb0 := Hd.mk (Nat.le_trans eb0.out hX.size)
      replace b1 := Hd.mk (b1.out.below hX)
      replace eb1 := Hd.mk (Nat.le_trans eb1.out hX.size)
      replace w0 := Hd.mk (Ty.O_below w0.out hX)
      replace ew0 := Hd.mk (Nat.le_trans ew0.out hX.size)
      replace Bw0 := Hd.mk (Bw0.out.below hX)
      replace eBw0 := Hd.mk (Nat.le_trans eBw0.out hX.size)
      replace Bx0 := Hd.mk (Bx0.out.below hX)
      replace eBx0 := Hd.mk (Nat.le_trans eBx0.out hX.size)
      replace Bx1 := Hd.mk (Bx1.out.below hX)
      replace eBx1 := Hd.mk (Nat.le_trans eBx1.out hX.size)
      replace g0 := Hd.mk (Ty.O_below g0.out hX)
      replace eg0 := Hd.mk (Nat.le_trans eg0.out hX.size)
      replace Bg0 := Hd.mk (Bg0.out.below hX)
      replace eBg0 := Hd.mk (Nat.le_trans eBg0.out hX.size)
      replace r0 := Hd.mk (Ty.O_below r0.out hX)
      replace er0 := Hd.mk (Nat.le_trans er0.out hX.size)
      replace Bh0 := Hd.mk (Bh0.out.below hX)
      replace eBh0 := Hd.mk (Nat.le_trans eBh0.out hX.size)
      replace r1 := Hd.mk (Ty.O_below r1.out hX)
      replace er1 := Hd.mk (Nat.le_trans er1.out hX.size)
      replace hB := Hd.mk (below_then hB.out hX)
      replace hS := Hd.mk (below_then hS.out hX)
      clear hX
      rw [← Hy.out] at hO
      rw [← Hyb.out]
      replace hO := Ty.O_bound _ hO
      obtain ⟨v_, u_, _, _, hcs, r1, r2, _⟩ := tStore_O.1 hO
      subst hcs
      obtain ⟨Ah0, ch0, hv_, hch0, _⟩ := R_C r1
      subst hv_
      clear r1
      obtain ⟨Ah0B, ch0B, hv_, hch0B, _⟩ := R_C r2
      subst hv_
      clear r2
      have h0 := Hd.mk (show tStore.O w84 (rng W83.heap.size w84.heap.size) y [Value.slice Ah0 y.cols.length ch0, Value.int IntKind.i64 y.ver, Value.slice Ah0B y.tabs.length ch0B] from hO); clear hO
      have eh0 := Hd.mk (Nat.le_refl w84.heap.size)
      go_wp2_with fail
      refine ⟨cls_below hS.out, ?_⟩
      refine mixT_p rfl ?_
      go_big_quiet_want; go_big_quiet_op; go_big_quiet_on; refine wpQuiet_nil ?_
      refine mixT_p rfl ?_
      go_big_quiet_want; go_big_quiet_op; go_big_quiet_on; refine wpQuiet_nil ?_
      refine mixT_p rfl ?_
      go_big_quiet_want; go_big_quiet_op; go_big_quiet_on; refine wpQuiet_nil ?_
      refine mixT_fin ?_
      clear hS
      clear fb00 fb01 fb02 fb10 fb11 fb12 fb13 fb14 fb15 fb16 fBw00 fBw01 fBw02 fBx00 fBx01 fBx02 fBx10 fBx11 fBx12 fBx13 fBx14 fBx15 fBx16 fBg00 fBg01 fBg02 rfb00 rfb01 rfb02 rfb10 rfb11 rfb12 rfb13 rfb14 rfb15 rfb16 rfBw00 rfBw01 rfBw02 rfBx00 rfBx01 rfBx02 rfBx10 rfBx11 rfBx12 rfBx13 rfBx14 rfBx15 rfBx16 rfBg00 rfBg01 rfBg02
      have fb00 : w84.cell? ⟨w.heap.size, 0, none⟩ = some (Value.slice A0 x.cols.length c0) := b0.out.cell 0 rfl
      have fb01 : w84.cell? ⟨w.heap.size, 1, none⟩ = some (Value.int IntKind.i64 x.ver) := b0.out.cell 1 rfl
      have fb02 : w84.cell? ⟨w.heap.size, 2, none⟩ = some (Value.slice A0B x.tabs.length c0B) := b0.out.cell 2 rfl
      have fb10 : w84.cell? ⟨w.heap.size + 1, 0, none⟩ = some (Value.int IntKind.i64 u.table) := b1.out.cell 0 rfl
      have fb11 : w84.cell? ⟨w.heap.size + 1, 1, none⟩ = some (Value.bool u.had) := b1.out.cell 1 rfl
      have fb12 : w84.cell? ⟨w.heap.size + 1, 2, none⟩ = some (Value.bool u.has) := b1.out.cell 2 rfl
      have fb13 : w84.cell? ⟨w.heap.size + 1, 3, none⟩ = some (Value.int IntKind.i64 u.old.id) := b1.out.cell 3 rfl
      have fb14 : w84.cell? ⟨w.heap.size + 1, 4, none⟩ = some (Value.slice A1 u.old.cells.length c1) := b1.out.cell 4 rfl
      have fb15 : w84.cell? ⟨w.heap.size + 1, 5, none⟩ = some (Value.int IntKind.i64 u.new.id) := b1.out.cell 5 rfl
      have fb16 : w84.cell? ⟨w.heap.size + 1, 6, none⟩ = some (Value.slice A1B u.new.cells.length c1B) := b1.out.cell 6 rfl
      have fBw00 : w84.cell? ⟨p, 0, none⟩ = some (Value.slice Aw0 y.cols.length cw0) := Bw0.out.cell 0 rfl
      have fBw01 : w84.cell? ⟨p, 1, none⟩ = some (Value.int IntKind.i64 y.ver) := Bw0.out.cell 1 rfl
      have fBw02 : w84.cell? ⟨p, 2, none⟩ = some (Value.slice Aw0B y.tabs.length cw0B) := Bw0.out.cell 2 rfl
      have fBx00 : w84.cell? ⟨w52.heap.size, 0, none⟩ = some (Value.slice Ax0 x.cols.length cx0) := Bx0.out.cell 0 rfl
      have fBx01 : w84.cell? ⟨w52.heap.size, 1, none⟩ = some (Value.int IntKind.i64 x.ver) := Bx0.out.cell 1 rfl
      have fBx02 : w84.cell? ⟨w52.heap.size, 2, none⟩ = some (Value.slice Ax0B x.tabs.length cx0B) := Bx0.out.cell 2 rfl
      have fBx10 : w84.cell? ⟨w54.heap.size, 0, none⟩ = some (Value.int IntKind.i64 u.table) := Bx1.out.cell 0 rfl
      have fBx11 : w84.cell? ⟨w54.heap.size, 1, none⟩ = some (Value.bool u.had) := Bx1.out.cell 1 rfl
      have fBx12 : w84.cell? ⟨w54.heap.size, 2, none⟩ = some (Value.bool u.has) := Bx1.out.cell 2 rfl
      have fBx13 : w84.cell? ⟨w54.heap.size, 3, none⟩ = some (Value.int IntKind.i64 u.old.id) := Bx1.out.cell 3 rfl
      have fBx14 : w84.cell? ⟨w54.heap.size, 4, none⟩ = some (Value.slice Ax1 u.old.cells.length cx1) := Bx1.out.cell 4 rfl
      have fBx15 : w84.cell? ⟨w54.heap.size, 5, none⟩ = some (Value.int IntKind.i64 u.new.id) := Bx1.out.cell 5 rfl
      have fBx16 : w84.cell? ⟨w54.heap.size, 6, none⟩ = some (Value.slice Ax1B u.new.cells.length cx1B) := Bx1.out.cell 6 rfl
      have fBg00 : w84.cell? ⟨w56.heap.size, 0, none⟩ = some (Value.slice Ag0 y.cols.length cg0) := Bg0.out.cell 0 rfl
      have fBg01 : w84.cell? ⟨w56.heap.size, 1, none⟩ = some (Value.int IntKind.i64 y.ver) := Bg0.out.cell 1 rfl
      have fBg02 : w84.cell? ⟨w56.heap.size, 2, none⟩ = some (Value.slice Ag0B y.tabs.length cg0B) := Bg0.out.cell 2 rfl
      have fBh00 : w84.cell? ⟨w79.heap.size, 0, none⟩ = some (Value.slice none 0 0) := Bh0.out.cell 0 rfl
      have fBh01 : w84.cell? ⟨w79.heap.size, 1, none⟩ = some (Value.int IntKind.i64 0) := Bh0.out.cell 1 rfl
      have fBh02 : w84.cell? ⟨w79.heap.size, 2, none⟩ = some (Value.slice none 0 0) := Bh0.out.cell 2 rfl
      have fz_ := Bh0.out.frozen
      refine tail_b rfl ?_ (by rfl)
      go_wp2_with fail
      refine mixQ_n ?_
      refine tail_b rfl ?_ (by rfl)
      go_wp2_with fail
      refine mixQ_n ?_
      refine tail_nil ?_
      refine exit_gen ?_; intro W hW
      clear fz_
      clear fb00 fb01 fb02 fb10 fb11 fb12 fb13 fb14 fb15 fb16 fBw00 fBw01 fBw02 fBx00 fBx01 fBx02 fBx10 fBx11 fBx12 fBx13 fBx14 fBx15 fBx16 fBg00 fBg01 fBg02 fBh00 fBh01 fBh02
      have eF : Fr w84 W (fun k => k = w79.heap.size) := by rw [hW]; (repeat (first | with_reducible refine Fr.setCell (S := fun k => k = w79.heap.size) ?_ _ (fun _ => rfl) _)); exact Fr.refl _ _
      have hsz_ := eF.size
      replace b0 := Hd.mk (b0.out.fr eF (fun h => by have := db0_Bh0.out; (try simp only at h); omega))
      replace eb0 := Hd.mk (Nat.le_trans eb0.out hsz_)
      replace b1 := Hd.mk (b1.out.fr eF (fun h => by have := db1_Bh0.out; (try simp only at h); omega))
      replace eb1 := Hd.mk (Nat.le_trans eb1.out hsz_)
      replace w0 := Hd.mk (Ty.O_fr w0.out eF (fun k hk hl h => by have := dw0_Bh0.out; have h1 := hk.1; have h2 := hk.2; (try simp only at h); omega))
      replace ew0 := Hd.mk (Nat.le_trans ew0.out hsz_)
      replace Bw0 := Hd.mk (Bw0.out.fr eF (fun h => by have := dBw0_Bh0.out; (try simp only at h); omega))
      replace eBw0 := Hd.mk (Nat.le_trans eBw0.out hsz_)
      replace Bx0 := Hd.mk (Bx0.out.fr eF (fun h => by have := dBx0_Bh0.out; (try simp only at h); omega))
      replace eBx0 := Hd.mk (Nat.le_trans eBx0.out hsz_)
      replace Bx1 := Hd.mk (Bx1.out.fr eF (fun h => by have := dBx1_Bh0.out; (try simp only at h); omega))
      replace eBx1 := Hd.mk (Nat.le_trans eBx1.out hsz_)
      replace g0 := Hd.mk (Ty.O_fr g0.out eF (fun k hk hl h => by have := dg0_Bh0.out; have h1 := hk.1; have h2 := hk.2; (try simp only at h); omega))
      replace eg0 := Hd.mk (Nat.le_trans eg0.out hsz_)
      replace Bg0 := Hd.mk (Bg0.out.fr eF (fun h => by have := dBg0_Bh0.out; (try simp only at h); omega))
      replace eBg0 := Hd.mk (Nat.le_trans eBg0.out hsz_)
      replace r0 := Hd.mk (Ty.O_fr r0.out eF (fun k hk hl h => by have := dr0_Bh0.out; have h1 := hk.1; have h2 := hk.2; (try simp only at h); omega))
      replace er0 := Hd.mk (Nat.le_trans er0.out hsz_)
      replace r1 := Hd.mk (Ty.O_fr r1.out eF (fun k hk hl h => by have := dBh0_r1.out; have h1 := hk.1; have h2 := hk.2; (try simp only at h); omega))
      replace er1 := Hd.mk (Nat.le_trans er1.out hsz_)
      replace h0 := Hd.mk (Ty.O_fr h0.out eF (fun k hk hl h => by have := dBh0_h0.out; have h1 := hk.1; have h2 := hk.2; (try simp only at h); omega))
      replace eh0 := Hd.mk (Nat.le_trans eh0.out hsz_)
      replace Bh0 := Hd.mk (show Blk W (w79.heap.size) #[Value.slice Ah0 y.cols.length ch0, Value.int IntKind.i64 y.ver, Value.slice Ah0B y.tabs.length ch0B] 37 by rw [hW]; exact (((Bh0.out.set 0 (Value.slice Ah0 y.cols.length ch0)).set 1 (Value.int IntKind.i64 y.ver)).set 2 (Value.slice Ah0B y.tabs.length ch0B)))
      replace eBh0 := Hd.mk (Nat.le_trans eBh0.out hsz_)
      replace hB := Hd.mk (((Fr.of_below hB.out (fun k => k = w79.heap.size)).then_ eF (fun k h _ => h)).below (fun k h => by have := aBh0.out; (try simp only at h); omega))
      clear hW eF hsz_
      clear r0 er0
      clear r1 er1
      have fb00 : W.cell? ⟨w.heap.size, 0, none⟩ = some (Value.slice A0 x.cols.length c0) := b0.out.cell 0 rfl
      have fb01 : W.cell? ⟨w.heap.size, 1, none⟩ = some (Value.int IntKind.i64 x.ver) := b0.out.cell 1 rfl
      have fb02 : W.cell? ⟨w.heap.size, 2, none⟩ = some (Value.slice A0B x.tabs.length c0B) := b0.out.cell 2 rfl
      have fb10 : W.cell? ⟨w.heap.size + 1, 0, none⟩ = some (Value.int IntKind.i64 u.table) := b1.out.cell 0 rfl
      have fb11 : W.cell? ⟨w.heap.size + 1, 1, none⟩ = some (Value.bool u.had) := b1.out.cell 1 rfl
      have fb12 : W.cell? ⟨w.heap.size + 1, 2, none⟩ = some (Value.bool u.has) := b1.out.cell 2 rfl
      have fb13 : W.cell? ⟨w.heap.size + 1, 3, none⟩ = some (Value.int IntKind.i64 u.old.id) := b1.out.cell 3 rfl
      have fb14 : W.cell? ⟨w.heap.size + 1, 4, none⟩ = some (Value.slice A1 u.old.cells.length c1) := b1.out.cell 4 rfl
      have fb15 : W.cell? ⟨w.heap.size + 1, 5, none⟩ = some (Value.int IntKind.i64 u.new.id) := b1.out.cell 5 rfl
      have fb16 : W.cell? ⟨w.heap.size + 1, 6, none⟩ = some (Value.slice A1B u.new.cells.length c1B) := b1.out.cell 6 rfl
      have fBw00 : W.cell? ⟨p, 0, none⟩ = some (Value.slice Aw0 y.cols.length cw0) := Bw0.out.cell 0 rfl
      have fBw01 : W.cell? ⟨p, 1, none⟩ = some (Value.int IntKind.i64 y.ver) := Bw0.out.cell 1 rfl
      have fBw02 : W.cell? ⟨p, 2, none⟩ = some (Value.slice Aw0B y.tabs.length cw0B) := Bw0.out.cell 2 rfl
      have fBx00 : W.cell? ⟨w52.heap.size, 0, none⟩ = some (Value.slice Ax0 x.cols.length cx0) := Bx0.out.cell 0 rfl
      have fBx01 : W.cell? ⟨w52.heap.size, 1, none⟩ = some (Value.int IntKind.i64 x.ver) := Bx0.out.cell 1 rfl
      have fBx02 : W.cell? ⟨w52.heap.size, 2, none⟩ = some (Value.slice Ax0B x.tabs.length cx0B) := Bx0.out.cell 2 rfl
      have fBx10 : W.cell? ⟨w54.heap.size, 0, none⟩ = some (Value.int IntKind.i64 u.table) := Bx1.out.cell 0 rfl
      have fBx11 : W.cell? ⟨w54.heap.size, 1, none⟩ = some (Value.bool u.had) := Bx1.out.cell 1 rfl
      have fBx12 : W.cell? ⟨w54.heap.size, 2, none⟩ = some (Value.bool u.has) := Bx1.out.cell 2 rfl
      have fBx13 : W.cell? ⟨w54.heap.size, 3, none⟩ = some (Value.int IntKind.i64 u.old.id) := Bx1.out.cell 3 rfl
      have fBx14 : W.cell? ⟨w54.heap.size, 4, none⟩ = some (Value.slice Ax1 u.old.cells.length cx1) := Bx1.out.cell 4 rfl
      have fBx15 : W.cell? ⟨w54.heap.size, 5, none⟩ = some (Value.int IntKind.i64 u.new.id) := Bx1.out.cell 5 rfl
      have fBx16 : W.cell? ⟨w54.heap.size, 6, none⟩ = some (Value.slice Ax1B u.new.cells.length cx1B) := Bx1.out.cell 6 rfl
      have fBg00 : W.cell? ⟨w56.heap.size, 0, none⟩ = some (Value.slice Ag0 y.cols.length cg0) := Bg0.out.cell 0 rfl
      have fBg01 : W.cell? ⟨w56.heap.size, 1, none⟩ = some (Value.int IntKind.i64 y.ver) := Bg0.out.cell 1 rfl
      have fBg02 : W.cell? ⟨w56.heap.size, 2, none⟩ = some (Value.slice Ag0B y.tabs.length cg0B) := Bg0.out.cell 2 rfl
      have fBh00 : W.cell? ⟨w79.heap.size, 0, none⟩ = some (Value.slice Ah0 y.cols.length ch0) := Bh0.out.cell 0 rfl
      have fBh01 : W.cell? ⟨w79.heap.size, 1, none⟩ = some (Value.int IntKind.i64 y.ver) := Bh0.out.cell 1 rfl
      have fBh02 : W.cell? ⟨w79.heap.size, 2, none⟩ = some (Value.slice Ah0B y.tabs.length ch0B) := Bh0.out.cell 2 rfl
      go_wp2_with fail
      clear fb00 fb01 fb02 fb10 fb11 fb12 fb13 fb14 fb15 fb16 fBw00 fBw01 fBw02 fBx00 fBx01 fBx02 fBx10 fBx11 fBx12 fBx13 fBx14 fBx15 fBx16 fBg00 fBg01 fBg02 fBh00 fBh01 fBh02
      apply calls_gen; intro W85 hW
      have hE : Below W.heap.size W W85 := by rw [hW]; (repeat (first | with_reducible refine below_alloc ?_ _ | with_reducible refine below_drew ?_)); exact Below.refl _ _
      clear hW
      replace b0 := Hd.mk (b0.out.below hE)
      replace eb0 := Hd.mk (Nat.le_trans eb0.out hE.size)
      replace b1 := Hd.mk (b1.out.below hE)
      replace eb1 := Hd.mk (Nat.le_trans eb1.out hE.size)
      replace w0 := Hd.mk (Ty.O_below w0.out hE)
      replace ew0 := Hd.mk (Nat.le_trans ew0.out hE.size)
      replace Bw0 := Hd.mk (Bw0.out.below hE)
      replace eBw0 := Hd.mk (Nat.le_trans eBw0.out hE.size)
      replace Bx0 := Hd.mk (Bx0.out.below hE)
      replace eBx0 := Hd.mk (Nat.le_trans eBx0.out hE.size)
      replace Bx1 := Hd.mk (Bx1.out.below hE)
      replace eBx1 := Hd.mk (Nat.le_trans eBx1.out hE.size)
      replace g0 := Hd.mk (Ty.O_below g0.out hE)
      replace eg0 := Hd.mk (Nat.le_trans eg0.out hE.size)
      replace Bg0 := Hd.mk (Bg0.out.below hE)
      replace eBg0 := Hd.mk (Nat.le_trans eBg0.out hE.size)
      replace Bh0 := Hd.mk (Bh0.out.below hE)
      replace eBh0 := Hd.mk (Nat.le_trans eBh0.out hE.size)
      replace h0 := Hd.mk (Ty.O_below h0.out hE)
      replace eh0 := Hd.mk (Nat.le_trans eh0.out hE.size)
      replace hB := Hd.mk (below_then hB.out hE)
      clear hE
      refine (laws_eqStore y y _ _ _ (tStore.O_K h0.out) (tStore.O_K w0.out)).mono ?_
      rintro e w86 ⟨rfl, hX⟩
      replace b0 := Hd.mk (b0.out.below hX)
      replace eb0 := Hd.mk (Nat.le_trans eb0.out hX.size)
      replace b1 := Hd.mk (b1.out.below hX)
      replace eb1 := Hd.mk (Nat.le_trans eb1.out hX.size)
      replace w0 := Hd.mk (Ty.O_below w0.out hX)
      replace ew0 := Hd.mk (Nat.le_trans ew0.out hX.size)
      replace Bw0 := Hd.mk (Bw0.out.below hX)
      replace eBw0 := Hd.mk (Nat.le_trans eBw0.out hX.size)
      replace Bx0 := Hd.mk (Bx0.out.below hX)
      replace eBx0 := Hd.mk (Nat.le_trans eBx0.out hX.size)
      replace Bx1 := Hd.mk (Bx1.out.below hX)
      replace eBx1 := Hd.mk (Nat.le_trans eBx1.out hX.size)
      replace g0 := Hd.mk (Ty.O_below g0.out hX)
      replace eg0 := Hd.mk (Nat.le_trans eg0.out hX.size)
      replace Bg0 := Hd.mk (Bg0.out.below hX)
      replace eBg0 := Hd.mk (Nat.le_trans eBg0.out hX.size)
      replace Bh0 := Hd.mk (Bh0.out.below hX)
      replace eBh0 := Hd.mk (Nat.le_trans eBh0.out hX.size)
      replace h0 := Hd.mk (Ty.O_below h0.out hX)
      replace eh0 := Hd.mk (Nat.le_trans eh0.out hX.size)
      replace hB := Hd.mk (below_then hB.out hX)
      clear hX
      rw [eqv_self]
      have fb00 : w86.cell? ⟨w.heap.size, 0, none⟩ = some (Value.slice A0 x.cols.length c0) := b0.out.cell 0 rfl
      have fb01 : w86.cell? ⟨w.heap.size, 1, none⟩ = some (Value.int IntKind.i64 x.ver) := b0.out.cell 1 rfl
      have fb02 : w86.cell? ⟨w.heap.size, 2, none⟩ = some (Value.slice A0B x.tabs.length c0B) := b0.out.cell 2 rfl
      have fb10 : w86.cell? ⟨w.heap.size + 1, 0, none⟩ = some (Value.int IntKind.i64 u.table) := b1.out.cell 0 rfl
      have fb11 : w86.cell? ⟨w.heap.size + 1, 1, none⟩ = some (Value.bool u.had) := b1.out.cell 1 rfl
      have fb12 : w86.cell? ⟨w.heap.size + 1, 2, none⟩ = some (Value.bool u.has) := b1.out.cell 2 rfl
      have fb13 : w86.cell? ⟨w.heap.size + 1, 3, none⟩ = some (Value.int IntKind.i64 u.old.id) := b1.out.cell 3 rfl
      have fb14 : w86.cell? ⟨w.heap.size + 1, 4, none⟩ = some (Value.slice A1 u.old.cells.length c1) := b1.out.cell 4 rfl
      have fb15 : w86.cell? ⟨w.heap.size + 1, 5, none⟩ = some (Value.int IntKind.i64 u.new.id) := b1.out.cell 5 rfl
      have fb16 : w86.cell? ⟨w.heap.size + 1, 6, none⟩ = some (Value.slice A1B u.new.cells.length c1B) := b1.out.cell 6 rfl
      have fBw00 : w86.cell? ⟨p, 0, none⟩ = some (Value.slice Aw0 y.cols.length cw0) := Bw0.out.cell 0 rfl
      have fBw01 : w86.cell? ⟨p, 1, none⟩ = some (Value.int IntKind.i64 y.ver) := Bw0.out.cell 1 rfl
      have fBw02 : w86.cell? ⟨p, 2, none⟩ = some (Value.slice Aw0B y.tabs.length cw0B) := Bw0.out.cell 2 rfl
      have fBx00 : w86.cell? ⟨w52.heap.size, 0, none⟩ = some (Value.slice Ax0 x.cols.length cx0) := Bx0.out.cell 0 rfl
      have fBx01 : w86.cell? ⟨w52.heap.size, 1, none⟩ = some (Value.int IntKind.i64 x.ver) := Bx0.out.cell 1 rfl
      have fBx02 : w86.cell? ⟨w52.heap.size, 2, none⟩ = some (Value.slice Ax0B x.tabs.length cx0B) := Bx0.out.cell 2 rfl
      have fBx10 : w86.cell? ⟨w54.heap.size, 0, none⟩ = some (Value.int IntKind.i64 u.table) := Bx1.out.cell 0 rfl
      have fBx11 : w86.cell? ⟨w54.heap.size, 1, none⟩ = some (Value.bool u.had) := Bx1.out.cell 1 rfl
      have fBx12 : w86.cell? ⟨w54.heap.size, 2, none⟩ = some (Value.bool u.has) := Bx1.out.cell 2 rfl
      have fBx13 : w86.cell? ⟨w54.heap.size, 3, none⟩ = some (Value.int IntKind.i64 u.old.id) := Bx1.out.cell 3 rfl
      have fBx14 : w86.cell? ⟨w54.heap.size, 4, none⟩ = some (Value.slice Ax1 u.old.cells.length cx1) := Bx1.out.cell 4 rfl
      have fBx15 : w86.cell? ⟨w54.heap.size, 5, none⟩ = some (Value.int IntKind.i64 u.new.id) := Bx1.out.cell 5 rfl
      have fBx16 : w86.cell? ⟨w54.heap.size, 6, none⟩ = some (Value.slice Ax1B u.new.cells.length cx1B) := Bx1.out.cell 6 rfl
      have fBg00 : w86.cell? ⟨w56.heap.size, 0, none⟩ = some (Value.slice Ag0 y.cols.length cg0) := Bg0.out.cell 0 rfl
      have fBg01 : w86.cell? ⟨w56.heap.size, 1, none⟩ = some (Value.int IntKind.i64 y.ver) := Bg0.out.cell 1 rfl
      have fBg02 : w86.cell? ⟨w56.heap.size, 2, none⟩ = some (Value.slice Ag0B y.tabs.length cg0B) := Bg0.out.cell 2 rfl
      have fBh00 : w86.cell? ⟨w79.heap.size, 0, none⟩ = some (Value.slice Ah0 y.cols.length ch0) := Bh0.out.cell 0 rfl
      have fBh01 : w86.cell? ⟨w79.heap.size, 1, none⟩ = some (Value.int IntKind.i64 y.ver) := Bh0.out.cell 1 rfl
      have fBh02 : w86.cell? ⟨w79.heap.size, 2, none⟩ = some (Value.slice Ah0B y.tabs.length ch0B) := Bh0.out.cell 2 rfl
      go_wp2_with fail
      clear fb00 fb01 fb02 fb10 fb11 fb12 fb13 fb14 fb15 fb16 fBw00 fBw01 fBw02 fBx00 fBx01 fBx02 fBx10 fBx11 fBx12 fBx13 fBx14 fBx15 fBx16 fBg00 fBg01 fBg02 fBh00 fBh01 fBh02
      apply calls_gen; intro W87 hW
      have hE : Below w86.heap.size w86 W87 := by rw [hW]; (repeat (first | with_reducible refine below_alloc ?_ _ | with_reducible refine below_drew ?_)); exact Below.refl _ _
      clear hW
      replace b0 := Hd.mk (b0.out.below hE)
      replace eb0 := Hd.mk (Nat.le_trans eb0.out hE.size)
      replace b1 := Hd.mk (b1.out.below hE)
      replace eb1 := Hd.mk (Nat.le_trans eb1.out hE.size)
      replace w0 := Hd.mk (Ty.O_below w0.out hE)
      replace ew0 := Hd.mk (Nat.le_trans ew0.out hE.size)
      replace Bw0 := Hd.mk (Bw0.out.below hE)
      replace eBw0 := Hd.mk (Nat.le_trans eBw0.out hE.size)
      replace Bx0 := Hd.mk (Bx0.out.below hE)
      replace eBx0 := Hd.mk (Nat.le_trans eBx0.out hE.size)
      replace Bx1 := Hd.mk (Bx1.out.below hE)
      replace eBx1 := Hd.mk (Nat.le_trans eBx1.out hE.size)
      replace g0 := Hd.mk (Ty.O_below g0.out hE)
      replace eg0 := Hd.mk (Nat.le_trans eg0.out hE.size)
      replace Bg0 := Hd.mk (Bg0.out.below hE)
      replace eBg0 := Hd.mk (Nat.le_trans eBg0.out hE.size)
      replace Bh0 := Hd.mk (Bh0.out.below hE)
      replace eBh0 := Hd.mk (Nat.le_trans eBh0.out hE.size)
      replace h0 := Hd.mk (Ty.O_below h0.out hE)
      replace eh0 := Hd.mk (Nat.le_trans eh0.out hE.size)
      replace hB := Hd.mk (below_then hB.out hE)
      clear hE
      refine (laws_heldStore y _ 1 _ (tStore.O_K g0.out) (by omega) (by omega)).mono ?_
      rintro e w88 ⟨rfl, hX⟩
      replace b0 := Hd.mk (b0.out.below hX)
      replace eb0 := Hd.mk (Nat.le_trans eb0.out hX.size)
      replace b1 := Hd.mk (b1.out.below hX)
      replace eb1 := Hd.mk (Nat.le_trans eb1.out hX.size)
      replace w0 := Hd.mk (Ty.O_below w0.out hX)
      replace ew0 := Hd.mk (Nat.le_trans ew0.out hX.size)
      replace Bw0 := Hd.mk (Bw0.out.below hX)
      replace eBw0 := Hd.mk (Nat.le_trans eBw0.out hX.size)
      replace Bx0 := Hd.mk (Bx0.out.below hX)
      replace eBx0 := Hd.mk (Nat.le_trans eBx0.out hX.size)
      replace Bx1 := Hd.mk (Bx1.out.below hX)
      replace eBx1 := Hd.mk (Nat.le_trans eBx1.out hX.size)
      replace g0 := Hd.mk (Ty.O_below g0.out hX)
      replace eg0 := Hd.mk (Nat.le_trans eg0.out hX.size)
      replace Bg0 := Hd.mk (Bg0.out.below hX)
      replace eBg0 := Hd.mk (Nat.le_trans eBg0.out hX.size)
      replace Bh0 := Hd.mk (Bh0.out.below hX)
      replace eBh0 := Hd.mk (Nat.le_trans eBh0.out hX.size)
      replace h0 := Hd.mk (Ty.O_below h0.out hX)
      replace eh0 := Hd.mk (Nat.le_trans eh0.out hX.size)
      replace hB := Hd.mk (below_then hB.out hX)
      clear hX
      have fb00 : w88.cell? ⟨w.heap.size, 0, none⟩ = some (Value.slice A0 x.cols.length c0) := b0.out.cell 0 rfl
      have fb01 : w88.cell? ⟨w.heap.size, 1, none⟩ = some (Value.int IntKind.i64 x.ver) := b0.out.cell 1 rfl
      have fb02 : w88.cell? ⟨w.heap.size, 2, none⟩ = some (Value.slice A0B x.tabs.length c0B) := b0.out.cell 2 rfl
      have fb10 : w88.cell? ⟨w.heap.size + 1, 0, none⟩ = some (Value.int IntKind.i64 u.table) := b1.out.cell 0 rfl
      have fb11 : w88.cell? ⟨w.heap.size + 1, 1, none⟩ = some (Value.bool u.had) := b1.out.cell 1 rfl
      have fb12 : w88.cell? ⟨w.heap.size + 1, 2, none⟩ = some (Value.bool u.has) := b1.out.cell 2 rfl
      have fb13 : w88.cell? ⟨w.heap.size + 1, 3, none⟩ = some (Value.int IntKind.i64 u.old.id) := b1.out.cell 3 rfl
      have fb14 : w88.cell? ⟨w.heap.size + 1, 4, none⟩ = some (Value.slice A1 u.old.cells.length c1) := b1.out.cell 4 rfl
      have fb15 : w88.cell? ⟨w.heap.size + 1, 5, none⟩ = some (Value.int IntKind.i64 u.new.id) := b1.out.cell 5 rfl
      have fb16 : w88.cell? ⟨w.heap.size + 1, 6, none⟩ = some (Value.slice A1B u.new.cells.length c1B) := b1.out.cell 6 rfl
      have fBw00 : w88.cell? ⟨p, 0, none⟩ = some (Value.slice Aw0 y.cols.length cw0) := Bw0.out.cell 0 rfl
      have fBw01 : w88.cell? ⟨p, 1, none⟩ = some (Value.int IntKind.i64 y.ver) := Bw0.out.cell 1 rfl
      have fBw02 : w88.cell? ⟨p, 2, none⟩ = some (Value.slice Aw0B y.tabs.length cw0B) := Bw0.out.cell 2 rfl
      have fBx00 : w88.cell? ⟨w52.heap.size, 0, none⟩ = some (Value.slice Ax0 x.cols.length cx0) := Bx0.out.cell 0 rfl
      have fBx01 : w88.cell? ⟨w52.heap.size, 1, none⟩ = some (Value.int IntKind.i64 x.ver) := Bx0.out.cell 1 rfl
      have fBx02 : w88.cell? ⟨w52.heap.size, 2, none⟩ = some (Value.slice Ax0B x.tabs.length cx0B) := Bx0.out.cell 2 rfl
      have fBx10 : w88.cell? ⟨w54.heap.size, 0, none⟩ = some (Value.int IntKind.i64 u.table) := Bx1.out.cell 0 rfl
      have fBx11 : w88.cell? ⟨w54.heap.size, 1, none⟩ = some (Value.bool u.had) := Bx1.out.cell 1 rfl
      have fBx12 : w88.cell? ⟨w54.heap.size, 2, none⟩ = some (Value.bool u.has) := Bx1.out.cell 2 rfl
      have fBx13 : w88.cell? ⟨w54.heap.size, 3, none⟩ = some (Value.int IntKind.i64 u.old.id) := Bx1.out.cell 3 rfl
      have fBx14 : w88.cell? ⟨w54.heap.size, 4, none⟩ = some (Value.slice Ax1 u.old.cells.length cx1) := Bx1.out.cell 4 rfl
      have fBx15 : w88.cell? ⟨w54.heap.size, 5, none⟩ = some (Value.int IntKind.i64 u.new.id) := Bx1.out.cell 5 rfl
      have fBx16 : w88.cell? ⟨w54.heap.size, 6, none⟩ = some (Value.slice Ax1B u.new.cells.length cx1B) := Bx1.out.cell 6 rfl
      have fBg00 : w88.cell? ⟨w56.heap.size, 0, none⟩ = some (Value.slice Ag0 y.cols.length cg0) := Bg0.out.cell 0 rfl
      have fBg01 : w88.cell? ⟨w56.heap.size, 1, none⟩ = some (Value.int IntKind.i64 y.ver) := Bg0.out.cell 1 rfl
      have fBg02 : w88.cell? ⟨w56.heap.size, 2, none⟩ = some (Value.slice Ag0B y.tabs.length cg0B) := Bg0.out.cell 2 rfl
      have fBh00 : w88.cell? ⟨w79.heap.size, 0, none⟩ = some (Value.slice Ah0 y.cols.length ch0) := Bh0.out.cell 0 rfl
      have fBh01 : w88.cell? ⟨w79.heap.size, 1, none⟩ = some (Value.int IntKind.i64 y.ver) := Bh0.out.cell 1 rfl
      have fBh02 : w88.cell? ⟨w79.heap.size, 2, none⟩ = some (Value.slice Ah0B y.tabs.length ch0B) := Bh0.out.cell 2 rfl
      go_wp2_with fail
      clear fb00 fb01 fb02 fb10 fb11 fb12 fb13 fb14 fb15 fb16 fBw00 fBw01 fBw02 fBx00 fBx01 fBx02 fBx10 fBx11 fBx12 fBx13 fBx14 fBx15 fBx16 fBg00 fBg01 fBg02 fBh00 fBh01 fBh02
      go_ret
      exact ⟨rfl, hB.out⟩
  · refine stepM_of rfl ?_ (by rfl)
    go_wp2_with fail
    refine ⟨cls_below (below_alloc hS.out _), ?_⟩
    refine genT ?_; intro W78 hW
    have hE : Below W77.heap.size W77 W78 := by rw [hW]; exact below_alloc (Below.refl _ _) _
    have Bh0 := Hd.mk (show Blk W78 W77.heap.size #[Value.slice none 0 0, Value.int IntKind.i64 0, Value.slice none 0 0] 37 by rw [hW]; exact Blk.new _ _ _)
    have hz_ : W77.heap.size + 1 ≤ W78.heap.size := by rw [hW]; simp
    clear hW
    have db0_Bh0 := Hd.mk eb0.out
    have db1_Bh0 := Hd.mk eb1.out
    have dw0_Bh0 := Hd.mk ew0.out
    have dBw0_Bh0 := Hd.mk eBw0.out
    have dBx0_Bh0 := Hd.mk eBx0.out
    have dBx1_Bh0 := Hd.mk eBx1.out
    have dg0_Bh0 := Hd.mk eg0.out
    have dBg0_Bh0 := Hd.mk eBg0.out
    have aBh0 := Hd.mk hB.out.size
    replace b0 := Hd.mk (b0.out.below hE)
    replace eb0 := Hd.mk (Nat.le_trans eb0.out hE.size)
    replace b1 := Hd.mk (b1.out.below hE)
    replace eb1 := Hd.mk (Nat.le_trans eb1.out hE.size)
    replace w0 := Hd.mk (Ty.O_below w0.out hE)
    replace ew0 := Hd.mk (Nat.le_trans ew0.out hE.size)
    replace Bw0 := Hd.mk (Bw0.out.below hE)
    replace eBw0 := Hd.mk (Nat.le_trans eBw0.out hE.size)
    replace Bx0 := Hd.mk (Bx0.out.below hE)
    replace eBx0 := Hd.mk (Nat.le_trans eBx0.out hE.size)
    replace Bx1 := Hd.mk (Bx1.out.below hE)
    replace eBx1 := Hd.mk (Nat.le_trans eBx1.out hE.size)
    replace g0 := Hd.mk (Ty.O_below g0.out hE)
    replace eg0 := Hd.mk (Nat.le_trans eg0.out hE.size)
    replace Bg0 := Hd.mk (Bg0.out.below hE)
    replace eBg0 := Hd.mk (Nat.le_trans eBg0.out hE.size)
    replace hB := Hd.mk (below_then hB.out hE)
    replace hS := Hd.mk (below_then hS.out hE)
    have eBh0 := Hd.mk hz_; clear hz_ hE
    refine mixT_b rfl ?_ (by rfl)
    go_wp2_with fail
    apply calls_gen; intro W79 hW
    have hE : Below W78.heap.size W78 W79 := by rw [hW]; (repeat (first | with_reducible refine below_alloc ?_ _ | with_reducible refine below_drew ?_)); exact Below.refl _ _
    clear hW
    replace b0 := Hd.mk (b0.out.below hE)
    replace eb0 := Hd.mk (Nat.le_trans eb0.out hE.size)
    replace b1 := Hd.mk (b1.out.below hE)
    replace eb1 := Hd.mk (Nat.le_trans eb1.out hE.size)
    replace w0 := Hd.mk (Ty.O_below w0.out hE)
    replace ew0 := Hd.mk (Nat.le_trans ew0.out hE.size)
    replace Bw0 := Hd.mk (Bw0.out.below hE)
    replace eBw0 := Hd.mk (Nat.le_trans eBw0.out hE.size)
    replace Bx0 := Hd.mk (Bx0.out.below hE)
    replace eBx0 := Hd.mk (Nat.le_trans eBx0.out hE.size)
    replace Bx1 := Hd.mk (Bx1.out.below hE)
    replace eBx1 := Hd.mk (Nat.le_trans eBx1.out hE.size)
    replace g0 := Hd.mk (Ty.O_below g0.out hE)
    replace eg0 := Hd.mk (Nat.le_trans eg0.out hE.size)
    replace Bg0 := Hd.mk (Bg0.out.below hE)
    replace eBg0 := Hd.mk (Nat.le_trans eBg0.out hE.size)
    replace Bh0 := Hd.mk (Bh0.out.below hE)
    replace eBh0 := Hd.mk (Nat.le_trans eBh0.out hE.size)
    replace hB := Hd.mk (below_then hB.out hE)
    replace hS := Hd.mk (below_then hS.out hE)
    clear hE
    refine (laws_toStore x _ _ (tStore.K_below hB.out hK0.out) HL0.out.1).mono ?_
    rintro e w80 ⟨cs_, rfl, hO, hX⟩
    have db0_r0 := Hd.mk eb0.out
    have db1_r0 := Hd.mk eb1.out
    have dw0_r0 := Hd.mk ew0.out
    have dBw0_r0 := Hd.mk eBw0.out
    have dBx0_r0 := Hd.mk eBx0.out
    have dBx1_r0 := Hd.mk eBx1.out
    have dg0_r0 := Hd.mk eg0.out
    have dBg0_r0 := Hd.mk eBg0.out
    have dBh0_r0 := Hd.mk eBh0.out
    have ar0 := Hd.mk hB.out.size
    replace b0 := Hd.mk (b0.out.below hX)
    replace eb0 := Hd.mk (Nat.le_trans eb0.out hX.size)
    replace b1 := Hd.mk (b1.out.below hX)
    replace eb1 := Hd.mk (Nat.le_trans eb1.out hX.size)
    replace w0 := Hd.mk (Ty.O_below w0.out hX)
    replace ew0 := Hd.mk (Nat.le_trans ew0.out hX.size)
    replace Bw0 := Hd.mk (Bw0.out.below hX)
    replace eBw0 := Hd.mk (Nat.le_trans eBw0.out hX.size)
    replace Bx0 := Hd.mk (Bx0.out.below hX)
    replace eBx0 := Hd.mk (Nat.le_trans eBx0.out hX.size)
    replace Bx1 := Hd.mk (Bx1.out.below hX)
    replace eBx1 := Hd.mk (Nat.le_trans eBx1.out hX.size)
    replace g0 := Hd.mk (Ty.O_below g0.out hX)
    replace eg0 := Hd.mk (Nat.le_trans eg0.out hX.size)
    replace Bg0 := Hd.mk (Bg0.out.below hX)
    replace eBg0 := Hd.mk (Nat.le_trans eBg0.out hX.size)
    replace Bh0 := Hd.mk (Bh0.out.below hX)
    replace eBh0 := Hd.mk (Nat.le_trans eBh0.out hX.size)
    replace hB := Hd.mk (below_then hB.out hX)
    replace hS := Hd.mk (below_then hS.out hX)
    clear hX
    replace hO := Ty.O_bound _ hO
    obtain ⟨v_, u_, _, _, hcs, r1, r2, _⟩ := tStore_O.1 hO
    subst hcs
    obtain ⟨Ar0, cr0, hv_, hcr0, _⟩ := R_C r1
    subst hv_
    clear r1
    obtain ⟨Ar0B, cr0B, hv_, hcr0B, _⟩ := R_C r2
    subst hv_
    clear r2
    have r0 := Hd.mk (show tStore.O w80 (rng W79.heap.size w80.heap.size) x [Value.slice Ar0 x.cols.length cr0, Value.int IntKind.i64 x.ver, Value.slice Ar0B x.tabs.length cr0B] from hO); clear hO
    have er0 := Hd.mk (Nat.le_refl w80.heap.size)
    go_wp2_with fail
    refine ⟨cls_below hS.out, ?_⟩
    refine mixT_b rfl ?_ (by rfl)
    go_wp2_with fail
    apply calls_gen; intro W81 hW
    have hE : Below w80.heap.size w80 W81 := by rw [hW]; (repeat (first | with_reducible refine below_alloc ?_ _ | with_reducible refine below_drew ?_)); exact Below.refl _ _
    clear hW
    replace b0 := Hd.mk (b0.out.below hE)
    replace eb0 := Hd.mk (Nat.le_trans eb0.out hE.size)
    replace b1 := Hd.mk (b1.out.below hE)
    replace eb1 := Hd.mk (Nat.le_trans eb1.out hE.size)
    replace w0 := Hd.mk (Ty.O_below w0.out hE)
    replace ew0 := Hd.mk (Nat.le_trans ew0.out hE.size)
    replace Bw0 := Hd.mk (Bw0.out.below hE)
    replace eBw0 := Hd.mk (Nat.le_trans eBw0.out hE.size)
    replace Bx0 := Hd.mk (Bx0.out.below hE)
    replace eBx0 := Hd.mk (Nat.le_trans eBx0.out hE.size)
    replace Bx1 := Hd.mk (Bx1.out.below hE)
    replace eBx1 := Hd.mk (Nat.le_trans eBx1.out hE.size)
    replace g0 := Hd.mk (Ty.O_below g0.out hE)
    replace eg0 := Hd.mk (Nat.le_trans eg0.out hE.size)
    replace Bg0 := Hd.mk (Bg0.out.below hE)
    replace eBg0 := Hd.mk (Nat.le_trans eBg0.out hE.size)
    replace Bh0 := Hd.mk (Bh0.out.below hE)
    replace eBh0 := Hd.mk (Nat.le_trans eBh0.out hE.size)
    replace r0 := Hd.mk (Ty.O_below r0.out hE)
    replace er0 := Hd.mk (Nat.le_trans er0.out hE.size)
    replace hB := Hd.mk (below_then hB.out hE)
    replace hS := Hd.mk (below_then hS.out hE)
    clear hE
    refine (laws_toChange u _ _ (tChange.K_below hB.out hK1.out) HL1.out.1).mono ?_
    rintro e w82 ⟨cs_, rfl, hO, hX⟩
    have db0_r1 := Hd.mk eb0.out
    have db1_r1 := Hd.mk eb1.out
    have dw0_r1 := Hd.mk ew0.out
    have dBw0_r1 := Hd.mk eBw0.out
    have dBx0_r1 := Hd.mk eBx0.out
    have dBx1_r1 := Hd.mk eBx1.out
    have dg0_r1 := Hd.mk eg0.out
    have dBg0_r1 := Hd.mk eBg0.out
    have dBh0_r1 := Hd.mk eBh0.out
    have dr0_r1 := Hd.mk er0.out
    have ar1 := Hd.mk hB.out.size
    replace b0 := Hd.mk (b0.out.below hX)
    replace eb0 := Hd.mk (Nat.le_trans eb0.out hX.size)
    replace b1 := Hd.mk (b1.out.below hX)
    replace eb1 := Hd.mk (Nat.le_trans eb1.out hX.size)
    replace w0 := Hd.mk (Ty.O_below w0.out hX)
    replace ew0 := Hd.mk (Nat.le_trans ew0.out hX.size)
    replace Bw0 := Hd.mk (Bw0.out.below hX)
    replace eBw0 := Hd.mk (Nat.le_trans eBw0.out hX.size)
    replace Bx0 := Hd.mk (Bx0.out.below hX)
    replace eBx0 := Hd.mk (Nat.le_trans eBx0.out hX.size)
    replace Bx1 := Hd.mk (Bx1.out.below hX)
    replace eBx1 := Hd.mk (Nat.le_trans eBx1.out hX.size)
    replace g0 := Hd.mk (Ty.O_below g0.out hX)
    replace eg0 := Hd.mk (Nat.le_trans eg0.out hX.size)
    replace Bg0 := Hd.mk (Bg0.out.below hX)
    replace eBg0 := Hd.mk (Nat.le_trans eBg0.out hX.size)
    replace Bh0 := Hd.mk (Bh0.out.below hX)
    replace eBh0 := Hd.mk (Nat.le_trans eBh0.out hX.size)
    replace r0 := Hd.mk (Ty.O_below r0.out hX)
    replace er0 := Hd.mk (Nat.le_trans er0.out hX.size)
    replace hB := Hd.mk (below_then hB.out hX)
    replace hS := Hd.mk (below_then hS.out hX)
    clear hX
    replace hO := Ty.O_bound _ hO
    obtain ⟨v_, u_, _, _, hcs, r1, r2, _⟩ := tChange_O.1 hO
    subst hcs
    obtain ⟨Ar1, cr1, hv_, hcr1, _⟩ := R_C r1
    subst hv_
    clear r1
    obtain ⟨Ar1B, cr1B, hv_, hcr1B, _⟩ := R_C r2
    subst hv_
    clear r2
    have r1 := Hd.mk (show tChange.O w82 (rng W81.heap.size w82.heap.size) u [Value.int IntKind.i64 u.table, Value.bool u.had, Value.bool u.has, Value.int IntKind.i64 u.old.id, Value.slice Ar1 u.old.cells.length cr1, Value.int IntKind.i64 u.new.id, Value.slice Ar1B u.new.cells.length cr1B] from hO); clear hO
    have er1 := Hd.mk (Nat.le_refl w82.heap.size)
    go_wp2_with fail
    refine ⟨cls_below hS.out, ?_⟩
    refine mixT_b rfl ?_ (by rfl)
    go_wp2_with fail
    apply calls_gen; intro W83 hW
    have hE : Below w82.heap.size w82 W83 := by rw [hW]; (repeat (first | with_reducible refine below_alloc ?_ _ | with_reducible refine below_drew ?_)); exact Below.refl _ _
    clear hW
    replace b0 := Hd.mk (b0.out.below hE)
    replace eb0 := Hd.mk (Nat.le_trans eb0.out hE.size)
    replace b1 := Hd.mk (b1.out.below hE)
    replace eb1 := Hd.mk (Nat.le_trans eb1.out hE.size)
    replace w0 := Hd.mk (Ty.O_below w0.out hE)
    replace ew0 := Hd.mk (Nat.le_trans ew0.out hE.size)
    replace Bw0 := Hd.mk (Bw0.out.below hE)
    replace eBw0 := Hd.mk (Nat.le_trans eBw0.out hE.size)
    replace Bx0 := Hd.mk (Bx0.out.below hE)
    replace eBx0 := Hd.mk (Nat.le_trans eBx0.out hE.size)
    replace Bx1 := Hd.mk (Bx1.out.below hE)
    replace eBx1 := Hd.mk (Nat.le_trans eBx1.out hE.size)
    replace g0 := Hd.mk (Ty.O_below g0.out hE)
    replace eg0 := Hd.mk (Nat.le_trans eg0.out hE.size)
    replace Bg0 := Hd.mk (Bg0.out.below hE)
    replace eBg0 := Hd.mk (Nat.le_trans eBg0.out hE.size)
    replace Bh0 := Hd.mk (Bh0.out.below hE)
    replace eBh0 := Hd.mk (Nat.le_trans eBh0.out hE.size)
    replace r0 := Hd.mk (Ty.O_below r0.out hE)
    replace er0 := Hd.mk (Nat.le_trans er0.out hE.size)
    replace r1 := Hd.mk (Ty.O_below r1.out hE)
    replace er1 := Hd.mk (Nat.le_trans er1.out hE.size)
    replace hB := Hd.mk (below_then hB.out hE)
    replace hS := Hd.mk (below_then hS.out hE)
    clear hE
    refine (impl_Back x _ u _ _ (tStore.O_K r0.out) (tChange.O_K r1.out) (by have := HL0.out.1; omega) (by have := HL1.out.1; omega)).mono ?_
    rintro e w84 ⟨cs_, rfl, hO, hX⟩
    have db0_h0 := Hd.mk eb0.out
    have db1_h0 := Hd.mk eb1.out
    have dw0_h0 := Hd.mk ew0.out
    have dBw0_h0 := Hd.mk eBw0.out
    have dBx0_h0 := Hd.mk eBx0.out
    have dBx1_h0 := Hd.mk eBx1.out
    have dg0_h0 := Hd.mk eg0.out
    have dBg0_h0 := Hd.mk eBg0.out
    have dBh0_h0 := Hd.mk eBh0.out
    have dr0_h0 := Hd.mk er0.out
    have dr1_h0 := Hd.mk er1.out
    have ah0 := Hd.mk hB.out.size
    replace b0 := Hd.mk (b0.out.below hX)
    replace eb0 := Hd.mk (Nat.le_trans eb0.out hX.size)
    replace b1 := Hd.mk (b1.out.below hX)
    replace eb1 := Hd.mk (Nat.le_trans eb1.out hX.size)
    replace w0 := Hd.mk (Ty.O_below w0.out hX)
    replace ew0 := Hd.mk (Nat.le_trans ew0.out hX.size)
    replace Bw0 := Hd.mk (Bw0.out.below hX)
    replace eBw0 := Hd.mk (Nat.le_trans eBw0.out hX.size)
    replace Bx0 := Hd.mk (Bx0.out.below hX)
    replace eBx0 := Hd.mk (Nat.le_trans eBx0.out hX.size)
    replace Bx1 := Hd.mk (Bx1.out.below hX)
    replace eBx1 := Hd.mk (Nat.le_trans eBx1.out hX.size)
    replace g0 := Hd.mk (Ty.O_below g0.out hX)
    replace eg0 := Hd.mk (Nat.le_trans eg0.out hX.size)
    replace Bg0 := Hd.mk (Bg0.out.below hX)
    replace eBg0 := Hd.mk (Nat.le_trans eBg0.out hX.size)
    replace Bh0 := Hd.mk (Bh0.out.below hX)
    replace eBh0 := Hd.mk (Nat.le_trans eBh0.out hX.size)
    replace r0 := Hd.mk (Ty.O_below r0.out hX)
    replace er0 := Hd.mk (Nat.le_trans er0.out hX.size)
    replace r1 := Hd.mk (Ty.O_below r1.out hX)
    replace er1 := Hd.mk (Nat.le_trans er1.out hX.size)
    replace hB := Hd.mk (below_then hB.out hX)
    replace hS := Hd.mk (below_then hS.out hX)
    clear hX
    rw [← Hy.out] at hO
    rw [← Hyb.out]
    replace hO := Ty.O_bound _ hO
    obtain ⟨v_, u_, _, _, hcs, r1, r2, _⟩ := tStore_O.1 hO
    subst hcs
    obtain ⟨Ah0, ch0, hv_, hch0, _⟩ := R_C r1
    subst hv_
    clear r1
    obtain ⟨Ah0B, ch0B, hv_, hch0B, _⟩ := R_C r2
    subst hv_
    clear r2
    have h0 := Hd.mk (show tStore.O w84 (rng W83.heap.size w84.heap.size) y [Value.slice Ah0 y.cols.length ch0, Value.int IntKind.i64 y.ver, Value.slice Ah0B y.tabs.length ch0B] from hO); clear hO
    have eh0 := Hd.mk (Nat.le_refl w84.heap.size)
    go_wp2_with fail
    refine ⟨cls_below hS.out, ?_⟩
    refine mixT_p rfl ?_
    go_big_quiet_want; go_big_quiet_op; go_big_quiet_on; refine wpQuiet_nil ?_
    refine mixT_p rfl ?_
    go_big_quiet_want; go_big_quiet_op; go_big_quiet_on; refine wpQuiet_nil ?_
    refine mixT_p rfl ?_
    go_big_quiet_want; go_big_quiet_op; go_big_quiet_on; refine wpQuiet_nil ?_
    refine mixT_fin ?_
    clear hS
    clear fb00 fb01 fb02 fb10 fb11 fb12 fb13 fb14 fb15 fb16 fBw00 fBw01 fBw02 fBx00 fBx01 fBx02 fBx10 fBx11 fBx12 fBx13 fBx14 fBx15 fBx16 fBg00 fBg01 fBg02 rfb00 rfb01 rfb02 rfb10 rfb11 rfb12 rfb13 rfb14 rfb15 rfb16 rfBw00 rfBw01 rfBw02 rfBx00 rfBx01 rfBx02 rfBx10 rfBx11 rfBx12 rfBx13 rfBx14 rfBx15 rfBx16 rfBg00 rfBg01 rfBg02
    have fb00 : w84.cell? ⟨w.heap.size, 0, none⟩ = some (Value.slice A0 x.cols.length c0) := b0.out.cell 0 rfl
    have fb01 : w84.cell? ⟨w.heap.size, 1, none⟩ = some (Value.int IntKind.i64 x.ver) := b0.out.cell 1 rfl
    have fb02 : w84.cell? ⟨w.heap.size, 2, none⟩ = some (Value.slice A0B x.tabs.length c0B) := b0.out.cell 2 rfl
    have fb10 : w84.cell? ⟨w.heap.size + 1, 0, none⟩ = some (Value.int IntKind.i64 u.table) := b1.out.cell 0 rfl
    have fb11 : w84.cell? ⟨w.heap.size + 1, 1, none⟩ = some (Value.bool u.had) := b1.out.cell 1 rfl
    have fb12 : w84.cell? ⟨w.heap.size + 1, 2, none⟩ = some (Value.bool u.has) := b1.out.cell 2 rfl
    have fb13 : w84.cell? ⟨w.heap.size + 1, 3, none⟩ = some (Value.int IntKind.i64 u.old.id) := b1.out.cell 3 rfl
    have fb14 : w84.cell? ⟨w.heap.size + 1, 4, none⟩ = some (Value.slice A1 u.old.cells.length c1) := b1.out.cell 4 rfl
    have fb15 : w84.cell? ⟨w.heap.size + 1, 5, none⟩ = some (Value.int IntKind.i64 u.new.id) := b1.out.cell 5 rfl
    have fb16 : w84.cell? ⟨w.heap.size + 1, 6, none⟩ = some (Value.slice A1B u.new.cells.length c1B) := b1.out.cell 6 rfl
    have fBw00 : w84.cell? ⟨p, 0, none⟩ = some (Value.slice Aw0 y.cols.length cw0) := Bw0.out.cell 0 rfl
    have fBw01 : w84.cell? ⟨p, 1, none⟩ = some (Value.int IntKind.i64 y.ver) := Bw0.out.cell 1 rfl
    have fBw02 : w84.cell? ⟨p, 2, none⟩ = some (Value.slice Aw0B y.tabs.length cw0B) := Bw0.out.cell 2 rfl
    have fBx00 : w84.cell? ⟨w52.heap.size, 0, none⟩ = some (Value.slice Ax0 x.cols.length cx0) := Bx0.out.cell 0 rfl
    have fBx01 : w84.cell? ⟨w52.heap.size, 1, none⟩ = some (Value.int IntKind.i64 x.ver) := Bx0.out.cell 1 rfl
    have fBx02 : w84.cell? ⟨w52.heap.size, 2, none⟩ = some (Value.slice Ax0B x.tabs.length cx0B) := Bx0.out.cell 2 rfl
    have fBx10 : w84.cell? ⟨w54.heap.size, 0, none⟩ = some (Value.int IntKind.i64 u.table) := Bx1.out.cell 0 rfl
    have fBx11 : w84.cell? ⟨w54.heap.size, 1, none⟩ = some (Value.bool u.had) := Bx1.out.cell 1 rfl
    have fBx12 : w84.cell? ⟨w54.heap.size, 2, none⟩ = some (Value.bool u.has) := Bx1.out.cell 2 rfl
    have fBx13 : w84.cell? ⟨w54.heap.size, 3, none⟩ = some (Value.int IntKind.i64 u.old.id) := Bx1.out.cell 3 rfl
    have fBx14 : w84.cell? ⟨w54.heap.size, 4, none⟩ = some (Value.slice Ax1 u.old.cells.length cx1) := Bx1.out.cell 4 rfl
    have fBx15 : w84.cell? ⟨w54.heap.size, 5, none⟩ = some (Value.int IntKind.i64 u.new.id) := Bx1.out.cell 5 rfl
    have fBx16 : w84.cell? ⟨w54.heap.size, 6, none⟩ = some (Value.slice Ax1B u.new.cells.length cx1B) := Bx1.out.cell 6 rfl
    have fBg00 : w84.cell? ⟨w56.heap.size, 0, none⟩ = some (Value.slice Ag0 y.cols.length cg0) := Bg0.out.cell 0 rfl
    have fBg01 : w84.cell? ⟨w56.heap.size, 1, none⟩ = some (Value.int IntKind.i64 y.ver) := Bg0.out.cell 1 rfl
    have fBg02 : w84.cell? ⟨w56.heap.size, 2, none⟩ = some (Value.slice Ag0B y.tabs.length cg0B) := Bg0.out.cell 2 rfl
    have fBh00 : w84.cell? ⟨W77.heap.size, 0, none⟩ = some (Value.slice none 0 0) := Bh0.out.cell 0 rfl
    have fBh01 : w84.cell? ⟨W77.heap.size, 1, none⟩ = some (Value.int IntKind.i64 0) := Bh0.out.cell 1 rfl
    have fBh02 : w84.cell? ⟨W77.heap.size, 2, none⟩ = some (Value.slice none 0 0) := Bh0.out.cell 2 rfl
    have fz_ := Bh0.out.frozen
    refine tail_b rfl ?_ (by rfl)
    go_wp2_with fail
    refine mixQ_n ?_
    refine tail_b rfl ?_ (by rfl)
    go_wp2_with fail
    refine mixQ_n ?_
    refine tail_nil ?_
    refine exit_gen ?_; intro W hW
    clear fz_
    clear fb00 fb01 fb02 fb10 fb11 fb12 fb13 fb14 fb15 fb16 fBw00 fBw01 fBw02 fBx00 fBx01 fBx02 fBx10 fBx11 fBx12 fBx13 fBx14 fBx15 fBx16 fBg00 fBg01 fBg02 fBh00 fBh01 fBh02
    have eF : Fr w84 W (fun k => k = W77.heap.size) := by rw [hW]; (repeat (first | with_reducible refine Fr.setCell (S := fun k => k = W77.heap.size) ?_ _ (fun _ => rfl) _)); exact Fr.refl _ _
    have hsz_ := eF.size
    replace b0 := Hd.mk (b0.out.fr eF (fun h => by have := db0_Bh0.out; (try simp only at h); omega))
    replace eb0 := Hd.mk (Nat.le_trans eb0.out hsz_)
    replace b1 := Hd.mk (b1.out.fr eF (fun h => by have := db1_Bh0.out; (try simp only at h); omega))
    replace eb1 := Hd.mk (Nat.le_trans eb1.out hsz_)
    replace w0 := Hd.mk (Ty.O_fr w0.out eF (fun k hk hl h => by have := dw0_Bh0.out; have h1 := hk.1; have h2 := hk.2; (try simp only at h); omega))
    replace ew0 := Hd.mk (Nat.le_trans ew0.out hsz_)
    replace Bw0 := Hd.mk (Bw0.out.fr eF (fun h => by have := dBw0_Bh0.out; (try simp only at h); omega))
    replace eBw0 := Hd.mk (Nat.le_trans eBw0.out hsz_)
    replace Bx0 := Hd.mk (Bx0.out.fr eF (fun h => by have := dBx0_Bh0.out; (try simp only at h); omega))
    replace eBx0 := Hd.mk (Nat.le_trans eBx0.out hsz_)
    replace Bx1 := Hd.mk (Bx1.out.fr eF (fun h => by have := dBx1_Bh0.out; (try simp only at h); omega))
    replace eBx1 := Hd.mk (Nat.le_trans eBx1.out hsz_)
    replace g0 := Hd.mk (Ty.O_fr g0.out eF (fun k hk hl h => by have := dg0_Bh0.out; have h1 := hk.1; have h2 := hk.2; (try simp only at h); omega))
    replace eg0 := Hd.mk (Nat.le_trans eg0.out hsz_)
    replace Bg0 := Hd.mk (Bg0.out.fr eF (fun h => by have := dBg0_Bh0.out; (try simp only at h); omega))
    replace eBg0 := Hd.mk (Nat.le_trans eBg0.out hsz_)
    replace r0 := Hd.mk (Ty.O_fr r0.out eF (fun k hk hl h => by have := dBh0_r0.out; have h1 := hk.1; have h2 := hk.2; (try simp only at h); omega))
    replace er0 := Hd.mk (Nat.le_trans er0.out hsz_)
    replace r1 := Hd.mk (Ty.O_fr r1.out eF (fun k hk hl h => by have := dBh0_r1.out; have h1 := hk.1; have h2 := hk.2; (try simp only at h); omega))
    replace er1 := Hd.mk (Nat.le_trans er1.out hsz_)
    replace h0 := Hd.mk (Ty.O_fr h0.out eF (fun k hk hl h => by have := dBh0_h0.out; have h1 := hk.1; have h2 := hk.2; (try simp only at h); omega))
    replace eh0 := Hd.mk (Nat.le_trans eh0.out hsz_)
    replace Bh0 := Hd.mk (show Blk W (W77.heap.size) #[Value.slice Ah0 y.cols.length ch0, Value.int IntKind.i64 y.ver, Value.slice Ah0B y.tabs.length ch0B] 37 by rw [hW]; exact (((Bh0.out.set 0 (Value.slice Ah0 y.cols.length ch0)).set 1 (Value.int IntKind.i64 y.ver)).set 2 (Value.slice Ah0B y.tabs.length ch0B)))
    replace eBh0 := Hd.mk (Nat.le_trans eBh0.out hsz_)
    replace hB := Hd.mk (((Fr.of_below hB.out (fun k => k = W77.heap.size)).then_ eF (fun k h _ => h)).below (fun k h => by have := aBh0.out; (try simp only at h); omega))
    clear hW eF hsz_
    clear r0 er0
    clear r1 er1
    have fb00 : W.cell? ⟨w.heap.size, 0, none⟩ = some (Value.slice A0 x.cols.length c0) := b0.out.cell 0 rfl
    have fb01 : W.cell? ⟨w.heap.size, 1, none⟩ = some (Value.int IntKind.i64 x.ver) := b0.out.cell 1 rfl
    have fb02 : W.cell? ⟨w.heap.size, 2, none⟩ = some (Value.slice A0B x.tabs.length c0B) := b0.out.cell 2 rfl
    have fb10 : W.cell? ⟨w.heap.size + 1, 0, none⟩ = some (Value.int IntKind.i64 u.table) := b1.out.cell 0 rfl
    have fb11 : W.cell? ⟨w.heap.size + 1, 1, none⟩ = some (Value.bool u.had) := b1.out.cell 1 rfl
    have fb12 : W.cell? ⟨w.heap.size + 1, 2, none⟩ = some (Value.bool u.has) := b1.out.cell 2 rfl
    have fb13 : W.cell? ⟨w.heap.size + 1, 3, none⟩ = some (Value.int IntKind.i64 u.old.id) := b1.out.cell 3 rfl
    have fb14 : W.cell? ⟨w.heap.size + 1, 4, none⟩ = some (Value.slice A1 u.old.cells.length c1) := b1.out.cell 4 rfl
    have fb15 : W.cell? ⟨w.heap.size + 1, 5, none⟩ = some (Value.int IntKind.i64 u.new.id) := b1.out.cell 5 rfl
    have fb16 : W.cell? ⟨w.heap.size + 1, 6, none⟩ = some (Value.slice A1B u.new.cells.length c1B) := b1.out.cell 6 rfl
    have fBw00 : W.cell? ⟨p, 0, none⟩ = some (Value.slice Aw0 y.cols.length cw0) := Bw0.out.cell 0 rfl
    have fBw01 : W.cell? ⟨p, 1, none⟩ = some (Value.int IntKind.i64 y.ver) := Bw0.out.cell 1 rfl
    have fBw02 : W.cell? ⟨p, 2, none⟩ = some (Value.slice Aw0B y.tabs.length cw0B) := Bw0.out.cell 2 rfl
    have fBx00 : W.cell? ⟨w52.heap.size, 0, none⟩ = some (Value.slice Ax0 x.cols.length cx0) := Bx0.out.cell 0 rfl
    have fBx01 : W.cell? ⟨w52.heap.size, 1, none⟩ = some (Value.int IntKind.i64 x.ver) := Bx0.out.cell 1 rfl
    have fBx02 : W.cell? ⟨w52.heap.size, 2, none⟩ = some (Value.slice Ax0B x.tabs.length cx0B) := Bx0.out.cell 2 rfl
    have fBx10 : W.cell? ⟨w54.heap.size, 0, none⟩ = some (Value.int IntKind.i64 u.table) := Bx1.out.cell 0 rfl
    have fBx11 : W.cell? ⟨w54.heap.size, 1, none⟩ = some (Value.bool u.had) := Bx1.out.cell 1 rfl
    have fBx12 : W.cell? ⟨w54.heap.size, 2, none⟩ = some (Value.bool u.has) := Bx1.out.cell 2 rfl
    have fBx13 : W.cell? ⟨w54.heap.size, 3, none⟩ = some (Value.int IntKind.i64 u.old.id) := Bx1.out.cell 3 rfl
    have fBx14 : W.cell? ⟨w54.heap.size, 4, none⟩ = some (Value.slice Ax1 u.old.cells.length cx1) := Bx1.out.cell 4 rfl
    have fBx15 : W.cell? ⟨w54.heap.size, 5, none⟩ = some (Value.int IntKind.i64 u.new.id) := Bx1.out.cell 5 rfl
    have fBx16 : W.cell? ⟨w54.heap.size, 6, none⟩ = some (Value.slice Ax1B u.new.cells.length cx1B) := Bx1.out.cell 6 rfl
    have fBg00 : W.cell? ⟨w56.heap.size, 0, none⟩ = some (Value.slice Ag0 y.cols.length cg0) := Bg0.out.cell 0 rfl
    have fBg01 : W.cell? ⟨w56.heap.size, 1, none⟩ = some (Value.int IntKind.i64 y.ver) := Bg0.out.cell 1 rfl
    have fBg02 : W.cell? ⟨w56.heap.size, 2, none⟩ = some (Value.slice Ag0B y.tabs.length cg0B) := Bg0.out.cell 2 rfl
    have fBh00 : W.cell? ⟨W77.heap.size, 0, none⟩ = some (Value.slice Ah0 y.cols.length ch0) := Bh0.out.cell 0 rfl
    have fBh01 : W.cell? ⟨W77.heap.size, 1, none⟩ = some (Value.int IntKind.i64 y.ver) := Bh0.out.cell 1 rfl
    have fBh02 : W.cell? ⟨W77.heap.size, 2, none⟩ = some (Value.slice Ah0B y.tabs.length ch0B) := Bh0.out.cell 2 rfl
    go_wp2_with fail
    clear fb00 fb01 fb02 fb10 fb11 fb12 fb13 fb14 fb15 fb16 fBw00 fBw01 fBw02 fBx00 fBx01 fBx02 fBx10 fBx11 fBx12 fBx13 fBx14 fBx15 fBx16 fBg00 fBg01 fBg02 fBh00 fBh01 fBh02
    apply calls_gen; intro W85 hW
    have hE : Below W.heap.size W W85 := by rw [hW]; (repeat (first | with_reducible refine below_alloc ?_ _ | with_reducible refine below_drew ?_)); exact Below.refl _ _
    clear hW
    replace b0 := Hd.mk (b0.out.below hE)
    replace eb0 := Hd.mk (Nat.le_trans eb0.out hE.size)
    replace b1 := Hd.mk (b1.out.below hE)
    replace eb1 := Hd.mk (Nat.le_trans eb1.out hE.size)
    replace w0 := Hd.mk (Ty.O_below w0.out hE)
    replace ew0 := Hd.mk (Nat.le_trans ew0.out hE.size)
    replace Bw0 := Hd.mk (Bw0.out.below hE)
    replace eBw0 := Hd.mk (Nat.le_trans eBw0.out hE.size)
    replace Bx0 := Hd.mk (Bx0.out.below hE)
    replace eBx0 := Hd.mk (Nat.le_trans eBx0.out hE.size)
    replace Bx1 := Hd.mk (Bx1.out.below hE)
    replace eBx1 := Hd.mk (Nat.le_trans eBx1.out hE.size)
    replace g0 := Hd.mk (Ty.O_below g0.out hE)
    replace eg0 := Hd.mk (Nat.le_trans eg0.out hE.size)
    replace Bg0 := Hd.mk (Bg0.out.below hE)
    replace eBg0 := Hd.mk (Nat.le_trans eBg0.out hE.size)
    replace Bh0 := Hd.mk (Bh0.out.below hE)
    replace eBh0 := Hd.mk (Nat.le_trans eBh0.out hE.size)
    replace h0 := Hd.mk (Ty.O_below h0.out hE)
    replace eh0 := Hd.mk (Nat.le_trans eh0.out hE.size)
    replace hB := Hd.mk (below_then hB.out hE)
    clear hE
    refine (laws_eqStore y y _ _ _ (tStore.O_K h0.out) (tStore.O_K w0.out)).mono ?_
    rintro e w86 ⟨rfl, hX⟩
    replace b0 := Hd.mk (b0.out.below hX)
    replace eb0 := Hd.mk (Nat.le_trans eb0.out hX.size)
    replace b1 := Hd.mk (b1.out.below hX)
    replace eb1 := Hd.mk (Nat.le_trans eb1.out hX.size)
    replace w0 := Hd.mk (Ty.O_below w0.out hX)
    replace ew0 := Hd.mk (Nat.le_trans ew0.out hX.size)
    replace Bw0 := Hd.mk (Bw0.out.below hX)
    replace eBw0 := Hd.mk (Nat.le_trans eBw0.out hX.size)
    replace Bx0 := Hd.mk (Bx0.out.below hX)
    replace eBx0 := Hd.mk (Nat.le_trans eBx0.out hX.size)
    replace Bx1 := Hd.mk (Bx1.out.below hX)
    replace eBx1 := Hd.mk (Nat.le_trans eBx1.out hX.size)
    replace g0 := Hd.mk (Ty.O_below g0.out hX)
    replace eg0 := Hd.mk (Nat.le_trans eg0.out hX.size)
    replace Bg0 := Hd.mk (Bg0.out.below hX)
    replace eBg0 := Hd.mk (Nat.le_trans eBg0.out hX.size)
    replace Bh0 := Hd.mk (Bh0.out.below hX)
    replace eBh0 := Hd.mk (Nat.le_trans eBh0.out hX.size)
    replace h0 := Hd.mk (Ty.O_below h0.out hX)
    replace eh0 := Hd.mk (Nat.le_trans eh0.out hX.size)
    replace hB := Hd.mk (below_then hB.out hX)
    clear hX
    rw [eqv_self]
    have fb00 : w86.cell? ⟨w.heap.size, 0, none⟩ = some (Value.slice A0 x.cols.length c0) := b0.out.cell 0 rfl
    have fb01 : w86.cell? ⟨w.heap.size, 1, none⟩ = some (Value.int IntKind.i64 x.ver) := b0.out.cell 1 rfl
    have fb02 : w86.cell? ⟨w.heap.size, 2, none⟩ = some (Value.slice A0B x.tabs.length c0B) := b0.out.cell 2 rfl
    have fb10 : w86.cell? ⟨w.heap.size + 1, 0, none⟩ = some (Value.int IntKind.i64 u.table) := b1.out.cell 0 rfl
    have fb11 : w86.cell? ⟨w.heap.size + 1, 1, none⟩ = some (Value.bool u.had) := b1.out.cell 1 rfl
    have fb12 : w86.cell? ⟨w.heap.size + 1, 2, none⟩ = some (Value.bool u.has) := b1.out.cell 2 rfl
    have fb13 : w86.cell? ⟨w.heap.size + 1, 3, none⟩ = some (Value.int IntKind.i64 u.old.id) := b1.out.cell 3 rfl
    have fb14 : w86.cell? ⟨w.heap.size + 1, 4, none⟩ = some (Value.slice A1 u.old.cells.length c1) := b1.out.cell 4 rfl
    have fb15 : w86.cell? ⟨w.heap.size + 1, 5, none⟩ = some (Value.int IntKind.i64 u.new.id) := b1.out.cell 5 rfl
    have fb16 : w86.cell? ⟨w.heap.size + 1, 6, none⟩ = some (Value.slice A1B u.new.cells.length c1B) := b1.out.cell 6 rfl
    have fBw00 : w86.cell? ⟨p, 0, none⟩ = some (Value.slice Aw0 y.cols.length cw0) := Bw0.out.cell 0 rfl
    have fBw01 : w86.cell? ⟨p, 1, none⟩ = some (Value.int IntKind.i64 y.ver) := Bw0.out.cell 1 rfl
    have fBw02 : w86.cell? ⟨p, 2, none⟩ = some (Value.slice Aw0B y.tabs.length cw0B) := Bw0.out.cell 2 rfl
    have fBx00 : w86.cell? ⟨w52.heap.size, 0, none⟩ = some (Value.slice Ax0 x.cols.length cx0) := Bx0.out.cell 0 rfl
    have fBx01 : w86.cell? ⟨w52.heap.size, 1, none⟩ = some (Value.int IntKind.i64 x.ver) := Bx0.out.cell 1 rfl
    have fBx02 : w86.cell? ⟨w52.heap.size, 2, none⟩ = some (Value.slice Ax0B x.tabs.length cx0B) := Bx0.out.cell 2 rfl
    have fBx10 : w86.cell? ⟨w54.heap.size, 0, none⟩ = some (Value.int IntKind.i64 u.table) := Bx1.out.cell 0 rfl
    have fBx11 : w86.cell? ⟨w54.heap.size, 1, none⟩ = some (Value.bool u.had) := Bx1.out.cell 1 rfl
    have fBx12 : w86.cell? ⟨w54.heap.size, 2, none⟩ = some (Value.bool u.has) := Bx1.out.cell 2 rfl
    have fBx13 : w86.cell? ⟨w54.heap.size, 3, none⟩ = some (Value.int IntKind.i64 u.old.id) := Bx1.out.cell 3 rfl
    have fBx14 : w86.cell? ⟨w54.heap.size, 4, none⟩ = some (Value.slice Ax1 u.old.cells.length cx1) := Bx1.out.cell 4 rfl
    have fBx15 : w86.cell? ⟨w54.heap.size, 5, none⟩ = some (Value.int IntKind.i64 u.new.id) := Bx1.out.cell 5 rfl
    have fBx16 : w86.cell? ⟨w54.heap.size, 6, none⟩ = some (Value.slice Ax1B u.new.cells.length cx1B) := Bx1.out.cell 6 rfl
    have fBg00 : w86.cell? ⟨w56.heap.size, 0, none⟩ = some (Value.slice Ag0 y.cols.length cg0) := Bg0.out.cell 0 rfl
    have fBg01 : w86.cell? ⟨w56.heap.size, 1, none⟩ = some (Value.int IntKind.i64 y.ver) := Bg0.out.cell 1 rfl
    have fBg02 : w86.cell? ⟨w56.heap.size, 2, none⟩ = some (Value.slice Ag0B y.tabs.length cg0B) := Bg0.out.cell 2 rfl
    have fBh00 : w86.cell? ⟨W77.heap.size, 0, none⟩ = some (Value.slice Ah0 y.cols.length ch0) := Bh0.out.cell 0 rfl
    have fBh01 : w86.cell? ⟨W77.heap.size, 1, none⟩ = some (Value.int IntKind.i64 y.ver) := Bh0.out.cell 1 rfl
    have fBh02 : w86.cell? ⟨W77.heap.size, 2, none⟩ = some (Value.slice Ah0B y.tabs.length ch0B) := Bh0.out.cell 2 rfl
    go_wp2_with fail
    clear fb00 fb01 fb02 fb10 fb11 fb12 fb13 fb14 fb15 fb16 fBw00 fBw01 fBw02 fBx00 fBx01 fBx02 fBx10 fBx11 fBx12 fBx13 fBx14 fBx15 fBx16 fBg00 fBg01 fBg02 fBh00 fBh01 fBh02
    apply calls_gen; intro W87 hW
    have hE : Below w86.heap.size w86 W87 := by rw [hW]; (repeat (first | with_reducible refine below_alloc ?_ _ | with_reducible refine below_drew ?_)); exact Below.refl _ _
    clear hW
    replace b0 := Hd.mk (b0.out.below hE)
    replace eb0 := Hd.mk (Nat.le_trans eb0.out hE.size)
    replace b1 := Hd.mk (b1.out.below hE)
    replace eb1 := Hd.mk (Nat.le_trans eb1.out hE.size)
    replace w0 := Hd.mk (Ty.O_below w0.out hE)
    replace ew0 := Hd.mk (Nat.le_trans ew0.out hE.size)
    replace Bw0 := Hd.mk (Bw0.out.below hE)
    replace eBw0 := Hd.mk (Nat.le_trans eBw0.out hE.size)
    replace Bx0 := Hd.mk (Bx0.out.below hE)
    replace eBx0 := Hd.mk (Nat.le_trans eBx0.out hE.size)
    replace Bx1 := Hd.mk (Bx1.out.below hE)
    replace eBx1 := Hd.mk (Nat.le_trans eBx1.out hE.size)
    replace g0 := Hd.mk (Ty.O_below g0.out hE)
    replace eg0 := Hd.mk (Nat.le_trans eg0.out hE.size)
    replace Bg0 := Hd.mk (Bg0.out.below hE)
    replace eBg0 := Hd.mk (Nat.le_trans eBg0.out hE.size)
    replace Bh0 := Hd.mk (Bh0.out.below hE)
    replace eBh0 := Hd.mk (Nat.le_trans eBh0.out hE.size)
    replace h0 := Hd.mk (Ty.O_below h0.out hE)
    replace eh0 := Hd.mk (Nat.le_trans eh0.out hE.size)
    replace hB := Hd.mk (below_then hB.out hE)
    clear hE
    refine (laws_heldStore y _ 1 _ (tStore.O_K g0.out) (by omega) (by omega)).mono ?_
    rintro e w88 ⟨rfl, hX⟩
    replace b0 := Hd.mk (b0.out.below hX)
    replace eb0 := Hd.mk (Nat.le_trans eb0.out hX.size)
    replace b1 := Hd.mk (b1.out.below hX)
    replace eb1 := Hd.mk (Nat.le_trans eb1.out hX.size)
    replace w0 := Hd.mk (Ty.O_below w0.out hX)
    replace ew0 := Hd.mk (Nat.le_trans ew0.out hX.size)
    replace Bw0 := Hd.mk (Bw0.out.below hX)
    replace eBw0 := Hd.mk (Nat.le_trans eBw0.out hX.size)
    replace Bx0 := Hd.mk (Bx0.out.below hX)
    replace eBx0 := Hd.mk (Nat.le_trans eBx0.out hX.size)
    replace Bx1 := Hd.mk (Bx1.out.below hX)
    replace eBx1 := Hd.mk (Nat.le_trans eBx1.out hX.size)
    replace g0 := Hd.mk (Ty.O_below g0.out hX)
    replace eg0 := Hd.mk (Nat.le_trans eg0.out hX.size)
    replace Bg0 := Hd.mk (Bg0.out.below hX)
    replace eBg0 := Hd.mk (Nat.le_trans eBg0.out hX.size)
    replace Bh0 := Hd.mk (Bh0.out.below hX)
    replace eBh0 := Hd.mk (Nat.le_trans eBh0.out hX.size)
    replace h0 := Hd.mk (Ty.O_below h0.out hX)
    replace eh0 := Hd.mk (Nat.le_trans eh0.out hX.size)
    replace hB := Hd.mk (below_then hB.out hX)
    clear hX
    have fb00 : w88.cell? ⟨w.heap.size, 0, none⟩ = some (Value.slice A0 x.cols.length c0) := b0.out.cell 0 rfl
    have fb01 : w88.cell? ⟨w.heap.size, 1, none⟩ = some (Value.int IntKind.i64 x.ver) := b0.out.cell 1 rfl
    have fb02 : w88.cell? ⟨w.heap.size, 2, none⟩ = some (Value.slice A0B x.tabs.length c0B) := b0.out.cell 2 rfl
    have fb10 : w88.cell? ⟨w.heap.size + 1, 0, none⟩ = some (Value.int IntKind.i64 u.table) := b1.out.cell 0 rfl
    have fb11 : w88.cell? ⟨w.heap.size + 1, 1, none⟩ = some (Value.bool u.had) := b1.out.cell 1 rfl
    have fb12 : w88.cell? ⟨w.heap.size + 1, 2, none⟩ = some (Value.bool u.has) := b1.out.cell 2 rfl
    have fb13 : w88.cell? ⟨w.heap.size + 1, 3, none⟩ = some (Value.int IntKind.i64 u.old.id) := b1.out.cell 3 rfl
    have fb14 : w88.cell? ⟨w.heap.size + 1, 4, none⟩ = some (Value.slice A1 u.old.cells.length c1) := b1.out.cell 4 rfl
    have fb15 : w88.cell? ⟨w.heap.size + 1, 5, none⟩ = some (Value.int IntKind.i64 u.new.id) := b1.out.cell 5 rfl
    have fb16 : w88.cell? ⟨w.heap.size + 1, 6, none⟩ = some (Value.slice A1B u.new.cells.length c1B) := b1.out.cell 6 rfl
    have fBw00 : w88.cell? ⟨p, 0, none⟩ = some (Value.slice Aw0 y.cols.length cw0) := Bw0.out.cell 0 rfl
    have fBw01 : w88.cell? ⟨p, 1, none⟩ = some (Value.int IntKind.i64 y.ver) := Bw0.out.cell 1 rfl
    have fBw02 : w88.cell? ⟨p, 2, none⟩ = some (Value.slice Aw0B y.tabs.length cw0B) := Bw0.out.cell 2 rfl
    have fBx00 : w88.cell? ⟨w52.heap.size, 0, none⟩ = some (Value.slice Ax0 x.cols.length cx0) := Bx0.out.cell 0 rfl
    have fBx01 : w88.cell? ⟨w52.heap.size, 1, none⟩ = some (Value.int IntKind.i64 x.ver) := Bx0.out.cell 1 rfl
    have fBx02 : w88.cell? ⟨w52.heap.size, 2, none⟩ = some (Value.slice Ax0B x.tabs.length cx0B) := Bx0.out.cell 2 rfl
    have fBx10 : w88.cell? ⟨w54.heap.size, 0, none⟩ = some (Value.int IntKind.i64 u.table) := Bx1.out.cell 0 rfl
    have fBx11 : w88.cell? ⟨w54.heap.size, 1, none⟩ = some (Value.bool u.had) := Bx1.out.cell 1 rfl
    have fBx12 : w88.cell? ⟨w54.heap.size, 2, none⟩ = some (Value.bool u.has) := Bx1.out.cell 2 rfl
    have fBx13 : w88.cell? ⟨w54.heap.size, 3, none⟩ = some (Value.int IntKind.i64 u.old.id) := Bx1.out.cell 3 rfl
    have fBx14 : w88.cell? ⟨w54.heap.size, 4, none⟩ = some (Value.slice Ax1 u.old.cells.length cx1) := Bx1.out.cell 4 rfl
    have fBx15 : w88.cell? ⟨w54.heap.size, 5, none⟩ = some (Value.int IntKind.i64 u.new.id) := Bx1.out.cell 5 rfl
    have fBx16 : w88.cell? ⟨w54.heap.size, 6, none⟩ = some (Value.slice Ax1B u.new.cells.length cx1B) := Bx1.out.cell 6 rfl
    have fBg00 : w88.cell? ⟨w56.heap.size, 0, none⟩ = some (Value.slice Ag0 y.cols.length cg0) := Bg0.out.cell 0 rfl
    have fBg01 : w88.cell? ⟨w56.heap.size, 1, none⟩ = some (Value.int IntKind.i64 y.ver) := Bg0.out.cell 1 rfl
    have fBg02 : w88.cell? ⟨w56.heap.size, 2, none⟩ = some (Value.slice Ag0B y.tabs.length cg0B) := Bg0.out.cell 2 rfl
    have fBh00 : w88.cell? ⟨W77.heap.size, 0, none⟩ = some (Value.slice Ah0 y.cols.length ch0) := Bh0.out.cell 0 rfl
    have fBh01 : w88.cell? ⟨W77.heap.size, 1, none⟩ = some (Value.int IntKind.i64 y.ver) := Bh0.out.cell 1 rfl
    have fBh02 : w88.cell? ⟨W77.heap.size, 2, none⟩ = some (Value.slice Ah0B y.tabs.length ch0B) := Bh0.out.cell 2 rfl
    go_wp2_with fail
    clear fb00 fb01 fb02 fb10 fb11 fb12 fb13 fb14 fb15 fb16 fBw00 fBw01 fBw02 fBx00 fBx01 fBx02 fBx10 fBx11 fBx12 fBx13 fBx14 fBx15 fBx16 fBg00 fBg01 fBg02 fBh00 fBh01 fBh02
    go_ret
    exact ⟨rfl, hB.out⟩
end Go.Proofs.Ytnpogfhfjofbmaa.X
