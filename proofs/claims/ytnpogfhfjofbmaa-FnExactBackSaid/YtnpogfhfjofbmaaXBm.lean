/- What is proved here: the contract of spec.Back. Conditions: none. -/
import Derived.Test.YtnpogfhfjofbmaaXBl
namespace Go.Proofs.Ytnpogfhfjofbmaa.X
open Go.RowKit Go.Sort
set_option linter.unusedVariables false
set_option linter.unusedSimpArgs false
open Ty
set_option maxHeartbeats 16000000 in
set_option maxRecDepth 100000 in
theorem spec_Back (x : Store) (cs : List Value) (y : Change) (cs1 : List Value) (w : World) (hk : tStore.K w x cs) (hk1 : tChange.K w y cs1) (hl : bulkStore x ≤ 2000000) (hlr : bulkChange y ≤ 2000000) :
    Calls Try.prog 13 #[.agg cs.toArray, .agg cs1.toArray] w fun e w' => ∃ cs', e = .returned (.tuple #[.agg cs'.toArray, .bool (backB x y)]) ∧ tStore.O w' (fun k => w.heap.size ≤ k) (backV x y) cs' ∧ Below w.heap.size w w' := by
  obtain ⟨A1, c1, A2, c2, rfl, ⟨hc1, hr1⟩, hc2, hr2⟩ := tStore_K.1 hk
  obtain ⟨A3, c3, A4, c4, rfl, ⟨hc3, hr3⟩, hc4, hr4⟩ := tChange_K.1 hk1
  have HK := Hd.mk hk
  have HY := Hd.mk (tChange_K.2 ⟨A4, c4, A3, c3, rfl, ⟨hc4, hr4⟩, hc3, hr3⟩ : tChange.K w (chBack y) [.int .i64 y.table, .bool y.has, .bool y.had, .int .i64 y.new.id, .slice A4 y.new.cells.length c4, .int .i64 y.old.id, .slice A3 y.old.cells.length c3])
  clear hr1 hr2 hr3 hr4 hk hk1
  have HL := Hd.mk hl
  have HLR := Hd.mk (show bulkChange (chBack y) ≤ 2000000 by simp only [bulkChange, chBack] at hlr ⊢; omega)
  clear hl hlr
  have hB := Hd.mk (Below.refl w.heap.size w)
  go_enter Try.func13, Try.ntmps13
  go_wp2_with fail
  apply calls_gen; intro W1 hW
  have hz_ : w.heap.size + 3 ≤ W1.heap.size := by rw [hW]; simp
  have hE : Below w.heap.size w W1 := by rw [hW]; (repeat (first | with_reducible refine below_alloc ?_ _ | with_reducible refine below_drew ?_)); exact Below.refl _ _
  have hB := Hd.mk (below_then hB.out hE)
  have b0 := Hd.mk (show Blk W1 (w.heap.size) #[Value.slice A1 x.cols.length c1, Value.int IntKind.i64 x.ver, Value.slice A2 x.tabs.length c2] 37 by rw [hW]; first | exact (((Blk.new _ _ _).alloc _).alloc _) | (simpa using (((Blk.new _ _ _).alloc _).alloc _)))
  have b1 := Hd.mk (show Blk W1 (w.heap.size + 1) #[Value.int IntKind.i64 y.table, Value.bool y.had, Value.bool y.has, Value.int IntKind.i64 y.old.id, Value.slice A3 y.old.cells.length c3, Value.int IntKind.i64 y.new.id, Value.slice A4 y.new.cells.length c4] 43 by rw [hW]; first | exact ((Blk.new1 _ _ _ _).alloc _) | (simpa using ((Blk.new1 _ _ _ _).alloc _)))
  have b2 := Hd.mk (show Blk W1 (w.heap.size + 1 + 1) #[Value.slice none 0 0, Value.int IntKind.i64 0, Value.slice none 0 0] 37 by rw [hW]; first | exact (Blk.new2 _ _ _ _ _) | (simpa using (Blk.new2 _ _ _ _ _)))
  clear hW hE
  have z1 := Hd.mk hz_; clear hz_
  refine (spec_StoreOk x _ _ (tStore.K_below hB.out HK.out)).mono ?_
  rintro e w2 ⟨rfl, hX⟩
  have b0 := Hd.mk (b0.out.below hX)
  have b1 := Hd.mk (b1.out.below hX)
  have b2 := Hd.mk (b2.out.below hX)
  have hB := Hd.mk (below_then hB.out hX)
  have hz_ := hX.size
  clear hX
  have z2 := Hd.mk hz_; clear hz_
  cases hb : storeOk x
  · obtain ⟨hn_, hf_⟩ := back_no (y := y) hb
    have HNB := Hd.mk hn_; have HF := Hd.mk hf_; clear hn_ hf_
    have fb0_0 : w2.cell? ⟨w.heap.size, 0, none⟩ = some (Value.slice A1 x.cols.length c1) := b0.out.cell 0 rfl
    have fb0_1 : w2.cell? ⟨w.heap.size, 1, none⟩ = some (Value.int IntKind.i64 x.ver) := b0.out.cell 1 rfl
    have fb0_2 : w2.cell? ⟨w.heap.size, 2, none⟩ = some (Value.slice A2 x.tabs.length c2) := b0.out.cell 2 rfl
    have fb0_z := b0.out.frozen
    have fb1_0 : w2.cell? ⟨w.heap.size + 1, 0, none⟩ = some (Value.int IntKind.i64 y.table) := b1.out.cell 0 rfl
    have fb1_1 : w2.cell? ⟨w.heap.size + 1, 1, none⟩ = some (Value.bool y.had) := b1.out.cell 1 rfl
    have fb1_2 : w2.cell? ⟨w.heap.size + 1, 2, none⟩ = some (Value.bool y.has) := b1.out.cell 2 rfl
    have fb1_3 : w2.cell? ⟨w.heap.size + 1, 3, none⟩ = some (Value.int IntKind.i64 y.old.id) := b1.out.cell 3 rfl
    have fb1_4 : w2.cell? ⟨w.heap.size + 1, 4, none⟩ = some (Value.slice A3 y.old.cells.length c3) := b1.out.cell 4 rfl
    have fb1_5 : w2.cell? ⟨w.heap.size + 1, 5, none⟩ = some (Value.int IntKind.i64 y.new.id) := b1.out.cell 5 rfl
    have fb1_6 : w2.cell? ⟨w.heap.size + 1, 6, none⟩ = some (Value.slice A4 y.new.cells.length c4) := b1.out.cell 6 rfl
    have fb1_z := b1.out.frozen
    have fb2_0 : w2.cell? ⟨w.heap.size + 1 + 1, 0, none⟩ = some (Value.slice none 0 0) := b2.out.cell 0 rfl
    have fb2_1 : w2.cell? ⟨w.heap.size + 1 + 1, 1, none⟩ = some (Value.int IntKind.i64 0) := b2.out.cell 1 rfl
    have fb2_2 : w2.cell? ⟨w.heap.size + 1 + 1, 2, none⟩ = some (Value.slice none 0 0) := b2.out.cell 2 rfl
    have fb2_z := b2.out.frozen
    go_wp2_with fail
    refine bodyPost_retW (v := .tuple #[.agg #[Value.slice none 0 0, Value.int IntKind.i64 0, Value.slice none 0 0], .bool false]) (by simp [results, Try.results13, go_sem, fb0_0, fb0_1, fb0_2, fb0_z, fb1_0, fb1_1, fb1_2, fb1_3, fb1_4, fb1_5, fb1_6, fb1_z, fb2_0, fb2_1, fb2_2, fb2_z]) rfl ?_
    intro W hW
    clear fb0_0 fb0_1 fb0_2 fb0_z fb1_0 fb1_1 fb1_2 fb1_3 fb1_4 fb1_5 fb1_6 fb1_z fb2_0 fb2_1 fb2_2 fb2_z
    have hz_ : w2.heap.size ≤ W.heap.size := by rw [hW]; simp
    have eF : Fr w2 W (fun k => k = w.heap.size + 1 + 1 ∨ w2.heap.size ≤ k) := by rw [hW]; (repeat (first | with_reducible refine Fr.setCell ?_ _ (fun _ => by simp <;> omega) _ | with_reducible refine Fr.alloc ?_ _ | with_reducible refine Fr.drew ?_)); exact Fr.refl _ _
    have z1_ := z1.out; have z2_ := z2.out
    have hB := Hd.mk (((Fr.of_below hB.out (fun k => k = w.heap.size + 1 + 1 ∨ w2.heap.size ≤ k)).then_ eF (fun k hk _ => hk)).below (fun k hk => by have := hB.out.size; omega))
    have b0 := Hd.mk (b0.out.fr eF (fun h => by have hlt_ := b0.out.lt; (try simp only at h); omega))
    have b1 := Hd.mk (b1.out.fr eF (fun h => by have hlt_ := b1.out.lt; (try simp only at h); omega))
    have b2 := Hd.mk (show Blk W (w.heap.size + 1 + 1) #[Value.slice none 0 0, Value.int IntKind.i64 0, Value.slice none 0 0] 37 by rw [hW]; exact (Blk.all b2.out [Value.slice none 0 0, Value.int IntKind.i64 0, Value.slice none 0 0] rfl))
    clear hW eF
    have z3 := Hd.mk hz_; clear hz_
    exact ⟨_, by rw [HNB.out], by rw [HF.out]; exact ZS _ _, hB.out⟩
  · have HOK := Hd.mk hb; clear hb
    have fb0_0 : w2.cell? ⟨w.heap.size, 0, none⟩ = some (Value.slice A1 x.cols.length c1) := b0.out.cell 0 rfl
    have fb0_1 : w2.cell? ⟨w.heap.size, 1, none⟩ = some (Value.int IntKind.i64 x.ver) := b0.out.cell 1 rfl
    have fb0_2 : w2.cell? ⟨w.heap.size, 2, none⟩ = some (Value.slice A2 x.tabs.length c2) := b0.out.cell 2 rfl
    have fb0_z := b0.out.frozen
    have fb1_0 : w2.cell? ⟨w.heap.size + 1, 0, none⟩ = some (Value.int IntKind.i64 y.table) := b1.out.cell 0 rfl
    have fb1_1 : w2.cell? ⟨w.heap.size + 1, 1, none⟩ = some (Value.bool y.had) := b1.out.cell 1 rfl
    have fb1_2 : w2.cell? ⟨w.heap.size + 1, 2, none⟩ = some (Value.bool y.has) := b1.out.cell 2 rfl
    have fb1_3 : w2.cell? ⟨w.heap.size + 1, 3, none⟩ = some (Value.int IntKind.i64 y.old.id) := b1.out.cell 3 rfl
    have fb1_4 : w2.cell? ⟨w.heap.size + 1, 4, none⟩ = some (Value.slice A3 y.old.cells.length c3) := b1.out.cell 4 rfl
    have fb1_5 : w2.cell? ⟨w.heap.size + 1, 5, none⟩ = some (Value.int IntKind.i64 y.new.id) := b1.out.cell 5 rfl
    have fb1_6 : w2.cell? ⟨w.heap.size + 1, 6, none⟩ = some (Value.slice A4 y.new.cells.length c4) := b1.out.cell 6 rfl
    have fb1_z := b1.out.frozen
    have fb2_0 : w2.cell? ⟨w.heap.size + 1 + 1, 0, none⟩ = some (Value.slice none 0 0) := b2.out.cell 0 rfl
    have fb2_1 : w2.cell? ⟨w.heap.size + 1 + 1, 1, none⟩ = some (Value.int IntKind.i64 0) := b2.out.cell 1 rfl
    have fb2_2 : w2.cell? ⟨w.heap.size + 1 + 1, 2, none⟩ = some (Value.slice none 0 0) := b2.out.cell 2 rfl
    have fb2_z := b2.out.frozen
    go_wp2_with fail
    clear fb0_0 fb0_1 fb0_2 fb0_z fb1_0 fb1_1 fb1_2 fb1_3 fb1_4 fb1_5 fb1_6 fb1_z fb2_0 fb2_1 fb2_2 fb2_z
    obtain ⟨RR, hRR⟩ : ∃ RR : Act → World → Prop, RR = (fun a w' => ∃ (p : Nat) (SV : Nat → Prop) (D1 : Option Addr) (d1 : Nat) (D2 : Option Addr) (d2 : Nat) (u12 u13 u14 u15 u16 u17 u18 u19 u20 u21 u22 u23 u24 u25 u26 u27 u28 : Value), a = ⟨#[.agg #[Value.slice A1 x.cols.length c1, Value.int IntKind.i64 x.ver, Value.slice A2 x.tabs.length c2], .agg #[Value.int IntKind.i64 y.table, Value.bool y.had, Value.bool y.has, Value.int IntKind.i64 y.old.id, Value.slice A3 y.old.cells.length c3, Value.int IntKind.i64 y.new.id, Value.slice A4 y.new.cells.length c4], .pointer (some ⟨w.heap.size, 0, none⟩), .pointer (some ⟨w.heap.size + 1, 0, none⟩), .pointer (some ⟨w.heap.size + 1 + 1, 0, none⟩), .bool false, .pointer (some ⟨p, 0, none⟩), .bool (turnB x (chBack y)), .agg #[Value.slice A1 x.cols.length c1, Value.int IntKind.i64 x.ver, Value.slice A2 x.tabs.length c2], .bool true, .bool false, undef, u12, u13, u14, u15, u16, u17, u18, u19, u20, u21, u22, u23, u24, u25, u26, u27, u28, undef, undef, undef, undef, undef, undef, undef, undef, undef, undef], []⟩ ∧ Hd (Blk w' p #[.slice D1 (turnV x (chBack y)).cols.length d1, .int .i64 (turnV x (chBack y)).ver, .slice D2 (turnV x (chBack y)).tabs.length d2] 37) ∧ Hd (Blk w' w.heap.size #[Value.slice A1 x.cols.length c1, Value.int IntKind.i64 x.ver, Value.slice A2 x.tabs.length c2] 37) ∧ Hd (Blk w' (w.heap.size + 1) #[Value.int IntKind.i64 y.table, Value.bool y.had, Value.bool y.has, Value.int IntKind.i64 y.old.id, Value.slice A3 y.old.cells.length c3, Value.int IntKind.i64 y.new.id, Value.slice A4 y.new.cells.length c4] 43) ∧ Hd (Blk w' (w.heap.size + 1 + 1) #[Value.slice none 0 0, Value.int IntKind.i64 0, Value.slice none 0 0] 37) ∧ Hd (w.heap.size + 3 ≤ p) ∧ Hd (∀ k, SV k → w.heap.size + 3 ≤ k ∧ k ≠ p) ∧ Hd (tStore.O w' SV (turnV x (chBack y)) [.slice D1 (turnV x (chBack y)).cols.length d1, .int .i64 (turnV x (chBack y)).ver, .slice D2 (turnV x (chBack y)).tabs.length d2]) ∧ Hd (Below w.heap.size w w')) := ⟨_, rfl⟩
    have HRR := Hd.mk hRR; clear hRR
    refine region_to RR ?_ ?_
    case refine_1 =>
      have fb0_0 : w2.cell? ⟨w.heap.size, 0, none⟩ = some (Value.slice A1 x.cols.length c1) := b0.out.cell 0 rfl
      have fb0_1 : w2.cell? ⟨w.heap.size, 1, none⟩ = some (Value.int IntKind.i64 x.ver) := b0.out.cell 1 rfl
      have fb0_2 : w2.cell? ⟨w.heap.size, 2, none⟩ = some (Value.slice A2 x.tabs.length c2) := b0.out.cell 2 rfl
      have fb0_z := b0.out.frozen
      have fb1_0 : w2.cell? ⟨w.heap.size + 1, 0, none⟩ = some (Value.int IntKind.i64 y.table) := b1.out.cell 0 rfl
      have fb1_1 : w2.cell? ⟨w.heap.size + 1, 1, none⟩ = some (Value.bool y.had) := b1.out.cell 1 rfl
      have fb1_2 : w2.cell? ⟨w.heap.size + 1, 2, none⟩ = some (Value.bool y.has) := b1.out.cell 2 rfl
      have fb1_3 : w2.cell? ⟨w.heap.size + 1, 3, none⟩ = some (Value.int IntKind.i64 y.old.id) := b1.out.cell 3 rfl
      have fb1_4 : w2.cell? ⟨w.heap.size + 1, 4, none⟩ = some (Value.slice A3 y.old.cells.length c3) := b1.out.cell 4 rfl
      have fb1_5 : w2.cell? ⟨w.heap.size + 1, 5, none⟩ = some (Value.int IntKind.i64 y.new.id) := b1.out.cell 5 rfl
      have fb1_6 : w2.cell? ⟨w.heap.size + 1, 6, none⟩ = some (Value.slice A4 y.new.cells.length c4) := b1.out.cell 6 rfl
      have fb1_z := b1.out.frozen
      have fb2_0 : w2.cell? ⟨w.heap.size + 1 + 1, 0, none⟩ = some (Value.slice none 0 0) := b2.out.cell 0 rfl
      have fb2_1 : w2.cell? ⟨w.heap.size + 1 + 1, 1, none⟩ = some (Value.int IntKind.i64 0) := b2.out.cell 1 rfl
      have fb2_2 : w2.cell? ⟨w.heap.size + 1 + 1, 2, none⟩ = some (Value.slice none 0 0) := b2.out.cell 2 rfl
      have fb2_z := b2.out.frozen
      have rfb0_0 := cell_regrown fb0_0
      have rfb0_1 := cell_regrown fb0_1
      have rfb0_2 := cell_regrown fb0_2
      have rfb1_0 := cell_regrown fb1_0
      have rfb1_1 := cell_regrown fb1_1
      have rfb1_2 := cell_regrown fb1_2
      have rfb1_3 := cell_regrown fb1_3
      have rfb1_4 := cell_regrown fb1_4
      have rfb1_5 := cell_regrown fb1_5
      have rfb1_6 := cell_regrown fb1_6
      have rfb2_0 := cell_regrown fb2_0
      have rfb2_1 := cell_regrown fb2_1
      have rfb2_2 := cell_regrown fb2_2
      refine region_mixT (.q 0 (.q 2 (.q 3 (.q 4 (.q 5 (.q 6 (.q 7 (.q 8 (.q 9 (.q 10 (.q 11 (.q 12 (.br 1 17 (.br 13 17 (.p 14 (.p 15 (.p 16 (.b 17 .fin)))) (.b 13 (.p 14 (.p 15 (.p 16 .fin))))) (.b 1 (.b 13 (.p 14 (.p 15 (.p 16 .fin)))))))))))))))))) [18, 19] (by kernel_rfl) (by kernel_rfl) (fun _ _ _ _ _ h => h) ?_
      refine genT ?_
      intro W3 hW
      have hS := Hd.mk (show Below w2.heap.size w2 W3 by rw [hW]; exact below_drew (Below.refl _ _))
      have hz_ : w2.heap.size ≤ W3.heap.size := by rw [hW]; simp
      have hE : Below w2.heap.size w2 W3 := by rw [hW]; (repeat (first | with_reducible refine below_alloc ?_ _ | with_reducible refine below_drew ?_)); exact Below.refl _ _
      have hB := Hd.mk (below_then hB.out hE)
      have b0 := Hd.mk (b0.out.below hE)
      have b1 := Hd.mk (b1.out.below hE)
      have b2 := Hd.mk (b2.out.below hE)
      clear hW hE
      have z3 := Hd.mk hz_; clear hz_
      refine mixT_q rfl ?_
      go_big_quiet_want; go_big_quiet_op; go_big_quiet_on; refine wpQuiet_nil ?_
      refine mixT_q rfl ?_
      go_big_quiet_want; go_big_quiet_op; go_big_quiet_on; refine wpQuiet_nil ?_
      refine mixT_q rfl ?_
      go_big_quiet_want; go_big_quiet_op; go_big_quiet_on; refine wpQuiet_nil ?_
      refine mixT_q rfl ?_
      go_big_quiet_want; go_big_quiet_op; go_big_quiet_on; refine wpQuiet_nil ?_
      refine mixT_q rfl ?_
      go_big_quiet_want; go_big_quiet_op; go_big_quiet_on; refine wpQuiet_nil ?_
      refine mixT_q rfl ?_
      go_big_quiet_want; go_big_quiet_op; go_big_quiet_on; refine wpQuiet_nil ?_
      refine mixT_q rfl ?_
      go_big_quiet_want; go_big_quiet_op; go_big_quiet_on; refine wpQuiet_nil ?_
      refine mixT_q rfl ?_
      go_big_quiet_want; go_big_quiet_op; go_big_quiet_on; refine wpQuiet_nil ?_
      refine mixT_q rfl ?_
      go_big_quiet_want; go_big_quiet_op; go_big_quiet_on; refine wpQuiet_nil ?_
      refine mixT_q rfl ?_
      go_big_quiet_want; go_big_quiet_op; go_big_quiet_on; refine wpQuiet_nil ?_
      refine mixT_q rfl ?_
      go_big_quiet_want; go_big_quiet_op; go_big_quiet_on; refine wpQuiet_nil ?_
      refine mixT_q rfl ?_
      go_big_quiet_want; go_big_quiet_op; go_big_quiet_on; refine wpQuiet_nil ?_
      refine ⟨?_, ?_⟩
      · refine stepM_of rfl ?_ (by rfl)
        go_wp2_with fail
        apply calls_gen; intro W4 hW
        have hz_ : W3.heap.size ≤ W4.heap.size := by rw [hW]; simp
        have hE : Below W3.heap.size W3 W4 := by rw [hW]; (repeat (first | with_reducible refine below_alloc ?_ _ | with_reducible refine below_drew ?_)); exact Below.refl _ _
        have hB := Hd.mk (below_then hB.out hE)
        replace hS := Hd.mk (below_then hS.out hE)
        have b0 := Hd.mk (b0.out.below hE)
        have b1 := Hd.mk (b1.out.below hE)
        have b2 := Hd.mk (b2.out.below hE)
        clear hW hE
        have z4 := Hd.mk hz_; clear hz_
        refine (spec_l7Copy x _ _ (tStore.K_below hB.out HK.out) (by have := HL.out; omega)).mono ?_
        rintro e w5 ⟨cs', rfl, hO, hX⟩
        have b0 := Hd.mk (b0.out.below hX)
        have b1 := Hd.mk (b1.out.below hX)
        have b2 := Hd.mk (b2.out.below hX)
        have hB := Hd.mk (below_then hB.out hX)
        replace hS := Hd.mk (below_then hS.out hX)
        have hz_ := hX.size
        clear hX
        have z5 := Hd.mk hz_; clear hz_
        replace hO := Hd.mk (show tStore.O w5 (rng W4.heap.size w5.heap.size) x _ from Ty.O_bound _ hO)
        go_wp2_with fail
        refine ⟨cls_below hS.out, ?_⟩
        refine ⟨?_, ?_⟩
        · refine stepM_of rfl ?_ (by rfl)
          go_wp2_with fail
          apply calls_gen; intro W6 hW
          have hz_ : w5.heap.size ≤ W6.heap.size := by rw [hW]; simp
          have hE : Below w5.heap.size w5 W6 := by rw [hW]; (repeat (first | with_reducible refine below_alloc ?_ _ | with_reducible refine below_drew ?_)); exact Below.refl _ _
          have hB := Hd.mk (below_then hB.out hE)
          replace hS := Hd.mk (below_then hS.out hE)
          have b0 := Hd.mk (b0.out.below hE)
          have b1 := Hd.mk (b1.out.below hE)
          have b2 := Hd.mk (b2.out.below hE)
          have hO := Hd.mk (Ty.O_below hO.out hE)
          clear hW hE
          have z6 := Hd.mk hz_; clear hz_
          refine (spec_l7Turn (S := rng W4.heap.size w5.heap.size) x _ (chBack y) _ _ (fun k hk => by have h2 := hk.2; have z1_ := z1.out; have z2_ := z2.out; have z3_ := z3.out; have z4_ := z4.out; have z5_ := z5.out; have z6_ := z6.out; omega) hO.out (tChange.K_below hB.out HY.out) HL.out HLR.out).mono ?_
          rintro e w7 ⟨cs2, rfl, hO2, hX⟩
          obtain ⟨D1, d1, D2, d2, SN, ST, rfl, hd1, hd2, hN, hT, hSN, hST, hNT⟩ := store_open hO2
          have hO3 := Hd.mk (Ty.O_bound _ hO2); clear hO2 hN hT hSN hST hNT hO
          have hRS := hB.out.size
          have z1_ := z1.out; have z2_ := z2.out; have z3_ := z3.out; have z4_ := z4.out; have z5_ := z5.out; have z6_ := z6.out
          have hSz := hB.out.size
          have b0 := Hd.mk (b0.out.fr hX (fun h => by have hlt_ := b0.out.lt; skip; (try simp only [rng] at h); (try simp only at h); omega))
          have b1 := Hd.mk (b1.out.fr hX (fun h => by have hlt_ := b1.out.lt; skip; (try simp only [rng] at h); (try simp only at h); omega))
          have b2 := Hd.mk (b2.out.fr hX (fun h => by have hlt_ := b2.out.lt; skip; (try simp only [rng] at h); (try simp only at h); omega))
          replace hS := Hd.mk (below_frS hS.out hX (fun k h => by (try simp only [rng] at h); (try simp only at h); omega))
          have hB := Hd.mk (below_frS hB.out hX (fun k h => by skip; (try simp only [rng] at h); (try simp only at h); omega))
          have hz_ := hX.size
          clear hX
          have z7 := Hd.mk hz_; clear hz_
          have hSV := Hd.mk (show ∀ k, ((rng W4.heap.size w5.heap.size k ∨ W6.heap.size ≤ k) ∧ k < w7.heap.size) → (W4.heap.size ≤ k ∧ k < w5.heap.size) ∨ (W6.heap.size ≤ k ∧ k < w7.heap.size) from fun k hk => by have h2 := hk.2; rcases hk.1 with h | h; exact .inl h; exact .inr ⟨h, h2⟩)
          go_wp2_with fail
          refine ⟨cls_below hS.out, ?_⟩
          refine mixT_p rfl ?_
          go_big_quiet_want; go_big_quiet_op; go_big_quiet_on; refine wpQuiet_nil ?_
          refine mixT_p rfl ?_
          go_big_quiet_want; go_big_quiet_op; go_big_quiet_on; refine wpQuiet_nil ?_
          refine mixT_p rfl ?_
          go_big_quiet_want; go_big_quiet_op; go_big_quiet_on; refine wpQuiet_nil ?_
          refine mixT_b rfl ?_ (by rfl)
          go_wp2_with fail
          refine ⟨cls_below (below_alloc hS.out _), ?_⟩
          refine genT ?_; intro W8 hW
          have hz_ : w7.heap.size + 1 ≤ W8.heap.size := by rw [hW]; simp
          have hE : Below w7.heap.size w7 W8 := by rw [hW]; (repeat (first | with_reducible refine below_alloc ?_ _ | with_reducible refine below_drew ?_)); exact Below.refl _ _
          have hB := Hd.mk (below_then hB.out hE)
          replace hS := Hd.mk (below_then hS.out hE)
          have b0 := Hd.mk (b0.out.below hE)
          have b1 := Hd.mk (b1.out.below hE)
          have b2 := Hd.mk (b2.out.below hE)
          have b3 := Hd.mk (show Blk W8 (w7.heap.size) #[Value.slice none 0 0, Value.int IntKind.i64 0, Value.slice none 0 0] 37 by rw [hW]; first | exact (Blk.new _ _ _) | (simpa using (Blk.new _ _ _)))
          have hO3 := Hd.mk (Ty.O_below hO3.out hE)
          clear hW hE
          have z8 := Hd.mk hz_; clear hz_
          refine mixT_fin ?_
          clear hS
          clear rfb0_0 rfb0_1 rfb0_2 rfb1_0 rfb1_1 rfb1_2 rfb1_3 rfb1_4 rfb1_5 rfb1_6 rfb2_0 rfb2_1 rfb2_2
          clear fb0_0 fb0_1 fb0_2 fb0_z fb1_0 fb1_1 fb1_2 fb1_3 fb1_4 fb1_5 fb1_6 fb1_z fb2_0 fb2_1 fb2_2 fb2_z
          have fb0_0 : W8.cell? ⟨w.heap.size, 0, none⟩ = some (Value.slice A1 x.cols.length c1) := b0.out.cell 0 rfl
          have fb0_1 : W8.cell? ⟨w.heap.size, 1, none⟩ = some (Value.int IntKind.i64 x.ver) := b0.out.cell 1 rfl
          have fb0_2 : W8.cell? ⟨w.heap.size, 2, none⟩ = some (Value.slice A2 x.tabs.length c2) := b0.out.cell 2 rfl
          have fb0_z := b0.out.frozen
          have fb1_0 : W8.cell? ⟨w.heap.size + 1, 0, none⟩ = some (Value.int IntKind.i64 y.table) := b1.out.cell 0 rfl
          have fb1_1 : W8.cell? ⟨w.heap.size + 1, 1, none⟩ = some (Value.bool y.had) := b1.out.cell 1 rfl
          have fb1_2 : W8.cell? ⟨w.heap.size + 1, 2, none⟩ = some (Value.bool y.has) := b1.out.cell 2 rfl
          have fb1_3 : W8.cell? ⟨w.heap.size + 1, 3, none⟩ = some (Value.int IntKind.i64 y.old.id) := b1.out.cell 3 rfl
          have fb1_4 : W8.cell? ⟨w.heap.size + 1, 4, none⟩ = some (Value.slice A3 y.old.cells.length c3) := b1.out.cell 4 rfl
          have fb1_5 : W8.cell? ⟨w.heap.size + 1, 5, none⟩ = some (Value.int IntKind.i64 y.new.id) := b1.out.cell 5 rfl
          have fb1_6 : W8.cell? ⟨w.heap.size + 1, 6, none⟩ = some (Value.slice A4 y.new.cells.length c4) := b1.out.cell 6 rfl
          have fb1_z := b1.out.frozen
          have fb2_0 : W8.cell? ⟨w.heap.size + 1 + 1, 0, none⟩ = some (Value.slice none 0 0) := b2.out.cell 0 rfl
          have fb2_1 : W8.cell? ⟨w.heap.size + 1 + 1, 1, none⟩ = some (Value.int IntKind.i64 0) := b2.out.cell 1 rfl
          have fb2_2 : W8.cell? ⟨w.heap.size + 1 + 1, 2, none⟩ = some (Value.slice none 0 0) := b2.out.cell 2 rfl
          have fb2_z := b2.out.frozen
          have fb3_0 : W8.cell? ⟨w7.heap.size, 0, none⟩ = some (Value.slice none 0 0) := b3.out.cell 0 rfl
          have fb3_1 : W8.cell? ⟨w7.heap.size, 1, none⟩ = some (Value.int IntKind.i64 0) := b3.out.cell 1 rfl
          have fb3_2 : W8.cell? ⟨w7.heap.size, 2, none⟩ = some (Value.slice none 0 0) := b3.out.cell 2 rfl
          have fb3_z := b3.out.frozen
          refine tail_b rfl ?_ (by rfl)
          go_wp2_with fail
          refine mixQ_n ?_
          refine tail_b rfl ?_ (by rfl)
          go_wp2_with fail
          refine mixQ_n ?_
          refine tail_nil ?_
          refine region_gen ?_; intro W hW
          clear fb0_0 fb0_1 fb0_2 fb0_z fb1_0 fb1_1 fb1_2 fb1_3 fb1_4 fb1_5 fb1_6 fb1_z fb2_0 fb2_1 fb2_2 fb2_z fb3_0 fb3_1 fb3_2 fb3_z
          have hz_ : W8.heap.size ≤ W.heap.size := by rw [hW]; simp
          have eF : Fr W8 W (fun k => k = w7.heap.size ∨ W8.heap.size ≤ k) := by rw [hW]; (repeat (first | with_reducible refine Fr.setCell ?_ _ (fun _ => by simp <;> omega) _ | with_reducible refine Fr.alloc ?_ _ | with_reducible refine Fr.drew ?_)); exact Fr.refl _ _
          have z1_ := z1.out; have z2_ := z2.out; have z3_ := z3.out; have z4_ := z4.out; have z5_ := z5.out; have z6_ := z6.out; have z7_ := z7.out; have z8_ := z8.out
          have hB := Hd.mk (((Fr.of_below hB.out (fun k => k = w7.heap.size ∨ W8.heap.size ≤ k)).then_ eF (fun k hk _ => hk)).below (fun k hk => by have := hB.out.size; omega))
          have b0 := Hd.mk (b0.out.fr eF (fun h => by have hlt_ := b0.out.lt; (try simp only at h); omega))
          have b1 := Hd.mk (b1.out.fr eF (fun h => by have hlt_ := b1.out.lt; (try simp only at h); omega))
          have b2 := Hd.mk (b2.out.fr eF (fun h => by have hlt_ := b2.out.lt; (try simp only at h); omega))
          have b3 := Hd.mk (show Blk W (w7.heap.size) #[Value.slice D1 (turnV x (chBack y)).cols.length d1, Value.int IntKind.i64 (turnV x (chBack y)).ver, Value.slice D2 (turnV x (chBack y)).tabs.length d2] 37 by rw [hW]; exact (Blk.all b3.out [Value.slice D1 (turnV x (chBack y)).cols.length d1, Value.int IntKind.i64 (turnV x (chBack y)).ver, Value.slice D2 (turnV x (chBack y)).tabs.length d2] rfl))
          have hO3 := Hd.mk (Ty.O_fr hO3.out eF (fun k hk hl h => by have q_ := hSV.out k hk; (try simp only [rng] at hk); (try simp only at hk); (try simp only at h); omega))
          clear hW eF
          have z9 := Hd.mk hz_; clear hz_
          have hBs := hB.out.size
          have z1_ := z1.out; have z2_ := z2.out; have z3_ := z3.out; have z4_ := z4.out; have z5_ := z5.out; have z6_ := z6.out; have z7_ := z7.out; have z8_ := z8.out; have z9_ := z9.out
          rw [HRR.out]
          exact ⟨w7.heap.size, _, D1, d1, D2, d2, _, _, _, _, _, _, _, _, _, _, _, _, _, _, _, _, _, rfl, b3, b0, b1, b2, ⟨by omega⟩, ⟨fun k hk => by have q_ := hSV.out k hk; refine ⟨by omega, by omega⟩⟩, hO3, hB⟩
        · refine stepM_of rfl ?_ (by rfl)
          go_wp2_with fail
          refine ⟨cls_below (below_alloc hS.out _), ?_⟩
          refine genT ?_; intro W6 hW
          have hz_ : w5.heap.size + 1 ≤ W6.heap.size := by rw [hW]; simp
          have hE : Below w5.heap.size w5 W6 := by rw [hW]; (repeat (first | with_reducible refine below_alloc ?_ _ | with_reducible refine below_drew ?_)); exact Below.refl _ _
          have hB := Hd.mk (below_then hB.out hE)
          replace hS := Hd.mk (below_then hS.out hE)
          have b0 := Hd.mk (b0.out.below hE)
          have b1 := Hd.mk (b1.out.below hE)
          have b2 := Hd.mk (b2.out.below hE)
          have b3 := Hd.mk (show Blk W6 (w5.heap.size) #[Value.slice none 0 0, Value.int IntKind.i64 0, Value.slice none 0 0] 37 by rw [hW]; first | exact (Blk.new _ _ _) | (simpa using (Blk.new _ _ _)))
          have hO := Hd.mk (Ty.O_below hO.out hE)
          clear hW hE
          have z6 := Hd.mk hz_; clear hz_
          refine mixT_b rfl ?_ (by rfl)
          go_wp2_with fail
          apply calls_gen; intro W7 hW
          have hz_ : W6.heap.size ≤ W7.heap.size := by rw [hW]; simp
          have hE : Below W6.heap.size W6 W7 := by rw [hW]; (repeat (first | with_reducible refine below_alloc ?_ _ | with_reducible refine below_drew ?_)); exact Below.refl _ _
          have hB := Hd.mk (below_then hB.out hE)
          replace hS := Hd.mk (below_then hS.out hE)
          have b0 := Hd.mk (b0.out.below hE)
          have b1 := Hd.mk (b1.out.below hE)
          have b2 := Hd.mk (b2.out.below hE)
          have b3 := Hd.mk (b3.out.below hE)
          have hO := Hd.mk (Ty.O_below hO.out hE)
          clear hW hE
          have z7 := Hd.mk hz_; clear hz_
          refine (spec_l7Turn (S := rng W4.heap.size w5.heap.size) x _ (chBack y) _ _ (fun k hk => by have h2 := hk.2; have z1_ := z1.out; have z2_ := z2.out; have z3_ := z3.out; have z4_ := z4.out; have z5_ := z5.out; have z6_ := z6.out; have z7_ := z7.out; omega) hO.out (tChange.K_below hB.out HY.out) HL.out HLR.out).mono ?_
          rintro e w8 ⟨cs2, rfl, hO2, hX⟩
          obtain ⟨D1, d1, D2, d2, SN, ST, rfl, hd1, hd2, hN, hT, hSN, hST, hNT⟩ := store_open hO2
          have hO3 := Hd.mk (Ty.O_bound _ hO2); clear hO2 hN hT hSN hST hNT hO
          have hRS := hB.out.size
          have z1_ := z1.out; have z2_ := z2.out; have z3_ := z3.out; have z4_ := z4.out; have z5_ := z5.out; have z6_ := z6.out; have z7_ := z7.out
          have hSz := hB.out.size
          have b0 := Hd.mk (b0.out.fr hX (fun h => by have hlt_ := b0.out.lt; skip; (try simp only [rng] at h); (try simp only at h); omega))
          have b1 := Hd.mk (b1.out.fr hX (fun h => by have hlt_ := b1.out.lt; skip; (try simp only [rng] at h); (try simp only at h); omega))
          have b2 := Hd.mk (b2.out.fr hX (fun h => by have hlt_ := b2.out.lt; skip; (try simp only [rng] at h); (try simp only at h); omega))
          have b3 := Hd.mk (b3.out.fr hX (fun h => by have hlt_ := b3.out.lt; skip; (try simp only [rng] at h); (try simp only at h); omega))
          replace hS := Hd.mk (below_frS hS.out hX (fun k h => by (try simp only [rng] at h); (try simp only at h); omega))
          have hB := Hd.mk (below_frS hB.out hX (fun k h => by skip; (try simp only [rng] at h); (try simp only at h); omega))
          have hz_ := hX.size
          clear hX
          have z8 := Hd.mk hz_; clear hz_
          have hSV := Hd.mk (show ∀ k, ((rng W4.heap.size w5.heap.size k ∨ W7.heap.size ≤ k) ∧ k < w8.heap.size) → (W4.heap.size ≤ k ∧ k < w5.heap.size) ∨ (W7.heap.size ≤ k ∧ k < w8.heap.size) from fun k hk => by have h2 := hk.2; rcases hk.1 with h | h; exact .inl h; exact .inr ⟨h, h2⟩)
          go_wp2_with fail
          refine ⟨cls_below hS.out, ?_⟩
          refine mixT_p rfl ?_
          go_big_quiet_want; go_big_quiet_op; go_big_quiet_on; refine wpQuiet_nil ?_
          refine mixT_p rfl ?_
          go_big_quiet_want; go_big_quiet_op; go_big_quiet_on; refine wpQuiet_nil ?_
          refine mixT_p rfl ?_
          go_big_quiet_want; go_big_quiet_op; go_big_quiet_on; refine wpQuiet_nil ?_
          refine mixT_fin ?_
          clear hS
          clear rfb0_0 rfb0_1 rfb0_2 rfb1_0 rfb1_1 rfb1_2 rfb1_3 rfb1_4 rfb1_5 rfb1_6 rfb2_0 rfb2_1 rfb2_2
          clear fb0_0 fb0_1 fb0_2 fb0_z fb1_0 fb1_1 fb1_2 fb1_3 fb1_4 fb1_5 fb1_6 fb1_z fb2_0 fb2_1 fb2_2 fb2_z
          have fb0_0 : w8.cell? ⟨w.heap.size, 0, none⟩ = some (Value.slice A1 x.cols.length c1) := b0.out.cell 0 rfl
          have fb0_1 : w8.cell? ⟨w.heap.size, 1, none⟩ = some (Value.int IntKind.i64 x.ver) := b0.out.cell 1 rfl
          have fb0_2 : w8.cell? ⟨w.heap.size, 2, none⟩ = some (Value.slice A2 x.tabs.length c2) := b0.out.cell 2 rfl
          have fb0_z := b0.out.frozen
          have fb1_0 : w8.cell? ⟨w.heap.size + 1, 0, none⟩ = some (Value.int IntKind.i64 y.table) := b1.out.cell 0 rfl
          have fb1_1 : w8.cell? ⟨w.heap.size + 1, 1, none⟩ = some (Value.bool y.had) := b1.out.cell 1 rfl
          have fb1_2 : w8.cell? ⟨w.heap.size + 1, 2, none⟩ = some (Value.bool y.has) := b1.out.cell 2 rfl
          have fb1_3 : w8.cell? ⟨w.heap.size + 1, 3, none⟩ = some (Value.int IntKind.i64 y.old.id) := b1.out.cell 3 rfl
          have fb1_4 : w8.cell? ⟨w.heap.size + 1, 4, none⟩ = some (Value.slice A3 y.old.cells.length c3) := b1.out.cell 4 rfl
          have fb1_5 : w8.cell? ⟨w.heap.size + 1, 5, none⟩ = some (Value.int IntKind.i64 y.new.id) := b1.out.cell 5 rfl
          have fb1_6 : w8.cell? ⟨w.heap.size + 1, 6, none⟩ = some (Value.slice A4 y.new.cells.length c4) := b1.out.cell 6 rfl
          have fb1_z := b1.out.frozen
          have fb2_0 : w8.cell? ⟨w.heap.size + 1 + 1, 0, none⟩ = some (Value.slice none 0 0) := b2.out.cell 0 rfl
          have fb2_1 : w8.cell? ⟨w.heap.size + 1 + 1, 1, none⟩ = some (Value.int IntKind.i64 0) := b2.out.cell 1 rfl
          have fb2_2 : w8.cell? ⟨w.heap.size + 1 + 1, 2, none⟩ = some (Value.slice none 0 0) := b2.out.cell 2 rfl
          have fb2_z := b2.out.frozen
          have fb3_0 : w8.cell? ⟨w5.heap.size, 0, none⟩ = some (Value.slice none 0 0) := b3.out.cell 0 rfl
          have fb3_1 : w8.cell? ⟨w5.heap.size, 1, none⟩ = some (Value.int IntKind.i64 0) := b3.out.cell 1 rfl
          have fb3_2 : w8.cell? ⟨w5.heap.size, 2, none⟩ = some (Value.slice none 0 0) := b3.out.cell 2 rfl
          have fb3_z := b3.out.frozen
          refine tail_b rfl ?_ (by rfl)
          go_wp2_with fail
          refine mixQ_n ?_
          refine tail_b rfl ?_ (by rfl)
          go_wp2_with fail
          refine mixQ_n ?_
          refine tail_nil ?_
          refine region_gen ?_; intro W hW
          clear fb0_0 fb0_1 fb0_2 fb0_z fb1_0 fb1_1 fb1_2 fb1_3 fb1_4 fb1_5 fb1_6 fb1_z fb2_0 fb2_1 fb2_2 fb2_z fb3_0 fb3_1 fb3_2 fb3_z
          have hz_ : w8.heap.size ≤ W.heap.size := by rw [hW]; simp
          have eF : Fr w8 W (fun k => k = w5.heap.size ∨ w8.heap.size ≤ k) := by rw [hW]; (repeat (first | with_reducible refine Fr.setCell ?_ _ (fun _ => by simp <;> omega) _ | with_reducible refine Fr.alloc ?_ _ | with_reducible refine Fr.drew ?_)); exact Fr.refl _ _
          have z1_ := z1.out; have z2_ := z2.out; have z3_ := z3.out; have z4_ := z4.out; have z5_ := z5.out; have z6_ := z6.out; have z7_ := z7.out; have z8_ := z8.out
          have hB := Hd.mk (((Fr.of_below hB.out (fun k => k = w5.heap.size ∨ w8.heap.size ≤ k)).then_ eF (fun k hk _ => hk)).below (fun k hk => by have := hB.out.size; omega))
          have b0 := Hd.mk (b0.out.fr eF (fun h => by have hlt_ := b0.out.lt; (try simp only at h); omega))
          have b1 := Hd.mk (b1.out.fr eF (fun h => by have hlt_ := b1.out.lt; (try simp only at h); omega))
          have b2 := Hd.mk (b2.out.fr eF (fun h => by have hlt_ := b2.out.lt; (try simp only at h); omega))
          have b3 := Hd.mk (show Blk W (w5.heap.size) #[Value.slice D1 (turnV x (chBack y)).cols.length d1, Value.int IntKind.i64 (turnV x (chBack y)).ver, Value.slice D2 (turnV x (chBack y)).tabs.length d2] 37 by rw [hW]; exact (Blk.all b3.out [Value.slice D1 (turnV x (chBack y)).cols.length d1, Value.int IntKind.i64 (turnV x (chBack y)).ver, Value.slice D2 (turnV x (chBack y)).tabs.length d2] rfl))
          have hO3 := Hd.mk (Ty.O_fr hO3.out eF (fun k hk hl h => by have q_ := hSV.out k hk; (try simp only [rng] at hk); (try simp only at hk); (try simp only at h); omega))
          clear hW eF
          have z9 := Hd.mk hz_; clear hz_
          have hBs := hB.out.size
          have z1_ := z1.out; have z2_ := z2.out; have z3_ := z3.out; have z4_ := z4.out; have z5_ := z5.out; have z6_ := z6.out; have z7_ := z7.out; have z8_ := z8.out; have z9_ := z9.out
          rw [HRR.out]
          exact ⟨w5.heap.size, _, D1, d1, D2, d2, _, _, _, _, _, _, _, _, _, _, _, _, _, _, _, _, _, rfl, b3, b0, b1, b2, ⟨by omega⟩, ⟨fun k hk => by have q_ := hSV.out k hk; refine ⟨by omega, by omega⟩⟩, hO3, hB⟩
      · refine stepM_of rfl ?_ (by rfl)
        go_wp2_with fail
        refine ⟨cls_below (below_alloc hS.out _), ?_⟩
        refine genT ?_; intro W4 hW
        have hz_ : W3.heap.size + 1 ≤ W4.heap.size := by rw [hW]; simp
        have hE : Below W3.heap.size W3 W4 := by rw [hW]; (repeat (first | with_reducible refine below_alloc ?_ _ | with_reducible refine below_drew ?_)); exact Below.refl _ _
        have hB := Hd.mk (below_then hB.out hE)
        replace hS := Hd.mk (below_then hS.out hE)
        have b0 := Hd.mk (b0.out.below hE)
        have b1 := Hd.mk (b1.out.below hE)
        have b2 := Hd.mk (b2.out.below hE)
        have b3 := Hd.mk (show Blk W4 (W3.heap.size) #[Value.slice none 0 0, Value.int IntKind.i64 0, Value.slice none 0 0] 37 by rw [hW]; first | exact (Blk.new _ _ _) | (simpa using (Blk.new _ _ _)))
        clear hW hE
        have z4 := Hd.mk hz_; clear hz_
        refine mixT_b rfl ?_ (by rfl)
        go_wp2_with fail
        apply calls_gen; intro W5 hW
        have hz_ : W4.heap.size ≤ W5.heap.size := by rw [hW]; simp
        have hE : Below W4.heap.size W4 W5 := by rw [hW]; (repeat (first | with_reducible refine below_alloc ?_ _ | with_reducible refine below_drew ?_)); exact Below.refl _ _
        have hB := Hd.mk (below_then hB.out hE)
        replace hS := Hd.mk (below_then hS.out hE)
        have b0 := Hd.mk (b0.out.below hE)
        have b1 := Hd.mk (b1.out.below hE)
        have b2 := Hd.mk (b2.out.below hE)
        have b3 := Hd.mk (b3.out.below hE)
        clear hW hE
        have z5 := Hd.mk hz_; clear hz_
        refine (spec_l7Copy x _ _ (tStore.K_below hB.out HK.out) (by have := HL.out; omega)).mono ?_
        rintro e w6 ⟨cs', rfl, hO, hX⟩
        have b0 := Hd.mk (b0.out.below hX)
        have b1 := Hd.mk (b1.out.below hX)
        have b2 := Hd.mk (b2.out.below hX)
        have b3 := Hd.mk (b3.out.below hX)
        have hB := Hd.mk (below_then hB.out hX)
        replace hS := Hd.mk (below_then hS.out hX)
        have hz_ := hX.size
        clear hX
        have z6 := Hd.mk hz_; clear hz_
        replace hO := Hd.mk (show tStore.O w6 (rng W5.heap.size w6.heap.size) x _ from Ty.O_bound _ hO)
        go_wp2_with fail
        refine ⟨cls_below hS.out, ?_⟩
        refine mixT_b rfl ?_ (by rfl)
        go_wp2_with fail
        apply calls_gen; intro W7 hW
        have hz_ : w6.heap.size ≤ W7.heap.size := by rw [hW]; simp
        have hE : Below w6.heap.size w6 W7 := by rw [hW]; (repeat (first | with_reducible refine below_alloc ?_ _ | with_reducible refine below_drew ?_)); exact Below.refl _ _
        have hB := Hd.mk (below_then hB.out hE)
        replace hS := Hd.mk (below_then hS.out hE)
        have b0 := Hd.mk (b0.out.below hE)
        have b1 := Hd.mk (b1.out.below hE)
        have b2 := Hd.mk (b2.out.below hE)
        have b3 := Hd.mk (b3.out.below hE)
        have hO := Hd.mk (Ty.O_below hO.out hE)
        clear hW hE
        have z7 := Hd.mk hz_; clear hz_
        refine (spec_l7Turn (S := rng W5.heap.size w6.heap.size) x _ (chBack y) _ _ (fun k hk => by have h2 := hk.2; have z1_ := z1.out; have z2_ := z2.out; have z3_ := z3.out; have z4_ := z4.out; have z5_ := z5.out; have z6_ := z6.out; have z7_ := z7.out; omega) hO.out (tChange.K_below hB.out HY.out) HL.out HLR.out).mono ?_
        rintro e w8 ⟨cs2, rfl, hO2, hX⟩
        obtain ⟨D1, d1, D2, d2, SN, ST, rfl, hd1, hd2, hN, hT, hSN, hST, hNT⟩ := store_open hO2
        have hO3 := Hd.mk (Ty.O_bound _ hO2); clear hO2 hN hT hSN hST hNT hO
        have hRS := hB.out.size
        have z1_ := z1.out; have z2_ := z2.out; have z3_ := z3.out; have z4_ := z4.out; have z5_ := z5.out; have z6_ := z6.out; have z7_ := z7.out
        have hSz := hB.out.size
        have b0 := Hd.mk (b0.out.fr hX (fun h => by have hlt_ := b0.out.lt; skip; (try simp only [rng] at h); (try simp only at h); omega))
        have b1 := Hd.mk (b1.out.fr hX (fun h => by have hlt_ := b1.out.lt; skip; (try simp only [rng] at h); (try simp only at h); omega))
        have b2 := Hd.mk (b2.out.fr hX (fun h => by have hlt_ := b2.out.lt; skip; (try simp only [rng] at h); (try simp only at h); omega))
        have b3 := Hd.mk (b3.out.fr hX (fun h => by have hlt_ := b3.out.lt; skip; (try simp only [rng] at h); (try simp only at h); omega))
        replace hS := Hd.mk (below_frS hS.out hX (fun k h => by (try simp only [rng] at h); (try simp only at h); omega))
        have hB := Hd.mk (below_frS hB.out hX (fun k h => by skip; (try simp only [rng] at h); (try simp only at h); omega))
        have hz_ := hX.size
        clear hX
        have z8 := Hd.mk hz_; clear hz_
        have hSV := Hd.mk (show ∀ k, ((rng W5.heap.size w6.heap.size k ∨ W7.heap.size ≤ k) ∧ k < w8.heap.size) → (W5.heap.size ≤ k ∧ k < w6.heap.size) ∨ (W7.heap.size ≤ k ∧ k < w8.heap.size) from fun k hk => by have h2 := hk.2; rcases hk.1 with h | h; exact .inl h; exact .inr ⟨h, h2⟩)
        go_wp2_with fail
        refine ⟨cls_below hS.out, ?_⟩
        refine mixT_p rfl ?_
        go_big_quiet_want; go_big_quiet_op; go_big_quiet_on; refine wpQuiet_nil ?_
        refine mixT_p rfl ?_
        go_big_quiet_want; go_big_quiet_op; go_big_quiet_on; refine wpQuiet_nil ?_
        refine mixT_p rfl ?_
        go_big_quiet_want; go_big_quiet_op; go_big_quiet_on; refine wpQuiet_nil ?_
        refine mixT_fin ?_
        clear hS
        clear rfb0_0 rfb0_1 rfb0_2 rfb1_0 rfb1_1 rfb1_2 rfb1_3 rfb1_4 rfb1_5 rfb1_6 rfb2_0 rfb2_1 rfb2_2
        clear fb0_0 fb0_1 fb0_2 fb0_z fb1_0 fb1_1 fb1_2 fb1_3 fb1_4 fb1_5 fb1_6 fb1_z fb2_0 fb2_1 fb2_2 fb2_z
        have fb0_0 : w8.cell? ⟨w.heap.size, 0, none⟩ = some (Value.slice A1 x.cols.length c1) := b0.out.cell 0 rfl
        have fb0_1 : w8.cell? ⟨w.heap.size, 1, none⟩ = some (Value.int IntKind.i64 x.ver) := b0.out.cell 1 rfl
        have fb0_2 : w8.cell? ⟨w.heap.size, 2, none⟩ = some (Value.slice A2 x.tabs.length c2) := b0.out.cell 2 rfl
        have fb0_z := b0.out.frozen
        have fb1_0 : w8.cell? ⟨w.heap.size + 1, 0, none⟩ = some (Value.int IntKind.i64 y.table) := b1.out.cell 0 rfl
        have fb1_1 : w8.cell? ⟨w.heap.size + 1, 1, none⟩ = some (Value.bool y.had) := b1.out.cell 1 rfl
        have fb1_2 : w8.cell? ⟨w.heap.size + 1, 2, none⟩ = some (Value.bool y.has) := b1.out.cell 2 rfl
        have fb1_3 : w8.cell? ⟨w.heap.size + 1, 3, none⟩ = some (Value.int IntKind.i64 y.old.id) := b1.out.cell 3 rfl
        have fb1_4 : w8.cell? ⟨w.heap.size + 1, 4, none⟩ = some (Value.slice A3 y.old.cells.length c3) := b1.out.cell 4 rfl
        have fb1_5 : w8.cell? ⟨w.heap.size + 1, 5, none⟩ = some (Value.int IntKind.i64 y.new.id) := b1.out.cell 5 rfl
        have fb1_6 : w8.cell? ⟨w.heap.size + 1, 6, none⟩ = some (Value.slice A4 y.new.cells.length c4) := b1.out.cell 6 rfl
        have fb1_z := b1.out.frozen
        have fb2_0 : w8.cell? ⟨w.heap.size + 1 + 1, 0, none⟩ = some (Value.slice none 0 0) := b2.out.cell 0 rfl
        have fb2_1 : w8.cell? ⟨w.heap.size + 1 + 1, 1, none⟩ = some (Value.int IntKind.i64 0) := b2.out.cell 1 rfl
        have fb2_2 : w8.cell? ⟨w.heap.size + 1 + 1, 2, none⟩ = some (Value.slice none 0 0) := b2.out.cell 2 rfl
        have fb2_z := b2.out.frozen
        have fb3_0 : w8.cell? ⟨W3.heap.size, 0, none⟩ = some (Value.slice none 0 0) := b3.out.cell 0 rfl
        have fb3_1 : w8.cell? ⟨W3.heap.size, 1, none⟩ = some (Value.int IntKind.i64 0) := b3.out.cell 1 rfl
        have fb3_2 : w8.cell? ⟨W3.heap.size, 2, none⟩ = some (Value.slice none 0 0) := b3.out.cell 2 rfl
        have fb3_z := b3.out.frozen
        refine tail_b rfl ?_ (by rfl)
        go_wp2_with fail
        refine mixQ_n ?_
        refine tail_b rfl ?_ (by rfl)
        go_wp2_with fail
        refine mixQ_n ?_
        refine tail_nil ?_
        refine region_gen ?_; intro W hW
        clear fb0_0 fb0_1 fb0_2 fb0_z fb1_0 fb1_1 fb1_2 fb1_3 fb1_4 fb1_5 fb1_6 fb1_z fb2_0 fb2_1 fb2_2 fb2_z fb3_0 fb3_1 fb3_2 fb3_z
        have hz_ : w8.heap.size ≤ W.heap.size := by rw [hW]; simp
        have eF : Fr w8 W (fun k => k = W3.heap.size ∨ w8.heap.size ≤ k) := by rw [hW]; (repeat (first | with_reducible refine Fr.setCell ?_ _ (fun _ => by simp <;> omega) _ | with_reducible refine Fr.alloc ?_ _ | with_reducible refine Fr.drew ?_)); exact Fr.refl _ _
        have z1_ := z1.out; have z2_ := z2.out; have z3_ := z3.out; have z4_ := z4.out; have z5_ := z5.out; have z6_ := z6.out; have z7_ := z7.out; have z8_ := z8.out
        have hB := Hd.mk (((Fr.of_below hB.out (fun k => k = W3.heap.size ∨ w8.heap.size ≤ k)).then_ eF (fun k hk _ => hk)).below (fun k hk => by have := hB.out.size; omega))
        have b0 := Hd.mk (b0.out.fr eF (fun h => by have hlt_ := b0.out.lt; (try simp only at h); omega))
        have b1 := Hd.mk (b1.out.fr eF (fun h => by have hlt_ := b1.out.lt; (try simp only at h); omega))
        have b2 := Hd.mk (b2.out.fr eF (fun h => by have hlt_ := b2.out.lt; (try simp only at h); omega))
        have b3 := Hd.mk (show Blk W (W3.heap.size) #[Value.slice D1 (turnV x (chBack y)).cols.length d1, Value.int IntKind.i64 (turnV x (chBack y)).ver, Value.slice D2 (turnV x (chBack y)).tabs.length d2] 37 by rw [hW]; exact (Blk.all b3.out [Value.slice D1 (turnV x (chBack y)).cols.length d1, Value.int IntKind.i64 (turnV x (chBack y)).ver, Value.slice D2 (turnV x (chBack y)).tabs.length d2] rfl))
        have hO3 := Hd.mk (Ty.O_fr hO3.out eF (fun k hk hl h => by have q_ := hSV.out k hk; (try simp only [rng] at hk); (try simp only at hk); (try simp only at h); omega))
        clear hW eF
        have z9 := Hd.mk hz_; clear hz_
        have hBs := hB.out.size
        have z1_ := z1.out; have z2_ := z2.out; have z3_ := z3.out; have z4_ := z4.out; have z5_ := z5.out; have z6_ := z6.out; have z7_ := z7.out; have z8_ := z8.out; have z9_ := z9.out
        rw [HRR.out]
        exact ⟨W3.heap.size, _, D1, d1, D2, d2, _, _, _, _, _, _, _, _, _, _, _, _, _, _, _, _, _, rfl, b3, b0, b1, b2, ⟨by omega⟩, ⟨fun k hk => by have q_ := hSV.out k hk; refine ⟨by omega, by omega⟩⟩, hO3, hB⟩
    case refine_2 =>
      rw [HRR.out]
      clear HRR
      rintro a w1 ⟨p, SV, D1, d1, D2, d2, u12, u13, u14, u15, u16, u17, u18, u19, u20, u21, u22, u23, u24, u25, u26, u27, u28, rfl, b3, b0, b1, b2, hp, hSV, hO, hB1⟩
      replace hB := hB1; clear hB1
      obtain ⟨v, hv⟩ : ∃ z, z = turnV x (chBack y) := ⟨_, rfl⟩
      have HV := Hd.mk hv
      rw [← hv] at b3 hO
      clear hv
      have hlp := Hd.mk b3.out.lt
      have z0 := Hd.mk (show w.heap.size + 3 ≤ w1.heap.size by have := hp.out; have := hlp.out; omega)
      cases hb2 : turnB x (chBack y)
      · obtain ⟨hn_, hf_⟩ := back_t0 HOK.out hb2
        have HNB := Hd.mk hn_; have HF := Hd.mk hf_; clear hn_ hf_
        have fb0_0 : w1.cell? ⟨w.heap.size, 0, none⟩ = some (Value.slice A1 x.cols.length c1) := b0.out.cell 0 rfl
        have fb0_1 : w1.cell? ⟨w.heap.size, 1, none⟩ = some (Value.int IntKind.i64 x.ver) := b0.out.cell 1 rfl
        have fb0_2 : w1.cell? ⟨w.heap.size, 2, none⟩ = some (Value.slice A2 x.tabs.length c2) := b0.out.cell 2 rfl
        have fb0_z := b0.out.frozen
        have fb1_0 : w1.cell? ⟨w.heap.size + 1, 0, none⟩ = some (Value.int IntKind.i64 y.table) := b1.out.cell 0 rfl
        have fb1_1 : w1.cell? ⟨w.heap.size + 1, 1, none⟩ = some (Value.bool y.had) := b1.out.cell 1 rfl
        have fb1_2 : w1.cell? ⟨w.heap.size + 1, 2, none⟩ = some (Value.bool y.has) := b1.out.cell 2 rfl
        have fb1_3 : w1.cell? ⟨w.heap.size + 1, 3, none⟩ = some (Value.int IntKind.i64 y.old.id) := b1.out.cell 3 rfl
        have fb1_4 : w1.cell? ⟨w.heap.size + 1, 4, none⟩ = some (Value.slice A3 y.old.cells.length c3) := b1.out.cell 4 rfl
        have fb1_5 : w1.cell? ⟨w.heap.size + 1, 5, none⟩ = some (Value.int IntKind.i64 y.new.id) := b1.out.cell 5 rfl
        have fb1_6 : w1.cell? ⟨w.heap.size + 1, 6, none⟩ = some (Value.slice A4 y.new.cells.length c4) := b1.out.cell 6 rfl
        have fb1_z := b1.out.frozen
        have fb2_0 : w1.cell? ⟨w.heap.size + 1 + 1, 0, none⟩ = some (Value.slice none 0 0) := b2.out.cell 0 rfl
        have fb2_1 : w1.cell? ⟨w.heap.size + 1 + 1, 1, none⟩ = some (Value.int IntKind.i64 0) := b2.out.cell 1 rfl
        have fb2_2 : w1.cell? ⟨w.heap.size + 1 + 1, 2, none⟩ = some (Value.slice none 0 0) := b2.out.cell 2 rfl
        have fb2_z := b2.out.frozen
        have fb3_0 : w1.cell? ⟨p, 0, none⟩ = some (Value.slice D1 v.cols.length d1) := b3.out.cell 0 rfl
        have fb3_1 : w1.cell? ⟨p, 1, none⟩ = some (Value.int IntKind.i64 v.ver) := b3.out.cell 1 rfl
        have fb3_2 : w1.cell? ⟨p, 2, none⟩ = some (Value.slice D2 v.tabs.length d2) := b3.out.cell 2 rfl
        have fb3_z := b3.out.frozen
        go_wp2_with fail
        clear fb0_0 fb0_1 fb0_2 fb0_z fb1_0 fb1_1 fb1_2 fb1_3 fb1_4 fb1_5 fb1_6 fb1_z fb2_0 fb2_1 fb2_2 fb2_z fb3_0 fb3_1 fb3_2 fb3_z
        apply calls_gen; intro W4 hW
        have hz_ : w1.heap.size ≤ W4.heap.size := by rw [hW]; simp
        have hE : Below w1.heap.size w1 W4 := by rw [hW]; (repeat (first | with_reducible refine below_alloc ?_ _ | with_reducible refine below_drew ?_)); exact Below.refl _ _
        have hB := Hd.mk (below_then hB.out hE)
        have b0 := Hd.mk (b0.out.below hE)
        have b1 := Hd.mk (b1.out.below hE)
        have b2 := Hd.mk (b2.out.below hE)
        have b3 := Hd.mk (b3.out.below hE)
        clear hW hE
        have z1 := Hd.mk hz_; clear hz_
        refine (spec_l7Copy x _ _ (tStore.K_below hB.out HK.out) (by have := HL.out; omega)).mono ?_
        rintro e w5 ⟨cs', rfl, hO9, hX⟩
        have b0 := Hd.mk (b0.out.below hX)
        have b1 := Hd.mk (b1.out.below hX)
        have b2 := Hd.mk (b2.out.below hX)
        have b3 := Hd.mk (b3.out.below hX)
        have hB := Hd.mk (below_then hB.out hX)
        have hz_ := hX.size
        clear hX
        have z2 := Hd.mk hz_; clear hz_
        obtain ⟨E1, e1, E2, e2, SN, ST, rfl, hd1, hd2, hN, hT, hSN, hST, hNT⟩ := store_open hO9
        clear hO9
        have fb0_0 : w5.cell? ⟨w.heap.size, 0, none⟩ = some (Value.slice A1 x.cols.length c1) := b0.out.cell 0 rfl
        have fb0_1 : w5.cell? ⟨w.heap.size, 1, none⟩ = some (Value.int IntKind.i64 x.ver) := b0.out.cell 1 rfl
        have fb0_2 : w5.cell? ⟨w.heap.size, 2, none⟩ = some (Value.slice A2 x.tabs.length c2) := b0.out.cell 2 rfl
        have fb0_z := b0.out.frozen
        have fb1_0 : w5.cell? ⟨w.heap.size + 1, 0, none⟩ = some (Value.int IntKind.i64 y.table) := b1.out.cell 0 rfl
        have fb1_1 : w5.cell? ⟨w.heap.size + 1, 1, none⟩ = some (Value.bool y.had) := b1.out.cell 1 rfl
        have fb1_2 : w5.cell? ⟨w.heap.size + 1, 2, none⟩ = some (Value.bool y.has) := b1.out.cell 2 rfl
        have fb1_3 : w5.cell? ⟨w.heap.size + 1, 3, none⟩ = some (Value.int IntKind.i64 y.old.id) := b1.out.cell 3 rfl
        have fb1_4 : w5.cell? ⟨w.heap.size + 1, 4, none⟩ = some (Value.slice A3 y.old.cells.length c3) := b1.out.cell 4 rfl
        have fb1_5 : w5.cell? ⟨w.heap.size + 1, 5, none⟩ = some (Value.int IntKind.i64 y.new.id) := b1.out.cell 5 rfl
        have fb1_6 : w5.cell? ⟨w.heap.size + 1, 6, none⟩ = some (Value.slice A4 y.new.cells.length c4) := b1.out.cell 6 rfl
        have fb1_z := b1.out.frozen
        have fb2_0 : w5.cell? ⟨w.heap.size + 1 + 1, 0, none⟩ = some (Value.slice none 0 0) := b2.out.cell 0 rfl
        have fb2_1 : w5.cell? ⟨w.heap.size + 1 + 1, 1, none⟩ = some (Value.int IntKind.i64 0) := b2.out.cell 1 rfl
        have fb2_2 : w5.cell? ⟨w.heap.size + 1 + 1, 2, none⟩ = some (Value.slice none 0 0) := b2.out.cell 2 rfl
        have fb2_z := b2.out.frozen
        have fb3_0 : w5.cell? ⟨p, 0, none⟩ = some (Value.slice D1 v.cols.length d1) := b3.out.cell 0 rfl
        have fb3_1 : w5.cell? ⟨p, 1, none⟩ = some (Value.int IntKind.i64 v.ver) := b3.out.cell 1 rfl
        have fb3_2 : w5.cell? ⟨p, 2, none⟩ = some (Value.slice D2 v.tabs.length d2) := b3.out.cell 2 rfl
        have fb3_z := b3.out.frozen
        go_wp2_with fail
        have hlp2 := hp.out
        refine bodyPost_retW (v := .tuple #[.agg #[Value.slice E1 x.cols.length e1, Value.int IntKind.i64 x.ver, Value.slice E2 x.tabs.length e2], .bool false]) (by simp [results, Try.results13, go_sem, fb0_0, fb0_1, fb0_2, fb0_z, fb1_0, fb1_1, fb1_2, fb1_3, fb1_4, fb1_5, fb1_6, fb1_z, fb2_0, fb2_1, fb2_2, fb2_z, fb3_0, fb3_1, fb3_2, fb3_z]) rfl ?_
        intro W hW
        clear fb0_0 fb0_1 fb0_2 fb0_z fb1_0 fb1_1 fb1_2 fb1_3 fb1_4 fb1_5 fb1_6 fb1_z fb2_0 fb2_1 fb2_2 fb2_z fb3_0 fb3_1 fb3_2 fb3_z
        have hz_ : w5.heap.size ≤ W.heap.size := by rw [hW]; simp
        have eF : Fr w5 W (fun k => k = w.heap.size + 1 + 1 ∨ w5.heap.size ≤ k) := by rw [hW]; (repeat (first | with_reducible refine Fr.setCell ?_ _ (fun _ => by simp <;> omega) _ | with_reducible refine Fr.alloc ?_ _ | with_reducible refine Fr.drew ?_)); exact Fr.refl _ _
        have z0_ := z0.out; have z1_ := z1.out; have z2_ := z2.out
        have hB := Hd.mk (((Fr.of_below hB.out (fun k => k = w.heap.size + 1 + 1 ∨ w5.heap.size ≤ k)).then_ eF (fun k hk _ => hk)).below (fun k hk => by have := hB.out.size; omega))
        have b0 := Hd.mk (b0.out.fr eF (fun h => by have hlt_ := b0.out.lt; (try simp only at h); omega))
        have b1 := Hd.mk (b1.out.fr eF (fun h => by have hlt_ := b1.out.lt; (try simp only at h); omega))
        have b2 := Hd.mk (show Blk W (w.heap.size + 1 + 1) #[Value.slice E1 x.cols.length e1, Value.int IntKind.i64 x.ver, Value.slice E2 x.tabs.length e2] 37 by rw [hW]; exact (Blk.all b2.out [Value.slice E1 x.cols.length e1, Value.int IntKind.i64 x.ver, Value.slice E2 x.tabs.length e2] rfl))
        have b3 := Hd.mk (b3.out.fr eF (fun h => by have hlt_ := b3.out.lt; (try simp only at h); omega))
        have hN := Hd.mk (R_fr hN.out eF (fun k hk hl h => by have q_ := hSN.out k hk; (try simp only [rng] at hk); (try simp only at hk); (try simp only at h); omega))
        have hT := Hd.mk (R_fr hT.out eF (fun k hk hl h => by have q_ := hST.out k hk; (try simp only [rng] at hk); (try simp only at hk); (try simp only at h); omega))
        clear hW eF
        have z3 := Hd.mk hz_; clear hz_
        have hBs := hB.out.size
        have z0_ := z0.out; have z1_ := z1.out; have z2_ := z2.out; have z3_ := z3.out
        exact ⟨[Value.slice E1 x.cols.length e1, Value.int IntKind.i64 x.ver, Value.slice E2 x.tabs.length e2], by rw [HNB.out], by rw [HF.out]; exact store_O2 hN.out hT.out rfl (fun k hk => by have := hSN.out k hk; omega) (fun k hk => by have := hST.out k hk; omega) hNT.out, hB.out⟩
      · have fb0_0 : w1.cell? ⟨w.heap.size, 0, none⟩ = some (Value.slice A1 x.cols.length c1) := b0.out.cell 0 rfl
        have fb0_1 : w1.cell? ⟨w.heap.size, 1, none⟩ = some (Value.int IntKind.i64 x.ver) := b0.out.cell 1 rfl
        have fb0_2 : w1.cell? ⟨w.heap.size, 2, none⟩ = some (Value.slice A2 x.tabs.length c2) := b0.out.cell 2 rfl
        have fb0_z := b0.out.frozen
        have fb1_0 : w1.cell? ⟨w.heap.size + 1, 0, none⟩ = some (Value.int IntKind.i64 y.table) := b1.out.cell 0 rfl
        have fb1_1 : w1.cell? ⟨w.heap.size + 1, 1, none⟩ = some (Value.bool y.had) := b1.out.cell 1 rfl
        have fb1_2 : w1.cell? ⟨w.heap.size + 1, 2, none⟩ = some (Value.bool y.has) := b1.out.cell 2 rfl
        have fb1_3 : w1.cell? ⟨w.heap.size + 1, 3, none⟩ = some (Value.int IntKind.i64 y.old.id) := b1.out.cell 3 rfl
        have fb1_4 : w1.cell? ⟨w.heap.size + 1, 4, none⟩ = some (Value.slice A3 y.old.cells.length c3) := b1.out.cell 4 rfl
        have fb1_5 : w1.cell? ⟨w.heap.size + 1, 5, none⟩ = some (Value.int IntKind.i64 y.new.id) := b1.out.cell 5 rfl
        have fb1_6 : w1.cell? ⟨w.heap.size + 1, 6, none⟩ = some (Value.slice A4 y.new.cells.length c4) := b1.out.cell 6 rfl
        have fb1_z := b1.out.frozen
        have fb2_0 : w1.cell? ⟨w.heap.size + 1 + 1, 0, none⟩ = some (Value.slice none 0 0) := b2.out.cell 0 rfl
        have fb2_1 : w1.cell? ⟨w.heap.size + 1 + 1, 1, none⟩ = some (Value.int IntKind.i64 0) := b2.out.cell 1 rfl
        have fb2_2 : w1.cell? ⟨w.heap.size + 1 + 1, 2, none⟩ = some (Value.slice none 0 0) := b2.out.cell 2 rfl
        have fb2_z := b2.out.frozen
        have fb3_0 : w1.cell? ⟨p, 0, none⟩ = some (Value.slice D1 v.cols.length d1) := b3.out.cell 0 rfl
        have fb3_1 : w1.cell? ⟨p, 1, none⟩ = some (Value.int IntKind.i64 v.ver) := b3.out.cell 1 rfl
        have fb3_2 : w1.cell? ⟨p, 2, none⟩ = some (Value.slice D2 v.tabs.length d2) := b3.out.cell 2 rfl
        have fb3_z := b3.out.frozen
        go_wp2_with fail
        clear fb0_0 fb0_1 fb0_2 fb0_z fb1_0 fb1_1 fb1_2 fb1_3 fb1_4 fb1_5 fb1_6 fb1_z fb2_0 fb2_1 fb2_2 fb2_z fb3_0 fb3_1 fb3_2 fb3_z
        apply calls_gen; intro W4 hW
        have hz_ : w1.heap.size ≤ W4.heap.size := by rw [hW]; simp
        have hE : Below w1.heap.size w1 W4 := by rw [hW]; (repeat (first | with_reducible refine below_alloc ?_ _ | with_reducible refine below_drew ?_)); exact Below.refl _ _
        have hB := Hd.mk (below_then hB.out hE)
        have b0 := Hd.mk (b0.out.below hE)
        have b1 := Hd.mk (b1.out.below hE)
        have b2 := Hd.mk (b2.out.below hE)
        have b3 := Hd.mk (b3.out.below hE)
        have hO := Hd.mk (Ty.O_below hO.out hE)
        clear hW hE
        have z1 := Hd.mk hz_; clear hz_
        refine (spec_StoreOk v _ _ (tStore.O_K hO.out)).mono ?_
        rintro e w5 ⟨rfl, hX⟩
        have b0 := Hd.mk (b0.out.below hX)
        have b1 := Hd.mk (b1.out.below hX)
        have b2 := Hd.mk (b2.out.below hX)
        have b3 := Hd.mk (b3.out.below hX)
        have hO := Hd.mk (Ty.O_below hO.out hX)
        have hB := Hd.mk (below_then hB.out hX)
        have hz_ := hX.size
        clear hX
        have z2 := Hd.mk hz_; clear hz_
        cases hb3 : storeOk v
        · obtain ⟨hn_, hf_⟩ := back_t1 HOK.out hb2 (HV.out ▸ hb3)
          have HNB := Hd.mk hn_; have HF := Hd.mk hf_; clear hn_ hf_
          have fb0_0 : w5.cell? ⟨w.heap.size, 0, none⟩ = some (Value.slice A1 x.cols.length c1) := b0.out.cell 0 rfl
          have fb0_1 : w5.cell? ⟨w.heap.size, 1, none⟩ = some (Value.int IntKind.i64 x.ver) := b0.out.cell 1 rfl
          have fb0_2 : w5.cell? ⟨w.heap.size, 2, none⟩ = some (Value.slice A2 x.tabs.length c2) := b0.out.cell 2 rfl
          have fb0_z := b0.out.frozen
          have fb1_0 : w5.cell? ⟨w.heap.size + 1, 0, none⟩ = some (Value.int IntKind.i64 y.table) := b1.out.cell 0 rfl
          have fb1_1 : w5.cell? ⟨w.heap.size + 1, 1, none⟩ = some (Value.bool y.had) := b1.out.cell 1 rfl
          have fb1_2 : w5.cell? ⟨w.heap.size + 1, 2, none⟩ = some (Value.bool y.has) := b1.out.cell 2 rfl
          have fb1_3 : w5.cell? ⟨w.heap.size + 1, 3, none⟩ = some (Value.int IntKind.i64 y.old.id) := b1.out.cell 3 rfl
          have fb1_4 : w5.cell? ⟨w.heap.size + 1, 4, none⟩ = some (Value.slice A3 y.old.cells.length c3) := b1.out.cell 4 rfl
          have fb1_5 : w5.cell? ⟨w.heap.size + 1, 5, none⟩ = some (Value.int IntKind.i64 y.new.id) := b1.out.cell 5 rfl
          have fb1_6 : w5.cell? ⟨w.heap.size + 1, 6, none⟩ = some (Value.slice A4 y.new.cells.length c4) := b1.out.cell 6 rfl
          have fb1_z := b1.out.frozen
          have fb2_0 : w5.cell? ⟨w.heap.size + 1 + 1, 0, none⟩ = some (Value.slice none 0 0) := b2.out.cell 0 rfl
          have fb2_1 : w5.cell? ⟨w.heap.size + 1 + 1, 1, none⟩ = some (Value.int IntKind.i64 0) := b2.out.cell 1 rfl
          have fb2_2 : w5.cell? ⟨w.heap.size + 1 + 1, 2, none⟩ = some (Value.slice none 0 0) := b2.out.cell 2 rfl
          have fb2_z := b2.out.frozen
          have fb3_0 : w5.cell? ⟨p, 0, none⟩ = some (Value.slice D1 v.cols.length d1) := b3.out.cell 0 rfl
          have fb3_1 : w5.cell? ⟨p, 1, none⟩ = some (Value.int IntKind.i64 v.ver) := b3.out.cell 1 rfl
          have fb3_2 : w5.cell? ⟨p, 2, none⟩ = some (Value.slice D2 v.tabs.length d2) := b3.out.cell 2 rfl
          have fb3_z := b3.out.frozen
          go_wp2_with fail
          clear fb0_0 fb0_1 fb0_2 fb0_z fb1_0 fb1_1 fb1_2 fb1_3 fb1_4 fb1_5 fb1_6 fb1_z fb2_0 fb2_1 fb2_2 fb2_z fb3_0 fb3_1 fb3_2 fb3_z
          apply calls_gen; intro W6 hW
          have hz_ : w5.heap.size ≤ W6.heap.size := by rw [hW]; simp
          have hE : Below w5.heap.size w5 W6 := by rw [hW]; (repeat (first | with_reducible refine below_alloc ?_ _ | with_reducible refine below_drew ?_)); exact Below.refl _ _
          have hB := Hd.mk (below_then hB.out hE)
          have b0 := Hd.mk (b0.out.below hE)
          have b1 := Hd.mk (b1.out.below hE)
          have b2 := Hd.mk (b2.out.below hE)
          have b3 := Hd.mk (b3.out.below hE)
          clear hW hE
          have z3 := Hd.mk hz_; clear hz_
          refine (spec_l7Copy x _ _ (tStore.K_below hB.out HK.out) (by have := HL.out; omega)).mono ?_
          rintro e w7 ⟨cs', rfl, hO9, hX⟩
          have b0 := Hd.mk (b0.out.below hX)
          have b1 := Hd.mk (b1.out.below hX)
          have b2 := Hd.mk (b2.out.below hX)
          have b3 := Hd.mk (b3.out.below hX)
          have hB := Hd.mk (below_then hB.out hX)
          have hz_ := hX.size
          clear hX
          have z4 := Hd.mk hz_; clear hz_
          obtain ⟨E1, e1, E2, e2, SN, ST, rfl, hd1, hd2, hN, hT, hSN, hST, hNT⟩ := store_open hO9
          clear hO9
          have fb0_0 : w7.cell? ⟨w.heap.size, 0, none⟩ = some (Value.slice A1 x.cols.length c1) := b0.out.cell 0 rfl
          have fb0_1 : w7.cell? ⟨w.heap.size, 1, none⟩ = some (Value.int IntKind.i64 x.ver) := b0.out.cell 1 rfl
          have fb0_2 : w7.cell? ⟨w.heap.size, 2, none⟩ = some (Value.slice A2 x.tabs.length c2) := b0.out.cell 2 rfl
          have fb0_z := b0.out.frozen
          have fb1_0 : w7.cell? ⟨w.heap.size + 1, 0, none⟩ = some (Value.int IntKind.i64 y.table) := b1.out.cell 0 rfl
          have fb1_1 : w7.cell? ⟨w.heap.size + 1, 1, none⟩ = some (Value.bool y.had) := b1.out.cell 1 rfl
          have fb1_2 : w7.cell? ⟨w.heap.size + 1, 2, none⟩ = some (Value.bool y.has) := b1.out.cell 2 rfl
          have fb1_3 : w7.cell? ⟨w.heap.size + 1, 3, none⟩ = some (Value.int IntKind.i64 y.old.id) := b1.out.cell 3 rfl
          have fb1_4 : w7.cell? ⟨w.heap.size + 1, 4, none⟩ = some (Value.slice A3 y.old.cells.length c3) := b1.out.cell 4 rfl
          have fb1_5 : w7.cell? ⟨w.heap.size + 1, 5, none⟩ = some (Value.int IntKind.i64 y.new.id) := b1.out.cell 5 rfl
          have fb1_6 : w7.cell? ⟨w.heap.size + 1, 6, none⟩ = some (Value.slice A4 y.new.cells.length c4) := b1.out.cell 6 rfl
          have fb1_z := b1.out.frozen
          have fb2_0 : w7.cell? ⟨w.heap.size + 1 + 1, 0, none⟩ = some (Value.slice none 0 0) := b2.out.cell 0 rfl
          have fb2_1 : w7.cell? ⟨w.heap.size + 1 + 1, 1, none⟩ = some (Value.int IntKind.i64 0) := b2.out.cell 1 rfl
          have fb2_2 : w7.cell? ⟨w.heap.size + 1 + 1, 2, none⟩ = some (Value.slice none 0 0) := b2.out.cell 2 rfl
          have fb2_z := b2.out.frozen
          have fb3_0 : w7.cell? ⟨p, 0, none⟩ = some (Value.slice D1 v.cols.length d1) := b3.out.cell 0 rfl
          have fb3_1 : w7.cell? ⟨p, 1, none⟩ = some (Value.int IntKind.i64 v.ver) := b3.out.cell 1 rfl
          have fb3_2 : w7.cell? ⟨p, 2, none⟩ = some (Value.slice D2 v.tabs.length d2) := b3.out.cell 2 rfl
          have fb3_z := b3.out.frozen
          go_wp2_with fail
          have hlp2 := hp.out
          refine bodyPost_retW (v := .tuple #[.agg #[Value.slice E1 x.cols.length e1, Value.int IntKind.i64 x.ver, Value.slice E2 x.tabs.length e2], .bool false]) (by simp [results, Try.results13, go_sem, fb0_0, fb0_1, fb0_2, fb0_z, fb1_0, fb1_1, fb1_2, fb1_3, fb1_4, fb1_5, fb1_6, fb1_z, fb2_0, fb2_1, fb2_2, fb2_z, fb3_0, fb3_1, fb3_2, fb3_z]) rfl ?_
          intro W hW
          clear fb0_0 fb0_1 fb0_2 fb0_z fb1_0 fb1_1 fb1_2 fb1_3 fb1_4 fb1_5 fb1_6 fb1_z fb2_0 fb2_1 fb2_2 fb2_z fb3_0 fb3_1 fb3_2 fb3_z
          have hz_ : w7.heap.size ≤ W.heap.size := by rw [hW]; simp
          have eF : Fr w7 W (fun k => k = w.heap.size + 1 + 1 ∨ w7.heap.size ≤ k) := by rw [hW]; (repeat (first | with_reducible refine Fr.setCell ?_ _ (fun _ => by simp <;> omega) _ | with_reducible refine Fr.alloc ?_ _ | with_reducible refine Fr.drew ?_)); exact Fr.refl _ _
          have z0_ := z0.out; have z1_ := z1.out; have z2_ := z2.out; have z3_ := z3.out; have z4_ := z4.out
          have hB := Hd.mk (((Fr.of_below hB.out (fun k => k = w.heap.size + 1 + 1 ∨ w7.heap.size ≤ k)).then_ eF (fun k hk _ => hk)).below (fun k hk => by have := hB.out.size; omega))
          have b0 := Hd.mk (b0.out.fr eF (fun h => by have hlt_ := b0.out.lt; (try simp only at h); omega))
          have b1 := Hd.mk (b1.out.fr eF (fun h => by have hlt_ := b1.out.lt; (try simp only at h); omega))
          have b2 := Hd.mk (show Blk W (w.heap.size + 1 + 1) #[Value.slice E1 x.cols.length e1, Value.int IntKind.i64 x.ver, Value.slice E2 x.tabs.length e2] 37 by rw [hW]; exact (Blk.all b2.out [Value.slice E1 x.cols.length e1, Value.int IntKind.i64 x.ver, Value.slice E2 x.tabs.length e2] rfl))
          have b3 := Hd.mk (b3.out.fr eF (fun h => by have hlt_ := b3.out.lt; (try simp only at h); omega))
          have hN := Hd.mk (R_fr hN.out eF (fun k hk hl h => by have q_ := hSN.out k hk; (try simp only [rng] at hk); (try simp only at hk); (try simp only at h); omega))
          have hT := Hd.mk (R_fr hT.out eF (fun k hk hl h => by have q_ := hST.out k hk; (try simp only [rng] at hk); (try simp only at hk); (try simp only at h); omega))
          clear hW eF
          have z5 := Hd.mk hz_; clear hz_
          have hBs := hB.out.size
          have z0_ := z0.out; have z1_ := z1.out; have z2_ := z2.out; have z3_ := z3.out; have z4_ := z4.out; have z5_ := z5.out
          exact ⟨[Value.slice E1 x.cols.length e1, Value.int IntKind.i64 x.ver, Value.slice E2 x.tabs.length e2], by rw [HNB.out], by rw [HF.out]; exact store_O2 hN.out hT.out rfl (fun k hk => by have := hSN.out k hk; omega) (fun k hk => by have := hST.out k hk; omega) hNT.out, hB.out⟩
        · obtain ⟨hn_, hf_⟩ := back_t2 HOK.out hb2 (HV.out ▸ hb3)
          rw [← HV.out] at hf_
          have HNB := Hd.mk hn_; have HF := Hd.mk hf_; clear hn_ hf_
          have fb0_0 : w5.cell? ⟨w.heap.size, 0, none⟩ = some (Value.slice A1 x.cols.length c1) := b0.out.cell 0 rfl
          have fb0_1 : w5.cell? ⟨w.heap.size, 1, none⟩ = some (Value.int IntKind.i64 x.ver) := b0.out.cell 1 rfl
          have fb0_2 : w5.cell? ⟨w.heap.size, 2, none⟩ = some (Value.slice A2 x.tabs.length c2) := b0.out.cell 2 rfl
          have fb0_z := b0.out.frozen
          have fb1_0 : w5.cell? ⟨w.heap.size + 1, 0, none⟩ = some (Value.int IntKind.i64 y.table) := b1.out.cell 0 rfl
          have fb1_1 : w5.cell? ⟨w.heap.size + 1, 1, none⟩ = some (Value.bool y.had) := b1.out.cell 1 rfl
          have fb1_2 : w5.cell? ⟨w.heap.size + 1, 2, none⟩ = some (Value.bool y.has) := b1.out.cell 2 rfl
          have fb1_3 : w5.cell? ⟨w.heap.size + 1, 3, none⟩ = some (Value.int IntKind.i64 y.old.id) := b1.out.cell 3 rfl
          have fb1_4 : w5.cell? ⟨w.heap.size + 1, 4, none⟩ = some (Value.slice A3 y.old.cells.length c3) := b1.out.cell 4 rfl
          have fb1_5 : w5.cell? ⟨w.heap.size + 1, 5, none⟩ = some (Value.int IntKind.i64 y.new.id) := b1.out.cell 5 rfl
          have fb1_6 : w5.cell? ⟨w.heap.size + 1, 6, none⟩ = some (Value.slice A4 y.new.cells.length c4) := b1.out.cell 6 rfl
          have fb1_z := b1.out.frozen
          have fb2_0 : w5.cell? ⟨w.heap.size + 1 + 1, 0, none⟩ = some (Value.slice none 0 0) := b2.out.cell 0 rfl
          have fb2_1 : w5.cell? ⟨w.heap.size + 1 + 1, 1, none⟩ = some (Value.int IntKind.i64 0) := b2.out.cell 1 rfl
          have fb2_2 : w5.cell? ⟨w.heap.size + 1 + 1, 2, none⟩ = some (Value.slice none 0 0) := b2.out.cell 2 rfl
          have fb2_z := b2.out.frozen
          have fb3_0 : w5.cell? ⟨p, 0, none⟩ = some (Value.slice D1 v.cols.length d1) := b3.out.cell 0 rfl
          have fb3_1 : w5.cell? ⟨p, 1, none⟩ = some (Value.int IntKind.i64 v.ver) := b3.out.cell 1 rfl
          have fb3_2 : w5.cell? ⟨p, 2, none⟩ = some (Value.slice D2 v.tabs.length d2) := b3.out.cell 2 rfl
          have fb3_z := b3.out.frozen
          go_wp2_with fail
          have hlp2 := hp.out
          refine bodyPost_retW (v := .tuple #[.agg #[Value.slice D1 v.cols.length d1, Value.int IntKind.i64 v.ver, Value.slice D2 v.tabs.length d2], .bool true]) (by simp [results, Try.results13, go_sem, fb0_0, fb0_1, fb0_2, fb0_z, fb1_0, fb1_1, fb1_2, fb1_3, fb1_4, fb1_5, fb1_6, fb1_z, fb2_0, fb2_1, fb2_2, fb2_z, fb3_0, fb3_1, fb3_2, fb3_z]) rfl ?_
          intro W hW
          clear fb0_0 fb0_1 fb0_2 fb0_z fb1_0 fb1_1 fb1_2 fb1_3 fb1_4 fb1_5 fb1_6 fb1_z fb2_0 fb2_1 fb2_2 fb2_z fb3_0 fb3_1 fb3_2 fb3_z
          have hz_ : w5.heap.size ≤ W.heap.size := by rw [hW]; simp
          have eF : Fr w5 W (fun k => k = w.heap.size + 1 + 1 ∨ w5.heap.size ≤ k) := by rw [hW]; (repeat (first | with_reducible refine Fr.setCell ?_ _ (fun _ => by simp <;> omega) _ | with_reducible refine Fr.alloc ?_ _ | with_reducible refine Fr.drew ?_)); exact Fr.refl _ _
          have z0_ := z0.out; have z1_ := z1.out; have z2_ := z2.out
          have hB := Hd.mk (((Fr.of_below hB.out (fun k => k = w.heap.size + 1 + 1 ∨ w5.heap.size ≤ k)).then_ eF (fun k hk _ => hk)).below (fun k hk => by have := hB.out.size; omega))
          have b0 := Hd.mk (b0.out.fr eF (fun h => by have hlt_ := b0.out.lt; (try simp only at h); omega))
          have b1 := Hd.mk (b1.out.fr eF (fun h => by have hlt_ := b1.out.lt; (try simp only at h); omega))
          have b2 := Hd.mk (show Blk W (w.heap.size + 1 + 1) #[Value.slice D1 v.cols.length d1, Value.int IntKind.i64 v.ver, Value.slice D2 v.tabs.length d2] 37 by rw [hW]; exact (Blk.all b2.out [Value.slice D1 v.cols.length d1, Value.int IntKind.i64 v.ver, Value.slice D2 v.tabs.length d2] rfl))
          have b3 := Hd.mk (b3.out.fr eF (fun h => by have hlt_ := b3.out.lt; (try simp only at h); omega))
          have hO := Hd.mk (Ty.O_fr hO.out eF (fun k hk hl h => by have q_ := hSV.out k hk; (try simp only [rng] at hk); (try simp only at hk); (try simp only at h); omega))
          clear hW eF
          have z3 := Hd.mk hz_; clear hz_
          exact ⟨[Value.slice D1 v.cols.length d1, Value.int IntKind.i64 v.ver, Value.slice D2 v.tabs.length d2], by rw [HNB.out], by rw [HF.out]; exact tStore.O_mono (fun k hk => by have := hSV.out k hk; omega) hO.out, hB.out⟩
end Go.Proofs.Ytnpogfhfjofbmaa.X
