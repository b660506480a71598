/- What is proved here: OpRead of the program. Conditions: none. -/
import Derived.Test.YtkgefjjgjjmklaaDoorXOr
import Derived.Test.YtkgefjjgjjmklaaDoorXOl
namespace Go.Proofs.YtkgefjjgjjmklaaDoor.X
open Go.RowKit Go.Sort
set_option linter.unusedVariables false
set_option linter.unusedSimpArgs false
open Ty
set_option maxHeartbeats 4000000 in
set_option maxRecDepth 100000 in
theorem impl_OpRead {m : Nat} (x : J) (cs : List Value) (w : World) (hk : (tJ (m + 1)).K w x cs) (hl : bulkJ (m + 1) x ≤ 1048576) (hM : EnvM w) :
    Calls Tryd.prog 41 #[.agg cs.toArray] w fun e w' => ∃ cs', e = .returned (.tuple #[.agg cs'.toArray, .bool (readB x)]) ∧ (tOp (m + 1)).O w' (fun k => w.heap.size ≤ k) (readO x) cs' ∧ Below w.heap.size w w' := by
  have HM := Hd.mk hM; clear hM
  have HK := Hd.mk hk; have HL := Hd.mk hl
  obtain ⟨A1, c1, A2, c2, rfl, hsx, ⟨hc1, hr1⟩, hc2, hr2⟩ := tJ_K.1 hk
  clear hr1 hr2 hk hl
  have hB := Hd.mk (Below.refl w.heap.size w)
  go_enter Tryd.func41, Tryd.ntmps41
  go_wp2_with fail
  apply calls_gen; intro W1 hW
  have hz_ : w.heap.size + 2 ≤ W1.heap.size := by rw [hW]; simp
  have hE : Below w.heap.size w W1 := by rw [hW]; (repeat (first | with_reducible refine below_alloc ?_ _ | with_reducible refine below_drew ?_)); exact Below.refl _ _
  have hB := Hd.mk (below_then hB.out hE)
  have b0 := Hd.mk (show Blk W1 (w.heap.size) #[Value.int IntKind.i64 x.kind, Value.int IntKind.i64 x.n, Value.string x.s, Value.slice A1 x.list.length c1, Value.slice A2 x.names.length c2] 40 by rw [hW]; first | exact ((Blk.new _ _ _).alloc _) | (simpa using ((Blk.new _ _ _).alloc _)))
  have b1 := Hd.mk (show Blk W1 (w.heap.size + 1) #[Value.int IntKind.i64 0, Value.slice none 0 0, Value.int IntKind.i64 0, Value.int IntKind.i64 0, Value.string ⟨#[]⟩, Value.slice none 0 0, Value.slice none 0 0] 49 by rw [hW]; first | exact (Blk.new1 _ _ _ _) | (simpa using (Blk.new1 _ _ _ _)))
  clear hW hE
  have z1 := Hd.mk hz_; clear hz_
  refine (impl_Field x _ nmOp _ (Ty.K_below _ hB.out HK.out) (Nat.le_trans HL.out (by decide))).mono ?_
  rintro e w2 ⟨cf, rfl, hF, hX⟩
  have b0 := Hd.mk (b0.out.below hX)
  have b1 := Hd.mk (b1.out.below hX)
  have hB := Hd.mk (below_then hB.out hX)
  have hz_ := hX.size
  clear hX
  have z2 := Hd.mk hz_; clear hz_
  obtain ⟨fo, hfo⟩ : ∃ z, z = field x nmOp := ⟨_, rfl⟩
  obtain ⟨bfo, hbfo⟩ : ∃ z, z = hasField x nmOp := ⟨_, rfl⟩
  rw [← hfo] at hF
  rw [← hbfo]
  have Efo := Hd.mk hfo; have EBfo := Hd.mk hbfo; clear hfo hbfo
  obtain ⟨v3, v4, _, _, rfl, hsfo, h3_, h4_, _⟩ := tJ_O.1 hF
  obtain ⟨Afo, cfo, rfl, _, _⟩ := R_C h3_
  obtain ⟨Bfo, dfo, rfl, _, _⟩ := R_C h4_
  clear h3_ h4_
  clear hF
  obtain ⟨fb0_0, fb0_1, fb0_2, fb0_3, fb0_4, fb0_z⟩ := blk5 b0.out
  obtain ⟨fb1_0, fb1_1, fb1_2, fb1_3, fb1_4, fb1_5, fb1_6, fb1_z⟩ := blk7 b1.out
  have lfb0_0 := fun o => cell_below (below_alloc (Below.refl _ _) o) fb0_0
  have lfb0_1 := fun o => cell_below (below_alloc (Below.refl _ _) o) fb0_1
  have lfb0_2 := fun o => cell_below (below_alloc (Below.refl _ _) o) fb0_2
  have lfb0_3 := fun o => cell_below (below_alloc (Below.refl _ _) o) fb0_3
  have lfb0_4 := fun o => cell_below (below_alloc (Below.refl _ _) o) fb0_4
  have lfb1_0 := fun o => cell_below (below_alloc (Below.refl _ _) o) fb1_0
  have lfb1_1 := fun o => cell_below (below_alloc (Below.refl _ _) o) fb1_1
  have lfb1_2 := fun o => cell_below (below_alloc (Below.refl _ _) o) fb1_2
  have lfb1_3 := fun o => cell_below (below_alloc (Below.refl _ _) o) fb1_3
  have lfb1_4 := fun o => cell_below (below_alloc (Below.refl _ _) o) fb1_4
  have lfb1_5 := fun o => cell_below (below_alloc (Below.refl _ _) o) fb1_5
  have lfb1_6 := fun o => cell_below (below_alloc (Below.refl _ _) o) fb1_6
  go_wp2_with fail
  clear lfb0_0 lfb0_1 lfb0_2 lfb0_3 lfb0_4 lfb1_0 lfb1_1 lfb1_2 lfb1_3 lfb1_4 lfb1_5 lfb1_6
  clear fb0_0 fb0_1 fb0_2 fb0_3 fb0_4 fb0_z fb1_0 fb1_1 fb1_2 fb1_3 fb1_4 fb1_5 fb1_6 fb1_z
  apply calls_gen; intro W3 hW
  have hz_ : w2.heap.size + 1 ≤ W3.heap.size := by rw [hW]; simp
  have hE : Below w2.heap.size w2 W3 := by rw [hW]; (repeat (first | with_reducible refine below_alloc ?_ _ | with_reducible refine below_drew ?_)); exact Below.refl _ _
  have hB := Hd.mk (below_then hB.out hE)
  have b0 := Hd.mk (b0.out.below hE)
  have b1 := Hd.mk (b1.out.below hE)
  have b3 := Hd.mk (show Blk W3 (w2.heap.size) #[Value.int IntKind.i64 fo.kind, Value.int IntKind.i64 fo.n, Value.string fo.s, Value.slice Afo fo.list.length cfo, Value.slice Bfo fo.names.length dfo] 40 by rw [hW]; first | exact (Blk.new _ _ _) | (simpa using (Blk.new _ _ _)))
  clear hW hE
  have z3 := Hd.mk hz_; clear hz_
  refine (impl_Field x _ nmPath _ (Ty.K_below _ hB.out HK.out) (Nat.le_trans HL.out (by decide))).mono ?_
  rintro e w4 ⟨cf, rfl, hF, hX⟩
  have b0 := Hd.mk (b0.out.below hX)
  have b1 := Hd.mk (b1.out.below hX)
  have b3 := Hd.mk (b3.out.below hX)
  have hB := Hd.mk (below_then hB.out hX)
  have hz_ := hX.size
  clear hX
  have z4 := Hd.mk hz_; clear hz_
  obtain ⟨fp, hfp⟩ : ∃ z, z = field x nmPath := ⟨_, rfl⟩
  obtain ⟨bfp, hbfp⟩ : ∃ z, z = hasField x nmPath := ⟨_, rfl⟩
  rw [← hfp] at hF
  rw [← hbfp]
  have Efp := Hd.mk hfp; have EBfp := Hd.mk hbfp; clear hfp hbfp
  obtain ⟨v3, v4, _, _, rfl, hsfp, h3_, h4_, _⟩ := tJ_O.1 hF
  obtain ⟨Afp, cfp, rfl, _, _⟩ := R_C h3_
  obtain ⟨Bfp, dfp, rfl, _, _⟩ := R_C h4_
  clear h3_ h4_
  clear hF
  obtain ⟨fb0_0, fb0_1, fb0_2, fb0_3, fb0_4, fb0_z⟩ := blk5 b0.out
  obtain ⟨fb1_0, fb1_1, fb1_2, fb1_3, fb1_4, fb1_5, fb1_6, fb1_z⟩ := blk7 b1.out
  obtain ⟨fb3_0, fb3_1, fb3_2, fb3_3, fb3_4, fb3_z⟩ := blk5 b3.out
  have lfb0_0 := fun o => cell_below (below_alloc (Below.refl _ _) o) fb0_0
  have lfb0_1 := fun o => cell_below (below_alloc (Below.refl _ _) o) fb0_1
  have lfb0_2 := fun o => cell_below (below_alloc (Below.refl _ _) o) fb0_2
  have lfb0_3 := fun o => cell_below (below_alloc (Below.refl _ _) o) fb0_3
  have lfb0_4 := fun o => cell_below (below_alloc (Below.refl _ _) o) fb0_4
  have lfb1_0 := fun o => cell_below (below_alloc (Below.refl _ _) o) fb1_0
  have lfb1_1 := fun o => cell_below (below_alloc (Below.refl _ _) o) fb1_1
  have lfb1_2 := fun o => cell_below (below_alloc (Below.refl _ _) o) fb1_2
  have lfb1_3 := fun o => cell_below (below_alloc (Below.refl _ _) o) fb1_3
  have lfb1_4 := fun o => cell_below (below_alloc (Below.refl _ _) o) fb1_4
  have lfb1_5 := fun o => cell_below (below_alloc (Below.refl _ _) o) fb1_5
  have lfb1_6 := fun o => cell_below (below_alloc (Below.refl _ _) o) fb1_6
  have lfb3_0 := fun o => cell_below (below_alloc (Below.refl _ _) o) fb3_0
  have lfb3_1 := fun o => cell_below (below_alloc (Below.refl _ _) o) fb3_1
  have lfb3_2 := fun o => cell_below (below_alloc (Below.refl _ _) o) fb3_2
  have lfb3_3 := fun o => cell_below (below_alloc (Below.refl _ _) o) fb3_3
  have lfb3_4 := fun o => cell_below (below_alloc (Below.refl _ _) o) fb3_4
  go_wp2_with fail
  clear lfb0_0 lfb0_1 lfb0_2 lfb0_3 lfb0_4 lfb1_0 lfb1_1 lfb1_2 lfb1_3 lfb1_4 lfb1_5 lfb1_6 lfb3_0 lfb3_1 lfb3_2 lfb3_3 lfb3_4
  clear fb0_0 fb0_1 fb0_2 fb0_3 fb0_4 fb0_z fb1_0 fb1_1 fb1_2 fb1_3 fb1_4 fb1_5 fb1_6 fb1_z fb3_0 fb3_1 fb3_2 fb3_3 fb3_4 fb3_z
  apply calls_gen; intro W5 hW
  have hz_ : w4.heap.size + 1 ≤ W5.heap.size := by rw [hW]; simp
  have hE : Below w4.heap.size w4 W5 := by rw [hW]; (repeat (first | with_reducible refine below_alloc ?_ _ | with_reducible refine below_drew ?_)); exact Below.refl _ _
  have hB := Hd.mk (below_then hB.out hE)
  have b0 := Hd.mk (b0.out.below hE)
  have b1 := Hd.mk (b1.out.below hE)
  have b3 := Hd.mk (b3.out.below hE)
  have b4 := Hd.mk (show Blk W5 (w4.heap.size) #[Value.int IntKind.i64 fp.kind, Value.int IntKind.i64 fp.n, Value.string fp.s, Value.slice Afp fp.list.length cfp, Value.slice Bfp fp.names.length dfp] 40 by rw [hW]; first | exact (Blk.new _ _ _) | (simpa using (Blk.new _ _ _)))
  clear hW hE
  have z5 := Hd.mk hz_; clear hz_
  refine (impl_Field x _ nmValue _ (Ty.K_below _ hB.out HK.out) (Nat.le_trans HL.out (by decide))).mono ?_
  rintro e w6 ⟨cf, rfl, hF, hX⟩
  have b0 := Hd.mk (b0.out.below hX)
  have b1 := Hd.mk (b1.out.below hX)
  have b3 := Hd.mk (b3.out.below hX)
  have b4 := Hd.mk (b4.out.below hX)
  have hB := Hd.mk (below_then hB.out hX)
  have hz_ := hX.size
  clear hX
  have z6 := Hd.mk hz_; clear hz_
  obtain ⟨fv, hfv⟩ : ∃ z, z = field x nmValue := ⟨_, rfl⟩
  obtain ⟨bfv, hbfv⟩ : ∃ z, z = hasField x nmValue := ⟨_, rfl⟩
  rw [← hfv] at hF
  rw [← hbfv]
  have Efv := Hd.mk hfv; have EBfv := Hd.mk hbfv; clear hfv hbfv
  obtain ⟨v3, v4, _, _, rfl, hsfv, h3_, h4_, _⟩ := tJ_O.1 hF
  obtain ⟨Afv, cfv, rfl, _, _⟩ := R_C h3_
  obtain ⟨Bfv, dfv, rfl, _, _⟩ := R_C h4_
  clear h3_ h4_
  replace hF := Hd.mk (show (tJ (m + 1)).O w6 (rng W5.heap.size w6.heap.size) fv _ from Ty.O_bound _ hF)
  obtain ⟨fb0_0, fb0_1, fb0_2, fb0_3, fb0_4, fb0_z⟩ := blk5 b0.out
  obtain ⟨fb1_0, fb1_1, fb1_2, fb1_3, fb1_4, fb1_5, fb1_6, fb1_z⟩ := blk7 b1.out
  obtain ⟨fb3_0, fb3_1, fb3_2, fb3_3, fb3_4, fb3_z⟩ := blk5 b3.out
  obtain ⟨fb4_0, fb4_1, fb4_2, fb4_3, fb4_4, fb4_z⟩ := blk5 b4.out
  have lfb0_0 := fun o => cell_below (below_alloc (Below.refl _ _) o) fb0_0
  have lfb0_1 := fun o => cell_below (below_alloc (Below.refl _ _) o) fb0_1
  have lfb0_2 := fun o => cell_below (below_alloc (Below.refl _ _) o) fb0_2
  have lfb0_3 := fun o => cell_below (below_alloc (Below.refl _ _) o) fb0_3
  have lfb0_4 := fun o => cell_below (below_alloc (Below.refl _ _) o) fb0_4
  have lfb1_0 := fun o => cell_below (below_alloc (Below.refl _ _) o) fb1_0
  have lfb1_1 := fun o => cell_below (below_alloc (Below.refl _ _) o) fb1_1
  have lfb1_2 := fun o => cell_below (below_alloc (Below.refl _ _) o) fb1_2
  have lfb1_3 := fun o => cell_below (below_alloc (Below.refl _ _) o) fb1_3
  have lfb1_4 := fun o => cell_below (below_alloc (Below.refl _ _) o) fb1_4
  have lfb1_5 := fun o => cell_below (below_alloc (Below.refl _ _) o) fb1_5
  have lfb1_6 := fun o => cell_below (below_alloc (Below.refl _ _) o) fb1_6
  have lfb3_0 := fun o => cell_below (below_alloc (Below.refl _ _) o) fb3_0
  have lfb3_1 := fun o => cell_below (below_alloc (Below.refl _ _) o) fb3_1
  have lfb3_2 := fun o => cell_below (below_alloc (Below.refl _ _) o) fb3_2
  have lfb3_3 := fun o => cell_below (below_alloc (Below.refl _ _) o) fb3_3
  have lfb3_4 := fun o => cell_below (below_alloc (Below.refl _ _) o) fb3_4
  have lfb4_0 := fun o => cell_below (below_alloc (Below.refl _ _) o) fb4_0
  have lfb4_1 := fun o => cell_below (below_alloc (Below.refl _ _) o) fb4_1
  have lfb4_2 := fun o => cell_below (below_alloc (Below.refl _ _) o) fb4_2
  have lfb4_3 := fun o => cell_below (below_alloc (Below.refl _ _) o) fb4_3
  have lfb4_4 := fun o => cell_below (below_alloc (Below.refl _ _) o) fb4_4
  go_wp2_with fail
  clear lfb0_0 lfb0_1 lfb0_2 lfb0_3 lfb0_4 lfb1_0 lfb1_1 lfb1_2 lfb1_3 lfb1_4 lfb1_5 lfb1_6 lfb3_0 lfb3_1 lfb3_2 lfb3_3 lfb3_4 lfb4_0 lfb4_1 lfb4_2 lfb4_3 lfb4_4
  clear fb0_0 fb0_1 fb0_2 fb0_3 fb0_4 fb0_z fb1_0 fb1_1 fb1_2 fb1_3 fb1_4 fb1_5 fb1_6 fb1_z fb3_0 fb3_1 fb3_2 fb3_3 fb3_4 fb3_z fb4_0 fb4_1 fb4_2 fb4_3 fb4_4 fb4_z
  apply calls_gen; intro W7 hW
  have hz_ : w6.heap.size + 1 ≤ W7.heap.size := by rw [hW]; simp
  have hE : Below w6.heap.size w6 W7 := by rw [hW]; (repeat (first | with_reducible refine below_alloc ?_ _ | with_reducible refine below_drew ?_)); exact Below.refl _ _
  have hB := Hd.mk (below_then hB.out hE)
  have b0 := Hd.mk (b0.out.below hE)
  have b1 := Hd.mk (b1.out.below hE)
  have b3 := Hd.mk (b3.out.below hE)
  have b4 := Hd.mk (b4.out.below hE)
  have b5 := Hd.mk (show Blk W7 (w6.heap.size) #[Value.int IntKind.i64 fv.kind, Value.int IntKind.i64 fv.n, Value.string fv.s, Value.slice Afv fv.list.length cfv, Value.slice Bfv fv.names.length dfv] 40 by rw [hW]; first | exact (Blk.new _ _ _) | (simpa using (Blk.new _ _ _)))
  have hF := Hd.mk (Ty.O_below hF.out hE)
  clear hW hE
  have z7 := Hd.mk hz_; clear hz_
  have hfpz : fp.s.size ≤ 1048576 := by rw [Efp.out]; exact Nat.le_trans (bulk_s m _) (Nat.le_trans (bulk_field HK.out nmPath) HL.out)
  refine (impl_WayRead fp.s _ hfpz (HM.out.below hB.out)).mono ?_
  rintro e w8 ⟨vw, rfl, hWy, hX⟩
  have b0 := Hd.mk (b0.out.below hX)
  have b1 := Hd.mk (b1.out.below hX)
  have b3 := Hd.mk (b3.out.below hX)
  have b4 := Hd.mk (b4.out.below hX)
  have b5 := Hd.mk (b5.out.below hX)
  have hF := Hd.mk (Ty.O_below hF.out hX)
  have hB := Hd.mk (below_then hB.out hX)
  have hz_ := hX.size
  clear hX
  have z8 := Hd.mk hz_; clear hz_
  obtain ⟨AW, cW, hvw, _, _⟩ := R_C hWy
  subst hvw
  replace hWy := Hd.mk (show str.R 9 w8 (rng W7.heap.size w8.heap.size) _ (wayV fp.s) from R_bound hWy)
  obtain ⟨bw, hbw⟩ : ∃ z, z = wayOk fp.s := ⟨_, rfl⟩
  rw [← hbw]
  have EBW := Hd.mk hbw; clear hbw
  obtain ⟨qn, hqn⟩ : ∃ z, z = nameAt kindL fo.s := ⟨_, rfl⟩
  have hq_ := nameAt_le kindL fo.s
  rw [← hqn] at hq_
  have hq0 : -1 ≤ qn := hq_.2.1
  have hq1 : qn < 4 := hq_.1
  obtain ⟨ku, hku⟩ : ∃ z : Int, z = 1 + qn := ⟨_, rfl⟩
  have hwq : IntKind.i64.wrap (1 + qn) = ku := by rw [IntKind.wrap_i64]; omega
  have HKU := Hd.mk (show 1 + nameAt kindL fo.s = ku by rw [← hqn, hku])
  have HQN := Hd.mk hqn
  clear hq_ hqn hku
  obtain ⟨fb0_0, fb0_1, fb0_2, fb0_3, fb0_4, fb0_z⟩ := blk5 b0.out
  obtain ⟨fb1_0, fb1_1, fb1_2, fb1_3, fb1_4, fb1_5, fb1_6, fb1_z⟩ := blk7 b1.out
  obtain ⟨fb3_0, fb3_1, fb3_2, fb3_3, fb3_4, fb3_z⟩ := blk5 b3.out
  obtain ⟨fb4_0, fb4_1, fb4_2, fb4_3, fb4_4, fb4_z⟩ := blk5 b4.out
  obtain ⟨fb5_0, fb5_1, fb5_2, fb5_3, fb5_4, fb5_z⟩ := blk5 b5.out
  go_wp2_with fail
  clear fb0_0 fb0_1 fb0_2 fb0_3 fb0_4 fb0_z fb1_0 fb1_1 fb1_2 fb1_3 fb1_4 fb1_5 fb1_6 fb1_z fb3_0 fb3_1 fb3_2 fb3_3 fb3_4 fb3_z fb4_0 fb4_1 fb4_2 fb4_3 fb4_4 fb4_z fb5_0 fb5_1 fb5_2 fb5_3 fb5_4 fb5_z
  obtain ⟨RR, hRR⟩ : ∃ RR : Act → World → Prop, RR = (fun a w' => ∃ (p : Nat) (u13 u14 u15 u16 u17 u18 u19 u20 u21 u22 u23 u24 u25 u26 u27 u28 u29 u30 u31 u32 u33 u34 u35 u36 u37 u38 u39 u40 u41 : Value), a = ⟨#[.agg #[Value.int IntKind.i64 x.kind, Value.int IntKind.i64 x.n, Value.string x.s, Value.slice A1 x.list.length c1, Value.slice A2 x.names.length c2], .pointer (some ⟨w.heap.size, 0, none⟩), .pointer (some ⟨w.heap.size + 1, 0, none⟩), .bool false, .pointer (some ⟨w2.heap.size, 0, none⟩), .bool bfo, .pointer (some ⟨w4.heap.size, 0, none⟩), .bool bfp, .pointer (some ⟨w6.heap.size, 0, none⟩), .bool bfv, Value.slice AW (wayV fp.s).length cW, .bool bw, .pointer (some ⟨p, 0, none⟩), u13, u14, u15, u16, u17, u18, u19, u20, u21, u22, u23, u24, u25, u26, u27, u28, u29, u30, u31, u32, u33, u34, u35, u36, u37, u38, u39, u40, u41, undef, undef, undef, undef, undef, undef, undef, undef, undef, undef, undef, undef, undef, undef, undef, undef, undef, undef, undef, undef, undef, undef, undef, undef], []⟩ ∧ Hd (Blk w' p #[Value.int IntKind.i64 ku, Value.slice AW (wayV fp.s).length cW, Value.int IntKind.i64 fv.kind, Value.int IntKind.i64 fv.n, Value.string fv.s, Value.slice Afv fv.list.length cfv, Value.slice Bfv fv.names.length dfv] 49) ∧ Hd (Blk w' (w.heap.size) #[Value.int IntKind.i64 x.kind, Value.int IntKind.i64 x.n, Value.string x.s, Value.slice A1 x.list.length c1, Value.slice A2 x.names.length c2] 40) ∧ Hd (Blk w' (w.heap.size + 1) #[Value.int IntKind.i64 0, Value.slice none 0 0, Value.int IntKind.i64 0, Value.int IntKind.i64 0, Value.string ⟨#[]⟩, Value.slice none 0 0, Value.slice none 0 0] 49) ∧ Hd (Blk w' (w2.heap.size) #[Value.int IntKind.i64 fo.kind, Value.int IntKind.i64 fo.n, Value.string fo.s, Value.slice Afo fo.list.length cfo, Value.slice Bfo fo.names.length dfo] 40) ∧ Hd (Blk w' (w4.heap.size) #[Value.int IntKind.i64 fp.kind, Value.int IntKind.i64 fp.n, Value.string fp.s, Value.slice Afp fp.list.length cfp, Value.slice Bfp fp.names.length dfp] 40) ∧ Hd (Blk w' (w6.heap.size) #[Value.int IntKind.i64 fv.kind, Value.int IntKind.i64 fv.n, Value.string fv.s, Value.slice Afv fv.list.length cfv, Value.slice Bfv fv.names.length dfv] 40) ∧ Hd (str.R 9 w' (rng W7.heap.size w8.heap.size) (Value.slice AW (wayV fp.s).length cW) (wayV fp.s)) ∧ Hd ((tJ (m + 1)).O w' (rng W5.heap.size w6.heap.size) fv [Value.int IntKind.i64 fv.kind, Value.int IntKind.i64 fv.n, Value.string fv.s, Value.slice Afv fv.list.length cfv, Value.slice Bfv fv.names.length dfv]) ∧ Hd (w8.heap.size ≤ p) ∧ Hd (Below w.heap.size w w')) := ⟨_, rfl⟩
  have HRR := Hd.mk hRR; clear hRR
  refine region_to RR ?_ ?_
  case refine_1 =>
    obtain ⟨fb0_0, fb0_1, fb0_2, fb0_3, fb0_4, fb0_z⟩ := blk5 b0.out
    obtain ⟨fb1_0, fb1_1, fb1_2, fb1_3, fb1_4, fb1_5, fb1_6, fb1_z⟩ := blk7 b1.out
    obtain ⟨fb3_0, fb3_1, fb3_2, fb3_3, fb3_4, fb3_z⟩ := blk5 b3.out
    obtain ⟨fb4_0, fb4_1, fb4_2, fb4_3, fb4_4, fb4_z⟩ := blk5 b4.out
    obtain ⟨fb5_0, fb5_1, fb5_2, fb5_3, fb5_4, fb5_z⟩ := blk5 b5.out
    have rfb0_0 := cell_regrown fb0_0
    have rfb0_1 := cell_regrown fb0_1
    have rfb0_2 := cell_regrown fb0_2
    have rfb0_3 := cell_regrown fb0_3
    have rfb0_4 := cell_regrown fb0_4
    have rfb1_0 := cell_regrown fb1_0
    have rfb1_1 := cell_regrown fb1_1
    have rfb1_2 := cell_regrown fb1_2
    have rfb1_3 := cell_regrown fb1_3
    have rfb1_4 := cell_regrown fb1_4
    have rfb1_5 := cell_regrown fb1_5
    have rfb1_6 := cell_regrown fb1_6
    have rfb3_0 := cell_regrown fb3_0
    have rfb3_1 := cell_regrown fb3_1
    have rfb3_2 := cell_regrown fb3_2
    have rfb3_3 := cell_regrown fb3_3
    have rfb3_4 := cell_regrown fb3_4
    have rfb4_0 := cell_regrown fb4_0
    have rfb4_1 := cell_regrown fb4_1
    have rfb4_2 := cell_regrown fb4_2
    have rfb4_3 := cell_regrown fb4_3
    have rfb4_4 := cell_regrown fb4_4
    have rfb5_0 := cell_regrown fb5_0
    have rfb5_1 := cell_regrown fb5_1
    have rfb5_2 := cell_regrown fb5_2
    have rfb5_3 := cell_regrown fb5_3
    have rfb5_4 := cell_regrown fb5_4
    refine region_mixT (.q 6 (.p 1 (.q 2 (.p 5 (.br 0 8 (.br 3 8 (.p 4 (.q 7 (.b 8 .fin))) (.b 3 (.p 4 (.q 7 .fin)))) (.b 0 (.b 3 (.p 4 (.q 7 .fin))))))))) [9] (by kernel_rfl) (by kernel_rfl) (fun _ _ _ _ _ h => h) ?_
    refine genT ?_
    intro W9 hW
    have hS := Hd.mk (show Below w8.heap.size w8 W9 by rw [hW]; exact below_drew (Below.refl _ _))
    have hz_ : w8.heap.size ≤ W9.heap.size := by rw [hW]; simp
    have hE : Below w8.heap.size w8 W9 := by rw [hW]; (repeat (first | with_reducible refine below_alloc ?_ _ | with_reducible refine below_drew ?_)); exact Below.refl _ _
    have hB := Hd.mk (below_then hB.out hE)
    have b0 := Hd.mk (b0.out.below hE)
    have b1 := Hd.mk (b1.out.below hE)
    have b3 := Hd.mk (b3.out.below hE)
    have b4 := Hd.mk (b4.out.below hE)
    have b5 := Hd.mk (b5.out.below hE)
    have hF := Hd.mk (Ty.O_below hF.out hE)
    have hWy := Hd.mk (R_below hWy.out hE)
    clear hW hE
    have z9 := Hd.mk hz_; clear hz_
    refine mixT_q rfl ?_
    go_big_quiet_want; go_big_quiet_op; go_big_quiet_on; refine wpQuiet_nil ?_
    refine mixT_p rfl ?_
    go_big_quiet_want; go_big_quiet_op; go_big_quiet_on; refine wpQuiet_nil ?_
    refine mixT_q rfl ?_
    go_big_quiet_want; go_big_quiet_op; go_big_quiet_on; refine wpQuiet_nil ?_
    refine mixT_p rfl ?_
    go_big_quiet_want; go_big_quiet_op; go_big_quiet_on; refine wpQuiet_nil ?_
    refine ⟨?_, ?_⟩
    · refine stepM_of rfl ?_ (by rfl)
      go_wp2_with fail
      apply calls_gen; intro W10 hW
      have hz_ : W9.heap.size ≤ W10.heap.size := by rw [hW]; simp
      have hE : Below W9.heap.size W9 W10 := by rw [hW]; (repeat (first | with_reducible refine below_alloc ?_ _ | with_reducible refine below_drew ?_)); exact Below.refl _ _
      have hB := Hd.mk (below_then hB.out hE)
      replace hS := Hd.mk (below_then hS.out hE)
      have b0 := Hd.mk (b0.out.below hE)
      have b1 := Hd.mk (b1.out.below hE)
      have b3 := Hd.mk (b3.out.below hE)
      have b4 := Hd.mk (b4.out.below hE)
      have b5 := Hd.mk (b5.out.below hE)
      have hF := Hd.mk (Ty.O_below hF.out hE)
      have hWy := Hd.mk (R_below hWy.out hE)
      clear hW hE
      have z10 := Hd.mk hz_; clear hz_
      refine (impl_opNames _).mono ?_
      rintro e w11 ⟨AK, rfl, hKN, hX⟩
      have b0 := Hd.mk (b0.out.below hX)
      have b1 := Hd.mk (b1.out.below hX)
      have b3 := Hd.mk (b3.out.below hX)
      have b4 := Hd.mk (b4.out.below hX)
      have b5 := Hd.mk (b5.out.below hX)
      have hF := Hd.mk (Ty.O_below hF.out hX)
      have hWy := Hd.mk (R_below hWy.out hX)
      have hB := Hd.mk (below_then hB.out hX)
      replace hS := Hd.mk (below_then hS.out hX)
      have hz_ := hX.size
      clear hX
      have z11 := Hd.mk hz_; clear hz_
      replace hKN := Hd.mk hKN
      go_wp2_with fail
      refine ⟨cls_below hS.out, ?_⟩
      refine ⟨?_, ?_⟩
      · refine stepM_of rfl ?_ (by rfl)
        go_wp2_with fail
        apply calls_gen; intro W12 hW
        have hz_ : w11.heap.size ≤ W12.heap.size := by rw [hW]; simp
        have hE : Below w11.heap.size w11 W12 := by rw [hW]; (repeat (first | with_reducible refine below_alloc ?_ _ | with_reducible refine below_drew ?_)); exact Below.refl _ _
        have hB := Hd.mk (below_then hB.out hE)
        replace hS := Hd.mk (below_then hS.out hE)
        have b0 := Hd.mk (b0.out.below hE)
        have b1 := Hd.mk (b1.out.below hE)
        have b3 := Hd.mk (b3.out.below hE)
        have b4 := Hd.mk (b4.out.below hE)
        have b5 := Hd.mk (b5.out.below hE)
        have hF := Hd.mk (Ty.O_below hF.out hE)
        have hWy := Hd.mk (R_below hWy.out hE)
        have hKN := Hd.mk (C_below hKN.out hE)
        clear hW hE
        have z12 := Hd.mk hz_; clear hz_
        refine (slices_Index_str _ _ kindL fo.s _ hKN.out).mono ?_
        rintro e w13 ⟨rfl, hX⟩
        have b0 := Hd.mk (b0.out.below hX)
        have b1 := Hd.mk (b1.out.below hX)
        have b3 := Hd.mk (b3.out.below hX)
        have b4 := Hd.mk (b4.out.below hX)
        have b5 := Hd.mk (b5.out.below hX)
        have hF := Hd.mk (Ty.O_below hF.out hX)
        have hWy := Hd.mk (R_below hWy.out hX)
        have hKN := Hd.mk (C_below hKN.out hX)
        have hB := Hd.mk (below_then hB.out hX)
        replace hS := Hd.mk (below_then hS.out hX)
        have hz_ := hX.size
        clear hX
        have z13 := Hd.mk hz_; clear hz_
        rw [← HQN.out]
        go_wp2_with fail
        refine ⟨cls_below hS.out, ?_⟩
        clear hKN
        refine mixT_p rfl ?_
        go_big_quiet_want; go_big_quiet_op; go_big_quiet_on; refine wpQuiet_nil ?_
        refine mixT_q rfl ?_
        go_big_quiet_want; go_big_quiet_op; go_big_quiet_on; refine wpQuiet_nil ?_
        refine mixT_b rfl ?_ (by rfl)
        go_wp2_with fail
        refine ⟨cls_below (below_alloc hS.out _), ?_⟩
        refine genT ?_; intro W14 hW
        have hz_ : w13.heap.size + 1 ≤ W14.heap.size := by rw [hW]; simp
        have hE : Below w13.heap.size w13 W14 := by rw [hW]; (repeat (first | with_reducible refine below_alloc ?_ _ | with_reducible refine below_drew ?_)); exact Below.refl _ _
        have hB := Hd.mk (below_then hB.out hE)
        replace hS := Hd.mk (below_then hS.out hE)
        have b0 := Hd.mk (b0.out.below hE)
        have b1 := Hd.mk (b1.out.below hE)
        have b3 := Hd.mk (b3.out.below hE)
        have b4 := Hd.mk (b4.out.below hE)
        have b5 := Hd.mk (b5.out.below hE)
        have b6 := Hd.mk (show Blk W14 (w13.heap.size) #[Value.int IntKind.i64 0, Value.slice none 0 0, Value.int IntKind.i64 0, Value.int IntKind.i64 0, Value.string ⟨#[]⟩, Value.slice none 0 0, Value.slice none 0 0] 49 by rw [hW]; first | exact (Blk.new _ _ _) | (simpa using (Blk.new _ _ _)))
        have hF := Hd.mk (Ty.O_below hF.out hE)
        have hWy := Hd.mk (R_below hWy.out hE)
        clear hW hE
        have z14 := Hd.mk hz_; clear hz_
        refine mixT_fin ?_
        clear hS
        clear rfb0_0 rfb0_1 rfb0_2 rfb0_3 rfb0_4 rfb1_0 rfb1_1 rfb1_2 rfb1_3 rfb1_4 rfb1_5 rfb1_6 rfb3_0 rfb3_1 rfb3_2 rfb3_3 rfb3_4 rfb4_0 rfb4_1 rfb4_2 rfb4_3 rfb4_4 rfb5_0 rfb5_1 rfb5_2 rfb5_3 rfb5_4
        clear fb0_0 fb0_1 fb0_2 fb0_3 fb0_4 fb0_z fb1_0 fb1_1 fb1_2 fb1_3 fb1_4 fb1_5 fb1_6 fb1_z fb3_0 fb3_1 fb3_2 fb3_3 fb3_4 fb3_z fb4_0 fb4_1 fb4_2 fb4_3 fb4_4 fb4_z fb5_0 fb5_1 fb5_2 fb5_3 fb5_4 fb5_z
        obtain ⟨fb0_0, fb0_1, fb0_2, fb0_3, fb0_4, fb0_z⟩ := blk5 b0.out
        obtain ⟨fb1_0, fb1_1, fb1_2, fb1_3, fb1_4, fb1_5, fb1_6, fb1_z⟩ := blk7 b1.out
        obtain ⟨fb3_0, fb3_1, fb3_2, fb3_3, fb3_4, fb3_z⟩ := blk5 b3.out
        obtain ⟨fb4_0, fb4_1, fb4_2, fb4_3, fb4_4, fb4_z⟩ := blk5 b4.out
        obtain ⟨fb5_0, fb5_1, fb5_2, fb5_3, fb5_4, fb5_z⟩ := blk5 b5.out
        obtain ⟨fb6_0, fb6_1, fb6_2, fb6_3, fb6_4, fb6_5, fb6_6, fb6_z⟩ := blk7 b6.out
        refine tail_b rfl ?_ (by rfl)
        go_wp2_with (refine store_blk rfl 49 _ _ rfl (w13.heap.size) #[Value.int IntKind.i64 ku, Value.slice AW (wayV fp.s).length cW, Value.int IntKind.i64 fv.kind, Value.int IntKind.i64 fv.n, Value.string fv.s, Value.slice Afv fv.list.length cfv, Value.slice Bfv fv.names.length dfv] rfl rfl b6.out info7 rfl (by simp [Value.oneCell']) (fun W5 b5_ hf5 hz5 => ?_); have hz5' := Hd.mk hz5; clear hz5)
        refine mixQ_n ?_
        refine tail_nil ?_
        clear fb0_0 fb0_1 fb0_2 fb0_3 fb0_4 fb0_z fb1_0 fb1_1 fb1_2 fb1_3 fb1_4 fb1_5 fb1_6 fb1_z fb3_0 fb3_1 fb3_2 fb3_3 fb3_4 fb3_z fb4_0 fb4_1 fb4_2 fb4_3 fb4_4 fb4_z fb5_0 fb5_1 fb5_2 fb5_3 fb5_4 fb5_z fb6_0 fb6_1 fb6_2 fb6_3 fb6_4 fb6_5 fb6_6 fb6_z
        refine region_gen ?_; intro W hW; obtain rfl := hW
        have hBs := hB.out.size
        have z1_ := z1.out; have z2_ := z2.out; have z3_ := z3.out; have z4_ := z4.out; have z5_ := z5.out; have z6_ := z6.out; have z7_ := z7.out; have z8_ := z8.out; have z9_ := z9.out; have z10_ := z10.out; have z11_ := z11.out; have z12_ := z12.out; have z13_ := z13.out; have z14_ := z14.out
        have hz5 := hz5'.out
        rw [HRR.out]
        exact ⟨w13.heap.size, _, _, _, _, _, _, _, _, _, _, _, _, _, _, _, _, _, _, _, _, _, _, _, _, _, _, _, _, _, rfl, ⟨b5_⟩, ⟨b0.out.fr hf5 (fun h => by have hlt_ := b0.out.lt; (try simp only at h); omega)⟩, ⟨b1.out.fr hf5 (fun h => by have hlt_ := b1.out.lt; (try simp only at h); omega)⟩, ⟨b3.out.fr hf5 (fun h => by have hlt_ := b3.out.lt; (try simp only at h); omega)⟩, ⟨b4.out.fr hf5 (fun h => by have hlt_ := b4.out.lt; (try simp only at h); omega)⟩, ⟨b5.out.fr hf5 (fun h => by have hlt_ := b5.out.lt; (try simp only at h); omega)⟩, ⟨R_fr hWy.out hf5 (fun k hk hl h => by have q1 := hk.1; have q2 := hk.2; (try simp only at h); omega)⟩, ⟨Ty.O_fr hF.out hf5 (fun k hk hl h => by have q1 := hk.1; have q2 := hk.2; (try simp only at h); omega)⟩, ⟨by omega⟩, ⟨below_frS hB.out hf5 (fun k h => by (try simp only at h); omega)⟩⟩
      · refine stepM_of rfl ?_ (by rfl)
        go_wp2_with fail
        refine ⟨cls_below (below_alloc hS.out _), ?_⟩
        refine genT ?_; intro W12 hW
        have hz_ : w11.heap.size + 1 ≤ W12.heap.size := by rw [hW]; simp
        have hE : Below w11.heap.size w11 W12 := by rw [hW]; (repeat (first | with_reducible refine below_alloc ?_ _ | with_reducible refine below_drew ?_)); exact Below.refl _ _
        have hB := Hd.mk (below_then hB.out hE)
        replace hS := Hd.mk (below_then hS.out hE)
        have b0 := Hd.mk (b0.out.below hE)
        have b1 := Hd.mk (b1.out.below hE)
        have b3 := Hd.mk (b3.out.below hE)
        have b4 := Hd.mk (b4.out.below hE)
        have b5 := Hd.mk (b5.out.below hE)
        have b6 := Hd.mk (show Blk W12 (w11.heap.size) #[Value.int IntKind.i64 0, Value.slice none 0 0, Value.int IntKind.i64 0, Value.int IntKind.i64 0, Value.string ⟨#[]⟩, Value.slice none 0 0, Value.slice none 0 0] 49 by rw [hW]; first | exact (Blk.new _ _ _) | (simpa using (Blk.new _ _ _)))
        have hF := Hd.mk (Ty.O_below hF.out hE)
        have hWy := Hd.mk (R_below hWy.out hE)
        have hKN := Hd.mk (C_below hKN.out hE)
        clear hW hE
        have z12 := Hd.mk hz_; clear hz_
        refine mixT_b rfl ?_ (by rfl)
        go_wp2_with fail
        apply calls_gen; intro W13 hW
        have hz_ : W12.heap.size ≤ W13.heap.size := by rw [hW]; simp
        have hE : Below W12.heap.size W12 W13 := by rw [hW]; (repeat (first | with_reducible refine below_alloc ?_ _ | with_reducible refine below_drew ?_)); exact Below.refl _ _
        have hB := Hd.mk (below_then hB.out hE)
        replace hS := Hd.mk (below_then hS.out hE)
        have b0 := Hd.mk (b0.out.below hE)
        have b1 := Hd.mk (b1.out.below hE)
        have b3 := Hd.mk (b3.out.below hE)
        have b4 := Hd.mk (b4.out.below hE)
        have b5 := Hd.mk (b5.out.below hE)
        have b6 := Hd.mk (b6.out.below hE)
        have hF := Hd.mk (Ty.O_below hF.out hE)
        have hWy := Hd.mk (R_below hWy.out hE)
        have hKN := Hd.mk (C_below hKN.out hE)
        clear hW hE
        have z13 := Hd.mk hz_; clear hz_
        refine (slices_Index_str _ _ kindL fo.s _ hKN.out).mono ?_
        rintro e w14 ⟨rfl, hX⟩
        have b0 := Hd.mk (b0.out.below hX)
        have b1 := Hd.mk (b1.out.below hX)
        have b3 := Hd.mk (b3.out.below hX)
        have b4 := Hd.mk (b4.out.below hX)
        have b5 := Hd.mk (b5.out.below hX)
        have b6 := Hd.mk (b6.out.below hX)
        have hF := Hd.mk (Ty.O_below hF.out hX)
        have hWy := Hd.mk (R_below hWy.out hX)
        have hKN := Hd.mk (C_below hKN.out hX)
        have hB := Hd.mk (below_then hB.out hX)
        replace hS := Hd.mk (below_then hS.out hX)
        have hz_ := hX.size
        clear hX
        have z14 := Hd.mk hz_; clear hz_
        rw [← HQN.out]
        go_wp2_with fail
        refine ⟨cls_below hS.out, ?_⟩
        clear hKN
        refine mixT_p rfl ?_
        go_big_quiet_want; go_big_quiet_op; go_big_quiet_on; refine wpQuiet_nil ?_
        refine mixT_q rfl ?_
        go_big_quiet_want; go_big_quiet_op; go_big_quiet_on; refine wpQuiet_nil ?_
        refine mixT_fin ?_
        clear hS
        clear rfb0_0 rfb0_1 rfb0_2 rfb0_3 rfb0_4 rfb1_0 rfb1_1 rfb1_2 rfb1_3 rfb1_4 rfb1_5 rfb1_6 rfb3_0 rfb3_1 rfb3_2 rfb3_3 rfb3_4 rfb4_0 rfb4_1 rfb4_2 rfb4_3 rfb4_4 rfb5_0 rfb5_1 rfb5_2 rfb5_3 rfb5_4
        clear fb0_0 fb0_1 fb0_2 fb0_3 fb0_4 fb0_z fb1_0 fb1_1 fb1_2 fb1_3 fb1_4 fb1_5 fb1_6 fb1_z fb3_0 fb3_1 fb3_2 fb3_3 fb3_4 fb3_z fb4_0 fb4_1 fb4_2 fb4_3 fb4_4 fb4_z fb5_0 fb5_1 fb5_2 fb5_3 fb5_4 fb5_z
        obtain ⟨fb0_0, fb0_1, fb0_2, fb0_3, fb0_4, fb0_z⟩ := blk5 b0.out
        obtain ⟨fb1_0, fb1_1, fb1_2, fb1_3, fb1_4, fb1_5, fb1_6, fb1_z⟩ := blk7 b1.out
        obtain ⟨fb3_0, fb3_1, fb3_2, fb3_3, fb3_4, fb3_z⟩ := blk5 b3.out
        obtain ⟨fb4_0, fb4_1, fb4_2, fb4_3, fb4_4, fb4_z⟩ := blk5 b4.out
        obtain ⟨fb5_0, fb5_1, fb5_2, fb5_3, fb5_4, fb5_z⟩ := blk5 b5.out
        obtain ⟨fb6_0, fb6_1, fb6_2, fb6_3, fb6_4, fb6_5, fb6_6, fb6_z⟩ := blk7 b6.out
        refine tail_b rfl ?_ (by rfl)
        go_wp2_with (refine store_blk rfl 49 _ _ rfl (w11.heap.size) #[Value.int IntKind.i64 ku, Value.slice AW (wayV fp.s).length cW, Value.int IntKind.i64 fv.kind, Value.int IntKind.i64 fv.n, Value.string fv.s, Value.slice Afv fv.list.length cfv, Value.slice Bfv fv.names.length dfv] rfl rfl b6.out info7 rfl (by simp [Value.oneCell']) (fun W5 b5_ hf5 hz5 => ?_); have hz5' := Hd.mk hz5; clear hz5)
        refine mixQ_n ?_
        refine tail_nil ?_
        clear fb0_0 fb0_1 fb0_2 fb0_3 fb0_4 fb0_z fb1_0 fb1_1 fb1_2 fb1_3 fb1_4 fb1_5 fb1_6 fb1_z fb3_0 fb3_1 fb3_2 fb3_3 fb3_4 fb3_z fb4_0 fb4_1 fb4_2 fb4_3 fb4_4 fb4_z fb5_0 fb5_1 fb5_2 fb5_3 fb5_4 fb5_z fb6_0 fb6_1 fb6_2 fb6_3 fb6_4 fb6_5 fb6_6 fb6_z
        refine region_gen ?_; intro W hW; obtain rfl := hW
        have hBs := hB.out.size
        have z1_ := z1.out; have z2_ := z2.out; have z3_ := z3.out; have z4_ := z4.out; have z5_ := z5.out; have z6_ := z6.out; have z7_ := z7.out; have z8_ := z8.out; have z9_ := z9.out; have z10_ := z10.out; have z11_ := z11.out; have z12_ := z12.out; have z13_ := z13.out; have z14_ := z14.out
        have hz5 := hz5'.out
        rw [HRR.out]
        exact ⟨w11.heap.size, _, _, _, _, _, _, _, _, _, _, _, _, _, _, _, _, _, _, _, _, _, _, _, _, _, _, _, _, _, rfl, ⟨b5_⟩, ⟨b0.out.fr hf5 (fun h => by have hlt_ := b0.out.lt; (try simp only at h); omega)⟩, ⟨b1.out.fr hf5 (fun h => by have hlt_ := b1.out.lt; (try simp only at h); omega)⟩, ⟨b3.out.fr hf5 (fun h => by have hlt_ := b3.out.lt; (try simp only at h); omega)⟩, ⟨b4.out.fr hf5 (fun h => by have hlt_ := b4.out.lt; (try simp only at h); omega)⟩, ⟨b5.out.fr hf5 (fun h => by have hlt_ := b5.out.lt; (try simp only at h); omega)⟩, ⟨R_fr hWy.out hf5 (fun k hk hl h => by have q1 := hk.1; have q2 := hk.2; (try simp only at h); omega)⟩, ⟨Ty.O_fr hF.out hf5 (fun k hk hl h => by have q1 := hk.1; have q2 := hk.2; (try simp only at h); omega)⟩, ⟨by omega⟩, ⟨below_frS hB.out hf5 (fun k h => by (try simp only at h); omega)⟩⟩
    · refine stepM_of rfl ?_ (by rfl)
      go_wp2_with fail
      refine ⟨cls_below (below_alloc hS.out _), ?_⟩
      refine genT ?_; intro W10 hW
      have hz_ : W9.heap.size + 1 ≤ W10.heap.size := by rw [hW]; simp
      have hE : Below W9.heap.size W9 W10 := by rw [hW]; (repeat (first | with_reducible refine below_alloc ?_ _ | with_reducible refine below_drew ?_)); exact Below.refl _ _
      have hB := Hd.mk (below_then hB.out hE)
      replace hS := Hd.mk (below_then hS.out hE)
      have b0 := Hd.mk (b0.out.below hE)
      have b1 := Hd.mk (b1.out.below hE)
      have b3 := Hd.mk (b3.out.below hE)
      have b4 := Hd.mk (b4.out.below hE)
      have b5 := Hd.mk (b5.out.below hE)
      have b6 := Hd.mk (show Blk W10 (W9.heap.size) #[Value.int IntKind.i64 0, Value.slice none 0 0, Value.int IntKind.i64 0, Value.int IntKind.i64 0, Value.string ⟨#[]⟩, Value.slice none 0 0, Value.slice none 0 0] 49 by rw [hW]; first | exact (Blk.new _ _ _) | (simpa using (Blk.new _ _ _)))
      have hF := Hd.mk (Ty.O_below hF.out hE)
      have hWy := Hd.mk (R_below hWy.out hE)
      clear hW hE
      have z10 := Hd.mk hz_; clear hz_
      refine mixT_b rfl ?_ (by rfl)
      go_wp2_with fail
      apply calls_gen; intro W11 hW
      have hz_ : W10.heap.size ≤ W11.heap.size := by rw [hW]; simp
      have hE : Below W10.heap.size W10 W11 := by rw [hW]; (repeat (first | with_reducible refine below_alloc ?_ _ | with_reducible refine below_drew ?_)); exact Below.refl _ _
      have hB := Hd.mk (below_then hB.out hE)
      replace hS := Hd.mk (below_then hS.out hE)
      have b0 := Hd.mk (b0.out.below hE)
      have b1 := Hd.mk (b1.out.below hE)
      have b3 := Hd.mk (b3.out.below hE)
      have b4 := Hd.mk (b4.out.below hE)
      have b5 := Hd.mk (b5.out.below hE)
      have b6 := Hd.mk (b6.out.below hE)
      have hF := Hd.mk (Ty.O_below hF.out hE)
      have hWy := Hd.mk (R_below hWy.out hE)
      clear hW hE
      have z11 := Hd.mk hz_; clear hz_
      refine (impl_opNames _).mono ?_
      rintro e w12 ⟨AK, rfl, hKN, hX⟩
      have b0 := Hd.mk (b0.out.below hX)
      have b1 := Hd.mk (b1.out.below hX)
      have b3 := Hd.mk (b3.out.below hX)
      have b4 := Hd.mk (b4.out.below hX)
      have b5 := Hd.mk (b5.out.below hX)
      have b6 := Hd.mk (b6.out.below hX)
      have hF := Hd.mk (Ty.O_below hF.out hX)
      have hWy := Hd.mk (R_below hWy.out hX)
      have hB := Hd.mk (below_then hB.out hX)
      replace hS := Hd.mk (below_then hS.out hX)
      have hz_ := hX.size
      clear hX
      have z12 := Hd.mk hz_; clear hz_
      replace hKN := Hd.mk hKN
      go_wp2_with fail
      refine ⟨cls_below hS.out, ?_⟩
      refine mixT_b rfl ?_ (by rfl)
      go_wp2_with fail
      apply calls_gen; intro W13 hW
      have hz_ : w12.heap.size ≤ W13.heap.size := by rw [hW]; simp
      have hE : Below w12.heap.size w12 W13 := by rw [hW]; (repeat (first | with_reducible refine below_alloc ?_ _ | with_reducible refine below_drew ?_)); exact Below.refl _ _
      have hB := Hd.mk (below_then hB.out hE)
      replace hS := Hd.mk (below_then hS.out hE)
      have b0 := Hd.mk (b0.out.below hE)
      have b1 := Hd.mk (b1.out.below hE)
      have b3 := Hd.mk (b3.out.below hE)
      have b4 := Hd.mk (b4.out.below hE)
      have b5 := Hd.mk (b5.out.below hE)
      have b6 := Hd.mk (b6.out.below hE)
      have hF := Hd.mk (Ty.O_below hF.out hE)
      have hWy := Hd.mk (R_below hWy.out hE)
      have hKN := Hd.mk (C_below hKN.out hE)
      clear hW hE
      have z13 := Hd.mk hz_; clear hz_
      refine (slices_Index_str _ _ kindL fo.s _ hKN.out).mono ?_
      rintro e w14 ⟨rfl, hX⟩
      have b0 := Hd.mk (b0.out.below hX)
      have b1 := Hd.mk (b1.out.below hX)
      have b3 := Hd.mk (b3.out.below hX)
      have b4 := Hd.mk (b4.out.below hX)
      have b5 := Hd.mk (b5.out.below hX)
      have b6 := Hd.mk (b6.out.below hX)
      have hF := Hd.mk (Ty.O_below hF.out hX)
      have hWy := Hd.mk (R_below hWy.out hX)
      have hKN := Hd.mk (C_below hKN.out hX)
      have hB := Hd.mk (below_then hB.out hX)
      replace hS := Hd.mk (below_then hS.out hX)
      have hz_ := hX.size
      clear hX
      have z14 := Hd.mk hz_; clear hz_
      rw [← HQN.out]
      go_wp2_with fail
      refine ⟨cls_below hS.out, ?_⟩
      clear hKN
      refine mixT_p rfl ?_
      go_big_quiet_want; go_big_quiet_op; go_big_quiet_on; refine wpQuiet_nil ?_
      refine mixT_q rfl ?_
      go_big_quiet_want; go_big_quiet_op; go_big_quiet_on; refine wpQuiet_nil ?_
      refine mixT_fin ?_
      clear hS
      clear rfb0_0 rfb0_1 rfb0_2 rfb0_3 rfb0_4 rfb1_0 rfb1_1 rfb1_2 rfb1_3 rfb1_4 rfb1_5 rfb1_6 rfb3_0 rfb3_1 rfb3_2 rfb3_3 rfb3_4 rfb4_0 rfb4_1 rfb4_2 rfb4_3 rfb4_4 rfb5_0 rfb5_1 rfb5_2 rfb5_3 rfb5_4
      clear fb0_0 fb0_1 fb0_2 fb0_3 fb0_4 fb0_z fb1_0 fb1_1 fb1_2 fb1_3 fb1_4 fb1_5 fb1_6 fb1_z fb3_0 fb3_1 fb3_2 fb3_3 fb3_4 fb3_z fb4_0 fb4_1 fb4_2 fb4_3 fb4_4 fb4_z fb5_0 fb5_1 fb5_2 fb5_3 fb5_4 fb5_z
      obtain ⟨fb0_0, fb0_1, fb0_2, fb0_3, fb0_4, fb0_z⟩ := blk5 b0.out
      obtain ⟨fb1_0, fb1_1, fb1_2, fb1_3, fb1_4, fb1_5, fb1_6, fb1_z⟩ := blk7 b1.out
      obtain ⟨fb3_0, fb3_1, fb3_2, fb3_3, fb3_4, fb3_z⟩ := blk5 b3.out
      obtain ⟨fb4_0, fb4_1, fb4_2, fb4_3, fb4_4, fb4_z⟩ := blk5 b4.out
      obtain ⟨fb5_0, fb5_1, fb5_2, fb5_3, fb5_4, fb5_z⟩ := blk5 b5.out
      obtain ⟨fb6_0, fb6_1, fb6_2, fb6_3, fb6_4, fb6_5, fb6_6, fb6_z⟩ := blk7 b6.out
      refine tail_b rfl ?_ (by rfl)
      go_wp2_with (refine store_blk rfl 49 _ _ rfl (W9.heap.size) #[Value.int IntKind.i64 ku, Value.slice AW (wayV fp.s).length cW, Value.int IntKind.i64 fv.kind, Value.int IntKind.i64 fv.n, Value.string fv.s, Value.slice Afv fv.list.length cfv, Value.slice Bfv fv.names.length dfv] rfl rfl b6.out info7 rfl (by simp [Value.oneCell']) (fun W5 b5_ hf5 hz5 => ?_); have hz5' := Hd.mk hz5; clear hz5)
      refine mixQ_n ?_
      refine tail_nil ?_
      clear fb0_0 fb0_1 fb0_2 fb0_3 fb0_4 fb0_z fb1_0 fb1_1 fb1_2 fb1_3 fb1_4 fb1_5 fb1_6 fb1_z fb3_0 fb3_1 fb3_2 fb3_3 fb3_4 fb3_z fb4_0 fb4_1 fb4_2 fb4_3 fb4_4 fb4_z fb5_0 fb5_1 fb5_2 fb5_3 fb5_4 fb5_z fb6_0 fb6_1 fb6_2 fb6_3 fb6_4 fb6_5 fb6_6 fb6_z
      refine region_gen ?_; intro W hW; obtain rfl := hW
      have hBs := hB.out.size
      have z1_ := z1.out; have z2_ := z2.out; have z3_ := z3.out; have z4_ := z4.out; have z5_ := z5.out; have z6_ := z6.out; have z7_ := z7.out; have z8_ := z8.out; have z9_ := z9.out; have z10_ := z10.out; have z11_ := z11.out; have z12_ := z12.out; have z13_ := z13.out; have z14_ := z14.out
      have hz5 := hz5'.out
      rw [HRR.out]
      exact ⟨W9.heap.size, _, _, _, _, _, _, _, _, _, _, _, _, _, _, _, _, _, _, _, _, _, _, _, _, _, _, _, _, _, rfl, ⟨b5_⟩, ⟨b0.out.fr hf5 (fun h => by have hlt_ := b0.out.lt; (try simp only at h); omega)⟩, ⟨b1.out.fr hf5 (fun h => by have hlt_ := b1.out.lt; (try simp only at h); omega)⟩, ⟨b3.out.fr hf5 (fun h => by have hlt_ := b3.out.lt; (try simp only at h); omega)⟩, ⟨b4.out.fr hf5 (fun h => by have hlt_ := b4.out.lt; (try simp only at h); omega)⟩, ⟨b5.out.fr hf5 (fun h => by have hlt_ := b5.out.lt; (try simp only at h); omega)⟩, ⟨R_fr hWy.out hf5 (fun k hk hl h => by have q1 := hk.1; have q2 := hk.2; (try simp only at h); omega)⟩, ⟨Ty.O_fr hF.out hf5 (fun k hk hl h => by have q1 := hk.1; have q2 := hk.2; (try simp only at h); omega)⟩, ⟨by omega⟩, ⟨below_frS hB.out hf5 (fun k h => by (try simp only at h); omega)⟩⟩
  case refine_2 =>
    rw [HRR.out]
    clear HRR
    rintro a w1 ⟨p, u13, u14, u15, u16, u17, u18, u19, u20, u21, u22, u23, u24, u25, u26, u27, u28, u29, u30, u31, u32, u33, u34, u35, u36, u37, u38, u39, u40, u41, rfl, b6, b0, b1, b3, b4, b5, hWy, hF, hp, hB1⟩
    replace hB := hB1; clear hB1
    have hlt := Hd.mk b6.out.lt
    have HRI := Hd.mk (show readI x = ⟨ku, wayV fp.s, fv⟩ by unfold readI; rw [← Efo.out, ← Efp.out, ← Efv.out, HKU.out])
    cases bfo
    · have HRB := Hd.mk (show readB x = false by unfold readB; rw [HRI.out, ← EBfo.out, ← EBfp.out, ← Efp.out, ← EBW.out]; simp [false])
      obtain ⟨fb6_0, fb6_1, fb6_2, fb6_3, fb6_4, fb6_5, fb6_6, fb6_z⟩ := blk7 b6.out
      obtain ⟨fb0_0, fb0_1, fb0_2, fb0_3, fb0_4, fb0_z⟩ := blk5 b0.out
      obtain ⟨fb1_0, fb1_1, fb1_2, fb1_3, fb1_4, fb1_5, fb1_6, fb1_z⟩ := blk7 b1.out
      obtain ⟨fb3_0, fb3_1, fb3_2, fb3_3, fb3_4, fb3_z⟩ := blk5 b3.out
      obtain ⟨fb4_0, fb4_1, fb4_2, fb4_3, fb4_4, fb4_z⟩ := blk5 b4.out
      obtain ⟨fb5_0, fb5_1, fb5_2, fb5_3, fb5_4, fb5_z⟩ := blk5 b5.out
      have rfb6_0 := cell_regrown fb6_0
      have rfb6_1 := cell_regrown fb6_1
      have rfb6_2 := cell_regrown fb6_2
      have rfb6_3 := cell_regrown fb6_3
      have rfb6_4 := cell_regrown fb6_4
      have rfb6_5 := cell_regrown fb6_5
      have rfb6_6 := cell_regrown fb6_6
      have rfb0_0 := cell_regrown fb0_0
      have rfb0_1 := cell_regrown fb0_1
      have rfb0_2 := cell_regrown fb0_2
      have rfb0_3 := cell_regrown fb0_3
      have rfb0_4 := cell_regrown fb0_4
      have rfb1_0 := cell_regrown fb1_0
      have rfb1_1 := cell_regrown fb1_1
      have rfb1_2 := cell_regrown fb1_2
      have rfb1_3 := cell_regrown fb1_3
      have rfb1_4 := cell_regrown fb1_4
      have rfb1_5 := cell_regrown fb1_5
      have rfb1_6 := cell_regrown fb1_6
      have rfb3_0 := cell_regrown fb3_0
      have rfb3_1 := cell_regrown fb3_1
      have rfb3_2 := cell_regrown fb3_2
      have rfb3_3 := cell_regrown fb3_3
      have rfb3_4 := cell_regrown fb3_4
      have rfb4_0 := cell_regrown fb4_0
      have rfb4_1 := cell_regrown fb4_1
      have rfb4_2 := cell_regrown fb4_2
      have rfb4_3 := cell_regrown fb4_3
      have rfb4_4 := cell_regrown fb4_4
      have rfb5_0 := cell_regrown fb5_0
      have rfb5_1 := cell_regrown fb5_1
      have rfb5_2 := cell_regrown fb5_2
      have rfb5_3 := cell_regrown fb5_3
      have rfb5_4 := cell_regrown fb5_4
      go_wp2_with fail
      refine region_mix [(true, 0), (true, 1), (true, 2), (true, 3), (true, 4), (true, 5), (true, 6), (true, 7), (true, 8), (true, 9), (true, 10), (true, 11), (false, 12), (true, 13), (true, 14), (true, 15), (true, 16), (true, 18), (false, 17), (false, 19), (true, 20), (true, 21)] (by kernel_rfl) (by kernel_rfl) (fun _ _ _ _ _ h => h) ?_
      (repeat (first | (refine mix_z rfl (by rfl) ?_; go_big_quiet_skip; refine wpQuiet_nil ?_) | (refine mix_q rfl ?_; first | (go_big_quiet_skip; refine wpQuiet_nil ?_) | (go_big_quiet_want; go_big_quiet_op; go_big_quiet_on; refine wpQuiet_nil ?_))))
      refine mix_nil ?_
      clear rfb6_0 rfb6_1 rfb6_2 rfb6_3 rfb6_4 rfb6_5 rfb6_6 rfb0_0 rfb0_1 rfb0_2 rfb0_3 rfb0_4 rfb1_0 rfb1_1 rfb1_2 rfb1_3 rfb1_4 rfb1_5 rfb1_6 rfb3_0 rfb3_1 rfb3_2 rfb3_3 rfb3_4 rfb4_0 rfb4_1 rfb4_2 rfb4_3 rfb4_4 rfb5_0 rfb5_1 rfb5_2 rfb5_3 rfb5_4
      go_wp2_with (refine store_blk rfl 49 _ _ rfl (w.heap.size + 1) #[Value.int IntKind.i64 0, Value.slice none 0 0, Value.int IntKind.i64 0, Value.int IntKind.i64 0, Value.string ⟨#[]⟩, Value.slice none 0 0, Value.slice none 0 0] rfl rfl b1.out info7 rfl (by simp [Value.oneCell']) (fun W5 b5 hf5 hz5 => ?_); clear fb1_0 fb1_1 fb1_2 fb1_3 fb1_4 fb1_5 fb1_6 fb1_z; have y0 : W5.cell? ⟨w.heap.size + 1, 0, none⟩ = some (Value.int IntKind.i64 0) := b5.cell 0 rfl; have y1 : W5.cell? ⟨w.heap.size + 1, 1, none⟩ = some (Value.slice none 0 0) := b5.cell 1 rfl; have y2 : W5.cell? ⟨w.heap.size + 1, 2, none⟩ = some (Value.int IntKind.i64 0) := b5.cell 2 rfl; have y3 : W5.cell? ⟨w.heap.size + 1, 3, none⟩ = some (Value.int IntKind.i64 0) := b5.cell 3 rfl; have y4 : W5.cell? ⟨w.heap.size + 1, 4, none⟩ = some (Value.string ⟨#[]⟩) := b5.cell 4 rfl; have y5 : W5.cell? ⟨w.heap.size + 1, 5, none⟩ = some (Value.slice none 0 0) := b5.cell 5 rfl; have y6 : W5.cell? ⟨w.heap.size + 1, 6, none⟩ = some (Value.slice none 0 0) := b5.cell 6 rfl; have y7 := b5.frozen; have hz5' := Hd.mk hz5; clear hz5)
      refine bodyPost_retW (v := .tuple #[.agg #[Value.int IntKind.i64 0, Value.slice none 0 0, Value.int IntKind.i64 0, Value.int IntKind.i64 0, Value.string ⟨#[]⟩, Value.slice none 0 0, Value.slice none 0 0], .bool false]) (by simp [results, Tryd.results41, go_sem, y0, y1, y2, y3, y4, y5, y6]) rfl ?_
      intro W hW; obtain rfl := hW
      clear y0 y1 y2 y3 y4 y5 y6 y7 fb6_0 fb6_1 fb6_2 fb6_3 fb6_4 fb6_5 fb6_6 fb6_z fb0_0 fb0_1 fb0_2 fb0_3 fb0_4 fb0_z fb3_0 fb3_1 fb3_2 fb3_3 fb3_4 fb3_z fb4_0 fb4_1 fb4_2 fb4_3 fb4_4 fb4_z fb5_0 fb5_1 fb5_2 fb5_3 fb5_4 fb5_z
      have z1_ := z1.out; have z2_ := z2.out; have z3_ := z3.out; have z4_ := z4.out; have z5_ := z5.out; have z6_ := z6.out; have z7_ := z7.out; have z8_ := z8.out; have hp_ := hp.out; have hlt_ := hlt.out
      have hBs := hB.out.size
      have hz5 := hz5'.out
      have hB5 := Hd.mk (below_frS (below_drew hB.out) hf5 (fun k h => by (try simp only at h); omega))
      exact ⟨[Value.int IntKind.i64 0, Value.slice none 0 0, Value.int IntKind.i64 0, Value.int IntKind.i64 0, Value.string ⟨#[]⟩, Value.slice none 0 0, Value.slice none 0 0], by rw [HRB.out], by unfold readO; rw [HRB.out]; exact OpZ m _ _, hB5.out⟩
    · cases bfp
      · have HRB := Hd.mk (show readB x = false by unfold readB; rw [HRI.out, ← EBfo.out, ← EBfp.out, ← Efp.out, ← EBW.out]; simp [false])
        obtain ⟨fb6_0, fb6_1, fb6_2, fb6_3, fb6_4, fb6_5, fb6_6, fb6_z⟩ := blk7 b6.out
        obtain ⟨fb0_0, fb0_1, fb0_2, fb0_3, fb0_4, fb0_z⟩ := blk5 b0.out
        obtain ⟨fb1_0, fb1_1, fb1_2, fb1_3, fb1_4, fb1_5, fb1_6, fb1_z⟩ := blk7 b1.out
        obtain ⟨fb3_0, fb3_1, fb3_2, fb3_3, fb3_4, fb3_z⟩ := blk5 b3.out
        obtain ⟨fb4_0, fb4_1, fb4_2, fb4_3, fb4_4, fb4_z⟩ := blk5 b4.out
        obtain ⟨fb5_0, fb5_1, fb5_2, fb5_3, fb5_4, fb5_z⟩ := blk5 b5.out
        have rfb6_0 := cell_regrown fb6_0
        have rfb6_1 := cell_regrown fb6_1
        have rfb6_2 := cell_regrown fb6_2
        have rfb6_3 := cell_regrown fb6_3
        have rfb6_4 := cell_regrown fb6_4
        have rfb6_5 := cell_regrown fb6_5
        have rfb6_6 := cell_regrown fb6_6
        have rfb0_0 := cell_regrown fb0_0
        have rfb0_1 := cell_regrown fb0_1
        have rfb0_2 := cell_regrown fb0_2
        have rfb0_3 := cell_regrown fb0_3
        have rfb0_4 := cell_regrown fb0_4
        have rfb1_0 := cell_regrown fb1_0
        have rfb1_1 := cell_regrown fb1_1
        have rfb1_2 := cell_regrown fb1_2
        have rfb1_3 := cell_regrown fb1_3
        have rfb1_4 := cell_regrown fb1_4
        have rfb1_5 := cell_regrown fb1_5
        have rfb1_6 := cell_regrown fb1_6
        have rfb3_0 := cell_regrown fb3_0
        have rfb3_1 := cell_regrown fb3_1
        have rfb3_2 := cell_regrown fb3_2
        have rfb3_3 := cell_regrown fb3_3
        have rfb3_4 := cell_regrown fb3_4
        have rfb4_0 := cell_regrown fb4_0
        have rfb4_1 := cell_regrown fb4_1
        have rfb4_2 := cell_regrown fb4_2
        have rfb4_3 := cell_regrown fb4_3
        have rfb4_4 := cell_regrown fb4_4
        have rfb5_0 := cell_regrown fb5_0
        have rfb5_1 := cell_regrown fb5_1
        have rfb5_2 := cell_regrown fb5_2
        have rfb5_3 := cell_regrown fb5_3
        have rfb5_4 := cell_regrown fb5_4
        go_wp2_with fail
        refine region_mix [(true, 0), (true, 1), (true, 2), (true, 3), (true, 4), (true, 5), (true, 6), (true, 7), (true, 8), (true, 9), (true, 10), (true, 11), (false, 12), (true, 13), (true, 14), (true, 15), (true, 16), (true, 18), (false, 17), (false, 19), (true, 20), (true, 21)] (by kernel_rfl) (by kernel_rfl) (fun _ _ _ _ _ h => h) ?_
        (repeat (first | (refine mix_z rfl (by rfl) ?_; go_big_quiet_skip; refine wpQuiet_nil ?_) | (refine mix_q rfl ?_; first | (go_big_quiet_skip; refine wpQuiet_nil ?_) | (go_big_quiet_want; go_big_quiet_op; go_big_quiet_on; refine wpQuiet_nil ?_))))
        refine mix_nil ?_
        clear rfb6_0 rfb6_1 rfb6_2 rfb6_3 rfb6_4 rfb6_5 rfb6_6 rfb0_0 rfb0_1 rfb0_2 rfb0_3 rfb0_4 rfb1_0 rfb1_1 rfb1_2 rfb1_3 rfb1_4 rfb1_5 rfb1_6 rfb3_0 rfb3_1 rfb3_2 rfb3_3 rfb3_4 rfb4_0 rfb4_1 rfb4_2 rfb4_3 rfb4_4 rfb5_0 rfb5_1 rfb5_2 rfb5_3 rfb5_4
        go_wp2_with (refine store_blk rfl 49 _ _ rfl (w.heap.size + 1) #[Value.int IntKind.i64 0, Value.slice none 0 0, Value.int IntKind.i64 0, Value.int IntKind.i64 0, Value.string ⟨#[]⟩, Value.slice none 0 0, Value.slice none 0 0] rfl rfl b1.out info7 rfl (by simp [Value.oneCell']) (fun W5 b5 hf5 hz5 => ?_); clear fb1_0 fb1_1 fb1_2 fb1_3 fb1_4 fb1_5 fb1_6 fb1_z; have y0 : W5.cell? ⟨w.heap.size + 1, 0, none⟩ = some (Value.int IntKind.i64 0) := b5.cell 0 rfl; have y1 : W5.cell? ⟨w.heap.size + 1, 1, none⟩ = some (Value.slice none 0 0) := b5.cell 1 rfl; have y2 : W5.cell? ⟨w.heap.size + 1, 2, none⟩ = some (Value.int IntKind.i64 0) := b5.cell 2 rfl; have y3 : W5.cell? ⟨w.heap.size + 1, 3, none⟩ = some (Value.int IntKind.i64 0) := b5.cell 3 rfl; have y4 : W5.cell? ⟨w.heap.size + 1, 4, none⟩ = some (Value.string ⟨#[]⟩) := b5.cell 4 rfl; have y5 : W5.cell? ⟨w.heap.size + 1, 5, none⟩ = some (Value.slice none 0 0) := b5.cell 5 rfl; have y6 : W5.cell? ⟨w.heap.size + 1, 6, none⟩ = some (Value.slice none 0 0) := b5.cell 6 rfl; have y7 := b5.frozen; have hz5' := Hd.mk hz5; clear hz5)
        refine bodyPost_retW (v := .tuple #[.agg #[Value.int IntKind.i64 0, Value.slice none 0 0, Value.int IntKind.i64 0, Value.int IntKind.i64 0, Value.string ⟨#[]⟩, Value.slice none 0 0, Value.slice none 0 0], .bool false]) (by simp [results, Tryd.results41, go_sem, y0, y1, y2, y3, y4, y5, y6]) rfl ?_
        intro W hW; obtain rfl := hW
        clear y0 y1 y2 y3 y4 y5 y6 y7 fb6_0 fb6_1 fb6_2 fb6_3 fb6_4 fb6_5 fb6_6 fb6_z fb0_0 fb0_1 fb0_2 fb0_3 fb0_4 fb0_z fb3_0 fb3_1 fb3_2 fb3_3 fb3_4 fb3_z fb4_0 fb4_1 fb4_2 fb4_3 fb4_4 fb4_z fb5_0 fb5_1 fb5_2 fb5_3 fb5_4 fb5_z
        have z1_ := z1.out; have z2_ := z2.out; have z3_ := z3.out; have z4_ := z4.out; have z5_ := z5.out; have z6_ := z6.out; have z7_ := z7.out; have z8_ := z8.out; have hp_ := hp.out; have hlt_ := hlt.out
        have hBs := hB.out.size
        have hz5 := hz5'.out
        have hB5 := Hd.mk (below_frS (below_drew hB.out) hf5 (fun k h => by (try simp only at h); omega))
        exact ⟨[Value.int IntKind.i64 0, Value.slice none 0 0, Value.int IntKind.i64 0, Value.int IntKind.i64 0, Value.string ⟨#[]⟩, Value.slice none 0 0, Value.slice none 0 0], by rw [HRB.out], by unfold readO; rw [HRB.out]; exact OpZ m _ _, hB5.out⟩
      · cases bw
        · have HRB := Hd.mk (show readB x = false by unfold readB; rw [HRI.out, ← EBfo.out, ← EBfp.out, ← Efp.out, ← EBW.out]; simp [false])
          obtain ⟨fb6_0, fb6_1, fb6_2, fb6_3, fb6_4, fb6_5, fb6_6, fb6_z⟩ := blk7 b6.out
          obtain ⟨fb0_0, fb0_1, fb0_2, fb0_3, fb0_4, fb0_z⟩ := blk5 b0.out
          obtain ⟨fb1_0, fb1_1, fb1_2, fb1_3, fb1_4, fb1_5, fb1_6, fb1_z⟩ := blk7 b1.out
          obtain ⟨fb3_0, fb3_1, fb3_2, fb3_3, fb3_4, fb3_z⟩ := blk5 b3.out
          obtain ⟨fb4_0, fb4_1, fb4_2, fb4_3, fb4_4, fb4_z⟩ := blk5 b4.out
          obtain ⟨fb5_0, fb5_1, fb5_2, fb5_3, fb5_4, fb5_z⟩ := blk5 b5.out
          have rfb6_0 := cell_regrown fb6_0
          have rfb6_1 := cell_regrown fb6_1
          have rfb6_2 := cell_regrown fb6_2
          have rfb6_3 := cell_regrown fb6_3
          have rfb6_4 := cell_regrown fb6_4
          have rfb6_5 := cell_regrown fb6_5
          have rfb6_6 := cell_regrown fb6_6
          have rfb0_0 := cell_regrown fb0_0
          have rfb0_1 := cell_regrown fb0_1
          have rfb0_2 := cell_regrown fb0_2
          have rfb0_3 := cell_regrown fb0_3
          have rfb0_4 := cell_regrown fb0_4
          have rfb1_0 := cell_regrown fb1_0
          have rfb1_1 := cell_regrown fb1_1
          have rfb1_2 := cell_regrown fb1_2
          have rfb1_3 := cell_regrown fb1_3
          have rfb1_4 := cell_regrown fb1_4
          have rfb1_5 := cell_regrown fb1_5
          have rfb1_6 := cell_regrown fb1_6
          have rfb3_0 := cell_regrown fb3_0
          have rfb3_1 := cell_regrown fb3_1
          have rfb3_2 := cell_regrown fb3_2
          have rfb3_3 := cell_regrown fb3_3
          have rfb3_4 := cell_regrown fb3_4
          have rfb4_0 := cell_regrown fb4_0
          have rfb4_1 := cell_regrown fb4_1
          have rfb4_2 := cell_regrown fb4_2
          have rfb4_3 := cell_regrown fb4_3
          have rfb4_4 := cell_regrown fb4_4
          have rfb5_0 := cell_regrown fb5_0
          have rfb5_1 := cell_regrown fb5_1
          have rfb5_2 := cell_regrown fb5_2
          have rfb5_3 := cell_regrown fb5_3
          have rfb5_4 := cell_regrown fb5_4
          go_wp2_with fail
          refine region_mix [(true, 0), (true, 1), (true, 2), (true, 3), (true, 4), (true, 5), (true, 6), (true, 7), (true, 8), (true, 9), (true, 10), (true, 11), (false, 12), (true, 13), (true, 14), (true, 15), (true, 16), (true, 18), (false, 17), (false, 19), (true, 20), (true, 21)] (by kernel_rfl) (by kernel_rfl) (fun _ _ _ _ _ h => h) ?_
          (repeat (first | (refine mix_z rfl (by rfl) ?_; go_big_quiet_skip; refine wpQuiet_nil ?_) | (refine mix_q rfl ?_; first | (go_big_quiet_skip; refine wpQuiet_nil ?_) | (go_big_quiet_want; go_big_quiet_op; go_big_quiet_on; refine wpQuiet_nil ?_))))
          refine mix_nil ?_
          clear rfb6_0 rfb6_1 rfb6_2 rfb6_3 rfb6_4 rfb6_5 rfb6_6 rfb0_0 rfb0_1 rfb0_2 rfb0_3 rfb0_4 rfb1_0 rfb1_1 rfb1_2 rfb1_3 rfb1_4 rfb1_5 rfb1_6 rfb3_0 rfb3_1 rfb3_2 rfb3_3 rfb3_4 rfb4_0 rfb4_1 rfb4_2 rfb4_3 rfb4_4 rfb5_0 rfb5_1 rfb5_2 rfb5_3 rfb5_4
          go_wp2_with (refine store_blk rfl 49 _ _ rfl (w.heap.size + 1) #[Value.int IntKind.i64 0, Value.slice none 0 0, Value.int IntKind.i64 0, Value.int IntKind.i64 0, Value.string ⟨#[]⟩, Value.slice none 0 0, Value.slice none 0 0] rfl rfl b1.out info7 rfl (by simp [Value.oneCell']) (fun W5 b5 hf5 hz5 => ?_); clear fb1_0 fb1_1 fb1_2 fb1_3 fb1_4 fb1_5 fb1_6 fb1_z; have y0 : W5.cell? ⟨w.heap.size + 1, 0, none⟩ = some (Value.int IntKind.i64 0) := b5.cell 0 rfl; have y1 : W5.cell? ⟨w.heap.size + 1, 1, none⟩ = some (Value.slice none 0 0) := b5.cell 1 rfl; have y2 : W5.cell? ⟨w.heap.size + 1, 2, none⟩ = some (Value.int IntKind.i64 0) := b5.cell 2 rfl; have y3 : W5.cell? ⟨w.heap.size + 1, 3, none⟩ = some (Value.int IntKind.i64 0) := b5.cell 3 rfl; have y4 : W5.cell? ⟨w.heap.size + 1, 4, none⟩ = some (Value.string ⟨#[]⟩) := b5.cell 4 rfl; have y5 : W5.cell? ⟨w.heap.size + 1, 5, none⟩ = some (Value.slice none 0 0) := b5.cell 5 rfl; have y6 : W5.cell? ⟨w.heap.size + 1, 6, none⟩ = some (Value.slice none 0 0) := b5.cell 6 rfl; have y7 := b5.frozen; have hz5' := Hd.mk hz5; clear hz5)
          refine bodyPost_retW (v := .tuple #[.agg #[Value.int IntKind.i64 0, Value.slice none 0 0, Value.int IntKind.i64 0, Value.int IntKind.i64 0, Value.string ⟨#[]⟩, Value.slice none 0 0, Value.slice none 0 0], .bool false]) (by simp [results, Tryd.results41, go_sem, y0, y1, y2, y3, y4, y5, y6]) rfl ?_
          intro W hW; obtain rfl := hW
          clear y0 y1 y2 y3 y4 y5 y6 y7 fb6_0 fb6_1 fb6_2 fb6_3 fb6_4 fb6_5 fb6_6 fb6_z fb0_0 fb0_1 fb0_2 fb0_3 fb0_4 fb0_z fb3_0 fb3_1 fb3_2 fb3_3 fb3_4 fb3_z fb4_0 fb4_1 fb4_2 fb4_3 fb4_4 fb4_z fb5_0 fb5_1 fb5_2 fb5_3 fb5_4 fb5_z
          have z1_ := z1.out; have z2_ := z2.out; have z3_ := z3.out; have z4_ := z4.out; have z5_ := z5.out; have z6_ := z6.out; have z7_ := z7.out; have z8_ := z8.out; have hp_ := hp.out; have hlt_ := hlt.out
          have hBs := hB.out.size
          have hz5 := hz5'.out
          have hB5 := Hd.mk (below_frS (below_drew hB.out) hf5 (fun k h => by (try simp only at h); omega))
          exact ⟨[Value.int IntKind.i64 0, Value.slice none 0 0, Value.int IntKind.i64 0, Value.int IntKind.i64 0, Value.string ⟨#[]⟩, Value.slice none 0 0, Value.slice none 0 0], by rw [HRB.out], by unfold readO; rw [HRB.out]; exact OpZ m _ _, hB5.out⟩
        · obtain ⟨fb6_0, fb6_1, fb6_2, fb6_3, fb6_4, fb6_5, fb6_6, fb6_z⟩ := blk7 b6.out
          obtain ⟨fb0_0, fb0_1, fb0_2, fb0_3, fb0_4, fb0_z⟩ := blk5 b0.out
          obtain ⟨fb1_0, fb1_1, fb1_2, fb1_3, fb1_4, fb1_5, fb1_6, fb1_z⟩ := blk7 b1.out
          obtain ⟨fb3_0, fb3_1, fb3_2, fb3_3, fb3_4, fb3_z⟩ := blk5 b3.out
          obtain ⟨fb4_0, fb4_1, fb4_2, fb4_3, fb4_4, fb4_z⟩ := blk5 b4.out
          obtain ⟨fb5_0, fb5_1, fb5_2, fb5_3, fb5_4, fb5_z⟩ := blk5 b5.out
          have rfb6_0 := cell_regrown fb6_0
          have rfb6_1 := cell_regrown fb6_1
          have rfb6_2 := cell_regrown fb6_2
          have rfb6_3 := cell_regrown fb6_3
          have rfb6_4 := cell_regrown fb6_4
          have rfb6_5 := cell_regrown fb6_5
          have rfb6_6 := cell_regrown fb6_6
          have rfb0_0 := cell_regrown fb0_0
          have rfb0_1 := cell_regrown fb0_1
          have rfb0_2 := cell_regrown fb0_2
          have rfb0_3 := cell_regrown fb0_3
          have rfb0_4 := cell_regrown fb0_4
          have rfb1_0 := cell_regrown fb1_0
          have rfb1_1 := cell_regrown fb1_1
          have rfb1_2 := cell_regrown fb1_2
          have rfb1_3 := cell_regrown fb1_3
          have rfb1_4 := cell_regrown fb1_4
          have rfb1_5 := cell_regrown fb1_5
          have rfb1_6 := cell_regrown fb1_6
          have rfb3_0 := cell_regrown fb3_0
          have rfb3_1 := cell_regrown fb3_1
          have rfb3_2 := cell_regrown fb3_2
          have rfb3_3 := cell_regrown fb3_3
          have rfb3_4 := cell_regrown fb3_4
          have rfb4_0 := cell_regrown fb4_0
          have rfb4_1 := cell_regrown fb4_1
          have rfb4_2 := cell_regrown fb4_2
          have rfb4_3 := cell_regrown fb4_3
          have rfb4_4 := cell_regrown fb4_4
          have rfb5_0 := cell_regrown fb5_0
          have rfb5_1 := cell_regrown fb5_1
          have rfb5_2 := cell_regrown fb5_2
          have rfb5_3 := cell_regrown fb5_3
          have rfb5_4 := cell_regrown fb5_4
          go_wp2_with fail
          refine region_mix [(true, 0), (true, 1), (true, 2), (true, 3), (true, 4), (true, 5), (true, 6), (true, 7), (true, 8), (true, 9), (true, 10), (true, 11), (false, 12), (true, 13), (true, 14), (true, 15), (true, 16), (true, 18), (false, 17), (false, 19), (true, 20), (true, 21)] (by kernel_rfl) (by kernel_rfl) (fun _ _ _ _ _ h => h) ?_
          (repeat (first | (refine mix_z rfl (by rfl) ?_; go_big_quiet_skip; refine wpQuiet_nil ?_) | (refine mix_q rfl ?_; first | (go_big_quiet_skip; refine wpQuiet_nil ?_) | (go_big_quiet_want; go_big_quiet_op; go_big_quiet_on; refine wpQuiet_nil ?_))))
          have hS := Hd.mk (Below.refl w1.heap.size w1)
          refine mix_b rfl ?_ (by rfl)
          go_wp2_with fail
          clear fb6_0 fb6_1 fb6_2 fb6_3 fb6_4 fb6_5 fb6_6 fb6_z fb0_0 fb0_1 fb0_2 fb0_3 fb0_4 fb0_z fb1_0 fb1_1 fb1_2 fb1_3 fb1_4 fb1_5 fb1_6 fb1_z fb3_0 fb3_1 fb3_2 fb3_3 fb3_4 fb3_z fb4_0 fb4_1 fb4_2 fb4_3 fb4_4 fb4_z fb5_0 fb5_1 fb5_2 fb5_3 fb5_4 fb5_z
          apply calls_gen; intro W51 hW
          have hz_ : w1.heap.size ≤ W51.heap.size := by rw [hW]; simp
          have hE : Below w1.heap.size w1 W51 := by rw [hW]; (repeat (first | with_reducible refine below_alloc ?_ _ | with_reducible refine below_drew ?_)); exact Below.refl _ _
          have hB := Hd.mk (below_then hB.out hE)
          replace hS := Hd.mk (below_then hS.out hE)
          have b6 := Hd.mk (b6.out.below hE)
          have b0 := Hd.mk (b0.out.below hE)
          have b1 := Hd.mk (b1.out.below hE)
          have b3 := Hd.mk (b3.out.below hE)
          have b4 := Hd.mk (b4.out.below hE)
          have b5 := Hd.mk (b5.out.below hE)
          have hWy := Hd.mk (R_below hWy.out hE)
          have hF := Hd.mk (Ty.O_below hF.out hE)
          clear hW hE
          have z10 := Hd.mk hz_; clear hz_
          refine (impl_OpOk ⟨ku, wayV fp.s, fv⟩ _ _ (op_K hWy.out hF.out)).mono ?_
          rintro e w52 ⟨rfl, hX⟩
          have b6 := Hd.mk (b6.out.below hX)
          have b0 := Hd.mk (b0.out.below hX)
          have b1 := Hd.mk (b1.out.below hX)
          have b3 := Hd.mk (b3.out.below hX)
          have b4 := Hd.mk (b4.out.below hX)
          have b5 := Hd.mk (b5.out.below hX)
          have hWy := Hd.mk (R_below hWy.out hX)
          have hF := Hd.mk (Ty.O_below hF.out hX)
          have hB := Hd.mk (below_then hB.out hX)
          replace hS := Hd.mk (below_then hS.out hX)
          have hz_ := hX.size
          clear hX
          have z11 := Hd.mk hz_; clear hz_
          cases hoo : opOk ⟨ku, wayV fp.s, fv⟩
          · go_wp2_with fail
            refine ⟨cls_below hS.out, ?_⟩
            (repeat (first | (refine mix_z rfl (by rfl) ?_; go_big_quiet_skip; refine wpQuiet_nil ?_) | (refine mix_q rfl ?_; first | (go_big_quiet_skip; refine wpQuiet_nil ?_) | (go_big_quiet_want; go_big_quiet_op; go_big_quiet_on; refine wpQuiet_nil ?_))))
            refine mix_nil ?_
            clear hS rfb6_0 rfb6_1 rfb6_2 rfb6_3 rfb6_4 rfb6_5 rfb6_6 rfb0_0 rfb0_1 rfb0_2 rfb0_3 rfb0_4 rfb1_0 rfb1_1 rfb1_2 rfb1_3 rfb1_4 rfb1_5 rfb1_6 rfb3_0 rfb3_1 rfb3_2 rfb3_3 rfb3_4 rfb4_0 rfb4_1 rfb4_2 rfb4_3 rfb4_4 rfb5_0 rfb5_1 rfb5_2 rfb5_3 rfb5_4
            have HRB := Hd.mk (show readB x = false by unfold readB; rw [HRI.out, ← EBfo.out, ← EBfp.out, ← Efp.out, ← EBW.out]; simp [hoo])
            obtain ⟨fb6_0, fb6_1, fb6_2, fb6_3, fb6_4, fb6_5, fb6_6, fb6_z⟩ := blk7 b6.out
            obtain ⟨fb0_0, fb0_1, fb0_2, fb0_3, fb0_4, fb0_z⟩ := blk5 b0.out
            obtain ⟨fb1_0, fb1_1, fb1_2, fb1_3, fb1_4, fb1_5, fb1_6, fb1_z⟩ := blk7 b1.out
            obtain ⟨fb3_0, fb3_1, fb3_2, fb3_3, fb3_4, fb3_z⟩ := blk5 b3.out
            obtain ⟨fb4_0, fb4_1, fb4_2, fb4_3, fb4_4, fb4_z⟩ := blk5 b4.out
            obtain ⟨fb5_0, fb5_1, fb5_2, fb5_3, fb5_4, fb5_z⟩ := blk5 b5.out
            go_wp2_with (refine store_blk rfl 49 _ _ rfl (w.heap.size + 1) #[Value.int IntKind.i64 0, Value.slice none 0 0, Value.int IntKind.i64 0, Value.int IntKind.i64 0, Value.string ⟨#[]⟩, Value.slice none 0 0, Value.slice none 0 0] rfl rfl b1.out info7 rfl (by simp [Value.oneCell']) (fun W5 b5 hf5 hz5 => ?_); clear fb1_0 fb1_1 fb1_2 fb1_3 fb1_4 fb1_5 fb1_6 fb1_z; have y0 : W5.cell? ⟨w.heap.size + 1, 0, none⟩ = some (Value.int IntKind.i64 0) := b5.cell 0 rfl; have y1 : W5.cell? ⟨w.heap.size + 1, 1, none⟩ = some (Value.slice none 0 0) := b5.cell 1 rfl; have y2 : W5.cell? ⟨w.heap.size + 1, 2, none⟩ = some (Value.int IntKind.i64 0) := b5.cell 2 rfl; have y3 : W5.cell? ⟨w.heap.size + 1, 3, none⟩ = some (Value.int IntKind.i64 0) := b5.cell 3 rfl; have y4 : W5.cell? ⟨w.heap.size + 1, 4, none⟩ = some (Value.string ⟨#[]⟩) := b5.cell 4 rfl; have y5 : W5.cell? ⟨w.heap.size + 1, 5, none⟩ = some (Value.slice none 0 0) := b5.cell 5 rfl; have y6 : W5.cell? ⟨w.heap.size + 1, 6, none⟩ = some (Value.slice none 0 0) := b5.cell 6 rfl; have y7 := b5.frozen; have hz5' := Hd.mk hz5; clear hz5)
            refine bodyPost_retW (v := .tuple #[.agg #[Value.int IntKind.i64 0, Value.slice none 0 0, Value.int IntKind.i64 0, Value.int IntKind.i64 0, Value.string ⟨#[]⟩, Value.slice none 0 0, Value.slice none 0 0], .bool false]) (by simp [results, Tryd.results41, go_sem, y0, y1, y2, y3, y4, y5, y6]) rfl ?_
            intro W hW; obtain rfl := hW
            clear y0 y1 y2 y3 y4 y5 y6 y7 fb6_0 fb6_1 fb6_2 fb6_3 fb6_4 fb6_5 fb6_6 fb6_z fb0_0 fb0_1 fb0_2 fb0_3 fb0_4 fb0_z fb3_0 fb3_1 fb3_2 fb3_3 fb3_4 fb3_z fb4_0 fb4_1 fb4_2 fb4_3 fb4_4 fb4_z fb5_0 fb5_1 fb5_2 fb5_3 fb5_4 fb5_z
            have z1_ := z1.out; have z2_ := z2.out; have z3_ := z3.out; have z4_ := z4.out; have z5_ := z5.out; have z6_ := z6.out; have z7_ := z7.out; have z8_ := z8.out; have hp_ := hp.out; have hlt_ := hlt.out; have z10_ := z10.out; have z11_ := z11.out
            have hBs := hB.out.size
            have hz5 := hz5'.out
            have hB5 := Hd.mk (below_frS hB.out hf5 (fun k h => by (try simp only at h); omega))
            exact ⟨[Value.int IntKind.i64 0, Value.slice none 0 0, Value.int IntKind.i64 0, Value.int IntKind.i64 0, Value.string ⟨#[]⟩, Value.slice none 0 0, Value.slice none 0 0], by rw [HRB.out], by unfold readO; rw [HRB.out]; exact OpZ m _ _, hB5.out⟩
          · go_wp2_with fail
            refine ⟨cls_below hS.out, ?_⟩
            (repeat (first | (refine mix_z rfl (by rfl) ?_; go_big_quiet_skip; refine wpQuiet_nil ?_) | (refine mix_q rfl ?_; first | (go_big_quiet_skip; refine wpQuiet_nil ?_) | (go_big_quiet_want; go_big_quiet_op; go_big_quiet_on; refine wpQuiet_nil ?_))))
            refine mix_b rfl ?_ (by rfl)
            go_wp2_with fail
            apply calls_gen; intro W53 hW
            have hz_ : w52.heap.size ≤ W53.heap.size := by rw [hW]; simp
            have hE : Below w52.heap.size w52 W53 := by rw [hW]; (repeat (first | with_reducible refine below_alloc ?_ _ | with_reducible refine below_drew ?_)); exact Below.refl _ _
            have hB := Hd.mk (below_then hB.out hE)
            replace hS := Hd.mk (below_then hS.out hE)
            have b6 := Hd.mk (b6.out.below hE)
            have b0 := Hd.mk (b0.out.below hE)
            have b1 := Hd.mk (b1.out.below hE)
            have b3 := Hd.mk (b3.out.below hE)
            have b4 := Hd.mk (b4.out.below hE)
            have b5 := Hd.mk (b5.out.below hE)
            have hWy := Hd.mk (R_below hWy.out hE)
            have hF := Hd.mk (Ty.O_below hF.out hE)
            clear hW hE
            have z12 := Hd.mk hz_; clear hz_
            have hwz := bulk_wayV fp.s
            have hfvz : bulkJ (m + 1) fv ≤ 4194304 := by rw [Efv.out]; exact Nat.le_trans (bulk_field HK.out nmValue) (Nat.le_trans HL.out (by decide))
            refine (impl_OpJson ⟨ku, wayV fp.s, fv⟩ _ _ (op_K hWy.out hF.out) (Nat.le_trans hwz hfpz) hfvz (HM.out.below hB.out)).mono ?_
            rintro e w54 ⟨cy, rfl, hY, hX⟩
            have b6 := Hd.mk (b6.out.below hX)
            have b0 := Hd.mk (b0.out.below hX)
            have b1 := Hd.mk (b1.out.below hX)
            have b3 := Hd.mk (b3.out.below hX)
            have b4 := Hd.mk (b4.out.below hX)
            have b5 := Hd.mk (b5.out.below hX)
            have hWy := Hd.mk (R_below hWy.out hX)
            have hF := Hd.mk (Ty.O_below hF.out hX)
            have hB := Hd.mk (below_then hB.out hX)
            replace hS := Hd.mk (below_then hS.out hX)
            have hz_ := hX.size
            clear hX
            have z13 := Hd.mk hz_; clear hz_
            replace hY := Hd.mk hY
            obtain ⟨v3, v4, _, _, hcy, _, h3_, h4_, _⟩ := tJ_O.1 hY.out
            obtain ⟨A7, c7, rfl, _, _⟩ := R_C h3_
            obtain ⟨A8, c8, rfl, _, _⟩ := R_C h4_
            clear h3_ h4_
            subst hcy
            go_wp2_with fail
            refine ⟨cls_below hS.out, ?_⟩
            refine mix_b rfl ?_ (by rfl)
            go_wp2_with fail
            apply calls_gen; intro W55 hW
            have hz_ : w54.heap.size ≤ W55.heap.size := by rw [hW]; simp
            have hE : Below w54.heap.size w54 W55 := by rw [hW]; (repeat (first | with_reducible refine below_alloc ?_ _ | with_reducible refine below_drew ?_)); exact Below.refl _ _
            have hB := Hd.mk (below_then hB.out hE)
            replace hS := Hd.mk (below_then hS.out hE)
            have b6 := Hd.mk (b6.out.below hE)
            have b0 := Hd.mk (b0.out.below hE)
            have b1 := Hd.mk (b1.out.below hE)
            have b3 := Hd.mk (b3.out.below hE)
            have b4 := Hd.mk (b4.out.below hE)
            have b5 := Hd.mk (b5.out.below hE)
            have hWy := Hd.mk (R_below hWy.out hE)
            have hF := Hd.mk (Ty.O_below hF.out hE)
            have hY := Hd.mk (Ty.O_below hY.out hE)
            clear hW hE
            have z14 := Hd.mk hz_; clear hz_
            refine (impl_JsonSame (opJ ⟨ku, wayV fp.s, fv⟩) x _ _ _ (Ty.O_K _ hY.out) (Ty.K_below _ hB.out ((tJ_le (Nat.le_succ (m + 1))).K _ _ _ HK.out))).mono ?_
            rintro e w56 ⟨rfl, hX⟩
            have b6 := Hd.mk (b6.out.below hX)
            have b0 := Hd.mk (b0.out.below hX)
            have b1 := Hd.mk (b1.out.below hX)
            have b3 := Hd.mk (b3.out.below hX)
            have b4 := Hd.mk (b4.out.below hX)
            have b5 := Hd.mk (b5.out.below hX)
            have hWy := Hd.mk (R_below hWy.out hX)
            have hF := Hd.mk (Ty.O_below hF.out hX)
            have hY := Hd.mk (Ty.O_below hY.out hX)
            have hB := Hd.mk (below_then hB.out hX)
            replace hS := Hd.mk (below_then hS.out hX)
            have hz_ := hX.size
            clear hX
            have z15 := Hd.mk hz_; clear hz_
            clear hY
            go_wp2_with fail
            refine ⟨cls_below hS.out, ?_⟩
            (repeat (first | (refine mix_z rfl (by rfl) ?_; go_big_quiet_skip; refine wpQuiet_nil ?_) | (refine mix_q rfl ?_; first | (go_big_quiet_skip; refine wpQuiet_nil ?_) | (go_big_quiet_want; go_big_quiet_op; go_big_quiet_on; refine wpQuiet_nil ?_))))
            refine mix_nil ?_
            clear hS rfb6_0 rfb6_1 rfb6_2 rfb6_3 rfb6_4 rfb6_5 rfb6_6 rfb0_0 rfb0_1 rfb0_2 rfb0_3 rfb0_4 rfb1_0 rfb1_1 rfb1_2 rfb1_3 rfb1_4 rfb1_5 rfb1_6 rfb3_0 rfb3_1 rfb3_2 rfb3_3 rfb3_4 rfb4_0 rfb4_1 rfb4_2 rfb4_3 rfb4_4 rfb5_0 rfb5_1 rfb5_2 rfb5_3 rfb5_4
            cases hjs : jsonSame (opJ ⟨ku, wayV fp.s, fv⟩) x
            · have HRB := Hd.mk (show readB x = false by unfold readB; rw [HRI.out, ← EBfo.out, ← EBfp.out, ← Efp.out, ← EBW.out]; simp [hoo, hjs])
              obtain ⟨fb6_0, fb6_1, fb6_2, fb6_3, fb6_4, fb6_5, fb6_6, fb6_z⟩ := blk7 b6.out
              obtain ⟨fb0_0, fb0_1, fb0_2, fb0_3, fb0_4, fb0_z⟩ := blk5 b0.out
              obtain ⟨fb1_0, fb1_1, fb1_2, fb1_3, fb1_4, fb1_5, fb1_6, fb1_z⟩ := blk7 b1.out
              obtain ⟨fb3_0, fb3_1, fb3_2, fb3_3, fb3_4, fb3_z⟩ := blk5 b3.out
              obtain ⟨fb4_0, fb4_1, fb4_2, fb4_3, fb4_4, fb4_z⟩ := blk5 b4.out
              obtain ⟨fb5_0, fb5_1, fb5_2, fb5_3, fb5_4, fb5_z⟩ := blk5 b5.out
              go_wp2_with (refine store_blk rfl 49 _ _ rfl (w.heap.size + 1) #[Value.int IntKind.i64 0, Value.slice none 0 0, Value.int IntKind.i64 0, Value.int IntKind.i64 0, Value.string ⟨#[]⟩, Value.slice none 0 0, Value.slice none 0 0] rfl rfl b1.out info7 rfl (by simp [Value.oneCell']) (fun W5 b5 hf5 hz5 => ?_); clear fb1_0 fb1_1 fb1_2 fb1_3 fb1_4 fb1_5 fb1_6 fb1_z; have y0 : W5.cell? ⟨w.heap.size + 1, 0, none⟩ = some (Value.int IntKind.i64 0) := b5.cell 0 rfl; have y1 : W5.cell? ⟨w.heap.size + 1, 1, none⟩ = some (Value.slice none 0 0) := b5.cell 1 rfl; have y2 : W5.cell? ⟨w.heap.size + 1, 2, none⟩ = some (Value.int IntKind.i64 0) := b5.cell 2 rfl; have y3 : W5.cell? ⟨w.heap.size + 1, 3, none⟩ = some (Value.int IntKind.i64 0) := b5.cell 3 rfl; have y4 : W5.cell? ⟨w.heap.size + 1, 4, none⟩ = some (Value.string ⟨#[]⟩) := b5.cell 4 rfl; have y5 : W5.cell? ⟨w.heap.size + 1, 5, none⟩ = some (Value.slice none 0 0) := b5.cell 5 rfl; have y6 : W5.cell? ⟨w.heap.size + 1, 6, none⟩ = some (Value.slice none 0 0) := b5.cell 6 rfl; have y7 := b5.frozen; have hz5' := Hd.mk hz5; clear hz5)
              refine bodyPost_retW (v := .tuple #[.agg #[Value.int IntKind.i64 0, Value.slice none 0 0, Value.int IntKind.i64 0, Value.int IntKind.i64 0, Value.string ⟨#[]⟩, Value.slice none 0 0, Value.slice none 0 0], .bool false]) (by simp [results, Tryd.results41, go_sem, y0, y1, y2, y3, y4, y5, y6]) rfl ?_
              intro W hW; obtain rfl := hW
              clear y0 y1 y2 y3 y4 y5 y6 y7 fb6_0 fb6_1 fb6_2 fb6_3 fb6_4 fb6_5 fb6_6 fb6_z fb0_0 fb0_1 fb0_2 fb0_3 fb0_4 fb0_z fb3_0 fb3_1 fb3_2 fb3_3 fb3_4 fb3_z fb4_0 fb4_1 fb4_2 fb4_3 fb4_4 fb4_z fb5_0 fb5_1 fb5_2 fb5_3 fb5_4 fb5_z
              have z1_ := z1.out; have z2_ := z2.out; have z3_ := z3.out; have z4_ := z4.out; have z5_ := z5.out; have z6_ := z6.out; have z7_ := z7.out; have z8_ := z8.out; have hp_ := hp.out; have hlt_ := hlt.out; have z10_ := z10.out; have z11_ := z11.out; have z12_ := z12.out; have z13_ := z13.out; have z14_ := z14.out; have z15_ := z15.out
              have hBs := hB.out.size
              have hz5 := hz5'.out
              have hB5 := Hd.mk (below_frS hB.out hf5 (fun k h => by (try simp only at h); omega))
              exact ⟨[Value.int IntKind.i64 0, Value.slice none 0 0, Value.int IntKind.i64 0, Value.int IntKind.i64 0, Value.string ⟨#[]⟩, Value.slice none 0 0, Value.slice none 0 0], by rw [HRB.out], by unfold readO; rw [HRB.out]; exact OpZ m _ _, hB5.out⟩
            · have HRB := Hd.mk (show readB x = true by unfold readB; rw [HRI.out, ← EBfo.out, ← EBfp.out, ← Efp.out, ← EBW.out]; simp [hoo, hjs])
              have HRO := Hd.mk (show readO x = ⟨ku, wayV fp.s, fv⟩ by unfold readO; rw [HRB.out, if_pos rfl]; exact HRI.out)
              obtain ⟨fb6_0, fb6_1, fb6_2, fb6_3, fb6_4, fb6_5, fb6_6, fb6_z⟩ := blk7 b6.out
              obtain ⟨fb0_0, fb0_1, fb0_2, fb0_3, fb0_4, fb0_z⟩ := blk5 b0.out
              obtain ⟨fb1_0, fb1_1, fb1_2, fb1_3, fb1_4, fb1_5, fb1_6, fb1_z⟩ := blk7 b1.out
              obtain ⟨fb3_0, fb3_1, fb3_2, fb3_3, fb3_4, fb3_z⟩ := blk5 b3.out
              obtain ⟨fb4_0, fb4_1, fb4_2, fb4_3, fb4_4, fb4_z⟩ := blk5 b4.out
              obtain ⟨fb5_0, fb5_1, fb5_2, fb5_3, fb5_4, fb5_z⟩ := blk5 b5.out
              go_wp2_with (refine store_blk rfl 49 _ _ rfl (w.heap.size + 1) #[Value.int IntKind.i64 ku, Value.slice AW (wayV fp.s).length cW, Value.int IntKind.i64 fv.kind, Value.int IntKind.i64 fv.n, Value.string fv.s, Value.slice Afv fv.list.length cfv, Value.slice Bfv fv.names.length dfv] rfl rfl b1.out info7 rfl (by simp [Value.oneCell']) (fun W5 b5 hf5 hz5 => ?_); clear fb1_0 fb1_1 fb1_2 fb1_3 fb1_4 fb1_5 fb1_6 fb1_z; have y0 : W5.cell? ⟨w.heap.size + 1, 0, none⟩ = some (Value.int IntKind.i64 ku) := b5.cell 0 rfl; have y1 : W5.cell? ⟨w.heap.size + 1, 1, none⟩ = some (Value.slice AW (wayV fp.s).length cW) := b5.cell 1 rfl; have y2 : W5.cell? ⟨w.heap.size + 1, 2, none⟩ = some (Value.int IntKind.i64 fv.kind) := b5.cell 2 rfl; have y3 : W5.cell? ⟨w.heap.size + 1, 3, none⟩ = some (Value.int IntKind.i64 fv.n) := b5.cell 3 rfl; have y4 : W5.cell? ⟨w.heap.size + 1, 4, none⟩ = some (Value.string fv.s) := b5.cell 4 rfl; have y5 : W5.cell? ⟨w.heap.size + 1, 5, none⟩ = some (Value.slice Afv fv.list.length cfv) := b5.cell 5 rfl; have y6 : W5.cell? ⟨w.heap.size + 1, 6, none⟩ = some (Value.slice Bfv fv.names.length dfv) := b5.cell 6 rfl; have y7 := b5.frozen; have hz5' := Hd.mk hz5; clear hz5)
              refine bodyPost_retW (v := .tuple #[.agg #[Value.int IntKind.i64 ku, Value.slice AW (wayV fp.s).length cW, Value.int IntKind.i64 fv.kind, Value.int IntKind.i64 fv.n, Value.string fv.s, Value.slice Afv fv.list.length cfv, Value.slice Bfv fv.names.length dfv], .bool true]) (by simp [results, Tryd.results41, go_sem, y0, y1, y2, y3, y4, y5, y6]) rfl ?_
              intro W hW; obtain rfl := hW
              clear y0 y1 y2 y3 y4 y5 y6 y7 fb6_0 fb6_1 fb6_2 fb6_3 fb6_4 fb6_5 fb6_6 fb6_z fb0_0 fb0_1 fb0_2 fb0_3 fb0_4 fb0_z fb3_0 fb3_1 fb3_2 fb3_3 fb3_4 fb3_z fb4_0 fb4_1 fb4_2 fb4_3 fb4_4 fb4_z fb5_0 fb5_1 fb5_2 fb5_3 fb5_4 fb5_z
              have z1_ := z1.out; have z2_ := z2.out; have z3_ := z3.out; have z4_ := z4.out; have z5_ := z5.out; have z6_ := z6.out; have z7_ := z7.out; have z8_ := z8.out; have hp_ := hp.out; have hlt_ := hlt.out; have z10_ := z10.out; have z11_ := z11.out; have z12_ := z12.out; have z13_ := z13.out; have z14_ := z14.out; have z15_ := z15.out
              have hBs := hB.out.size
              have hz5 := hz5'.out
              have hB5 := Hd.mk (below_frS hB.out hf5 (fun k h => by (try simp only at h); omega))
              exact ⟨[Value.int IntKind.i64 ku, Value.slice AW (wayV fp.s).length cW, Value.int IntKind.i64 fv.kind, Value.int IntKind.i64 fv.n, Value.string fv.s, Value.slice Afv fv.list.length cfv, Value.slice Bfv fv.names.length dfv], by rw [HRB.out], by rw [HRO.out]; exact tOp_O.2 ⟨_, _, _, _, rfl, R_fr hWy.out hf5 (fun k hk hl h => by have q1 := hk.1; have q2 := hk.2; (try simp only at h); omega), Ty.O_fr hF.out hf5 (fun k hk hl h => by have q1 := hk.1; have q2 := hk.2; (try simp only at h); omega), fun k h => by have q1 := h.1; omega, fun k h => by have q1 := h.1; omega, fun k h h2 => by have q1 := h.1; have q2 := h2.2; omega⟩, hB5.out⟩
end Go.Proofs.YtkgefjjgjjmklaaDoor.X
