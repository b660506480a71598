/- What is proved here: OpRead of the reference. Conditions: none. -/
import Derived.BigQuiet
import Derived.Test.YtkgefjjgjjmklaaDoorXRd
import Derived.Test.YtkgefjjgjjmklaaDoorXK
import Derived.Lib.AtoiErrMem
import Derived.Lib.AppendIntMem
import Derived.Test.YtkgefjjgjjmklaaDoorXOk
namespace Go.Proofs.YtkgefjjgjjmklaaDoor.X
open Go.RowKit Go.Sort
set_option linter.unusedVariables false
set_option linter.unusedSimpArgs false
open Ty
theorem blk5 {w : World} {g : Nat} {a b c d e : Value} {t : TypeId} (h : Blk w g #[a, b, c, d, e] t) : w.cell? ⟨g, 0, none⟩ = some a ∧ w.cell? ⟨g, 1, none⟩ = some b ∧ w.cell? ⟨g, 2, none⟩ = some c ∧ w.cell? ⟨g, 3, none⟩ = some d ∧ w.cell? ⟨g, 4, none⟩ = some e ∧ ∀ j, w.frozen? ⟨g, j, none⟩ = false :=
  ⟨h.cell 0 rfl, h.cell 1 rfl, h.cell 2 rfl, h.cell 3 rfl, h.cell 4 rfl, h.frozen⟩
theorem blk7 {w : World} {g : Nat} {a b c d e f i : Value} {t : TypeId} (h : Blk w g #[a, b, c, d, e, f, i] t) : w.cell? ⟨g, 0, none⟩ = some a ∧ w.cell? ⟨g, 1, none⟩ = some b ∧ w.cell? ⟨g, 2, none⟩ = some c ∧ w.cell? ⟨g, 3, none⟩ = some d ∧ w.cell? ⟨g, 4, none⟩ = some e ∧ w.cell? ⟨g, 5, none⟩ = some f ∧ w.cell? ⟨g, 6, none⟩ = some i ∧ ∀ j, w.frozen? ⟨g, j, none⟩ = false :=
  ⟨h.cell 0 rfl, h.cell 1 rfl, h.cell 2 rfl, h.cell 3 rfl, h.cell 4 rfl, h.cell 5 rfl, h.cell 6 rfl, h.frozen⟩
theorem bulk_readO {m : Nat} {w : World} {x : J} {cs : List Value} (hk : (tJ (m + 1)).K w x cs) : bulkOp (m + 1) (readO x) ≤ 2 * bulkJ (m + 1) x := by
  unfold readO
  split
  · unfold readI bulkOp
    have h1 := bulk_wayV (field x nmPath).s
    have h2 := bulk_s m (field x nmPath)
    have h3 := bulk_field hk nmPath
    have h4 := bulk_field hk nmValue
    show bulkStringS (wayV (field x nmPath).s) + bulkJ (m + 1) (field x nmValue) ≤ _
    omega
  · have h1 := bulk_null m x
    show 0 + 0 + bulkJ (m + 1) J.null ≤ _
    omega
theorem kUp_1 (fo : J) : kUp fo 1 = 0 := rfl
theorem OpZ (m : Nat) (w : World) (S : Nat → Prop) : (tOp (m + 1)).O w S ⟨0, [], J.null⟩ [.int .i64 0, .slice none 0 0, .int .i64 0, .int .i64 0, .string ⟨#[]⟩, .slice none 0 0, .slice none 0 0] :=
  tOp_O.2 ⟨_, _, fun _ => False, fun _ => False, rfl, R_nil, ZJ m _ _, fun _ h => h.elim, fun _ h => h.elim, fun _ h => h.elim⟩
theorem b2_sets {w : World} {o : Obj} {g : Nat} {a b : Value} {t : TypeId} {c0 c1 c2 c3 c4 d0 d1 d2 d3 d4 : Value} (h : Blk w g #[a, b, c0, c1, c2, c3, c4] t) :
    Blk ((((((w.alloc o).setCell ⟨g, 2, none⟩ d0).setCell ⟨g, 3, none⟩ d1).setCell ⟨g, 4, none⟩ d2).setCell ⟨g, 5, none⟩ d3).setCell ⟨g, 6, none⟩ d4) g #[a, b, d0, d1, d2, d3, d4] t :=
  (((((h.alloc o).set 2 d0).set 3 d1).set 4 d2).set 5 d3).set 6 d4
theorem op_K {m : Nat} {w : World} {SW SF : Nat → Prop} {k : Int} {v : Value} {way : List ByteArray} {j : J} {cs : List Value} (hWy : str.R 9 w SW v way) (hF : (tJ (m + 1)).O w SF j cs) : (tOp (m + 1)).K w ⟨k, way, j⟩ (.int .i64 k :: v :: cs) := by
  obtain ⟨A, c, rfl, h1, h2⟩ := R_C hWy
  exact tOp_K.2 ⟨_, _, _, rfl, ⟨h1, h2⟩, Ty.O_K _ hF⟩
set_option maxRecDepth 100000 in
theorem spec_l4NamesR (w : World) : Calls Tryd.prog 69 #[] w fun e w' => ∃ A, e = .returned (.slice A 5 5) ∧ str.R 9 w' (fun k => w.heap.size ≤ k) (.slice A 5 5) kindL0 ∧ Below w.heap.size w w' := by
  have HR := Hd.mk (R_strsN (W0 := w) kindL0 (by decide) (by decide))
  go_enter Tryd.func69, Tryd.ntmps69
  go_wp2_with fail
  go_ret
  exact ⟨_, rfl, R_mono (fun k h => by have h : k = _ := h; omega) HR.out, below_alloc (Below.refl _ _) _⟩
set_option maxHeartbeats 4000000 in
set_option maxRecDepth 100000 in
theorem spec_OpRead {m : Nat} (x : J) (cs : List Value) (w : World) (hk : (tJ (m + 1)).K w x cs) (hl : bulkJ (m + 1) x ≤ 1048576) :
    Calls Tryd.prog 40 #[.agg cs.toArray] w fun e w' => ∃ cs', e = .returned (.tuple #[.agg cs'.toArray, .bool (readB x)]) ∧ (tOp (m + 1)).O w' (fun k => w.heap.size ≤ k) (readO x) cs' ∧ Below w.heap.size w w' := by
  have HK := Hd.mk hk; have HL := Hd.mk hl
  obtain ⟨A1, c1, A2, c2, rfl, hsx, ⟨hc1, hr1⟩, hc2, hr2⟩ := tJ_K.1 hk
  clear hr1 hr2 hk hl
  have hB := Hd.mk (Below.refl w.heap.size w)
  go_enter Tryd.func40, Tryd.ntmps40
  go_wp2_with fail
  apply calls_gen; intro W1 hW
  have hz_ : w.heap.size + 3 ≤ W1.heap.size := by rw [hW]; simp
  have hE : Below w.heap.size w W1 := by rw [hW]; (repeat (first | with_reducible refine below_alloc ?_ _ | with_reducible refine below_drew ?_)); exact Below.refl _ _
  have hB := Hd.mk (below_then hB.out hE)
  have b0 := Hd.mk (show Blk W1 (w.heap.size) #[Value.int IntKind.i64 x.kind, Value.int IntKind.i64 x.n, Value.string x.s, Value.slice A1 x.list.length c1, Value.slice A2 x.names.length c2] 40 by rw [hW]; first | exact (((Blk.new _ _ _).alloc _).alloc _) | (simpa using (((Blk.new _ _ _).alloc _).alloc _)))
  have b1 := Hd.mk (show Blk W1 (w.heap.size + 1) #[Value.int IntKind.i64 0, Value.slice none 0 0, Value.int IntKind.i64 0, Value.int IntKind.i64 0, Value.string ⟨#[]⟩, Value.slice none 0 0, Value.slice none 0 0] 49 by rw [hW]; first | exact ((Blk.new1 _ _ _ _).alloc _) | (simpa using ((Blk.new1 _ _ _ _).alloc _)))
  have b2 := Hd.mk (show Blk W1 (w.heap.size + 1 + 1) #[Value.int IntKind.i64 0, Value.slice none 0 0, Value.int IntKind.i64 0, Value.int IntKind.i64 0, Value.string ⟨#[]⟩, Value.slice none 0 0, Value.slice none 0 0] 49 by rw [hW]; first | exact (Blk.new2 _ _ _ _ _) | (simpa using (Blk.new2 _ _ _ _ _)))
  clear hW hE
  have z1 := Hd.mk hz_; clear hz_
  refine (spec_Field x _ nmOp _ (Ty.K_below _ hB.out HK.out) (Nat.le_trans HL.out (by decide))).mono ?_
  rintro e w2 ⟨cf, rfl, hF, hX⟩
  have b0 := Hd.mk (b0.out.below hX)
  have b1 := Hd.mk (b1.out.below hX)
  have b2 := Hd.mk (b2.out.below hX)
  have hB := Hd.mk (below_then hB.out hX)
  have hz_ := hX.size
  clear hX
  have z2 := Hd.mk hz_; clear hz_
  obtain ⟨fo, hfo⟩ : ∃ z, z = field x nmOp := ⟨_, rfl⟩
  obtain ⟨bfo, hbfo⟩ : ∃ z, z = hasField x nmOp := ⟨_, rfl⟩
  rw [← hfo] at hF
  rw [← hbfo]
  have Efo := Hd.mk hfo; have EBfo := Hd.mk hbfo; clear hfo hbfo
  obtain ⟨v3, v4, _, _, rfl, hsfo, h3_, h4_, _⟩ := tJ_O.1 hF
  obtain ⟨Afo, cfo, rfl, _, _⟩ := R_C h3_
  obtain ⟨Bfo, dfo, rfl, _, _⟩ := R_C h4_
  clear h3_ h4_
  clear hF
  obtain ⟨fb0_0, fb0_1, fb0_2, fb0_3, fb0_4, fb0_z⟩ := blk5 b0.out
  obtain ⟨fb1_0, fb1_1, fb1_2, fb1_3, fb1_4, fb1_5, fb1_6, fb1_z⟩ := blk7 b1.out
  obtain ⟨fb2_0, fb2_1, fb2_2, fb2_3, fb2_4, fb2_5, fb2_6, fb2_z⟩ := blk7 b2.out
  have lfb0_0 := fun o => cell_below (below_alloc (Below.refl _ _) o) fb0_0
  have lfb0_1 := fun o => cell_below (below_alloc (Below.refl _ _) o) fb0_1
  have lfb0_2 := fun o => cell_below (below_alloc (Below.refl _ _) o) fb0_2
  have lfb0_3 := fun o => cell_below (below_alloc (Below.refl _ _) o) fb0_3
  have lfb0_4 := fun o => cell_below (below_alloc (Below.refl _ _) o) fb0_4
  have lfb1_0 := fun o => cell_below (below_alloc (Below.refl _ _) o) fb1_0
  have lfb1_1 := fun o => cell_below (below_alloc (Below.refl _ _) o) fb1_1
  have lfb1_2 := fun o => cell_below (below_alloc (Below.refl _ _) o) fb1_2
  have lfb1_3 := fun o => cell_below (below_alloc (Below.refl _ _) o) fb1_3
  have lfb1_4 := fun o => cell_below (below_alloc (Below.refl _ _) o) fb1_4
  have lfb1_5 := fun o => cell_below (below_alloc (Below.refl _ _) o) fb1_5
  have lfb1_6 := fun o => cell_below (below_alloc (Below.refl _ _) o) fb1_6
  have lfb2_0 := fun o => cell_below (below_alloc (Below.refl _ _) o) fb2_0
  have lfb2_1 := fun o => cell_below (below_alloc (Below.refl _ _) o) fb2_1
  have lfb2_2 := fun o => cell_below (below_alloc (Below.refl _ _) o) fb2_2
  have lfb2_3 := fun o => cell_below (below_alloc (Below.refl _ _) o) fb2_3
  have lfb2_4 := fun o => cell_below (below_alloc (Below.refl _ _) o) fb2_4
  have lfb2_5 := fun o => cell_below (below_alloc (Below.refl _ _) o) fb2_5
  have lfb2_6 := fun o => cell_below (below_alloc (Below.refl _ _) o) fb2_6
  go_wp2_with fail
  clear lfb0_0 lfb0_1 lfb0_2 lfb0_3 lfb0_4 lfb1_0 lfb1_1 lfb1_2 lfb1_3 lfb1_4 lfb1_5 lfb1_6 lfb2_0 lfb2_1 lfb2_2 lfb2_3 lfb2_4 lfb2_5 lfb2_6
  clear fb0_0 fb0_1 fb0_2 fb0_3 fb0_4 fb0_z fb1_0 fb1_1 fb1_2 fb1_3 fb1_4 fb1_5 fb1_6 fb1_z fb2_0 fb2_1 fb2_2 fb2_3 fb2_4 fb2_5 fb2_6 fb2_z
  apply calls_gen; intro W3 hW
  have hz_ : w2.heap.size + 1 ≤ W3.heap.size := by rw [hW]; simp
  have hE : Below w2.heap.size w2 W3 := by rw [hW]; (repeat (first | with_reducible refine below_alloc ?_ _ | with_reducible refine below_drew ?_)); exact Below.refl _ _
  have hB := Hd.mk (below_then hB.out hE)
  have b0 := Hd.mk (b0.out.below hE)
  have b1 := Hd.mk (b1.out.below hE)
  have b2 := Hd.mk (b2.out.below hE)
  have b3 := Hd.mk (show Blk W3 (w2.heap.size) #[Value.int IntKind.i64 fo.kind, Value.int IntKind.i64 fo.n, Value.string fo.s, Value.slice Afo fo.list.length cfo, Value.slice Bfo fo.names.length dfo] 40 by rw [hW]; first | exact (Blk.new _ _ _) | (simpa using (Blk.new _ _ _)))
  clear hW hE
  have z3 := Hd.mk hz_; clear hz_
  refine (spec_Field x _ nmPath _ (Ty.K_below _ hB.out HK.out) (Nat.le_trans HL.out (by decide))).mono ?_
  rintro e w4 ⟨cf, rfl, hF, hX⟩
  have b0 := Hd.mk (b0.out.below hX)
  have b1 := Hd.mk (b1.out.below hX)
  have b2 := Hd.mk (b2.out.below hX)
  have b3 := Hd.mk (b3.out.below hX)
  have hB := Hd.mk (below_then hB.out hX)
  have hz_ := hX.size
  clear hX
  have z4 := Hd.mk hz_; clear hz_
  obtain ⟨fp, hfp⟩ : ∃ z, z = field x nmPath := ⟨_, rfl⟩
  obtain ⟨bfp, hbfp⟩ : ∃ z, z = hasField x nmPath := ⟨_, rfl⟩
  rw [← hfp] at hF
  rw [← hbfp]
  have Efp := Hd.mk hfp; have EBfp := Hd.mk hbfp; clear hfp hbfp
  obtain ⟨v3, v4, _, _, rfl, hsfp, h3_, h4_, _⟩ := tJ_O.1 hF
  obtain ⟨Afp, cfp, rfl, _, _⟩ := R_C h3_
  obtain ⟨Bfp, dfp, rfl, _, _⟩ := R_C h4_
  clear h3_ h4_
  clear hF
  obtain ⟨fb0_0, fb0_1, fb0_2, fb0_3, fb0_4, fb0_z⟩ := blk5 b0.out
  obtain ⟨fb1_0, fb1_1, fb1_2, fb1_3, fb1_4, fb1_5, fb1_6, fb1_z⟩ := blk7 b1.out
  obtain ⟨fb2_0, fb2_1, fb2_2, fb2_3, fb2_4, fb2_5, fb2_6, fb2_z⟩ := blk7 b2.out
  obtain ⟨fb3_0, fb3_1, fb3_2, fb3_3, fb3_4, fb3_z⟩ := blk5 b3.out
  have lfb0_0 := fun o => cell_below (below_alloc (Below.refl _ _) o) fb0_0
  have lfb0_1 := fun o => cell_below (below_alloc (Below.refl _ _) o) fb0_1
  have lfb0_2 := fun o => cell_below (below_alloc (Below.refl _ _) o) fb0_2
  have lfb0_3 := fun o => cell_below (below_alloc (Below.refl _ _) o) fb0_3
  have lfb0_4 := fun o => cell_below (below_alloc (Below.refl _ _) o) fb0_4
  have lfb1_0 := fun o => cell_below (below_alloc (Below.refl _ _) o) fb1_0
  have lfb1_1 := fun o => cell_below (below_alloc (Below.refl _ _) o) fb1_1
  have lfb1_2 := fun o => cell_below (below_alloc (Below.refl _ _) o) fb1_2
  have lfb1_3 := fun o => cell_below (below_alloc (Below.refl _ _) o) fb1_3
  have lfb1_4 := fun o => cell_below (below_alloc (Below.refl _ _) o) fb1_4
  have lfb1_5 := fun o => cell_below (below_alloc (Below.refl _ _) o) fb1_5
  have lfb1_6 := fun o => cell_below (below_alloc (Below.refl _ _) o) fb1_6
  have lfb2_0 := fun o => cell_below (below_alloc (Below.refl _ _) o) fb2_0
  have lfb2_1 := fun o => cell_below (below_alloc (Below.refl _ _) o) fb2_1
  have lfb2_2 := fun o => cell_below (below_alloc (Below.refl _ _) o) fb2_2
  have lfb2_3 := fun o => cell_below (below_alloc (Below.refl _ _) o) fb2_3
  have lfb2_4 := fun o => cell_below (below_alloc (Below.refl _ _) o) fb2_4
  have lfb2_5 := fun o => cell_below (below_alloc (Below.refl _ _) o) fb2_5
  have lfb2_6 := fun o => cell_below (below_alloc (Below.refl _ _) o) fb2_6
  have lfb3_0 := fun o => cell_below (below_alloc (Below.refl _ _) o) fb3_0
  have lfb3_1 := fun o => cell_below (below_alloc (Below.refl _ _) o) fb3_1
  have lfb3_2 := fun o => cell_below (below_alloc (Below.refl _ _) o) fb3_2
  have lfb3_3 := fun o => cell_below (below_alloc (Below.refl _ _) o) fb3_3
  have lfb3_4 := fun o => cell_below (below_alloc (Below.refl _ _) o) fb3_4
  go_wp2_with fail
  clear lfb0_0 lfb0_1 lfb0_2 lfb0_3 lfb0_4 lfb1_0 lfb1_1 lfb1_2 lfb1_3 lfb1_4 lfb1_5 lfb1_6 lfb2_0 lfb2_1 lfb2_2 lfb2_3 lfb2_4 lfb2_5 lfb2_6 lfb3_0 lfb3_1 lfb3_2 lfb3_3 lfb3_4
  clear fb0_0 fb0_1 fb0_2 fb0_3 fb0_4 fb0_z fb1_0 fb1_1 fb1_2 fb1_3 fb1_4 fb1_5 fb1_6 fb1_z fb2_0 fb2_1 fb2_2 fb2_3 fb2_4 fb2_5 fb2_6 fb2_z fb3_0 fb3_1 fb3_2 fb3_3 fb3_4 fb3_z
  apply calls_gen; intro W5 hW
  have hz_ : w4.heap.size + 1 ≤ W5.heap.size := by rw [hW]; simp
  have hE : Below w4.heap.size w4 W5 := by rw [hW]; (repeat (first | with_reducible refine below_alloc ?_ _ | with_reducible refine below_drew ?_)); exact Below.refl _ _
  have hB := Hd.mk (below_then hB.out hE)
  have b0 := Hd.mk (b0.out.below hE)
  have b1 := Hd.mk (b1.out.below hE)
  have b2 := Hd.mk (b2.out.below hE)
  have b3 := Hd.mk (b3.out.below hE)
  have b4 := Hd.mk (show Blk W5 (w4.heap.size) #[Value.int IntKind.i64 fp.kind, Value.int IntKind.i64 fp.n, Value.string fp.s, Value.slice Afp fp.list.length cfp, Value.slice Bfp fp.names.length dfp] 40 by rw [hW]; first | exact (Blk.new _ _ _) | (simpa using (Blk.new _ _ _)))
  clear hW hE
  have z5 := Hd.mk hz_; clear hz_
  refine (spec_l4NamesR _).mono ?_
  rintro e w6 ⟨AK, rfl, hKN, hX⟩
  have b0 := Hd.mk (b0.out.below hX)
  have b1 := Hd.mk (b1.out.below hX)
  have b2 := Hd.mk (b2.out.below hX)
  have b3 := Hd.mk (b3.out.below hX)
  have b4 := Hd.mk (b4.out.below hX)
  have hB := Hd.mk (below_then hB.out hX)
  have hz_ := hX.size
  clear hX
  have z6 := Hd.mk hz_; clear hz_
  replace hKN := Hd.mk (show str.R 9 w6 (rng W5.heap.size w6.heap.size) _ kindL0 from R_bound hKN)
  obtain ⟨fb0_0, fb0_1, fb0_2, fb0_3, fb0_4, fb0_z⟩ := blk5 b0.out
  obtain ⟨fb1_0, fb1_1, fb1_2, fb1_3, fb1_4, fb1_5, fb1_6, fb1_z⟩ := blk7 b1.out
  obtain ⟨fb2_0, fb2_1, fb2_2, fb2_3, fb2_4, fb2_5, fb2_6, fb2_z⟩ := blk7 b2.out
  obtain ⟨fb3_0, fb3_1, fb3_2, fb3_3, fb3_4, fb3_z⟩ := blk5 b3.out
  obtain ⟨fb4_0, fb4_1, fb4_2, fb4_3, fb4_4, fb4_z⟩ := blk5 b4.out
  go_wp2_with fail
  clear fb0_0 fb0_1 fb0_2 fb0_3 fb0_4 fb0_z fb1_0 fb1_1 fb1_2 fb1_3 fb1_4 fb1_5 fb1_6 fb1_z fb2_0 fb2_1 fb2_2 fb2_3 fb2_4 fb2_5 fb2_6 fb2_z fb3_0 fb3_1 fb3_2 fb3_3 fb3_4 fb3_z fb4_0 fb4_1 fb4_2 fb4_3 fb4_4 fb4_z
  go_loopw [10] (fun i wr => ∃ k : Nat, 1 ≤ k ∧ k ≤ 5 ∧ i = .int .i64 k ∧ Hd (Blk wr (w.heap.size) #[Value.int IntKind.i64 x.kind, Value.int IntKind.i64 x.n, Value.string x.s, Value.slice A1 x.list.length c1, Value.slice A2 x.names.length c2] 40) ∧ Hd (Blk wr (w.heap.size + 1) #[Value.int IntKind.i64 0, Value.slice none 0 0, Value.int IntKind.i64 0, Value.int IntKind.i64 0, Value.string ⟨#[]⟩, Value.slice none 0 0, Value.slice none 0 0] 49) ∧ Hd (Blk wr (w.heap.size + 1 + 1) #[Value.int IntKind.i64 (kUp fo k), Value.slice none 0 0, Value.int IntKind.i64 0, Value.int IntKind.i64 0, Value.string ⟨#[]⟩, Value.slice none 0 0, Value.slice none 0 0] 49) ∧ Hd (Blk wr (w2.heap.size) #[Value.int IntKind.i64 fo.kind, Value.int IntKind.i64 fo.n, Value.string fo.s, Value.slice Afo fo.list.length cfo, Value.slice Bfo fo.names.length dfo] 40) ∧ Hd (Blk wr (w4.heap.size) #[Value.int IntKind.i64 fp.kind, Value.int IntKind.i64 fp.n, Value.string fp.s, Value.slice Afp fp.list.length cfp, Value.slice Bfp fp.names.length dfp] 40) ∧ Hd (str.R 9 wr (rng W5.heap.size w6.heap.size) (.slice AK 5 5) kindL0) ∧ Hd (Below w.heap.size w wr) ∧ Hd (w6.heap.size ≤ wr.heap.size)) (fun i _ => 5 - (intOf i).toNat)
  case atStart => exact ⟨1, by omega, by omega, rfl, b0, b1, b2, b3, b4, hKN, hB, ⟨Nat.le_refl _⟩⟩
  case round =>
    clear b0 b1 b2 b3 b4 hKN hB
    obtain ⟨k, hk1, hk5, rfl, b0, b1, b2, b3, b4, hKN, hB, hsz1⟩ := hrel
    have hkI0 : (0 : Int) ≤ (k : Int) := by omega
    obtain ⟨ku, hku⟩ : ∃ z, z = kUp fo k := ⟨_, rfl⟩
    rw [← hku] at b2
    have HKU := Hd.mk hku; clear hku
    by_cases hk4 : k < 5
    · have hk4i : (k : Int) < 5 := by omega
      obtain ⟨adk, hadk, hck, hsk⟩ := C_str_at (R_Cv hKN.out) (Below.refl _ _) k (by show k < 5; exact hk4)
      obtain rfl := hadk
      obtain ⟨nk, hnk⟩ : ∃ z, z = kindL0[k]'(by show k < 5; exact hk4) := ⟨_, rfl⟩
      rw [← hnk] at hck
      have HNK := Hd.mk (show kindL0.getD k ⟨#[]⟩ = nk by rw [hnk, List.getD_eq_getElem?_getD, List.getElem?_eq_getElem]; rfl)
      clear hnk
      cases hn3 : (fo.kind == 3)
      · have HST := Hd.mk (show kUp fo (k + 1) = ku by
          show (if (k != 0 && ((fo.kind == 3) && (fo.s.toList == (kindL0.getD k ⟨#[]⟩).toList))) = true then (k : Int) else kUp fo k) = _
          rw [HNK.out, ← HKU.out]
          simp [hn3])
        have hd3 : decide (fo.kind = 3) = false := by simpa using hn3
        obtain ⟨fb0_0, fb0_1, fb0_2, fb0_3, fb0_4, fb0_z⟩ := blk5 b0.out
        obtain ⟨fb1_0, fb1_1, fb1_2, fb1_3, fb1_4, fb1_5, fb1_6, fb1_z⟩ := blk7 b1.out
        obtain ⟨fb2_0, fb2_1, fb2_2, fb2_3, fb2_4, fb2_5, fb2_6, fb2_z⟩ := blk7 b2.out
        obtain ⟨fb3_0, fb3_1, fb3_2, fb3_3, fb3_4, fb3_z⟩ := blk5 b3.out
        obtain ⟨fb4_0, fb4_1, fb4_2, fb4_3, fb4_4, fb4_z⟩ := blk5 b4.out
        go_wp2_with fail
        go_quiet (fail)
        go_wp2_with fail
        clear fb0_0 fb0_1 fb0_2 fb0_3 fb0_4 fb0_z fb1_0 fb1_1 fb1_2 fb1_3 fb1_4 fb1_5 fb1_6 fb1_z fb2_0 fb2_1 fb2_2 fb2_3 fb2_4 fb2_5 fb2_6 fb2_z fb3_0 fb3_1 fb3_2 fb3_3 fb3_4 fb3_z fb4_0 fb4_1 fb4_2 fb4_3 fb4_4 fb4_z
        go_roundw
        case rel => exact ⟨k + 1, by omega, by omega, by go_num, b0, b1, by rw [HST.out]; exact b2, b3, b4, hKN, ⟨below_drewN hB.out nq⟩, hsz1⟩
        case measure => simp [intOf]; omega
      · have hd3 : decide (fo.kind = 3) = true := by simpa using hn3
        cases hbs : (fo.s.toList == nk.toList)
        · have HST := Hd.mk (show kUp fo (k + 1) = ku by
            show (if (k != 0 && ((fo.kind == 3) && (fo.s.toList == (kindL0.getD k ⟨#[]⟩).toList))) = true then (k : Int) else kUp fo k) = _
            rw [HNK.out, ← HKU.out]
            simp [hn3, hbs])
          obtain ⟨fb0_0, fb0_1, fb0_2, fb0_3, fb0_4, fb0_z⟩ := blk5 b0.out
          obtain ⟨fb1_0, fb1_1, fb1_2, fb1_3, fb1_4, fb1_5, fb1_6, fb1_z⟩ := blk7 b1.out
          obtain ⟨fb2_0, fb2_1, fb2_2, fb2_3, fb2_4, fb2_5, fb2_6, fb2_z⟩ := blk7 b2.out
          obtain ⟨fb3_0, fb3_1, fb3_2, fb3_3, fb3_4, fb3_z⟩ := blk5 b3.out
          obtain ⟨fb4_0, fb4_1, fb4_2, fb4_3, fb4_4, fb4_z⟩ := blk5 b4.out
          go_wp2_with fail
          go_quiet (fail)
          go_wp2_with fail
          clear fb0_0 fb0_1 fb0_2 fb0_3 fb0_4 fb0_z fb1_0 fb1_1 fb1_2 fb1_3 fb1_4 fb1_5 fb1_6 fb1_z fb2_0 fb2_1 fb2_2 fb2_3 fb2_4 fb2_5 fb2_6 fb2_z fb3_0 fb3_1 fb3_2 fb3_3 fb3_4 fb3_z fb4_0 fb4_1 fb4_2 fb4_3 fb4_4 fb4_z
          go_roundw
          case rel => exact ⟨k + 1, by omega, by omega, by go_num, b0, b1, by rw [HST.out]; exact b2, b3, b4, hKN, ⟨below_drewN hB.out nq⟩, hsz1⟩
          case measure => simp [intOf]; omega
        · have HST := Hd.mk (show kUp fo (k + 1) = (k : Int) by
            show (if (k != 0 && ((fo.kind == 3) && (fo.s.toList == (kindL0.getD k ⟨#[]⟩).toList))) = true then (k : Int) else kUp fo k) = _
            rw [HNK.out, ← HKU.out]
            simp [hn3, hbs]; omega)
          obtain ⟨fb0_0, fb0_1, fb0_2, fb0_3, fb0_4, fb0_z⟩ := blk5 b0.out
          obtain ⟨fb1_0, fb1_1, fb1_2, fb1_3, fb1_4, fb1_5, fb1_6, fb1_z⟩ := blk7 b1.out
          obtain ⟨fb2_0, fb2_1, fb2_2, fb2_3, fb2_4, fb2_5, fb2_6, fb2_z⟩ := blk7 b2.out
          obtain ⟨fb3_0, fb3_1, fb3_2, fb3_3, fb3_4, fb3_z⟩ := blk5 b3.out
          obtain ⟨fb4_0, fb4_1, fb4_2, fb4_3, fb4_4, fb4_z⟩ := blk5 b4.out
          go_wp2_with fail
          go_quiet (fail)
          go_wp2_with fail
          go_roundw
          clear fb0_0 fb0_1 fb0_2 fb0_3 fb0_4 fb0_z fb1_0 fb1_1 fb1_2 fb1_3 fb1_4 fb1_5 fb1_6 fb1_z fb2_0 fb2_1 fb2_2 fb2_3 fb2_4 fb2_5 fb2_6 fb2_z fb3_0 fb3_1 fb3_2 fb3_3 fb3_4 fb3_z fb4_0 fb4_1 fb4_2 fb4_3 fb4_4 fb4_z
          case rel =>
            have hF2 : Fr wr _ (fun k => k = w.heap.size + 1 + 1) := Fr.setCell (S := fun k => k = w.heap.size + 1 + 1) (Fr.drewN (Fr.refl wr _) nq) ⟨w.heap.size + 1 + 1, 0, none⟩ (fun _ => rfl) (Value.int IntKind.i64 (k : Int))
            have z1_ := z1.out; have z2_ := z2.out; have z3_ := z3.out; have z4_ := z4.out; have z5_ := z5.out; have z6_ := z6.out; have hsz1_ := hsz1.out
            have hBs := hB.out.size
            exact ⟨k + 1, by omega, by omega, by go_num, ⟨b0.out.fr hF2 (fun h => by (try simp only at h); omega)⟩, ⟨b1.out.fr hF2 (fun h => by (try simp only at h); omega)⟩, ⟨by rw [HST.out]; exact (b2.out.drewN nq).set 0 _⟩, ⟨b3.out.fr hF2 (fun h => by (try simp only at h); omega)⟩, ⟨b4.out.fr hF2 (fun h => by (try simp only at h); omega)⟩, ⟨R_fr hKN.out hF2 (fun k hk hl h => by have q1 := hk.1; have q2 := hk.2; (try simp only at h); omega)⟩, ⟨below_frS hB.out hF2 (fun k h => by (try simp only at h); omega)⟩, ⟨by have := hF2.size; omega⟩⟩
          case measure => simp [intOf]; omega
    · obtain rfl : k = 5 := by omega
      have hku5 := kUp_le fo 5
      rw [← HKU.out] at hku5
      clear hKN
      obtain ⟨fb0_0, fb0_1, fb0_2, fb0_3, fb0_4, fb0_z⟩ := blk5 b0.out
      obtain ⟨fb1_0, fb1_1, fb1_2, fb1_3, fb1_4, fb1_5, fb1_6, fb1_z⟩ := blk7 b1.out
      obtain ⟨fb2_0, fb2_1, fb2_2, fb2_3, fb2_4, fb2_5, fb2_6, fb2_z⟩ := blk7 b2.out
      obtain ⟨fb3_0, fb3_1, fb3_2, fb3_3, fb3_4, fb3_z⟩ := blk5 b3.out
      obtain ⟨fb4_0, fb4_1, fb4_2, fb4_3, fb4_4, fb4_z⟩ := blk5 b4.out
      go_wp2_with fail
      clear fb0_0 fb0_1 fb0_2 fb0_3 fb0_4 fb0_z fb1_0 fb1_1 fb1_2 fb1_3 fb1_4 fb1_5 fb1_6 fb1_z fb2_0 fb2_1 fb2_2 fb2_3 fb2_4 fb2_5 fb2_6 fb2_z fb3_0 fb3_1 fb3_2 fb3_3 fb3_4 fb3_z fb4_0 fb4_1 fb4_2 fb4_3 fb4_4 fb4_z
      apply calls_gen; intro W7 hW
      have hz_ : wr.heap.size ≤ W7.heap.size := by rw [hW]; simp
      have hE : Below wr.heap.size wr W7 := by rw [hW]; (repeat (first | with_reducible refine below_alloc ?_ _ | with_reducible refine below_drew ?_)); exact Below.refl _ _
      have hB := Hd.mk (below_then hB.out hE)
      have b0 := Hd.mk (b0.out.below hE)
      have b1 := Hd.mk (b1.out.below hE)
      have b2 := Hd.mk (b2.out.below hE)
      have b3 := Hd.mk (b3.out.below hE)
      have b4 := Hd.mk (b4.out.below hE)
      clear hW hE
      have z7 := Hd.mk hz_; clear hz_
      have hfpz : fp.s.size ≤ 1048576 := by rw [Efp.out]; exact Nat.le_trans (bulk_s m _) (Nat.le_trans (bulk_field HK.out nmPath) HL.out)
      refine (spec_WayRead fp.s _ hfpz).mono ?_
      rintro e w8 ⟨vw, rfl, hWy, hX⟩
      have b0 := Hd.mk (b0.out.below hX)
      have b1 := Hd.mk (b1.out.below hX)
      have b2 := Hd.mk (b2.out.below hX)
      have b3 := Hd.mk (b3.out.below hX)
      have b4 := Hd.mk (b4.out.below hX)
      have hB := Hd.mk (below_then hB.out hX)
      have hz_ := hX.size
      clear hX
      have z8 := Hd.mk hz_; clear hz_
      obtain ⟨AW, cW, hvw, _, _⟩ := R_C hWy
      subst hvw
      replace hWy := Hd.mk (show str.R 9 w8 (rng W7.heap.size w8.heap.size) _ (wayV fp.s) from R_bound hWy)
      obtain ⟨fb0_0, fb0_1, fb0_2, fb0_3, fb0_4, fb0_z⟩ := blk5 b0.out
      obtain ⟨fb1_0, fb1_1, fb1_2, fb1_3, fb1_4, fb1_5, fb1_6, fb1_z⟩ := blk7 b1.out
      obtain ⟨fb2_0, fb2_1, fb2_2, fb2_3, fb2_4, fb2_5, fb2_6, fb2_z⟩ := blk7 b2.out
      obtain ⟨fb3_0, fb3_1, fb3_2, fb3_3, fb3_4, fb3_z⟩ := blk5 b3.out
      obtain ⟨fb4_0, fb4_1, fb4_2, fb4_3, fb4_4, fb4_z⟩ := blk5 b4.out
      go_wp2_with fail
      clear fb0_0 fb0_1 fb0_2 fb0_3 fb0_4 fb0_z fb1_0 fb1_1 fb1_2 fb1_3 fb1_4 fb1_5 fb1_6 fb1_z fb2_0 fb2_1 fb2_2 fb2_3 fb2_4 fb2_5 fb2_6 fb2_z fb3_0 fb3_1 fb3_2 fb3_3 fb3_4 fb3_z fb4_0 fb4_1 fb4_2 fb4_3 fb4_4 fb4_z
      apply calls_gen; intro W9 hW
      have hz_ : w8.heap.size ≤ W9.heap.size := by rw [hW]; simp
      have eF : Fr w8 W9 (fun k => k = w.heap.size + 1 + 1 ∨ w8.heap.size ≤ k) := by rw [hW]; (repeat (first | with_reducible refine Fr.setCell ?_ _ (fun _ => by simp <;> omega) _ | with_reducible refine Fr.alloc ?_ _ | with_reducible refine Fr.drew ?_)); exact Fr.refl _ _
      have z1_ := z1.out; have z2_ := z2.out; have z3_ := z3.out; have z4_ := z4.out; have z5_ := z5.out; have z6_ := z6.out; have hsz1_ := hsz1.out; have z7_ := z7.out; have z8_ := z8.out
      have hB := Hd.mk (((Fr.of_below hB.out (fun k => k = w.heap.size + 1 + 1 ∨ w8.heap.size ≤ k)).then_ eF (fun k hk _ => hk)).below (fun k hk => by have := hB.out.size; omega))
      have b0 := Hd.mk (b0.out.fr eF (fun h => by have hlt_ := b0.out.lt; (try simp only at h); omega))
      have b1 := Hd.mk (b1.out.fr eF (fun h => by have hlt_ := b1.out.lt; (try simp only at h); omega))
      have b2 := Hd.mk (show Blk W9 (w.heap.size + 1 + 1) #[Value.int IntKind.i64 ku, Value.slice AW (wayV fp.s).length cW, Value.int IntKind.i64 0, Value.int IntKind.i64 0, Value.string ⟨#[]⟩, Value.slice none 0 0, Value.slice none 0 0] 49 by rw [hW]; exact (b2.out.set 1 (Value.slice AW (wayV fp.s).length cW)))
      have b3 := Hd.mk (b3.out.fr eF (fun h => by have hlt_ := b3.out.lt; (try simp only at h); omega))
      have b4 := Hd.mk (b4.out.fr eF (fun h => by have hlt_ := b4.out.lt; (try simp only at h); omega))
      have hWy := Hd.mk (R_fr hWy.out eF (fun k hk hl h => by skip; (try simp only [rng] at hk); (try simp only at hk); (try simp only at h); omega))
      clear hW eF
      have z9 := Hd.mk hz_; clear hz_
      refine (spec_Field x _ nmValue _ (Ty.K_below _ hB.out HK.out) (Nat.le_trans HL.out (by decide))).mono ?_
      rintro e w10 ⟨cf, rfl, hF, hX⟩
      have b0 := Hd.mk (b0.out.below hX)
      have b1 := Hd.mk (b1.out.below hX)
      have b2 := Hd.mk (b2.out.below hX)
      have b3 := Hd.mk (b3.out.below hX)
      have b4 := Hd.mk (b4.out.below hX)
      have hWy := Hd.mk (R_below hWy.out hX)
      have hB := Hd.mk (below_then hB.out hX)
      have hz_ := hX.size
      clear hX
      have z10 := Hd.mk hz_; clear hz_
      obtain ⟨fv, hfv⟩ : ∃ z, z = field x nmValue := ⟨_, rfl⟩
      obtain ⟨bfv, hbfv⟩ : ∃ z, z = hasField x nmValue := ⟨_, rfl⟩
      rw [← hfv] at hF
      rw [← hbfv]
      have Efv := Hd.mk hfv; have EBfv := Hd.mk hbfv; clear hfv hbfv
      obtain ⟨v3, v4, _, _, rfl, hsfv, h3_, h4_, _⟩ := tJ_O.1 hF
      obtain ⟨Afv, cfv, rfl, _, _⟩ := R_C h3_
      obtain ⟨Bfv, dfv, rfl, _, _⟩ := R_C h4_
      clear h3_ h4_
      replace hF := Hd.mk (show (tJ (m + 1)).O w10 (rng W9.heap.size w10.heap.size) fv _ from Ty.O_bound _ hF)
      obtain ⟨fb0_0, fb0_1, fb0_2, fb0_3, fb0_4, fb0_z⟩ := blk5 b0.out
      obtain ⟨fb1_0, fb1_1, fb1_2, fb1_3, fb1_4, fb1_5, fb1_6, fb1_z⟩ := blk7 b1.out
      obtain ⟨fb2_0, fb2_1, fb2_2, fb2_3, fb2_4, fb2_5, fb2_6, fb2_z⟩ := blk7 b2.out
      obtain ⟨fb3_0, fb3_1, fb3_2, fb3_3, fb3_4, fb3_z⟩ := blk5 b3.out
      obtain ⟨fb4_0, fb4_1, fb4_2, fb4_3, fb4_4, fb4_z⟩ := blk5 b4.out
      have lfz := fun o j => frozen_below (a := ⟨w.heap.size + 1 + 1, j, none⟩) (below_alloc (Below.refl _ _) o) b2.out.lt (fb2_z j)
      have lfb0_0 := fun o => cell_below (below_alloc (Below.refl _ _) o) fb0_0
      have lfb0_1 := fun o => cell_below (below_alloc (Below.refl _ _) o) fb0_1
      have lfb0_2 := fun o => cell_below (below_alloc (Below.refl _ _) o) fb0_2
      have lfb0_3 := fun o => cell_below (below_alloc (Below.refl _ _) o) fb0_3
      have lfb0_4 := fun o => cell_below (below_alloc (Below.refl _ _) o) fb0_4
      have lfb1_0 := fun o => cell_below (below_alloc (Below.refl _ _) o) fb1_0
      have lfb1_1 := fun o => cell_below (below_alloc (Below.refl _ _) o) fb1_1
      have lfb1_2 := fun o => cell_below (below_alloc (Below.refl _ _) o) fb1_2
      have lfb1_3 := fun o => cell_below (below_alloc (Below.refl _ _) o) fb1_3
      have lfb1_4 := fun o => cell_below (below_alloc (Below.refl _ _) o) fb1_4
      have lfb1_5 := fun o => cell_below (below_alloc (Below.refl _ _) o) fb1_5
      have lfb1_6 := fun o => cell_below (below_alloc (Below.refl _ _) o) fb1_6
      have lfb2_0 := fun o => cell_below (below_alloc (Below.refl _ _) o) fb2_0
      have lfb2_1 := fun o => cell_below (below_alloc (Below.refl _ _) o) fb2_1
      have lfb2_2 := fun o => cell_below (below_alloc (Below.refl _ _) o) fb2_2
      have lfb2_3 := fun o => cell_below (below_alloc (Below.refl _ _) o) fb2_3
      have lfb2_4 := fun o => cell_below (below_alloc (Below.refl _ _) o) fb2_4
      have lfb2_5 := fun o => cell_below (below_alloc (Below.refl _ _) o) fb2_5
      have lfb2_6 := fun o => cell_below (below_alloc (Below.refl _ _) o) fb2_6
      have lfb3_0 := fun o => cell_below (below_alloc (Below.refl _ _) o) fb3_0
      have lfb3_1 := fun o => cell_below (below_alloc (Below.refl _ _) o) fb3_1
      have lfb3_2 := fun o => cell_below (below_alloc (Below.refl _ _) o) fb3_2
      have lfb3_3 := fun o => cell_below (below_alloc (Below.refl _ _) o) fb3_3
      have lfb3_4 := fun o => cell_below (below_alloc (Below.refl _ _) o) fb3_4
      have lfb4_0 := fun o => cell_below (below_alloc (Below.refl _ _) o) fb4_0
      have lfb4_1 := fun o => cell_below (below_alloc (Below.refl _ _) o) fb4_1
      have lfb4_2 := fun o => cell_below (below_alloc (Below.refl _ _) o) fb4_2
      have lfb4_3 := fun o => cell_below (below_alloc (Below.refl _ _) o) fb4_3
      have lfb4_4 := fun o => cell_below (below_alloc (Below.refl _ _) o) fb4_4
      go_wp2_with fail
      clear lfb0_0 lfb0_1 lfb0_2 lfb0_3 lfb0_4 lfb1_0 lfb1_1 lfb1_2 lfb1_3 lfb1_4 lfb1_5 lfb1_6 lfb2_0 lfb2_1 lfb2_2 lfb2_3 lfb2_4 lfb2_5 lfb2_6 lfb3_0 lfb3_1 lfb3_2 lfb3_3 lfb3_4 lfb4_0 lfb4_1 lfb4_2 lfb4_3 lfb4_4 lfz
      clear fb0_0 fb0_1 fb0_2 fb0_3 fb0_4 fb0_z fb1_0 fb1_1 fb1_2 fb1_3 fb1_4 fb1_5 fb1_6 fb1_z fb2_0 fb2_1 fb2_2 fb2_3 fb2_4 fb2_5 fb2_6 fb2_z fb3_0 fb3_1 fb3_2 fb3_3 fb3_4 fb3_z fb4_0 fb4_1 fb4_2 fb4_3 fb4_4 fb4_z
      apply wp_gen; intro W11 hW_
      have eF : Fr w10 W11 (fun k => k = w.heap.size + 1 + 1 ∨ w10.heap.size ≤ k) := by rw [hW_]; (repeat (first | with_reducible refine Fr.setCell ?_ _ (fun _ => by simp <;> omega) _ | with_reducible refine Fr.alloc ?_ _ | with_reducible refine Fr.drew ?_)); exact Fr.refl _ _
      have z1_ := z1.out; have z2_ := z2.out; have z3_ := z3.out; have z4_ := z4.out; have z5_ := z5.out; have z6_ := z6.out; have hsz1_ := hsz1.out; have z7_ := z7.out; have z8_ := z8.out; have z9_ := z9.out; have z10_ := z10.out
      have b2n := Hd.mk (show Blk W11 (w.heap.size + 1 + 1) #[Value.int IntKind.i64 ku, Value.slice AW (wayV fp.s).length cW, Value.int IntKind.i64 fv.kind, Value.int IntKind.i64 fv.n, Value.string fv.s, Value.slice Afv fv.list.length cfv, Value.slice Bfv fv.names.length dfv] 49 by rw [hW_]; exact b2_sets b2.out)
      clear hW_ b2
      replace b0 := Hd.mk (b0.out.fr eF (fun h => by have hlt_ := b0.out.lt; (try simp only at h); omega))
      replace b1 := Hd.mk (b1.out.fr eF (fun h => by have hlt_ := b1.out.lt; (try simp only at h); omega))
      replace b3 := Hd.mk (b3.out.fr eF (fun h => by have hlt_ := b3.out.lt; (try simp only at h); omega))
      replace b4 := Hd.mk (b4.out.fr eF (fun h => by have hlt_ := b4.out.lt; (try simp only at h); omega))
      replace hWy := Hd.mk (R_fr hWy.out eF (fun k hk hl h => by have q1 := hk.1; have q2 := hk.2; (try simp only at h); omega))
      replace hF := Hd.mk (Ty.O_fr hF.out eF (fun k hk hl h => by have q1 := hk.1; have q2 := hk.2; (try simp only at h); omega))
      have hz_ := eF.size
      replace hB := Hd.mk (below_frS hB.out eF (fun k h => by have := hB.out.size; (try simp only at h); omega))
      clear eF
      have b2 := b2n; clear b2n
      have z11 := Hd.mk hz_; clear hz_
      have HRS := Hd.mk (show readS x = ⟨ku, wayV fp.s, fv⟩ by unfold readS; rw [← Efo.out, ← Efp.out, ← Efv.out, ← HKU.out])
      cases hwo : wayOk fp.s
      · have HRB := Hd.mk (show readB x = false by rw [← (read_eq x).1]; unfold readSB; rw [HRS.out, ← Efo.out, ← Efp.out, ← HKU.out]; simp [hwo])
        obtain ⟨fb0_0, fb0_1, fb0_2, fb0_3, fb0_4, fb0_z⟩ := blk5 b0.out
        obtain ⟨fb1_0, fb1_1, fb1_2, fb1_3, fb1_4, fb1_5, fb1_6, fb1_z⟩ := blk7 b1.out
        obtain ⟨fb2_0, fb2_1, fb2_2, fb2_3, fb2_4, fb2_5, fb2_6, fb2_z⟩ := blk7 b2.out
        obtain ⟨fb3_0, fb3_1, fb3_2, fb3_3, fb3_4, fb3_z⟩ := blk5 b3.out
        obtain ⟨fb4_0, fb4_1, fb4_2, fb4_3, fb4_4, fb4_z⟩ := blk5 b4.out
        have rfb0_0 := cell_regrown fb0_0
        have rfb0_1 := cell_regrown fb0_1
        have rfb0_2 := cell_regrown fb0_2
        have rfb0_3 := cell_regrown fb0_3
        have rfb0_4 := cell_regrown fb0_4
        have rfb1_0 := cell_regrown fb1_0
        have rfb1_1 := cell_regrown fb1_1
        have rfb1_2 := cell_regrown fb1_2
        have rfb1_3 := cell_regrown fb1_3
        have rfb1_4 := cell_regrown fb1_4
        have rfb1_5 := cell_regrown fb1_5
        have rfb1_6 := cell_regrown fb1_6
        have rfb2_0 := cell_regrown fb2_0
        have rfb2_1 := cell_regrown fb2_1
        have rfb2_2 := cell_regrown fb2_2
        have rfb2_3 := cell_regrown fb2_3
        have rfb2_4 := cell_regrown fb2_4
        have rfb2_5 := cell_regrown fb2_5
        have rfb2_6 := cell_regrown fb2_6
        have rfb3_0 := cell_regrown fb3_0
        have rfb3_1 := cell_regrown fb3_1
        have rfb3_2 := cell_regrown fb3_2
        have rfb3_3 := cell_regrown fb3_3
        have rfb3_4 := cell_regrown fb3_4
        have rfb4_0 := cell_regrown fb4_0
        have rfb4_1 := cell_regrown fb4_1
        have rfb4_2 := cell_regrown fb4_2
        have rfb4_3 := cell_regrown fb4_3
        have rfb4_4 := cell_regrown fb4_4
        refine region_mix [(true, 0), (true, 1), (true, 2), (true, 3), (true, 4), (true, 5), (true, 6), (true, 7), (true, 8), (true, 10), (false, 9), (false, 11), (true, 12), (true, 13)] (by kernel_rfl) (by kernel_rfl) (fun _ _ _ _ _ h => h) ?_
        (repeat (first | (refine mix_z rfl (by rfl) ?_; go_big_quiet_skip; refine wpQuiet_nil ?_) | (refine mix_q rfl ?_; first | (go_big_quiet_skip; refine wpQuiet_nil ?_) | (go_big_quiet_want; go_big_quiet_op; go_big_quiet_on; refine wpQuiet_nil ?_))))
        refine mix_nil ?_
        clear rfb0_0 rfb0_1 rfb0_2 rfb0_3 rfb0_4 rfb1_0 rfb1_1 rfb1_2 rfb1_3 rfb1_4 rfb1_5 rfb1_6 rfb2_0 rfb2_1 rfb2_2 rfb2_3 rfb2_4 rfb2_5 rfb2_6 rfb3_0 rfb3_1 rfb3_2 rfb3_3 rfb3_4 rfb4_0 rfb4_1 rfb4_2 rfb4_3 rfb4_4
        go_wp2_with (refine store_blk rfl 49 _ _ rfl (w.heap.size + 1) #[Value.int IntKind.i64 0, Value.slice none 0 0, Value.int IntKind.i64 0, Value.int IntKind.i64 0, Value.string ⟨#[]⟩, Value.slice none 0 0, Value.slice none 0 0] rfl rfl b1.out info7 rfl (by simp [Value.oneCell']) (fun W5 b5 hf5 hz5 => ?_); clear fb1_0 fb1_1 fb1_2 fb1_3 fb1_4 fb1_5 fb1_6 fb1_z; have y0 : W5.cell? ⟨w.heap.size + 1, 0, none⟩ = some (Value.int IntKind.i64 0) := b5.cell 0 rfl; have y1 : W5.cell? ⟨w.heap.size + 1, 1, none⟩ = some (Value.slice none 0 0) := b5.cell 1 rfl; have y2 : W5.cell? ⟨w.heap.size + 1, 2, none⟩ = some (Value.int IntKind.i64 0) := b5.cell 2 rfl; have y3 : W5.cell? ⟨w.heap.size + 1, 3, none⟩ = some (Value.int IntKind.i64 0) := b5.cell 3 rfl; have y4 : W5.cell? ⟨w.heap.size + 1, 4, none⟩ = some (Value.string ⟨#[]⟩) := b5.cell 4 rfl; have y5 : W5.cell? ⟨w.heap.size + 1, 5, none⟩ = some (Value.slice none 0 0) := b5.cell 5 rfl; have y6 : W5.cell? ⟨w.heap.size + 1, 6, none⟩ = some (Value.slice none 0 0) := b5.cell 6 rfl; have y7 := b5.frozen; have hz5' := Hd.mk hz5; clear hz5)
        refine bodyPost_retW (v := .tuple #[.agg #[Value.int IntKind.i64 0, Value.slice none 0 0, Value.int IntKind.i64 0, Value.int IntKind.i64 0, Value.string ⟨#[]⟩, Value.slice none 0 0, Value.slice none 0 0], .bool false]) (by simp [results, Tryd.results40, go_sem, y0, y1, y2, y3, y4, y5, y6]) rfl ?_
        intro W hW; obtain rfl := hW
        clear y0 y1 y2 y3 y4 y5 y6 y7 fb0_0 fb0_1 fb0_2 fb0_3 fb0_4 fb0_z fb2_0 fb2_1 fb2_2 fb2_3 fb2_4 fb2_5 fb2_6 fb2_z fb3_0 fb3_1 fb3_2 fb3_3 fb3_4 fb3_z fb4_0 fb4_1 fb4_2 fb4_3 fb4_4 fb4_z
        have z1_ := z1.out; have z2_ := z2.out; have z3_ := z3.out; have z4_ := z4.out; have z5_ := z5.out; have z6_ := z6.out; have hsz1_ := hsz1.out; have z7_ := z7.out; have z8_ := z8.out; have z9_ := z9.out; have z10_ := z10.out; have z11_ := z11.out
        have hBs := hB.out.size
        have hz5 := hz5'.out
        have hB5 := Hd.mk (below_frS (below_drew hB.out) hf5 (fun k h => by (try simp only at h); omega))
        exact ⟨[Value.int IntKind.i64 0, Value.slice none 0 0, Value.int IntKind.i64 0, Value.int IntKind.i64 0, Value.string ⟨#[]⟩, Value.slice none 0 0, Value.slice none 0 0], by rw [HRB.out], by unfold readO; rw [HRB.out]; exact OpZ m _ _, hB5.out⟩
      · cases hk0 : (ku == 0)
        · obtain ⟨fb0_0, fb0_1, fb0_2, fb0_3, fb0_4, fb0_z⟩ := blk5 b0.out
          obtain ⟨fb1_0, fb1_1, fb1_2, fb1_3, fb1_4, fb1_5, fb1_6, fb1_z⟩ := blk7 b1.out
          obtain ⟨fb2_0, fb2_1, fb2_2, fb2_3, fb2_4, fb2_5, fb2_6, fb2_z⟩ := blk7 b2.out
          obtain ⟨fb3_0, fb3_1, fb3_2, fb3_3, fb3_4, fb3_z⟩ := blk5 b3.out
          obtain ⟨fb4_0, fb4_1, fb4_2, fb4_3, fb4_4, fb4_z⟩ := blk5 b4.out
          have rfb0_0 := cell_regrown fb0_0
          have rfb0_1 := cell_regrown fb0_1
          have rfb0_2 := cell_regrown fb0_2
          have rfb0_3 := cell_regrown fb0_3
          have rfb0_4 := cell_regrown fb0_4
          have rfb1_0 := cell_regrown fb1_0
          have rfb1_1 := cell_regrown fb1_1
          have rfb1_2 := cell_regrown fb1_2
          have rfb1_3 := cell_regrown fb1_3
          have rfb1_4 := cell_regrown fb1_4
          have rfb1_5 := cell_regrown fb1_5
          have rfb1_6 := cell_regrown fb1_6
          have rfb2_0 := cell_regrown fb2_0
          have rfb2_1 := cell_regrown fb2_1
          have rfb2_2 := cell_regrown fb2_2
          have rfb2_3 := cell_regrown fb2_3
          have rfb2_4 := cell_regrown fb2_4
          have rfb2_5 := cell_regrown fb2_5
          have rfb2_6 := cell_regrown fb2_6
          have rfb3_0 := cell_regrown fb3_0
          have rfb3_1 := cell_regrown fb3_1
          have rfb3_2 := cell_regrown fb3_2
          have rfb3_3 := cell_regrown fb3_3
          have rfb3_4 := cell_regrown fb3_4
          have rfb4_0 := cell_regrown fb4_0
          have rfb4_1 := cell_regrown fb4_1
          have rfb4_2 := cell_regrown fb4_2
          have rfb4_3 := cell_regrown fb4_3
          have rfb4_4 := cell_regrown fb4_4
          refine region_mix [(true, 0), (true, 1), (true, 2), (true, 3), (true, 4), (true, 5), (true, 6), (true, 7), (true, 8), (true, 10), (false, 9), (false, 11), (true, 12), (true, 13)] (by kernel_rfl) (by kernel_rfl) (fun _ _ _ _ _ h => h) ?_
          (repeat (first | (refine mix_z rfl (by rfl) ?_; go_big_quiet_skip; refine wpQuiet_nil ?_) | (refine mix_q rfl ?_; first | (go_big_quiet_skip; refine wpQuiet_nil ?_) | (go_big_quiet_want; go_big_quiet_op; go_big_quiet_on; refine wpQuiet_nil ?_))))
          have hS := Hd.mk (Below.refl W11.heap.size W11)
          refine mix_b rfl ?_ (by rfl)
          go_wp2_with fail
          clear fb0_0 fb0_1 fb0_2 fb0_3 fb0_4 fb0_z fb1_0 fb1_1 fb1_2 fb1_3 fb1_4 fb1_5 fb1_6 fb1_z fb2_0 fb2_1 fb2_2 fb2_3 fb2_4 fb2_5 fb2_6 fb2_z fb3_0 fb3_1 fb3_2 fb3_3 fb3_4 fb3_z fb4_0 fb4_1 fb4_2 fb4_3 fb4_4 fb4_z
          apply calls_gen; intro W12 hW
          have hz_ : W11.heap.size ≤ W12.heap.size := by rw [hW]; simp
          have hE : Below W11.heap.size W11 W12 := by rw [hW]; (repeat (first | with_reducible refine below_alloc ?_ _ | with_reducible refine below_drew ?_)); exact Below.refl _ _
          have hB := Hd.mk (below_then hB.out hE)
          replace hS := Hd.mk (below_then hS.out hE)
          have b0 := Hd.mk (b0.out.below hE)
          have b1 := Hd.mk (b1.out.below hE)
          have b2 := Hd.mk (b2.out.below hE)
          have b3 := Hd.mk (b3.out.below hE)
          have b4 := Hd.mk (b4.out.below hE)
          have hWy := Hd.mk (R_below hWy.out hE)
          have hF := Hd.mk (Ty.O_below hF.out hE)
          clear hW hE
          have z12 := Hd.mk hz_; clear hz_
          have hwz := bulk_wayV fp.s
          have hfvz : bulkJ (m + 1) fv ≤ 4194304 := by rw [Efv.out]; exact Nat.le_trans (bulk_field HK.out nmValue) (Nat.le_trans HL.out (by decide))
          refine (spec_OpJson ⟨ku, wayV fp.s, fv⟩ _ _ (op_K hWy.out hF.out) (Nat.le_trans hwz hfpz) hfvz).mono ?_
          rintro e w13 ⟨cy, rfl, hY, hX⟩
          have b0 := Hd.mk (b0.out.below hX)
          have b1 := Hd.mk (b1.out.below hX)
          have b2 := Hd.mk (b2.out.below hX)
          have b3 := Hd.mk (b3.out.below hX)
          have b4 := Hd.mk (b4.out.below hX)
          have hWy := Hd.mk (R_below hWy.out hX)
          have hF := Hd.mk (Ty.O_below hF.out hX)
          have hB := Hd.mk (below_then hB.out hX)
          replace hS := Hd.mk (below_then hS.out hX)
          have hz_ := hX.size
          clear hX
          have z13 := Hd.mk hz_; clear hz_
          replace hY := Hd.mk hY
          obtain ⟨v3, v4, _, _, hcy, _, h3_, h4_, _⟩ := tJ_O.1 hY.out
          obtain ⟨A7, c7, rfl, _, _⟩ := R_C h3_
          obtain ⟨A8, c8, rfl, _, _⟩ := R_C h4_
          clear h3_ h4_
          subst hcy
          go_wp2_with fail
          refine ⟨cls_below hS.out, ?_⟩
          refine mix_b rfl ?_ (by rfl)
          go_wp2_with fail
          apply calls_gen; intro W14 hW
          have hz_ : w13.heap.size ≤ W14.heap.size := by rw [hW]; simp
          have hE : Below w13.heap.size w13 W14 := by rw [hW]; (repeat (first | with_reducible refine below_alloc ?_ _ | with_reducible refine below_drew ?_)); exact Below.refl _ _
          have hB := Hd.mk (below_then hB.out hE)
          replace hS := Hd.mk (below_then hS.out hE)
          have b0 := Hd.mk (b0.out.below hE)
          have b1 := Hd.mk (b1.out.below hE)
          have b2 := Hd.mk (b2.out.below hE)
          have b3 := Hd.mk (b3.out.below hE)
          have b4 := Hd.mk (b4.out.below hE)
          have hWy := Hd.mk (R_below hWy.out hE)
          have hF := Hd.mk (Ty.O_below hF.out hE)
          have hY := Hd.mk (Ty.O_below hY.out hE)
          clear hW hE
          have z14 := Hd.mk hz_; clear hz_
          refine (spec_JsonSame (opJ ⟨ku, wayV fp.s, fv⟩) x _ _ _ (Ty.O_K _ hY.out) (Ty.K_below _ hB.out ((tJ_le (Nat.le_succ (m + 1))).K _ _ _ HK.out))).mono ?_
          rintro e w15 ⟨rfl, hX⟩
          have b0 := Hd.mk (b0.out.below hX)
          have b1 := Hd.mk (b1.out.below hX)
          have b2 := Hd.mk (b2.out.below hX)
          have b3 := Hd.mk (b3.out.below hX)
          have b4 := Hd.mk (b4.out.below hX)
          have hWy := Hd.mk (R_below hWy.out hX)
          have hF := Hd.mk (Ty.O_below hF.out hX)
          have hY := Hd.mk (Ty.O_below hY.out hX)
          have hB := Hd.mk (below_then hB.out hX)
          replace hS := Hd.mk (below_then hS.out hX)
          have hz_ := hX.size
          clear hX
          have z15 := Hd.mk hz_; clear hz_
          clear hY
          go_wp2_with fail
          refine ⟨cls_below hS.out, ?_⟩
          (repeat (first | (refine mix_z rfl (by rfl) ?_; go_big_quiet_skip; refine wpQuiet_nil ?_) | (refine mix_q rfl ?_; first | (go_big_quiet_skip; refine wpQuiet_nil ?_) | (go_big_quiet_want; go_big_quiet_op; go_big_quiet_on; refine wpQuiet_nil ?_))))
          refine mix_nil ?_
          clear hS rfb0_0 rfb0_1 rfb0_2 rfb0_3 rfb0_4 rfb1_0 rfb1_1 rfb1_2 rfb1_3 rfb1_4 rfb1_5 rfb1_6 rfb2_0 rfb2_1 rfb2_2 rfb2_3 rfb2_4 rfb2_5 rfb2_6 rfb3_0 rfb3_1 rfb3_2 rfb3_3 rfb3_4 rfb4_0 rfb4_1 rfb4_2 rfb4_3 rfb4_4
          cases hjs : jsonSame (opJ ⟨ku, wayV fp.s, fv⟩) x
          · have HRB := Hd.mk (show readB x = false by rw [← (read_eq x).1]; unfold readSB; rw [HRS.out, ← Efo.out, ← Efp.out, ← HKU.out]; simp [hwo, hk0, hjs])
            obtain ⟨fb0_0, fb0_1, fb0_2, fb0_3, fb0_4, fb0_z⟩ := blk5 b0.out
            obtain ⟨fb1_0, fb1_1, fb1_2, fb1_3, fb1_4, fb1_5, fb1_6, fb1_z⟩ := blk7 b1.out
            obtain ⟨fb2_0, fb2_1, fb2_2, fb2_3, fb2_4, fb2_5, fb2_6, fb2_z⟩ := blk7 b2.out
            obtain ⟨fb3_0, fb3_1, fb3_2, fb3_3, fb3_4, fb3_z⟩ := blk5 b3.out
            obtain ⟨fb4_0, fb4_1, fb4_2, fb4_3, fb4_4, fb4_z⟩ := blk5 b4.out
            go_wp2_with (refine store_blk rfl 49 _ _ rfl (w.heap.size + 1) #[Value.int IntKind.i64 0, Value.slice none 0 0, Value.int IntKind.i64 0, Value.int IntKind.i64 0, Value.string ⟨#[]⟩, Value.slice none 0 0, Value.slice none 0 0] rfl rfl b1.out info7 rfl (by simp [Value.oneCell']) (fun W5 b5 hf5 hz5 => ?_); clear fb1_0 fb1_1 fb1_2 fb1_3 fb1_4 fb1_5 fb1_6 fb1_z; have y0 : W5.cell? ⟨w.heap.size + 1, 0, none⟩ = some (Value.int IntKind.i64 0) := b5.cell 0 rfl; have y1 : W5.cell? ⟨w.heap.size + 1, 1, none⟩ = some (Value.slice none 0 0) := b5.cell 1 rfl; have y2 : W5.cell? ⟨w.heap.size + 1, 2, none⟩ = some (Value.int IntKind.i64 0) := b5.cell 2 rfl; have y3 : W5.cell? ⟨w.heap.size + 1, 3, none⟩ = some (Value.int IntKind.i64 0) := b5.cell 3 rfl; have y4 : W5.cell? ⟨w.heap.size + 1, 4, none⟩ = some (Value.string ⟨#[]⟩) := b5.cell 4 rfl; have y5 : W5.cell? ⟨w.heap.size + 1, 5, none⟩ = some (Value.slice none 0 0) := b5.cell 5 rfl; have y6 : W5.cell? ⟨w.heap.size + 1, 6, none⟩ = some (Value.slice none 0 0) := b5.cell 6 rfl; have y7 := b5.frozen; have hz5' := Hd.mk hz5; clear hz5)
            refine bodyPost_retW (v := .tuple #[.agg #[Value.int IntKind.i64 0, Value.slice none 0 0, Value.int IntKind.i64 0, Value.int IntKind.i64 0, Value.string ⟨#[]⟩, Value.slice none 0 0, Value.slice none 0 0], .bool false]) (by simp [results, Tryd.results40, go_sem, y0, y1, y2, y3, y4, y5, y6]) rfl ?_
            intro W hW; obtain rfl := hW
            clear y0 y1 y2 y3 y4 y5 y6 y7 fb0_0 fb0_1 fb0_2 fb0_3 fb0_4 fb0_z fb2_0 fb2_1 fb2_2 fb2_3 fb2_4 fb2_5 fb2_6 fb2_z fb3_0 fb3_1 fb3_2 fb3_3 fb3_4 fb3_z fb4_0 fb4_1 fb4_2 fb4_3 fb4_4 fb4_z
            have z1_ := z1.out; have z2_ := z2.out; have z3_ := z3.out; have z4_ := z4.out; have z5_ := z5.out; have z6_ := z6.out; have hsz1_ := hsz1.out; have z7_ := z7.out; have z8_ := z8.out; have z9_ := z9.out; have z10_ := z10.out; have z11_ := z11.out; have z12_ := z12.out; have z13_ := z13.out; have z14_ := z14.out; have z15_ := z15.out
            have hBs := hB.out.size
            have hz5 := hz5'.out
            have hB5 := Hd.mk (below_frS hB.out hf5 (fun k h => by (try simp only at h); omega))
            exact ⟨[Value.int IntKind.i64 0, Value.slice none 0 0, Value.int IntKind.i64 0, Value.int IntKind.i64 0, Value.string ⟨#[]⟩, Value.slice none 0 0, Value.slice none 0 0], by rw [HRB.out], by unfold readO; rw [HRB.out]; exact OpZ m _ _, hB5.out⟩
          · have HRB := Hd.mk (show readB x = true by rw [← (read_eq x).1]; unfold readSB; rw [HRS.out, ← Efo.out, ← Efp.out, ← HKU.out]; simp [hwo, hjs]; simpa using hk0)
            have HRO := Hd.mk (show readO x = ⟨ku, wayV fp.s, fv⟩ by unfold readO; rw [HRB.out, if_pos rfl, ← (read_eq x).2 HRB.out]; exact HRS.out)
            obtain ⟨fb0_0, fb0_1, fb0_2, fb0_3, fb0_4, fb0_z⟩ := blk5 b0.out
            obtain ⟨fb1_0, fb1_1, fb1_2, fb1_3, fb1_4, fb1_5, fb1_6, fb1_z⟩ := blk7 b1.out
            obtain ⟨fb2_0, fb2_1, fb2_2, fb2_3, fb2_4, fb2_5, fb2_6, fb2_z⟩ := blk7 b2.out
            obtain ⟨fb3_0, fb3_1, fb3_2, fb3_3, fb3_4, fb3_z⟩ := blk5 b3.out
            obtain ⟨fb4_0, fb4_1, fb4_2, fb4_3, fb4_4, fb4_z⟩ := blk5 b4.out
            go_wp2_with (refine store_blk rfl 49 _ _ rfl (w.heap.size + 1) #[Value.int IntKind.i64 ku, Value.slice AW (wayV fp.s).length cW, Value.int IntKind.i64 fv.kind, Value.int IntKind.i64 fv.n, Value.string fv.s, Value.slice Afv fv.list.length cfv, Value.slice Bfv fv.names.length dfv] rfl rfl b1.out info7 rfl (by simp [Value.oneCell']) (fun W5 b5 hf5 hz5 => ?_); clear fb1_0 fb1_1 fb1_2 fb1_3 fb1_4 fb1_5 fb1_6 fb1_z; have y0 : W5.cell? ⟨w.heap.size + 1, 0, none⟩ = some (Value.int IntKind.i64 ku) := b5.cell 0 rfl; have y1 : W5.cell? ⟨w.heap.size + 1, 1, none⟩ = some (Value.slice AW (wayV fp.s).length cW) := b5.cell 1 rfl; have y2 : W5.cell? ⟨w.heap.size + 1, 2, none⟩ = some (Value.int IntKind.i64 fv.kind) := b5.cell 2 rfl; have y3 : W5.cell? ⟨w.heap.size + 1, 3, none⟩ = some (Value.int IntKind.i64 fv.n) := b5.cell 3 rfl; have y4 : W5.cell? ⟨w.heap.size + 1, 4, none⟩ = some (Value.string fv.s) := b5.cell 4 rfl; have y5 : W5.cell? ⟨w.heap.size + 1, 5, none⟩ = some (Value.slice Afv fv.list.length cfv) := b5.cell 5 rfl; have y6 : W5.cell? ⟨w.heap.size + 1, 6, none⟩ = some (Value.slice Bfv fv.names.length dfv) := b5.cell 6 rfl; have y7 := b5.frozen; have hz5' := Hd.mk hz5; clear hz5)
            refine bodyPost_retW (v := .tuple #[.agg #[Value.int IntKind.i64 ku, Value.slice AW (wayV fp.s).length cW, Value.int IntKind.i64 fv.kind, Value.int IntKind.i64 fv.n, Value.string fv.s, Value.slice Afv fv.list.length cfv, Value.slice Bfv fv.names.length dfv], .bool true]) (by simp [results, Tryd.results40, go_sem, y0, y1, y2, y3, y4, y5, y6]) rfl ?_
            intro W hW; obtain rfl := hW
            clear y0 y1 y2 y3 y4 y5 y6 y7 fb0_0 fb0_1 fb0_2 fb0_3 fb0_4 fb0_z fb2_0 fb2_1 fb2_2 fb2_3 fb2_4 fb2_5 fb2_6 fb2_z fb3_0 fb3_1 fb3_2 fb3_3 fb3_4 fb3_z fb4_0 fb4_1 fb4_2 fb4_3 fb4_4 fb4_z
            have z1_ := z1.out; have z2_ := z2.out; have z3_ := z3.out; have z4_ := z4.out; have z5_ := z5.out; have z6_ := z6.out; have hsz1_ := hsz1.out; have z7_ := z7.out; have z8_ := z8.out; have z9_ := z9.out; have z10_ := z10.out; have z11_ := z11.out; have z12_ := z12.out; have z13_ := z13.out; have z14_ := z14.out; have z15_ := z15.out
            have hBs := hB.out.size
            have hz5 := hz5'.out
            have hB5 := Hd.mk (below_frS hB.out hf5 (fun k h => by (try simp only at h); omega))
            exact ⟨[Value.int IntKind.i64 ku, Value.slice AW (wayV fp.s).length cW, Value.int IntKind.i64 fv.kind, Value.int IntKind.i64 fv.n, Value.string fv.s, Value.slice Afv fv.list.length cfv, Value.slice Bfv fv.names.length dfv], by rw [HRB.out], by rw [HRO.out]; exact tOp_O.2 ⟨_, _, _, _, rfl, R_fr hWy.out hf5 (fun k hk hl h => by have q1 := hk.1; have q2 := hk.2; (try simp only at h); omega), Ty.O_fr hF.out hf5 (fun k hk hl h => by have q1 := hk.1; have q2 := hk.2; (try simp only at h); omega), fun k h => by have q1 := h.1; omega, fun k h => by have q1 := h.1; omega, fun k h h2 => by have q1 := h.2; have q2 := h2.1; omega⟩, hB5.out⟩
        · have HRB := Hd.mk (show readB x = false by rw [← (read_eq x).1]; unfold readSB; rw [HRS.out, ← Efo.out, ← Efp.out, ← HKU.out]; simp [hwo, show ku = 0 by simpa using hk0])
          obtain ⟨fb0_0, fb0_1, fb0_2, fb0_3, fb0_4, fb0_z⟩ := blk5 b0.out
          obtain ⟨fb1_0, fb1_1, fb1_2, fb1_3, fb1_4, fb1_5, fb1_6, fb1_z⟩ := blk7 b1.out
          obtain ⟨fb2_0, fb2_1, fb2_2, fb2_3, fb2_4, fb2_5, fb2_6, fb2_z⟩ := blk7 b2.out
          obtain ⟨fb3_0, fb3_1, fb3_2, fb3_3, fb3_4, fb3_z⟩ := blk5 b3.out
          obtain ⟨fb4_0, fb4_1, fb4_2, fb4_3, fb4_4, fb4_z⟩ := blk5 b4.out
          have rfb0_0 := cell_regrown fb0_0
          have rfb0_1 := cell_regrown fb0_1
          have rfb0_2 := cell_regrown fb0_2
          have rfb0_3 := cell_regrown fb0_3
          have rfb0_4 := cell_regrown fb0_4
          have rfb1_0 := cell_regrown fb1_0
          have rfb1_1 := cell_regrown fb1_1
          have rfb1_2 := cell_regrown fb1_2
          have rfb1_3 := cell_regrown fb1_3
          have rfb1_4 := cell_regrown fb1_4
          have rfb1_5 := cell_regrown fb1_5
          have rfb1_6 := cell_regrown fb1_6
          have rfb2_0 := cell_regrown fb2_0
          have rfb2_1 := cell_regrown fb2_1
          have rfb2_2 := cell_regrown fb2_2
          have rfb2_3 := cell_regrown fb2_3
          have rfb2_4 := cell_regrown fb2_4
          have rfb2_5 := cell_regrown fb2_5
          have rfb2_6 := cell_regrown fb2_6
          have rfb3_0 := cell_regrown fb3_0
          have rfb3_1 := cell_regrown fb3_1
          have rfb3_2 := cell_regrown fb3_2
          have rfb3_3 := cell_regrown fb3_3
          have rfb3_4 := cell_regrown fb3_4
          have rfb4_0 := cell_regrown fb4_0
          have rfb4_1 := cell_regrown fb4_1
          have rfb4_2 := cell_regrown fb4_2
          have rfb4_3 := cell_regrown fb4_3
          have rfb4_4 := cell_regrown fb4_4
          refine region_mix [(true, 0), (true, 1), (true, 2), (true, 3), (true, 4), (true, 5), (true, 6), (true, 7), (true, 8), (true, 10), (false, 9), (false, 11), (true, 12), (true, 13)] (by kernel_rfl) (by kernel_rfl) (fun _ _ _ _ _ h => h) ?_
          (repeat (first | (refine mix_z rfl (by rfl) ?_; go_big_quiet_skip; refine wpQuiet_nil ?_) | (refine mix_q rfl ?_; first | (go_big_quiet_skip; refine wpQuiet_nil ?_) | (go_big_quiet_want; go_big_quiet_op; go_big_quiet_on; refine wpQuiet_nil ?_))))
          refine mix_nil ?_
          clear rfb0_0 rfb0_1 rfb0_2 rfb0_3 rfb0_4 rfb1_0 rfb1_1 rfb1_2 rfb1_3 rfb1_4 rfb1_5 rfb1_6 rfb2_0 rfb2_1 rfb2_2 rfb2_3 rfb2_4 rfb2_5 rfb2_6 rfb3_0 rfb3_1 rfb3_2 rfb3_3 rfb3_4 rfb4_0 rfb4_1 rfb4_2 rfb4_3 rfb4_4
          go_wp2_with (refine store_blk rfl 49 _ _ rfl (w.heap.size + 1) #[Value.int IntKind.i64 0, Value.slice none 0 0, Value.int IntKind.i64 0, Value.int IntKind.i64 0, Value.string ⟨#[]⟩, Value.slice none 0 0, Value.slice none 0 0] rfl rfl b1.out info7 rfl (by simp [Value.oneCell']) (fun W5 b5 hf5 hz5 => ?_); clear fb1_0 fb1_1 fb1_2 fb1_3 fb1_4 fb1_5 fb1_6 fb1_z; have y0 : W5.cell? ⟨w.heap.size + 1, 0, none⟩ = some (Value.int IntKind.i64 0) := b5.cell 0 rfl; have y1 : W5.cell? ⟨w.heap.size + 1, 1, none⟩ = some (Value.slice none 0 0) := b5.cell 1 rfl; have y2 : W5.cell? ⟨w.heap.size + 1, 2, none⟩ = some (Value.int IntKind.i64 0) := b5.cell 2 rfl; have y3 : W5.cell? ⟨w.heap.size + 1, 3, none⟩ = some (Value.int IntKind.i64 0) := b5.cell 3 rfl; have y4 : W5.cell? ⟨w.heap.size + 1, 4, none⟩ = some (Value.string ⟨#[]⟩) := b5.cell 4 rfl; have y5 : W5.cell? ⟨w.heap.size + 1, 5, none⟩ = some (Value.slice none 0 0) := b5.cell 5 rfl; have y6 : W5.cell? ⟨w.heap.size + 1, 6, none⟩ = some (Value.slice none 0 0) := b5.cell 6 rfl; have y7 := b5.frozen; have hz5' := Hd.mk hz5; clear hz5)
          refine bodyPost_retW (v := .tuple #[.agg #[Value.int IntKind.i64 0, Value.slice none 0 0, Value.int IntKind.i64 0, Value.int IntKind.i64 0, Value.string ⟨#[]⟩, Value.slice none 0 0, Value.slice none 0 0], .bool false]) (by simp [results, Tryd.results40, go_sem, y0, y1, y2, y3, y4, y5, y6]) rfl ?_
          intro W hW; obtain rfl := hW
          clear y0 y1 y2 y3 y4 y5 y6 y7 fb0_0 fb0_1 fb0_2 fb0_3 fb0_4 fb0_z fb2_0 fb2_1 fb2_2 fb2_3 fb2_4 fb2_5 fb2_6 fb2_z fb3_0 fb3_1 fb3_2 fb3_3 fb3_4 fb3_z fb4_0 fb4_1 fb4_2 fb4_3 fb4_4 fb4_z
          have z1_ := z1.out; have z2_ := z2.out; have z3_ := z3.out; have z4_ := z4.out; have z5_ := z5.out; have z6_ := z6.out; have hsz1_ := hsz1.out; have z7_ := z7.out; have z8_ := z8.out; have z9_ := z9.out; have z10_ := z10.out; have z11_ := z11.out
          have hBs := hB.out.size
          have hz5 := hz5'.out
          have hB5 := Hd.mk (below_frS (below_drew hB.out) hf5 (fun k h => by (try simp only at h); omega))
          exact ⟨[Value.int IntKind.i64 0, Value.slice none 0 0, Value.int IntKind.i64 0, Value.int IntKind.i64 0, Value.string ⟨#[]⟩, Value.slice none 0 0, Value.slice none 0 0], by rw [HRB.out], by unfold readO; rw [HRB.out]; exact OpZ m _ _, hB5.out⟩
end Go.Proofs.YtkgefjjgjjmklaaDoor.X
