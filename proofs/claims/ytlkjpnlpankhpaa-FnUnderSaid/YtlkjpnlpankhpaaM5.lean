/- What is proved here: lemmas about the functions that the statement reaches, and what they compute (part 5). Conditions: none. -/
import Derived.Test.YtlkjpnlpankhpaaM4
import Derived.Test.YtlkjpnlpankhpaaM1
import Derived.Test.YtlkjpnlpankhpaaM3
import Derived.Deep.CutBlock
import Derived.Test.YtlkjpnlpankhpaaM2
import Derived.Test.YtlkjpnlpankhpaaProg
import Derived.ProofKit
import Derived.OpenShut
namespace Go.Proofs.Ytlkjpnlpankhpaa.X
open Go.RowKit Go.Sort
set_option linter.unusedVariables false
set_option linter.unusedSimpArgs false
open Ty
set_option maxHeartbeats 4000000 in
set_option maxRecDepth 100000 in
theorem spec_Patch {B : Nat} (j : J) (cs : List Value) (o : JOp) (co : List Value) (w : World) (hj : (tJ (B + 1)).K w j cs) (ho : (tOp (B + 1)).K w o co) :
  Calls Try.prog 80 #[.agg cs.toArray, .agg co.toArray] w fun e w' => ∃ cs', e = .returned (.tuple #[.agg cs'.toArray, .bool (patchB j o)]) ∧ (tJ (B + 7)).O w' (fun k => w.heap.size ≤ k) (patchJ j o) cs' ∧ Below w.heap.size w w' := by
 have HKJJ := Hd.mk hj
 obtain ⟨A1, c1, A2, c2, rfl, hsj, ⟨hc1, hr1⟩, hc2, hr2⟩ := tJ_K.1 hj
 clear hr1 hr2 hj
 obtain ⟨AW, cW, _, rfl, ⟨hcw, hrw⟩, hjo⟩ := tOp_K.1 ho
 have HKJ := Hd.mk hjo
 obtain ⟨A3, c3, A4, c4, rfl, hso, ⟨hc3, hr3⟩, hc4, hr4⟩ := tJ_K.1 hjo
 have HKO := Hd.mk ho
 have HRW := Hd.mk hrw; have HCW := Hd.mk hcw
 clear hr3 hr4 ho hjo hrw hcw
 have hB := Hd.mk (Below.refl w.heap.size w)
 go_enter Try.func80, Try.ntmps80
 go_wp2_with fail
 apply calls_gen; intro W1 hW
 have hz_ : w.heap.size + 3 ≤ W1.heap.size := by rw [hW]; simp
 have hE : Below w.heap.size w W1 := by rw [hW]; (repeat (first | with_reducible refine below_alloc ?_ _ | with_reducible refine below_drew ?_)); exact Below.refl _ _
 have hB := hB.th hE
 have b0 := Hd.mk (show Blk W1 (w.heap.size) #[.int .i64 j.kind, .int .i64 j.n, .string j.s, .slice A1 j.list.length c1, .slice A2 j.names.length c2] 27 by rw [hW]; first | exact (((Blk.new _ _ _).alloc _).alloc _) | (simpa using (((Blk.new _ _ _).alloc _).alloc _)))
 have b1 := Hd.mk (show Blk W1 (w.heap.size + 1) #[.int .i64 o.kind, .slice AW o.way.length cW, .int .i64 o.value.kind, .int .i64 o.value.n, .string o.value.s, .slice A3 o.value.list.length c3, .slice A4 o.value.names.length c4] 38 by rw [hW]; first | exact ((Blk.new1 _ _ _ _).alloc _) | (simpa using ((Blk.new1 _ _ _ _).alloc _)))
 have b2 := Hd.mk (show Blk W1 (w.heap.size + 1 + 1) #[.int .i64 0, .int .i64 0, .string ⟨#[]⟩, .slice none 0 0, .slice none 0 0] 27 by rw [hW]; first | exact (Blk.new2 _ _ _ _ _) | (simpa using (Blk.new2 _ _ _ _ _)))
 clear hW hE
 have z1 := Hd.mk hz_; clear hz_
 refine (spec_JsonOk j _ _ (Ty.K_below _ hB.out HKJJ.out)).mono ?_
 rintro e w2 ⟨rfl, hX⟩
 have b0 := b0.dn hX
 have b1 := b1.dn hX
 have b2 := b2.dn hX
 have hB := hB.th hX
 have hz_ := hX.size
 clear hX
 have z2 := Hd.mk hz_; clear hz_
 cases hja : jsonOk j
 ·have HP := Hd.mk (show patchO j o = none from patchO_bad (by rw [hja]; rfl))
  obtain ⟨v00, v01, v02, v03, v04, v0z⟩ := blk5 b0.out
  obtain ⟨v10, v11, v12, v13, v14, v15, v16, v1z⟩ := blk7 b1.out
  obtain ⟨v20, v21, v22, v23, v24, v2z⟩ := blk5 b2.out
  go_wp2_with fail
  refine bodyPost_retW (v := .tuple #[.agg #[.int .i64 0, .int .i64 0, .string ⟨#[]⟩, .slice none 0 0, .slice none 0 0], .bool false]) (by simp [results, Try.results80, go_sem, v00, v01, v02, v03, v04, v0z, v10, v11, v12, v13, v14, v15, v16, v1z, v20, v21, v22, v23, v24, v2z]) rfl ?_
  intro W hW
  clear v00 v01 v02 v03 v04 v0z v10 v11 v12 v13 v14 v15 v16 v1z v20 v21 v22 v23 v24 v2z
  have eF : Fr w2 W (fun k => w.heap.size ≤ k) := by rw [hW]; (repeat (first | with_reducible refine Fr.setCell ?_ _ (fun _ => by simp <;> omega) _ | with_reducible refine Fr.alloc ?_ _ | with_reducible refine Fr.drew ?_)); exact Fr.refl _ _
  exact ⟨[Value.int IntKind.i64 0, .int .i64 0, .string ⟨#[]⟩, .slice none 0 0, .slice none 0 0], by unfold patchB; rw [HP.out]; rfl, by unfold patchJ; rw [HP.out]; exact ZJ (B + 6) _ _, below_frS hB.out eF (fun k h => h)⟩
 ·obtain ⟨v00, v01, v02, v03, v04, v0z⟩ := blk5 b0.out
  obtain ⟨v10, v11, v12, v13, v14, v15, v16, v1z⟩ := blk7 b1.out
  obtain ⟨v20, v21, v22, v23, v24, v2z⟩ := blk5 b2.out
  go_wp2_with fail
  clear v00 v01 v02 v03 v04 v0z v10 v11 v12 v13 v14 v15 v16 v1z v20 v21 v22 v23 v24 v2z
  apply calls_gen; intro W3 hW
  have hz_ : w2.heap.size ≤ W3.heap.size := by rw [hW]; simp
  have hE : Below w2.heap.size w2 W3 := by rw [hW]; (repeat (first | with_reducible refine below_alloc ?_ _ | with_reducible refine below_drew ?_)); exact Below.refl _ _
  have hB := hB.th hE
  have b0 := b0.dn hE
  have b1 := b1.dn hE
  have b2 := b2.dn hE
  clear hW hE
  have z3 := Hd.mk hz_; clear hz_
  refine (spec_OpOk o _ _ (Ty.K_below _ hB.out HKO.out)).mono ?_
  rintro e w4 ⟨rfl, hX⟩
  have b0 := b0.dn hX
  have b1 := b1.dn hX
  have b2 := b2.dn hX
  have hB := hB.th hX
  have hz_ := hX.size
  clear hX
  have z4 := Hd.mk hz_; clear hz_
  cases hob : opOk o
  ·have HP := Hd.mk (show patchO j o = none from patchO_bad (by rw [hja, hob]; rfl))
   obtain ⟨v00, v01, v02, v03, v04, v0z⟩ := blk5 b0.out
   obtain ⟨v10, v11, v12, v13, v14, v15, v16, v1z⟩ := blk7 b1.out
   obtain ⟨v20, v21, v22, v23, v24, v2z⟩ := blk5 b2.out
   go_wp2_with fail
   refine bodyPost_retW (v := .tuple #[.agg #[.int .i64 0, .int .i64 0, .string ⟨#[]⟩, .slice none 0 0, .slice none 0 0], .bool false]) (by simp [results, Try.results80, go_sem, v00, v01, v02, v03, v04, v0z, v10, v11, v12, v13, v14, v15, v16, v1z, v20, v21, v22, v23, v24, v2z]) rfl ?_
   intro W hW
   clear v00 v01 v02 v03 v04 v0z v10 v11 v12 v13 v14 v15 v16 v1z v20 v21 v22 v23 v24 v2z
   have eF : Fr w4 W (fun k => w.heap.size ≤ k) := by rw [hW]; (repeat (first | with_reducible refine Fr.setCell ?_ _ (fun _ => by simp <;> omega) _ | with_reducible refine Fr.alloc ?_ _ | with_reducible refine Fr.drew ?_)); exact Fr.refl _ _
   exact ⟨[Value.int IntKind.i64 0, .int .i64 0, .string ⟨#[]⟩, .slice none 0 0, .slice none 0 0], by unfold patchB; rw [HP.out]; rfl, by unfold patchJ; rw [HP.out]; exact ZJ (B + 6) _ _, below_frS hB.out eF (fun k h => h)⟩
  ·have HOK := Hd.mk (show (jsonOk j && opOk o) = true by rw [hja, hob]; rfl)
   have HOW := Hd.mk (opOk_way hob)
   have HBO := Hd.mk (show bulkJ (B + 1) o.value ≤ 4194304 by have hz_ : sizeN 6 o.value ≤ 400 := of_decide_eq_true (show decide (sizeN 6 o.value ≤ 400) = true from HOW.out.2.1); have h1 := bulk_size (B + 1) 6 o.value hz_; omega)
   clear hja hob
   obtain ⟨v00, v01, v02, v03, v04, v0z⟩ := blk5 b0.out
   obtain ⟨v10, v11, v12, v13, v14, v15, v16, v1z⟩ := blk7 b1.out
   obtain ⟨v20, v21, v22, v23, v24, v2z⟩ := blk5 b2.out
   go_wp2_with fail
   clear v00 v01 v02 v03 v04 v0z v10 v11 v12 v13 v14 v15 v16 v1z v20 v21 v22 v23 v24 v2z
   have HZJ := Hd.mk (show sizeN (5 + 1) j ≤ 400 from of_decide_eq_true (show decide (sizeN 6 j ≤ 400) = true from by have h_ := HOK.out; simp only [Bool.and_eq_true] at h_; exact h_.1))
   have HKL := Hd.mk ((tJ_le (by omega : B + 1 ≤ B + o.way.length + 1)).K _ _ _ HKJJ.out)
   have HBL := Hd.mk (show bulkJ (B + o.way.length + 1) j ≤ 4194304 by have h1 := bulk_size (B + o.way.length + 1) 6 j HZJ.out; have h2 : sizeN 6 j ≤ 400 := HZJ.out; omega)
   obtain ⟨v00, v01, v02, v03, v04, v0z⟩ := blk5 b0.out
   obtain ⟨v10, v11, v12, v13, v14, v15, v16, v1z⟩ := blk7 b1.out
   obtain ⟨v20, v21, v22, v23, v24, v2z⟩ := blk5 b2.out
   obtain ⟨rv00, rv01, rv02, rv03, rv04, rv10, rv11⟩ := reg7 v00 v01 v02 v03 v04 v10 v11
   obtain ⟨rv12, rv13, rv14, rv15, rv16⟩ := reg5 v12 v13 v14 v15 v16
   obtain ⟨rv20, rv21, rv22, rv23, rv24⟩ := reg5 v20 v21 v22 v23 v24
   refine region_mixT (.q 0 (.q 4 (.p 2 (.q 3 (.br 1 9 (.br 5 9 (.p 6 (.p 7 (.p 8 (.b 9 .fin)))) (.b 5 (.p 6 (.p 7 (.p 8 .fin))))) (.b 1 (.b 5 (.p 6 (.p 7 (.p 8 .fin)))))))))) [10, 11] (by kernel_rfl) (by kernel_rfl) (fun _ _ _ _ _ h => h) ?_
   refine genT ?_
   intro W5 hW
   have hS := Hd.mk (show Below w4.heap.size w4 W5 by rw [hW]; exact below_drew (Below.refl _ _))
   have hz_ : w4.heap.size ≤ W5.heap.size := by rw [hW]; simp
   have hE : Below w4.heap.size w4 W5 := by rw [hW]; (repeat (first | with_reducible refine below_alloc ?_ _ | with_reducible refine below_drew ?_)); exact Below.refl _ _
   have hB := hB.th hE
   have b0 := b0.dn hE
   have b1 := b1.dn hE
   have b2 := b2.dn hE
   clear hW hE
   have z5 := Hd.mk hz_; clear hz_
   iterate 4 ((first | refine mixT_q rfl ?_ | refine mixT_p rfl ?_); go_big_quiet_want; go_big_quiet_op; go_big_quiet_on; refine wpQuiet_nil ?_)
   refine ⟨?_, ?_⟩
   ·refine stepM_of rfl ?_ (by rfl)
    go_wp2_with fail
    apply calls_gen; intro W6 hW
    have hz_ : W5.heap.size ≤ W6.heap.size := by rw [hW]; simp
    have hE : Below W5.heap.size W5 W6 := by rw [hW]; (repeat (first | with_reducible refine below_alloc ?_ _ | with_reducible refine below_drew ?_)); exact Below.refl _ _
    have hB := hB.th hE
    replace hS := Hd.mk (below_then hS.out hE)
    have b0 := b0.dn hE
    have b1 := b1.dn hE
    have b2 := b2.dn hE
    clear hW hE
    have z6 := Hd.mk hz_; clear hz_
    refine (spec_l1Copy j _ _ (Ty.K_below _ hB.out HKL.out) HBL.out).mono ?_
    rintro e w7 ⟨cy, rfl, hY, hX⟩
    have b0 := b0.dn hX
    have b1 := b1.dn hX
    have b2 := b2.dn hX
    have hB := hB.th hX
    replace hS := Hd.mk (below_then hS.out hX)
    have hz_ := hX.size
    clear hX
    have z7 := Hd.mk hz_; clear hz_
    obtain ⟨v3, v4, _, _, hcy, _, h3_, h4_, _⟩ := tJ_O.1 hY
    obtain ⟨A7, c7, rfl, _, _⟩ := R_C h3_
    obtain ⟨A8, c8, rfl, _, _⟩ := R_C h4_
    clear h3_ h4_
    subst hcy
    replace hY := Hd.mk (show (tJ (B + o.way.length + 1)).O w7 (rng W6.heap.size w7.heap.size) j _ from Ty.O_bound _ hY)
    go_wp2_with fail
    refine ⟨cls_below hS.out, ?_⟩
    refine ⟨?_, ?_⟩
    ·refine stepM_of rfl ?_ (by rfl)
     go_wp2_with fail
     apply calls_gen; intro W8 hW
     have hz_ : w7.heap.size ≤ W8.heap.size := by rw [hW]; simp
     have hE : Below w7.heap.size w7 W8 := by rw [hW]; (repeat (first | with_reducible refine below_alloc ?_ _ | with_reducible refine below_drew ?_)); exact Below.refl _ _
     have hB := hB.th hE
     replace hS := Hd.mk (below_then hS.out hE)
     have b0 := b0.dn hE
     have b1 := b1.dn hE
     have b2 := b2.dn hE
     have hY := hY.ob hE
     clear hW hE
     have z8 := Hd.mk hz_; clear hz_
     have z1_ := z1.out; have z2_ := z2.out; have z3_ := z3.out; have z4_ := z4.out; have z5_ := z5.out; have z6_ := z6.out; have z7_ := z7.out; have z8_ := z8.out
     have hBs := hB.out.size
     refine (patS_all HBO.out ⟨HOW.out.2.2.1, HOW.out.2.2.2.1⟩ o.way (fun s hs => by have := textB_size (HOW.out.2.2.2.2 s hs); omega) (rng W6.heap.size w7.heap.size) j _ _ _ _ w _ hY.out hB.out (fun k h => by have q_ := h.1; omega) HRW.out HCW.out HKO.out ⟨5, HZJ.out⟩).mono ?_
     rintro e w9 hP
     obtain ⟨ra, rb, rs, RA, RB, rn, rc, rn2, rd, ok, rfl, hX, hR⟩ := pat_open hP
     have HR := Hd.mk hR; clear hR hP
     have HR := Hd.mk (pat_T HR.out)
     have b0 := Hd.mk (b0.out.fr hX (fun h => by have q_ := h.1; have q2_ := h.2; omega))
     have b1 := Hd.mk (b1.out.fr hX (fun h => by have q_ := h.1; have q2_ := h.2; omega))
     have b2 := Hd.mk (b2.out.fr hX (fun h => by have q_ := h.1; have q2_ := h.2; omega))
     replace hS := Hd.mk (below_frS hS.out hX (fun k h => by have q_ := h.1; omega))
     have hB := Hd.mk (below_frS hB.out hX (fun k h => by have q_ := h.1; omega))
     clear hY
     have hz_ := hX.size
     clear hX
     have z9 := Hd.mk hz_; clear hz_
     go_wp2_with fail
     refine ⟨cls_below hS.out, ?_⟩
     iterate 3 (refine mixT_p rfl ?_; go_big_quiet_want; go_big_quiet_op; go_big_quiet_on; refine wpQuiet_nil ?_)
     refine mixT_b rfl ?_ (by rfl)
     go_wp2_with fail
     refine ⟨cls_below (below_alloc hS.out _), ?_⟩
     refine genT ?_; intro W9 hW
     have hz_ : w9.heap.size + 1 ≤ W9.heap.size := by rw [hW]; simp
     have hE : Below w9.heap.size w9 W9 := by rw [hW]; (repeat (first | with_reducible refine below_alloc ?_ _ | with_reducible refine below_drew ?_)); exact Below.refl _ _
     have hB := hB.th hE
     replace hS := Hd.mk (below_then hS.out hE)
     have b0 := b0.dn hE
     have b1 := b1.dn hE
     have b2 := b2.dn hE
     have b3 := Hd.mk (show Blk W9 (w9.heap.size) #[.int .i64 0, .int .i64 0, .string ⟨#[]⟩, .slice none 0 0, .slice none 0 0] 27 by rw [hW]; first | exact (Blk.new _ _ _) | (simpa using (Blk.new _ _ _)))
     have HR := Hd.mk (patT_below HR.out hE)
     clear hW hE
     have z10 := Hd.mk hz_; clear hz_
     refine mixT_fin ?_
     clear hS
     clear rv00 rv01 rv02 rv03 rv04 rv10 rv11 rv12 rv13 rv14 rv15 rv16 rv20 rv21 rv22 rv23 rv24
     clear v00 v01 v02 v03 v04 v0z v10 v11 v12 v13 v14 v15 v16 v1z v20 v21 v22 v23 v24 v2z
     obtain ⟨v00, v01, v02, v03, v04, v0z⟩ := blk5 b0.out
     obtain ⟨v10, v11, v12, v13, v14, v15, v16, v1z⟩ := blk7 b1.out
     obtain ⟨v20, v21, v22, v23, v24, v2z⟩ := blk5 b2.out
     obtain ⟨v30, v31, v32, v33, v34, v3z⟩ := blk5 b3.out
     refine tail_b rfl ?_ (by rfl)
     go_wp2_with fail
     refine mixQ_n ?_
     refine tail_b rfl ?_ (by rfl)
     go_wp2_with fail
     refine mixQ_n ?_
     refine tail_nil ?_
     refine exit_gen ?_; intro Wb hW
     clear v00 v01 v02 v03 v04 v0z v10 v11 v12 v13 v14 v15 v16 v1z v20 v21 v22 v23 v24 v2z v30 v31 v32 v33 v34 v3z
     have eF : Fr W9 Wb (fun k => k = w9.heap.size) := by rw [hW]; exact Fr.set5 _ _ _ _ _ _ _ _ _ _ _ _
     have z1_ := z1.out; have z2_ := z2.out; have z3_ := z3.out; have z4_ := z4.out; have z5_ := z5.out; have z6_ := z6.out; have z7_ := z7.out; have z8_ := z8.out; have z9_ := z9.out; have z10_ := z10.out
     have b0 := Hd.mk (b0.out.fr eF (fun h => by have hlt_ := b0.out.lt; (try simp only at h); omega))
     have b1 := Hd.mk (b1.out.fr eF (fun h => by have hlt_ := b1.out.lt; (try simp only at h); omega))
     have b2 := Hd.mk (b2.out.fr eF (fun h => by have hlt_ := b2.out.lt; (try simp only at h); omega))
     have b3 := Hd.mk (show Blk Wb (w9.heap.size) #[.int .i64 ra, .int .i64 rb, .string rs, .slice RA rn rc, .slice RB rn2 rd] 27 by rw [hW]; exact Blk.all b3.out [Value.int IntKind.i64 ra, .int .i64 rb, .string rs, .slice RA rn rc, .slice RB rn2 rd] rfl)
     have HR := Hd.mk (patT_fr HR.out eF (fun k hk hl h => by (try simp only at h); have q2_ := hk.2; rcases hk.1 with q_ | q_; omega; (have q3_ := q_.1; have q4_ := q_.2; omega)))
     have hB := Hd.mk (below_frS hB.out eF (fun k h => by (try simp only at h); omega))
     have hzb := Hd.mk eF.size
     clear hW eF
     rcases HR.out with ⟨rfl, zz, hz1, hz2⟩ | ⟨rfl, hz1⟩
     ·have hz2 := Hd.mk hz2; have hz1 := Hd.mk hz1
      obtain ⟨v00, v01, v02, v03, v04, v0z⟩ := blk5 b0.out
      obtain ⟨v10, v11, v12, v13, v14, v15, v16, v1z⟩ := blk7 b1.out
      obtain ⟨v20, v21, v22, v23, v24, v2z⟩ := blk5 b2.out
      obtain ⟨v30, v31, v32, v33, v34, v3z⟩ := blk5 b3.out
      go_wp2_with fail
      clear v00 v01 v02 v03 v04 v0z v10 v11 v12 v13 v14 v15 v16 v1z v20 v21 v22 v23 v24 v2z v30 v31 v32 v33 v34 v3z
      apply calls_gen; intro W10 hW
      have hz_ : Wb.heap.size ≤ W10.heap.size := by rw [hW]; simp
      have hE : Below Wb.heap.size Wb W10 := by rw [hW]; (repeat (first | with_reducible refine below_alloc ?_ _ | with_reducible refine below_drew ?_)); exact Below.refl _ _
      have hB := hB.th hE
      have b0 := b0.dn hE
      have b1 := b1.dn hE
      have b2 := b2.dn hE
      have b3 := b3.dn hE
      have hz2 := hz2.ob hE
      clear hW hE
      have z11 := Hd.mk hz_; clear hz_
      refine (spec_JsonOk zz _ _ (Ty.O_K _ hz2.out)).mono ?_
      rintro e w11 ⟨rfl, hX⟩
      have b0 := b0.dn hX
      have b1 := b1.dn hX
      have b2 := b2.dn hX
      have b3 := b3.dn hX
      have hz2 := hz2.ob hX
      have hB := hB.th hX
      have hz_ := hX.size
      clear hX
      have z12 := Hd.mk hz_; clear hz_
      cases hjz : jsonOk zz
      ·have HP := Hd.mk (show patchO j o = none from patchO_no HOK.out hz1.out hjz)
       obtain ⟨v00, v01, v02, v03, v04, v0z⟩ := blk5 b0.out
       obtain ⟨v10, v11, v12, v13, v14, v15, v16, v1z⟩ := blk7 b1.out
       obtain ⟨v20, v21, v22, v23, v24, v2z⟩ := blk5 b2.out
       obtain ⟨v30, v31, v32, v33, v34, v3z⟩ := blk5 b3.out
       go_wp2_with fail
       refine bodyPost_retW (v := .tuple #[.agg #[.int .i64 0, .int .i64 0, .string ⟨#[]⟩, .slice none 0 0, .slice none 0 0], .bool false]) (by simp [results, Try.results80, go_sem, v00, v01, v02, v03, v04, v0z, v10, v11, v12, v13, v14, v15, v16, v1z, v20, v21, v22, v23, v24, v2z, v30, v31, v32, v33, v34, v3z]) rfl ?_
       intro W hW
       clear v00 v01 v02 v03 v04 v0z v10 v11 v12 v13 v14 v15 v16 v1z v20 v21 v22 v23 v24 v2z v30 v31 v32 v33 v34 v3z
       have eF : Fr w11 W (fun k => w.heap.size ≤ k) := by rw [hW]; (repeat (first | with_reducible refine Fr.setCell ?_ _ (fun _ => by simp <;> omega) _ | with_reducible refine Fr.alloc ?_ _ | with_reducible refine Fr.drew ?_)); exact Fr.refl _ _
       exact ⟨[Value.int IntKind.i64 0, .int .i64 0, .string ⟨#[]⟩, .slice none 0 0, .slice none 0 0], by unfold patchB; rw [HP.out]; rfl, by unfold patchJ; rw [HP.out]; exact ZJ (B + 6) _ _, below_frS hB.out eF (fun k h => h)⟩
      ·have HP := Hd.mk (patchO_yes HOK.out hz1.out hjz)
       obtain ⟨v00, v01, v02, v03, v04, v0z⟩ := blk5 b0.out
       obtain ⟨v10, v11, v12, v13, v14, v15, v16, v1z⟩ := blk7 b1.out
       obtain ⟨v20, v21, v22, v23, v24, v2z⟩ := blk5 b2.out
       obtain ⟨v30, v31, v32, v33, v34, v3z⟩ := blk5 b3.out
       go_wp2_with fail
       refine bodyPost_retW (v := .tuple #[.agg #[.int .i64 ra, .int .i64 rb, .string rs, .slice RA rn rc, .slice RB rn2 rd], .bool true]) (by simp [results, Try.results80, go_sem, v00, v01, v02, v03, v04, v0z, v10, v11, v12, v13, v14, v15, v16, v1z, v20, v21, v22, v23, v24, v2z, v30, v31, v32, v33, v34, v3z]) rfl ?_
       intro W hW
       clear v00 v01 v02 v03 v04 v0z v10 v11 v12 v13 v14 v15 v16 v1z v20 v21 v22 v23 v24 v2z v30 v31 v32 v33 v34 v3z
       have eF : Fr w11 W (fun k => k = w.heap.size + 2) := by rw [hW]; exact Fr.set5 _ _ _ _ _ _ _ _ _ _ _ _
       have z1_ := z1.out; have z2_ := z2.out; have z3_ := z3.out; have z4_ := z4.out; have z5_ := z5.out; have z6_ := z6.out; have z7_ := z7.out; have z8_ := z8.out; have z9_ := z9.out; have z10_ := z10.out; have hzb_ := hzb.out; have z11_ := z11.out; have z12_ := z12.out
       exact ⟨[Value.int IntKind.i64 ra, .int .i64 rb, .string rs, .slice RA rn rc, .slice RB rn2 rd], by unfold patchB; rw [HP.out]; rfl, by unfold patchJ; rw [HP.out]; exact (tJ_le (by have := HOW.out.1; omega : B + o.way.length + 1 ≤ B + 7)).O _ _ _ _ (Ty.O_mono _ (fun k hk => by rcases hk.1 with q_ | q_; omega; (have q3_ := q_.1; omega)) (Ty.O_fr hz2.out eF (fun k hk hl h => by (try simp only at h); rcases hk.1 with q_ | q_; omega; (have q3_ := q_.1; omega)))), below_frS hB.out eF (fun k h => by (try simp only at h); omega)⟩
     ·have hz1 := Hd.mk hz1
      have HP := Hd.mk (show patchO j o = none from patchO_none HOK.out hz1.out)
      obtain ⟨v00, v01, v02, v03, v04, v0z⟩ := blk5 b0.out
      obtain ⟨v10, v11, v12, v13, v14, v15, v16, v1z⟩ := blk7 b1.out
      obtain ⟨v20, v21, v22, v23, v24, v2z⟩ := blk5 b2.out
      obtain ⟨v30, v31, v32, v33, v34, v3z⟩ := blk5 b3.out
      go_wp2_with fail
      refine bodyPost_retW (v := .tuple #[.agg #[.int .i64 0, .int .i64 0, .string ⟨#[]⟩, .slice none 0 0, .slice none 0 0], .bool false]) (by simp [results, Try.results80, go_sem, v00, v01, v02, v03, v04, v0z, v10, v11, v12, v13, v14, v15, v16, v1z, v20, v21, v22, v23, v24, v2z, v30, v31, v32, v33, v34, v3z]) rfl ?_
      intro W hW
      clear v00 v01 v02 v03 v04 v0z v10 v11 v12 v13 v14 v15 v16 v1z v20 v21 v22 v23 v24 v2z v30 v31 v32 v33 v34 v3z
      have eF : Fr Wb W (fun k => w.heap.size ≤ k) := by rw [hW]; (repeat (first | with_reducible refine Fr.setCell ?_ _ (fun _ => by simp <;> omega) _ | with_reducible refine Fr.alloc ?_ _ | with_reducible refine Fr.drew ?_)); exact Fr.refl _ _
      exact ⟨[Value.int IntKind.i64 0, .int .i64 0, .string ⟨#[]⟩, .slice none 0 0, .slice none 0 0], by unfold patchB; rw [HP.out]; rfl, by unfold patchJ; rw [HP.out]; exact ZJ (B + 6) _ _, below_frS hB.out eF (fun k h => h)⟩
    ·refine stepM_of rfl ?_ (by rfl)
     go_wp2_with fail
     refine ⟨cls_below (below_alloc hS.out _), ?_⟩
     refine genT ?_; intro W8 hW
     have hz_ : w7.heap.size + 1 ≤ W8.heap.size := by rw [hW]; simp
     have hE : Below w7.heap.size w7 W8 := by rw [hW]; (repeat (first | with_reducible refine below_alloc ?_ _ | with_reducible refine below_drew ?_)); exact Below.refl _ _
     have hB := hB.th hE
     replace hS := Hd.mk (below_then hS.out hE)
     have b0 := b0.dn hE
     have b1 := b1.dn hE
     have b2 := b2.dn hE
     have b3 := Hd.mk (show Blk W8 (w7.heap.size) #[.int .i64 0, .int .i64 0, .string ⟨#[]⟩, .slice none 0 0, .slice none 0 0] 27 by rw [hW]; first | exact (Blk.new _ _ _) | (simpa using (Blk.new _ _ _)))
     have hY := hY.ob hE
     clear hW hE
     have z8 := Hd.mk hz_; clear hz_
     refine mixT_b rfl ?_ (by rfl)
     go_wp2_with fail
     apply calls_gen; intro W9 hW
     have hz_ : W8.heap.size ≤ W9.heap.size := by rw [hW]; simp
     have hE : Below W8.heap.size W8 W9 := by rw [hW]; (repeat (first | with_reducible refine below_alloc ?_ _ | with_reducible refine below_drew ?_)); exact Below.refl _ _
     have hB := hB.th hE
     replace hS := Hd.mk (below_then hS.out hE)
     have b0 := b0.dn hE
     have b1 := b1.dn hE
     have b2 := b2.dn hE
     have b3 := b3.dn hE
     have hY := hY.ob hE
     clear hW hE
     have z9 := Hd.mk hz_; clear hz_
     have z1_ := z1.out; have z2_ := z2.out; have z3_ := z3.out; have z4_ := z4.out; have z5_ := z5.out; have z6_ := z6.out; have z7_ := z7.out; have z8_ := z8.out; have z9_ := z9.out
     have hBs := hB.out.size
     refine (patS_all HBO.out ⟨HOW.out.2.2.1, HOW.out.2.2.2.1⟩ o.way (fun s hs => by have := textB_size (HOW.out.2.2.2.2 s hs); omega) (rng W6.heap.size w7.heap.size) j _ _ _ _ w _ hY.out hB.out (fun k h => by have q_ := h.1; omega) HRW.out HCW.out HKO.out ⟨5, HZJ.out⟩).mono ?_
     rintro e w9 hP
     obtain ⟨ra, rb, rs, RA, RB, rn, rc, rn2, rd, ok, rfl, hX, hR⟩ := pat_open hP
     have HR := Hd.mk hR; clear hR hP
     have HR := Hd.mk (pat_T HR.out)
     have b0 := Hd.mk (b0.out.fr hX (fun h => by have q_ := h.1; have q2_ := h.2; omega))
     have b1 := Hd.mk (b1.out.fr hX (fun h => by have q_ := h.1; have q2_ := h.2; omega))
     have b2 := Hd.mk (b2.out.fr hX (fun h => by have q_ := h.1; have q2_ := h.2; omega))
     have b3 := Hd.mk (b3.out.fr hX (fun h => by have q_ := h.1; have q2_ := h.2; omega))
     replace hS := Hd.mk (below_frS hS.out hX (fun k h => by have q_ := h.1; omega))
     have hB := Hd.mk (below_frS hB.out hX (fun k h => by have q_ := h.1; omega))
     clear hY
     have hz_ := hX.size
     clear hX
     have z10 := Hd.mk hz_; clear hz_
     go_wp2_with fail
     refine ⟨cls_below hS.out, ?_⟩
     iterate 3 (refine mixT_p rfl ?_; go_big_quiet_want; go_big_quiet_op; go_big_quiet_on; refine wpQuiet_nil ?_)
     refine mixT_fin ?_
     clear hS
     clear rv00 rv01 rv02 rv03 rv04 rv10 rv11 rv12 rv13 rv14 rv15 rv16 rv20 rv21 rv22 rv23 rv24
     clear v00 v01 v02 v03 v04 v0z v10 v11 v12 v13 v14 v15 v16 v1z v20 v21 v22 v23 v24 v2z
     obtain ⟨v00, v01, v02, v03, v04, v0z⟩ := blk5 b0.out
     obtain ⟨v10, v11, v12, v13, v14, v15, v16, v1z⟩ := blk7 b1.out
     obtain ⟨v20, v21, v22, v23, v24, v2z⟩ := blk5 b2.out
     obtain ⟨v30, v31, v32, v33, v34, v3z⟩ := blk5 b3.out
     refine tail_b rfl ?_ (by rfl)
     go_wp2_with fail
     refine mixQ_n ?_
     refine tail_b rfl ?_ (by rfl)
     go_wp2_with fail
     refine mixQ_n ?_
     refine tail_nil ?_
     refine exit_gen ?_; intro Wb hW
     clear v00 v01 v02 v03 v04 v0z v10 v11 v12 v13 v14 v15 v16 v1z v20 v21 v22 v23 v24 v2z v30 v31 v32 v33 v34 v3z
     have eF : Fr w9 Wb (fun k => k = w7.heap.size) := by rw [hW]; exact Fr.set5 _ _ _ _ _ _ _ _ _ _ _ _
     have z1_ := z1.out; have z2_ := z2.out; have z3_ := z3.out; have z4_ := z4.out; have z5_ := z5.out; have z6_ := z6.out; have z7_ := z7.out; have z8_ := z8.out; have z9_ := z9.out; have z10_ := z10.out
     have b0 := Hd.mk (b0.out.fr eF (fun h => by have hlt_ := b0.out.lt; (try simp only at h); omega))
     have b1 := Hd.mk (b1.out.fr eF (fun h => by have hlt_ := b1.out.lt; (try simp only at h); omega))
     have b2 := Hd.mk (b2.out.fr eF (fun h => by have hlt_ := b2.out.lt; (try simp only at h); omega))
     have b3 := Hd.mk (show Blk Wb (w7.heap.size) #[.int .i64 ra, .int .i64 rb, .string rs, .slice RA rn rc, .slice RB rn2 rd] 27 by rw [hW]; exact Blk.all b3.out [Value.int IntKind.i64 ra, .int .i64 rb, .string rs, .slice RA rn rc, .slice RB rn2 rd] rfl)
     have HR := Hd.mk (patT_fr HR.out eF (fun k hk hl h => by (try simp only at h); have q2_ := hk.2; rcases hk.1 with q_ | q_; omega; (have q3_ := q_.1; have q4_ := q_.2; omega)))
     have hB := Hd.mk (below_frS hB.out eF (fun k h => by (try simp only at h); omega))
     have hzb := Hd.mk eF.size
     clear hW eF
     rcases HR.out with ⟨rfl, zz, hz1, hz2⟩ | ⟨rfl, hz1⟩
     ·have hz2 := Hd.mk hz2; have hz1 := Hd.mk hz1
      obtain ⟨v00, v01, v02, v03, v04, v0z⟩ := blk5 b0.out
      obtain ⟨v10, v11, v12, v13, v14, v15, v16, v1z⟩ := blk7 b1.out
      obtain ⟨v20, v21, v22, v23, v24, v2z⟩ := blk5 b2.out
      obtain ⟨v30, v31, v32, v33, v34, v3z⟩ := blk5 b3.out
      go_wp2_with fail
      clear v00 v01 v02 v03 v04 v0z v10 v11 v12 v13 v14 v15 v16 v1z v20 v21 v22 v23 v24 v2z v30 v31 v32 v33 v34 v3z
      apply calls_gen; intro W10 hW
      have hz_ : Wb.heap.size ≤ W10.heap.size := by rw [hW]; simp
      have hE : Below Wb.heap.size Wb W10 := by rw [hW]; (repeat (first | with_reducible refine below_alloc ?_ _ | with_reducible refine below_drew ?_)); exact Below.refl _ _
      have hB := hB.th hE
      have b0 := b0.dn hE
      have b1 := b1.dn hE
      have b2 := b2.dn hE
      have b3 := b3.dn hE
      have hz2 := hz2.ob hE
      clear hW hE
      have z11 := Hd.mk hz_; clear hz_
      refine (spec_JsonOk zz _ _ (Ty.O_K _ hz2.out)).mono ?_
      rintro e w11 ⟨rfl, hX⟩
      have b0 := b0.dn hX
      have b1 := b1.dn hX
      have b2 := b2.dn hX
      have b3 := b3.dn hX
      have hz2 := hz2.ob hX
      have hB := hB.th hX
      have hz_ := hX.size
      clear hX
      have z12 := Hd.mk hz_; clear hz_
      cases hjz : jsonOk zz
      ·have HP := Hd.mk (show patchO j o = none from patchO_no HOK.out hz1.out hjz)
       obtain ⟨v00, v01, v02, v03, v04, v0z⟩ := blk5 b0.out
       obtain ⟨v10, v11, v12, v13, v14, v15, v16, v1z⟩ := blk7 b1.out
       obtain ⟨v20, v21, v22, v23, v24, v2z⟩ := blk5 b2.out
       obtain ⟨v30, v31, v32, v33, v34, v3z⟩ := blk5 b3.out
       go_wp2_with fail
       refine bodyPost_retW (v := .tuple #[.agg #[.int .i64 0, .int .i64 0, .string ⟨#[]⟩, .slice none 0 0, .slice none 0 0], .bool false]) (by simp [results, Try.results80, go_sem, v00, v01, v02, v03, v04, v0z, v10, v11, v12, v13, v14, v15, v16, v1z, v20, v21, v22, v23, v24, v2z, v30, v31, v32, v33, v34, v3z]) rfl ?_
       intro W hW
       clear v00 v01 v02 v03 v04 v0z v10 v11 v12 v13 v14 v15 v16 v1z v20 v21 v22 v23 v24 v2z v30 v31 v32 v33 v34 v3z
       have eF : Fr w11 W (fun k => w.heap.size ≤ k) := by rw [hW]; (repeat (first | with_reducible refine Fr.setCell ?_ _ (fun _ => by simp <;> omega) _ | with_reducible refine Fr.alloc ?_ _ | with_reducible refine Fr.drew ?_)); exact Fr.refl _ _
       exact ⟨[Value.int IntKind.i64 0, .int .i64 0, .string ⟨#[]⟩, .slice none 0 0, .slice none 0 0], by unfold patchB; rw [HP.out]; rfl, by unfold patchJ; rw [HP.out]; exact ZJ (B + 6) _ _, below_frS hB.out eF (fun k h => h)⟩
      ·have HP := Hd.mk (patchO_yes HOK.out hz1.out hjz)
       obtain ⟨v00, v01, v02, v03, v04, v0z⟩ := blk5 b0.out
       obtain ⟨v10, v11, v12, v13, v14, v15, v16, v1z⟩ := blk7 b1.out
       obtain ⟨v20, v21, v22, v23, v24, v2z⟩ := blk5 b2.out
       obtain ⟨v30, v31, v32, v33, v34, v3z⟩ := blk5 b3.out
       go_wp2_with fail
       refine bodyPost_retW (v := .tuple #[.agg #[.int .i64 ra, .int .i64 rb, .string rs, .slice RA rn rc, .slice RB rn2 rd], .bool true]) (by simp [results, Try.results80, go_sem, v00, v01, v02, v03, v04, v0z, v10, v11, v12, v13, v14, v15, v16, v1z, v20, v21, v22, v23, v24, v2z, v30, v31, v32, v33, v34, v3z]) rfl ?_
       intro W hW
       clear v00 v01 v02 v03 v04 v0z v10 v11 v12 v13 v14 v15 v16 v1z v20 v21 v22 v23 v24 v2z v30 v31 v32 v33 v34 v3z
       have eF : Fr w11 W (fun k => k = w.heap.size + 2) := by rw [hW]; exact Fr.set5 _ _ _ _ _ _ _ _ _ _ _ _
       have z1_ := z1.out; have z2_ := z2.out; have z3_ := z3.out; have z4_ := z4.out; have z5_ := z5.out; have z6_ := z6.out; have z7_ := z7.out; have z8_ := z8.out; have z9_ := z9.out; have z10_ := z10.out; have hzb_ := hzb.out; have z11_ := z11.out; have z12_ := z12.out
       exact ⟨[Value.int IntKind.i64 ra, .int .i64 rb, .string rs, .slice RA rn rc, .slice RB rn2 rd], by unfold patchB; rw [HP.out]; rfl, by unfold patchJ; rw [HP.out]; exact (tJ_le (by have := HOW.out.1; omega : B + o.way.length + 1 ≤ B + 7)).O _ _ _ _ (Ty.O_mono _ (fun k hk => by rcases hk.1 with q_ | q_; omega; (have q3_ := q_.1; omega)) (Ty.O_fr hz2.out eF (fun k hk hl h => by (try simp only at h); rcases hk.1 with q_ | q_; omega; (have q3_ := q_.1; omega)))), below_frS hB.out eF (fun k h => by (try simp only at h); omega)⟩
     ·have hz1 := Hd.mk hz1
      have HP := Hd.mk (show patchO j o = none from patchO_none HOK.out hz1.out)
      obtain ⟨v00, v01, v02, v03, v04, v0z⟩ := blk5 b0.out
      obtain ⟨v10, v11, v12, v13, v14, v15, v16, v1z⟩ := blk7 b1.out
      obtain ⟨v20, v21, v22, v23, v24, v2z⟩ := blk5 b2.out
      obtain ⟨v30, v31, v32, v33, v34, v3z⟩ := blk5 b3.out
      go_wp2_with fail
      refine bodyPost_retW (v := .tuple #[.agg #[.int .i64 0, .int .i64 0, .string ⟨#[]⟩, .slice none 0 0, .slice none 0 0], .bool false]) (by simp [results, Try.results80, go_sem, v00, v01, v02, v03, v04, v0z, v10, v11, v12, v13, v14, v15, v16, v1z, v20, v21, v22, v23, v24, v2z, v30, v31, v32, v33, v34, v3z]) rfl ?_
      intro W hW
      clear v00 v01 v02 v03 v04 v0z v10 v11 v12 v13 v14 v15 v16 v1z v20 v21 v22 v23 v24 v2z v30 v31 v32 v33 v34 v3z
      have eF : Fr Wb W (fun k => w.heap.size ≤ k) := by rw [hW]; (repeat (first | with_reducible refine Fr.setCell ?_ _ (fun _ => by simp <;> omega) _ | with_reducible refine Fr.alloc ?_ _ | with_reducible refine Fr.drew ?_)); exact Fr.refl _ _
      exact ⟨[Value.int IntKind.i64 0, .int .i64 0, .string ⟨#[]⟩, .slice none 0 0, .slice none 0 0], by unfold patchB; rw [HP.out]; rfl, by unfold patchJ; rw [HP.out]; exact ZJ (B + 6) _ _, below_frS hB.out eF (fun k h => h)⟩
   ·refine stepM_of rfl ?_ (by rfl)
    go_wp2_with fail
    refine ⟨cls_below (below_alloc hS.out _), ?_⟩
    refine genT ?_; intro W6 hW
    have hz_ : W5.heap.size + 1 ≤ W6.heap.size := by rw [hW]; simp
    have hE : Below W5.heap.size W5 W6 := by rw [hW]; (repeat (first | with_reducible refine below_alloc ?_ _ | with_reducible refine below_drew ?_)); exact Below.refl _ _
    have hB := hB.th hE
    replace hS := Hd.mk (below_then hS.out hE)
    have b0 := b0.dn hE
    have b1 := b1.dn hE
    have b2 := b2.dn hE
    have b3 := Hd.mk (show Blk W6 (W5.heap.size) #[.int .i64 0, .int .i64 0, .string ⟨#[]⟩, .slice none 0 0, .slice none 0 0] 27 by rw [hW]; first | exact (Blk.new _ _ _) | (simpa using (Blk.new _ _ _)))
    clear hW hE
    have z6 := Hd.mk hz_; clear hz_
    refine mixT_b rfl ?_ (by rfl)
    go_wp2_with fail
    apply calls_gen; intro W7 hW
    have hz_ : W6.heap.size ≤ W7.heap.size := by rw [hW]; simp
    have hE : Below W6.heap.size W6 W7 := by rw [hW]; (repeat (first | with_reducible refine below_alloc ?_ _ | with_reducible refine below_drew ?_)); exact Below.refl _ _
    have hB := hB.th hE
    replace hS := Hd.mk (below_then hS.out hE)
    have b0 := b0.dn hE
    have b1 := b1.dn hE
    have b2 := b2.dn hE
    have b3 := b3.dn hE
    clear hW hE
    have z7 := Hd.mk hz_; clear hz_
    refine (spec_l1Copy j _ _ (Ty.K_below _ hB.out HKL.out) HBL.out).mono ?_
    rintro e w8 ⟨cy, rfl, hY, hX⟩
    have b0 := b0.dn hX
    have b1 := b1.dn hX
    have b2 := b2.dn hX
    have b3 := b3.dn hX
    have hB := hB.th hX
    replace hS := Hd.mk (below_then hS.out hX)
    have hz_ := hX.size
    clear hX
    have z8 := Hd.mk hz_; clear hz_
    obtain ⟨v3, v4, _, _, hcy, _, h3_, h4_, _⟩ := tJ_O.1 hY
    obtain ⟨A7, c7, rfl, _, _⟩ := R_C h3_
    obtain ⟨A8, c8, rfl, _, _⟩ := R_C h4_
    clear h3_ h4_
    subst hcy
    replace hY := Hd.mk (show (tJ (B + o.way.length + 1)).O w8 (rng W7.heap.size w8.heap.size) j _ from Ty.O_bound _ hY)
    go_wp2_with fail
    refine ⟨cls_below hS.out, ?_⟩
    refine mixT_b rfl ?_ (by rfl)
    go_wp2_with fail
    apply calls_gen; intro W9 hW
    have hz_ : w8.heap.size ≤ W9.heap.size := by rw [hW]; simp
    have hE : Below w8.heap.size w8 W9 := by rw [hW]; (repeat (first | with_reducible refine below_alloc ?_ _ | with_reducible refine below_drew ?_)); exact Below.refl _ _
    have hB := hB.th hE
    replace hS := Hd.mk (below_then hS.out hE)
    have b0 := b0.dn hE
    have b1 := b1.dn hE
    have b2 := b2.dn hE
    have b3 := b3.dn hE
    have hY := hY.ob hE
    clear hW hE
    have z9 := Hd.mk hz_; clear hz_
    have z1_ := z1.out; have z2_ := z2.out; have z3_ := z3.out; have z4_ := z4.out; have z5_ := z5.out; have z6_ := z6.out; have z7_ := z7.out; have z8_ := z8.out; have z9_ := z9.out
    have hBs := hB.out.size
    refine (patS_all HBO.out ⟨HOW.out.2.2.1, HOW.out.2.2.2.1⟩ o.way (fun s hs => by have := textB_size (HOW.out.2.2.2.2 s hs); omega) (rng W7.heap.size w8.heap.size) j _ _ _ _ w _ hY.out hB.out (fun k h => by have q_ := h.1; omega) HRW.out HCW.out HKO.out ⟨5, HZJ.out⟩).mono ?_
    rintro e w9 hP
    obtain ⟨ra, rb, rs, RA, RB, rn, rc, rn2, rd, ok, rfl, hX, hR⟩ := pat_open hP
    have HR := Hd.mk hR; clear hR hP
    have HR := Hd.mk (pat_T HR.out)
    have b0 := Hd.mk (b0.out.fr hX (fun h => by have q_ := h.1; have q2_ := h.2; omega))
    have b1 := Hd.mk (b1.out.fr hX (fun h => by have q_ := h.1; have q2_ := h.2; omega))
    have b2 := Hd.mk (b2.out.fr hX (fun h => by have q_ := h.1; have q2_ := h.2; omega))
    have b3 := Hd.mk (b3.out.fr hX (fun h => by have q_ := h.1; have q2_ := h.2; omega))
    replace hS := Hd.mk (below_frS hS.out hX (fun k h => by have q_ := h.1; omega))
    have hB := Hd.mk (below_frS hB.out hX (fun k h => by have q_ := h.1; omega))
    clear hY
    have hz_ := hX.size
    clear hX
    have z10 := Hd.mk hz_; clear hz_
    go_wp2_with fail
    refine ⟨cls_below hS.out, ?_⟩
    iterate 3 (refine mixT_p rfl ?_; go_big_quiet_want; go_big_quiet_op; go_big_quiet_on; refine wpQuiet_nil ?_)
    refine mixT_fin ?_
    clear hS
    clear rv00 rv01 rv02 rv03 rv04 rv10 rv11 rv12 rv13 rv14 rv15 rv16 rv20 rv21 rv22 rv23 rv24
    clear v00 v01 v02 v03 v04 v0z v10 v11 v12 v13 v14 v15 v16 v1z v20 v21 v22 v23 v24 v2z
    obtain ⟨v00, v01, v02, v03, v04, v0z⟩ := blk5 b0.out
    obtain ⟨v10, v11, v12, v13, v14, v15, v16, v1z⟩ := blk7 b1.out
    obtain ⟨v20, v21, v22, v23, v24, v2z⟩ := blk5 b2.out
    obtain ⟨v30, v31, v32, v33, v34, v3z⟩ := blk5 b3.out
    refine tail_b rfl ?_ (by rfl)
    go_wp2_with fail
    refine mixQ_n ?_
    refine tail_b rfl ?_ (by rfl)
    go_wp2_with fail
    refine mixQ_n ?_
    refine tail_nil ?_
    refine exit_gen ?_; intro Wb hW
    clear v00 v01 v02 v03 v04 v0z v10 v11 v12 v13 v14 v15 v16 v1z v20 v21 v22 v23 v24 v2z v30 v31 v32 v33 v34 v3z
    have eF : Fr w9 Wb (fun k => k = W5.heap.size) := by rw [hW]; exact Fr.set5 _ _ _ _ _ _ _ _ _ _ _ _
    have z1_ := z1.out; have z2_ := z2.out; have z3_ := z3.out; have z4_ := z4.out; have z5_ := z5.out; have z6_ := z6.out; have z7_ := z7.out; have z8_ := z8.out; have z9_ := z9.out; have z10_ := z10.out
    have b0 := Hd.mk (b0.out.fr eF (fun h => by have hlt_ := b0.out.lt; (try simp only at h); omega))
    have b1 := Hd.mk (b1.out.fr eF (fun h => by have hlt_ := b1.out.lt; (try simp only at h); omega))
    have b2 := Hd.mk (b2.out.fr eF (fun h => by have hlt_ := b2.out.lt; (try simp only at h); omega))
    have b3 := Hd.mk (show Blk Wb (W5.heap.size) #[.int .i64 ra, .int .i64 rb, .string rs, .slice RA rn rc, .slice RB rn2 rd] 27 by rw [hW]; exact Blk.all b3.out [Value.int IntKind.i64 ra, .int .i64 rb, .string rs, .slice RA rn rc, .slice RB rn2 rd] rfl)
    have HR := Hd.mk (patT_fr HR.out eF (fun k hk hl h => by (try simp only at h); have q2_ := hk.2; rcases hk.1 with q_ | q_; omega; (have q3_ := q_.1; have q4_ := q_.2; omega)))
    have hB := Hd.mk (below_frS hB.out eF (fun k h => by (try simp only at h); omega))
    have hzb := Hd.mk eF.size
    clear hW eF
    rcases HR.out with ⟨rfl, zz, hz1, hz2⟩ | ⟨rfl, hz1⟩
    ·have hz2 := Hd.mk hz2; have hz1 := Hd.mk hz1
     obtain ⟨v00, v01, v02, v03, v04, v0z⟩ := blk5 b0.out
     obtain ⟨v10, v11, v12, v13, v14, v15, v16, v1z⟩ := blk7 b1.out
     obtain ⟨v20, v21, v22, v23, v24, v2z⟩ := blk5 b2.out
     obtain ⟨v30, v31, v32, v33, v34, v3z⟩ := blk5 b3.out
     go_wp2_with fail
     clear v00 v01 v02 v03 v04 v0z v10 v11 v12 v13 v14 v15 v16 v1z v20 v21 v22 v23 v24 v2z v30 v31 v32 v33 v34 v3z
     apply calls_gen; intro W10 hW
     have hz_ : Wb.heap.size ≤ W10.heap.size := by rw [hW]; simp
     have hE : Below Wb.heap.size Wb W10 := by rw [hW]; (repeat (first | with_reducible refine below_alloc ?_ _ | with_reducible refine below_drew ?_)); exact Below.refl _ _
     have hB := hB.th hE
     have b0 := b0.dn hE
     have b1 := b1.dn hE
     have b2 := b2.dn hE
     have b3 := b3.dn hE
     have hz2 := hz2.ob hE
     clear hW hE
     have z11 := Hd.mk hz_; clear hz_
     refine (spec_JsonOk zz _ _ (Ty.O_K _ hz2.out)).mono ?_
     rintro e w11 ⟨rfl, hX⟩
     have b0 := b0.dn hX
     have b1 := b1.dn hX
     have b2 := b2.dn hX
     have b3 := b3.dn hX
     have hz2 := hz2.ob hX
     have hB := hB.th hX
     have hz_ := hX.size
     clear hX
     have z12 := Hd.mk hz_; clear hz_
     cases hjz : jsonOk zz
     ·have HP := Hd.mk (show patchO j o = none from patchO_no HOK.out hz1.out hjz)
      obtain ⟨v00, v01, v02, v03, v04, v0z⟩ := blk5 b0.out
      obtain ⟨v10, v11, v12, v13, v14, v15, v16, v1z⟩ := blk7 b1.out
      obtain ⟨v20, v21, v22, v23, v24, v2z⟩ := blk5 b2.out
      obtain ⟨v30, v31, v32, v33, v34, v3z⟩ := blk5 b3.out
      go_wp2_with fail
      refine bodyPost_retW (v := .tuple #[.agg #[.int .i64 0, .int .i64 0, .string ⟨#[]⟩, .slice none 0 0, .slice none 0 0], .bool false]) (by simp [results, Try.results80, go_sem, v00, v01, v02, v03, v04, v0z, v10, v11, v12, v13, v14, v15, v16, v1z, v20, v21, v22, v23, v24, v2z, v30, v31, v32, v33, v34, v3z]) rfl ?_
      intro W hW
      clear v00 v01 v02 v03 v04 v0z v10 v11 v12 v13 v14 v15 v16 v1z v20 v21 v22 v23 v24 v2z v30 v31 v32 v33 v34 v3z
      have eF : Fr w11 W (fun k => w.heap.size ≤ k) := by rw [hW]; (repeat (first | with_reducible refine Fr.setCell ?_ _ (fun _ => by simp <;> omega) _ | with_reducible refine Fr.alloc ?_ _ | with_reducible refine Fr.drew ?_)); exact Fr.refl _ _
      exact ⟨[Value.int IntKind.i64 0, .int .i64 0, .string ⟨#[]⟩, .slice none 0 0, .slice none 0 0], by unfold patchB; rw [HP.out]; rfl, by unfold patchJ; rw [HP.out]; exact ZJ (B + 6) _ _, below_frS hB.out eF (fun k h => h)⟩
     ·have HP := Hd.mk (patchO_yes HOK.out hz1.out hjz)
      obtain ⟨v00, v01, v02, v03, v04, v0z⟩ := blk5 b0.out
      obtain ⟨v10, v11, v12, v13, v14, v15, v16, v1z⟩ := blk7 b1.out
      obtain ⟨v20, v21, v22, v23, v24, v2z⟩ := blk5 b2.out
      obtain ⟨v30, v31, v32, v33, v34, v3z⟩ := blk5 b3.out
      go_wp2_with fail
      refine bodyPost_retW (v := .tuple #[.agg #[.int .i64 ra, .int .i64 rb, .string rs, .slice RA rn rc, .slice RB rn2 rd], .bool true]) (by simp [results, Try.results80, go_sem, v00, v01, v02, v03, v04, v0z, v10, v11, v12, v13, v14, v15, v16, v1z, v20, v21, v22, v23, v24, v2z, v30, v31, v32, v33, v34, v3z]) rfl ?_
      intro W hW
      clear v00 v01 v02 v03 v04 v0z v10 v11 v12 v13 v14 v15 v16 v1z v20 v21 v22 v23 v24 v2z v30 v31 v32 v33 v34 v3z
      have eF : Fr w11 W (fun k => k = w.heap.size + 2) := by rw [hW]; exact Fr.set5 _ _ _ _ _ _ _ _ _ _ _ _
      have z1_ := z1.out; have z2_ := z2.out; have z3_ := z3.out; have z4_ := z4.out; have z5_ := z5.out; have z6_ := z6.out; have z7_ := z7.out; have z8_ := z8.out; have z9_ := z9.out; have z10_ := z10.out; have hzb_ := hzb.out; have z11_ := z11.out; have z12_ := z12.out
      exact ⟨[Value.int IntKind.i64 ra, .int .i64 rb, .string rs, .slice RA rn rc, .slice RB rn2 rd], by unfold patchB; rw [HP.out]; rfl, by unfold patchJ; rw [HP.out]; exact (tJ_le (by have := HOW.out.1; omega : B + o.way.length + 1 ≤ B + 7)).O _ _ _ _ (Ty.O_mono _ (fun k hk => by rcases hk.1 with q_ | q_; omega; (have q3_ := q_.1; omega)) (Ty.O_fr hz2.out eF (fun k hk hl h => by (try simp only at h); rcases hk.1 with q_ | q_; omega; (have q3_ := q_.1; omega)))), below_frS hB.out eF (fun k h => by (try simp only at h); omega)⟩
    ·have hz1 := Hd.mk hz1
     have HP := Hd.mk (show patchO j o = none from patchO_none HOK.out hz1.out)
     obtain ⟨v00, v01, v02, v03, v04, v0z⟩ := blk5 b0.out
     obtain ⟨v10, v11, v12, v13, v14, v15, v16, v1z⟩ := blk7 b1.out
     obtain ⟨v20, v21, v22, v23, v24, v2z⟩ := blk5 b2.out
     obtain ⟨v30, v31, v32, v33, v34, v3z⟩ := blk5 b3.out
     go_wp2_with fail
     refine bodyPost_retW (v := .tuple #[.agg #[.int .i64 0, .int .i64 0, .string ⟨#[]⟩, .slice none 0 0, .slice none 0 0], .bool false]) (by simp [results, Try.results80, go_sem, v00, v01, v02, v03, v04, v0z, v10, v11, v12, v13, v14, v15, v16, v1z, v20, v21, v22, v23, v24, v2z, v30, v31, v32, v33, v34, v3z]) rfl ?_
     intro W hW
     clear v00 v01 v02 v03 v04 v0z v10 v11 v12 v13 v14 v15 v16 v1z v20 v21 v22 v23 v24 v2z v30 v31 v32 v33 v34 v3z
     have eF : Fr Wb W (fun k => w.heap.size ≤ k) := by rw [hW]; (repeat (first | with_reducible refine Fr.setCell ?_ _ (fun _ => by simp <;> omega) _ | with_reducible refine Fr.alloc ?_ _ | with_reducible refine Fr.drew ?_)); exact Fr.refl _ _
     exact ⟨[Value.int IntKind.i64 0, .int .i64 0, .string ⟨#[]⟩, .slice none 0 0, .slice none 0 0], by unfold patchB; rw [HP.out]; rfl, by unfold patchJ; rw [HP.out]; exact ZJ (B + 6) _ _, below_frS hB.out eF (fun k h => h)⟩
end Go.Proofs.Ytlkjpnlpankhpaa.X
namespace Go.Proofs.Ytlkjpnlpankhpaa.X
open Go.RowKit Go.Sort
set_option linter.unusedVariables false
set_option linter.unusedSimpArgs false
open Ty
theorem R_to {α : Type} {d d' : Ty α} {e : TypeId} {w : World} {S : Nat → Prop} {v : Value} {xs : List α} (hz : d.sz = d'.sz) (ho : ∀ x ∈ xs, ∀ T cs, d.O w T x cs → d'.O w T x cs) (h : d.R e w S v xs) : d'.R e w S v xs := by
 obtain ⟨inner, f, h1, h2, h3⟩ := h
 refine ⟨inner, f, by rw [← hz]; exact h1, h2, fun i x hi => ?_⟩
 have h4 := h3 i x hi
 rw [hz] at h4
 exact ho x (by rw [← (List.getElem?_eq_some_iff.1 hi).2]; exact List.getElem_mem _) _ _ h4
theorem tJ_low : ∀ (d m : Nat) {w : World} {S : Nat → Prop} {x : J} {cs : List Value}, sizeN d x ≤ 400 → (tJ m).O w S x cs → (tJ d).O w S x cs
 | 0, m, _, _, _, _, h, _ => by simp [sizeN] at h
 | d + 1, 0, _, _, _, _, _, h => h.elim
 | d + 1, m + 1, w, S, x, cs, hz, h => by
  obtain ⟨v, v2, T0, T1, rfl, hs, h1, h2⟩ := tJ_O.1 h
  exact tJ_O.2 ⟨v, v2, T0, T1, rfl, hs, R_to (by rw [tJ_sz, tJ_sz]) (fun y hy T cs hO => tJ_low d m (size_part hz hy) hO) h1, h2⟩
theorem jsonOk_size {j : J} (h : jsonOk j = true) : sizeN 6 j ≤ 400 := of_decide_eq_true (show decide (sizeN 6 j ≤ 400) = true from h)
theorem null_size : sizeN 6 J.null ≤ 400 := by
 have h : ownB J.null = true := by unfold ownB; simp [J.null, ByteArray.toList_eq]
 show (if ownB J.null = true ∧ 1 + sumZ (sizeN 5) ([] : List J) ≤ 400 then 1 + sumZ (sizeN 5) ([] : List J) else 401) ≤ 400
 rw [if_pos ⟨h, by decide⟩]; decide
theorem patchO_ok {j z : J} {o : JOp} (h : patchO j o = some z) : jsonOk z = true := by
 unfold patchO at h
 split at h
 ·split at h
  ·split at h
   ·injection h with h; subst h; assumption
   ·cases h
  ·cases h
 ·cases h
theorem patchJ_size (j : J) (o : JOp) : sizeN 6 (patchJ j o) ≤ 400 := by
 unfold patchJ
 cases h : patchO j o with
 | none => exact null_size
 | some z => exact jsonOk_size (patchO_ok h)
theorem patchL_snoc (j : J) (l : List JOp) (o : JOp) : patchL j (l ++ [o]) = match patchL j l with
  | some z => patchO z o
  | none => none := by
 induction l generalizing j with
 | nil =>
  show (match patchO j o with | some z => some z | none => none) = patchO j o
  cases patchO j o <;> rfl
 | cons a l ih =>
  show (match patchO j a with | some z => patchL z (l ++ [o]) | none => none) = (match (match patchO j a with | some z => patchL z l | none => none) with | some z => patchO z o | none => none)
  cases patchO j a with
  | none => rfl
  | some z => exact ih z
theorem patchL_cut {j : J} {l : List JOp} {k : Nat} (h : patchL j (l.take k) = none) : patchL j l = none := by
 have : ∀ (r : List JOp) (p : List JOp) (j : J), patchL j p = none → patchL j (p ++ r) = none := fun r p => by
  induction p with
  | nil => intro j h; cases h
  | cons a p ih =>
   intro j h
   show (match patchO j a with | some z => patchL z (p ++ r) | none => none) = none
   have h : (match patchO j a with | some z => patchL z p | none => none) = none := h
   cases ho : patchO j a with
   | none => rfl
   | some z => rw [ho] at h; exact ih z h
 have h2 := this (l.drop k) _ _ h
 rwa [List.take_append_drop] at h2
noncomputable def patchAllJ (j : J) (l : List JOp) : J := (patchAllO j l).getD J.null
noncomputable def patchAllB (j : J) (l : List JOp) : Bool := (patchAllO j l).isSome
theorem patchL_ok {j z : J} {l : List JOp} (hj : jsonOk j = true) (h : patchL j l = some z) : jsonOk z = true := by
 induction l generalizing j with
 | nil => injection h with h; subst h; exact hj
 | cons a l ih =>
  have h : (match patchO j a with | some z => patchL z l | none => none) = some z := h
  cases ho : patchO j a with
  | none => rw [ho] at h; cases h
  | some y => rw [ho] at h; exact ih (patchO_ok ho) h
theorem patchAllJ_size (j : J) (l : List JOp) : sizeN 6 (patchAllJ j l) ≤ 400 := by
 unfold patchAllJ
 cases h : patchAllO j l with
 | none => exact null_size
 | some z =>
  unfold patchAllO at h
  split at h
  ·rename_i hg
   simp only [Bool.and_eq_true] at hg
   exact jsonOk_size (patchL_ok hg.1 h)
  ·cases h
def diffAt (f : J → J → List JOp) (a b : J) (i : Nat) : List JOp :=
 if nameAt a.names (b.names.getD i ByteArray.empty) < 0 then [⟨1, [b.names.getD i ByteArray.empty], b.list.getD i J.null⟩]
 else underL (b.names.getD i ByteArray.empty) (f (a.list.getD (nameAt a.names (b.names.getD i ByteArray.empty)).toNat J.null) (b.list.getD i J.null))
def diffGone (a b : J) : List JOp := (a.names.filter (fun s => decide (nameAt b.names s < 0))).map (fun s => ⟨2, [s], J.null⟩)
noncomputable def diffL : Nat → J → J → List JOp
 | 0, _, _ => []
 | d + 1, a, b => if eqv a b = true then [] else if a.kind ≠ 5 ∨ b.kind ≠ 5 then [⟨3, [], b⟩] else diffGone a b ++ (List.range b.names.length).flatMap (diffAt (diffL d) a b)
theorem diffGone_step (a b : J) (k : Nat) (hk : k < a.names.length) : ((a.names.take (k + 1)).filter (fun s => decide (nameAt b.names s < 0))).map (fun s => (⟨2, [s], J.null⟩ : JOp)) =
  ((a.names.take k).filter (fun s => decide (nameAt b.names s < 0))).map (fun s => ⟨2, [s], J.null⟩) ++ (if nameAt b.names a.names[k] < 0 then [⟨2, [a.names[k]], J.null⟩] else []) := by
 rw [List.take_succ_eq_append_getElem hk, List.filter_append, List.map_append]
 congr 1
 by_cases h : nameAt b.names a.names[k] < 0 <;> simp [h]
theorem flat_step {α : Type} (f : Nat → List α) (k : Nat) : (List.range (k + 1)).flatMap f = (List.range k).flatMap f ++ f k := by
 rw [List.range_succ, List.flatMap_append]; simp
theorem nameAt_pos (l : List ByteArray) (s : ByteArray) : -1 ≤ nameAt l s ∧ nameAt l s < l.length := by
 have := List.findIdx_le_length (xs := l) (p := fun x : ByteArray => s.toList == x.toList)
 unfold nameAt idxF
 split <;> omega
theorem flat_len {α : Type} (f : Nat → List α) (g : J → Int) (l : List J) (k : Nat) (hk : k ≤ l.length) (h : ∀ i (hi : i < l.length), i < k → ((f i).length : Int) ≤ 401 * g l[i]) : (((List.range k).flatMap f).length : Int) ≤ 401 * sumZ g (l.take k) := by
 induction k with
 | zero => simp [sumZ]
 | succ k ih =>
  have h1 := ih (by omega) (fun i hi hik => h i hi (by omega))
  have h2 := h k (by omega) (by omega)
  rw [flat_step, sumZ_take g l k (by omega), List.length_append]
  push_cast
  omega
theorem null_bulk (m : Nat) : bulkJ m J.null = 0 := by
 cases m with
 | zero => rfl
 | succ m => simp [bulkJ, J.null, bulkL, bulkStringS]
theorem null_cn (m : Nat) : cnJ m J.null ≤ 3 := by
 cases m with
 | zero => simp [cnJ]
 | succ m => simp [cnJ, J.null, bulkL]
theorem name_list {d : Nat} {a : J} (h : sizeN (d + 1) a ≤ 400) (s : ByteArray) (hn : ¬ nameAt a.names s < 0) : ∃ q : Nat, ∃ hq : q < a.list.length, nameAt a.names s = (q : Int) ∧ a.list.getD (nameAt a.names s).toNat J.null = a.list[q] := by
 obtain ⟨ho, _⟩ := size_own h
 obtain ⟨_, h2, _⟩ := own_facts ho
 have h3 := nameAt_pos a.names s
 refine ⟨(nameAt a.names s).toNat, by omega, by omega, ?_⟩
 rw [List.getD_eq_getElem?_getD, List.getElem?_eq_getElem (by omega)]; rfl
theorem at_list {d : Nat} {b : J} (h : sizeN (d + 1) b ≤ 400) (i : Nat) (hi : i < b.names.length) : ∃ hq : i < b.list.length, b.list.getD i J.null = b.list[i] ∧ b.names.getD i ByteArray.empty = b.names[i] ∧ b.names[i].size ≤ 60 := by
 obtain ⟨ho, _⟩ := size_own h
 obtain ⟨_, h2, h3⟩ := own_facts ho
 refine ⟨by omega, ?_, ?_, h3 _ (List.getElem_mem hi)⟩
 ·rw [List.getD_eq_getElem?_getD, List.getElem?_eq_getElem (by omega)]; rfl
 ·rw [List.getD_eq_getElem?_getD, List.getElem?_eq_getElem (by omega)]; rfl
theorem under_len (s : ByteArray) (l : List JOp) : (underL s l).length = l.length := by simp [underL]
theorem gone_len (a b : J) : (diffGone a b).length ≤ a.names.length := by
 unfold diffGone
 rw [List.length_map]
 exact List.length_filter_le _ _
theorem diff_ops : ∀ (d : Nat) (a b : J), sizeN d a ≤ 400 → sizeN d b ≤ 400 → ((diffL d a b).length : Int) ≤ 401 * sizeN d b ∧ ∀ o ∈ diffL d a b, ∀ m, bulkOp m o ≤ 61 * d + 48800 ∧ cnOp m o ≤ d + 1604
 | 0, a, b, ha, hb => by simp [sizeN] at ha
 | d + 1, a, b, ha, hb => by
  obtain ⟨hoa, hea⟩ := size_own ha
  obtain ⟨hob, heb⟩ := size_own hb
  obtain ⟨_, ha2, ha3⟩ := own_facts hoa
  obtain ⟨_, hb2, hb3⟩ := own_facts hob
  have hbp := (sizeN_bound (d + 1) b).1
  have hla := list_len ha
  rw [diffL]
  split
  ·exact ⟨by simp; omega, by simp⟩
  split
  ·refine ⟨by simp; omega, fun o ho m => ?_⟩
   rw [List.mem_singleton] at ho
   subst ho
   have h1 := bulk_size m (d + 1) b hb
   have h2 := cn_size m (d + 1) b hb
   simp only [bulkOp, cnOp, bulkStringS, bulkL, List.length_nil]
   push_cast at h1 h2
   omega
  have hat : ∀ i (hi : i < b.names.length), ((diffAt (diffL d) a b i).length : Int) ≤ 401 * sizeN d (b.list[i]'(by omega)) ∧ ∀ o ∈ diffAt (diffL d) a b i, ∀ m, bulkOp m o ≤ 61 * (d + 1) + 48800 ∧ cnOp m o ≤ (d + 1) + 1604 := by
   intro i hi
   obtain ⟨hil, e1, e2, h60⟩ := at_list hb i hi
   have hsz := size_part hb (List.getElem_mem hil)
   have hpos := (sizeN_bound d b.list[i]).1
   unfold diffAt
   rw [e1, e2]
   split
   ·refine ⟨by simp; omega, fun o ho m => ?_⟩
    rw [List.mem_singleton] at ho
    subst ho
    have h1 := bulk_size m d _ hsz
    have h2 := cn_size m d _ hsz
    simp only [bulkOp, cnOp, bulkStringS, bulkL, List.length_nil, List.length_cons]
    push_cast at h1 h2
    omega
   ·rename_i hn
    obtain ⟨q, hq, _, e3⟩ := name_list ha _ hn
    rw [e3]
    obtain ⟨h1, h2⟩ := diff_ops d a.list[q] b.list[i] (size_part ha (List.getElem_mem hq)) hsz
    refine ⟨by rw [under_len]; exact h1, fun o ho m => ?_⟩
    unfold underL at ho
    obtain ⟨o', ho', rfl⟩ := List.mem_map.1 ho
    have h3 := h2 o' ho' m
    simp only [bulkOp, cnOp, bulkStringS, bulkL, List.length_cons] at h3 ⊢
    omega
  refine ⟨?_, fun o ho m => ?_⟩
  ·rw [List.length_append]
   have h1 := gone_len a b
   have h2 := flat_len (diffAt (diffL d) a b) (sizeN d) b.list b.names.length hb2 (fun i _ hi => (hat i hi).1)
   have h3 := sumZ_le (sizeN d) (sizeN_pos d) b.list b.names.length
   rw [heb]
   push_cast
   omega
  ·rcases List.mem_append.1 ho with ho | ho
   ·unfold diffGone at ho
    obtain ⟨s, hs, rfl⟩ := List.mem_map.1 ho
    have h1 := ha3 s (List.mem_filter.1 hs).1
    have h2 := null_bulk m
    have h3 := null_cn m
    simp only [bulkOp, cnOp, bulkStringS, bulkL, List.length_nil, List.length_cons]
    omega
   ·obtain ⟨i, hi, hoi⟩ := List.mem_flatMap.1 ho
    exact (hat i (List.mem_range.1 hi)).2 o hoi m
theorem diffAt_len {d : Nat} {a b : J} (ha : sizeN (d + 1) a ≤ 400) (hb : sizeN (d + 1) b ≤ 400) (i : Nat) (hi : i < b.names.length) (hil : i < b.list.length) : ((diffAt (diffL d) a b i).length : Int) ≤ 401 * sizeN d b.list[i] := by
 obtain ⟨_, e1, e2, h60⟩ := at_list hb i hi
 have hsz := size_part hb (List.getElem_mem hil)
 have hpos := (sizeN_bound d b.list[i]).1
 unfold diffAt
 rw [e1, e2]
 split
 ·simp; omega
 ·rename_i hn
  obtain ⟨q, hq, _, e3⟩ := name_list ha _ hn
  rw [e3, under_len]
  exact (diff_ops d a.list[q] b.list[i] (size_part ha (List.getElem_mem hq)) hsz).1
def goneK (a b : J) (k : Nat) : List JOp := ((a.names.take k).filter (fun s => decide (nameAt b.names s < 0))).map (fun s => (⟨2, [s], J.null⟩ : JOp))
theorem goneK_in (a b : J) (k : Nat) (hk : k < a.names.length) (h : ¬ nameAt b.names a.names[k] < 0) : goneK a b (k + 1) = goneK a b k := by
 unfold goneK
 rw [diffGone_step a b k hk, if_neg h, List.append_nil]
theorem goneK_out (a b : J) (k : Nat) (hk : k < a.names.length) (h : nameAt b.names a.names[k] < 0) : goneK a b (k + 1) = goneK a b k ++ [⟨2, [a.names[k]], J.null⟩] := by
 unfold goneK
 rw [diffGone_step a b k hk, if_pos h]
theorem goneK_len (a b : J) (k : Nat) : (goneK a b k).length ≤ k := by
 unfold goneK
 rw [List.length_map]
 exact Nat.le_trans (List.length_filter_le _ _) (by rw [List.length_take]; omega)
theorem goneK_all (a b : J) : goneK a b a.names.length = diffGone a b := by
 unfold goneK diffGone
 rw [List.take_length]
noncomputable def diffK (d : Nat) (a b : J) (k : Nat) : List JOp := diffGone a b ++ (List.range k).flatMap (diffAt (diffL d) a b)
theorem diffK_step (d : Nat) (a b : J) (k : Nat) : diffK d a b (k + 1) = diffK d a b k ++ diffAt (diffL d) a b k := by
 unfold diffK
 rw [flat_step, List.append_assoc]
theorem diffK_zero (d : Nat) (a b : J) : diffK d a b 0 = diffGone a b := by simp [diffK]
theorem diffK_len {d : Nat} {a b : J} (ha : sizeN (d + 1) a ≤ 400) (hb : sizeN (d + 1) b ≤ 400) (k : Nat) (hk : k ≤ b.names.length) : (diffK d a b k).length ≤ 200000 := by
 obtain ⟨hoa, hea⟩ := size_own ha
 obtain ⟨hob, heb⟩ := size_own hb
 obtain ⟨_, ha2, _⟩ := own_facts hoa
 obtain ⟨_, hb2, _⟩ := own_facts hob
 have hla := list_len ha
 have h1 := gone_len a b
 have h2 := flat_len (diffAt (diffL d) a b) (sizeN d) b.list k (by omega) (fun i hil hi => diffAt_len ha hb i (by omega) hil)
 have h3 := sumZ_le (sizeN d) (sizeN_pos d) b.list k
 unfold diffK
 rw [List.length_append]
 omega
theorem diffL_same {d : Nat} {a b : J} (h : eqv a b = true) : diffL (d + 1) a b = [] := by rw [diffL, if_pos h]
theorem diffL_kind {d : Nat} {a b : J} (h : eqv a b = false) (hk : a.kind ≠ 5 ∨ b.kind ≠ 5) : diffL (d + 1) a b = [⟨3, [], b⟩] := by rw [diffL, if_neg (by simp [h]), if_pos hk]
theorem diffL_obj {d : Nat} {a b : J} (h : eqv a b = false) (ha : a.kind = 5) (hb : b.kind = 5) : diffL (d + 1) a b = diffK d a b b.names.length := by rw [diffL, if_neg (by simp [h]), if_neg (by omega)]; rfl
theorem diffAt_new {d : Nat} {a b : J} (hb : sizeN (d + 1) b ≤ 400) (i : Nat) (hi : i < b.names.length) (hil : i < b.list.length) (h : nameAt a.names b.names[i] < 0) : diffAt (diffL d) a b i = [⟨1, [b.names[i]], b.list[i]⟩] := by
 obtain ⟨_, e1, e2, h60⟩ := at_list hb i hi
 unfold diffAt
 rw [e1, e2, if_pos h]
theorem diffAt_old {d : Nat} {a b : J} (hb : sizeN (d + 1) b ≤ 400) (i : Nat) (hi : i < b.names.length) (hil : i < b.list.length) (q : Nat) (hq : q < a.list.length) (h : nameAt a.names b.names[i] = (q : Int)) : diffAt (diffL d) a b i = underL b.names[i] (diffL d a.list[q] b.list[i]) := by
 obtain ⟨_, e1, e2, h60⟩ := at_list hb i hi
 unfold diffAt
 rw [e1, e2, h, if_neg (by omega)]
 rw [List.getD_eq_getElem?_getD, List.getElem?_eq_getElem (by omega)]; rfl
theorem tJ_ne {m : Nat} {w : World} {A : Option Addr} {l : List J} (hr : (tJ m).C w A l) (h : 0 < l.length) : ∃ m', m = m' + 1 := by
 obtain ⟨ad, cs0, _, hK0, _⟩ := C_at hr (Below.refl _ _) 0 h
 cases m with
 | zero => exact hK0.elim
 | succ m => exact ⟨m, rfl⟩
theorem block_cell' {w : World} {g : Nat} {cur : Array Value} {e : TypeId} {fr : Nat × Nat} (h : w.heap[g]? = some (.cells cur e fr)) (j : Nat) : w.cell? ⟨g, j, none⟩ = cur[j]? := by
 unfold World.cell?
 rw [show w.heap[(⟨g, j, none⟩ : Addr).block]? = some (.cells cur e fr) from h]
 simp
section
variable {P : Program} {ops : Array Oper} {rest : List Oper} {o : Oper} {a : Act} {Q : Exit → Act → World → Prop}
theorem append_move {α : Type} (d : Ty α) {W : World} (hgd : o.guard = none) (s x : Operand) (t e : TypeId) (z : Value) (bytes : Nat)
  (ho : o.op = .call { callee := .builtin .append, args := #[s, x], argTypes := #[t, t] })
  (ht : P.underlying t = some (.slice e)) (hinfo : (P.info? e).map (fun i => (i.zero, i.size, i.bytes)) = some (some z, d.sz, bytes)) (hz : z.cells.size = d.sz) (hsz : 0 < d.sz) (hb0 : 0 < bytes)
  {S S2 S' : Nat → Prop} {v : Value} {xs ys : List α} (A : Option Addr) (m c : Nat)
  (hs : a.eval s = v) (hx : a.eval x = .slice A m c) (HR : d.R e W S v xs) (HY : d.R e W S2 (.slice A m c) ys)
  (hST : ∀ k, S2 k → k < W.heap.size → ¬ S k) (hS : ∀ k, S k → S' k) (hT : ∀ k, S2 k → S' k) (hnew : ∀ k, W.heap.size ≤ k → S' k)
  (hbytes : (xs.length + ys.length) * bytes ≤ 140737488355328)
  (h : ∀ v1 w1, d.R e w1 S' v1 (xs ++ ys) → Fr W w1 S → wpList P ops Q rest (a.put o.dst v1) w1) :
  wpList P ops Q (o :: rest) a W := by
 by_cases h0 : ys.length = 0
 ·obtain ⟨A1, c1, hv, _, _⟩ := R_C HY
  injection hv with h1 h2 h3
  obtain rfl : ys = [] := List.length_eq_zero_iff.1 h0
  simp only [List.length_nil] at h2 hbytes
  subst h2
  exact append_gen d (S := S) (S' := S') (v := v) (xs := xs) (ys := []) hgd s x t e z bytes ho ht hinfo hz hsz hb0 (fun _ _ => False) A 0 c [] hs hx HR rfl (by simp) (fun j u hu => by simp at hu) (fun u hu => by simp at hu) (fun i y hi => by simp at hi) (fun _ _ _ hf _ => hf.elim) (fun _ _ hf => hf.elim) hS (fun _ _ hf => hf.elim) hnew hbytes h
 ·obtain ⟨g, cap, hv, _, _⟩ := R_form HY (by omega)
  injection hv with h1 h2 h3
  subst h1; subst h2; subst h3
  obtain ⟨cur, T, hb, _, _, hle, _, hcs, hTS, hTT, hO⟩ := R_parts HY
  have hml : ys.length * d.sz ≤ c * d.sz := Nat.mul_le_mul_right _ hle
  have hl : (cur.toList.take (ys.length * d.sz)).length = ys.length * d.sz := by simp; omega
  refine append_gen d (S := S) (S' := S') (v := v) (xs := xs) (ys := ys) hgd s x t e z bytes ho ht hinfo hz hsz hb0 T (some ⟨g, 0, none⟩) ys.length c (cur.toList.take (ys.length * d.sz)) hs hx HR rfl hl
   (fun j u hu => ?_) (fun u hu => ?_) (fun i y hi => ?_) hTT (fun i k hk => hST k (hTS i k hk).1 (hTS i k hk).2.2) hS (fun i k hk => hT k (hTS i k hk).1) hnew hbytes h
  ·have hj : j < ys.length * d.sz := by
    have := (List.getElem?_eq_some_iff.1 hu).1
    omega
   refine ⟨_, rfl, ?_⟩
   rw [Addr.add_lit, block_cell' hb]
   rw [List.getElem?_take, if_pos hj] at hu
   simpa using hu
  ·obtain ⟨j, hj⟩ := List.mem_iff_getElem?.1 hu
   have hj1 : j < ys.length * d.sz := by
    have := (List.getElem?_eq_some_iff.1 hj).1
    omega
   rw [List.getElem?_take, if_pos hj1] at hj
   have hi : j / d.sz < ys.length := Nat.div_lt_of_lt_mul (by rw [Nat.mul_comm]; exact hj1)
   have h6 := hO (j / d.sz) ys[j / d.sz] (by simp [hi])
   refine d.K_one (d.O_K h6) u ?_
   rw [List.mem_iff_getElem?]
   refine ⟨j % d.sz, ?_⟩
   rw [List.getElem?_take, if_pos (Nat.mod_lt _ hsz), List.getElem?_drop, show j / d.sz * d.sz + j % d.sz = j by rw [Nat.mul_comm]; exact Nat.div_add_mod _ _]
   exact hj
  ·have hil : i < ys.length := (List.getElem?_eq_some_iff.1 hi).1
   have h6 := hO i y hi
   have h7 : i * d.sz + d.sz ≤ ys.length * d.sz := by
    have := Nat.mul_le_mul_right d.sz (show i + 1 ≤ ys.length by omega)
    rw [Nat.add_mul] at this
    omega
   rw [List.drop_take, List.take_take, Nat.min_eq_left (by omega)]
   exact h6
end
theorem bulkL_most {α : Type} (f : α → Nat) (c : Nat) : ∀ l : List α, (∀ x ∈ l, f x ≤ c) → bulkL f l ≤ c * l.length
 | [], _ => by simp [bulkL]
 | x :: l, h => by
  have h1 := h x (by simp)
  have h2 := bulkL_most f c l (fun y hy => h y (by simp [hy]))
  simp only [bulkL, List.length_cons, Nat.mul_add, Nat.mul_one]
  omega
noncomputable def diffT (a b : J) : List JOp := if jsonOk a && jsonOk b then diffL 6 a b else []
theorem cnt_diff (m : Nat) (a b : J) : (bulkL (cnOp m) (diffT a b) : Int) ≤ 1099511627776 := by
 unfold diffT
 split
 ·rename_i h
  rw [Bool.and_eq_true] at h
  obtain ⟨h1, h2⟩ := diff_ops 6 a b (of_decide_eq_true h.1) (of_decide_eq_true h.2)
  have h3 := (sizeN_bound 6 b).2
  have h4 : bulkL (cnOp m) (diffL 6 a b) ≤ 1610 * (diffL 6 a b).length := bulkL_most (cnOp m) 1610 _ (fun o ho => (h2 o ho m).2)
  omega
 ·simp [bulkL]
def DiffS (M d : Nat) : Prop := ∀ (a b : J) (cs cs2 : List Value) (w : World), (tJ (M + 1)).K w a cs → (tJ (M + 1)).K w b cs2 → sizeN d a ≤ 400 → sizeN d b ≤ 400 →
 Calls Try.prog 83 #[.agg cs.toArray, .agg cs2.toArray] w fun e w' => ∃ v, e = .returned v ∧ (tOp (M + 1)).R 38 w' (fun k => w.heap.size ≤ k) v (diffL d a b) ∧ Below w.heap.size w w'
set_option maxHeartbeats 16000000 in
set_option maxRecDepth 100000 in
theorem spec_l5Diff_of {M d : Nat} (hd : d ≤ 5) (ih : DiffS M d) : DiffS M (d + 1) := by
 intro a b cs cs2 w hk hk2 hza hzb
 have IH := Hd.mk ih; clear ih
 have HD6 := Hd.mk hd
 clear hd
 have HKa := Hd.mk hk; have HKb := Hd.mk hk2
 obtain ⟨A1, c1, A2, c2, rfl, hsa, ⟨hc1, hr1⟩, hc2, hr2⟩ := tJ_K.1 hk
 obtain ⟨A3, c3, A4, c4, rfl, hsb, ⟨hc3, hr3⟩, hc4, hr4⟩ := tJ_K.1 hk2
 have hm1 := hr1.1; have hm2 := hr2.1; have hm3 := hr3.1; have hm4 := hr4.1
 have HA1 := Hd.mk hr1; have HA2 := Hd.mk hr2; have HB3 := Hd.mk hr3; have HB4 := Hd.mk hr4
 clear hr1 hr2 hr3 hr4 hk hk2
 have HZA := Hd.mk hza; have HZB := Hd.mk hzb
 have hbulk := Hd.mk (bulk_size (M + 1) (d + 1) b hzb)
 have hna : a.names.length ≤ 399 := by
  have h1 := list_len hza
  have h2 := (own_facts (size_own hza).1).2.1
  omega
 have hnb : b.names.length ≤ b.list.length := (own_facts (size_own hzb).1).2.1
 have hnb2 : b.list.length ≤ 399 := list_len hzb
 clear hza hzb
 have hB := Hd.mk (Below.refl w.heap.size w)
 go_enter Try.func83, Try.ntmps83
 go_wp2_with fail
 apply calls_gen; intro W1 hW
 have hR := Hd.mk (show (tOp (M + 1)).R 38 W1 (fun k => w.heap.size + 2 ≤ k) (.slice (some ⟨w.heap.size + 2, 0, none⟩) 0 0) [] by rw [hW]; have h := R_empty (tOp (M + 1)) 38 ((w.alloc (.cells #[.int .i64 a.kind, .int .i64 a.n, .string a.s, .slice A1 a.list.length c1, .slice A2 a.names.length c2] 27)).alloc (.cells #[.int .i64 b.kind, .int .i64 b.n, .string b.s, .slice A3 b.list.length c3, .slice A4 b.names.length c4] 27)); simpa using h)
 have hz_ : w.heap.size + 3 ≤ W1.heap.size := by rw [hW]; simp
 have hE : Below w.heap.size w W1 := by rw [hW]; (repeat (first | with_reducible refine below_alloc ?_ _ | with_reducible refine below_drew ?_)); exact Below.refl _ _
 have hB := hB.th hE
 have b0 := Hd.mk (show Blk W1 (w.heap.size) #[.int .i64 a.kind, .int .i64 a.n, .string a.s, .slice A1 a.list.length c1, .slice A2 a.names.length c2] 27 by rw [hW]; first | exact (((Blk.new _ _ _).alloc _).alloc _) | (simpa using (((Blk.new _ _ _).alloc _).alloc _)))
 have b1 := Hd.mk (show Blk W1 (w.heap.size + 1) #[.int .i64 b.kind, .int .i64 b.n, .string b.s, .slice A3 b.list.length c3, .slice A4 b.names.length c4] 27 by rw [hW]; first | exact ((Blk.new1 _ _ _ _).alloc _) | (simpa using ((Blk.new1 _ _ _ _).alloc _)))
 clear hW hE
 have z1 := Hd.mk hz_; clear hz_
 refine (same_all (M + 1) a b _ _ _ (Ty.K_below _ hB.out HKa.out) (Ty.K_below _ hB.out HKb.out)).mono ?_
 rintro e w2 ⟨rfl, hX⟩
 have b0 := b0.dn hX
 have b1 := b1.dn hX
 have hR := Hd.mk (R_below hR.out hX)
 have hB := hB.th hX
 have hz_ := hX.size
 clear hX
 have z2 := Hd.mk hz_; clear hz_
 cases heq : eqv a b
 ·by_cases hka : a.kind = 5
  ·have hd1 : decide (a.kind = 5) = true := decide_eq_true hka
   have he1 : (a.kind == 5) = true := by simpa using hka
   have hn1 : (a.kind != 5) = false := by simpa using hka
   have HKA5 := Hd.mk hka; clear hka
   by_cases hkb : b.kind = 5
   ·have hd2 : decide (b.kind = 5) = true := decide_eq_true hkb
    have he2 : (b.kind == 5) = true := by simpa using hkb
    have hn2 : (b.kind != 5) = false := by simpa using hkb
    have HKB5 := Hd.mk hkb; clear hkb
    obtain ⟨v00, v01, v02, v03, v04, v0z⟩ := blk5 b0.out
    obtain ⟨v10, v11, v12, v13, v14, v1z⟩ := blk5 b1.out
    go_wp2_with fail
    clear v00 v01 v02 v03 v04 v0z v10 v11 v12 v13 v14 v1z
    go_loopw [5, 6] (fun o i wr => ∃ (k : Nat) (vv : Value), k ≤ a.names.length ∧ i = .int .i64 k ∧ vv = o ∧ Hd ((tOp (M + 1)).R 38 wr (fun k => w.heap.size + 2 ≤ k) vv (goneK a b k)) ∧ Hd (Blk wr w.heap.size #[.int .i64 a.kind, .int .i64 a.n, .string a.s, .slice A1 a.list.length c1, .slice A2 a.names.length c2] 27) ∧ Hd (Blk wr (w.heap.size + 1) #[.int .i64 b.kind, .int .i64 b.n, .string b.s, .slice A3 b.list.length c3, .slice A4 b.names.length c4] 27) ∧ Hd (Below w.heap.size w wr) ∧ Hd (w.heap.size + 2 ≤ wr.heap.size)) (fun _ i _ => a.names.length - (intOf i).toNat)
    case atStart => exact ⟨0, _, Nat.zero_le _, rfl, rfl, ⟨hR.out⟩, b0, b1, hB, ⟨by have z1_ := z1.out; have z2_ := z2.out; omega⟩⟩
    case round =>
     clear hR b0 b1 hB
     obtain ⟨k, vv, hk, rfl, rfl, hR, b0, b1, hB, hzw⟩ := hrel
     have hk0 : (0 : Int) ≤ (k : Int) := by omega
     by_cases hlt : k < a.names.length
     ·obtain ⟨ad, had, xn, hsn⟩ := C_str_at HA2.out hB.out k hlt
      obtain rfl := had
      have h3B := Hd.mk (Below.refl wr.heap.size wr)
      have XN := Hd.mk xn
      obtain ⟨v00, v01, v02, v03, v04, v0z⟩ := blk5 b0.out
      obtain ⟨v10, v11, v12, v13, v14, v1z⟩ := blk5 b1.out
      go_wp2_with fail
      clear v00 v01 v02 v03 v04 v0z v10 v11 v12 v13 v14 v1z
      obtain ⟨v00, v01, v02, v03, v04, v0z⟩ := blk5 b0.out
      obtain ⟨v10, v11, v12, v13, v14, v1z⟩ := blk5 b1.out
      obtain ⟨rv00, rv01, rv02, rv03, rv04, rv10, rv11⟩ := reg7 v00 v01 v02 v03 v04 v10 v11
      have rv12 := cell_regrown v12
      have rv13 := cell_regrown v13
      have rv14 := cell_regrown v14
      have rxn := cell_regrown xn
      refine region_mix [(true, 0), (true, 1), (true, 2), (true, 3), (true, 4), (true, 5), (false, 6), (true, 7)] (by kernel_rfl) (by kernel_rfl) (fun _ _ _ _ _ h => h) ?_
      (repeat (first | (refine mix_z rfl (by rfl) ?_; go_big_quiet_skip; refine wpQuiet_nil ?_) | (refine mix_q rfl ?_; first | (go_big_quiet_skip; refine wpQuiet_nil ?_) | (go_big_quiet_want; go_big_quiet_op; go_big_quiet_on; refine wpQuiet_nil ?_))))
      have hS := Hd.mk (Below.refl wr.heap.size wr)
      refine mix_b rfl ?_ (by rfl)
      go_wp2_with fail
      clear v00 v01 v02 v03 v04 v0z v10 v11 v12 v13 v14 v1z
      apply calls_gen; intro W3 hW
      have hz_ : wr.heap.size ≤ W3.heap.size := by rw [hW]; simp
      have hE : Below wr.heap.size wr W3 := by rw [hW]; (repeat (first | with_reducible refine below_alloc ?_ _ | with_reducible refine below_drew ?_)); exact Below.refl _ _
      have hB := hB.th hE
      have h3B := Hd.mk (below_then h3B.out hE)
      replace hS := Hd.mk (below_then hS.out hE)
      have b0 := b0.dn hE
      have b1 := b1.dn hE
      have hR := Hd.mk (R_below hR.out hE)
      clear hW hE
      have z3 := Hd.mk hz_; clear hz_
      clear xn
      refine (spec_l1At b _ a.names[k] _ (Ty.K_below _ hB.out HKb.out)).mono ?_
      rintro e w4 ⟨rfl, hX⟩
      have b0 := b0.dn hX
      have b1 := b1.dn hX
      have hR := Hd.mk (R_below hR.out hX)
      have hB := hB.th hX
      replace hS := Hd.mk (below_then hS.out hX)
      have hz_ := hX.size
      have h3B := Hd.mk (below_then h3B.out hX)
      clear hX
      have z4 := Hd.mk hz_; clear hz_
      by_cases hn : nameAt b.names a.names[k] < 0
      ·have hnd : decide (nameAt b.names a.names[k] < 0) = true := decide_eq_true hn
       go_wp2_with fail
       refine ⟨cls_below hS.out, ?_⟩
       (repeat (first | (refine mix_z rfl (by rfl) ?_; go_big_quiet_skip; refine wpQuiet_nil ?_) | (refine mix_q rfl ?_; first | (go_big_quiet_skip; refine wpQuiet_nil ?_) | (go_big_quiet_want; go_big_quiet_op; go_big_quiet_on; refine wpQuiet_nil ?_))))
       refine mix_nil ?_
       clear hS rv00 rv01 rv02 rv03 rv04 rv10 rv11 rv12 rv13 rv14 rxn
       have xn := cell_below h3B.out XN.out
       replace hR := Hd.mk (show (tOp (M + 1)).R 38 w4 (fun k => w.heap.size + 2 ≤ k ∧ k < w4.heap.size) vv _ from R_bound hR.out)
       have hzw_ := hzw.out; have z3_ := z3.out; have z4_ := z4.out
       obtain ⟨v00, v01, v02, v03, v04, v0z⟩ := blk5 b0.out
       obtain ⟨v10, v11, v12, v13, v14, v1z⟩ := blk5 b1.out
       go_wp2_with (at_builtin; refine append_oneN (tOp (M + 1)) (n := w4.heap.size + 1) (by simp) rfl _ _ 33 38 (.agg #[.int .i64 0, .slice none 0 0, .int .i64 0, .int .i64 0, .string ByteArray.empty, .slice none 0 0, .slice none 0 0]) 112 rfl Try.underlying33 info_OpS rfl (by rw [tOp_sz]; omega) (by decide) (S := fun k => w.heap.size + 2 ≤ k ∧ k < w4.heap.size) (T := fun k => k = w4.heap.size) (S' := (fun k => w.heap.size + 2 ≤ k)) (v := vv) (xs := goneK a b k) ⟨2, [a.names[k]], J.null⟩ [Value.int IntKind.i64 2, .slice (some ⟨w4.heap.size, 0, none⟩) 1 1, .int .i64 0, .int .i64 0, .string ⟨#[]⟩, .slice none 0 0, .slice none 0 0] rfl rfl (R_below hR.out (below_alloc (Below.refl _ _) _)) (tOp_O.2 ⟨_, _, fun k => k = w4.heap.size, fun _ => False, rfl, R_one' a.names[k] hsn rfl, ZJ M _ _, fun k h => h, fun k h => h.elim, fun _ _ h => h⟩) (fun k h1 hl h2 => by have h5 := h1; (try simp only [rng] at h5); have h6 := h2.1; have h7 := h2.2; (try simp only at h5 h6 h7); omega) (fun k h => h.1) (fun k h => by have h5 := h; (try simp only [rng] at h5); (try simp only at h5); omega) (fun k h => by (try simp only at h); omega) (by have := goneK_len a b k; omega) (fun v5 w5 hv5 hX0 => ?_))
       clear v00 v01 v02 v03 v04 v0z v10 v11 v12 v13 v14 v1z
       have hX := (Fr.of_below (below_alloc (Below.refl w4.heap.size w4) _) _).trans hX0
       clear hX0 hR xn
       clear h3B
       have hzw_ := hzw.out; have z3_ := z3.out; have z4_ := z4.out
       have hSz := hB.out.size
       have b0 := Hd.mk (b0.out.fr hX (fun h => by have hlt_ := b0.out.lt; skip; (try simp only [rng] at h); (try simp only at h); omega))
       have b1 := Hd.mk (b1.out.fr hX (fun h => by have hlt_ := b1.out.lt; skip; (try simp only [rng] at h); (try simp only at h); omega))
       have hB := Hd.mk (below_frS hB.out hX (fun k h => by skip; (try simp only [rng] at h); (try simp only at h); omega))
       have hz_ := hX.size
       clear hX
       have z5 := Hd.mk hz_; clear hz_
       go_wp2_with fail
       go_roundw
       case rel => exact ⟨k + 1, _, by omega, by go_num, rfl, ⟨by rw [goneK_out a b k hlt hn]; exact hv5⟩, b0, b1, hB, ⟨by have hzw_ := hzw.out; have z3_ := z3.out; have z4_ := z4.out; have z5_ := z5.out; show w.heap.size + 2 ≤ w5.heap.size; omega⟩⟩
       case measure => simp [intOf]; omega
      ·have hnd : decide (nameAt b.names a.names[k] < 0) = false := decide_eq_false hn
       go_wp2_with fail
       refine ⟨cls_below hS.out, ?_⟩
       (repeat (first | (refine mix_z rfl (by rfl) ?_; go_big_quiet_skip; refine wpQuiet_nil ?_) | (refine mix_q rfl ?_; first | (go_big_quiet_skip; refine wpQuiet_nil ?_) | (go_big_quiet_want; go_big_quiet_op; go_big_quiet_on; refine wpQuiet_nil ?_))))
       refine mix_nil ?_
       clear hS rv00 rv01 rv02 rv03 rv04 rv10 rv11 rv12 rv13 rv14 rxn
       go_wp2_with fail
       go_roundw
       case rel => exact ⟨k + 1, _, by omega, by go_num, rfl, ⟨by rw [goneK_in a b k hlt (by omega)]; exact hR.out⟩, b0, b1, hB, ⟨by have hzw_ := hzw.out; have z3_ := z3.out; have z4_ := z4.out; show w.heap.size + 2 ≤ w4.heap.size; omega⟩⟩
       case measure => simp [intOf]; omega
     ·obtain rfl : k = a.names.length := by omega
      have hR := Hd.mk (show (tOp (M + 1)).R 38 wr (fun k => w.heap.size + 2 ≤ k) vv (diffK d a b 0) by rw [diffK_zero, ← goneK_all]; exact hR.out)
      have hdl : decide ((a.names.length : Int) < (a.names.length : Int)) = false := decide_eq_false (by omega)
      obtain ⟨v00, v01, v02, v03, v04, v0z⟩ := blk5 b0.out
      obtain ⟨v10, v11, v12, v13, v14, v1z⟩ := blk5 b1.out
      go_wp2_with fail
      clear v00 v01 v02 v03 v04 v0z v10 v11 v12 v13 v14 v1z
      skip
      go_loopw [5, 7] (fun o i wr => ∃ (k : Nat) (vv : Value), k ≤ b.names.length ∧ i = .int .i64 k ∧ vv = o ∧ Hd ((tOp (M + 1)).R 38 wr (fun k => w.heap.size + 2 ≤ k) vv (diffK d a b k)) ∧ Hd (Blk wr w.heap.size #[.int .i64 a.kind, .int .i64 a.n, .string a.s, .slice A1 a.list.length c1, .slice A2 a.names.length c2] 27) ∧ Hd (Blk wr (w.heap.size + 1) #[.int .i64 b.kind, .int .i64 b.n, .string b.s, .slice A3 b.list.length c3, .slice A4 b.names.length c4] 27) ∧ Hd (Below w.heap.size w wr) ∧ Hd (w.heap.size + 2 ≤ wr.heap.size)) (fun _ i _ => b.names.length - (intOf i).toNat)
      case atStart => exact ⟨0, _, Nat.zero_le _, rfl, rfl, ⟨hR.out⟩, b0, b1, hB, hzw⟩
      case round =>
       clear hR b0 b1 hB hzw
       clear hk hk0 hlt hdl
       obtain ⟨k, vv, hk, rfl, rfl, hR, b0, b1, hB, hzw⟩ := hrel
       have hk0 : (0 : Int) ≤ (k : Int) := by omega
       by_cases hlt : k < b.names.length
       ·obtain ⟨hkl, e1_, e2_, h60⟩ := at_list HZB.out k hlt
        clear e1_ e2_
        obtain ⟨M', rfl⟩ := tJ_ne HB3.out (by omega)
        obtain ⟨ad, had, xn, hsn⟩ := C_str_at HB4.out hB.out k hlt
        obtain rfl := had
        have h3B := Hd.mk (Below.refl wr.heap.size wr)
        have XN := Hd.mk xn
        obtain ⟨v00, v01, v02, v03, v04, v0z⟩ := blk5 b0.out
        obtain ⟨v10, v11, v12, v13, v14, v1z⟩ := blk5 b1.out
        go_wp2_with fail
        clear v00 v01 v02 v03 v04 v0z v10 v11 v12 v13 v14 v1z
        obtain ⟨v00, v01, v02, v03, v04, v0z⟩ := blk5 b0.out
        obtain ⟨v10, v11, v12, v13, v14, v1z⟩ := blk5 b1.out
        obtain ⟨rv00, rv01, rv02, rv03, rv04, rv10, rv11⟩ := reg7 v00 v01 v02 v03 v04 v10 v11
        have rv12 := cell_regrown v12
        have rv13 := cell_regrown v13
        have rv14 := cell_regrown v14
        have rxn := cell_regrown xn
        refine region_mix [(true, 0), (true, 1), (true, 2), (true, 3), (true, 4), (true, 5), (false, 6), (true, 7)] (by kernel_rfl) (by kernel_rfl) (fun _ _ _ _ _ h => h) ?_
        (repeat (first | (refine mix_z rfl (by rfl) ?_; go_big_quiet_skip; refine wpQuiet_nil ?_) | (refine mix_q rfl ?_; first | (go_big_quiet_skip; refine wpQuiet_nil ?_) | (go_big_quiet_want; go_big_quiet_op; go_big_quiet_on; refine wpQuiet_nil ?_))))
        have hS := Hd.mk (Below.refl wr.heap.size wr)
        refine mix_b rfl ?_ (by rfl)
        go_wp2_with fail
        clear v00 v01 v02 v03 v04 v0z v10 v11 v12 v13 v14 v1z
        apply calls_gen; intro W3 hW
        have hz_ : wr.heap.size ≤ W3.heap.size := by rw [hW]; simp
        have hE : Below wr.heap.size wr W3 := by rw [hW]; (repeat (first | with_reducible refine below_alloc ?_ _ | with_reducible refine below_drew ?_)); exact Below.refl _ _
        have hB := hB.th hE
        have h3B := Hd.mk (below_then h3B.out hE)
        replace hS := Hd.mk (below_then hS.out hE)
        have b0 := b0.dn hE
        have b1 := b1.dn hE
        have hR := Hd.mk (R_below hR.out hE)
        clear hW hE
        have z3 := Hd.mk hz_; clear hz_
        clear xn
        refine (spec_l1At a _ b.names[k] _ (Ty.K_below _ hB.out HKa.out)).mono ?_
        rintro e w4 ⟨rfl, hX⟩
        have b0 := b0.dn hX
        have b1 := b1.dn hX
        have hR := Hd.mk (R_below hR.out hX)
        have hB := hB.th hX
        replace hS := Hd.mk (below_then hS.out hX)
        have hz_ := hX.size
        have h3B := Hd.mk (below_then h3B.out hX)
        clear hX
        have z4 := Hd.mk hz_; clear hz_
        obtain ⟨at_, hat⟩ : ∃ z, z = nameAt a.names b.names[k] := ⟨_, rfl⟩
        rw [← hat]
        have HAT := Hd.mk hat; clear hat
        go_wp2_with fail
        refine ⟨cls_below hS.out, ?_⟩
        (repeat (first | (refine mix_z rfl (by rfl) ?_; go_big_quiet_skip; refine wpQuiet_nil ?_) | (refine mix_q rfl ?_; first | (go_big_quiet_skip; refine wpQuiet_nil ?_) | (go_big_quiet_want; go_big_quiet_op; go_big_quiet_on; refine wpQuiet_nil ?_))))
        refine mix_nil ?_
        clear hS rv00 rv01 rv02 rv03 rv04 rv10 rv11 rv12 rv13 rv14 rxn
        have xn := cell_below h3B.out XN.out; clear XN
        by_cases hn : at_ < 0
        ·have hnd : decide (at_ < 0) = true := decide_eq_true hn
         have HN := Hd.mk (show nameAt a.names b.names[k] < 0 by rw [← HAT.out]; exact hn)
         have HBK := Hd.mk (show bulkJ (M' + 1 + 1) b.list[k] ≤ 4194304 by have h2 := size_part HZB.out (List.getElem_mem hkl); have h1 := bulk_size (M' + 1 + 1) d b.list[k] h2; omega)
         obtain ⟨ade, cse, hade, hKe, e0, e1⟩ := C_at HB3.out hB.out k hkl
         obtain rfl := hade
         have HKe := Hd.mk ((tJ_le (Nat.le_succ (M' + 1))).K _ _ _ hKe)
         obtain ⟨Ae, ce, Be, fe, rfl, hse, ⟨hc1e, _⟩, hc2e, _⟩ := tJ_K.1 hKe
         clear hKe
         have xe0 : w4.cell? (ade.add (k * 5)) = some (.int .i64 b.list[k].kind) := e0 _ rfl
         have xe1 : w4.cell? ⟨(ade.add (k * 5)).block, (ade.add (k * 5)).off + 1, none⟩ = some (.int .i64 b.list[k].n) := e1 0 _ rfl
         have xe2 : w4.cell? ⟨(ade.add (k * 5)).block, (ade.add (k * 5)).off + 2, none⟩ = some (.string b.list[k].s) := e1 1 _ rfl
         have xe3 : w4.cell? ⟨(ade.add (k * 5)).block, (ade.add (k * 5)).off + 3, none⟩ = some (.slice Ae b.list[k].list.length ce) := e1 2 _ rfl
         have xe4 : w4.cell? ⟨(ade.add (k * 5)).block, (ade.add (k * 5)).off + 4, none⟩ = some (.slice Be b.list[k].names.length fe) := e1 3 _ rfl
         clear e0 e1
         replace hR := Hd.mk (show (tOp (M' + 1 + 1)).R 38 w4 (fun k => w.heap.size + 2 ≤ k ∧ k < w4.heap.size) vv _ from R_bound hR.out)
         have hBr := Hd.mk (Below.refl w4.heap.size w4)
         clear h3B
         obtain ⟨v00, v01, v02, v03, v04, v0z⟩ := blk5 b0.out
         obtain ⟨v10, v11, v12, v13, v14, v1z⟩ := blk5 b1.out
         go_wp2_with fail
         clear v00 v01 v02 v03 v04 v0z v10 v11 v12 v13 v14 v1z
         obtain ⟨yxn, yxe0, yxe1, yxe2, yxe3⟩ := reg5 xn xe0 xe1 xe2 xe3
         have yxe4 := cell_regrown xe4
         obtain ⟨v00, v01, v02, v03, v04, v0z⟩ := blk5 b0.out
         obtain ⟨v10, v11, v12, v13, v14, v1z⟩ := blk5 b1.out
         obtain ⟨rv00, rv01, rv02, rv03, rv04⟩ := reg5 v00 v01 v02 v03 v04
         obtain ⟨rv10, rv11, rv12, rv13, rv14⟩ := reg5 v10 v11 v12 v13 v14
         refine region_mixT (.p 0 (.p 1 (.q 2 (.p 3 (.q 4 (.q 5 (.p 7 (.q 8 (.p 9 (.q 10 (.q 11 (.br 6 12 (.b 12 (.q 13 (.b 14 .fin))) (.b 6 (.q 13 (.b 14 .fin))))))))))))))) [15, 16] (by kernel_rfl) (by kernel_rfl) (fun _ _ _ _ _ h => h) ?_
         refine genT ?_
         intro W5 hW
         have hS := Hd.mk (show Below w4.heap.size w4 W5 by rw [hW]; exact below_drew (Below.refl _ _))
         have hz_ : w4.heap.size ≤ W5.heap.size := by rw [hW]; simp
         have hE : Below w4.heap.size w4 W5 := by rw [hW]; (repeat (first | with_reducible refine below_alloc ?_ _ | with_reducible refine below_drew ?_)); exact Below.refl _ _
         have hB := hB.th hE
         have hBr := Hd.mk (below_then hBr.out hE)
         have b0 := b0.dn hE
         have b1 := b1.dn hE
         clear hW hE
         have z5 := Hd.mk hz_; clear hz_
         iterate 11 ((first | refine mixT_q rfl ?_ | refine mixT_p rfl ?_); go_big_quiet_want; go_big_quiet_op; go_big_quiet_on; refine wpQuiet_nil ?_)
         refine ⟨?_, ?_⟩
         ·refine stepM_of rfl ?_ (by rfl)
          go_wp2_with fail
          refine ⟨cls_below (below_alloc hS.out _), ?_⟩
          refine genT ?_; intro W6 hW
          have hE0 := Hd.mk (show str.R 9 W6 (fun k => k = W5.heap.size) (.slice (some ⟨W5.heap.size, 0, none⟩) 1 1) [b.names[k]] by rw [hW]; exact R_one' b.names[k] hsn rfl)
          have hz_ : W5.heap.size + 1 ≤ W6.heap.size := by rw [hW]; simp
          have hE : Below W5.heap.size W5 W6 := by rw [hW]; (repeat (first | with_reducible refine below_alloc ?_ _ | with_reducible refine below_drew ?_)); exact Below.refl _ _
          have hB := hB.th hE
          have hBr := Hd.mk (below_then hBr.out hE)
          replace hS := Hd.mk (below_then hS.out hE)
          have b0 := b0.dn hE
          have b1 := b1.dn hE
          clear hW hE
          have z6 := Hd.mk hz_; clear hz_
          refine mixT_b rfl ?_ (by rfl)
          go_wp2_with fail
          apply calls_gen; intro W7 hW
          have hz_ : W6.heap.size ≤ W7.heap.size := by rw [hW]; simp
          have hE : Below W6.heap.size W6 W7 := by rw [hW]; (repeat (first | with_reducible refine below_alloc ?_ _ | with_reducible refine below_drew ?_)); exact Below.refl _ _
          have hB := hB.th hE
          have hBr := Hd.mk (below_then hBr.out hE)
          replace hS := Hd.mk (below_then hS.out hE)
          have b0 := b0.dn hE
          have b1 := b1.dn hE
          have hE0 := Hd.mk (R_below hE0.out hE)
          clear hW hE
          have z7 := Hd.mk hz_; clear hz_
          refine (spec_l1Copy b.list[k] _ _ (Ty.K_below _ hBr.out HKe.out) HBK.out).mono ?_
          rintro e w8 ⟨cs', rfl, hO2, hX⟩
          have b0 := b0.dn hX
          have b1 := b1.dn hX
          have hE0 := Hd.mk (R_below hE0.out hX)
          have hB := hB.th hX
          replace hS := Hd.mk (below_then hS.out hX)
          have hz_ := hX.size
          have hBr := Hd.mk (below_then hBr.out hX)
          clear hX
          have z8 := Hd.mk hz_; clear hz_
          obtain ⟨v3, v4, _, _, rfl, hsz3, hr3, hr4, _⟩ := tJ_O.1 hO2
          obtain ⟨D2, d2, rfl, _, _⟩ := R_C hr3
          obtain ⟨D3, d3, rfl, _, _⟩ := R_C hr4
          clear hr3 hr4
          replace hO2 := Hd.mk (show (tJ (M' + 1 + 1)).O w8 (rng W7.heap.size w8.heap.size) b.list[k] _ from Ty.O_bound _ hO2)
          go_wp2_with fail
          refine ⟨cls_below hS.out, ?_⟩
          refine mixT_q rfl ?_
          go_big_quiet_want; go_big_quiet_op; go_big_quiet_on; refine wpQuiet_nil ?_
          refine mixT_b rfl ?_ (by rfl)
          go_wp2_with fail
          refine ⟨cls_below (below_alloc hS.out _), ?_⟩
          refine mixT_fin ?_
          clear hS
          clear rv00 rv01 rv02 rv03 rv04 rv10 rv11 rv12 rv13 rv14
          clear v00 v01 v02 v03 v04 v0z v10 v11 v12 v13 v14 v1z
          obtain ⟨v00, v01, v02, v03, v04, v0z⟩ := blk5 b0.out
          obtain ⟨v10, v11, v12, v13, v14, v1z⟩ := blk5 b1.out
          refine tail_b rfl ?_ (by rfl)
          have hzw_ := hzw.out; have z3_ := z3.out; have z4_ := z4.out; have z5_ := z5.out; have z6_ := z6.out; have z7_ := z7.out; have z8_ := z8.out
          have hSz := hB.out.size
          have hBz := hBr.out.size
          go_wp2_with (at_builtin; refine append_oneN (tOp (M' + 1 + 1)) (n := w8.heap.size) (by simp) rfl _ _ 33 38 (.agg #[.int .i64 0, .slice none 0 0, .int .i64 0, .int .i64 0, .string ByteArray.empty, .slice none 0 0, .slice none 0 0]) 112 rfl Try.underlying33 info_OpS rfl (by rw [tOp_sz]; omega) (by decide) (S := fun k => w.heap.size + 2 ≤ k ∧ k < w4.heap.size) (T := fun k => w4.heap.size ≤ k ∧ k < w8.heap.size) (S' := (fun k => w.heap.size + 2 ≤ k)) (v := vv) (xs := diffK d a b k) ⟨1, [b.names[k]], b.list[k]⟩ [Value.int IntKind.i64 1, .slice (some ⟨W5.heap.size, 0, none⟩) 1 1, .int .i64 b.list[k].kind, .int .i64 b.list[k].n, .string b.list[k].s, .slice D2 b.list[k].list.length d2, .slice D3 b.list[k].names.length d3] rfl rfl (R_below hR.out hBr.out) (tOp_O.2 ⟨_, _, _, _, rfl, hE0.out, hO2.out, fun k h => by have h5 : k = _ := h; (try simp only); omega, fun k h => by have h5 := h.1; have h6 := h.2; (try simp only); omega, fun k h h2 => by have h5 : k = _ := h; have h6 := h2.1; have h7 := h2.2; omega⟩) (fun k h1 hl h2 => by have h5 := h1; (try simp only [rng] at h5); have h6 := h2.1; have h7 := h2.2; (try simp only at h5 h6 h7); omega) (fun k h => h.1) (fun k h => by have h5 := h; (try simp only [rng] at h5); (try simp only at h5); omega) (fun k h => by (try simp only at h); omega) (by have := diffK_len HZA.out HZB.out k hk; omega) (fun v5 w9 hv5 hX0 => ?_))
          clear v00 v01 v02 v03 v04 v0z v10 v11 v12 v13 v14 v1z
          have hX := hX0; clear hX0 hR hE0 hO2 hBr
          have hzw_ := hzw.out; have z3_ := z3.out; have z4_ := z4.out; have z5_ := z5.out; have z6_ := z6.out; have z7_ := z7.out; have z8_ := z8.out
          have hSz := hB.out.size
          have b0 := Hd.mk (b0.out.fr hX (fun h => by have hlt_ := b0.out.lt; skip; (try simp only [rng] at h); (try simp only at h); omega))
          have b1 := Hd.mk (b1.out.fr hX (fun h => by have hlt_ := b1.out.lt; skip; (try simp only [rng] at h); (try simp only at h); omega))
          have hB := Hd.mk (below_frS hB.out hX (fun k h => by skip; (try simp only [rng] at h); (try simp only at h); omega))
          have hz_ := hX.size
          clear hX
          have z9 := Hd.mk hz_; clear hz_
          refine mixQ_n ?_
          refine tail_b rfl ?_ (by rfl)
          go_wp2_with fail
          refine mixQ_n ?_
          refine tail_nil ?_
          go_wp2_with fail
          go_roundw
          case rel => exact ⟨k + 1, _, by omega, by go_num, rfl, ⟨by rw [diffK_step, diffAt_new HZB.out k hlt hkl HN.out]; exact hv5⟩, b0, b1, hB, ⟨by have hzw_ := hzw.out; have z3_ := z3.out; have z4_ := z4.out; have z5_ := z5.out; have z6_ := z6.out; have z7_ := z7.out; have z8_ := z8.out; have z9_ := z9.out; show w.heap.size + 2 ≤ w9.heap.size; omega⟩⟩
          case measure => simp [intOf]; omega
         ·refine stepM_of rfl ?_ (by rfl)
          go_wp2_with fail
          apply calls_gen; intro W6 hW
          have hz_ : W5.heap.size ≤ W6.heap.size := by rw [hW]; simp
          have hE : Below W5.heap.size W5 W6 := by rw [hW]; (repeat (first | with_reducible refine below_alloc ?_ _ | with_reducible refine below_drew ?_)); exact Below.refl _ _
          have hB := hB.th hE
          have hBr := Hd.mk (below_then hBr.out hE)
          replace hS := Hd.mk (below_then hS.out hE)
          have b0 := b0.dn hE
          have b1 := b1.dn hE
          clear hW hE
          have z6 := Hd.mk hz_; clear hz_
          refine (spec_l1Copy b.list[k] _ _ (Ty.K_below _ hBr.out HKe.out) HBK.out).mono ?_
          rintro e w7 ⟨cs', rfl, hO2, hX⟩
          have b0 := b0.dn hX
          have b1 := b1.dn hX
          have hB := hB.th hX
          replace hS := Hd.mk (below_then hS.out hX)
          have hz_ := hX.size
          have hBr := Hd.mk (below_then hBr.out hX)
          clear hX
          have z7 := Hd.mk hz_; clear hz_
          obtain ⟨v3, v4, _, _, rfl, hsz3, hr3, hr4, _⟩ := tJ_O.1 hO2
          obtain ⟨D2, d2, rfl, _, _⟩ := R_C hr3
          obtain ⟨D3, d3, rfl, _, _⟩ := R_C hr4
          clear hr3 hr4
          replace hO2 := Hd.mk (show (tJ (M' + 1 + 1)).O w7 (rng W6.heap.size w7.heap.size) b.list[k] _ from Ty.O_bound _ hO2)
          go_wp2_with fail
          refine ⟨cls_below hS.out, ?_⟩
          refine mixT_b rfl ?_ (by rfl)
          go_wp2_with fail
          refine ⟨cls_below (below_alloc hS.out _), ?_⟩
          refine genT ?_; intro W8 hW
          have hE0 := Hd.mk (show str.R 9 W8 (fun k => k = w7.heap.size) (.slice (some ⟨w7.heap.size, 0, none⟩) 1 1) [b.names[k]] by rw [hW]; exact R_one' b.names[k] hsn rfl)
          have hz_ : w7.heap.size + 1 ≤ W8.heap.size := by rw [hW]; simp
          have hE : Below w7.heap.size w7 W8 := by rw [hW]; (repeat (first | with_reducible refine below_alloc ?_ _ | with_reducible refine below_drew ?_)); exact Below.refl _ _
          have hB := hB.th hE
          have hBr := Hd.mk (below_then hBr.out hE)
          replace hS := Hd.mk (below_then hS.out hE)
          have b0 := b0.dn hE
          have b1 := b1.dn hE
          have hO2 := hO2.ob hE
          clear hW hE
          have z8 := Hd.mk hz_; clear hz_
          refine mixT_q rfl ?_
          go_big_quiet_want; go_big_quiet_op; go_big_quiet_on; refine wpQuiet_nil ?_
          refine mixT_b rfl ?_ (by rfl)
          go_wp2_with fail
          refine ⟨cls_below (below_alloc hS.out _), ?_⟩
          refine mixT_fin ?_
          clear hS
          clear rv00 rv01 rv02 rv03 rv04 rv10 rv11 rv12 rv13 rv14
          clear v00 v01 v02 v03 v04 v0z v10 v11 v12 v13 v14 v1z
          obtain ⟨v00, v01, v02, v03, v04, v0z⟩ := blk5 b0.out
          obtain ⟨v10, v11, v12, v13, v14, v1z⟩ := blk5 b1.out
          refine tail_b rfl ?_ (by rfl)
          have hzw_ := hzw.out; have z3_ := z3.out; have z4_ := z4.out; have z5_ := z5.out; have z6_ := z6.out; have z7_ := z7.out; have z8_ := z8.out
          have hSz := hB.out.size
          have hBz := hBr.out.size
          go_wp2_with (at_builtin; refine append_oneN (tOp (M' + 1 + 1)) (n := W8.heap.size) (by simp) rfl _ _ 33 38 (.agg #[.int .i64 0, .slice none 0 0, .int .i64 0, .int .i64 0, .string ByteArray.empty, .slice none 0 0, .slice none 0 0]) 112 rfl Try.underlying33 info_OpS rfl (by rw [tOp_sz]; omega) (by decide) (S := fun k => w.heap.size + 2 ≤ k ∧ k < w4.heap.size) (T := fun k => w4.heap.size ≤ k ∧ k < W8.heap.size) (S' := (fun k => w.heap.size + 2 ≤ k)) (v := vv) (xs := diffK d a b k) ⟨1, [b.names[k]], b.list[k]⟩ [Value.int IntKind.i64 1, .slice (some ⟨w7.heap.size, 0, none⟩) 1 1, .int .i64 b.list[k].kind, .int .i64 b.list[k].n, .string b.list[k].s, .slice D2 b.list[k].list.length d2, .slice D3 b.list[k].names.length d3] rfl rfl (R_below hR.out hBr.out) (tOp_O.2 ⟨_, _, _, _, rfl, hE0.out, hO2.out, fun k h => by have h5 : k = _ := h; (try simp only); omega, fun k h => by have h5 := h.1; have h6 := h.2; (try simp only); omega, fun k h h2 => by have h5 : k = _ := h; have h6 := h2.1; have h7 := h2.2; omega⟩) (fun k h1 hl h2 => by have h5 := h1; (try simp only [rng] at h5); have h6 := h2.1; have h7 := h2.2; (try simp only at h5 h6 h7); omega) (fun k h => h.1) (fun k h => by have h5 := h; (try simp only [rng] at h5); (try simp only at h5); omega) (fun k h => by (try simp only at h); omega) (by have := diffK_len HZA.out HZB.out k hk; omega) (fun v5 w9 hv5 hX0 => ?_))
          clear v00 v01 v02 v03 v04 v0z v10 v11 v12 v13 v14 v1z
          have hX := hX0; clear hX0 hR hE0 hO2 hBr
          have hzw_ := hzw.out; have z3_ := z3.out; have z4_ := z4.out; have z5_ := z5.out; have z6_ := z6.out; have z7_ := z7.out; have z8_ := z8.out
          have hSz := hB.out.size
          have b0 := Hd.mk (b0.out.fr hX (fun h => by have hlt_ := b0.out.lt; skip; (try simp only [rng] at h); (try simp only at h); omega))
          have b1 := Hd.mk (b1.out.fr hX (fun h => by have hlt_ := b1.out.lt; skip; (try simp only [rng] at h); (try simp only at h); omega))
          have hB := Hd.mk (below_frS hB.out hX (fun k h => by skip; (try simp only [rng] at h); (try simp only at h); omega))
          have hz_ := hX.size
          clear hX
          have z9 := Hd.mk hz_; clear hz_
          refine mixQ_n ?_
          refine tail_b rfl ?_ (by rfl)
          go_wp2_with fail
          refine mixQ_n ?_
          refine tail_nil ?_
          go_wp2_with fail
          go_roundw
          case rel => exact ⟨k + 1, _, by omega, by go_num, rfl, ⟨by rw [diffK_step, diffAt_new HZB.out k hlt hkl HN.out]; exact hv5⟩, b0, b1, hB, ⟨by have hzw_ := hzw.out; have z3_ := z3.out; have z4_ := z4.out; have z5_ := z5.out; have z6_ := z6.out; have z7_ := z7.out; have z8_ := z8.out; have z9_ := z9.out; show w.heap.size + 2 ≤ w9.heap.size; omega⟩⟩
          case measure => simp [intOf]; omega
        ·obtain ⟨q, rfl⟩ := Int.eq_ofNat_of_zero_le (Int.not_lt.1 hn)
         have hnd : decide ((q : Int) < 0) = false := decide_eq_false hn
         have hq : q < a.list.length := by
          have h1 := nameAt_pos a.names b.names[k]
          have h2 := (own_facts (size_own HZA.out).1).2.1
          have h3 := HAT.out
          omega
         have HSA := Hd.mk (size_part HZA.out (List.getElem_mem hq))
         have HSB := Hd.mk (size_part HZB.out (List.getElem_mem hkl))
         have HDO := Hd.mk (diff_ops d a.list[q] b.list[k] HSA.out HSB.out)
         have HLN := Hd.mk (show (diffL d a.list[q] b.list[k]).length ≤ 200000 by have h1 := HDO.out.1; have h2 := HSB.out; omega)
         have HBU := Hd.mk (show ∀ x ∈ diffL d a.list[q] b.list[k], bulkOp (M' + 1 + 1) x ≤ 4194304 from fun x hx => by have h1 := (HDO.out.2 x hx (M' + 1 + 1)).1; have h2 := HD6.out; omega)
         clear HDO
         obtain ⟨add, csd, hadd, hKd, e0, e1⟩ := C_at HA1.out hB.out q hq
         obtain rfl := hadd
         have HKd := Hd.mk ((tJ_le (Nat.le_succ (M' + 1))).K _ _ _ hKd)
         obtain ⟨Ad, cd, Bd, fd, rfl, hsd, ⟨hc1d, _⟩, hc2d, _⟩ := tJ_K.1 hKd
         clear hKd
         have xd0 : w4.cell? (add.add (q * 5)) = some (.int .i64 a.list[q].kind) := e0 _ rfl
         have xd1 : w4.cell? ⟨(add.add (q * 5)).block, (add.add (q * 5)).off + 1, none⟩ = some (.int .i64 a.list[q].n) := e1 0 _ rfl
         have xd2 : w4.cell? ⟨(add.add (q * 5)).block, (add.add (q * 5)).off + 2, none⟩ = some (.string a.list[q].s) := e1 1 _ rfl
         have xd3 : w4.cell? ⟨(add.add (q * 5)).block, (add.add (q * 5)).off + 3, none⟩ = some (.slice Ad a.list[q].list.length cd) := e1 2 _ rfl
         have xd4 : w4.cell? ⟨(add.add (q * 5)).block, (add.add (q * 5)).off + 4, none⟩ = some (.slice Bd a.list[q].names.length fd) := e1 3 _ rfl
         clear e0 e1
         obtain ⟨ade, cse, hade, hKe, e0, e1⟩ := C_at HB3.out hB.out k hkl
         obtain rfl := hade
         have HKe := Hd.mk ((tJ_le (Nat.le_succ (M' + 1))).K _ _ _ hKe)
         obtain ⟨Ae, ce, Be, fe, rfl, hse, ⟨hc1e, _⟩, hc2e, _⟩ := tJ_K.1 hKe
         clear hKe
         have xe0 : w4.cell? (ade.add (k * 5)) = some (.int .i64 b.list[k].kind) := e0 _ rfl
         have xe1 : w4.cell? ⟨(ade.add (k * 5)).block, (ade.add (k * 5)).off + 1, none⟩ = some (.int .i64 b.list[k].n) := e1 0 _ rfl
         have xe2 : w4.cell? ⟨(ade.add (k * 5)).block, (ade.add (k * 5)).off + 2, none⟩ = some (.string b.list[k].s) := e1 1 _ rfl
         have xe3 : w4.cell? ⟨(ade.add (k * 5)).block, (ade.add (k * 5)).off + 3, none⟩ = some (.slice Ae b.list[k].list.length ce) := e1 2 _ rfl
         have xe4 : w4.cell? ⟨(ade.add (k * 5)).block, (ade.add (k * 5)).off + 4, none⟩ = some (.slice Be b.list[k].names.length fe) := e1 3 _ rfl
         clear e0 e1
         replace hR := Hd.mk (show (tOp (M' + 1 + 1)).R 38 w4 (fun k => w.heap.size + 2 ≤ k ∧ k < w4.heap.size) vv _ from R_bound hR.out)
         have hBr := Hd.mk (Below.refl w4.heap.size w4)
         clear h3B
         obtain ⟨v00, v01, v02, v03, v04, v0z⟩ := blk5 b0.out
         obtain ⟨v10, v11, v12, v13, v14, v1z⟩ := blk5 b1.out
         go_wp2_with fail
         clear v00 v01 v02 v03 v04 v0z v10 v11 v12 v13 v14 v1z
         obtain ⟨yxn, yxd0, yxd1, yxd2, yxd3, yxd4, yxe0⟩ := reg7 xn xd0 xd1 xd2 xd3 xd4 xe0
         have yxe1 := cell_regrown xe1
         have yxe2 := cell_regrown xe2
         have yxe3 := cell_regrown xe3
         have yxe4 := cell_regrown xe4
         obtain ⟨v00, v01, v02, v03, v04, v0z⟩ := blk5 b0.out
         obtain ⟨v10, v11, v12, v13, v14, v1z⟩ := blk5 b1.out
         obtain ⟨rv00, rv01, rv02, rv03, rv04⟩ := reg5 v00 v01 v02 v03 v04
         obtain ⟨rv10, rv11, rv12, rv13, rv14⟩ := reg5 v10 v11 v12 v13 v14
         refine region_mixT (.p 0 (.p 1 (.q 2 (.p 3 (.q 4 (.q 5 (.p 6 (.q 7 (.p 8 (.q 9 (.q 10 (.p 11 (.q 12 (.p 13 (.q 14 (.q 15 (.b 16 (.b 17 .fin)))))))))))))))))) [18, 19] (by kernel_rfl) (by kernel_rfl) (fun _ _ _ _ _ h => h) ?_
         refine genT ?_
         intro W5 hW
         have hS := Hd.mk (show Below w4.heap.size w4 W5 by rw [hW]; exact below_drew (Below.refl _ _))
         have hz_ : w4.heap.size ≤ W5.heap.size := by rw [hW]; simp
         have hE : Below w4.heap.size w4 W5 := by rw [hW]; (repeat (first | with_reducible refine below_alloc ?_ _ | with_reducible refine below_drew ?_)); exact Below.refl _ _
         have hB := hB.th hE
         have hBr := Hd.mk (below_then hBr.out hE)
         have b0 := b0.dn hE
         have b1 := b1.dn hE
         clear hW hE
         have z5 := Hd.mk hz_; clear hz_
         iterate 16 ((first | refine mixT_q rfl ?_ | refine mixT_p rfl ?_); go_big_quiet_want; go_big_quiet_op; go_big_quiet_on; refine wpQuiet_nil ?_)
         refine mixT_b rfl ?_ (by rfl)
         go_wp2_with fail
         apply calls_gen; intro W6 hW
         have hz_ : W5.heap.size ≤ W6.heap.size := by rw [hW]; simp
         have hE : Below W5.heap.size W5 W6 := by rw [hW]; (repeat (first | with_reducible refine below_alloc ?_ _ | with_reducible refine below_drew ?_)); exact Below.refl _ _
         have hB := hB.th hE
         have hBr := Hd.mk (below_then hBr.out hE)
         replace hS := Hd.mk (below_then hS.out hE)
         have b0 := b0.dn hE
         have b1 := b1.dn hE
         clear hW hE
         have z6 := Hd.mk hz_; clear hz_
         refine (IH.out a.list[q] b.list[k] _ _ _ (Ty.K_below _ hBr.out HKd.out) (Ty.K_below _ hBr.out HKe.out) HSA.out HSB.out).mono ?_
         rintro e w7 ⟨v3, rfl, hD, hX⟩
         have b0 := b0.dn hX
         have b1 := b1.dn hX
         have hB := hB.th hX
         replace hS := Hd.mk (below_then hS.out hX)
         have hz_ := hX.size
         have hBr := Hd.mk (below_then hBr.out hX)
         clear hX
         have z7 := Hd.mk hz_; clear hz_
         obtain ⟨A5, c5, hv3, hc5, _⟩ := R_C hD
         subst hv3
         replace hD := Hd.mk hD
         go_wp2_with fail
         refine ⟨cls_below hS.out, ?_⟩
         refine mixT_b rfl ?_ (by rfl)
         go_wp2_with fail
         apply calls_gen; intro W8 hW
         have hz_ : w7.heap.size ≤ W8.heap.size := by rw [hW]; simp
         have hE : Below w7.heap.size w7 W8 := by rw [hW]; (repeat (first | with_reducible refine below_alloc ?_ _ | with_reducible refine below_drew ?_)); exact Below.refl _ _
         have hB := hB.th hE
         have hBr := Hd.mk (below_then hBr.out hE)
         replace hS := Hd.mk (below_then hS.out hE)
         have b0 := b0.dn hE
         have b1 := b1.dn hE
         have hD := Hd.mk (R_below hD.out hE)
         clear hW hE
         have z8 := Hd.mk hz_; clear hz_
         refine (spec_UnderE b.names[k] hsn _ _ (diffL d a.list[q] b.list[k]) _ (R_Cv hD.out) (Nat.le_trans HLN.out (by decide)) HBU.out).mono ?_
         rintro e w9 ⟨v4, rfl, hU, hX⟩
         have b0 := b0.dn hX
         have b1 := b1.dn hX
         have hD := Hd.mk (R_below hD.out hX)
         have hB := hB.th hX
         replace hS := Hd.mk (below_then hS.out hX)
         have hz_ := hX.size
         have hBr := Hd.mk (below_then hBr.out hX)
         clear hX
         have z9 := Hd.mk hz_; clear hz_
         obtain ⟨A6, c6, hv4, hc6, _⟩ := R_C hU
         subst hv4
         replace hU := Hd.mk hU
         clear hD
         go_wp2_with fail
         refine ⟨cls_below hS.out, ?_⟩
         refine mixT_fin ?_
         clear hS
         clear rv00 rv01 rv02 rv03 rv04 rv10 rv11 rv12 rv13 rv14
         clear v00 v01 v02 v03 v04 v0z v10 v11 v12 v13 v14 v1z
         obtain ⟨v00, v01, v02, v03, v04, v0z⟩ := blk5 b0.out
         obtain ⟨v10, v11, v12, v13, v14, v1z⟩ := blk5 b1.out
         refine tail_b rfl ?_ (by rfl)
         have hzw_ := hzw.out; have z3_ := z3.out; have z4_ := z4.out; have z5_ := z5.out; have z6_ := z6.out; have z7_ := z7.out; have z8_ := z8.out; have z9_ := z9.out
         have hSz := hB.out.size
         have hBz := hBr.out.size
         go_wp2_with (at_builtin; refine append_move (tOp (M' + 1 + 1)) rfl _ _ 33 38 (.agg #[.int .i64 0, .slice none 0 0, .int .i64 0, .int .i64 0, .string ByteArray.empty, .slice none 0 0, .slice none 0 0]) 112 rfl Try.underlying33 info_OpS rfl (by rw [tOp_sz]; omega) (by decide) (S := fun k => w.heap.size + 2 ≤ k ∧ k < w4.heap.size) (S2 := fun k => W8.heap.size ≤ k) (S' := (fun k => w.heap.size + 2 ≤ k)) (v := vv) (xs := diffK d a b k) (ys := underL b.names[k] (diffL d a.list[q] b.list[k])) A6 _ c6 rfl rfl (R_below hR.out hBr.out) hU.out (fun k h1 hl h2 => by have h5 := h2.2; (try simp only at h1); omega) (fun k h => h.1) (fun k h => by (try simp only at h); (try simp only); omega) (fun k h => by (try simp only); omega) (by have h1 := diffK_len HZA.out HZB.out k hk; have h2 := HLN.out; rw [under_len]; omega) (fun v5 w10 hv5 hX0 => ?_))
         clear v00 v01 v02 v03 v04 v0z v10 v11 v12 v13 v14 v1z
         have hX := hX0; clear hX0 hR hU hBr
         have hzw_ := hzw.out; have z3_ := z3.out; have z4_ := z4.out; have z5_ := z5.out; have z6_ := z6.out; have z7_ := z7.out; have z8_ := z8.out; have z9_ := z9.out
         have hSz := hB.out.size
         have b0 := Hd.mk (b0.out.fr hX (fun h => by have hlt_ := b0.out.lt; skip; (try simp only [rng] at h); (try simp only at h); omega))
         have b1 := Hd.mk (b1.out.fr hX (fun h => by have hlt_ := b1.out.lt; skip; (try simp only [rng] at h); (try simp only at h); omega))
         have hB := Hd.mk (below_frS hB.out hX (fun k h => by skip; (try simp only [rng] at h); (try simp only at h); omega))
         have hz_ := hX.size
         clear hX
         have z10 := Hd.mk hz_; clear hz_
         refine mixQ_n ?_
         refine tail_b rfl ?_ (by rfl)
         go_wp2_with fail
         refine mixQ_n ?_
         refine tail_nil ?_
         go_wp2_with fail
         go_roundw
         case rel => exact ⟨k + 1, _, by omega, by go_num, rfl, ⟨by rw [diffK_step, diffAt_old HZB.out k hlt hkl q hq HAT.out.symm]; exact hv5⟩, b0, b1, hB, ⟨by have hzw_ := hzw.out; have z3_ := z3.out; have z4_ := z4.out; have z5_ := z5.out; have z6_ := z6.out; have z7_ := z7.out; have z8_ := z8.out; have z9_ := z9.out; have z10_ := z10.out; show w.heap.size + 2 ≤ w10.heap.size; omega⟩⟩
         case measure => simp [intOf]; omega
       ·obtain rfl : k = b.names.length := by omega
        have hdl : decide ((b.names.length : Int) < (b.names.length : Int)) = false := decide_eq_false (by omega)
        obtain ⟨v00, v01, v02, v03, v04, v0z⟩ := blk5 b0.out
        obtain ⟨v10, v11, v12, v13, v14, v1z⟩ := blk5 b1.out
        go_wp2_with fail
        clear v00 v01 v02 v03 v04 v0z v10 v11 v12 v13 v14 v1z
        go_ret
        exact ⟨_, rfl, by rw [diffL_obj heq HKA5.out HKB5.out]; exact R_mono (fun k h => Nat.le_trans (Nat.le_add_right _ 2) h)  hR.out, hB.out⟩
   ·have hd2 : decide (b.kind = 5) = false := decide_eq_false hkb
    have he2 : (b.kind == 5) = false := by simpa using hkb
    have hn2 : (b.kind != 5) = true := by simpa using hkb
    obtain ⟨v00, v01, v02, v03, v04, v0z⟩ := blk5 b0.out
    obtain ⟨v10, v11, v12, v13, v14, v1z⟩ := blk5 b1.out
    go_wp2_with fail
    clear v00 v01 v02 v03 v04 v0z v10 v11 v12 v13 v14 v1z
    apply calls_gen; intro W3 hW
    have hz_ : w2.heap.size ≤ W3.heap.size := by rw [hW]; simp
    have hE : Below w2.heap.size w2 W3 := by rw [hW]; (repeat (first | with_reducible refine below_alloc ?_ _ | with_reducible refine below_drew ?_)); exact Below.refl _ _
    have hB := hB.th hE
    have b0 := b0.dn hE
    have b1 := b1.dn hE
    have hR := Hd.mk (R_below hR.out hE)
    clear hW hE
    have z3 := Hd.mk hz_; clear hz_
    have z1_ := z1.out; have z2_ := z2.out; have z3_ := z3.out
    replace hR := Hd.mk (show (tOp (M + 1)).R 38 W3 (fun k => w.heap.size + 2 ≤ k ∧ k < W3.heap.size) _ [] from R_bound hR.out)
    refine (spec_l1Copy b _ _ (Ty.K_below _ hB.out HKb.out) (by have := hbulk.out; have := HZB.out; push_cast at *; omega)).mono ?_
    rintro e w4 ⟨cs', rfl, hO2, hX⟩
    have b0 := b0.dn hX
    have b1 := b1.dn hX
    have hR := Hd.mk (R_below hR.out hX)
    have hB := hB.th hX
    have hz_ := hX.size
    clear hX
    have z4 := Hd.mk hz_; clear hz_
    obtain ⟨v3, v4, _, _, rfl, hsz3, hr3, hr4, _⟩ := tJ_O.1 hO2
    obtain ⟨D2, d2, rfl, _, _⟩ := R_C hr3
    obtain ⟨D3, d3, rfl, _, _⟩ := R_C hr4
    clear hr3 hr4
    replace hO2 := Hd.mk (show (tJ (M + 1)).O w4 (rng W3.heap.size w4.heap.size) b _ from Ty.O_bound _ hO2)
    have z1_ := z1.out; have z2_ := z2.out; have z3_ := z3.out; have z4_ := z4.out
    go_wp2_with (at_builtin; refine append_oneN (tOp (M + 1)) (n := w4.heap.size) (by simp) rfl _ _ 33 38 (.agg #[.int .i64 0, .slice none 0 0, .int .i64 0, .int .i64 0, .string ByteArray.empty, .slice none 0 0, .slice none 0 0]) 112 rfl Try.underlying33 info_OpS rfl (by rw [tOp_sz]; omega) (by decide) (S := fun k => w.heap.size + 2 ≤ k ∧ k < W3.heap.size) (T := rng W3.heap.size w4.heap.size) (S' := (fun k => w.heap.size + 2 ≤ k)) (v := Value.slice (some ⟨w.heap.size + 2, 0, none⟩) 0 0) (xs := []) ⟨3, [], b⟩ [Value.int IntKind.i64 3, .slice none 0 0, .int .i64 b.kind, .int .i64 b.n, .string b.s, .slice D2 b.list.length d2, .slice D3 b.names.length d3] rfl rfl hR.out (tOp_O.2 ⟨_, _, fun _ => False, _, rfl, R_nil, hO2.out, fun k h => h.elim, fun k h => h, fun k h => h.elim⟩) (fun k h1 hl h2 => by have h5 := h1; (try simp only [rng] at h5); have h6 := h2.1; have h7 := h2.2; (try simp only at h5 h6 h7); omega) (fun k h => h.1) (fun k h => by have h5 := h; (try simp only [rng] at h5); (try simp only at h5); omega) (fun k h => by (try simp only at h); omega) (by simp) (fun v5 w5 hv5 hX0 => ?_))
    have hX := hX0; clear hX0
    clear hO2 hR
    have z1_ := z1.out; have z2_ := z2.out; have z3_ := z3.out; have z4_ := z4.out
    have hSz := hB.out.size
    have b0 := Hd.mk (b0.out.fr hX (fun h => by have hlt_ := b0.out.lt; skip; (try simp only [rng] at h); (try simp only at h); omega))
    have b1 := Hd.mk (b1.out.fr hX (fun h => by have hlt_ := b1.out.lt; skip; (try simp only [rng] at h); (try simp only at h); omega))
    have hB := Hd.mk (below_frS hB.out hX (fun k h => by skip; (try simp only [rng] at h); (try simp only at h); omega))
    have hz_ := hX.size
    clear hX
    have z5 := Hd.mk hz_; clear hz_
    go_wp2_with fail
    go_ret
    exact ⟨_, rfl, by rw [diffL_kind heq (Or.inr hkb)]; exact R_mono (fun k h => Nat.le_trans (Nat.le_add_right _ 2) h)  hv5, hB.out⟩
  ·have hd1 : decide (a.kind = 5) = false := decide_eq_false hka
   have he1 : (a.kind == 5) = false := by simpa using hka
   have hn1 : (a.kind != 5) = true := by simpa using hka
   obtain ⟨v00, v01, v02, v03, v04, v0z⟩ := blk5 b0.out
   obtain ⟨v10, v11, v12, v13, v14, v1z⟩ := blk5 b1.out
   go_wp2_with fail
   clear v00 v01 v02 v03 v04 v0z v10 v11 v12 v13 v14 v1z
   apply calls_gen; intro W3 hW
   have hz_ : w2.heap.size ≤ W3.heap.size := by rw [hW]; simp
   have hE : Below w2.heap.size w2 W3 := by rw [hW]; (repeat (first | with_reducible refine below_alloc ?_ _ | with_reducible refine below_drew ?_)); exact Below.refl _ _
   have hB := hB.th hE
   have b0 := b0.dn hE
   have b1 := b1.dn hE
   have hR := Hd.mk (R_below hR.out hE)
   clear hW hE
   have z3 := Hd.mk hz_; clear hz_
   have z1_ := z1.out; have z2_ := z2.out; have z3_ := z3.out
   replace hR := Hd.mk (show (tOp (M + 1)).R 38 W3 (fun k => w.heap.size + 2 ≤ k ∧ k < W3.heap.size) _ [] from R_bound hR.out)
   refine (spec_l1Copy b _ _ (Ty.K_below _ hB.out HKb.out) (by have := hbulk.out; have := HZB.out; push_cast at *; omega)).mono ?_
   rintro e w4 ⟨cs', rfl, hO2, hX⟩
   have b0 := b0.dn hX
   have b1 := b1.dn hX
   have hR := Hd.mk (R_below hR.out hX)
   have hB := hB.th hX
   have hz_ := hX.size
   clear hX
   have z4 := Hd.mk hz_; clear hz_
   obtain ⟨v3, v4, _, _, rfl, hsz3, hr3, hr4, _⟩ := tJ_O.1 hO2
   obtain ⟨D2, d2, rfl, _, _⟩ := R_C hr3
   obtain ⟨D3, d3, rfl, _, _⟩ := R_C hr4
   clear hr3 hr4
   replace hO2 := Hd.mk (show (tJ (M + 1)).O w4 (rng W3.heap.size w4.heap.size) b _ from Ty.O_bound _ hO2)
   have z1_ := z1.out; have z2_ := z2.out; have z3_ := z3.out; have z4_ := z4.out
   go_wp2_with (at_builtin; refine append_oneN (tOp (M + 1)) (n := w4.heap.size) (by simp) rfl _ _ 33 38 (.agg #[.int .i64 0, .slice none 0 0, .int .i64 0, .int .i64 0, .string ByteArray.empty, .slice none 0 0, .slice none 0 0]) 112 rfl Try.underlying33 info_OpS rfl (by rw [tOp_sz]; omega) (by decide) (S := fun k => w.heap.size + 2 ≤ k ∧ k < W3.heap.size) (T := rng W3.heap.size w4.heap.size) (S' := (fun k => w.heap.size + 2 ≤ k)) (v := Value.slice (some ⟨w.heap.size + 2, 0, none⟩) 0 0) (xs := []) ⟨3, [], b⟩ [Value.int IntKind.i64 3, .slice none 0 0, .int .i64 b.kind, .int .i64 b.n, .string b.s, .slice D2 b.list.length d2, .slice D3 b.names.length d3] rfl rfl hR.out (tOp_O.2 ⟨_, _, fun _ => False, _, rfl, R_nil, hO2.out, fun k h => h.elim, fun k h => h, fun k h => h.elim⟩) (fun k h1 hl h2 => by have h5 := h1; (try simp only [rng] at h5); have h6 := h2.1; have h7 := h2.2; (try simp only at h5 h6 h7); omega) (fun k h => h.1) (fun k h => by have h5 := h; (try simp only [rng] at h5); (try simp only at h5); omega) (fun k h => by (try simp only at h); omega) (by simp) (fun v5 w5 hv5 hX0 => ?_))
   have hX := hX0; clear hX0
   clear hO2 hR
   have z1_ := z1.out; have z2_ := z2.out; have z3_ := z3.out; have z4_ := z4.out
   have hSz := hB.out.size
   have b0 := Hd.mk (b0.out.fr hX (fun h => by have hlt_ := b0.out.lt; skip; (try simp only [rng] at h); (try simp only at h); omega))
   have b1 := Hd.mk (b1.out.fr hX (fun h => by have hlt_ := b1.out.lt; skip; (try simp only [rng] at h); (try simp only at h); omega))
   have hB := Hd.mk (below_frS hB.out hX (fun k h => by skip; (try simp only [rng] at h); (try simp only at h); omega))
   have hz_ := hX.size
   clear hX
   have z5 := Hd.mk hz_; clear hz_
   go_wp2_with fail
   go_ret
   exact ⟨_, rfl, by rw [diffL_kind heq (Or.inl hka)]; exact R_mono (fun k h => Nat.le_trans (Nat.le_add_right _ 2) h)  hv5, hB.out⟩
 ·have v00 : w2.cell? ⟨w.heap.size, 0, none⟩ = some (.int .i64 a.kind) := b0.out.cell 0 rfl
  have v01 : w2.cell? ⟨w.heap.size, 1, none⟩ = some (.int .i64 a.n) := b0.out.cell 1 rfl
  have v02 : w2.cell? ⟨w.heap.size, 2, none⟩ = some (.string a.s) := b0.out.cell 2 rfl
  have v03 : w2.cell? ⟨w.heap.size, 3, none⟩ = some (.slice A1 a.list.length c1) := b0.out.cell 3 rfl
  have v04 : w2.cell? ⟨w.heap.size, 4, none⟩ = some (.slice A2 a.names.length c2) := b0.out.cell 4 rfl
  have v0z := b0.out.frozen
  obtain ⟨v10, v11, v12, v13, v14, v1z⟩ := blk5 b1.out
  go_wp2_with fail
  clear v00 v01 v02 v03 v04 v0z v10 v11 v12 v13 v14 v1z
  go_ret
  exact ⟨_, rfl, by rw [diffL_same heq]; exact R_mono (fun k h => Nat.le_trans (Nat.le_add_right _ 2) h)  hR.out, hB.out⟩
theorem spec_l5Diff_all (M : Nat) : ∀ d, d ≤ 6 → DiffS M d
 | 0, _ => fun a b cs cs2 w _ _ h _ => by simp [sizeN] at h
 | d + 1, h => spec_l5Diff_of (by omega) (spec_l5Diff_all M d (by omega))
set_option maxHeartbeats 8000000 in
set_option maxRecDepth 100000 in
theorem spec_Diff {M : Nat} (a b : J) (cs cs2 : List Value) (w : World) (hk : (tJ (M + 1)).K w a cs) (hk2 : (tJ (M + 1)).K w b cs2) :
  Calls Try.prog 45 #[.agg cs.toArray, .agg cs2.toArray] w fun e w' => ∃ v, e = .returned v ∧ (tOp (M + 1)).R 38 w' (fun k => w.heap.size ≤ k) v (diffT a b) ∧ Below w.heap.size w w' := by
 cases hja : jsonOk a
 ·have HOK := Hd.mk (show diffT a b = [] by unfold diffT; rw [hja]; rfl)
  have HKa := Hd.mk hk; have HKb := Hd.mk hk2
  obtain ⟨A1, c1, A2, c2, rfl, hsa, ⟨hc1, hr1⟩, hc2, hr2⟩ := tJ_K.1 hk
  obtain ⟨A3, c3, A4, c4, rfl, hsb, ⟨hc3, hr3⟩, hc4, hr4⟩ := tJ_K.1 hk2
  clear hr1 hr2 hr3 hr4 hk hk2
  have hB := Hd.mk (Below.refl w.heap.size w)
  go_enter Try.func45, Try.ntmps45
  go_wp2_with fail
  apply calls_gen; intro W1 hW
  have hz_ : w.heap.size + 2 ≤ W1.heap.size := by rw [hW]; simp
  have hE : Below w.heap.size w W1 := by rw [hW]; (repeat (first | with_reducible refine below_alloc ?_ _ | with_reducible refine below_drew ?_)); exact Below.refl _ _
  have hB := hB.th hE
  have b0 := Hd.mk (show Blk W1 (w.heap.size) #[.int .i64 a.kind, .int .i64 a.n, .string a.s, .slice A1 a.list.length c1, .slice A2 a.names.length c2] 27 by rw [hW]; first | exact ((Blk.new _ _ _).alloc _) | (simpa using ((Blk.new _ _ _).alloc _)))
  have b1 := Hd.mk (show Blk W1 (w.heap.size + 1) #[.int .i64 b.kind, .int .i64 b.n, .string b.s, .slice A3 b.list.length c3, .slice A4 b.names.length c4] 27 by rw [hW]; first | exact (Blk.new1 _ _ _ _) | (simpa using (Blk.new1 _ _ _ _)))
  clear hW hE
  have z1 := Hd.mk hz_; clear hz_
  refine (spec_JsonOk a _ _ (Ty.K_below _ hB.out HKa.out)).mono ?_
  rintro e w2 ⟨rfl, hX⟩
  have b0 := b0.dn hX
  have b1 := b1.dn hX
  have hB := hB.th hX
  have hz_ := hX.size
  clear hX
  have z2 := Hd.mk hz_; clear hz_
  rw [hja]
  obtain ⟨v00, v01, v02, v03, v04, v0z⟩ := blk5 b0.out
  obtain ⟨v10, v11, v12, v13, v14, v1z⟩ := blk5 b1.out
  go_wp2_with fail
  go_ret
  exact ⟨_, rfl, by rw [HOK.out]; exact R_mono (fun k h => by have := hB.out.size; (try simp only at h); omega) (R_empty (tOp (M + 1)) 38 _), below_alloc hB.out _⟩
 cases hjb : jsonOk b
 ·have HOK := Hd.mk (show diffT a b = [] by unfold diffT; rw [hja, hjb]; rfl)
  have HKa := Hd.mk hk; have HKb := Hd.mk hk2
  obtain ⟨A1, c1, A2, c2, rfl, hsa, ⟨hc1, hr1⟩, hc2, hr2⟩ := tJ_K.1 hk
  obtain ⟨A3, c3, A4, c4, rfl, hsb, ⟨hc3, hr3⟩, hc4, hr4⟩ := tJ_K.1 hk2
  clear hr1 hr2 hr3 hr4 hk hk2
  have hB := Hd.mk (Below.refl w.heap.size w)
  go_enter Try.func45, Try.ntmps45
  go_wp2_with fail
  apply calls_gen; intro W1 hW
  have hz_ : w.heap.size + 2 ≤ W1.heap.size := by rw [hW]; simp
  have hE : Below w.heap.size w W1 := by rw [hW]; (repeat (first | with_reducible refine below_alloc ?_ _ | with_reducible refine below_drew ?_)); exact Below.refl _ _
  have hB := hB.th hE
  have b0 := Hd.mk (show Blk W1 (w.heap.size) #[.int .i64 a.kind, .int .i64 a.n, .string a.s, .slice A1 a.list.length c1, .slice A2 a.names.length c2] 27 by rw [hW]; first | exact ((Blk.new _ _ _).alloc _) | (simpa using ((Blk.new _ _ _).alloc _)))
  have b1 := Hd.mk (show Blk W1 (w.heap.size + 1) #[.int .i64 b.kind, .int .i64 b.n, .string b.s, .slice A3 b.list.length c3, .slice A4 b.names.length c4] 27 by rw [hW]; first | exact (Blk.new1 _ _ _ _) | (simpa using (Blk.new1 _ _ _ _)))
  clear hW hE
  have z1 := Hd.mk hz_; clear hz_
  refine (spec_JsonOk a _ _ (Ty.K_below _ hB.out HKa.out)).mono ?_
  rintro e w2 ⟨rfl, hX⟩
  have b0 := b0.dn hX
  have b1 := b1.dn hX
  have hB := hB.th hX
  have hz_ := hX.size
  clear hX
  have z2 := Hd.mk hz_; clear hz_
  rw [hja]
  obtain ⟨v00, v01, v02, v03, v04, v0z⟩ := blk5 b0.out
  obtain ⟨v10, v11, v12, v13, v14, v1z⟩ := blk5 b1.out
  go_wp2_with fail
  clear v00 v01 v02 v03 v04 v0z v10 v11 v12 v13 v14 v1z
  apply calls_gen; intro W3 hW
  have hz_ : w2.heap.size ≤ W3.heap.size := by rw [hW]; simp
  have hE : Below w2.heap.size w2 W3 := by rw [hW]; (repeat (first | with_reducible refine below_alloc ?_ _ | with_reducible refine below_drew ?_)); exact Below.refl _ _
  have hB := hB.th hE
  have b0 := b0.dn hE
  have b1 := b1.dn hE
  clear hW hE
  have z3 := Hd.mk hz_; clear hz_
  refine (spec_JsonOk b _ _ (Ty.K_below _ hB.out HKb.out)).mono ?_
  rintro e w4 ⟨rfl, hX⟩
  have b0 := b0.dn hX
  have b1 := b1.dn hX
  have hB := hB.th hX
  have hz_ := hX.size
  clear hX
  have z4 := Hd.mk hz_; clear hz_
  rw [hjb]
  obtain ⟨v00, v01, v02, v03, v04, v0z⟩ := blk5 b0.out
  obtain ⟨v10, v11, v12, v13, v14, v1z⟩ := blk5 b1.out
  go_wp2_with fail
  go_ret
  exact ⟨_, rfl, by rw [HOK.out]; exact R_mono (fun k h => by have := hB.out.size; (try simp only at h); omega) (R_empty (tOp (M + 1)) 38 _), below_alloc hB.out _⟩
 ·have HOK := Hd.mk (show diffT a b = diffL 6 a b by unfold diffT; rw [hja, hjb]; rfl)
  have HKa := Hd.mk hk; have HKb := Hd.mk hk2
  obtain ⟨A1, c1, A2, c2, rfl, hsa, ⟨hc1, hr1⟩, hc2, hr2⟩ := tJ_K.1 hk
  obtain ⟨A3, c3, A4, c4, rfl, hsb, ⟨hc3, hr3⟩, hc4, hr4⟩ := tJ_K.1 hk2
  clear hr1 hr2 hr3 hr4 hk hk2
  have hB := Hd.mk (Below.refl w.heap.size w)
  go_enter Try.func45, Try.ntmps45
  go_wp2_with fail
  apply calls_gen; intro W1 hW
  have hz_ : w.heap.size + 2 ≤ W1.heap.size := by rw [hW]; simp
  have hE : Below w.heap.size w W1 := by rw [hW]; (repeat (first | with_reducible refine below_alloc ?_ _ | with_reducible refine below_drew ?_)); exact Below.refl _ _
  have hB := hB.th hE
  have b0 := Hd.mk (show Blk W1 (w.heap.size) #[.int .i64 a.kind, .int .i64 a.n, .string a.s, .slice A1 a.list.length c1, .slice A2 a.names.length c2] 27 by rw [hW]; first | exact ((Blk.new _ _ _).alloc _) | (simpa using ((Blk.new _ _ _).alloc _)))
  have b1 := Hd.mk (show Blk W1 (w.heap.size + 1) #[.int .i64 b.kind, .int .i64 b.n, .string b.s, .slice A3 b.list.length c3, .slice A4 b.names.length c4] 27 by rw [hW]; first | exact (Blk.new1 _ _ _ _) | (simpa using (Blk.new1 _ _ _ _)))
  clear hW hE
  have z1 := Hd.mk hz_; clear hz_
  refine (spec_JsonOk a _ _ (Ty.K_below _ hB.out HKa.out)).mono ?_
  rintro e w2 ⟨rfl, hX⟩
  have b0 := b0.dn hX
  have b1 := b1.dn hX
  have hB := hB.th hX
  have hz_ := hX.size
  clear hX
  have z2 := Hd.mk hz_; clear hz_
  rw [hja]
  obtain ⟨v00, v01, v02, v03, v04, v0z⟩ := blk5 b0.out
  obtain ⟨v10, v11, v12, v13, v14, v1z⟩ := blk5 b1.out
  go_wp2_with fail
  clear v00 v01 v02 v03 v04 v0z v10 v11 v12 v13 v14 v1z
  apply calls_gen; intro W3 hW
  have hz_ : w2.heap.size ≤ W3.heap.size := by rw [hW]; simp
  have hE : Below w2.heap.size w2 W3 := by rw [hW]; (repeat (first | with_reducible refine below_alloc ?_ _ | with_reducible refine below_drew ?_)); exact Below.refl _ _
  have hB := hB.th hE
  have b0 := b0.dn hE
  have b1 := b1.dn hE
  clear hW hE
  have z3 := Hd.mk hz_; clear hz_
  refine (spec_JsonOk b _ _ (Ty.K_below _ hB.out HKb.out)).mono ?_
  rintro e w4 ⟨rfl, hX⟩
  have b0 := b0.dn hX
  have b1 := b1.dn hX
  have hB := hB.th hX
  have hz_ := hX.size
  clear hX
  have z4 := Hd.mk hz_; clear hz_
  rw [hjb]
  obtain ⟨v00, v01, v02, v03, v04, v0z⟩ := blk5 b0.out
  obtain ⟨v10, v11, v12, v13, v14, v1z⟩ := blk5 b1.out
  go_wp2_with fail
  clear v00 v01 v02 v03 v04 v0z v10 v11 v12 v13 v14 v1z
  apply calls_gen; intro W5 hW
  have hz_ : w4.heap.size ≤ W5.heap.size := by rw [hW]; simp
  have hE : Below w4.heap.size w4 W5 := by rw [hW]; (repeat (first | with_reducible refine below_alloc ?_ _ | with_reducible refine below_drew ?_)); exact Below.refl _ _
  have hB := hB.th hE
  have b0 := b0.dn hE
  have b1 := b1.dn hE
  clear hW hE
  have z5 := Hd.mk hz_; clear hz_
  have hBs := hB.out.size
  refine (spec_l5Diff_all M 6 (Nat.le_refl _) a b _ _ _ (Ty.K_below _ hB.out HKa.out) (Ty.K_below _ hB.out HKb.out) (of_decide_eq_true hja) (of_decide_eq_true hjb)).mono ?_
  rintro e w6 ⟨v, rfl, hv, hX⟩
  have b0 := b0.dn hX
  have b1 := b1.dn hX
  have hB := hB.th hX
  have hz_ := hX.size
  clear hX
  have z6 := Hd.mk hz_; clear hz_
  go_wp2_with fail
  go_ret
  exact ⟨_, rfl, by rw [HOK.out]; exact R_mono (fun k h => Nat.le_trans hBs h) hv, hB.out⟩
theorem null_ok0 : jsonOk J.null = true := by
 have h : ownB J.null = true := by unfold ownB; simp [J.null, ByteArray.toList_eq]
 refine decide_eq_true (p := sizeN 6 J.null ≤ 400) ?_
 show (if ownB J.null = true ∧ 1 + sumZ (sizeN 5) ([] : List J) ≤ 400 then 1 + sumZ (sizeN 5) ([] : List J) else 401) ≤ 400
 rw [if_pos ⟨h, by decide⟩]; decide
theorem patchJ_ok (j : J) (o : JOp) : sizeN 6 (patchJ j o) ≤ 400 := by
 unfold patchJ
 cases h : patchO j o with
 | none => exact of_decide_eq_true null_ok0
 | some z =>
  unfold patchO at h
  split at h
  ·split at h
   ·split at h
    ·rename_i hz
     obtain rfl := Option.some.inj h
     exact of_decide_eq_true hz
    ·cases h
   ·cases h
  ·cases h
theorem Bnd_ok {x : J} (h : sizeN 6 x ≤ 400) : Bnd 100000 x := fun m => by
 have h1 := bulk_size m 6 x h
 omega
theorem diffT_ops (a b : J) : (diffT a b).length ≤ 200000 ∧ ∀ o ∈ diffT a b, ∀ m, bulkOp m o ≤ 50000 := by
 unfold diffT
 split
 ·rename_i h
  rw [Bool.and_eq_true] at h
  have ha : sizeN 6 a ≤ 400 := of_decide_eq_true (show decide (sizeN 6 a ≤ 400) = true from h.1)
  have hb : sizeN 6 b ≤ 400 := of_decide_eq_true (show decide (sizeN 6 b ≤ 400) = true from h.2)
  obtain ⟨h1, h2⟩ := diff_ops 6 a b ha hb
  exact ⟨by omega, fun o ho m => by have h3 := (h2 o ho m).1; omega⟩
 ·exact ⟨by simp, by simp⟩
theorem Bnd_up {B C : Nat} {x : J} (h : Bnd B x) (hc : B ≤ C) : Bnd C x := fun m => Nat.le_trans (h m) hc
set_option maxHeartbeats 8000000 in
set_option maxRecDepth 100000 in
theorem spec_DrawDiff (A : Option Addr) (c : Nat) (bs : List Int) (w : World) (hr : u8.C w A bs) (hbs : bs.length ≤ 1048576) :
  Calls Try.prog 42 #[.slice A bs.length c] w fun e w' => ∃ (a b : J) (cs cs2 : List Value), e = .returned (.tuple #[.agg cs.toArray, .agg cs2.toArray]) ∧ (tJ 9).O w' (fun k => w.heap.size ≤ k) a cs ∧ (tJ 9).O w' (fun k => w.heap.size ≤ k) b cs2 ∧ Bnd 100000 a ∧ Bnd 100000 b ∧ Below w.heap.size w w' := by
 have HBS := Hd.mk hr; clear hr
 have hB := Hd.mk (Below.refl w.heap.size w)
 go_enter Try.func42, Try.ntmps42
 go_wp2_with fail
 apply calls_gen; intro W1 hW
 have hz_ : w.heap.size + 2 ≤ W1.heap.size := by rw [hW]; simp
 have hE : Below w.heap.size w W1 := by rw [hW]; (repeat (first | with_reducible refine below_alloc ?_ _ | with_reducible refine below_drew ?_)); exact Below.refl _ _
 have hB := hB.th hE
 have b0 := Hd.mk (show Blk W1 (w.heap.size) #[.int .i64 0, .int .i64 0, .string ⟨#[]⟩, .slice none 0 0, .slice none 0 0] 27 by rw [hW]; first | exact ((Blk.new _ _ _).alloc _) | (simpa using ((Blk.new _ _ _).alloc _)))
 have b1 := Hd.mk (show Blk W1 (w.heap.size + 1) #[.int .i64 0, .int .i64 0, .string ⟨#[]⟩, .slice none 0 0, .slice none 0 0] 27 by rw [hW]; first | exact (Blk.new1 _ _ _ _) | (simpa using (Blk.new1 _ _ _ _)))
 clear hW hE
 have z1 := Hd.mk hz_; clear hz_
 refine (spec_l1New _ _ bs w W1 HBS.out hbs hB.out).mono ?_
 rintro e w2 ⟨g, rfl, hge, hC1, hX⟩
 have b0 := b0.dn hX
 have b1 := b1.dn hX
 have hG := Hd.mk (show W1.heap.size ≤ g ∧ g < w2.heap.size from ⟨hge, hC1.lt⟩)
 have hC := Hd.mk hC1; clear hC1 hge
 have hB := hB.th hX
 have hz_ := hX.size
 clear hX
 have z2 := Hd.mk hz_; clear hz_
 obtain ⟨v00, v01, v02, v03, v04, v0z⟩ := blk5 b0.out
 obtain ⟨v10, v11, v12, v13, v14, v1z⟩ := blk5 b1.out
 go_wp2_with fail
 clear v00 v01 v02 v03 v04 v0z v10 v11 v12 v13 v14 v1z
 refine (spec_l1Draw w _ g hC.out).mono ?_
 rintro e w3 ⟨a, cs, rfl, hBA, hA, hC1, hX⟩
 have hC := Hd.mk hC1; clear hC1
 have hSz0 := hB.out.size
 have hg_ := hG.out
 have z1_ := z1.out; have z2_ := z2.out
 have b0 := Hd.mk (b0.out.fr hX (fun h => by skip; (try simp only at h); omega))
 have b1 := Hd.mk (b1.out.fr hX (fun h => by skip; (try simp only at h); omega))
 have hB := Hd.mk (below_frS hB.out hX (fun k h => by (try simp only at h); omega))
 have hz_ := hX.size
 clear hSz0 hg_ hX
 have z3 := Hd.mk hz_; clear hz_
 obtain ⟨av3, av4, _, _, rfl, _, ar3, ar4, _⟩ := tJ_O.1 hA
 obtain ⟨aD3, ad3, rfl, _, _⟩ := R_C ar3
 obtain ⟨aD4, ad4, rfl, _, _⟩ := R_C ar4
 clear ar3 ar4
 replace hBA := Hd.mk (Bnd_up (B := 30000) hBA (show 30000 ≤ 100000 by decide))
 have hA := Hd.mk (show (tJ 9).O w3 (rng w2.heap.size w3.heap.size) a _ from Ty.O_bound _ hA)
 have z1_ := z1.out; have z2_ := z2.out; have z3_ := z3.out
 have hgx := hG.out
 obtain ⟨v00, v01, v02, v03, v04, v0z⟩ := blk5 b0.out
 obtain ⟨v10, v11, v12, v13, v14, v1z⟩ := blk5 b1.out
 go_wp2_with fail
 clear v00 v01 v02 v03 v04 v0z v10 v11 v12 v13 v14 v1z
 apply calls_gen; intro W4 hW
 have hz_ : w3.heap.size + 1 ≤ W4.heap.size := by rw [hW]; simp
 have hE : Below w3.heap.size w3 W4 := by rw [hW]; (repeat (first | with_reducible refine below_alloc ?_ _ | with_reducible refine below_drew ?_)); exact Below.refl _ _
 have hB := hB.th hE
 have hC := Hd.mk (hC.out.below hE)
 have b0 := b0.dn hE
 have b1 := b1.dn hE
 have b2 := Hd.mk (show Blk W4 (w3.heap.size) #[.int .i64 a.kind, .int .i64 a.n, .string a.s, .slice aD3 a.list.length ad3, .slice aD4 a.names.length ad4] 27 by rw [hW]; first | exact (Blk.new _ _ _) | (simpa using (Blk.new _ _ _)))
 have hA := hA.ob hE
 clear hW hE
 have z4 := Hd.mk hz_; clear hz_
 refine (spec_l1Copy (m := 9) a _ _ (Ty.O_K _ hA.out) (Nat.le_trans (hBA.out 9) (by decide))).mono ?_
 rintro e w5 ⟨cs2, rfl, hJ, hX⟩
 have b0 := b0.dn hX
 have b1 := b1.dn hX
 have b2 := b2.dn hX
 have hA := hA.ob hX
 have hB := hB.th hX
 have hC := Hd.mk (hC.out.below hX)
 have hz_ := hX.size
 clear hX
 have z5 := Hd.mk hz_; clear hz_
 obtain ⟨jv3, jv4, _, _, rfl, _, jr3, jr4, _⟩ := tJ_O.1 hJ
 obtain ⟨jD3, jd3, rfl, _, _⟩ := R_C jr3
 obtain ⟨jD4, jd4, rfl, _, _⟩ := R_C jr4
 clear jr3 jr4
 have hJ := Hd.mk (show (tJ 9).O w5 (rng W4.heap.size w5.heap.size) a _ from Ty.O_bound _ hJ)
 have z1_ := z1.out; have z2_ := z2.out; have z3_ := z3.out; have z4_ := z4.out; have z5_ := z5.out
 have hgx := hG.out
 have hPP := Hd.mk (show w.heap.size + 2 ≤ g ∧ g < w3.heap.size ∧ w3.heap.size < w5.heap.size by omega)
 replace hA := Hd.mk (show (tJ 9).O w5 (fun q => w.heap.size + 2 ≤ q ∧ q ≠ g ∧ q ≠ w3.heap.size ∧ q ≠ w5.heap.size) a _ from Ty.O_mono _ (fun q h => by have h1 := h.1; have h2 := h.2; exact ⟨by omega, by omega, by omega, by omega⟩) hA.out)
 replace hJ := Hd.mk (show (tJ 9).O w5 (fun q => w.heap.size + 2 ≤ q ∧ q ≠ g ∧ q ≠ w3.heap.size ∧ q ≠ w5.heap.size) a _ from Ty.O_mono _ (fun q h => by have h1 := h.1; have h2 := h.2; exact ⟨by omega, by omega, by omega, by omega⟩) hJ.out)
 obtain ⟨v00, v01, v02, v03, v04, v0z⟩ := blk5 b0.out
 obtain ⟨v10, v11, v12, v13, v14, v1z⟩ := blk5 b1.out
 obtain ⟨v20, v21, v22, v23, v24, v2z⟩ := blk5 b2.out
 go_wp2_with fail
 clear v00 v01 v02 v03 v04 v0z v10 v11 v12 v13 v14 v1z v20 v21 v22 v23 v24 v2z
 go_loopw [7, 8, 9] (fun i s8 s9 wr => ∃ (k : Nat) (j : J) (jD3 jD4 : Option Addr) (jd3 jd4 : Nat), k ≤ 3 ∧ i = .int .i64 k ∧ Hd (Bnd 100000 j) ∧ Hd (Blk wr w.heap.size #[.int .i64 0, .int .i64 0, .string ⟨#[]⟩, .slice none 0 0, .slice none 0 0] 27) ∧ Hd (Blk wr (w.heap.size + 1) #[.int .i64 0, .int .i64 0, .string ⟨#[]⟩, .slice none 0 0, .slice none 0 0] 27) ∧ Hd (Blk wr w3.heap.size #[.int .i64 a.kind, .int .i64 a.n, .string a.s, .slice aD3 a.list.length ad3, .slice aD4 a.names.length ad4] 27) ∧ Hd (Blk wr w5.heap.size #[.int .i64 j.kind, .int .i64 j.n, .string j.s, .slice jD3 j.list.length jd3, .slice jD4 j.names.length jd4] 27) ∧ Hd ((tJ 9).O wr (fun q => w.heap.size + 2 ≤ q ∧ q ≠ g ∧ q ≠ w3.heap.size ∧ q ≠ w5.heap.size) a [Value.int IntKind.i64 a.kind, .int .i64 a.n, .string a.s, .slice aD3 a.list.length ad3, .slice aD4 a.names.length ad4]) ∧ Hd ((tJ 9).O wr (fun q => w.heap.size + 2 ≤ q ∧ q ≠ g ∧ q ≠ w3.heap.size ∧ q ≠ w5.heap.size) j [Value.int IntKind.i64 j.kind, .int .i64 j.n, .string j.s, .slice jD3 j.list.length jd3, .slice jD4 j.names.length jd4]) ∧ Hd (Cur w wr g) ∧ Hd (Below w.heap.size w wr) ∧ Hd (w5.heap.size < wr.heap.size)) (fun i _ _ _ => 3 - (intOf i).toNat)
 case atStart => exact ⟨0, a, _, _, _, _, Nat.zero_le _, rfl, hBA, ⟨b0.out.alloc _⟩, ⟨b1.out.alloc _⟩, ⟨b2.out.alloc _⟩, ⟨Blk.new _ _ _⟩, ⟨Ty.O_below hA.out (below_alloc (Below.refl _ _) _)⟩, ⟨Ty.O_below hJ.out (below_alloc (Below.refl _ _) _)⟩, ⟨hC.out.below (below_alloc (Below.refl _ _) _)⟩, ⟨below_alloc hB.out _⟩, ⟨by simp⟩⟩
 case round =>
  clear b0 b1 b2 hA hJ hC hB
  obtain ⟨k, j, jD3, jD4, jd3, jd4, hk3, rfl, hBJ, b0, b1, b2, b3, hA, hJ, hC, hB, hzw⟩ := hrel
  have hk0 : (0 : Int) ≤ (k : Int) := by omega
  go_wp2_with fail
  refine (spec_l1Below 3 w _ g hC.out).mono ?_
  rintro e w6 ⟨y, rfl, y0, y1, _, hC1, hX⟩
  have hC := Hd.mk hC1; clear hC1
  have hSz0 := hB.out.size
  have hg_ := hG.out
  have hPP_ := hPP.out; have hzw_ := hzw.out
  have b0 := Hd.mk (b0.out.fr hX (fun h => by skip; (try simp only at h); omega))
  have b1 := Hd.mk (b1.out.fr hX (fun h => by skip; (try simp only at h); omega))
  have b2 := Hd.mk (b2.out.fr hX (fun h => by skip; (try simp only at h); omega))
  have b3 := Hd.mk (b3.out.fr hX (fun h => by skip; (try simp only at h); omega))
  have hA := Hd.mk (Ty.O_fr hA.out hX (fun k hk hl h => by have q_ := hk; have hP_ := hPP.out; have hg_ := hG.out; have q2_ := hk.2.1; (try simp only at q_); (try simp only [rng] at hk); (try simp only at hk); (try simp only at h); omega))
  have hJ := Hd.mk (Ty.O_fr hJ.out hX (fun k hk hl h => by have q_ := hk; have hP_ := hPP.out; have hg_ := hG.out; have q2_ := hk.2.1; (try simp only at q_); (try simp only [rng] at hk); (try simp only at hk); (try simp only at h); omega))
  have hB := Hd.mk (below_frS hB.out hX (fun k h => by (try simp only at h); omega))
  have hz_ := hX.size
  clear hSz0 hg_ hX
  have z6 := Hd.mk hz_; clear hz_
  replace y1 := y1 (by omega)
  by_cases hlt : (k : Int) < 1 + y
  ·have hk2 : k ≤ 2 := by omega
   obtain ⟨v00, v01, v02, v03, v04, v0z⟩ := blk5 b0.out
   obtain ⟨v10, v11, v12, v13, v14, v1z⟩ := blk5 b1.out
   obtain ⟨v20, v21, v22, v23, v24, v2z⟩ := blk5 b2.out
   obtain ⟨v30, v31, v32, v33, v34, v3z⟩ := blk5 b3.out
   go_upto_region 7 with fail
   clear v00 v01 v02 v03 v04 v0z v10 v11 v12 v13 v14 v1z v20 v21 v22 v23 v24 v2z v30 v31 v32 v33 v34 v3z
   go_cut [8, 9] from 23 to 30 (fun s8 s9 wx => ∃ (p : Nat) (z : J) (zD3 zD4 : Option Addr) (zd3 zd4 : Nat) (ok : Bool), s8 = .pointer (some ⟨p, 0, none⟩) ∧ s9 = .bool ok ∧ Hd (Bnd 100000 z) ∧ Hd (Blk wx p #[.int .i64 z.kind, .int .i64 z.n, .string z.s, .slice zD3 z.list.length zd3, .slice zD4 z.names.length zd4] 27) ∧ Hd ((tJ 9).O wx (fun q => (fun q => w.heap.size + 2 ≤ q ∧ q ≠ g ∧ q ≠ w3.heap.size ∧ q ≠ w5.heap.size) q ∧ q ≠ p) z [Value.int IntKind.i64 z.kind, .int .i64 z.n, .string z.s, .slice zD3 z.list.length zd3, .slice zD4 z.names.length zd4]) ∧ Hd (w5.heap.size < p) ∧ Hd (Blk wx w.heap.size #[.int .i64 0, .int .i64 0, .string ⟨#[]⟩, .slice none 0 0, .slice none 0 0] 27) ∧ Hd (Blk wx (w.heap.size + 1) #[.int .i64 0, .int .i64 0, .string ⟨#[]⟩, .slice none 0 0, .slice none 0 0] 27) ∧ Hd (Blk wx w3.heap.size #[.int .i64 a.kind, .int .i64 a.n, .string a.s, .slice aD3 a.list.length ad3, .slice aD4 a.names.length ad4] 27) ∧ Hd (Blk wx w5.heap.size #[.int .i64 j.kind, .int .i64 j.n, .string j.s, .slice jD3 j.list.length jd3, .slice jD4 j.names.length jd4] 27) ∧ Hd ((tJ 9).O wx (fun q => w.heap.size + 2 ≤ q ∧ q ≠ g ∧ q ≠ w3.heap.size ∧ q ≠ w5.heap.size) a [Value.int IntKind.i64 a.kind, .int .i64 a.n, .string a.s, .slice aD3 a.list.length ad3, .slice aD4 a.names.length ad4]) ∧ Hd ((tJ 9).O wx (fun q => w.heap.size + 2 ≤ q ∧ q ≠ g ∧ q ≠ w3.heap.size ∧ q ≠ w5.heap.size) j [Value.int IntKind.i64 j.kind, .int .i64 j.n, .string j.s, .slice jD3 j.list.length jd3, .slice jD4 j.names.length jd4]) ∧ Hd (Cur w wx g) ∧ Hd (Below w.heap.size w wx) ∧ Hd (w5.heap.size < wx.heap.size))
   case first =>
    replace hA := Hd.mk (Ty.O_bound _ hA.out)
    replace hJ := Hd.mk (Ty.O_bound _ hJ.out)
    have sb0 := Hd.mk b0.out
    have sb1 := Hd.mk b1.out
    have sb2 := Hd.mk b2.out
    have sb3 := Hd.mk b3.out
    refine region_mixC (fun w2 => Fr w6 w2 (fun k => k = g)) (.q 0 (.q 2 (.p 1 (.br 3 8 (.br 4 8 (.p 5 (.p 6 (.p 7 (.b 8 .fin)))) (.b 4 (.p 5 (.p 6 (.p 7 .fin))))) (.b 3 (.b 4 (.p 5 (.p 6 (.p 7 .fin))))))))) [9, 10] (by kernel_rfl) (Fr.drew (Fr.refl _ _)) (by kernel_rfl) (fun _ _ _ _ _ h => h) ?_
    refine genT ?_
    intro W7 hW
    have hS := Hd.mk (show Fr w6 W7 (fun k => k = g) by rw [hW]; exact Fr.drew (Fr.refl _ _))
    have hz_ : w6.heap.size ≤ W7.heap.size := by rw [hW]; simp
    have hE : Below w6.heap.size w6 W7 := by rw [hW]; (repeat (first | with_reducible refine below_alloc ?_ _ | with_reducible refine below_drew ?_)); exact Below.refl _ _
    have hB := hB.th hE
    have hC := Hd.mk (hC.out.below hE)
    have b0 := b0.dn hE
    have b1 := b1.dn hE
    have b2 := b2.dn hE
    have b3 := b3.dn hE
    have hA := hA.ob hE
    have hJ := hJ.ob hE
    clear hW hE
    have z7 := Hd.mk hz_; clear hz_
    refine mixT_see rfl (by rfl) (Value.agg #[.int .i64 j.kind, .int .i64 j.n, .string j.s, .slice jD3 j.list.length jd3, .slice jD4 j.names.length jd4]) (fun w_ hw_ => by have hPP_ := hPP.out; have hzw_ := hzw.out; have z6_ := z6.out; have z7_ := z7.out; have f0_ := (sb3.out.fr hw_ (fun h => by have hg_ := hG.out; skip; have hlt_ := sb3.out.lt; (try simp only at h); omega)).cell 0 rfl; have f1_ := (sb3.out.fr hw_ (fun h => by have hg_ := hG.out; skip; have hlt_ := sb3.out.lt; (try simp only at h); omega)).cell 1 rfl; have f2_ := (sb3.out.fr hw_ (fun h => by have hg_ := hG.out; skip; have hlt_ := sb3.out.lt; (try simp only at h); omega)).cell 2 rfl; have f3_ := (sb3.out.fr hw_ (fun h => by have hg_ := hG.out; skip; have hlt_ := sb3.out.lt; (try simp only at h); omega)).cell 3 rfl; have f4_ := (sb3.out.fr hw_ (fun h => by have hg_ := hG.out; skip; have hlt_ := sb3.out.lt; (try simp only at h); omega)).cell 4 rfl; simp [execOp, go_sem, f0_, f1_, f2_, f3_, f4_]) hS.out ?_
    obtain ⟨v00, v01, v02, v03, v04, v0z⟩ := blk5 b0.out
    obtain ⟨v10, v11, v12, v13, v14, v1z⟩ := blk5 b1.out
    obtain ⟨v20, v21, v22, v23, v24, v2z⟩ := blk5 b2.out
    obtain ⟨v30, v31, v32, v33, v34, v3z⟩ := blk5 b3.out
    go_wp2_with fail
    refine mixQ_n ?_
    clear v00 v01 v02 v03 v04 v0z v10 v11 v12 v13 v14 v1z v20 v21 v22 v23 v24 v2z v30 v31 v32 v33 v34 v3z
    refine mixT_see rfl (by rfl) (Value.agg #[.int .i64 j.kind, .int .i64 j.n, .string j.s, .slice jD3 j.list.length jd3, .slice jD4 j.names.length jd4]) (fun w_ hw_ => by have hPP_ := hPP.out; have hzw_ := hzw.out; have z6_ := z6.out; have z7_ := z7.out; have f0_ := (sb3.out.fr hw_ (fun h => by have hg_ := hG.out; skip; have hlt_ := sb3.out.lt; (try simp only at h); omega)).cell 0 rfl; have f1_ := (sb3.out.fr hw_ (fun h => by have hg_ := hG.out; skip; have hlt_ := sb3.out.lt; (try simp only at h); omega)).cell 1 rfl; have f2_ := (sb3.out.fr hw_ (fun h => by have hg_ := hG.out; skip; have hlt_ := sb3.out.lt; (try simp only at h); omega)).cell 2 rfl; have f3_ := (sb3.out.fr hw_ (fun h => by have hg_ := hG.out; skip; have hlt_ := sb3.out.lt; (try simp only at h); omega)).cell 3 rfl; have f4_ := (sb3.out.fr hw_ (fun h => by have hg_ := hG.out; skip; have hlt_ := sb3.out.lt; (try simp only at h); omega)).cell 4 rfl; simp [execOp, go_sem, f0_, f1_, f2_, f3_, f4_]) hS.out ?_
    obtain ⟨v00, v01, v02, v03, v04, v0z⟩ := blk5 b0.out
    obtain ⟨v10, v11, v12, v13, v14, v1z⟩ := blk5 b1.out
    obtain ⟨v20, v21, v22, v23, v24, v2z⟩ := blk5 b2.out
    obtain ⟨v30, v31, v32, v33, v34, v3z⟩ := blk5 b3.out
    go_wp2_with fail
    refine mixQ_n ?_
    clear v00 v01 v02 v03 v04 v0z v10 v11 v12 v13 v14 v1z v20 v21 v22 v23 v24 v2z v30 v31 v32 v33 v34 v3z
    refine mixT_p rfl ?_
    go_big_quiet_want; go_big_quiet_op; go_big_quiet_on; refine wpQuiet_nil ?_
    refine ⟨?_, ?_⟩
    ·refine stepM_of rfl ?_ (by rfl)
     go_wp2_with fail
     apply calls_gen; intro W8 hW
     have hz_ : W7.heap.size ≤ W8.heap.size := by rw [hW]; simp
     have hE : Below W7.heap.size W7 W8 := by rw [hW]; (repeat (first | with_reducible refine below_alloc ?_ _ | with_reducible refine below_drew ?_)); exact Below.refl _ _
     have hB := hB.th hE
     have hC := Hd.mk (hC.out.below hE)
     replace hS := Hd.mk (hS.out.trans (Fr.of_below hE _))
     have b0 := b0.dn hE
     have b1 := b1.dn hE
     have b2 := b2.dn hE
     have b3 := b3.dn hE
     have hA := hA.ob hE
     have hJ := hJ.ob hE
     clear hW hE
     have z8 := Hd.mk hz_; clear hz_
     have hP_ := hPP.out
     refine (spec_l4DrawOp (B := 100000) (S := fun q => (fun q => w.heap.size + 2 ≤ q ∧ q ≠ g ∧ q ≠ w3.heap.size ∧ q ≠ w5.heap.size) q ∧ q < w6.heap.size) j [Value.int IntKind.i64 j.kind, .int .i64 j.n, .string j.s, .slice jD3 j.list.length jd3, .slice jD4 j.names.length jd4] w _ g (by decide) (by decide) hJ.out (fun h => h.1.2.1 rfl) hBJ.out hC.out).mono ?_
     rintro e w9 ⟨op, cso, rfl, hOp, _, _, _, hC1, hX⟩
     have hC := Hd.mk hC1; clear hC1
     have hSz0 := hB.out.size
     have hg_ := hG.out
     have hPP_ := hPP.out; have hzw_ := hzw.out; have z6_ := z6.out; have z7_ := z7.out; have z8_ := z8.out
     have b0 := Hd.mk (b0.out.fr hX (fun h => by skip; (try simp only at h); omega))
     have b1 := Hd.mk (b1.out.fr hX (fun h => by skip; (try simp only at h); omega))
     have b2 := Hd.mk (b2.out.fr hX (fun h => by skip; (try simp only at h); omega))
     have b3 := Hd.mk (b3.out.fr hX (fun h => by skip; (try simp only at h); omega))
     have hA := Hd.mk (Ty.O_fr hA.out hX (fun k hk hl h => by have q_ := hk.1; have q3_ := hk.2; have hP_ := hPP.out; have hg_ := hG.out; have q2_ := hk.1.2.1; (try simp only at q_); (try simp only at q3_); (try simp only [rng] at hk); (try simp only at hk); (try simp only at h); omega))
     have hJ := Hd.mk (Ty.O_fr hJ.out hX (fun k hk hl h => by have q_ := hk.1; have q3_ := hk.2; have hP_ := hPP.out; have hg_ := hG.out; have q2_ := hk.1.2.1; (try simp only at q_); (try simp only at q3_); (try simp only [rng] at hk); (try simp only at hk); (try simp only at h); omega))
     have hB := Hd.mk (below_frS hB.out hX (fun k h => by (try simp only at h); omega))
     replace hS := Hd.mk (hS.out.trans hX)
     have hz_ := hX.size
     clear hSz0 hg_ hX
     have z9 := Hd.mk hz_; clear hz_
     obtain ⟨ov, oc, _, _, rfl, or3, oj3, _⟩ := tOp_O.1 hOp
     obtain ⟨oA, oa, rfl, _, _⟩ := R_C or3
     obtain ⟨ov3, ov4, _, _, rfl, _, or5, or6, _⟩ := tJ_O.1 oj3
     obtain ⟨oD3, od3, rfl, _, _⟩ := R_C or5
     obtain ⟨oD4, od4, rfl, _, _⟩ := R_C or6
     clear or3 oj3 or5 or6
     have hOp := Hd.mk (show (tOp 9).O w9 (rng W8.heap.size w9.heap.size) op _ from Ty.O_bound _ hOp)
     go_wp2_with fail
     refine ⟨hS.out, ?_⟩
     refine ⟨?_, ?_⟩
     ·refine stepM_of rfl ?_ (by rfl)
      go_wp2_with fail
      apply calls_gen; intro W10 hW
      have hz_ : w9.heap.size ≤ W10.heap.size := by rw [hW]; simp
      have hE : Below w9.heap.size w9 W10 := by rw [hW]; (repeat (first | with_reducible refine below_alloc ?_ _ | with_reducible refine below_drew ?_)); exact Below.refl _ _
      have hB := hB.th hE
      have hC := Hd.mk (hC.out.below hE)
      replace hS := Hd.mk (hS.out.trans (Fr.of_below hE _))
      have b0 := b0.dn hE
      have b1 := b1.dn hE
      have b2 := b2.dn hE
      have b3 := b3.dn hE
      have hA := hA.ob hE
      have hJ := hJ.ob hE
      have hOp := hOp.ob hE
      clear hW hE
      have z10 := Hd.mk hz_; clear hz_
      refine (spec_Patch (B := 8) j _ op _ _ (Ty.O_K _ hJ.out) (Ty.O_K _ hOp.out)).mono ?_
      rintro e w11 ⟨csz, rfl, hZ, hX⟩
      have b0 := b0.dn hX
      have b1 := b1.dn hX
      have b2 := b2.dn hX
      have b3 := b3.dn hX
      have hA := hA.ob hX
      have hJ := hJ.ob hX
      have hOp := hOp.ob hX
      have hB := hB.th hX
      have hC := Hd.mk (hC.out.below hX)
      replace hS := Hd.mk (hS.out.trans (Fr.of_below hX _))
      have hz_ := hX.size
      clear hX
      have z11 := Hd.mk hz_; clear hz_
      clear hOp
      replace hZ := tJ_low 6 (8 + 7) (patchJ_ok j op) hZ
      replace hZ := (tJ_le (show 6 ≤ 9 by decide)).O _ _ _ _ hZ
      have hBZ := Hd.mk (Bnd_ok (patchJ_ok j op))
      obtain ⟨z, hz⟩ : ∃ z, z = patchJ j op := ⟨_, rfl⟩
      rw [← hz] at hZ hBZ
      clear hz
      obtain ⟨ok, hok⟩ : ∃ z, z = patchB j op := ⟨_, rfl⟩
      rw [← hok]
      clear hok
      obtain ⟨zv3, zv4, _, _, rfl, _, zr3, zr4, _⟩ := tJ_O.1 hZ
      obtain ⟨zD3, zd3, rfl, _, _⟩ := R_C zr3
      obtain ⟨zD4, zd4, rfl, _, _⟩ := R_C zr4
      clear zr3 zr4
      have hZ := Hd.mk (show (tJ 9).O w11 (rng W10.heap.size w11.heap.size) z _ from Ty.O_bound _ hZ)
      go_wp2_with fail
      refine ⟨hS.out, ?_⟩
      iterate 3 (refine mixT_p rfl ?_; go_big_quiet_want; go_big_quiet_op; go_big_quiet_on; refine wpQuiet_nil ?_)
      refine mixT_b rfl ?_ (by rfl)
      go_wp2_with fail
      refine ⟨hS.out.alloc _, ?_⟩
      refine genT ?_; intro W12 hW
      have hz_ : w11.heap.size + 1 ≤ W12.heap.size := by rw [hW]; simp
      have hE : Below w11.heap.size w11 W12 := by rw [hW]; (repeat (first | with_reducible refine below_alloc ?_ _ | with_reducible refine below_drew ?_)); exact Below.refl _ _
      have hB := hB.th hE
      have hC := Hd.mk (hC.out.below hE)
      replace hS := Hd.mk (hS.out.trans (Fr.of_below hE _))
      have b0 := b0.dn hE
      have b1 := b1.dn hE
      have b2 := b2.dn hE
      have b3 := b3.dn hE
      have b4 := Hd.mk (show Blk W12 (w11.heap.size) #[.int .i64 0, .int .i64 0, .string ⟨#[]⟩, .slice none 0 0, .slice none 0 0] 27 by rw [hW]; first | exact (Blk.new _ _ _) | (simpa using (Blk.new _ _ _)))
      have hA := hA.ob hE
      have hJ := hJ.ob hE
      have hZ := hZ.ob hE
      clear hW hE
      have z12 := Hd.mk hz_; clear hz_
      refine mixT_fin ?_
      clear hS
      obtain ⟨v00, v01, v02, v03, v04, v0z⟩ := blk5 b0.out
      obtain ⟨v10, v11, v12, v13, v14, v1z⟩ := blk5 b1.out
      obtain ⟨v20, v21, v22, v23, v24, v2z⟩ := blk5 b2.out
      obtain ⟨v30, v31, v32, v33, v34, v3z⟩ := blk5 b3.out
      obtain ⟨v40, v41, v42, v43, v44, v4z⟩ := blk5 b4.out
      refine tail_b rfl ?_ (by rfl)
      go_wp2_with fail
      refine mixQ_n ?_
      refine tail_b rfl ?_ (by rfl)
      go_wp2_with fail
      refine mixQ_n ?_
      refine tail_nil ?_
      clear v00 v01 v02 v03 v04 v0z v10 v11 v12 v13 v14 v1z v20 v21 v22 v23 v24 v2z v30 v31 v32 v33 v34 v3z v40 v41 v42 v43 v44 v4z
      go_wp2_with fail
      go_meet
      have key : ∀ W, W = (((((W12.setCell ⟨w11.heap.size, 0, none⟩ (Value.int IntKind.i64 z.kind)).setCell ⟨w11.heap.size, 1, none⟩ (Value.int IntKind.i64 z.n)).setCell ⟨w11.heap.size, 2, none⟩ (Value.string z.s)).setCell ⟨w11.heap.size, 3, none⟩ (Value.slice zD3 z.list.length zd3)).setCell ⟨w11.heap.size, 4, none⟩ (Value.slice zD4 z.names.length zd4)) → ∃ (p : Nat), p = w11.heap.size ∧ Hd (Bnd 100000 z) ∧ Hd (Blk W p #[.int .i64 z.kind, .int .i64 z.n, .string z.s, .slice zD3 z.list.length zd3, .slice zD4 z.names.length zd4] 27) ∧ Hd ((tJ 9).O W (fun q => (fun q => w.heap.size + 2 ≤ q ∧ q ≠ g ∧ q ≠ w3.heap.size ∧ q ≠ w5.heap.size) q ∧ q ≠ p) z [Value.int IntKind.i64 z.kind, .int .i64 z.n, .string z.s, .slice zD3 z.list.length zd3, .slice zD4 z.names.length zd4]) ∧ Hd (w5.heap.size < p) ∧ Hd (Blk W w.heap.size #[.int .i64 0, .int .i64 0, .string ⟨#[]⟩, .slice none 0 0, .slice none 0 0] 27) ∧ Hd (Blk W (w.heap.size + 1) #[.int .i64 0, .int .i64 0, .string ⟨#[]⟩, .slice none 0 0, .slice none 0 0] 27) ∧ Hd (Blk W w3.heap.size #[.int .i64 a.kind, .int .i64 a.n, .string a.s, .slice aD3 a.list.length ad3, .slice aD4 a.names.length ad4] 27) ∧ Hd (Blk W w5.heap.size #[.int .i64 j.kind, .int .i64 j.n, .string j.s, .slice jD3 j.list.length jd3, .slice jD4 j.names.length jd4] 27) ∧ Hd ((tJ 9).O W (fun q => w.heap.size + 2 ≤ q ∧ q ≠ g ∧ q ≠ w3.heap.size ∧ q ≠ w5.heap.size) a [Value.int IntKind.i64 a.kind, .int .i64 a.n, .string a.s, .slice aD3 a.list.length ad3, .slice aD4 a.names.length ad4]) ∧ Hd ((tJ 9).O W (fun q => w.heap.size + 2 ≤ q ∧ q ≠ g ∧ q ≠ w3.heap.size ∧ q ≠ w5.heap.size) j [Value.int IntKind.i64 j.kind, .int .i64 j.n, .string j.s, .slice jD3 j.list.length jd3, .slice jD4 j.names.length jd4]) ∧ Hd (Cur w W g) ∧ Hd (Below w.heap.size w W) ∧ Hd (w5.heap.size < W.heap.size) := by
       intro W hW
       have hPP_ := hPP.out; have hzw_ := hzw.out; have z6_ := z6.out; have z7_ := z7.out; have z8_ := z8.out; have z9_ := z9.out; have z10_ := z10.out; have z11_ := z11.out; have z12_ := z12.out
       have hP_ := hPP.out
       have hSz_ := hB.out.size
       have hz_ : W12.heap.size ≤ W.heap.size := by rw [hW]; simp
       have eF : Fr W12 W (fun k => k = w11.heap.size ∨ W12.heap.size ≤ k) := by rw [hW]; (repeat (first | with_reducible refine Fr.setCell ?_ _ (fun _ => by simp <;> omega) _ | with_reducible refine Fr.alloc ?_ _ | with_reducible refine Fr.drew ?_)); exact Fr.refl _ _
       have hPP_ := hPP.out; have hzw_ := hzw.out; have z6_ := z6.out; have z7_ := z7.out; have z8_ := z8.out; have z9_ := z9.out; have z10_ := z10.out; have z11_ := z11.out; have z12_ := z12.out
       have hC := Hd.mk (hC.out.fr eF (fun h => by have hg_ := hG.out; have hlt_ := hC.out.lt; (try simp only [rng] at h); (try simp only at h); omega) (fun k h => by have hg_ := hG.out; have hge_ := hC.out.ge; (try simp only [rng] at h); (try simp only at h); omega))
       have hB := Hd.mk (((Fr.of_below hB.out (fun k => k = w11.heap.size ∨ W12.heap.size ≤ k)).then_ eF (fun k hk _ => hk)).below (fun k hk => by have := hB.out.size; omega))
       have b0 := Hd.mk (b0.out.fr eF (fun h => by have hlt_ := b0.out.lt; (try simp only at h); omega))
       have b1 := Hd.mk (b1.out.fr eF (fun h => by have hlt_ := b1.out.lt; (try simp only at h); omega))
       have b2 := Hd.mk (b2.out.fr eF (fun h => by have hlt_ := b2.out.lt; (try simp only at h); omega))
       have b3 := Hd.mk (b3.out.fr eF (fun h => by have hlt_ := b3.out.lt; (try simp only at h); omega))
       have b4 := Hd.mk (show Blk W (w11.heap.size) #[.int .i64 z.kind, .int .i64 z.n, .string z.s, .slice zD3 z.list.length zd3, .slice zD4 z.names.length zd4] 27 by rw [hW]; exact (Blk.all b4.out [Value.int IntKind.i64 z.kind, .int .i64 z.n, .string z.s, .slice zD3 z.list.length zd3, .slice zD4 z.names.length zd4] rfl))
       have hA := Hd.mk (Ty.O_fr hA.out eF (fun k hk hl h => by have q_ := hk.1; have q3_ := hk.2; have hP_ := hPP.out; have hg_ := hG.out; have q2_ := hk.1.2.1; (try simp only at q_); (try simp only at q3_); (try simp only [rng] at hk); (try simp only at hk); (try simp only at h); omega))
       have hJ := Hd.mk (Ty.O_fr hJ.out eF (fun k hk hl h => by have q_ := hk.1; have q3_ := hk.2; have hP_ := hPP.out; have hg_ := hG.out; have q2_ := hk.1.2.1; (try simp only at q_); (try simp only at q3_); (try simp only [rng] at hk); (try simp only at hk); (try simp only at h); omega))
       have hZ := Hd.mk (Ty.O_fr hZ.out eF (fun k hk hl h => by skip; (try simp only [rng] at hk); (try simp only at hk); (try simp only at h); omega))
       clear hW eF
       have z13 := Hd.mk hz_; clear hz_
       have hP_ := hPP.out
       have hPP_ := hPP.out; have hzw_ := hzw.out; have z6_ := z6.out; have z7_ := z7.out; have z8_ := z8.out; have z9_ := z9.out; have z10_ := z10.out; have z11_ := z11.out; have z12_ := z12.out; have z13_ := z13.out
       exact ⟨_, rfl, hBZ, b4, ⟨Ty.O_mono _ (fun q h => by have h1 := h.1; have h2 := h.2; exact ⟨⟨by omega, by omega, by omega, by omega⟩, by omega⟩) hZ.out⟩, ⟨by omega⟩, b0, b1, b2, b3, ⟨Ty.O_mono _ (fun q h => h.1) hA.out⟩, ⟨Ty.O_mono _ (fun q h => h.1) hJ.out⟩, hC, hB, ⟨by omega⟩⟩
      obtain ⟨p, rfl, h1⟩ := key _ rfl
      exact ⟨_, z, zD3, zD4, zd3, zd4, ok, rfl, rfl, h1⟩
     ·refine stepM_of rfl ?_ (by rfl)
      go_wp2_with fail
      refine ⟨hS.out.alloc _, ?_⟩
      refine genT ?_; intro W10 hW
      have hz_ : w9.heap.size + 1 ≤ W10.heap.size := by rw [hW]; simp
      have hE : Below w9.heap.size w9 W10 := by rw [hW]; (repeat (first | with_reducible refine below_alloc ?_ _ | with_reducible refine below_drew ?_)); exact Below.refl _ _
      have hB := hB.th hE
      have hC := Hd.mk (hC.out.below hE)
      replace hS := Hd.mk (hS.out.trans (Fr.of_below hE _))
      have b0 := b0.dn hE
      have b1 := b1.dn hE
      have b2 := b2.dn hE
      have b3 := b3.dn hE
      have b4 := Hd.mk (show Blk W10 (w9.heap.size) #[.int .i64 0, .int .i64 0, .string ⟨#[]⟩, .slice none 0 0, .slice none 0 0] 27 by rw [hW]; first | exact (Blk.new _ _ _) | (simpa using (Blk.new _ _ _)))
      have hA := hA.ob hE
      have hJ := hJ.ob hE
      have hOp := hOp.ob hE
      clear hW hE
      have z10 := Hd.mk hz_; clear hz_
      refine mixT_b rfl ?_ (by rfl)
      go_wp2_with fail
      apply calls_gen; intro W11 hW
      have hz_ : W10.heap.size ≤ W11.heap.size := by rw [hW]; simp
      have hE : Below W10.heap.size W10 W11 := by rw [hW]; (repeat (first | with_reducible refine below_alloc ?_ _ | with_reducible refine below_drew ?_)); exact Below.refl _ _
      have hB := hB.th hE
      have hC := Hd.mk (hC.out.below hE)
      replace hS := Hd.mk (hS.out.trans (Fr.of_below hE _))
      have b0 := b0.dn hE
      have b1 := b1.dn hE
      have b2 := b2.dn hE
      have b3 := b3.dn hE
      have b4 := b4.dn hE
      have hA := hA.ob hE
      have hJ := hJ.ob hE
      have hOp := hOp.ob hE
      clear hW hE
      have z11 := Hd.mk hz_; clear hz_
      refine (spec_Patch (B := 8) j _ op _ _ (Ty.O_K _ hJ.out) (Ty.O_K _ hOp.out)).mono ?_
      rintro e w12 ⟨csz, rfl, hZ, hX⟩
      have b0 := b0.dn hX
      have b1 := b1.dn hX
      have b2 := b2.dn hX
      have b3 := b3.dn hX
      have b4 := b4.dn hX
      have hA := hA.ob hX
      have hJ := hJ.ob hX
      have hOp := hOp.ob hX
      have hB := hB.th hX
      have hC := Hd.mk (hC.out.below hX)
      replace hS := Hd.mk (hS.out.trans (Fr.of_below hX _))
      have hz_ := hX.size
      clear hX
      have z12 := Hd.mk hz_; clear hz_
      clear hOp
      replace hZ := tJ_low 6 (8 + 7) (patchJ_ok j op) hZ
      replace hZ := (tJ_le (show 6 ≤ 9 by decide)).O _ _ _ _ hZ
      have hBZ := Hd.mk (Bnd_ok (patchJ_ok j op))
      obtain ⟨z, hz⟩ : ∃ z, z = patchJ j op := ⟨_, rfl⟩
      rw [← hz] at hZ hBZ
      clear hz
      obtain ⟨ok, hok⟩ : ∃ z, z = patchB j op := ⟨_, rfl⟩
      rw [← hok]
      clear hok
      obtain ⟨zv3, zv4, _, _, rfl, _, zr3, zr4, _⟩ := tJ_O.1 hZ
      obtain ⟨zD3, zd3, rfl, _, _⟩ := R_C zr3
      obtain ⟨zD4, zd4, rfl, _, _⟩ := R_C zr4
      clear zr3 zr4
      have hZ := Hd.mk (show (tJ 9).O w12 (rng W11.heap.size w12.heap.size) z _ from Ty.O_bound _ hZ)
      go_wp2_with fail
      refine ⟨hS.out, ?_⟩
      iterate 3 (refine mixT_p rfl ?_; go_big_quiet_want; go_big_quiet_op; go_big_quiet_on; refine wpQuiet_nil ?_)
      refine mixT_fin ?_
      clear hS
      obtain ⟨v00, v01, v02, v03, v04, v0z⟩ := blk5 b0.out
      obtain ⟨v10, v11, v12, v13, v14, v1z⟩ := blk5 b1.out
      obtain ⟨v20, v21, v22, v23, v24, v2z⟩ := blk5 b2.out
      obtain ⟨v30, v31, v32, v33, v34, v3z⟩ := blk5 b3.out
      obtain ⟨v40, v41, v42, v43, v44, v4z⟩ := blk5 b4.out
      refine tail_b rfl ?_ (by rfl)
      go_wp2_with fail
      refine mixQ_n ?_
      refine tail_b rfl ?_ (by rfl)
      go_wp2_with fail
      refine mixQ_n ?_
      refine tail_nil ?_
      clear v00 v01 v02 v03 v04 v0z v10 v11 v12 v13 v14 v1z v20 v21 v22 v23 v24 v2z v30 v31 v32 v33 v34 v3z v40 v41 v42 v43 v44 v4z
      go_wp2_with fail
      go_meet
      have key : ∀ W, W = (((((w12.setCell ⟨w9.heap.size, 0, none⟩ (Value.int IntKind.i64 z.kind)).setCell ⟨w9.heap.size, 1, none⟩ (Value.int IntKind.i64 z.n)).setCell ⟨w9.heap.size, 2, none⟩ (Value.string z.s)).setCell ⟨w9.heap.size, 3, none⟩ (Value.slice zD3 z.list.length zd3)).setCell ⟨w9.heap.size, 4, none⟩ (Value.slice zD4 z.names.length zd4)) → ∃ (p : Nat), p = w9.heap.size ∧ Hd (Bnd 100000 z) ∧ Hd (Blk W p #[.int .i64 z.kind, .int .i64 z.n, .string z.s, .slice zD3 z.list.length zd3, .slice zD4 z.names.length zd4] 27) ∧ Hd ((tJ 9).O W (fun q => (fun q => w.heap.size + 2 ≤ q ∧ q ≠ g ∧ q ≠ w3.heap.size ∧ q ≠ w5.heap.size) q ∧ q ≠ p) z [Value.int IntKind.i64 z.kind, .int .i64 z.n, .string z.s, .slice zD3 z.list.length zd3, .slice zD4 z.names.length zd4]) ∧ Hd (w5.heap.size < p) ∧ Hd (Blk W w.heap.size #[.int .i64 0, .int .i64 0, .string ⟨#[]⟩, .slice none 0 0, .slice none 0 0] 27) ∧ Hd (Blk W (w.heap.size + 1) #[.int .i64 0, .int .i64 0, .string ⟨#[]⟩, .slice none 0 0, .slice none 0 0] 27) ∧ Hd (Blk W w3.heap.size #[.int .i64 a.kind, .int .i64 a.n, .string a.s, .slice aD3 a.list.length ad3, .slice aD4 a.names.length ad4] 27) ∧ Hd (Blk W w5.heap.size #[.int .i64 j.kind, .int .i64 j.n, .string j.s, .slice jD3 j.list.length jd3, .slice jD4 j.names.length jd4] 27) ∧ Hd ((tJ 9).O W (fun q => w.heap.size + 2 ≤ q ∧ q ≠ g ∧ q ≠ w3.heap.size ∧ q ≠ w5.heap.size) a [Value.int IntKind.i64 a.kind, .int .i64 a.n, .string a.s, .slice aD3 a.list.length ad3, .slice aD4 a.names.length ad4]) ∧ Hd ((tJ 9).O W (fun q => w.heap.size + 2 ≤ q ∧ q ≠ g ∧ q ≠ w3.heap.size ∧ q ≠ w5.heap.size) j [Value.int IntKind.i64 j.kind, .int .i64 j.n, .string j.s, .slice jD3 j.list.length jd3, .slice jD4 j.names.length jd4]) ∧ Hd (Cur w W g) ∧ Hd (Below w.heap.size w W) ∧ Hd (w5.heap.size < W.heap.size) := by
       intro W hW
       have hPP_ := hPP.out; have hzw_ := hzw.out; have z6_ := z6.out; have z7_ := z7.out; have z8_ := z8.out; have z9_ := z9.out; have z10_ := z10.out; have z11_ := z11.out; have z12_ := z12.out
       have hP_ := hPP.out
       have hSz_ := hB.out.size
       have hz_ : w12.heap.size ≤ W.heap.size := by rw [hW]; simp
       have eF : Fr w12 W (fun k => k = w9.heap.size ∨ w12.heap.size ≤ k) := by rw [hW]; (repeat (first | with_reducible refine Fr.setCell ?_ _ (fun _ => by simp <;> omega) _ | with_reducible refine Fr.alloc ?_ _ | with_reducible refine Fr.drew ?_)); exact Fr.refl _ _
       have hPP_ := hPP.out; have hzw_ := hzw.out; have z6_ := z6.out; have z7_ := z7.out; have z8_ := z8.out; have z9_ := z9.out; have z10_ := z10.out; have z11_ := z11.out; have z12_ := z12.out
       have hC := Hd.mk (hC.out.fr eF (fun h => by have hg_ := hG.out; have hlt_ := hC.out.lt; (try simp only [rng] at h); (try simp only at h); omega) (fun k h => by have hg_ := hG.out; have hge_ := hC.out.ge; (try simp only [rng] at h); (try simp only at h); omega))
       have hB := Hd.mk (((Fr.of_below hB.out (fun k => k = w9.heap.size ∨ w12.heap.size ≤ k)).then_ eF (fun k hk _ => hk)).below (fun k hk => by have := hB.out.size; omega))
       have b0 := Hd.mk (b0.out.fr eF (fun h => by have hlt_ := b0.out.lt; (try simp only at h); omega))
       have b1 := Hd.mk (b1.out.fr eF (fun h => by have hlt_ := b1.out.lt; (try simp only at h); omega))
       have b2 := Hd.mk (b2.out.fr eF (fun h => by have hlt_ := b2.out.lt; (try simp only at h); omega))
       have b3 := Hd.mk (b3.out.fr eF (fun h => by have hlt_ := b3.out.lt; (try simp only at h); omega))
       have b4 := Hd.mk (show Blk W (w9.heap.size) #[.int .i64 z.kind, .int .i64 z.n, .string z.s, .slice zD3 z.list.length zd3, .slice zD4 z.names.length zd4] 27 by rw [hW]; exact (Blk.all b4.out [Value.int IntKind.i64 z.kind, .int .i64 z.n, .string z.s, .slice zD3 z.list.length zd3, .slice zD4 z.names.length zd4] rfl))
       have hA := Hd.mk (Ty.O_fr hA.out eF (fun k hk hl h => by have q_ := hk.1; have q3_ := hk.2; have hP_ := hPP.out; have hg_ := hG.out; have q2_ := hk.1.2.1; (try simp only at q_); (try simp only at q3_); (try simp only [rng] at hk); (try simp only at hk); (try simp only at h); omega))
       have hJ := Hd.mk (Ty.O_fr hJ.out eF (fun k hk hl h => by have q_ := hk.1; have q3_ := hk.2; have hP_ := hPP.out; have hg_ := hG.out; have q2_ := hk.1.2.1; (try simp only at q_); (try simp only at q3_); (try simp only [rng] at hk); (try simp only at hk); (try simp only at h); omega))
       have hZ := Hd.mk (Ty.O_fr hZ.out eF (fun k hk hl h => by skip; (try simp only [rng] at hk); (try simp only at hk); (try simp only at h); omega))
       clear hW eF
       have z13 := Hd.mk hz_; clear hz_
       have hP_ := hPP.out
       have hPP_ := hPP.out; have hzw_ := hzw.out; have z6_ := z6.out; have z7_ := z7.out; have z8_ := z8.out; have z9_ := z9.out; have z10_ := z10.out; have z11_ := z11.out; have z12_ := z12.out; have z13_ := z13.out
       exact ⟨_, rfl, hBZ, b4, ⟨Ty.O_mono _ (fun q h => by have h1 := h.1; have h2 := h.2; exact ⟨⟨by omega, by omega, by omega, by omega⟩, by omega⟩) hZ.out⟩, ⟨by omega⟩, b0, b1, b2, b3, ⟨Ty.O_mono _ (fun q h => h.1) hA.out⟩, ⟨Ty.O_mono _ (fun q h => h.1) hJ.out⟩, hC, hB, ⟨by omega⟩⟩
      obtain ⟨p, rfl, h1⟩ := key _ rfl
      exact ⟨_, z, zD3, zD4, zd3, zd4, ok, rfl, rfl, h1⟩
    ·refine stepM_of rfl ?_ (by rfl)
     go_wp2_with fail
     refine ⟨hS.out.alloc _, ?_⟩
     refine genT ?_; intro W8 hW
     have hz_ : W7.heap.size + 1 ≤ W8.heap.size := by rw [hW]; simp
     have hE : Below W7.heap.size W7 W8 := by rw [hW]; (repeat (first | with_reducible refine below_alloc ?_ _ | with_reducible refine below_drew ?_)); exact Below.refl _ _
     have hB := hB.th hE
     have hC := Hd.mk (hC.out.below hE)
     replace hS := Hd.mk (hS.out.trans (Fr.of_below hE _))
     have b0 := b0.dn hE
     have b1 := b1.dn hE
     have b2 := b2.dn hE
     have b3 := b3.dn hE
     have b4 := Hd.mk (show Blk W8 (W7.heap.size) #[.int .i64 0, .int .i64 0, .string ⟨#[]⟩, .slice none 0 0, .slice none 0 0] 27 by rw [hW]; first | exact (Blk.new _ _ _) | (simpa using (Blk.new _ _ _)))
     have hA := hA.ob hE
     have hJ := hJ.ob hE
     clear hW hE
     have z8 := Hd.mk hz_; clear hz_
     refine mixT_b rfl ?_ (by rfl)
     go_wp2_with fail
     apply calls_gen; intro W9 hW
     have hz_ : W8.heap.size ≤ W9.heap.size := by rw [hW]; simp
     have hE : Below W8.heap.size W8 W9 := by rw [hW]; (repeat (first | with_reducible refine below_alloc ?_ _ | with_reducible refine below_drew ?_)); exact Below.refl _ _
     have hB := hB.th hE
     have hC := Hd.mk (hC.out.below hE)
     replace hS := Hd.mk (hS.out.trans (Fr.of_below hE _))
     have b0 := b0.dn hE
     have b1 := b1.dn hE
     have b2 := b2.dn hE
     have b3 := b3.dn hE
     have b4 := b4.dn hE
     have hA := hA.ob hE
     have hJ := hJ.ob hE
     clear hW hE
     have z9 := Hd.mk hz_; clear hz_
     have hP_ := hPP.out
     refine (spec_l4DrawOp (B := 100000) (S := fun q => (fun q => w.heap.size + 2 ≤ q ∧ q ≠ g ∧ q ≠ w3.heap.size ∧ q ≠ w5.heap.size) q ∧ q < w6.heap.size) j [Value.int IntKind.i64 j.kind, .int .i64 j.n, .string j.s, .slice jD3 j.list.length jd3, .slice jD4 j.names.length jd4] w _ g (by decide) (by decide) hJ.out (fun h => h.1.2.1 rfl) hBJ.out hC.out).mono ?_
     rintro e w10 ⟨op, cso, rfl, hOp, _, _, _, hC1, hX⟩
     have hC := Hd.mk hC1; clear hC1
     have hSz0 := hB.out.size
     have hg_ := hG.out
     have hPP_ := hPP.out; have hzw_ := hzw.out; have z6_ := z6.out; have z7_ := z7.out; have z8_ := z8.out; have z9_ := z9.out
     have b0 := Hd.mk (b0.out.fr hX (fun h => by skip; (try simp only at h); omega))
     have b1 := Hd.mk (b1.out.fr hX (fun h => by skip; (try simp only at h); omega))
     have b2 := Hd.mk (b2.out.fr hX (fun h => by skip; (try simp only at h); omega))
     have b3 := Hd.mk (b3.out.fr hX (fun h => by skip; (try simp only at h); omega))
     have b4 := Hd.mk (b4.out.fr hX (fun h => by skip; (try simp only at h); omega))
     have hA := Hd.mk (Ty.O_fr hA.out hX (fun k hk hl h => by have q_ := hk.1; have q3_ := hk.2; have hP_ := hPP.out; have hg_ := hG.out; have q2_ := hk.1.2.1; (try simp only at q_); (try simp only at q3_); (try simp only [rng] at hk); (try simp only at hk); (try simp only at h); omega))
     have hJ := Hd.mk (Ty.O_fr hJ.out hX (fun k hk hl h => by have q_ := hk.1; have q3_ := hk.2; have hP_ := hPP.out; have hg_ := hG.out; have q2_ := hk.1.2.1; (try simp only at q_); (try simp only at q3_); (try simp only [rng] at hk); (try simp only at hk); (try simp only at h); omega))
     have hB := Hd.mk (below_frS hB.out hX (fun k h => by (try simp only at h); omega))
     replace hS := Hd.mk (hS.out.trans hX)
     have hz_ := hX.size
     clear hSz0 hg_ hX
     have z10 := Hd.mk hz_; clear hz_
     obtain ⟨ov, oc, _, _, rfl, or3, oj3, _⟩ := tOp_O.1 hOp
     obtain ⟨oA, oa, rfl, _, _⟩ := R_C or3
     obtain ⟨ov3, ov4, _, _, rfl, _, or5, or6, _⟩ := tJ_O.1 oj3
     obtain ⟨oD3, od3, rfl, _, _⟩ := R_C or5
     obtain ⟨oD4, od4, rfl, _, _⟩ := R_C or6
     clear or3 oj3 or5 or6
     have hOp := Hd.mk (show (tOp 9).O w10 (rng W9.heap.size w10.heap.size) op _ from Ty.O_bound _ hOp)
     go_wp2_with fail
     refine ⟨hS.out, ?_⟩
     refine mixT_b rfl ?_ (by rfl)
     go_wp2_with fail
     apply calls_gen; intro W11 hW
     have hz_ : w10.heap.size ≤ W11.heap.size := by rw [hW]; simp
     have hE : Below w10.heap.size w10 W11 := by rw [hW]; (repeat (first | with_reducible refine below_alloc ?_ _ | with_reducible refine below_drew ?_)); exact Below.refl _ _
     have hB := hB.th hE
     have hC := Hd.mk (hC.out.below hE)
     replace hS := Hd.mk (hS.out.trans (Fr.of_below hE _))
     have b0 := b0.dn hE
     have b1 := b1.dn hE
     have b2 := b2.dn hE
     have b3 := b3.dn hE
     have b4 := b4.dn hE
     have hA := hA.ob hE
     have hJ := hJ.ob hE
     have hOp := hOp.ob hE
     clear hW hE
     have z11 := Hd.mk hz_; clear hz_
     refine (spec_Patch (B := 8) j _ op _ _ (Ty.O_K _ hJ.out) (Ty.O_K _ hOp.out)).mono ?_
     rintro e w12 ⟨csz, rfl, hZ, hX⟩
     have b0 := b0.dn hX
     have b1 := b1.dn hX
     have b2 := b2.dn hX
     have b3 := b3.dn hX
     have b4 := b4.dn hX
     have hA := hA.ob hX
     have hJ := hJ.ob hX
     have hOp := hOp.ob hX
     have hB := hB.th hX
     have hC := Hd.mk (hC.out.below hX)
     replace hS := Hd.mk (hS.out.trans (Fr.of_below hX _))
     have hz_ := hX.size
     clear hX
     have z12 := Hd.mk hz_; clear hz_
     clear hOp
     replace hZ := tJ_low 6 (8 + 7) (patchJ_ok j op) hZ
     replace hZ := (tJ_le (show 6 ≤ 9 by decide)).O _ _ _ _ hZ
     have hBZ := Hd.mk (Bnd_ok (patchJ_ok j op))
     obtain ⟨z, hz⟩ : ∃ z, z = patchJ j op := ⟨_, rfl⟩
     rw [← hz] at hZ hBZ
     clear hz
     obtain ⟨ok, hok⟩ : ∃ z, z = patchB j op := ⟨_, rfl⟩
     rw [← hok]
     clear hok
     obtain ⟨zv3, zv4, _, _, rfl, _, zr3, zr4, _⟩ := tJ_O.1 hZ
     obtain ⟨zD3, zd3, rfl, _, _⟩ := R_C zr3
     obtain ⟨zD4, zd4, rfl, _, _⟩ := R_C zr4
     clear zr3 zr4
     have hZ := Hd.mk (show (tJ 9).O w12 (rng W11.heap.size w12.heap.size) z _ from Ty.O_bound _ hZ)
     go_wp2_with fail
     refine ⟨hS.out, ?_⟩
     iterate 3 (refine mixT_p rfl ?_; go_big_quiet_want; go_big_quiet_op; go_big_quiet_on; refine wpQuiet_nil ?_)
     refine mixT_fin ?_
     clear hS
     obtain ⟨v00, v01, v02, v03, v04, v0z⟩ := blk5 b0.out
     obtain ⟨v10, v11, v12, v13, v14, v1z⟩ := blk5 b1.out
     obtain ⟨v20, v21, v22, v23, v24, v2z⟩ := blk5 b2.out
     obtain ⟨v30, v31, v32, v33, v34, v3z⟩ := blk5 b3.out
     obtain ⟨v40, v41, v42, v43, v44, v4z⟩ := blk5 b4.out
     refine tail_b rfl ?_ (by rfl)
     go_wp2_with fail
     refine mixQ_n ?_
     refine tail_b rfl ?_ (by rfl)
     go_wp2_with fail
     refine mixQ_n ?_
     refine tail_nil ?_
     clear v00 v01 v02 v03 v04 v0z v10 v11 v12 v13 v14 v1z v20 v21 v22 v23 v24 v2z v30 v31 v32 v33 v34 v3z v40 v41 v42 v43 v44 v4z
     go_wp2_with fail
     go_meet
     have key : ∀ W, W = (((((w12.setCell ⟨W7.heap.size, 0, none⟩ (Value.int IntKind.i64 z.kind)).setCell ⟨W7.heap.size, 1, none⟩ (Value.int IntKind.i64 z.n)).setCell ⟨W7.heap.size, 2, none⟩ (Value.string z.s)).setCell ⟨W7.heap.size, 3, none⟩ (Value.slice zD3 z.list.length zd3)).setCell ⟨W7.heap.size, 4, none⟩ (Value.slice zD4 z.names.length zd4)) → ∃ (p : Nat), p = W7.heap.size ∧ Hd (Bnd 100000 z) ∧ Hd (Blk W p #[.int .i64 z.kind, .int .i64 z.n, .string z.s, .slice zD3 z.list.length zd3, .slice zD4 z.names.length zd4] 27) ∧ Hd ((tJ 9).O W (fun q => (fun q => w.heap.size + 2 ≤ q ∧ q ≠ g ∧ q ≠ w3.heap.size ∧ q ≠ w5.heap.size) q ∧ q ≠ p) z [Value.int IntKind.i64 z.kind, .int .i64 z.n, .string z.s, .slice zD3 z.list.length zd3, .slice zD4 z.names.length zd4]) ∧ Hd (w5.heap.size < p) ∧ Hd (Blk W w.heap.size #[.int .i64 0, .int .i64 0, .string ⟨#[]⟩, .slice none 0 0, .slice none 0 0] 27) ∧ Hd (Blk W (w.heap.size + 1) #[.int .i64 0, .int .i64 0, .string ⟨#[]⟩, .slice none 0 0, .slice none 0 0] 27) ∧ Hd (Blk W w3.heap.size #[.int .i64 a.kind, .int .i64 a.n, .string a.s, .slice aD3 a.list.length ad3, .slice aD4 a.names.length ad4] 27) ∧ Hd (Blk W w5.heap.size #[.int .i64 j.kind, .int .i64 j.n, .string j.s, .slice jD3 j.list.length jd3, .slice jD4 j.names.length jd4] 27) ∧ Hd ((tJ 9).O W (fun q => w.heap.size + 2 ≤ q ∧ q ≠ g ∧ q ≠ w3.heap.size ∧ q ≠ w5.heap.size) a [Value.int IntKind.i64 a.kind, .int .i64 a.n, .string a.s, .slice aD3 a.list.length ad3, .slice aD4 a.names.length ad4]) ∧ Hd ((tJ 9).O W (fun q => w.heap.size + 2 ≤ q ∧ q ≠ g ∧ q ≠ w3.heap.size ∧ q ≠ w5.heap.size) j [Value.int IntKind.i64 j.kind, .int .i64 j.n, .string j.s, .slice jD3 j.list.length jd3, .slice jD4 j.names.length jd4]) ∧ Hd (Cur w W g) ∧ Hd (Below w.heap.size w W) ∧ Hd (w5.heap.size < W.heap.size) := by
      intro W hW
      have hPP_ := hPP.out; have hzw_ := hzw.out; have z6_ := z6.out; have z7_ := z7.out; have z8_ := z8.out; have z9_ := z9.out; have z10_ := z10.out; have z11_ := z11.out; have z12_ := z12.out
      have hP_ := hPP.out
      have hSz_ := hB.out.size
      have hz_ : w12.heap.size ≤ W.heap.size := by rw [hW]; simp
      have eF : Fr w12 W (fun k => k = W7.heap.size ∨ w12.heap.size ≤ k) := by rw [hW]; (repeat (first | with_reducible refine Fr.setCell ?_ _ (fun _ => by simp <;> omega) _ | with_reducible refine Fr.alloc ?_ _ | with_reducible refine Fr.drew ?_)); exact Fr.refl _ _
      have hPP_ := hPP.out; have hzw_ := hzw.out; have z6_ := z6.out; have z7_ := z7.out; have z8_ := z8.out; have z9_ := z9.out; have z10_ := z10.out; have z11_ := z11.out; have z12_ := z12.out
      have hC := Hd.mk (hC.out.fr eF (fun h => by have hg_ := hG.out; have hlt_ := hC.out.lt; (try simp only [rng] at h); (try simp only at h); omega) (fun k h => by have hg_ := hG.out; have hge_ := hC.out.ge; (try simp only [rng] at h); (try simp only at h); omega))
      have hB := Hd.mk (((Fr.of_below hB.out (fun k => k = W7.heap.size ∨ w12.heap.size ≤ k)).then_ eF (fun k hk _ => hk)).below (fun k hk => by have := hB.out.size; omega))
      have b0 := Hd.mk (b0.out.fr eF (fun h => by have hlt_ := b0.out.lt; (try simp only at h); omega))
      have b1 := Hd.mk (b1.out.fr eF (fun h => by have hlt_ := b1.out.lt; (try simp only at h); omega))
      have b2 := Hd.mk (b2.out.fr eF (fun h => by have hlt_ := b2.out.lt; (try simp only at h); omega))
      have b3 := Hd.mk (b3.out.fr eF (fun h => by have hlt_ := b3.out.lt; (try simp only at h); omega))
      have b4 := Hd.mk (show Blk W (W7.heap.size) #[.int .i64 z.kind, .int .i64 z.n, .string z.s, .slice zD3 z.list.length zd3, .slice zD4 z.names.length zd4] 27 by rw [hW]; exact (Blk.all b4.out [Value.int IntKind.i64 z.kind, .int .i64 z.n, .string z.s, .slice zD3 z.list.length zd3, .slice zD4 z.names.length zd4] rfl))
      have hA := Hd.mk (Ty.O_fr hA.out eF (fun k hk hl h => by have q_ := hk.1; have q3_ := hk.2; have hP_ := hPP.out; have hg_ := hG.out; have q2_ := hk.1.2.1; (try simp only at q_); (try simp only at q3_); (try simp only [rng] at hk); (try simp only at hk); (try simp only at h); omega))
      have hJ := Hd.mk (Ty.O_fr hJ.out eF (fun k hk hl h => by have q_ := hk.1; have q3_ := hk.2; have hP_ := hPP.out; have hg_ := hG.out; have q2_ := hk.1.2.1; (try simp only at q_); (try simp only at q3_); (try simp only [rng] at hk); (try simp only at hk); (try simp only at h); omega))
      have hZ := Hd.mk (Ty.O_fr hZ.out eF (fun k hk hl h => by skip; (try simp only [rng] at hk); (try simp only at hk); (try simp only at h); omega))
      clear hW eF
      have z13 := Hd.mk hz_; clear hz_
      have hP_ := hPP.out
      have hPP_ := hPP.out; have hzw_ := hzw.out; have z6_ := z6.out; have z7_ := z7.out; have z8_ := z8.out; have z9_ := z9.out; have z10_ := z10.out; have z11_ := z11.out; have z12_ := z12.out; have z13_ := z13.out
      exact ⟨_, rfl, hBZ, b4, ⟨Ty.O_mono _ (fun q h => by have h1 := h.1; have h2 := h.2; exact ⟨⟨by omega, by omega, by omega, by omega⟩, by omega⟩) hZ.out⟩, ⟨by omega⟩, b0, b1, b2, b3, ⟨Ty.O_mono _ (fun q h => h.1) hA.out⟩, ⟨Ty.O_mono _ (fun q h => h.1) hJ.out⟩, hC, hB, ⟨by omega⟩⟩
     obtain ⟨p, rfl, h1⟩ := key _ rfl
     exact ⟨_, z, zD3, zD4, zd3, zd4, ok, rfl, rfl, h1⟩
   case rest =>
   clear b0 b1 b2 b3 hA hJ hC hB hzw
   obtain ⟨p, z, zD3, zD4, zd3, zd4, ok, rfl, rfl, hBZ, b4, hZ, hpp, b0, b1, b2, b3, hA, hJ, hC, hB, hzw⟩ := hcut
   cases ok
   ·have v00 : wc.cell? ⟨w.heap.size, 0, none⟩ = some (.int .i64 0) := b0.out.cell 0 rfl
    have v01 : wc.cell? ⟨w.heap.size, 1, none⟩ = some (.int .i64 0) := b0.out.cell 1 rfl
    have v02 : wc.cell? ⟨w.heap.size, 2, none⟩ = some (.string ⟨#[]⟩) := b0.out.cell 2 rfl
    have v03 : wc.cell? ⟨w.heap.size, 3, none⟩ = some (.slice none 0 0) := b0.out.cell 3 rfl
    have v04 : wc.cell? ⟨w.heap.size, 4, none⟩ = some (.slice none 0 0) := b0.out.cell 4 rfl
    have v0z := b0.out.frozen
    obtain ⟨v10, v11, v12, v13, v14, v1z⟩ := blk5 b1.out
    obtain ⟨v20, v21, v22, v23, v24, v2z⟩ := blk5 b2.out
    obtain ⟨v30, v31, v32, v33, v34, v3z⟩ := blk5 b3.out
    obtain ⟨v40, v41, v42, v43, v44, v4z⟩ := blk5 b4.out
    go_wp2_with fail
    clear v00 v01 v02 v03 v04 v0z v10 v11 v12 v13 v14 v1z v20 v21 v22 v23 v24 v2z v30 v31 v32 v33 v34 v3z v40 v41 v42 v43 v44 v4z
    go_roundw
    case rel => exact ⟨k + 1, j, jD3, jD4, jd3, jd4, by omega, by go_num, hBJ, b0, b1, b2, b3, hA, hJ, hC, hB, hzw⟩
    case measure => simp [intOf]; omega
   ·have key : ∀ W, W = (((((wc.setCell ⟨w5.heap.size, 0, none⟩ (Value.int IntKind.i64 z.kind)).setCell ⟨w5.heap.size, 1, none⟩ (Value.int IntKind.i64 z.n)).setCell ⟨w5.heap.size, 2, none⟩ (Value.string z.s)).setCell ⟨w5.heap.size, 3, none⟩ (Value.slice zD3 z.list.length zd3)).setCell ⟨w5.heap.size, 4, none⟩ (Value.slice zD4 z.names.length zd4)) → Hd (Blk W w.heap.size #[.int .i64 0, .int .i64 0, .string ⟨#[]⟩, .slice none 0 0, .slice none 0 0] 27) ∧ Hd (Blk W (w.heap.size + 1) #[.int .i64 0, .int .i64 0, .string ⟨#[]⟩, .slice none 0 0, .slice none 0 0] 27) ∧ Hd (Blk W w3.heap.size #[.int .i64 a.kind, .int .i64 a.n, .string a.s, .slice aD3 a.list.length ad3, .slice aD4 a.names.length ad4] 27) ∧ Hd (Blk W w5.heap.size #[.int .i64 z.kind, .int .i64 z.n, .string z.s, .slice zD3 z.list.length zd3, .slice zD4 z.names.length zd4] 27) ∧ Hd ((tJ 9).O W (fun q => w.heap.size + 2 ≤ q ∧ q ≠ g ∧ q ≠ w3.heap.size ∧ q ≠ w5.heap.size) a [Value.int IntKind.i64 a.kind, .int .i64 a.n, .string a.s, .slice aD3 a.list.length ad3, .slice aD4 a.names.length ad4]) ∧ Hd ((tJ 9).O W (fun q => w.heap.size + 2 ≤ q ∧ q ≠ g ∧ q ≠ w3.heap.size ∧ q ≠ w5.heap.size) z [Value.int IntKind.i64 z.kind, .int .i64 z.n, .string z.s, .slice zD3 z.list.length zd3, .slice zD4 z.names.length zd4]) ∧ Hd (Cur w W g) ∧ Hd (Below w.heap.size w W) ∧ Hd (w5.heap.size < W.heap.size) := by
     intro W hW
     have hPP_ := hPP.out; have hpp_ := hpp.out; have hzw_ := hzw.out
     have hP_ := hPP.out
     have hSz_ := hB.out.size
     clear hJ
     have hz_ : wc.heap.size ≤ W.heap.size := by rw [hW]; simp
     have eF : Fr wc W (fun k => k = w5.heap.size ∨ wc.heap.size ≤ k) := by rw [hW]; (repeat (first | with_reducible refine Fr.setCell ?_ _ (fun _ => by simp <;> omega) _ | with_reducible refine Fr.alloc ?_ _ | with_reducible refine Fr.drew ?_)); exact Fr.refl _ _
     have hPP_ := hPP.out; have hpp_ := hpp.out; have hzw_ := hzw.out
     have hC := Hd.mk (hC.out.fr eF (fun h => by have hg_ := hG.out; have hlt_ := hC.out.lt; (try simp only [rng] at h); (try simp only at h); omega) (fun k h => by have hg_ := hG.out; have hge_ := hC.out.ge; (try simp only [rng] at h); (try simp only at h); omega))
     have hB := Hd.mk (((Fr.of_below hB.out (fun k => k = w5.heap.size ∨ wc.heap.size ≤ k)).then_ eF (fun k hk _ => hk)).below (fun k hk => by have := hB.out.size; omega))
     have b0 := Hd.mk (b0.out.fr eF (fun h => by have hlt_ := b0.out.lt; (try simp only at h); omega))
     have b1 := Hd.mk (b1.out.fr eF (fun h => by have hlt_ := b1.out.lt; (try simp only at h); omega))
     have b2 := Hd.mk (b2.out.fr eF (fun h => by have hlt_ := b2.out.lt; (try simp only at h); omega))
     have b3 := Hd.mk (show Blk W (w5.heap.size) #[.int .i64 z.kind, .int .i64 z.n, .string z.s, .slice zD3 z.list.length zd3, .slice zD4 z.names.length zd4] 27 by rw [hW]; exact (Blk.all b3.out [Value.int IntKind.i64 z.kind, .int .i64 z.n, .string z.s, .slice zD3 z.list.length zd3, .slice zD4 z.names.length zd4] rfl))
     have b4 := Hd.mk (b4.out.fr eF (fun h => by have hlt_ := b4.out.lt; (try simp only at h); omega))
     have hA := Hd.mk (Ty.O_fr hA.out eF (fun k hk hl h => by have q_ := hk; have hP_ := hPP.out; have hg_ := hG.out; have q2_ := hk.2.1; (try simp only at q_); (try simp only [rng] at hk); (try simp only at hk); (try simp only at h); omega))
     have hZ := Hd.mk (Ty.O_fr hZ.out eF (fun k hk hl h => by have q_ := hk.1; have hP_ := hPP.out; (try simp only at q_); (try simp only [rng] at hk); (try simp only at hk); (try simp only at h); omega))
     clear hW eF
     have z7 := Hd.mk hz_; clear hz_
     exact ⟨b0, b1, b2, b3, hA, ⟨Ty.O_mono _ (fun q h => h.1) hZ.out⟩, hC, hB, ⟨by have hPP_ := hPP.out; have hpp_ := hpp.out; have hzw_ := hzw.out; have z7_ := z7.out; omega⟩⟩
    obtain ⟨v00, v01, v02, v03, v04, v0z⟩ := blk5 b0.out
    obtain ⟨v10, v11, v12, v13, v14, v1z⟩ := blk5 b1.out
    obtain ⟨v20, v21, v22, v23, v24, v2z⟩ := blk5 b2.out
    obtain ⟨v30, v31, v32, v33, v34, v3z⟩ := blk5 b3.out
    obtain ⟨v40, v41, v42, v43, v44, v4z⟩ := blk5 b4.out
    go_wp2_with fail
    clear v00 v01 v02 v03 v04 v0z v10 v11 v12 v13 v14 v1z v20 v21 v22 v23 v24 v2z v30 v31 v32 v33 v34 v3z v40 v41 v42 v43 v44 v4z
    go_roundw
    case rel => exact ⟨k + 1, z, zD3, zD4, zd3, zd4, by omega, by go_num, hBZ, key _ rfl⟩
    case measure => simp [intOf]; omega
  ·have hltd : decide ((k : Int) < 1 + y) = false := decide_eq_false hlt
   obtain ⟨v00, v01, v02, v03, v04, v0z⟩ := blk5 b0.out
   obtain ⟨v10, v11, v12, v13, v14, v1z⟩ := blk5 b1.out
   obtain ⟨v20, v21, v22, v23, v24, v2z⟩ := blk5 b2.out
   obtain ⟨v30, v31, v32, v33, v34, v3z⟩ := blk5 b3.out
   go_wp2_with fail
   clear v00 v01 v02 v03 v04 v0z v10 v11 v12 v13 v14 v1z v20 v21 v22 v23 v24 v2z v30 v31 v32 v33 v34 v3z
   refine (spec_l1Once 6 w _ g hC.out).mono ?_
   rintro e w7 ⟨bo, rfl, hC1, hX⟩
   have hC := Hd.mk hC1; clear hC1
   have hSz0 := hB.out.size
   have hg_ := hG.out
   have hPP_ := hPP.out; have hzw_ := hzw.out; have z6_ := z6.out
   have b0 := Hd.mk (b0.out.fr hX (fun h => by skip; (try simp only at h); omega))
   have b1 := Hd.mk (b1.out.fr hX (fun h => by skip; (try simp only at h); omega))
   have b2 := Hd.mk (b2.out.fr hX (fun h => by skip; (try simp only at h); omega))
   have b3 := Hd.mk (b3.out.fr hX (fun h => by skip; (try simp only at h); omega))
   have hA := Hd.mk (Ty.O_fr hA.out hX (fun k hk hl h => by have q_ := hk; have hP_ := hPP.out; have hg_ := hG.out; have q2_ := hk.2.1; (try simp only at q_); (try simp only [rng] at hk); (try simp only at hk); (try simp only at h); omega))
   have hJ := Hd.mk (Ty.O_fr hJ.out hX (fun k hk hl h => by have q_ := hk; have hP_ := hPP.out; have hg_ := hG.out; have q2_ := hk.2.1; (try simp only at q_); (try simp only [rng] at hk); (try simp only at hk); (try simp only at h); omega))
   have hB := Hd.mk (below_frS hB.out hX (fun k h => by (try simp only at h); omega))
   have hz_ := hX.size
   clear hSz0 hg_ hX
   have z7 := Hd.mk hz_; clear hz_
   cases bo
   ·have v00 : w7.cell? ⟨w.heap.size, 0, none⟩ = some (.int .i64 0) := b0.out.cell 0 rfl
    have v01 : w7.cell? ⟨w.heap.size, 1, none⟩ = some (.int .i64 0) := b0.out.cell 1 rfl
    have v02 : w7.cell? ⟨w.heap.size, 2, none⟩ = some (.string ⟨#[]⟩) := b0.out.cell 2 rfl
    have v03 : w7.cell? ⟨w.heap.size, 3, none⟩ = some (.slice none 0 0) := b0.out.cell 3 rfl
    have v04 : w7.cell? ⟨w.heap.size, 4, none⟩ = some (.slice none 0 0) := b0.out.cell 4 rfl
    have v0z := b0.out.frozen
    obtain ⟨v10, v11, v12, v13, v14, v1z⟩ := blk5 b1.out
    obtain ⟨v20, v21, v22, v23, v24, v2z⟩ := blk5 b2.out
    obtain ⟨v30, v31, v32, v33, v34, v3z⟩ := blk5 b3.out
    go_wp2_with fail
    clear v00 v01 v02 v03 v04 v0z v10 v11 v12 v13 v14 v1z v20 v21 v22 v23 v24 v2z v30 v31 v32 v33 v34 v3z
    apply wp_gen; intro Wr hW
    have hPP_ := hPP.out; have hzw_ := hzw.out; have z6_ := z6.out; have z7_ := z7.out
    have hP_ := hPP.out
    have hg_ := hG.out
    have hX_ : Wr = w7 := hW
    clear hW
    subst hX_
    have hSz_ := hB.out.size
    have hPP_ := hPP.out; have hzw_ := hzw.out; have z6_ := z6.out; have z7_ := z7.out
    obtain ⟨v00, v01, v02, v03, v04, v0z⟩ := blk5 b0.out
    obtain ⟨v10, v11, v12, v13, v14, v1z⟩ := blk5 b1.out
    obtain ⟨v20, v21, v22, v23, v24, v2z⟩ := blk5 b2.out
    obtain ⟨v30, v31, v32, v33, v34, v3z⟩ := blk5 b3.out
    go_region
    all_goals (try (go_wp2_with fail))
    all_goals (refine bodyPost_retW (v := .tuple #[.agg #[.int .i64 a.kind, .int .i64 a.n, .string a.s, .slice aD3 a.list.length ad3, .slice aD4 a.names.length ad4], .agg #[.int .i64 j.kind, .int .i64 j.n, .string j.s, .slice jD3 j.list.length jd3, .slice jD4 j.names.length jd4]]) (by simp [results, Try.results42, go_sem, v00, v01, v02, v03, v04, v0z, v10, v11, v12, v13, v14, v1z, v20, v21, v22, v23, v24, v2z, v30, v31, v32, v33, v34, v3z]) rfl ?_; intro W hW; have eF2 : Fr Wr W (fun q => q = w.heap.size ∨ q = w.heap.size + 1) := by { rw [hW]; (repeat (first | with_reducible refine Fr.setCell (S := (fun q => q = w.heap.size ∨ q = w.heap.size + 1)) ?_ _ (fun _ => by simp) _ | with_reducible refine Fr.drew ?_ | with_reducible refine Fr.drewN ?_ _)); exact Fr.refl _ _ }; exact ⟨a, j, [Value.int IntKind.i64 a.kind, .int .i64 a.n, .string a.s, .slice aD3 a.list.length ad3, .slice aD4 a.names.length ad4], [Value.int IntKind.i64 j.kind, .int .i64 j.n, .string j.s, .slice jD3 j.list.length jd3, .slice jD4 j.names.length jd4], rfl, Ty.O_mono _ (fun q h => by have q_ := h.1; omega) (Ty.O_fr hA.out eF2 (fun k hk hl h => by have q_ := hk.1; (try simp only [rng] at hk); (try simp only at h); omega)), Ty.O_mono _ (fun q h => by have q_ := h.1; omega) (Ty.O_fr hJ.out eF2 (fun k hk hl h => by have q_ := hk.1; (try simp only [rng] at hk); (try simp only at h); omega)), hBA.out, hBJ.out, below_frS hB.out eF2 (fun k hk => by (try simp only at hk); omega)⟩)
   ·have v00 : w7.cell? ⟨w.heap.size, 0, none⟩ = some (.int .i64 0) := b0.out.cell 0 rfl
    have v01 : w7.cell? ⟨w.heap.size, 1, none⟩ = some (.int .i64 0) := b0.out.cell 1 rfl
    have v02 : w7.cell? ⟨w.heap.size, 2, none⟩ = some (.string ⟨#[]⟩) := b0.out.cell 2 rfl
    have v03 : w7.cell? ⟨w.heap.size, 3, none⟩ = some (.slice none 0 0) := b0.out.cell 3 rfl
    have v04 : w7.cell? ⟨w.heap.size, 4, none⟩ = some (.slice none 0 0) := b0.out.cell 4 rfl
    have v0z := b0.out.frozen
    obtain ⟨v10, v11, v12, v13, v14, v1z⟩ := blk5 b1.out
    obtain ⟨v20, v21, v22, v23, v24, v2z⟩ := blk5 b2.out
    obtain ⟨v30, v31, v32, v33, v34, v3z⟩ := blk5 b3.out
    go_wp2_with fail
    clear v00 v01 v02 v03 v04 v0z v10 v11 v12 v13 v14 v1z v20 v21 v22 v23 v24 v2z v30 v31 v32 v33 v34 v3z
    refine (spec_l1Draw w _ g hC.out).mono ?_
    rintro e w8 ⟨z, csz, rfl, hBZ, hZ, hC1, hX⟩
    have hC := Hd.mk hC1; clear hC1
    have hSz0 := hB.out.size
    have hg_ := hG.out
    have hPP_ := hPP.out; have hzw_ := hzw.out; have z6_ := z6.out; have z7_ := z7.out
    have b0 := Hd.mk (b0.out.fr hX (fun h => by skip; (try simp only at h); omega))
    have b1 := Hd.mk (b1.out.fr hX (fun h => by skip; (try simp only at h); omega))
    have b2 := Hd.mk (b2.out.fr hX (fun h => by skip; (try simp only at h); omega))
    have b3 := Hd.mk (b3.out.fr hX (fun h => by skip; (try simp only at h); omega))
    have hA := Hd.mk (Ty.O_fr hA.out hX (fun k hk hl h => by have q_ := hk; have hP_ := hPP.out; have hg_ := hG.out; have q2_ := hk.2.1; (try simp only at q_); (try simp only [rng] at hk); (try simp only at hk); (try simp only at h); omega))
    have hJ := Hd.mk (Ty.O_fr hJ.out hX (fun k hk hl h => by have q_ := hk; have hP_ := hPP.out; have hg_ := hG.out; have q2_ := hk.2.1; (try simp only at q_); (try simp only [rng] at hk); (try simp only at hk); (try simp only at h); omega))
    have hB := Hd.mk (below_frS hB.out hX (fun k h => by (try simp only at h); omega))
    have hz_ := hX.size
    clear hSz0 hg_ hX
    have z8 := Hd.mk hz_; clear hz_
    obtain ⟨zv3, zv4, _, _, rfl, _, zr3, zr4, _⟩ := tJ_O.1 hZ
    obtain ⟨zD3, zd3, rfl, _, _⟩ := R_C zr3
    obtain ⟨zD4, zd4, rfl, _, _⟩ := R_C zr4
    clear zr3 zr4
    replace hBZ := Hd.mk (Bnd_up (B := 30000) hBZ (show 30000 ≤ 100000 by decide))
    have hZ := Hd.mk (show (tJ 9).O w8 (rng w7.heap.size w8.heap.size) z _ from Ty.O_bound _ hZ)
    have hPP_ := hPP.out; have hzw_ := hzw.out; have z6_ := z6.out; have z7_ := z7.out; have z8_ := z8.out
    obtain ⟨v00, v01, v02, v03, v04, v0z⟩ := blk5 b0.out
    obtain ⟨v10, v11, v12, v13, v14, v1z⟩ := blk5 b1.out
    obtain ⟨v20, v21, v22, v23, v24, v2z⟩ := blk5 b2.out
    obtain ⟨v30, v31, v32, v33, v34, v3z⟩ := blk5 b3.out
    go_wp2_with fail
    clear v00 v01 v02 v03 v04 v0z v10 v11 v12 v13 v14 v1z v20 v21 v22 v23 v24 v2z v30 v31 v32 v33 v34 v3z
    apply wp_gen; intro Wr hW
    have hPP_ := hPP.out; have hzw_ := hzw.out; have z6_ := z6.out; have z7_ := z7.out; have z8_ := z8.out
    have hP_ := hPP.out
    have hg_ := hG.out
    have hz_ : w8.heap.size ≤ Wr.heap.size := by rw [hW]; simp
    have eF : Fr w8 Wr (fun k => k = w5.heap.size ∨ w8.heap.size ≤ k) := by rw [hW]; (repeat (first | with_reducible refine Fr.setCell ?_ _ (fun _ => by simp <;> omega) _ | with_reducible refine Fr.alloc ?_ _ | with_reducible refine Fr.drew ?_)); exact Fr.refl _ _
    have hPP_ := hPP.out; have hzw_ := hzw.out; have z6_ := z6.out; have z7_ := z7.out; have z8_ := z8.out
    have hC := Hd.mk (hC.out.fr eF (fun h => by have hg_ := hG.out; have hlt_ := hC.out.lt; (try simp only [rng] at h); (try simp only at h); omega) (fun k h => by have hg_ := hG.out; have hge_ := hC.out.ge; (try simp only [rng] at h); (try simp only at h); omega))
    have hB := Hd.mk (((Fr.of_below hB.out (fun k => k = w5.heap.size ∨ w8.heap.size ≤ k)).then_ eF (fun k hk _ => hk)).below (fun k hk => by have := hB.out.size; omega))
    have b0 := Hd.mk (b0.out.fr eF (fun h => by have hlt_ := b0.out.lt; (try simp only at h); omega))
    have b1 := Hd.mk (b1.out.fr eF (fun h => by have hlt_ := b1.out.lt; (try simp only at h); omega))
    have b2 := Hd.mk (b2.out.fr eF (fun h => by have hlt_ := b2.out.lt; (try simp only at h); omega))
    have b3 := Hd.mk (show Blk Wr (w5.heap.size) #[.int .i64 z.kind, .int .i64 z.n, .string z.s, .slice zD3 z.list.length zd3, .slice zD4 z.names.length zd4] 27 by rw [hW]; exact (Blk.all b3.out [Value.int IntKind.i64 z.kind, .int .i64 z.n, .string z.s, .slice zD3 z.list.length zd3, .slice zD4 z.names.length zd4] rfl))
    have hA := Hd.mk (Ty.O_fr hA.out eF (fun k hk hl h => by have q_ := hk; have hP_ := hPP.out; have hg_ := hG.out; have q2_ := hk.2.1; (try simp only at q_); (try simp only [rng] at hk); (try simp only at hk); (try simp only at h); omega))
    have hZ := Hd.mk (Ty.O_fr hZ.out eF (fun k hk hl h => by skip; (try simp only [rng] at hk); (try simp only at hk); (try simp only at h); omega))
    clear hW eF
    have z9 := Hd.mk hz_; clear hz_
    have hSz_ := hB.out.size
    have hPP_ := hPP.out; have hzw_ := hzw.out; have z6_ := z6.out; have z7_ := z7.out; have z8_ := z8.out; have z9_ := z9.out
    obtain ⟨v00, v01, v02, v03, v04, v0z⟩ := blk5 b0.out
    obtain ⟨v10, v11, v12, v13, v14, v1z⟩ := blk5 b1.out
    obtain ⟨v20, v21, v22, v23, v24, v2z⟩ := blk5 b2.out
    obtain ⟨v30, v31, v32, v33, v34, v3z⟩ := blk5 b3.out
    go_region
    all_goals (try (go_wp2_with fail))
    all_goals (refine bodyPost_retW (v := .tuple #[.agg #[.int .i64 a.kind, .int .i64 a.n, .string a.s, .slice aD3 a.list.length ad3, .slice aD4 a.names.length ad4], .agg #[.int .i64 z.kind, .int .i64 z.n, .string z.s, .slice zD3 z.list.length zd3, .slice zD4 z.names.length zd4]]) (by simp [results, Try.results42, go_sem, v00, v01, v02, v03, v04, v0z, v10, v11, v12, v13, v14, v1z, v20, v21, v22, v23, v24, v2z, v30, v31, v32, v33, v34, v3z]) rfl ?_; intro W hW; have eF2 : Fr Wr W (fun q => q = w.heap.size ∨ q = w.heap.size + 1) := by { rw [hW]; (repeat (first | with_reducible refine Fr.setCell (S := (fun q => q = w.heap.size ∨ q = w.heap.size + 1)) ?_ _ (fun _ => by simp) _ | with_reducible refine Fr.drew ?_ | with_reducible refine Fr.drewN ?_ _)); exact Fr.refl _ _ }; exact ⟨a, z, [Value.int IntKind.i64 a.kind, .int .i64 a.n, .string a.s, .slice aD3 a.list.length ad3, .slice aD4 a.names.length ad4], [Value.int IntKind.i64 z.kind, .int .i64 z.n, .string z.s, .slice zD3 z.list.length zd3, .slice zD4 z.names.length zd4], rfl, Ty.O_mono _ (fun q h => by have q_ := h.1; omega) (Ty.O_fr hA.out eF2 (fun k hk hl h => by have q_ := hk.1; (try simp only [rng] at hk); (try simp only at h); omega)), Ty.O_mono _ (fun q h => by have q_ := h.1; omega) (Ty.O_fr hZ.out eF2 (fun k hk hl h => by have q_ := hk.1; (try simp only [rng] at hk); (try simp only at h); omega)), hBA.out, hBZ.out, below_frS hB.out eF2 (fun k hk => by (try simp only at hk); omega)⟩)
set_option maxHeartbeats 8000000 in
set_option maxRecDepth 100000 in
theorem spec_DrawUnder (A : Option Addr) (c : Nat) (bs : List Int) (w : World) (hr : u8.C w A bs) (hbs : bs.length ≤ 1048576) :
  Calls Try.prog 17 #[.slice A bs.length c] w fun e w' => ∃ (s : ByteArray) (l : List JOp) (v : Value), e = .returned (.tuple #[.string s, v]) ∧ s ∈ drawNames ∧ (tOp 9).R 38 w' (fun k => w.heap.size ≤ k) v l ∧ l.length ≤ 200000 ∧ (∀ o ∈ l, ∀ m, bulkOp m o ≤ 50000) ∧ Below w.heap.size w w' := by
 have HBS := Hd.mk hr; clear hr
 have hB := Hd.mk (Below.refl w.heap.size w)
 go_enter Try.func17, Try.ntmps17
 go_wp2_with fail
 refine (spec_DrawDiff A c bs _ HBS.out hbs).mono ?_
 rintro e w1 ⟨a, b, cs, cs2, rfl, hA, hJ, hBA, hBJ, hX⟩
 have hB := hB.th hX
 have hz_ := hX.size
 clear hX
 have z1 := Hd.mk hz_; clear hz_
 obtain ⟨av3, av4, _, _, rfl, _, ar3, ar4, _⟩ := tJ_O.1 hA
 obtain ⟨aD3, ad3, rfl, _, _⟩ := R_C ar3
 obtain ⟨aD4, ad4, rfl, _, _⟩ := R_C ar4
 clear ar3 ar4
 obtain ⟨bv3, bv4, _, _, rfl, _, br3, br4, _⟩ := tJ_O.1 hJ
 obtain ⟨bD3, bd3, rfl, _, _⟩ := R_C br3
 obtain ⟨bD4, bd4, rfl, _, _⟩ := R_C br4
 clear br3 br4
 replace hBA := Hd.mk hBA; replace hBJ := Hd.mk hBJ
 have hA := Hd.mk (show (tJ 9).O w1 (rng w.heap.size w1.heap.size) a _ from Ty.O_bound _ hA)
 have hJ := Hd.mk (show (tJ 9).O w1 (rng w.heap.size w1.heap.size) b _ from Ty.O_bound _ hJ)
 go_wp2_with fail
 apply wp_gen; intro W2 hW
 have hz_ : w1.heap.size + 2 ≤ W2.heap.size := by rw [hW]; simp
 have hE : Below w1.heap.size w1 W2 := by rw [hW]; (repeat (first | with_reducible refine below_alloc ?_ _ | with_reducible refine below_drew ?_)); exact Below.refl _ _
 have hB := hB.th hE
 have b0 := Hd.mk (show Blk W2 (w1.heap.size) #[.int .i64 a.kind, .int .i64 a.n, .string a.s, .slice aD3 a.list.length ad3, .slice aD4 a.names.length ad4] 27 by rw [hW]; first | exact ((Blk.new _ _ _).alloc _) | (simpa using ((Blk.new _ _ _).alloc _)))
 have b1 := Hd.mk (show Blk W2 (w1.heap.size + 1) #[.int .i64 b.kind, .int .i64 b.n, .string b.s, .slice bD3 b.list.length bd3, .slice bD4 b.names.length bd4] 27 by rw [hW]; first | exact (Blk.new1 _ _ _ _) | (simpa using (Blk.new1 _ _ _ _)))
 have hA := hA.ob hE
 have hJ := hJ.ob hE
 clear hW hE
 have z2 := Hd.mk hz_; clear hz_
 obtain ⟨v00, v01, v02, v03, v04, v0z⟩ := blk5 b0.out
 obtain ⟨v10, v11, v12, v13, v14, v1z⟩ := blk5 b1.out
 obtain ⟨rv00, rv01, rv02, rv03, rv04⟩ := reg5 v00 v01 v02 v03 v04
 obtain ⟨rv10, rv11, rv12, rv13, rv14⟩ := reg5 v10 v11 v12 v13 v14
 refine region_mixT (.q 3 (.q 4 (.p 0 (.b 1 (.b 2 (.b 5 .fin)))))) [6, 7] (by kernel_rfl) (by kernel_rfl) (fun _ _ _ _ _ h => h) ?_
 refine genT ?_
 intro W3 hW
 have hS := Hd.mk (show Below W2.heap.size W2 W3 by rw [hW]; exact below_drew (Below.refl _ _))
 have hz_ : W2.heap.size ≤ W3.heap.size := by rw [hW]; simp
 have hE : Below W2.heap.size W2 W3 := by rw [hW]; (repeat (first | with_reducible refine below_alloc ?_ _ | with_reducible refine below_drew ?_)); exact Below.refl _ _
 have hB := hB.th hE
 have b0 := b0.dn hE
 have b1 := b1.dn hE
 have hA := hA.ob hE
 have hJ := hJ.ob hE
 clear hW hE
 have z3 := Hd.mk hz_; clear hz_
 iterate 3 ((first | refine mixT_q rfl ?_ | refine mixT_p rfl ?_); go_big_quiet_want; go_big_quiet_op; go_big_quiet_on; refine wpQuiet_nil ?_)
 refine mixT_b rfl ?_ (by rfl)
 go_wp2_with fail
 apply calls_gen; intro W4 hW
 have hz_ : W3.heap.size ≤ W4.heap.size := by rw [hW]; simp
 have hE : Below W3.heap.size W3 W4 := by rw [hW]; (repeat (first | with_reducible refine below_alloc ?_ _ | with_reducible refine below_drew ?_)); exact Below.refl _ _
 have hB := hB.th hE
 replace hS := Hd.mk (below_then hS.out hE)
 have b0 := b0.dn hE
 have b1 := b1.dn hE
 have hA := hA.ob hE
 have hJ := hJ.ob hE
 clear hW hE
 have z4 := Hd.mk hz_; clear hz_
 refine (spec_l1New _ _ bs w W4 HBS.out hbs hB.out).mono ?_
 rintro e w5 ⟨g, rfl, hge, hC1, hX⟩
 have hG := Hd.mk (show W4.heap.size ≤ g ∧ g < w5.heap.size from ⟨hge, hC1.lt⟩)
 have hC := Hd.mk hC1; clear hC1 hge
 have b0 := b0.dn hX
 have b1 := b1.dn hX
 have hA := hA.ob hX
 have hJ := hJ.ob hX
 have hB := hB.th hX
 replace hS := Hd.mk (below_then hS.out hX)
 have hz_ := hX.size
 clear hX
 have z5 := Hd.mk hz_; clear hz_
 go_wp2_with fail
 refine ⟨cls_below hS.out, ?_⟩
 refine mixT_b rfl ?_ (by rfl)
 go_wp2_with fail
 apply calls_gen; intro W6 hW
 have hz_ : w5.heap.size ≤ W6.heap.size := by rw [hW]; simp
 have hE : Below w5.heap.size w5 W6 := by rw [hW]; (repeat (first | with_reducible refine below_alloc ?_ _ | with_reducible refine below_drew ?_)); exact Below.refl _ _
 have hB := hB.th hE
 replace hS := Hd.mk (below_then hS.out hE)
 have b0 := b0.dn hE
 have b1 := b1.dn hE
 have hA := hA.ob hE
 have hJ := hJ.ob hE
 have hC := Hd.mk (Cur.below hC.out hE)
 clear hW hE
 have z6 := Hd.mk hz_; clear hz_
 refine (spec_l1DrawName w _ g hC.out).mono ?_
 rintro e w7 ⟨s, rfl, hs, _, hX⟩
 clear hC
 have z1_ := z1.out; have z2_ := z2.out; have z3_ := z3.out; have z4_ := z4.out; have z5_ := z5.out; have z6_ := z6.out
 have hg2_ := hG.out
 have z1_ := z1.out; have z2_ := z2.out; have z3_ := z3.out; have z4_ := z4.out; have z5_ := z5.out; have z6_ := z6.out
 have hSz := hB.out.size
 have b0 := Hd.mk (b0.out.fr hX (fun h => by have hlt_ := b0.out.lt; have hg_ := hG.out; (try simp only [rng] at h); (try simp only at h); omega))
 have b1 := Hd.mk (b1.out.fr hX (fun h => by have hlt_ := b1.out.lt; have hg_ := hG.out; (try simp only [rng] at h); (try simp only at h); omega))
 have hA := Hd.mk (Ty.O_fr hA.out hX (fun k hk hl h => by have hg_ := hG.out; (try simp only [rng] at hk h); (try simp only at hk); (try simp only at h); omega))
 have hJ := Hd.mk (Ty.O_fr hJ.out hX (fun k hk hl h => by have hg_ := hG.out; (try simp only [rng] at hk h); (try simp only at hk); (try simp only at h); omega))
 replace hS := Hd.mk (below_frS hS.out hX (fun k h => by (try simp only [rng] at h); (try simp only at h); omega))
 have hB := Hd.mk (below_frS hB.out hX (fun k h => by have hg_ := hG.out; (try simp only [rng] at h); (try simp only at h); omega))
 have hz_ := hX.size
 clear hX
 have z7 := Hd.mk hz_; clear hz_
 replace hs := Hd.mk hs
 go_wp2_with fail
 refine ⟨cls_below hS.out, ?_⟩
 refine mixT_b rfl ?_ (by rfl)
 go_wp2_with fail
 apply calls_gen; intro W8 hW
 have hz_ : w7.heap.size ≤ W8.heap.size := by rw [hW]; simp
 have hE : Below w7.heap.size w7 W8 := by rw [hW]; (repeat (first | with_reducible refine below_alloc ?_ _ | with_reducible refine below_drew ?_)); exact Below.refl _ _
 have hB := hB.th hE
 replace hS := Hd.mk (below_then hS.out hE)
 have b0 := b0.dn hE
 have b1 := b1.dn hE
 have hA := hA.ob hE
 have hJ := hJ.ob hE
 clear hW hE
 have z8 := Hd.mk hz_; clear hz_
 refine (spec_Diff (M := 8) a b _ _ _ (Ty.O_K _ hA.out) (Ty.O_K _ hJ.out)).mono ?_
 rintro e w9 ⟨v, rfl, hL, hX⟩
 have b0 := b0.dn hX
 have b1 := b1.dn hX
 have hA := hA.ob hX
 have hJ := hJ.ob hX
 have hB := hB.th hX
 replace hS := Hd.mk (below_then hS.out hX)
 have hz_ := hX.size
 clear hX
 have z9 := Hd.mk hz_; clear hz_
 obtain ⟨AL, cL, hvL, hcL, _⟩ := R_C hL
 subst hvL
 obtain ⟨l, hl⟩ : ∃ z, z = diffT a b := ⟨_, rfl⟩
 have hDO := Hd.mk (diffT_ops a b)
 rw [← hl] at hL hDO ⊢
 clear hl
 have hL := Hd.mk (show (tOp 9).R 38 w9 (rng W8.heap.size w9.heap.size) _ l from R_bound hL)
 go_wp2_with fail
 refine ⟨cls_below hS.out, ?_⟩
 refine mixT_fin ?_
 clear hS
 clear rv00 rv01 rv02 rv03 rv04 rv10 rv11 rv12 rv13 rv14
 clear v00 v01 v02 v03 v04 v0z v10 v11 v12 v13 v14 v1z
 obtain ⟨v00, v01, v02, v03, v04, v0z⟩ := blk5 b0.out
 obtain ⟨v10, v11, v12, v13, v14, v1z⟩ := blk5 b1.out
 refine tail_b rfl ?_ (by rfl)
 go_wp2_with fail
 refine mixQ_n ?_
 refine tail_b rfl ?_ (by rfl)
 go_wp2_with fail
 refine mixQ_n ?_
 refine tail_nil ?_
 clear v00 v01 v02 v03 v04 v0z v10 v11 v12 v13 v14 v1z
 go_wp2_with fail
 refine bodyPost_retW (v := .tuple #[.string s, .slice AL l.length cL]) (by simp [results, Try.results17, go_sem]) rfl ?_
 intro W hW
 subst hW
 have z1_ := z1.out; have z2_ := z2.out; have z3_ := z3.out; have z4_ := z4.out; have z5_ := z5.out; have z6_ := z6.out; have z7_ := z7.out; have z8_ := z8.out; have z9_ := z9.out
 have hSz_ := hB.out.size
 have key : s ∈ drawNames ∧ (tOp 9).R 38 W (fun k => w.heap.size ≤ k) (.slice AL l.length cL) l ∧ l.length ≤ 200000 ∧ (∀ o ∈ l, ∀ m, bulkOp m o ≤ 50000) ∧ Below w.heap.size w W := ⟨hs.out, R_mono (fun q h => by have h1 := h.1; omega) hL.out, hDO.out.1, hDO.out.2, hB.out⟩
 first | exact ⟨s, l, _, rfl, key⟩ | exact ⟨s, l, rfl, key⟩ | exact ⟨_, _, _, rfl, key⟩
end Go.Proofs.Ytlkjpnlpankhpaa.X
namespace Go.Proofs.Ytlkjpnlpankhpaa.X
open Go.RowKit Go.Sort
set_option linter.unusedVariables false
set_option linter.unusedSimpArgs false
open Ty
set_option maxHeartbeats 4000000 in
set_option maxRecDepth 100000 in
theorem laws_sameTexts {l : List ByteArray} (A A2 : Option Addr) (c c2 : Nat) (w : World) (hr : str.C w A l) (hr2 : str.C w A2 l) :
  Calls Try.prog 20 #[.slice A l.length c, .slice A2 l.length c2] w fun e w' => e = .returned (.bool true) ∧ Below w.heap.size w w' := by
 have hm := hr.1
 have HC := Hd.mk hr; have HC2 := Hd.mk hr2; clear hr hr2
 have hB := Hd.mk (Below.refl w.heap.size w)
 go_enter Try.func20, Try.ntmps20
 go_wp2_with fail
 go_loopw [5] (fun i wr => ∃ k : Nat, k ≤ l.length ∧ i = .int .i64 k ∧ Hd (Below w.heap.size w wr)) (fun i _ => l.length - (intOf i).toNat)
 case atStart => exact ⟨0, Nat.zero_le _, rfl, hB⟩
 case round =>
  clear hB
  obtain ⟨k, hk, rfl, hB⟩ := hrel
  have hk0 : (0 : Int) ≤ (k : Int) := by omega
  by_cases hlt : k < l.length
  ·obtain ⟨ad, had, x0, _⟩ := C_str_at HC.out hB.out k hlt
   obtain ⟨ad2, had2, y0, _⟩ := C_str_at HC2.out hB.out k hlt
   obtain rfl := had; obtain rfl := had2
   obtain ⟨z, hz⟩ : ∃ z, z = l[k] := ⟨_, rfl⟩
   rw [← hz] at x0 y0
   clear hz
   go_wp2_with fail
   have rx0 := cell_regrown x0
   have ry0 := cell_regrown y0
   refine region_mix [(true, 0), (true, 1), (true, 2), (true, 3), (true, 4), (true, 5), (true, 6), (true, 7), (true, 8)] (by kernel_rfl) (by kernel_rfl) (fun _ _ _ _ _ h => h) ?_
   (repeat (first | (refine mix_z rfl (by rfl) ?_; go_big_quiet_skip; refine wpQuiet_nil ?_) | (refine mix_q rfl ?_; first | (go_big_quiet_skip; refine wpQuiet_nil ?_) | (go_big_quiet_want; go_big_quiet_op; go_big_quiet_on; refine wpQuiet_nil ?_))))
   refine mix_nil ?_
   have hB := Hd.mk (below_drew hB.out)
   clear x0 y0
   go_wp2_with fail
   go_roundw
   case rel => exact ⟨k + 1, by omega, by go_num, hB⟩
   case measure => simp [intOf]; omega
  ·obtain rfl : k = l.length := by omega
   go_wp2_with fail
   go_ret
   exact ⟨rfl, hB.out⟩
def SameJ (m : Nat) : Prop := ∀ (x : J) (cs cs2 : List Value) (w : World), (tJ m).K w x cs → (tJ m).K w x cs2 → Calls Try.prog 21 #[.agg cs.toArray, .agg cs2.toArray] w fun e w' => e = .returned (.bool true) ∧ Below w.heap.size w w'
set_option maxHeartbeats 4000000 in
set_option maxRecDepth 100000 in
theorem sameJ_of {m : Nat} (ih : SameJ m) : SameJ (m + 1) := by
 intro x cs cs2 w hk hk2
 obtain ⟨A3, c3, A4, c4, rfl, hs, ⟨hc3, hr3⟩, hc4, hr4⟩ := tJ_K.1 hk
 obtain ⟨B3, e3, B4, e4, rfl, _, ⟨_, hq3⟩, _, hq4⟩ := tJ_K.1 hk2
 have hm3 := hr3.1
 have HR3 := Hd.mk hr3; have HR4 := Hd.mk hr4; have HQ3 := Hd.mk hq3; have HQ4 := Hd.mk hq4
 clear hr3 hr4 hq3 hq4 hk hk2
 have hB := Hd.mk (Below.refl w.heap.size w)
 go_enter Try.func21, Try.ntmps21
 go_wp2_with fail
 apply calls_gen; intro W1 hW
 have hz_ : w.heap.size + 2 ≤ W1.heap.size := by rw [hW]; simp
 have hE : Below w.heap.size w W1 := by rw [hW]; (repeat (first | with_reducible refine below_alloc ?_ _ | with_reducible refine below_drew ?_)); exact Below.refl _ _
 have hB := Hd.mk (below_then hB.out hE)
 have b0 := Hd.mk (show Blk W1 (w.heap.size) #[.int .i64 x.kind, .int .i64 x.n, .string x.s, .slice A3 x.list.length c3, .slice A4 x.names.length c4] 27 by rw [hW]; first | exact ((Blk.new _ _ _).alloc _) | (simpa using ((Blk.new _ _ _).alloc _)))
 have b1 := Hd.mk (show Blk W1 (w.heap.size + 1) #[.int .i64 x.kind, .int .i64 x.n, .string x.s, .slice B3 x.list.length e3, .slice B4 x.names.length e4] 27 by rw [hW]; first | exact (Blk.new1 _ _ _ _) | (simpa using (Blk.new1 _ _ _ _)))
 clear hW hE
 have z1 := Hd.mk hz_; clear hz_
 refine (laws_sameTexts A4 B4 c4 e4 _ (C_below HR4.out hB.out) (C_below HQ4.out hB.out)).mono ?_
 rintro e w2 ⟨rfl, hX⟩
 have b0 := Hd.mk (b0.out.below hX)
 have b1 := Hd.mk (b1.out.below hX)
 have hB := Hd.mk (below_then hB.out hX)
 have hz_ := hX.size
 clear hX
 have z2 := Hd.mk hz_; clear hz_
 have v00 : w2.cell? ⟨w.heap.size, 0, none⟩ = some (.int .i64 x.kind) := b0.out.cell 0 rfl
 have v01 : w2.cell? ⟨w.heap.size, 1, none⟩ = some (.int .i64 x.n) := b0.out.cell 1 rfl
 have v02 : w2.cell? ⟨w.heap.size, 2, none⟩ = some (.string x.s) := b0.out.cell 2 rfl
 have v03 : w2.cell? ⟨w.heap.size, 3, none⟩ = some (.slice A3 x.list.length c3) := b0.out.cell 3 rfl
 have v04 : w2.cell? ⟨w.heap.size, 4, none⟩ = some (.slice A4 x.names.length c4) := b0.out.cell 4 rfl
 have v0z := b0.out.frozen
 have v10 : w2.cell? ⟨w.heap.size + 1, 0, none⟩ = some (.int .i64 x.kind) := b1.out.cell 0 rfl
 have v11 : w2.cell? ⟨w.heap.size + 1, 1, none⟩ = some (.int .i64 x.n) := b1.out.cell 1 rfl
 have v12 : w2.cell? ⟨w.heap.size + 1, 2, none⟩ = some (.string x.s) := b1.out.cell 2 rfl
 have v13 : w2.cell? ⟨w.heap.size + 1, 3, none⟩ = some (.slice B3 x.list.length e3) := b1.out.cell 3 rfl
 have v14 : w2.cell? ⟨w.heap.size + 1, 4, none⟩ = some (.slice B4 x.names.length e4) := b1.out.cell 4 rfl
 have v1z := b1.out.frozen
 go_wp2_with fail
 clear v00 v01 v02 v03 v04 v0z v10 v11 v12 v13 v14 v1z
 go_loopw [5] (fun i wr => ∃ k : Nat, k ≤ x.list.length ∧ i = .int .i64 k ∧ Hd (Blk wr w.heap.size #[.int .i64 x.kind, .int .i64 x.n, .string x.s, .slice A3 x.list.length c3, .slice A4 x.names.length c4] 27) ∧ Hd (Blk wr (w.heap.size + 1) #[.int .i64 x.kind, .int .i64 x.n, .string x.s, .slice B3 x.list.length e3, .slice B4 x.names.length e4] 27) ∧ Hd (Below w.heap.size w wr) ∧ Hd (w2.heap.size ≤ wr.heap.size)) (fun i _ => x.list.length - (intOf i).toNat)
 case atStart => exact ⟨0, Nat.zero_le _, rfl, b0, b1, hB, ⟨Nat.le_refl _⟩⟩
 case round =>
  clear b0 b1 hB
  obtain ⟨k, hk, rfl, b0, b1, hB, hzw⟩ := hrel
  have hk0 : (0 : Int) ≤ (k : Int) := by omega
  by_cases hlt : k < x.list.length
  ·obtain ⟨ad, cs0, rfl, hK0, e0, e1⟩ := C_at HR3.out hB.out k hlt
   obtain ⟨ad2, cs1, rfl, hK1, u0, u1⟩ := C_at HQ3.out hB.out k hlt
   obtain ⟨m, rfl⟩ : ∃ m1 : Nat, m = m1 + 1 := by cases m with | zero => exact hK0.elim | succ m => exact ⟨m, rfl⟩
   obtain ⟨D3, d3, D4, d4, rfl, _⟩ := tJ_K.1 hK0
   obtain ⟨F3, f3, F4, f4, rfl, _⟩ := tJ_K.1 hK1
   have hBz := Hd.mk (Below.refl wr.heap.size wr)
   have HKx := Hd.mk hK0; have HKy := Hd.mk hK1; clear hK0 hK1
   have x0 : wr.cell? (ad.add (k * 5)) = some (.int .i64 x.list[k].kind) := e0 _ rfl
   have x1 : wr.cell? ⟨(ad.add (k * 5)).block, (ad.add (k * 5)).off + 1, none⟩ = some (.int .i64 x.list[k].n) := e1 0 _ rfl
   have x2 : wr.cell? ⟨(ad.add (k * 5)).block, (ad.add (k * 5)).off + 2, none⟩ = some (.string x.list[k].s) := e1 1 _ rfl
   have x3 : wr.cell? ⟨(ad.add (k * 5)).block, (ad.add (k * 5)).off + 3, none⟩ = some (.slice D3 x.list[k].list.length d3) := e1 2 _ rfl
   have x4 : wr.cell? ⟨(ad.add (k * 5)).block, (ad.add (k * 5)).off + 4, none⟩ = some (.slice D4 x.list[k].names.length d4) := e1 3 _ rfl
   have y0 : wr.cell? (ad2.add (k * 5)) = some (.int .i64 x.list[k].kind) := u0 _ rfl
   have y1 : wr.cell? ⟨(ad2.add (k * 5)).block, (ad2.add (k * 5)).off + 1, none⟩ = some (.int .i64 x.list[k].n) := u1 0 _ rfl
   have y2 : wr.cell? ⟨(ad2.add (k * 5)).block, (ad2.add (k * 5)).off + 2, none⟩ = some (.string x.list[k].s) := u1 1 _ rfl
   have y3 : wr.cell? ⟨(ad2.add (k * 5)).block, (ad2.add (k * 5)).off + 3, none⟩ = some (.slice F3 x.list[k].list.length f3) := u1 2 _ rfl
   have y4 : wr.cell? ⟨(ad2.add (k * 5)).block, (ad2.add (k * 5)).off + 4, none⟩ = some (.slice F4 x.list[k].names.length f4) := u1 3 _ rfl
   clear e0 e1 u0 u1
   have v00 : wr.cell? ⟨w.heap.size, 0, none⟩ = some (.int .i64 x.kind) := b0.out.cell 0 rfl
   have v01 : wr.cell? ⟨w.heap.size, 1, none⟩ = some (.int .i64 x.n) := b0.out.cell 1 rfl
   have v02 : wr.cell? ⟨w.heap.size, 2, none⟩ = some (.string x.s) := b0.out.cell 2 rfl
   have v03 : wr.cell? ⟨w.heap.size, 3, none⟩ = some (.slice (some ad) x.list.length c3) := b0.out.cell 3 rfl
   have v04 : wr.cell? ⟨w.heap.size, 4, none⟩ = some (.slice A4 x.names.length c4) := b0.out.cell 4 rfl
   have v0z := b0.out.frozen
   have v10 : wr.cell? ⟨w.heap.size + 1, 0, none⟩ = some (.int .i64 x.kind) := b1.out.cell 0 rfl
   have v11 : wr.cell? ⟨w.heap.size + 1, 1, none⟩ = some (.int .i64 x.n) := b1.out.cell 1 rfl
   have v12 : wr.cell? ⟨w.heap.size + 1, 2, none⟩ = some (.string x.s) := b1.out.cell 2 rfl
   have v13 : wr.cell? ⟨w.heap.size + 1, 3, none⟩ = some (.slice (some ad2) x.list.length e3) := b1.out.cell 3 rfl
   have v14 : wr.cell? ⟨w.heap.size + 1, 4, none⟩ = some (.slice B4 x.names.length e4) := b1.out.cell 4 rfl
   have v1z := b1.out.frozen
   go_wp2_with fail
   clear v00 v01 v02 v03 v04 v0z v10 v11 v12 v13 v14 v1z
   have v00 : wr.cell? ⟨w.heap.size, 0, none⟩ = some (.int .i64 x.kind) := b0.out.cell 0 rfl
   have v01 : wr.cell? ⟨w.heap.size, 1, none⟩ = some (.int .i64 x.n) := b0.out.cell 1 rfl
   have v02 : wr.cell? ⟨w.heap.size, 2, none⟩ = some (.string x.s) := b0.out.cell 2 rfl
   have v03 : wr.cell? ⟨w.heap.size, 3, none⟩ = some (.slice (some ad) x.list.length c3) := b0.out.cell 3 rfl
   have v04 : wr.cell? ⟨w.heap.size, 4, none⟩ = some (.slice A4 x.names.length c4) := b0.out.cell 4 rfl
   have v0z := b0.out.frozen
   have v10 : wr.cell? ⟨w.heap.size + 1, 0, none⟩ = some (.int .i64 x.kind) := b1.out.cell 0 rfl
   have v11 : wr.cell? ⟨w.heap.size + 1, 1, none⟩ = some (.int .i64 x.n) := b1.out.cell 1 rfl
   have v12 : wr.cell? ⟨w.heap.size + 1, 2, none⟩ = some (.string x.s) := b1.out.cell 2 rfl
   have v13 : wr.cell? ⟨w.heap.size + 1, 3, none⟩ = some (.slice (some ad2) x.list.length e3) := b1.out.cell 3 rfl
   have v14 : wr.cell? ⟨w.heap.size + 1, 4, none⟩ = some (.slice B4 x.names.length e4) := b1.out.cell 4 rfl
   have v1z := b1.out.frozen
   have rv00 := cell_regrown v00
   have rv01 := cell_regrown v01
   have rv02 := cell_regrown v02
   have rv03 := cell_regrown v03
   have rv04 := cell_regrown v04
   have rv10 := cell_regrown v10
   have rv11 := cell_regrown v11
   have rv12 := cell_regrown v12
   have rv13 := cell_regrown v13
   have rv14 := cell_regrown v14
   have rx0 := cell_regrown x0
   have rx1 := cell_regrown x1
   have rx2 := cell_regrown x2
   have rx3 := cell_regrown x3
   have rx4 := cell_regrown x4
   have ry0 := cell_regrown y0
   have ry1 := cell_regrown y1
   have ry2 := cell_regrown y2
   have ry3 := cell_regrown y3
   have ry4 := cell_regrown y4
   refine region_mix [(true, 0), (true, 1), (true, 2), (true, 3), (true, 4), (true, 5), (true, 6), (true, 7), (true, 8), (true, 9), (false, 10), (true, 11)] (by kernel_rfl) (by kernel_rfl) (fun _ _ _ _ _ h => h) ?_
   (repeat (first | (refine mix_z rfl (by rfl) ?_; go_big_quiet_skip; refine wpQuiet_nil ?_) | (refine mix_q rfl ?_; first | (go_big_quiet_skip; refine wpQuiet_nil ?_) | (go_big_quiet_want; go_big_quiet_op; go_big_quiet_on; refine wpQuiet_nil ?_))))
   have hS := Hd.mk (Below.refl wr.heap.size wr)
   refine mix_b rfl ?_ (by rfl)
   go_wp2_with fail
   clear v00 v01 v02 v03 v04 v0z v10 v11 v12 v13 v14 v1z
   apply calls_gen; intro W3 hW
   have hz_ : wr.heap.size ≤ W3.heap.size := by rw [hW]; simp
   have hE : Below wr.heap.size wr W3 := by rw [hW]; (repeat (first | with_reducible refine below_alloc ?_ _ | with_reducible refine below_drew ?_)); exact Below.refl _ _
   have hB := Hd.mk (below_then hB.out hE)
   have hBz := Hd.mk (below_then hBz.out hE)
   replace hS := Hd.mk (below_then hS.out hE)
   have b0 := Hd.mk (b0.out.below hE)
   have b1 := Hd.mk (b1.out.below hE)
   clear hW hE
   have z3 := Hd.mk hz_; clear hz_
   clear x0 x1 x2 x3 x4 y0 y1 y2 y3 y4
   refine (ih x.list[k] _ _ _ (Ty.K_below _ hBz.out HKx.out) (Ty.K_below _ hBz.out HKy.out)).mono ?_
   rintro e w4 ⟨rfl, hX⟩
   have b0 := Hd.mk (b0.out.below hX)
   have b1 := Hd.mk (b1.out.below hX)
   have hB := Hd.mk (below_then hB.out hX)
   replace hS := Hd.mk (below_then hS.out hX)
   have hz_ := hX.size
   have hBz := Hd.mk (below_then hBz.out hX)
   clear hX
   have z4 := Hd.mk hz_; clear hz_
   go_wp2_with fail
   refine ⟨cls_below hS.out, ?_⟩
   (repeat (first | (refine mix_z rfl (by rfl) ?_; go_big_quiet_skip; refine wpQuiet_nil ?_) | (refine mix_q rfl ?_; first | (go_big_quiet_skip; refine wpQuiet_nil ?_) | (go_big_quiet_want; go_big_quiet_op; go_big_quiet_on; refine wpQuiet_nil ?_))))
   refine mix_nil ?_
   clear hS rv00 rv01 rv02 rv03 rv04 rv10 rv11 rv12 rv13 rv14 rx0 rx1 rx2 rx3 rx4 ry0 ry1 ry2 ry3 ry4
   go_wp2_with fail
   go_roundw
   case rel => exact ⟨k + 1, by omega, by go_num, b0, b1, hB, ⟨by have z1_ := z1.out; have z2_ := z2.out; have hzw_ := hzw.out; have z3_ := z3.out; have z4_ := z4.out; show w2.heap.size ≤ w4.heap.size; omega⟩⟩
   case measure => simp [intOf]; omega
  ·obtain rfl : k = x.list.length := by omega
   have v00 : wr.cell? ⟨w.heap.size, 0, none⟩ = some (.int .i64 x.kind) := b0.out.cell 0 rfl
   have v01 : wr.cell? ⟨w.heap.size, 1, none⟩ = some (.int .i64 x.n) := b0.out.cell 1 rfl
   have v02 : wr.cell? ⟨w.heap.size, 2, none⟩ = some (.string x.s) := b0.out.cell 2 rfl
   have v03 : wr.cell? ⟨w.heap.size, 3, none⟩ = some (.slice A3 x.list.length c3) := b0.out.cell 3 rfl
   have v04 : wr.cell? ⟨w.heap.size, 4, none⟩ = some (.slice A4 x.names.length c4) := b0.out.cell 4 rfl
   have v0z := b0.out.frozen
   have v10 : wr.cell? ⟨w.heap.size + 1, 0, none⟩ = some (.int .i64 x.kind) := b1.out.cell 0 rfl
   have v11 : wr.cell? ⟨w.heap.size + 1, 1, none⟩ = some (.int .i64 x.n) := b1.out.cell 1 rfl
   have v12 : wr.cell? ⟨w.heap.size + 1, 2, none⟩ = some (.string x.s) := b1.out.cell 2 rfl
   have v13 : wr.cell? ⟨w.heap.size + 1, 3, none⟩ = some (.slice B3 x.list.length e3) := b1.out.cell 3 rfl
   have v14 : wr.cell? ⟨w.heap.size + 1, 4, none⟩ = some (.slice B4 x.names.length e4) := b1.out.cell 4 rfl
   have v1z := b1.out.frozen
   go_wp2_with fail
   clear v00 v01 v02 v03 v04 v0z v10 v11 v12 v13 v14 v1z
   go_ret
   exact ⟨rfl, hB.out⟩
theorem sameJ_all : ∀ m, SameJ m
 | 0 => fun x cs cs2 w hk _ => hk.elim
 | m + 1 => sameJ_of (sameJ_all m)
theorem laws_sameJson {m : Nat} (x : J) (cs cs2 : List Value) (w : World) (hk : (tJ m).K w x cs) (hk2 : (tJ m).K w x cs2) : Calls Try.prog 21 #[.agg cs.toArray, .agg cs2.toArray] w fun e w' => e = .returned (.bool true) ∧ Below w.heap.size w w' := sameJ_all m x cs cs2 w hk hk2
end Go.Proofs.Ytlkjpnlpankhpaa.X
namespace Go.Proofs.Ytlkjpnlpankhpaa.X
open Go.RowKit Go.Sort
set_option linter.unusedVariables false
set_option linter.unusedSimpArgs false
open Ty
def firstRow (l : List Row) (id : Int) : Option Row := l.find? (fun x => x.id == id)
theorem rowAt_first (l : List Row) (id : Int) : (firstRow l id = none ∧ rowAt l id = -1) ∨ ∃ j, ∃ h : j < l.length, rowAt l id = (j : Int) ∧ firstRow l id = some l[j] := by
 rcases idxF_cases (fun x : Row => x.id == id) l with ⟨h1, h2⟩ | ⟨h1, h2⟩
 ·left
  refine ⟨?_, h1⟩
  unfold firstRow
  rw [List.find?_eq_none]
  intro x hx
  have := List.findIdx_eq_length.1 h2 x hx
  simpa using this
 ·right
  refine ⟨_, h2, h1, ?_⟩
  unfold firstRow
  rw [List.find?_eq_some_iff_getElem]
  exact ⟨List.findIdx_getElem (w := h2), _, h2, rfl, fun j hj => by have := List.not_of_lt_findIdx hj; simpa using this⟩
theorem first_ins (a b : List Row) (r : Row) (id : Int) (h : r.id ≠ id) : firstRow (a ++ r :: b) id = firstRow (a ++ b) id := by
 unfold firstRow
 rw [List.find?_append, List.find?_append, List.find?_cons]
 rw [show (r.id == id) = false by simpa using h]
theorem first_put_ne (l : List Row) (r : Row) (id : Int) (h : r.id ≠ id) : firstRow (rowPut l r) id = firstRow l id := by
 unfold rowPut
 split
 ·rename_i hlt
  have h1 : l[l.findIdx (fun x => x.id == r.id)].id = r.id := by simpa using List.findIdx_getElem (xs := l) (p := fun x : Row => x.id == r.id) (w := hlt)
  generalize hq : l.findIdx (fun x => x.id == r.id) = q at hlt h1
  rw [List.set_eq_take_append_cons_drop, if_pos hlt, first_ins _ _ _ _ h]
  have h2 : l = l.take q ++ l[q] :: l.drop (q + 1) := by rw [List.getElem_cons_drop, List.take_append_drop]
  rw [h2, first_ins _ _ l[q] id (by rw [h1]; exact h)]
  have h3 : (l.take q ++ l[q] :: l.drop (q + 1)).take q = l.take q := by rw [← h2]
  have h4 : (l.take q ++ l[q] :: l.drop (q + 1)).drop (q + 1) = l.drop (q + 1) := by rw [← h2]
  rw [h3, h4]
 ·rw [first_ins _ _ _ _ h, List.take_append_drop]
theorem first_put (l : List Row) (r : Row) : firstRow (rowPut l r) r.id = some r := by
 unfold rowPut
 split
 ·rename_i hlt
  rw [List.set_eq_take_append_cons_drop, if_pos hlt]
  unfold firstRow
  rw [List.find?_append, List.find?_cons]
  have h1 : (l.take (l.findIdx (fun x => x.id == r.id))).find? (fun x => x.id == r.id) = none := by
   rw [List.find?_eq_none]
   intro x hx
   obtain ⟨j, hj, rfl⟩ := List.mem_take_iff_getElem.1 hx
   have := List.not_of_lt_findIdx (p := fun x : Row => x.id == r.id) (xs := l) (i := j) (by omega)
   simpa using this
  rw [h1]
  simp
 ·rename_i hlt
  unfold firstRow
  rw [List.find?_append, List.find?_cons]
  have h1 : (l.take (l.findIdx (fun x => decide (r.id < x.id)))).find? (fun x => x.id == r.id) = none := by
   rw [List.find?_eq_none]
   intro x hx hb
   exact hlt (List.findIdx_lt_length_of_exists ⟨x, List.mem_of_mem_take hx, hb⟩)
  rw [h1]
  simp
theorem drop_gone (l : List Row) (id : Int) (h : IdsP l) : rowAt (rowDrop l id) id = -1 := by
 rcases rowAt_first (rowDrop l id) id with ⟨_, h1⟩ | ⟨j, hj, h1, h2⟩
 ·exact h1
 ·exfalso
  have h3 : (rowDrop l id)[j].id = id := by
   unfold firstRow at h2
   simpa using List.find?_some h2
  unfold rowDrop at hj h3
  rw [List.getElem_eraseIdx] at h3
  have hl : (l.eraseIdx (l.findIdx (fun r => r.id == id))).length ≤ l.length := List.length_eraseIdx_le _ _
  have key : ∀ a (ha : a < l.length), a ≠ l.findIdx (fun r => r.id == id) → l[a].id ≠ id := by
   intro a ha hne he
   have hlt : l.findIdx (fun r => r.id == id) < l.length := List.findIdx_lt_length_of_exists ⟨l[a], List.getElem_mem ha, by simpa using he⟩
   have hq : l[l.findIdx (fun r => r.id == id)].id = id := by simpa using List.findIdx_getElem (xs := l) (p := fun x : Row => x.id == id) (w := hlt)
   apply hne
   have h4 : (l.map Row.id)[a]'(by simpa using ha) = (l.map Row.id)[l.findIdx (fun r => r.id == id)]'(by simpa using hlt) := by
    simp only [List.getElem_map]
    rw [he, hq]
   exact (List.getElem_inj h).1 h4
  split at h3
  ·rename_i hb
   exact key j _ (by omega) h3
  ·rename_i hb
   exact key (j + 1) _ (by omega) h3
theorem put_has (l : List Row) (r : Row) : ∃ q, ∃ h : q < (rowPut l r).length, rowAt (rowPut l r) r.id = (q : Int) ∧ (rowPut l r)[q] = r := by
 rcases rowAt_first (rowPut l r) r.id with ⟨h1, _⟩ | ⟨j, hj, h1, h2⟩
 ·rw [first_put] at h1; cases h1
 ·rw [first_put] at h2
  injection h2 with h2
  exact ⟨j, hj, h1, h2.symm⟩
theorem put_keeps (l : List Row) (r : Row) (i : Nat) (hi : i < l.length) (hne : l[i].id ≠ r.id) : ∃ j, ∃ h : j < (rowPut l r).length, rowAt (rowPut l r) l[i].id = (j : Int) ∧ (rowAt l l[i].id = (i : Int) → (rowPut l r)[j] = l[i]) := by
 rcases rowAt_first (rowPut l r) l[i].id with ⟨h1, _⟩ | ⟨j, hj, h1, h2⟩
 ·rw [first_put_ne _ _ _ (Ne.symm hne)] at h1
  unfold firstRow at h1
  rw [List.find?_eq_none] at h1
  exact absurd (by simp) (h1 l[i] (List.getElem_mem hi))
 ·refine ⟨j, hj, h1, fun h3 => ?_⟩
  rw [first_put_ne _ _ _ (Ne.symm hne)] at h2
  rcases rowAt_first l l[i].id with ⟨_, h5⟩ | ⟨k, hk, h5, h6⟩
  ·omega
  ·obtain rfl : k = i := by omega
   rw [h6] at h2
   injection h2 with h2
   exact h2.symm
theorem laws_big (A : Option Addr) (c : Nat) (bs : List Int) (w : World) (hm : bs.length ≤ 9223372036854775807) : Calls Try.prog 7 #[.slice A bs.length c] w fun e w' => e = .returned (.bool (decide ((1048576 : Int) < bs.length))) ∧ w = w' := by
 go_enter Try.func7, Try.ntmps7
 go_wp2
 go_ret
 exact ⟨rfl, rfl⟩
theorem C_tail0 {w : World} {ad : Addr} {s : ByteArray} {r : List ByteArray} {A' : Option Addr} (h : str.C w (some ad) (s :: r)) (hA : r = [] ∨ A' = some (ad.add 1)) : str.C w A' r := by
 rcases hA with rfl | rfl
 ·exact C_nil _
 ·refine ⟨by have := h.1; simp only [List.length_cons] at this; omega, fun i x hx => ?_⟩
  obtain ⟨ad2, cs, h1, h2, h3⟩ := h.2 (i + 1) x (by simpa using hx)
  injection h1 with h1
  subst h1
  refine ⟨ad.add 1, cs, rfl, h2, fun j u hu => ?_⟩
  have h4 := h3 j u hu
  have e : (ad.add 1).add (i * str.sz + j) = ad.add ((i + 1) * str.sz + j) := by
   rw [Addr.add_add]
   congr 1
   show 1 + (i * 1 + j) = (i + 1) * 1 + j
   omega
  rw [e]; exact h4
theorem underL_at (s : ByteArray) (l : List JOp) (k : Nat) (hk : k < l.length) : (underL s l)[k]'(by rw [under_len]; exact hk) = ⟨l[k].kind, s :: l[k].way, l[k].value⟩ := by
 simp [underL]
set_option maxHeartbeats 16000000 in
set_option maxRecDepth 100000 in
theorem laws_FnUnder {w : World} (A0 : Option Addr) (c0 : Nat) (bs : List Int) (hv0 : bs.length ≤ c0) (hk0 : u8.C w A0 bs) :
  Calls Try.prog 4 #[.slice A0 bs.length c0] w fun e w' => e = .returned (.bool true) ∧ Below w.heap.size w w' := by
 have hm := hk0.1
 have HBS := Hd.mk hk0; clear hk0
 have hB := Hd.mk (Below.refl w.heap.size w)
 go_enter Try.func4, Try.ntmps4
 go_wp2_with fail
 refine (laws_big _ _ bs w hm).mono ?_
 rintro e w1 ⟨rfl, rfl⟩
 by_cases hbig : (1048576 : Int) < bs.length
 ·have hbb : decide ((1048576 : Int) < bs.length) = true := decide_eq_true hbig
  rw [hbb]
  go_wp2_with fail
  go_ret
  exact ⟨rfl, Below.refl _ _⟩
 have hbb : decide ((1048576 : Int) < bs.length) = false := decide_eq_false hbig
 rw [hbb]
 have hbs : bs.length ≤ 1048576 := by omega
 clear hbig hbb
 go_wp2_with fail
 refine (spec_DrawUnder _ _ bs _ (C_below HBS.out hB.out) hbs).mono ?_
 rintro e w1 ⟨s, l, v, rfl, hs, hL, hl2, hlo, hX⟩
 have hB := hB.th hX
 have hz_ := hX.size
 clear hX
 have z1 := Hd.mk hz_; clear hz_
 have hs6 : s.size ≤ 60 := (show ∀ s ∈ drawNames, s.size ≤ 60 by decide) s hs
 clear hs
 obtain ⟨AL, cL, hvL, hcL, _⟩ := R_C hL
 subst hvL
 have hL := Hd.mk (show (tOp 9).R 38 w1 (rng w.heap.size w1.heap.size) _ l from R_bound hL)
 replace hlo := Hd.mk hlo
 go_wp2_with fail
 apply calls_gen; intro W2 hW
 have hz_ : w1.heap.size ≤ W2.heap.size := by rw [hW]; simp
 have hE : Below w1.heap.size w1 W2 := by rw [hW]; (repeat (first | with_reducible refine below_alloc ?_ _ | with_reducible refine below_drew ?_)); exact Below.refl _ _
 have hB := hB.th hE
 have hL := Hd.mk (R_below hL.out hE)
 clear hW hE
 have z2 := Hd.mk hz_; clear hz_
 refine (impl_UnderE (m := 8) s (by omega) AL cL l _ (R_Cv hL.out) (by omega) (fun x hx => Nat.le_trans (hlo.out x hx 9) (by decide))).mono ?_
 rintro e w3 ⟨v, rfl, hU, hX⟩
 have hL := Hd.mk (R_below hL.out hX)
 have hB := hB.th hX
 have hz_ := hX.size
 clear hX
 have z3 := Hd.mk hz_; clear hz_
 obtain ⟨AU, cU, hvU, hcU, _⟩ := R_C hU
 subst hvU
 obtain ⟨n, hn⟩ : ∃ z, z = (underL s l).length := ⟨_, rfl⟩
 have hnl : n = l.length := by rw [hn, under_len]
 rw [hnl] at hn
 rw [← hn] at hU hcU ⊢
 have HLN := Hd.mk hn; clear hn hnl
 have hU := Hd.mk (show (tOp 9).R 38 w3 (rng W2.heap.size w3.heap.size) (.slice AU l.length cU) (underL s l) from R_bound hU)
 have hnn : (l.length != l.length) = false := by simp
 have hnd : ((l.length : Int) != (l.length : Int)) = false := by simp
 go_wp2_with fail
 apply calls_gen; intro W4 hW
 have hz_ : w3.heap.size ≤ W4.heap.size := by rw [hW]; simp
 have hE : Below w3.heap.size w3 W4 := by rw [hW]; (repeat (first | with_reducible refine below_alloc ?_ _ | with_reducible refine below_drew ?_)); exact Below.refl _ _
 have hB := hB.th hE
 have hL := Hd.mk (R_below hL.out hE)
 have hU := Hd.mk (R_below hU.out hE)
 clear hW hE
 have z4 := Hd.mk hz_; clear hz_
 refine (spec_UnderE (m := 8) s (by omega) AL cL l _ (R_Cv hL.out) (by omega) (fun x hx => Nat.le_trans (hlo.out x hx 9) (by decide))).mono ?_
 rintro e w5 ⟨v, rfl, hU2, hX⟩
 have hL := Hd.mk (R_below hL.out hX)
 have hU := Hd.mk (R_below hU.out hX)
 have hB := hB.th hX
 have hz_ := hX.size
 clear hX
 have z5 := Hd.mk hz_; clear hz_
 obtain ⟨AV, cV, hvV, hcV, _⟩ := R_C hU2
 subst hvV
 rw [← HLN.out] at hcV ⊢
 clear hU2
 go_wp2_with fail
 go_loopw [6] (fun i wr => ∃ k : Nat, k ≤ l.length ∧ i = .int .i64 k ∧ Hd ((tOp 9).R 38 wr (rng w.heap.size w1.heap.size) (.slice AL l.length cL) l) ∧ Hd ((tOp 9).R 38 wr (rng W2.heap.size w3.heap.size) (.slice AU l.length cU) (underL s l)) ∧ Hd (Below w.heap.size w wr) ∧ Hd (w5.heap.size ≤ wr.heap.size)) (fun i _ => l.length - (intOf i).toNat)
 case atStart => exact ⟨0, Nat.zero_le _, rfl, hL, hU, hB, ⟨Nat.le_refl _⟩⟩
 case round =>
  clear hL hU hB
  obtain ⟨k, hk, rfl, hL, hU, hB, hzw⟩ := hrel
  have hk0 : (0 : Int) ≤ (k : Int) := by omega
  by_cases hlt : k < l.length
  ·obtain ⟨ad, cs0, had, hK0, e0, e1⟩ := C_at (R_Cv hL.out) (Below.refl _ _) k hlt
   have hkU : k < (underL s l).length := by rw [under_len]; exact hlt
   obtain ⟨ad2, cs1, had2, hK1, u0, u1⟩ := C_at (R_Cv hU.out) (Below.refl _ _) k hkU
   rw [underL_at s l k hlt] at hK1
   subst had; subst had2
   rw [show (tOp 9).sz = 7 from tOp_sz 9] at e0 e1 u0 u1
   have hqw : l[k].way.length ≤ 50000 := by
    have h1 := hlo.out l[k] (List.getElem_mem hlt) 1
    simp only [bulkOp, bulkStringS] at h1
    omega
   obtain ⟨q, hq⟩ : ∃ z, z = l[k] := ⟨_, rfl⟩
   rw [← hq] at hK0 hK1 hqw
   clear hq hkU
   obtain ⟨A1, c1, _, rfl, ⟨hc1, hw1⟩, hj1⟩ := tOp_K.1 hK0
   obtain ⟨A2, c2, A3, c3, rfl, _⟩ := tJ_K.1 hj1
   obtain ⟨B1, d1, _, rfl, ⟨hd1, hw2⟩, hj2⟩ := tOp_K.1 hK1
   simp only at hd1 hw2 hj2 u0 u1
   obtain ⟨B2, d2, B3, d3, rfl, _⟩ := tJ_K.1 hj2
   obtain ⟨adw, hadw, z0, _⟩ := C_str_at hw2 (Below.refl _ _) 0 (by simp)
   subst hadw
   simp only [List.getElem_cons_zero] at z0
   have z1 : wr.cell? adw = some (.string s) := by have h1 := z0; unfold Addr.add at h1; simpa using h1
   have hd1n : q.way.length + 1 ≤ d1 := by simpa using hd1
   have hm1 := hw1.1
   have hBz := Hd.mk (Below.refl wr.heap.size wr)
   have HW1 := Hd.mk hw1; have HW2 := Hd.mk hw2; have HJ1 := Hd.mk hj1; have HJ2 := Hd.mk hj2
   clear hw1 hw2 hj1 hj2 hK0 hK1 hd1
   have x0 : wr.cell? (ad.add (k * 7)) = some (.int .i64 q.kind) := e0 _ rfl
   have x1 : wr.cell? ⟨(ad.add (k * 7)).block, (ad.add (k * 7)).off + 1, none⟩ = some (.slice A1 q.way.length c1) := e1 0 _ rfl
   have x2 : wr.cell? ⟨(ad.add (k * 7)).block, (ad.add (k * 7)).off + 2, none⟩ = some (.int .i64 q.value.kind) := e1 1 _ rfl
   have x3 : wr.cell? ⟨(ad.add (k * 7)).block, (ad.add (k * 7)).off + 3, none⟩ = some (.int .i64 q.value.n) := e1 2 _ rfl
   have x4 : wr.cell? ⟨(ad.add (k * 7)).block, (ad.add (k * 7)).off + 4, none⟩ = some (.string q.value.s) := e1 3 _ rfl
   have x5 : wr.cell? ⟨(ad.add (k * 7)).block, (ad.add (k * 7)).off + 5, none⟩ = some (.slice A2 q.value.list.length c2) := e1 4 _ rfl
   have x6 : wr.cell? ⟨(ad.add (k * 7)).block, (ad.add (k * 7)).off + 6, none⟩ = some (.slice A3 q.value.names.length c3) := e1 5 _ rfl
   have y0 : wr.cell? (ad2.add (k * 7)) = some (.int .i64 q.kind) := u0 _ rfl
   have y1 : wr.cell? ⟨(ad2.add (k * 7)).block, (ad2.add (k * 7)).off + 1, none⟩ = some (.slice (some adw) (q.way.length + 1) d1) := u1 0 _ rfl
   have y2 : wr.cell? ⟨(ad2.add (k * 7)).block, (ad2.add (k * 7)).off + 2, none⟩ = some (.int .i64 q.value.kind) := u1 1 _ rfl
   have y3 : wr.cell? ⟨(ad2.add (k * 7)).block, (ad2.add (k * 7)).off + 3, none⟩ = some (.int .i64 q.value.n) := u1 2 _ rfl
   have y4 : wr.cell? ⟨(ad2.add (k * 7)).block, (ad2.add (k * 7)).off + 4, none⟩ = some (.string q.value.s) := u1 3 _ rfl
   have y5 : wr.cell? ⟨(ad2.add (k * 7)).block, (ad2.add (k * 7)).off + 5, none⟩ = some (.slice B2 q.value.list.length d2) := u1 4 _ rfl
   have y6 : wr.cell? ⟨(ad2.add (k * 7)).block, (ad2.add (k * 7)).off + 6, none⟩ = some (.slice B3 q.value.names.length d3) := u1 5 _ rfl
   clear e0 e1 u0 u1
   have hkn : (q.kind != q.kind) = false := by simp
   have hsn : (s.toList != s.toList) = false := by simp
   by_cases hd0 : d1 = 1
   ·subst hd0
    have hq0 : q.way.length = 0 := by omega
    have HQ0 := Hd.mk hq0; clear hq0
    go_wp2_with fail
    obtain ⟨rx0, rx1, rx2, rx3, rx4, rx5, rx6⟩ := reg7 x0 x1 x2 x3 x4 x5 x6
    obtain ⟨ry0, ry1, ry2, ry3, ry4, ry5, ry6⟩ := reg7 y0 y1 y2 y3 y4 y5 y6
    have rz0 := cell_regrown z0
    have rz1 := cell_regrown z1
    simp only [List.append]
    refine region_mix ((true, 0) :: (true, 1) :: (true, 2) :: (true, 3) :: (true, 4) :: (true, 5) :: (true, 6) :: (true, 7) :: (true, 8) :: (true, 9) :: (true, 10) :: (true, 11) :: (true, 12) :: (true, 13) :: (true, 14) :: (true, 15) :: (true, 16) :: (true, 17) :: (true, 18) :: (true, 19) :: (true, 20) :: (true, 21) :: (true, 22) :: (true, 23) :: (true, 24) :: (true, 25) :: (true, 26) :: (true, 27) :: (true, 28) :: (true, 29) :: (true, 30) :: (true, 31) :: (true, 32) :: (true, 33) :: (true, 34) :: (true, 35) :: (true, 36) :: (true, 37) :: (true, 38) :: (true, 39) :: (true, 40) :: (true, 41) :: (true, 42) :: (true, 43) :: (true, 44) :: (true, 45) :: (true, 46) :: (true, 47) :: (true, 48) :: (true, 49) :: (false, 50) :: (true, 51) :: (true, 52) :: (true, 53) :: (true, 54) :: (true, 55) :: (true, 56) :: (true, 57) :: (true, 58) :: (true, 59) :: (true, 60) :: (true, 61) :: (true, 62) :: (true, 63) :: (false, 64) :: (true, 65) :: (true, 66) :: []) (by kernel_rfl) (by kernel_rfl) (fun _ _ _ _ _ h => h) ?_
    (repeat (first | (refine mix_z rfl (by rfl) ?_; go_big_quiet_skip; refine wpQuiet_nil ?_) | (refine mix_q rfl ?_; first | (go_big_quiet_skip; refine wpQuiet_nil ?_) | (go_big_quiet_want; go_big_quiet_op; go_big_quiet_on; refine wpQuiet_nil ?_))))
    have hS := Hd.mk (Below.refl wr.heap.size wr)
    refine mix_b rfl ?_ (by rfl)
    go_wp2_with fail
    apply calls_gen; intro W6 hW
    have hz_ : wr.heap.size ≤ W6.heap.size := by rw [hW]; simp
    have hE : Below wr.heap.size wr W6 := by rw [hW]; (repeat (first | with_reducible refine below_alloc ?_ _ | with_reducible refine below_drew ?_)); exact Below.refl _ _
    have hB := hB.th hE
    have hBz := Hd.mk (below_then hBz.out hE)
    replace hS := Hd.mk (below_then hS.out hE)
    have hL := Hd.mk (R_below hL.out hE)
    have hU := Hd.mk (R_below hU.out hE)
    clear hW hE
    have z6 := Hd.mk hz_; clear hz_
    clear x0 x1 x2 x3 x4 x5 x6 y0 y1 y2 y3 y4 y5 y6 z0 z1
    rw [HQ0.out]
    refine (laws_sameTexts (l := []) (some adw) A1 0 c1 _ (C_nil _) (C_nil _)).mono ?_
    rintro e w7 ⟨rfl, hX⟩
    have hL := Hd.mk (R_below hL.out hX)
    have hU := Hd.mk (R_below hU.out hX)
    have hB := hB.th hX
    replace hS := Hd.mk (below_then hS.out hX)
    have hz_ := hX.size
    have hBz := Hd.mk (below_then hBz.out hX)
    clear hX
    have z7 := Hd.mk hz_; clear hz_
    go_wp2_with fail
    refine ⟨cls_below hS.out, ?_⟩
    (repeat (first | (refine mix_z rfl (by rfl) ?_; go_big_quiet_skip; refine wpQuiet_nil ?_) | (refine mix_q rfl ?_; first | (go_big_quiet_skip; refine wpQuiet_nil ?_) | (go_big_quiet_want; go_big_quiet_op; go_big_quiet_on; refine wpQuiet_nil ?_))))
    refine mix_b rfl ?_ (by rfl)
    go_wp2_with fail
    apply calls_gen; intro W8 hW
    have hz_ : w7.heap.size ≤ W8.heap.size := by rw [hW]; simp
    have hE : Below w7.heap.size w7 W8 := by rw [hW]; (repeat (first | with_reducible refine below_alloc ?_ _ | with_reducible refine below_drew ?_)); exact Below.refl _ _
    have hB := hB.th hE
    have hBz := Hd.mk (below_then hBz.out hE)
    replace hS := Hd.mk (below_then hS.out hE)
    have hL := Hd.mk (R_below hL.out hE)
    have hU := Hd.mk (R_below hU.out hE)
    clear hW hE
    have z8 := Hd.mk hz_; clear hz_
    refine (laws_sameJson q.value _ _ _ (Ty.K_below _ hBz.out HJ2.out) (Ty.K_below _ hBz.out HJ1.out)).mono ?_
    rintro e w9 ⟨rfl, hX⟩
    have hL := Hd.mk (R_below hL.out hX)
    have hU := Hd.mk (R_below hU.out hX)
    have hB := hB.th hX
    replace hS := Hd.mk (below_then hS.out hX)
    have hz_ := hX.size
    have hBz := Hd.mk (below_then hBz.out hX)
    clear hX
    have z9 := Hd.mk hz_; clear hz_
    go_wp2_with fail
    refine ⟨cls_below hS.out, ?_⟩
    (repeat (first | (refine mix_z rfl (by rfl) ?_; go_big_quiet_skip; refine wpQuiet_nil ?_) | (refine mix_q rfl ?_; first | (go_big_quiet_skip; refine wpQuiet_nil ?_) | (go_big_quiet_want; go_big_quiet_op; go_big_quiet_on; refine wpQuiet_nil ?_))))
    refine mix_nil ?_
    clear hS rx0 rx1 rx2 rx3 rx4 rx5 rx6 ry0 ry1 ry2 ry3 ry4 ry5 ry6 rz0 rz1
    go_wp2_with fail
    go_roundw
    case rel => exact ⟨k + 1, by omega, by go_num, hL, hU, hB, ⟨by have z1_ := z1.out; have z2_ := z2.out; have z3_ := z3.out; have z4_ := z4.out; have z5_ := z5.out; have hzw_ := hzw.out; have z6_ := z6.out; have z7_ := z7.out; have z8_ := z8.out; have z9_ := z9.out; show w5.heap.size ≤ w9.heap.size; omega⟩⟩
    case measure => simp [intOf]; omega
   ·have HT := Hd.mk (C_tail0 (A' := some (adw.add 1)) HW2.out (.inr rfl))
    go_wp2_with fail
    obtain ⟨rx0, rx1, rx2, rx3, rx4, rx5, rx6⟩ := reg7 x0 x1 x2 x3 x4 x5 x6
    obtain ⟨ry0, ry1, ry2, ry3, ry4, ry5, ry6⟩ := reg7 y0 y1 y2 y3 y4 y5 y6
    have rz0 := cell_regrown z0
    have rz1 := cell_regrown z1
    simp only [List.append]
    refine region_mix ((true, 0) :: (true, 1) :: (true, 2) :: (true, 3) :: (true, 4) :: (true, 5) :: (true, 6) :: (true, 7) :: (true, 8) :: (true, 9) :: (true, 10) :: (true, 11) :: (true, 12) :: (true, 13) :: (true, 14) :: (true, 15) :: (true, 16) :: (true, 17) :: (true, 18) :: (true, 19) :: (true, 20) :: (true, 21) :: (true, 22) :: (true, 23) :: (true, 24) :: (true, 25) :: (true, 26) :: (true, 27) :: (true, 28) :: (true, 29) :: (true, 30) :: (true, 31) :: (true, 32) :: (true, 33) :: (true, 34) :: (true, 35) :: (true, 36) :: (true, 37) :: (true, 38) :: (true, 39) :: (true, 40) :: (true, 41) :: (true, 42) :: (true, 43) :: (true, 44) :: (true, 45) :: (true, 46) :: (true, 47) :: (true, 48) :: (true, 49) :: (false, 50) :: (true, 51) :: (true, 52) :: (true, 53) :: (true, 54) :: (true, 55) :: (true, 56) :: (true, 57) :: (true, 58) :: (true, 59) :: (true, 60) :: (true, 61) :: (true, 62) :: (true, 63) :: (false, 64) :: (true, 65) :: (true, 66) :: []) (by kernel_rfl) (by kernel_rfl) (fun _ _ _ _ _ h => h) ?_
    (repeat (first | (refine mix_z rfl (by rfl) ?_; go_big_quiet_skip; refine wpQuiet_nil ?_) | (refine mix_q rfl ?_; first | (go_big_quiet_skip; refine wpQuiet_nil ?_) | (go_big_quiet_want; go_big_quiet_op; go_big_quiet_on; refine wpQuiet_nil ?_))))
    have hS := Hd.mk (Below.refl wr.heap.size wr)
    refine mix_b rfl ?_ (by rfl)
    go_wp2_with fail
    apply calls_gen; intro W6 hW
    have hz_ : wr.heap.size ≤ W6.heap.size := by rw [hW]; simp
    have hE : Below wr.heap.size wr W6 := by rw [hW]; (repeat (first | with_reducible refine below_alloc ?_ _ | with_reducible refine below_drew ?_)); exact Below.refl _ _
    have hB := hB.th hE
    have hBz := Hd.mk (below_then hBz.out hE)
    replace hS := Hd.mk (below_then hS.out hE)
    have hL := Hd.mk (R_below hL.out hE)
    have hU := Hd.mk (R_below hU.out hE)
    clear hW hE
    have z6 := Hd.mk hz_; clear hz_
    clear x0 x1 x2 x3 x4 x5 x6 y0 y1 y2 y3 y4 y5 y6 z0 z1
    refine (laws_sameTexts _ A1 _ c1 _ (C_below HT.out hBz.out) (C_below HW1.out hBz.out)).mono ?_
    rintro e w7 ⟨rfl, hX⟩
    have hL := Hd.mk (R_below hL.out hX)
    have hU := Hd.mk (R_below hU.out hX)
    have hB := hB.th hX
    replace hS := Hd.mk (below_then hS.out hX)
    have hz_ := hX.size
    have hBz := Hd.mk (below_then hBz.out hX)
    clear hX
    have z7 := Hd.mk hz_; clear hz_
    go_wp2_with fail
    refine ⟨cls_below hS.out, ?_⟩
    (repeat (first | (refine mix_z rfl (by rfl) ?_; go_big_quiet_skip; refine wpQuiet_nil ?_) | (refine mix_q rfl ?_; first | (go_big_quiet_skip; refine wpQuiet_nil ?_) | (go_big_quiet_want; go_big_quiet_op; go_big_quiet_on; refine wpQuiet_nil ?_))))
    refine mix_b rfl ?_ (by rfl)
    go_wp2_with fail
    apply calls_gen; intro W8 hW
    have hz_ : w7.heap.size ≤ W8.heap.size := by rw [hW]; simp
    have hE : Below w7.heap.size w7 W8 := by rw [hW]; (repeat (first | with_reducible refine below_alloc ?_ _ | with_reducible refine below_drew ?_)); exact Below.refl _ _
    have hB := hB.th hE
    have hBz := Hd.mk (below_then hBz.out hE)
    replace hS := Hd.mk (below_then hS.out hE)
    have hL := Hd.mk (R_below hL.out hE)
    have hU := Hd.mk (R_below hU.out hE)
    clear hW hE
    have z8 := Hd.mk hz_; clear hz_
    refine (laws_sameJson q.value _ _ _ (Ty.K_below _ hBz.out HJ2.out) (Ty.K_below _ hBz.out HJ1.out)).mono ?_
    rintro e w9 ⟨rfl, hX⟩
    have hL := Hd.mk (R_below hL.out hX)
    have hU := Hd.mk (R_below hU.out hX)
    have hB := hB.th hX
    replace hS := Hd.mk (below_then hS.out hX)
    have hz_ := hX.size
    have hBz := Hd.mk (below_then hBz.out hX)
    clear hX
    have z9 := Hd.mk hz_; clear hz_
    go_wp2_with fail
    refine ⟨cls_below hS.out, ?_⟩
    (repeat (first | (refine mix_z rfl (by rfl) ?_; go_big_quiet_skip; refine wpQuiet_nil ?_) | (refine mix_q rfl ?_; first | (go_big_quiet_skip; refine wpQuiet_nil ?_) | (go_big_quiet_want; go_big_quiet_op; go_big_quiet_on; refine wpQuiet_nil ?_))))
    refine mix_nil ?_
    clear hS rx0 rx1 rx2 rx3 rx4 rx5 rx6 ry0 ry1 ry2 ry3 ry4 ry5 ry6 rz0 rz1
    go_wp2_with fail
    go_roundw
    case rel => exact ⟨k + 1, by omega, by go_num, hL, hU, hB, ⟨by have z1_ := z1.out; have z2_ := z2.out; have z3_ := z3.out; have z4_ := z4.out; have z5_ := z5.out; have hzw_ := hzw.out; have z6_ := z6.out; have z7_ := z7.out; have z8_ := z8.out; have z9_ := z9.out; show w5.heap.size ≤ w9.heap.size; omega⟩⟩
    case measure => simp [intOf]; omega
  ·obtain rfl : k = l.length := by omega
   go_wp2_with fail
   go_ret
   exact ⟨by rfl, hB.out⟩
end Go.Proofs.Ytlkjpnlpankhpaa.X
namespace Go.Proofs.Ytlkjpnlpankhpaa.X
open Go.RowKit
set_option linter.unusedVariables false
set_option linter.unusedSimpArgs false
open Ty
def Opens {α : Type} (d : Ty α) (P : Program) (t : TypeId) (wf : α → Prop) (B : Nat) : Prop :=
 ∀ (H : Type) (enc : TypeId × Value → H) (W : World) (base : Nat) (spare : Nat → Bool) (held : Bool) (fuel : Nat) (_ : fuel ≤ B) (cs : List Value) (x : DataW H × List MemPlace),
  DataW.trod enc P W base spare held fuel t cs = some x → ∃ v : α, d.K W v cs ∧ wf v
section
variable {P : Program} {t e : TypeId} {B : Nat}
theorem opens_int (ht : P.underlying t = some (.int .i64)) : Opens int P t (fun n => -9223372036854775808 ≤ n ∧ n ≤ 9223372036854775807) B := by
 intro H enc W base spare held fuel hB cs x h
 obtain ⟨n, rfl, _, hw⟩ := DataW.trod_int ht h
 exact ⟨n, rfl, bounds_i64 hw⟩
theorem opens_bool (ht : P.underlying t = some .bool) : Opens Ty.bool P t (fun _ => True) B := by
 intro H enc W base spare held fuel hB cs x h
 obtain ⟨n, rfl, _⟩ := DataW.trod_bool ht h
 exact ⟨n, rfl, trivial⟩
theorem opens_str (ht : P.underlying t = some .string) : Opens str P t (fun s => s.size ≤ 9223372036854775807) B := by
 intro H enc W base spare held fuel hB cs x h
 obtain ⟨s, rfl, _, hs⟩ := DataW.trod_string ht h
 exact ⟨s, ⟨rfl, by simpa [maxLen] using hs⟩, by simpa [maxLen] using hs⟩
theorem opens_sl {α : Type} {d : Ty α} {wf : α → Prop} {e' : TypeId} (ht : P.underlying t = some (.slice e)) (hc : P.cellsOf e = d.sz) (ho : Opens d P e wf B) : Opens (sl e' d) P t (fun l => ∀ x ∈ l, wf x) B := by
 intro H enc W base spare held fuel hB cs x h
 rcases DataW.trod_slice ht h with ⟨rfl, _⟩ | ⟨a, len, cap, elems, rest, n, hfu, rfl, _, hb, hl, hm, hel, hx, _⟩
 ·exact ⟨[], ⟨none, 0, rfl, Nat.le_refl _, C_nil _⟩, by simp⟩
 ·have key : ∀ i, i < len → ∃ (v : α) (cs : List Value), d.K W v cs ∧ wf v ∧ ∀ j u, cs[j]? = some u → W.cell? (a.add (i * d.sz + j)) = some u := by
   intro i hi
   have h1 := hx i hi
   rw [List.getElem?_eq_getElem (by omega)] at h1
   obtain ⟨cs, h2, h3⟩ := Option.bind_eq_some_iff.1 h1
   obtain ⟨_, h4, h5⟩ := World.cells?_some h2
   obtain ⟨v, hk, hw⟩ := ho H enc W base spare held n (by omega) cs _ h3
   refine ⟨v, cs, hk, hw, fun j u hu => ?_⟩
   have hj : j < cs.length := (List.getElem?_eq_some_iff.1 hu).1
   rw [← hc, ← Addr.add_add, h5 j (by omega), hu]
  have hg : ∀ i x, (List.ofFn (fun i : Fin len => Classical.choose (key i i.2)))[i]? = some x → ∃ hi : i < len, x = Classical.choose (key i hi) := by
   intro i x hi
   rw [List.getElem?_ofFn] at hi
   split at hi
   ·rename_i h1; injection hi with hi; exact ⟨h1, hi.symm⟩
   ·cases hi
  have hll : (List.ofFn (fun i : Fin len => Classical.choose (key i i.2))).length = len := by simp
  refine ⟨List.ofFn (fun i : Fin len => Classical.choose (key i i.2)), ⟨some a, cap, by rw [hll], by rw [hll]; exact hl, by rw [hll]; simp only [maxLen] at hm; omega, fun i x hi => ?_⟩, fun x hx => ?_⟩
  ·obtain ⟨h1, rfl⟩ := hg i x hi
   obtain ⟨cs, hk, _, hcell⟩ := Classical.choose_spec (key i h1)
   exact ⟨a, cs, rfl, hk, hcell⟩
  ·obtain ⟨i, hi⟩ := List.mem_iff_getElem?.1 hx
   obtain ⟨h1, rfl⟩ := hg i x hi
   obtain ⟨cs, _, hw, _⟩ := Classical.choose_spec (key i h1)
   exact hw
theorem pr_split {α β : Type} {a : Ty α} {b : Ty β} {w : World} {x : α} {y : β} {cs : List Value} (k : Nat) (h1 : a.K w x (cs.take k)) (h2 : b.K w y (cs.drop k)) : (pr a b).K w (x, y) cs :=
 ⟨_, _, (List.take_append_drop k cs).symm, h1, h2⟩
theorem opens_fields {H : Type} {enc : TypeId × Value → H} {W : World} {base : Nat} {spare : Nat → Bool} {held : Bool} {fuel : Nat} {cs : List Value} {x : DataW H × List MemPlace} {fs : Array Field} (ht : P.underlying t = some (.struct fs)) (h : DataW.trod enc P W base spare held fuel t cs = some x) :
  cs.length = P.cellsOf t ∧ ∃ n, n < fuel ∧ ∀ (i : Nat) (f : Field), fs[i]? = some f → ∃ y, DataW.trod enc P W base spare held n f.type ((cs.drop f.offset).take (P.cellsOf f.type)) = some y := by
 obtain ⟨xs, n, hfu, _, hl, hxl, hf⟩ := DataW.trod_struct ht h
 refine ⟨hl, n, by omega, fun i f hi => ?_⟩
 have := hf i f hi
 rw [List.getElem?_eq_getElem (by rw [hxl]; exact (Array.getElem?_eq_some_iff.1 hi).1)] at this
 exact ⟨_, this⟩
end
open Go.RowKit
def I64 (n : Int) : Prop := -9223372036854775808 ≤ n ∧ n ≤ 9223372036854775807
theorem cells_int : Try.prog.cellsOf 3 = 1 := by kernel_rfl
theorem o_int (B : Nat) : Opens int Try.prog 3 (I64) B := opens_int Try.underlying3
theorem cells_bool : Try.prog.cellsOf 4 = 1 := by kernel_rfl
theorem o_bool (B : Nat) : Opens Ty.bool Try.prog 4 (fun _ => True) B := opens_bool Try.underlying4
theorem cells_ints : Try.prog.cellsOf 40 = 1 := by kernel_rfl
theorem o_ints (B : Nat) : Opens (sl 3 int) Try.prog 40 (fun l => ∀ x ∈ l, I64 x) B := opens_sl Try.underlying40 cells_int (o_int B)
theorem cells_str : Try.prog.cellsOf 9 = 1 := by kernel_rfl
theorem o_str (B : Nat) : Opens str Try.prog 9 (fun s => s.size ≤ 9223372036854775807) B := opens_str Try.underlying9
theorem cells_strs : Try.prog.cellsOf 25 = 1 := by kernel_rfl
theorem o_strs (B : Nat) : Opens (sl 9 str) Try.prog 25 (fun l => ∀ x ∈ l, x.size ≤ 9223372036854775807) B := opens_sl Try.underlying25 cells_str (o_str B)
/-! The program's head says 'cut': read off its first word alone (the kernel doesn't walk the whole text of the head). -/
theorem cut_of {P : Program} (l : List Char) (h : P.initOrder = String.ofList l) (h2 : ((behindMainWord (wordsSigns l)).head? == some "cut".toList) = true) : ∃ rest, behindMainWord (wordsSigns P.initOrder.toList) = "cut".toList :: rest := by
 rw [h, String.toList_ofList]
 cases hb : behindMainWord (wordsSigns l) with
 | nil => rw [hb] at h2; cases h2
 | cons c r =>
  rw [hb] at h2
  have : c = "cut".toList := by simpa using h2
  exact ⟨r, by rw [this]⟩
theorem make_cut {P : Program} (h : ∃ rest, behindMainWord (wordsSigns P.initOrder.toList) = "cut".toList :: rest) : P.make = some .cut := by
 obtain ⟨r, h⟩ := h
 unfold Program.make
 rw [h]
 rfl
theorem lifts_cut {P : Program} (h : ∃ rest, behindMainWord (wordsSigns P.initOrder.toList) = "cut".toList :: rest) : P.headLifts = [] := by
 obtain ⟨r, h⟩ := h
 unfold Program.headLifts
 rw [h]
 rfl
theorem final_cut {P : Program} (h : ∃ rest, behindMainWord (wordsSigns P.initOrder.toList) = "cut".toList :: rest) : P.liftsFinal = false := by
 have h1 := lifts_cut h
 obtain ⟨r, h⟩ := h
 unfold Program.liftsFinal
 rw [h1, h]
 rfl
theorem enter_cut {P : Program} (h : ∃ rest, behindMainWord (wordsSigns P.initOrder.toList) = "cut".toList :: rest) (h2 : (!P.laysLater && !P.bearsReflect && P.doorFits []) = true) : P.mayEnter = true := by
 obtain ⟨r, h⟩ := h
 simp only [Bool.and_eq_true] at h2
 unfold Program.mayEnter
 rw [h]
 have e : stripLifts liftWords ("cut".toList :: r) = ([], "cut".toList :: r) := rfl
 simp only [e, h2.1.1, h2.1.2, h2.2]
 rfl
set_option maxRecDepth 100000 in
theorem head_cut : ∃ rest, behindMainWord (wordsSigns Try.prog.initOrder.toList) = "cut".toList :: rest := cut_of _ rfl (by kernel_rfl)
theorem enter_ : Try.prog.mayEnter = true := enter_cut head_cut (by kernel_rfl)
theorem final_ : (false == Try.prog.liftsFinal) = true := by rw [final_cut head_cut]; rfl
theorem make_ : (Try.prog.make == some .cut) = true := by rw [make_cut head_cut]; rfl
theorem andB {a b : Bool} (ha : a = true) (hb : b = true) : (a && b) = true := by rw [ha, hb]; rfl
theorem opens_u8 {P : Program} {t : TypeId} {B : Nat} (ht : P.underlying t = some (.int .u8)) : Opens u8 P t (fun _ => True) B := by
 intro H enc W base spare held fuel hB cs x h
 obtain ⟨n, rfl, _, _⟩ := DataW.trod_int ht h
 exact ⟨n, rfl, trivial⟩
theorem cells_u8 : Try.prog.cellsOf 5 = 1 := by kernel_rfl
theorem o_bytes (B : Nat) : Opens (sl 5 u8) Try.prog 22 (fun l => ∀ x ∈ l, True) B := opens_sl Try.underlying22 cells_u8 (opens_u8 Try.underlying5)
end Go.Proofs.Ytlkjpnlpankhpaa.X
