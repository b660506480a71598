/- What is proved here: lemmas about the functions that the statement reaches, and what they compute (part 6). Conditions: none. -/
import Derived.Test.YtegcecnjmimbiaaGreatDoorM5
import Derived.Test.YtegcecnjmimbiaaGreatDoorM4
import Derived.Test.YtegcecnjmimbiaaGreatDoorM1
import Derived.StillTailTactics
import Derived.Deep.RegionWith
import Derived.Test.YtegcecnjmimbiaaGreatDoorProg
import Derived.ProofKit
import Derived.OpenShut
namespace Go.Proofs.YtegcecnjmimbiaaGreatDoor.X
open Go.RowKit Go.Sort
set_option linter.unusedVariables false
set_option linter.unusedSimpArgs false
open Ty
set_option maxHeartbeats 4000000 in
set_option maxRecDepth 100000 in
theorem spec_PatchAll {B : Nat} (j : J) (cs : List Value) (A : Option Addr) (c : Nat) (l : List JOp) (w : World) (hj : (tJ (B + 1)).K w j cs) (hr : (tOp (B + 1)).C w A l) :
    Calls Tryz.prog 17 #[.agg cs.toArray, .slice A l.length c] w fun e w' => ∃ cs', e = .returned (.tuple #[.agg cs'.toArray, .bool (patchAllB j l)]) ∧ (tJ (B + 7)).O w' (fun k => w.heap.size ≤ k) (patchAllJ j l) cs' ∧ Below w.heap.size w w' := by
  have HKJJ := Hd.mk hj
  obtain ⟨A1, c1, A2, c2, rfl, hsj, ⟨hc1, hr1⟩, hc2, hr2⟩ := tJ_K.1 hj
  clear hr1 hr2 hj
  have HC := Hd.mk hr
  have hm := hr.1
  clear hr
  have hB := Hd.mk (Below.refl w.heap.size w)
  go_enter Tryz.func17, Tryz.ntmps17
  go_wp2_with fail
  apply calls_gen; intro W1 hW
  have hz_ : w.heap.size + 2 ≤ W1.heap.size := by rw [hW]; simp
  have hE : Below w.heap.size w W1 := by rw [hW]; (repeat (first | with_reducible refine below_alloc ?_ _ | with_reducible refine below_drew ?_)); exact Below.refl _ _
  have hB := hB.th hE
  have b0 := Hd.mk (show Blk W1 (w.heap.size) #[.int .i64 j.kind, .int .i64 j.n, .string j.s, .slice A1 j.list.length c1, .slice A2 j.names.length c2] 32 by rw [hW]; first | exact ((Blk.new _ _ _).alloc _) | (simpa using ((Blk.new _ _ _).alloc _)))
  have b1 := Hd.mk (show Blk W1 (w.heap.size + 1) #[.int .i64 0, .int .i64 0, .string ⟨#[]⟩, .slice none 0 0, .slice none 0 0] 32 by rw [hW]; first | exact (Blk.new1 _ _ _ _) | (simpa using (Blk.new1 _ _ _ _)))
  clear hW hE
  have z1 := Hd.mk hz_; clear hz_
  refine (spec_JsonOk j _ _ (Ty.K_below _ hB.out HKJJ.out)).mono ?_
  rintro e w2 ⟨rfl, hX⟩
  have b0 := b0.dn hX
  have b1 := b1.dn hX
  have hB := hB.th hX
  have hz_ := hX.size
  clear hX
  have z2 := Hd.mk hz_; clear hz_
  cases hja : jsonOk j
  · have HP := Hd.mk (show patchAllO j l = none from by unfold patchAllO; rw [hja]; rfl)
    obtain ⟨v00, v01, v02, v03, v04, v0z⟩ := blk5 b0.out
    obtain ⟨v10, v11, v12, v13, v14, v1z⟩ := blk5 b1.out
    go_wp2_with fail
    refine bodyPost_retW (v := .tuple #[.agg #[.int .i64 0, .int .i64 0, .string ⟨#[]⟩, .slice none 0 0, .slice none 0 0], .bool false]) (by simp [results, Tryz.results17, go_sem, v00, v01, v02, v03, v04, v0z, v10, v11, v12, v13, v14, v1z]) rfl ?_
    intro W hW
    clear v00 v01 v02 v03 v04 v0z v10 v11 v12 v13 v14 v1z
    have z1_ := z1.out; have z2_ := z2.out
    have hBs := hB.out.size
    have eF : Fr w2 W (fun k => w.heap.size ≤ k) := by rw [hW]; (repeat (first | with_reducible refine Fr.setCell ?_ _ (fun _ => by simp <;> omega) _ | with_reducible refine Fr.alloc ?_ _ | with_reducible refine Fr.drew ?_)); exact Fr.refl _ _
    exact ⟨[Value.int IntKind.i64 0, .int .i64 0, .string ⟨#[]⟩, .slice none 0 0, .slice none 0 0], by unfold patchAllB; rw [HP.out]; rfl, by unfold patchAllJ; rw [HP.out]; exact ZJ (B + 6) _ _, below_frS hB.out eF (fun k h => h)⟩
  · by_cases hl40 : (l.length : Int) ≤ 40
    · have hd40 : decide ((40 : Int) < (l.length : Int)) = false := by simpa using hl40
      have hd41 : ¬ ((40 : Int) < (l.length : Int)) := by omega
      have HG := Hd.mk (show patchAllO j l = patchL j l by unfold patchAllO; rw [hja, decide_eq_true hl40]; rfl)
      have HJA := Hd.mk hja
      have HZJ := Hd.mk (jsonOk_size hja)
      have HKL := Hd.mk ((tJ_le (by omega : B + 1 ≤ B + 7)).K _ _ _ HKJJ.out)
      have HBL := Hd.mk (show bulkJ (B + 7) j ≤ 4194304 by have h1 := bulk_size (B + 7) 6 j HZJ.out; have h2 : sizeN 6 j ≤ 400 := HZJ.out; omega)
      clear hja
      obtain ⟨v00, v01, v02, v03, v04, v0z⟩ := blk5 b0.out
      obtain ⟨v10, v11, v12, v13, v14, v1z⟩ := blk5 b1.out
      go_wp2_with fail
      clear v00 v01 v02 v03 v04 v0z v10 v11 v12 v13 v14 v1z
      apply calls_gen; intro W3 hW
      have hz_ : w2.heap.size ≤ W3.heap.size := by rw [hW]; simp
      have hE : Below w2.heap.size w2 W3 := by rw [hW]; (repeat (first | with_reducible refine below_alloc ?_ _ | with_reducible refine below_drew ?_)); exact Below.refl _ _
      have hB := hB.th hE
      have b0 := b0.dn hE
      have b1 := b1.dn hE
      clear hW hE
      have z3 := Hd.mk hz_; clear hz_
      refine (spec_l1Copy j _ _ (Ty.K_below _ hB.out HKL.out) HBL.out).mono ?_
      rintro e w4 ⟨cy, rfl, hY, hX⟩
      have b0 := b0.dn hX
      have b1 := b1.dn hX
      have hB := hB.th hX
      have hz_ := hX.size
      clear hX
      have z4 := Hd.mk hz_; clear hz_
      obtain ⟨v3, v4, _, _, hcy, _, h3_, h4_, _⟩ := tJ_O.1 hY
      obtain ⟨A7, c7, rfl, _, _⟩ := R_C h3_
      obtain ⟨A8, c8, rfl, _, _⟩ := R_C h4_
      clear h3_ h4_
      subst hcy
      replace hY := Hd.mk (show (tJ (B + 7)).O w4 (rng W3.heap.size w4.heap.size) j _ from Ty.O_bound _ hY)
      obtain ⟨v00, v01, v02, v03, v04, v0z⟩ := blk5 b0.out
      obtain ⟨v10, v11, v12, v13, v14, v1z⟩ := blk5 b1.out
      go_wp2_with fail
      clear v00 v01 v02 v03 v04 v0z v10 v11 v12 v13 v14 v1z
      apply wp_gen; intro W5 hW
      have hz_ : w4.heap.size + 1 ≤ W5.heap.size := by rw [hW]; simp
      have hE : Below w4.heap.size w4 W5 := by rw [hW]; (repeat (first | with_reducible refine below_alloc ?_ _ | with_reducible refine below_drew ?_)); exact Below.refl _ _
      have hB := hB.th hE
      have b0 := b0.dn hE
      have b1 := b1.dn hE
      have b3 := Hd.mk (show Blk W5 (w4.heap.size) #[.int .i64 j.kind, .int .i64 j.n, .string j.s, .slice A7 j.list.length c7, .slice A8 j.names.length c8] 32 by rw [hW]; first | exact (Blk.new _ _ _) | (simpa using (Blk.new _ _ _)))
      have hY := hY.ob hE
      clear hW hE
      have z5 := Hd.mk hz_; clear hz_
      have hpw := Hd.mk (show w.heap.size + 2 ≤ w4.heap.size by have z1_ := z1.out; have z2_ := z2.out; have z3_ := z3.out; have z4_ := z4.out; have z5_ := z5.out; omega)
      go_loopw [7] (fun i wr => ∃ (k : Nat) (z : J) (zc : List Value), k ≤ l.length ∧ i = .int .i64 k ∧ Hd (patchL j (l.take k) = some z ∧ jsonOk z = true) ∧ Hd ((tJ (B + 7)).O wr (fun q => w.heap.size + 2 ≤ q ∧ q ≠ w4.heap.size ∧ q < wr.heap.size) z zc) ∧ Hd (Blk wr w.heap.size #[.int .i64 j.kind, .int .i64 j.n, .string j.s, .slice A1 j.list.length c1, .slice A2 j.names.length c2] 32) ∧ Hd (Blk wr (w.heap.size + 1) #[.int .i64 0, .int .i64 0, .string ⟨#[]⟩, .slice none 0 0, .slice none 0 0] 32) ∧ Hd (Blk wr w4.heap.size zc.toArray 32) ∧ Hd (Below w.heap.size w wr)) (fun i _ => l.length - (intOf i).toNat)
      case atStart => exact ⟨0, j, _, Nat.zero_le _, rfl, ⟨rfl, HJA.out⟩, Hd.mk (Ty.O_mono _ (fun q h => by have q1_ := h.1; have q2_ := h.2; have z1_ := z1.out; have z2_ := z2.out; have z3_ := z3.out; have z4_ := z4.out; have z5_ := z5.out; exact ⟨by omega, by omega, by omega⟩) hY.out), b0, b1, b3, hB⟩
      case round =>
        clear hB b0 b1 b3 hY z1 z2 z3 z4 z5
        obtain ⟨k, z, zc, hk, rfl, HZ, HO, b0, b1, b3, hB⟩ := hrel
        obtain ⟨v3, v4, _, _, hzc, _, h3_, h4_, _⟩ := tJ_O.1 HO.out
        obtain ⟨A9, c9, rfl, _, _⟩ := R_C h3_
        obtain ⟨A10, c10, rfl, _, _⟩ := R_C h4_
        clear h3_ h4_
        subst hzc
        have zb := Hd.mk b3.out.lt
        by_cases hlt : k < l.length
        · obtain ⟨ad, cs0, rfl, hK0, f0, f1⟩ := C_at HC.out hB.out k hlt
          obtain ⟨E1, e1, _, rfl, ⟨he1, hre1⟩, hje⟩ := tOp_K.1 hK0
          obtain ⟨E2, e2, E3, e3, rfl, hse, ⟨he2, hre2⟩, he3, hre3⟩ := tJ_K.1 hje
          have HKe := Hd.mk ((tOp_le (by omega : B + 1 ≤ B + 6 + 1)).K _ _ _ hK0)
          clear hK0 hre1 hre2 hre3 hje
          have x0 : wr.cell? (ad.add (k * 7)) = some (.int .i64 l[k].kind) := f0 _ rfl
          have x1 : wr.cell? ⟨(ad.add (k * 7)).block, (ad.add (k * 7)).off + 1, none⟩ = some (.slice E1 l[k].way.length e1) := f1 0 _ rfl
          have x2 : wr.cell? ⟨(ad.add (k * 7)).block, (ad.add (k * 7)).off + 2, none⟩ = some (.int .i64 l[k].value.kind) := f1 1 _ rfl
          have x3 : wr.cell? ⟨(ad.add (k * 7)).block, (ad.add (k * 7)).off + 3, none⟩ = some (.int .i64 l[k].value.n) := f1 2 _ rfl
          have x4 : wr.cell? ⟨(ad.add (k * 7)).block, (ad.add (k * 7)).off + 4, none⟩ = some (.string l[k].value.s) := f1 3 _ rfl
          have x5 : wr.cell? ⟨(ad.add (k * 7)).block, (ad.add (k * 7)).off + 5, none⟩ = some (.slice E2 l[k].value.list.length e2) := f1 4 _ rfl
          have x6 : wr.cell? ⟨(ad.add (k * 7)).block, (ad.add (k * 7)).off + 6, none⟩ = some (.slice E3 l[k].value.names.length e3) := f1 5 _ rfl
          clear f0 f1
          have hBr := Hd.mk (Below.refl wr.heap.size wr)
          obtain ⟨v00, v01, v02, v03, v04, v0z⟩ := blk5 b0.out
          obtain ⟨v10, v11, v12, v13, v14, v1z⟩ := blk5 b1.out
          obtain ⟨v30, v31, v32, v33, v34, v3z⟩ := blk5 b3.out
          go_wp2_with fail
          clear v00 v01 v02 v03 v04 v0z v10 v11 v12 v13 v14 v1z v30 v31 v32 v33 v34 v3z
          obtain ⟨y_0, y_1, y_2, y_3, y_4, y_5, y_6⟩ := reg7 x0 x1 x2 x3 x4 x5 x6
          obtain ⟨v00, v01, v02, v03, v04, v0z⟩ := blk5 b0.out
          obtain ⟨v10, v11, v12, v13, v14, v1z⟩ := blk5 b1.out
          obtain ⟨v30, v31, v32, v33, v34, v3z⟩ := blk5 b3.out
          obtain ⟨rv00, rv01, rv02, rv03, rv04⟩ := reg5 v00 v01 v02 v03 v04
          obtain ⟨rv10, rv11, rv12, rv13, rv14⟩ := reg5 v10 v11 v12 v13 v14
          obtain ⟨rv30, rv31, rv32, rv33, rv34⟩ := reg5 v30 v31 v32 v33 v34
          refine region_mixT (.q 0 (.p 1 (.p 2 (.q 3 (.q 4 (.br 5 9 (.p 6 (.p 7 (.p 8 (.b 9 .fin)))) (.b 5 (.p 6 (.p 7 (.p 8 .fin)))))))))) [10, 11] (by kernel_rfl) (by kernel_rfl) (fun _ _ _ _ _ h => h) ?_
          refine genT ?_
          intro W21 hW
          have hS := Hd.mk (show Below wr.heap.size wr W21 by rw [hW]; exact below_drew (Below.refl _ _))
          have hz_ : wr.heap.size ≤ W21.heap.size := by rw [hW]; simp
          have hE : Below wr.heap.size wr W21 := by rw [hW]; (repeat (first | with_reducible refine below_alloc ?_ _ | with_reducible refine below_drew ?_)); exact Below.refl _ _
          have hB := hB.th hE
          have hBr := Hd.mk (below_then hBr.out hE)
          have b0 := b0.dn hE
          have b1 := b1.dn hE
          have b3 := b3.dn hE
          have HO := HO.ob hE
          clear hW hE
          have z21 := Hd.mk hz_; clear hz_
          iterate 5 ((first | refine mixT_q rfl ?_ | refine mixT_p rfl ?_); go_big_quiet_want; go_big_quiet_op; go_big_quiet_on; refine wpQuiet_nil ?_)
          refine ⟨?_, ?_⟩
          · refine stepM_of rfl ?_ (by rfl)
            go_wp2_with fail
            apply calls_gen; intro W22 hW
            have hz_ : W21.heap.size ≤ W22.heap.size := by rw [hW]; simp
            have hE : Below W21.heap.size W21 W22 := by rw [hW]; (repeat (first | with_reducible refine below_alloc ?_ _ | with_reducible refine below_drew ?_)); exact Below.refl _ _
            have hB := hB.th hE
            have hBr := Hd.mk (below_then hBr.out hE)
            replace hS := Hd.mk (below_then hS.out hE)
            have b0 := b0.dn hE
            have b1 := b1.dn hE
            have b3 := b3.dn hE
            have HO := HO.ob hE
            clear hW hE
            have z22 := Hd.mk hz_; clear hz_
            refine (spec_Patch (B := B + 6) z _ l[k] _ _ (Ty.O_K _ HO.out) (Ty.K_below _ hBr.out HKe.out)).mono ?_
            rintro e w23 ⟨cz, rfl, hZ, hX⟩
            have b0 := b0.dn hX
            have b1 := b1.dn hX
            have b3 := b3.dn hX
            have HO := HO.ob hX
            have hB := hB.th hX
            replace hS := Hd.mk (below_then hS.out hX)
            have hz_ := hX.size
            have hBr := Hd.mk (below_then hBr.out hX)
            clear hX
            have z23 := Hd.mk hz_; clear hz_
            replace hZ := (tJ_le (by omega : 6 ≤ B + 7)).O _ _ _ _ (tJ_low 6 _ (patchJ_size z l[k]) hZ)
            obtain ⟨v3, v4, _, _, hcz, _, h3_, h4_, _⟩ := tJ_O.1 hZ
            obtain ⟨A11, c11, rfl, _, _⟩ := R_C h3_
            obtain ⟨A12, c12, rfl, _, _⟩ := R_C h4_
            clear h3_ h4_
            subst hcz
            replace hZ := Hd.mk (show (tJ (B + 7)).O w23 (rng W22.heap.size w23.heap.size) (patchJ z l[k]) _ from Ty.O_bound _ hZ)
            obtain ⟨ok, hok⟩ : ∃ x, x = patchB z l[k] := ⟨_, rfl⟩
            rw [← hok]
            have HOKB := Hd.mk hok; clear hok
            clear HO
            go_wp2_with fail
            refine ⟨cls_below hS.out, ?_⟩
            iterate 3 (refine mixT_p rfl ?_; go_big_quiet_want; go_big_quiet_op; go_big_quiet_on; refine wpQuiet_nil ?_)
            refine mixT_b rfl ?_ (by rfl)
            go_wp2_with fail
            refine ⟨cls_below (below_alloc hS.out _), ?_⟩
            refine genT ?_; intro W24 hW
            have hz_ : w23.heap.size + 1 ≤ W24.heap.size := by rw [hW]; simp
            have hE : Below w23.heap.size w23 W24 := by rw [hW]; (repeat (first | with_reducible refine below_alloc ?_ _ | with_reducible refine below_drew ?_)); exact Below.refl _ _
            have hB := hB.th hE
            have hBr := Hd.mk (below_then hBr.out hE)
            replace hS := Hd.mk (below_then hS.out hE)
            have b0 := b0.dn hE
            have b1 := b1.dn hE
            have b3 := b3.dn hE
            have b9 := Hd.mk (show Blk W24 (w23.heap.size) #[.int .i64 0, .int .i64 0, .string ⟨#[]⟩, .slice none 0 0, .slice none 0 0] 32 by rw [hW]; first | exact (Blk.new _ _ _) | (simpa using (Blk.new _ _ _)))
            have hZ := hZ.ob hE
            clear hW hE
            have z24 := Hd.mk hz_; clear hz_
            refine mixT_fin ?_
            clear hS
            clear rv00 rv01 rv02 rv03 rv04 rv10 rv11 rv12 rv13 rv14 rv30 rv31 rv32 rv33 rv34
            clear v00 v01 v02 v03 v04 v0z v10 v11 v12 v13 v14 v1z v30 v31 v32 v33 v34 v3z
            obtain ⟨v00, v01, v02, v03, v04, v0z⟩ := blk5 b0.out
            obtain ⟨v10, v11, v12, v13, v14, v1z⟩ := blk5 b1.out
            obtain ⟨v30, v31, v32, v33, v34, v3z⟩ := blk5 b3.out
            obtain ⟨v90, v91, v92, v93, v94, v9z⟩ := blk5 b9.out
            refine tail_b rfl ?_ (by rfl)
            go_wp2_with fail
            refine mixQ_n ?_
            refine tail_b rfl ?_ (by rfl)
            go_wp2_with fail
            refine mixQ_n ?_
            refine tail_nil ?_
            clear x0 x1 x2 x3 x4 x5 x6 y_0 y_1 y_2 y_3 y_4 y_5 y_6
            refine exit_gen ?_; intro Wb hW
            clear v00 v01 v02 v03 v04 v0z v10 v11 v12 v13 v14 v1z v30 v31 v32 v33 v34 v3z v90 v91 v92 v93 v94 v9z
            have eF : Fr W24 Wb (fun k => k = w23.heap.size) := by rw [hW]; exact Fr.set5 _ _ _ _ _ _ _ _ _ _ _ _
            have zb_ := zb.out; have hpw_ := hpw.out; have z21_ := z21.out; have z22_ := z22.out; have z23_ := z23.out; have z24_ := z24.out
            have b0 := Hd.mk (b0.out.fr eF (fun h => by have hlt_ := b0.out.lt; (try simp only at h); omega))
            have b1 := Hd.mk (b1.out.fr eF (fun h => by have hlt_ := b1.out.lt; (try simp only at h); omega))
            have b3 := Hd.mk (b3.out.fr eF (fun h => by have hlt_ := b3.out.lt; (try simp only at h); omega))
            have b9 := Hd.mk (show Blk Wb (w23.heap.size) #[.int .i64 (patchJ z l[k]).kind, .int .i64 (patchJ z l[k]).n, .string (patchJ z l[k]).s, .slice A11 (patchJ z l[k]).list.length c11, .slice A12 (patchJ z l[k]).names.length c12] 32 by rw [hW]; exact Blk.all b9.out [Value.int IntKind.i64 (patchJ z l[k]).kind, .int .i64 (patchJ z l[k]).n, .string (patchJ z l[k]).s, .slice A11 (patchJ z l[k]).list.length c11, .slice A12 (patchJ z l[k]).names.length c12] rfl)
            have hZ := Hd.mk (Ty.O_fr hZ.out eF (fun k hk hl h => by (try simp only at h); have q8_ := hk.1; have q9_ := hk.2; omega))
            have hB := Hd.mk (below_frS hB.out eF (fun k h => by (try simp only at h); omega))
            have hzb := Hd.mk eF.size
            clear hW eF hBr
            cases ok
            · have HP := Hd.mk (show patchAllO j l = none from by
                  rw [HG.out]
                  refine patchL_cut (k := k + 1) ?_
                  rw [List.take_succ_eq_append_getElem hlt, patchL_snoc, HZ.out.1]
                  show patchO z l[k] = none
                  have h := HOKB.out
                  unfold patchB at h
                  cases hp : patchO z l[k] with
                  | none => rfl
                  | some y => rw [hp] at h; cases h)
              obtain ⟨v00, v01, v02, v03, v04, v0z⟩ := blk5 b0.out
              obtain ⟨v10, v11, v12, v13, v14, v1z⟩ := blk5 b1.out
              obtain ⟨v30, v31, v32, v33, v34, v3z⟩ := blk5 b3.out
              obtain ⟨v90, v91, v92, v93, v94, v9z⟩ := blk5 b9.out
              go_wp2_with fail
              refine bodyPost_retW (v := .tuple #[.agg #[.int .i64 0, .int .i64 0, .string ⟨#[]⟩, .slice none 0 0, .slice none 0 0], .bool false]) (by simp [results, Tryz.results17, go_sem, v00, v01, v02, v03, v04, v0z, v10, v11, v12, v13, v14, v1z, v30, v31, v32, v33, v34, v3z, v90, v91, v92, v93, v94, v9z]) rfl ?_
              intro W hW
              clear v00 v01 v02 v03 v04 v0z v10 v11 v12 v13 v14 v1z v30 v31 v32 v33 v34 v3z v90 v91 v92 v93 v94 v9z
              have zb_ := zb.out; have hpw_ := hpw.out; have z21_ := z21.out; have z22_ := z22.out; have z23_ := z23.out; have z24_ := z24.out; have hzb_ := hzb.out
              have hBs := hB.out.size
              have eF : Fr Wb W (fun k => w.heap.size ≤ k) := by rw [hW]; (repeat (first | with_reducible refine Fr.setCell ?_ _ (fun _ => by simp <;> omega) _ | with_reducible refine Fr.alloc ?_ _ | with_reducible refine Fr.drew ?_)); exact Fr.refl _ _
              exact ⟨[Value.int IntKind.i64 0, .int .i64 0, .string ⟨#[]⟩, .slice none 0 0, .slice none 0 0], by unfold patchAllB; rw [HP.out]; rfl, by unfold patchAllJ; rw [HP.out]; exact ZJ (B + 6) _ _, below_frS hB.out eF (fun k h => h)⟩
            · have HPS := Hd.mk (show patchO z l[k] = some (patchJ z l[k]) by
                have h := HOKB.out
                unfold patchB at h
                unfold patchJ
                cases hp : patchO z l[k] with
                | none => rw [hp] at h; cases h
                | some y => rfl)
              obtain ⟨v00, v01, v02, v03, v04, v0z⟩ := blk5 b0.out
              obtain ⟨v10, v11, v12, v13, v14, v1z⟩ := blk5 b1.out
              obtain ⟨v30, v31, v32, v33, v34, v3z⟩ := blk5 b3.out
              obtain ⟨v90, v91, v92, v93, v94, v9z⟩ := blk5 b9.out
              go_wp2_with fail
              obtain ⟨W, hW⟩ : ∃ W, W = (((((Wb.setCell ⟨w4.heap.size, 0, none⟩ (Value.int IntKind.i64 (patchJ z l[k]).kind)).setCell ⟨w4.heap.size, 1, none⟩ (Value.int IntKind.i64 (patchJ z l[k]).n)).setCell ⟨w4.heap.size, 2, none⟩ (Value.string (patchJ z l[k]).s)).setCell ⟨w4.heap.size, 3, none⟩ (Value.slice A11 (patchJ z l[k]).list.length c11)).setCell ⟨w4.heap.size, 4, none⟩ (Value.slice A12 (patchJ z l[k]).names.length c12)) := ⟨_, rfl⟩
              rw [← hW]
              clear v00 v01 v02 v03 v04 v0z v10 v11 v12 v13 v14 v1z v30 v31 v32 v33 v34 v3z v90 v91 v92 v93 v94 v9z
              have hz_ : Wb.heap.size ≤ W.heap.size := by rw [hW]; simp
              have eF : Fr Wb W (fun k => k = w4.heap.size ∨ Wb.heap.size ≤ k) := by rw [hW]; (repeat (first | with_reducible refine Fr.setCell ?_ _ (fun _ => by simp <;> omega) _ | with_reducible refine Fr.alloc ?_ _ | with_reducible refine Fr.drew ?_)); exact Fr.refl _ _
              have zb_ := zb.out; have hpw_ := hpw.out; have z21_ := z21.out; have z22_ := z22.out; have z23_ := z23.out; have z24_ := z24.out; have hzb_ := hzb.out
              have hB := Hd.mk (((Fr.of_below hB.out (fun k => k = w4.heap.size ∨ Wb.heap.size ≤ k)).then_ eF (fun k hk _ => hk)).below (fun k hk => by have := hB.out.size; omega))
              have b0 := Hd.mk (b0.out.fr eF (fun h => by have hlt_ := b0.out.lt; (try simp only at h); omega))
              have b1 := Hd.mk (b1.out.fr eF (fun h => by have hlt_ := b1.out.lt; (try simp only at h); omega))
              have b3 := Hd.mk (show Blk W (w4.heap.size) #[.int .i64 (patchJ z l[k]).kind, .int .i64 (patchJ z l[k]).n, .string (patchJ z l[k]).s, .slice A11 (patchJ z l[k]).list.length c11, .slice A12 (patchJ z l[k]).names.length c12] 32 by rw [hW]; exact (Blk.all b3.out [Value.int IntKind.i64 (patchJ z l[k]).kind, .int .i64 (patchJ z l[k]).n, .string (patchJ z l[k]).s, .slice A11 (patchJ z l[k]).list.length c11, .slice A12 (patchJ z l[k]).names.length c12] rfl))
              have b9 := Hd.mk (b9.out.fr eF (fun h => by have hlt_ := b9.out.lt; (try simp only at h); omega))
              have hZ := Hd.mk (Ty.O_fr hZ.out eF (fun k hk hl h => by have q8_ := hk.1; have q9_ := hk.2; (try simp only [rng] at hk); (try simp only at hk); (try simp only at h); omega))
              clear hW eF
              have z25 := Hd.mk hz_; clear hz_
              go_roundw
              case rel => exact ⟨k + 1, patchJ z l[k], _, by omega, by go_num, ⟨by rw [List.take_succ_eq_append_getElem hlt, patchL_snoc, HZ.out.1]; exact HPS.out, patchO_ok HPS.out⟩, Hd.mk (Ty.O_mono _ (fun q h => by have q1_ := h.1; have q2_ := h.2; have zb_ := zb.out; have hpw_ := hpw.out; have z21_ := z21.out; have z22_ := z22.out; have z23_ := z23.out; have z24_ := z24.out; have hzb_ := hzb.out; have z25_ := z25.out; exact ⟨by omega, by omega, by omega⟩) hZ.out), b0, b1, b3, hB⟩
              case measure => simp [intOf]; omega
          · refine stepM_of rfl ?_ (by rfl)
            go_wp2_with fail
            refine ⟨cls_below (below_alloc hS.out _), ?_⟩
            refine genT ?_; intro W22 hW
            have hz_ : W21.heap.size + 1 ≤ W22.heap.size := by rw [hW]; simp
            have hE : Below W21.heap.size W21 W22 := by rw [hW]; (repeat (first | with_reducible refine below_alloc ?_ _ | with_reducible refine below_drew ?_)); exact Below.refl _ _
            have hB := hB.th hE
            have hBr := Hd.mk (below_then hBr.out hE)
            replace hS := Hd.mk (below_then hS.out hE)
            have b0 := b0.dn hE
            have b1 := b1.dn hE
            have b3 := b3.dn hE
            have b9 := Hd.mk (show Blk W22 (W21.heap.size) #[.int .i64 0, .int .i64 0, .string ⟨#[]⟩, .slice none 0 0, .slice none 0 0] 32 by rw [hW]; first | exact (Blk.new _ _ _) | (simpa using (Blk.new _ _ _)))
            have HO := HO.ob hE
            clear hW hE
            have z22 := Hd.mk hz_; clear hz_
            refine mixT_b rfl ?_ (by rfl)
            go_wp2_with fail
            apply calls_gen; intro W23 hW
            have hz_ : W22.heap.size ≤ W23.heap.size := by rw [hW]; simp
            have hE : Below W22.heap.size W22 W23 := by rw [hW]; (repeat (first | with_reducible refine below_alloc ?_ _ | with_reducible refine below_drew ?_)); exact Below.refl _ _
            have hB := hB.th hE
            have hBr := Hd.mk (below_then hBr.out hE)
            replace hS := Hd.mk (below_then hS.out hE)
            have b0 := b0.dn hE
            have b1 := b1.dn hE
            have b3 := b3.dn hE
            have b9 := b9.dn hE
            have HO := HO.ob hE
            clear hW hE
            have z23 := Hd.mk hz_; clear hz_
            refine (spec_Patch (B := B + 6) z _ l[k] _ _ (Ty.O_K _ HO.out) (Ty.K_below _ hBr.out HKe.out)).mono ?_
            rintro e w24 ⟨cz, rfl, hZ, hX⟩
            have b0 := b0.dn hX
            have b1 := b1.dn hX
            have b3 := b3.dn hX
            have b9 := b9.dn hX
            have HO := HO.ob hX
            have hB := hB.th hX
            replace hS := Hd.mk (below_then hS.out hX)
            have hz_ := hX.size
            have hBr := Hd.mk (below_then hBr.out hX)
            clear hX
            have z24 := Hd.mk hz_; clear hz_
            replace hZ := (tJ_le (by omega : 6 ≤ B + 7)).O _ _ _ _ (tJ_low 6 _ (patchJ_size z l[k]) hZ)
            obtain ⟨v3, v4, _, _, hcz, _, h3_, h4_, _⟩ := tJ_O.1 hZ
            obtain ⟨A11, c11, rfl, _, _⟩ := R_C h3_
            obtain ⟨A12, c12, rfl, _, _⟩ := R_C h4_
            clear h3_ h4_
            subst hcz
            replace hZ := Hd.mk (show (tJ (B + 7)).O w24 (rng W23.heap.size w24.heap.size) (patchJ z l[k]) _ from Ty.O_bound _ hZ)
            obtain ⟨ok, hok⟩ : ∃ x, x = patchB z l[k] := ⟨_, rfl⟩
            rw [← hok]
            have HOKB := Hd.mk hok; clear hok
            clear HO
            go_wp2_with fail
            refine ⟨cls_below hS.out, ?_⟩
            iterate 3 (refine mixT_p rfl ?_; go_big_quiet_want; go_big_quiet_op; go_big_quiet_on; refine wpQuiet_nil ?_)
            refine mixT_fin ?_
            clear hS
            clear rv00 rv01 rv02 rv03 rv04 rv10 rv11 rv12 rv13 rv14 rv30 rv31 rv32 rv33 rv34
            clear v00 v01 v02 v03 v04 v0z v10 v11 v12 v13 v14 v1z v30 v31 v32 v33 v34 v3z
            obtain ⟨v00, v01, v02, v03, v04, v0z⟩ := blk5 b0.out
            obtain ⟨v10, v11, v12, v13, v14, v1z⟩ := blk5 b1.out
            obtain ⟨v30, v31, v32, v33, v34, v3z⟩ := blk5 b3.out
            obtain ⟨v90, v91, v92, v93, v94, v9z⟩ := blk5 b9.out
            refine tail_b rfl ?_ (by rfl)
            go_wp2_with fail
            refine mixQ_n ?_
            refine tail_b rfl ?_ (by rfl)
            go_wp2_with fail
            refine mixQ_n ?_
            refine tail_nil ?_
            clear x0 x1 x2 x3 x4 x5 x6 y_0 y_1 y_2 y_3 y_4 y_5 y_6
            refine exit_gen ?_; intro Wb hW
            clear v00 v01 v02 v03 v04 v0z v10 v11 v12 v13 v14 v1z v30 v31 v32 v33 v34 v3z v90 v91 v92 v93 v94 v9z
            have eF : Fr w24 Wb (fun k => k = W21.heap.size) := by rw [hW]; exact Fr.set5 _ _ _ _ _ _ _ _ _ _ _ _
            have zb_ := zb.out; have hpw_ := hpw.out; have z21_ := z21.out; have z22_ := z22.out; have z23_ := z23.out; have z24_ := z24.out
            have b0 := Hd.mk (b0.out.fr eF (fun h => by have hlt_ := b0.out.lt; (try simp only at h); omega))
            have b1 := Hd.mk (b1.out.fr eF (fun h => by have hlt_ := b1.out.lt; (try simp only at h); omega))
            have b3 := Hd.mk (b3.out.fr eF (fun h => by have hlt_ := b3.out.lt; (try simp only at h); omega))
            have b9 := Hd.mk (show Blk Wb (W21.heap.size) #[.int .i64 (patchJ z l[k]).kind, .int .i64 (patchJ z l[k]).n, .string (patchJ z l[k]).s, .slice A11 (patchJ z l[k]).list.length c11, .slice A12 (patchJ z l[k]).names.length c12] 32 by rw [hW]; exact Blk.all b9.out [Value.int IntKind.i64 (patchJ z l[k]).kind, .int .i64 (patchJ z l[k]).n, .string (patchJ z l[k]).s, .slice A11 (patchJ z l[k]).list.length c11, .slice A12 (patchJ z l[k]).names.length c12] rfl)
            have hZ := Hd.mk (Ty.O_fr hZ.out eF (fun k hk hl h => by (try simp only at h); have q8_ := hk.1; have q9_ := hk.2; omega))
            have hB := Hd.mk (below_frS hB.out eF (fun k h => by (try simp only at h); omega))
            have hzb := Hd.mk eF.size
            clear hW eF hBr
            cases ok
            · have HP := Hd.mk (show patchAllO j l = none from by
                  rw [HG.out]
                  refine patchL_cut (k := k + 1) ?_
                  rw [List.take_succ_eq_append_getElem hlt, patchL_snoc, HZ.out.1]
                  show patchO z l[k] = none
                  have h := HOKB.out
                  unfold patchB at h
                  cases hp : patchO z l[k] with
                  | none => rfl
                  | some y => rw [hp] at h; cases h)
              obtain ⟨v00, v01, v02, v03, v04, v0z⟩ := blk5 b0.out
              obtain ⟨v10, v11, v12, v13, v14, v1z⟩ := blk5 b1.out
              obtain ⟨v30, v31, v32, v33, v34, v3z⟩ := blk5 b3.out
              obtain ⟨v90, v91, v92, v93, v94, v9z⟩ := blk5 b9.out
              go_wp2_with fail
              refine bodyPost_retW (v := .tuple #[.agg #[.int .i64 0, .int .i64 0, .string ⟨#[]⟩, .slice none 0 0, .slice none 0 0], .bool false]) (by simp [results, Tryz.results17, go_sem, v00, v01, v02, v03, v04, v0z, v10, v11, v12, v13, v14, v1z, v30, v31, v32, v33, v34, v3z, v90, v91, v92, v93, v94, v9z]) rfl ?_
              intro W hW
              clear v00 v01 v02 v03 v04 v0z v10 v11 v12 v13 v14 v1z v30 v31 v32 v33 v34 v3z v90 v91 v92 v93 v94 v9z
              have zb_ := zb.out; have hpw_ := hpw.out; have z21_ := z21.out; have z22_ := z22.out; have z23_ := z23.out; have z24_ := z24.out; have hzb_ := hzb.out
              have hBs := hB.out.size
              have eF : Fr Wb W (fun k => w.heap.size ≤ k) := by rw [hW]; (repeat (first | with_reducible refine Fr.setCell ?_ _ (fun _ => by simp <;> omega) _ | with_reducible refine Fr.alloc ?_ _ | with_reducible refine Fr.drew ?_)); exact Fr.refl _ _
              exact ⟨[Value.int IntKind.i64 0, .int .i64 0, .string ⟨#[]⟩, .slice none 0 0, .slice none 0 0], by unfold patchAllB; rw [HP.out]; rfl, by unfold patchAllJ; rw [HP.out]; exact ZJ (B + 6) _ _, below_frS hB.out eF (fun k h => h)⟩
            · have HPS := Hd.mk (show patchO z l[k] = some (patchJ z l[k]) by
                have h := HOKB.out
                unfold patchB at h
                unfold patchJ
                cases hp : patchO z l[k] with
                | none => rw [hp] at h; cases h
                | some y => rfl)
              obtain ⟨v00, v01, v02, v03, v04, v0z⟩ := blk5 b0.out
              obtain ⟨v10, v11, v12, v13, v14, v1z⟩ := blk5 b1.out
              obtain ⟨v30, v31, v32, v33, v34, v3z⟩ := blk5 b3.out
              obtain ⟨v90, v91, v92, v93, v94, v9z⟩ := blk5 b9.out
              go_wp2_with fail
              obtain ⟨W, hW⟩ : ∃ W, W = (((((Wb.setCell ⟨w4.heap.size, 0, none⟩ (Value.int IntKind.i64 (patchJ z l[k]).kind)).setCell ⟨w4.heap.size, 1, none⟩ (Value.int IntKind.i64 (patchJ z l[k]).n)).setCell ⟨w4.heap.size, 2, none⟩ (Value.string (patchJ z l[k]).s)).setCell ⟨w4.heap.size, 3, none⟩ (Value.slice A11 (patchJ z l[k]).list.length c11)).setCell ⟨w4.heap.size, 4, none⟩ (Value.slice A12 (patchJ z l[k]).names.length c12)) := ⟨_, rfl⟩
              rw [← hW]
              clear v00 v01 v02 v03 v04 v0z v10 v11 v12 v13 v14 v1z v30 v31 v32 v33 v34 v3z v90 v91 v92 v93 v94 v9z
              have hz_ : Wb.heap.size ≤ W.heap.size := by rw [hW]; simp
              have eF : Fr Wb W (fun k => k = w4.heap.size ∨ Wb.heap.size ≤ k) := by rw [hW]; (repeat (first | with_reducible refine Fr.setCell ?_ _ (fun _ => by simp <;> omega) _ | with_reducible refine Fr.alloc ?_ _ | with_reducible refine Fr.drew ?_)); exact Fr.refl _ _
              have zb_ := zb.out; have hpw_ := hpw.out; have z21_ := z21.out; have z22_ := z22.out; have z23_ := z23.out; have z24_ := z24.out; have hzb_ := hzb.out
              have hB := Hd.mk (((Fr.of_below hB.out (fun k => k = w4.heap.size ∨ Wb.heap.size ≤ k)).then_ eF (fun k hk _ => hk)).below (fun k hk => by have := hB.out.size; omega))
              have b0 := Hd.mk (b0.out.fr eF (fun h => by have hlt_ := b0.out.lt; (try simp only at h); omega))
              have b1 := Hd.mk (b1.out.fr eF (fun h => by have hlt_ := b1.out.lt; (try simp only at h); omega))
              have b3 := Hd.mk (show Blk W (w4.heap.size) #[.int .i64 (patchJ z l[k]).kind, .int .i64 (patchJ z l[k]).n, .string (patchJ z l[k]).s, .slice A11 (patchJ z l[k]).list.length c11, .slice A12 (patchJ z l[k]).names.length c12] 32 by rw [hW]; exact (Blk.all b3.out [Value.int IntKind.i64 (patchJ z l[k]).kind, .int .i64 (patchJ z l[k]).n, .string (patchJ z l[k]).s, .slice A11 (patchJ z l[k]).list.length c11, .slice A12 (patchJ z l[k]).names.length c12] rfl))
              have b9 := Hd.mk (b9.out.fr eF (fun h => by have hlt_ := b9.out.lt; (try simp only at h); omega))
              have hZ := Hd.mk (Ty.O_fr hZ.out eF (fun k hk hl h => by have q8_ := hk.1; have q9_ := hk.2; (try simp only [rng] at hk); (try simp only at hk); (try simp only at h); omega))
              clear hW eF
              have z25 := Hd.mk hz_; clear hz_
              go_roundw
              case rel => exact ⟨k + 1, patchJ z l[k], _, by omega, by go_num, ⟨by rw [List.take_succ_eq_append_getElem hlt, patchL_snoc, HZ.out.1]; exact HPS.out, patchO_ok HPS.out⟩, Hd.mk (Ty.O_mono _ (fun q h => by have q1_ := h.1; have q2_ := h.2; have zb_ := zb.out; have hpw_ := hpw.out; have z21_ := z21.out; have z22_ := z22.out; have z23_ := z23.out; have z24_ := z24.out; have hzb_ := hzb.out; have z25_ := z25.out; exact ⟨by omega, by omega, by omega⟩) hZ.out), b0, b1, b3, hB⟩
              case measure => simp [intOf]; omega
        · obtain rfl : k = l.length := by omega
          have HP := Hd.mk (show patchAllO j l = some z by rw [HG.out, ← HZ.out.1, List.take_length])
          obtain ⟨v00, v01, v02, v03, v04, v0z⟩ := blk5 b0.out
          obtain ⟨v10, v11, v12, v13, v14, v1z⟩ := blk5 b1.out
          obtain ⟨v30, v31, v32, v33, v34, v3z⟩ := blk5 b3.out
          go_wp2_with fail
          refine bodyPost_retW (v := .tuple #[.agg #[.int .i64 z.kind, .int .i64 z.n, .string z.s, .slice A9 z.list.length c9, .slice A10 z.names.length c10], .bool true]) (by simp [results, Tryz.results17, go_sem, v00, v01, v02, v03, v04, v0z, v10, v11, v12, v13, v14, v1z, v30, v31, v32, v33, v34, v3z]) rfl ?_
          intro W hW
          clear v00 v01 v02 v03 v04 v0z v10 v11 v12 v13 v14 v1z v30 v31 v32 v33 v34 v3z
          have zb_ := zb.out; have hpw_ := hpw.out
          have eF : Fr wr W (fun k => k = w.heap.size + 1) := by rw [hW]; (repeat (first | with_reducible refine Fr.setCell ?_ _ (fun _ => by simp <;> omega) _ | with_reducible refine Fr.alloc ?_ _ | with_reducible refine Fr.drew ?_)); exact Fr.refl _ _
          exact ⟨[Value.int IntKind.i64 z.kind, .int .i64 z.n, .string z.s, .slice A9 z.list.length c9, .slice A10 z.names.length c10], by unfold patchAllB; rw [HP.out]; rfl, by unfold patchAllJ; rw [HP.out]; exact Ty.O_mono _ (fun k hk => by have q1_ := hk.1; omega) (Ty.O_fr HO.out eF (fun k hk hl h => by (try simp only at h); have q1_ := hk.1; omega)), below_frS hB.out eF (fun k h => by (try simp only at h); omega)⟩
    · have hd40 : decide ((40 : Int) < (l.length : Int)) = true := by simpa using hl40
      have hd41 : (40 : Int) < (l.length : Int) := by omega
      have HP := Hd.mk (show patchAllO j l = none from by unfold patchAllO; rw [hja, decide_eq_false hl40]; rfl)
      obtain ⟨v00, v01, v02, v03, v04, v0z⟩ := blk5 b0.out
      obtain ⟨v10, v11, v12, v13, v14, v1z⟩ := blk5 b1.out
      go_wp2_with fail
      refine bodyPost_retW (v := .tuple #[.agg #[.int .i64 0, .int .i64 0, .string ⟨#[]⟩, .slice none 0 0, .slice none 0 0], .bool false]) (by simp [results, Tryz.results17, go_sem, v00, v01, v02, v03, v04, v0z, v10, v11, v12, v13, v14, v1z]) rfl ?_
      intro W hW
      clear v00 v01 v02 v03 v04 v0z v10 v11 v12 v13 v14 v1z
      have z1_ := z1.out; have z2_ := z2.out
      have hBs := hB.out.size
      have eF : Fr w2 W (fun k => w.heap.size ≤ k) := by rw [hW]; (repeat (first | with_reducible refine Fr.setCell ?_ _ (fun _ => by simp <;> omega) _ | with_reducible refine Fr.alloc ?_ _ | with_reducible refine Fr.drew ?_)); exact Fr.refl _ _
      exact ⟨[Value.int IntKind.i64 0, .int .i64 0, .string ⟨#[]⟩, .slice none 0 0, .slice none 0 0], by unfold patchAllB; rw [HP.out]; rfl, by unfold patchAllJ; rw [HP.out]; exact ZJ (B + 6) _ _, below_frS hB.out eF (fun k h => h)⟩
end Go.Proofs.YtegcecnjmimbiaaGreatDoor.X
namespace Go.Proofs.YtegcecnjmimbiaaGreatDoor.X
open Go.RowKit Go.Sort
set_option linter.unusedVariables false
set_option linter.unusedSimpArgs false
open Ty
theorem impl_PatchAllM {B : Nat} (h6 : 6 ≤ B) (j : J) (cs : List Value) (A : Option Addr) (c : Nat) (l : List JOp) (w : World) (hj : (tJ (B + 1)).K w j cs) (hr : (tOp (B + 1)).C w A l) (hT : EnvT w) (hE : EnvE w) :
  Calls Tryz.prog 19 #[.agg cs.toArray, .slice A l.length c] w fun e w' => ∃ cs', e = .returned (.tuple #[.agg cs'.toArray, .bool (patchAllB j l)]) ∧ (tJ (B + 1)).O w' (fun k => w.heap.size ≤ k) (patchAllJ j l) cs' ∧ Below w.heap.size w w' :=
 (impl_PatchAll j cs A c l w hj hr hT hE).mono (fun e w' h => by
  obtain ⟨cs', h1, h2, h3⟩ := h
  exact ⟨cs', h1, (tJ_le (by omega : 6 ≤ B + 1)).O _ _ _ _ (tJ_low 6 _ (patchAllJ_size j l) h2), h3⟩)
theorem spec_PatchAllM {B : Nat} (h6 : 6 ≤ B) (j : J) (cs : List Value) (A : Option Addr) (c : Nat) (l : List JOp) (w : World) (hj : (tJ (B + 1)).K w j cs) (hr : (tOp (B + 1)).C w A l) :
  Calls Tryz.prog 17 #[.agg cs.toArray, .slice A l.length c] w fun e w' => ∃ cs', e = .returned (.tuple #[.agg cs'.toArray, .bool (patchAllB j l)]) ∧ (tJ (B + 1)).O w' (fun k => w.heap.size ≤ k) (patchAllJ j l) cs' ∧ Below w.heap.size w w' :=
 (spec_PatchAll j cs A c l w hj hr).mono (fun e w' h => by
  obtain ⟨cs', h1, h2, h3⟩ := h
  exact ⟨cs', h1, (tJ_le (by omega : 6 ≤ B + 1)).O _ _ _ _ (tJ_low 6 _ (patchAllJ_size j l) h2), h3⟩)
end Go.Proofs.YtegcecnjmimbiaaGreatDoor.X
namespace Go.Proofs.YtegcecnjmimbiaaGreatDoor.X
open Go.RowKit Go.Sort
set_option linter.unusedVariables false
set_option linter.unusedSimpArgs false
open Ty
set_option maxHeartbeats 16000000 in
set_option maxRecDepth 100000 in
theorem laws_FnExactPatchAll {w : World} (B0 : Nat) (j : J) (cs0 : List Value) (hk0 : (tJ (B0 + 1)).K w j cs0) (B1 : Nat) (A1 : Option Addr) (c1 : Nat) (l : List JOp) (hv1 : l.length ≤ c1) (hk1 : (tOp (B1 + 1)).C w A1 l) (hT : EnvT w) (hE : EnvE w) :
  Calls Tryz.prog 4 #[.agg cs0.toArray, .slice A1 l.length c1] w fun e w' => e = .returned (.bool true) ∧ Below w.heap.size w w' := by
 obtain ⟨m, hm⟩ : ∃ m : Nat, B0 ≤ m ∧ B1 ≤ m ∧ 6 ≤ m := ⟨B0 + B1 + 6, by omega⟩
 have H6 := Hd.mk (show 6 ≤ m by omega)
 replace hk0 : (tJ (m + 1)).K w j cs0 := (tJ_le (by omega : B0 + 1 ≤ m + 1)).K _ _ _ hk0
 replace hk1 : (tOp (m + 1)).C w A1 l := (tOp_le (by omega : B1 + 1 ≤ m + 1)).C hk1
 clear hm
 obtain ⟨y, hy⟩ : ∃ z, z = patchAllJ j l := ⟨_, rfl⟩
 have Hy := Hd.mk hy; clear hy
 obtain ⟨yb, hyb⟩ : ∃ z, z = patchAllB j l := ⟨_, rfl⟩
 have Hyb := Hd.mk hyb; clear hyb
 obtain ⟨A0, c0, A0B, c0B, rfl, hs0, ⟨hc0, hr0⟩, hc0B, hr0B⟩ := tJ_K.1 hk0
 have hK0 := Hd.mk hk0; clear hk0
 clear hr0 hr0B
 have hm1 := hk1.1
 have hK1 := Hd.mk hk1; clear hk1
 replace hT := Hd.mk hT
 replace hE := Hd.mk hE
 go_enter Tryz.func4, Tryz.ntmps4
 go_wp2_with fail
 apply calls_gen; intro W0 hW
 have hE : Below w.heap.size w W0 := by rw [hW]; (repeat (with_reducible refine below_alloc ?_ _)); exact Below.refl _ _
 have b0 := Hd.mk (show Blk W0 (w.heap.size) #[.int .i64 j.kind, .int .i64 j.n, .string j.s, .slice A0 j.list.length c0, .slice A0B j.names.length c0B] 25 by rw [hW]; exact (Blk.new w _ _))
 have hz_ : w.heap.size + 1 ≤ W0.heap.size := by rw [hW]; simp
 clear hW
 have hB := Hd.mk hE; clear hE
 have ab0 := Hd.mk (show w.heap.size ≤ w.heap.size by omega)
 have eb0 := Hd.mk (show w.heap.size + 1 ≤ W0.heap.size by omega)
 clear hz_
 refine (laws_szJson j _ _ _ ((tJ (m + 1)).K_below hB.out hK0.out) (by omega) (by omega)).mono ?_
 rintro e w1 ⟨rfl, hX⟩
 replace b0 := b0.dn hX
 replace eb0 := upE eb0 hX
 replace hB := hB.th hX
 clear hX
 obtain ⟨fb00, fb01, fb02, fb03, fb04, -⟩ := blk5 b0.out
 by_cases hz0 : szR 1048576 (bulkJ (m + 1) j) < 0
 ·go_wp2_with fail
  go_ret
  exact ⟨rfl, hB.out⟩
 have HL0 := Hd.mk (szR_le (Int.not_lt.1 hz0) (by omega))
 have hy0 := HL0.out.2.1
 have hx0 := HL0.out.2.2.1
 clear hz0
 go_wp2_with fail
 clear fb00 fb01 fb02 fb03 fb04
 apply calls_gen; intro W2 hW
 have hE : Below w1.heap.size w1 W2 := by rw [hW]; (repeat (first | with_reducible refine below_alloc ?_ _ | with_reducible refine below_drew ?_)); exact Below.refl _ _
 clear hW
 replace b0 := b0.dn hE
 replace eb0 := upE eb0 hE
 replace hB := hB.th hE
 clear hE
 refine (laws_szOpS _ _ l _ _ (C_below hK1.out hB.out) hy0 hx0).mono ?_
 rintro e w3 ⟨rfl, hX⟩
 replace b0 := b0.dn hX
 replace eb0 := upE eb0 hX
 replace hB := hB.th hX
 clear hX
 obtain ⟨fb00, fb01, fb02, fb03, fb04, -⟩ := blk5 b0.out
 by_cases hz1 : szR (szR 1048576 (bulkJ (m + 1) j)) (bulkOpS (m + 1) l) < 0
 ·go_wp2_with fail
  go_ret
  exact ⟨rfl, hB.out⟩
 have HL1 := Hd.mk (szR_le (Int.not_lt.1 hz1) hx0)
 have hy1 := HL1.out.2.1
 have hx1 := HL1.out.2.2.1
 clear hz1
 go_wp2_with fail
 clear fb00 fb01 fb02 fb03 fb04
 have hx_0 : ((bulkL (cnJ m) j.list : Int) + (j.names.length : Int) : Int) ≤ 8388608 := by have := cnt_Json m j; have := HL0.out.1; omega
 have hx_1 : ((bulkL (cnOp (m + 1)) l : Int) : Int) ≤ 8388608 := by have := cnt_Ops m l; have := HL1.out.1; omega
 have hx_y : ((bulkL (cnJ m) y.list : Int) + (y.names.length : Int) : Int) ≤ 1099511627776 := by (rw [Hy.out]; have h1 := cnt_Json m (patchAllJ j l); have h2 := bulk_size (m + 1) 6 (patchAllJ j l) (patchAllJ_size j l); have h3 := patchAllJ_size j l; omega)
 apply calls_gen; intro W4 hW
 have hE : Below w3.heap.size w3 W4 := by rw [hW]; (repeat (first | with_reducible refine below_alloc ?_ _ | with_reducible refine below_drew ?_)); exact Below.refl _ _
 clear hW
 replace b0 := b0.dn hE
 replace eb0 := upE eb0 hE
 replace hB := hB.th hE
 clear hE
 refine (laws_toJson j _ _ ((tJ (m + 1)).K_below hB.out hK0.out) HL0.out.1).mono ?_
 rintro e w5 ⟨cs_, rfl, hO, hX⟩
 have db0_s0 := Hd.mk eb0.out
 have as0 := Hd.mk hB.out.size
 replace b0 := b0.dn hX
 replace eb0 := upE eb0 hX
 replace hB := hB.th hX
 clear hX
 replace hO := Ty.O_bound _ hO
 obtain ⟨v_, u_, _, _, hcs, _, r1, r2, _⟩ := tJ_O.1 hO
 subst hcs
 obtain ⟨As0, cs0, hv_, hcs0, _⟩ := R_C r1
 subst hv_
 clear r1
 obtain ⟨As0B, cs0B, hv_, hcs0B, _⟩ := R_C r2
 subst hv_
 clear r2
 have s0 := Hd.mk (show (tJ (m + 1)).O w5 (rng W4.heap.size w5.heap.size) j [Value.int IntKind.i64 j.kind, .int .i64 j.n, .string j.s, .slice As0 j.list.length cs0, .slice As0B j.names.length cs0B] from hO); clear hO
 have es0 := Hd.mk (Nat.le_refl w5.heap.size)
 obtain ⟨fb00, fb01, fb02, fb03, fb04, -⟩ := blk5 b0.out
 go_wp2_with fail
 clear fb00 fb01 fb02 fb03 fb04
 apply calls_gen; intro W6 hW
 have hE : Below w5.heap.size w5 W6 := by rw [hW]; (repeat (first | with_reducible refine below_alloc ?_ _ | with_reducible refine below_drew ?_)); exact Below.refl _ _
 clear hW
 replace b0 := b0.dn hE
 replace eb0 := upE eb0 hE
 replace s0 := s0.ob hE
 replace es0 := upE es0 hE
 replace hB := hB.th hE
 clear hE
 refine (laws_toOpS _ _ l _ (C_below hK1.out hB.out) HL1.out.1).mono ?_
 rintro e w7 ⟨v_, rfl, hO, hX⟩
 have db0_s1 := Hd.mk eb0.out
 have ds0_s1 := Hd.mk es0.out
 have as1 := Hd.mk hB.out.size
 replace b0 := b0.dn hX
 replace eb0 := upE eb0 hX
 replace s0 := s0.ob hX
 replace es0 := upE es0 hX
 replace hB := hB.th hX
 clear hX
 replace hO := R_bound hO
 obtain ⟨As1, cs1, hvs1, hcs1, _⟩ := R_C hO
 subst hvs1
 have s1 := Hd.mk (show (tOp (m + 1)).R 37 w7 (rng W6.heap.size w7.heap.size) (.slice As1 l.length cs1) l from hO); clear hO
 have hms1 := (R_Cv s1.out).1
 have es1 := Hd.mk (Nat.le_refl w7.heap.size)
 obtain ⟨fb00, fb01, fb02, fb03, fb04, -⟩ := blk5 b0.out
 go_wp2_with fail
 clear fb00 fb01 fb02 fb03 fb04
 apply calls_gen; intro W8 hW
 have hE : Below w7.heap.size w7 W8 := by rw [hW]; (repeat (first | with_reducible refine below_alloc ?_ _ | with_reducible refine below_drew ?_)); exact Below.refl _ _
 clear hW
 replace b0 := b0.dn hE
 replace eb0 := upE eb0 hE
 replace s0 := s0.ob hE
 replace es0 := upE es0 hE
 replace s1 := Hd.mk (R_below s1.out hE)
 replace es1 := upE es1 hE
 replace hB := hB.th hE
 clear hE
 refine (spec_PatchAllM (B := m) H6.out j _ _ _ l _ ((tJ (m + 1)).O_K s0.out) (R_Cv s1.out)).mono ?_
 rintro e w9 ⟨cs_, rfl, hO, hX⟩
 have db0_w0 := Hd.mk eb0.out
 have ds0_w0 := Hd.mk es0.out
 have ds1_w0 := Hd.mk es1.out
 have aw0 := Hd.mk hB.out.size
 replace b0 := b0.dn hX
 replace eb0 := upE eb0 hX
 replace s0 := s0.ob hX
 replace es0 := upE es0 hX
 replace s1 := Hd.mk (R_below s1.out hX)
 replace es1 := upE es1 hX
 replace hB := hB.th hX
 clear hX
 rw [← Hy.out] at hO
 rw [← Hyb.out]
 replace hO := Ty.O_bound _ hO
 obtain ⟨v_, u_, _, _, hcs, _, r1, r2, _⟩ := tJ_O.1 hO
 subst hcs
 obtain ⟨Aw0, cw0, hv_, hcw0, _⟩ := R_C r1
 subst hv_
 clear r1
 obtain ⟨Aw0B, cw0B, hv_, hcw0B, _⟩ := R_C r2
 subst hv_
 clear r2
 have w0 := Hd.mk (show (tJ (m + 1)).O w9 (rng W8.heap.size w9.heap.size) y [Value.int IntKind.i64 y.kind, .int .i64 y.n, .string y.s, .slice Aw0 y.list.length cw0, .slice Aw0B y.names.length cw0B] from hO); clear hO
 have ew0 := Hd.mk (Nat.le_refl w9.heap.size)
 clear s0 es0
 clear s1 es1
 obtain ⟨fb00, fb01, fb02, fb03, fb04, -⟩ := blk5 b0.out
 have lfb00 := fun o => cell_below (below_alloc (Below.refl _ _) o) fb00
 have lfb01 := fun o => cell_below (below_alloc (Below.refl _ _) o) fb01
 have lfb02 := fun o => cell_below (below_alloc (Below.refl _ _) o) fb02
 have lfb03 := fun o => cell_below (below_alloc (Below.refl _ _) o) fb03
 have lfb04 := fun o => cell_below (below_alloc (Below.refl _ _) o) fb04
 go_wp2_with fail
 clear lfb00 lfb01 lfb02 lfb03 lfb04
 clear fb00 fb01 fb02 fb03 fb04
 apply calls_gen; intro W10 hW
 have hE : Below w9.heap.size w9 W10 := by rw [hW]; (repeat (first | with_reducible refine below_alloc ?_ _ | with_reducible refine below_drew ?_)); exact Below.refl _ _
 have Bw0 := Hd.mk (show Blk W10 w9.heap.size #[.int .i64 y.kind, .int .i64 y.n, .string y.s, .slice Aw0 y.list.length cw0, .slice Aw0B y.names.length cw0B] 32 by rw [hW]; first | exact Blk.new _ _ _ | exact (Blk.new _ _ _).drew)
 have hz_ : w9.heap.size + 1 ≤ W10.heap.size := by rw [hW]; simp
 clear hW
 have db0_Bw0 := Hd.mk eb0.out
 have dw0_Bw0 := Hd.mk ew0.out
 have aBw0 := Hd.mk hB.out.size
 replace b0 := b0.dn hE
 replace eb0 := upE eb0 hE
 replace w0 := w0.ob hE
 replace ew0 := upE ew0 hE
 replace hB := hB.th hE
 have eBw0 := Hd.mk hz_; clear hz_
 clear hE
 refine (laws_toJson j _ _ ((tJ (m + 1)).K_below hB.out hK0.out) HL0.out.1).mono ?_
 rintro e w11 ⟨cs_, rfl, hO, hX⟩
 have db0_x0 := Hd.mk eb0.out
 have dw0_x0 := Hd.mk ew0.out
 have dBw0_x0 := Hd.mk eBw0.out
 have ax0 := Hd.mk hB.out.size
 replace b0 := b0.dn hX
 replace eb0 := upE eb0 hX
 replace w0 := w0.ob hX
 replace ew0 := upE ew0 hX
 replace Bw0 := Bw0.dn hX
 replace eBw0 := upE eBw0 hX
 replace hB := hB.th hX
 clear hX
 replace hO := Ty.O_bound _ hO
 obtain ⟨v_, u_, _, _, hcs, _, r1, r2, _⟩ := tJ_O.1 hO
 subst hcs
 obtain ⟨Ax0, cx0, hv_, hcx0, _⟩ := R_C r1
 subst hv_
 clear r1
 obtain ⟨Ax0B, cx0B, hv_, hcx0B, _⟩ := R_C r2
 subst hv_
 clear r2
 have x0 := Hd.mk (show (tJ (m + 1)).O w11 (rng W10.heap.size w11.heap.size) j [Value.int IntKind.i64 j.kind, .int .i64 j.n, .string j.s, .slice Ax0 j.list.length cx0, .slice Ax0B j.names.length cx0B] from hO); clear hO
 have ex0 := Hd.mk (Nat.le_refl w11.heap.size)
 obtain ⟨fb00, fb01, fb02, fb03, fb04, -⟩ := blk5 b0.out
 obtain ⟨fBw00, fBw01, fBw02, fBw03, fBw04, -⟩ := blk5 Bw0.out
 have lfb00 := fun o => cell_below (below_alloc (Below.refl _ _) o) fb00
 have lfb01 := fun o => cell_below (below_alloc (Below.refl _ _) o) fb01
 have lfb02 := fun o => cell_below (below_alloc (Below.refl _ _) o) fb02
 have lfb03 := fun o => cell_below (below_alloc (Below.refl _ _) o) fb03
 have lfb04 := fun o => cell_below (below_alloc (Below.refl _ _) o) fb04
 have lfBw00 := fun o => cell_below (below_alloc (Below.refl _ _) o) fBw00
 have lfBw01 := fun o => cell_below (below_alloc (Below.refl _ _) o) fBw01
 have lfBw02 := fun o => cell_below (below_alloc (Below.refl _ _) o) fBw02
 have lfBw03 := fun o => cell_below (below_alloc (Below.refl _ _) o) fBw03
 have lfBw04 := fun o => cell_below (below_alloc (Below.refl _ _) o) fBw04
 go_wp2_with fail
 clear lfb00 lfb01 lfb02 lfb03 lfb04 lfBw00 lfBw01 lfBw02 lfBw03 lfBw04
 clear fb00 fb01 fb02 fb03 fb04 fBw00 fBw01 fBw02 fBw03 fBw04
 apply calls_gen; intro W12 hW
 have hE : Below w11.heap.size w11 W12 := by rw [hW]; (repeat (first | with_reducible refine below_alloc ?_ _ | with_reducible refine below_drew ?_)); exact Below.refl _ _
 have Bx0 := Hd.mk (show Blk W12 w11.heap.size #[.int .i64 j.kind, .int .i64 j.n, .string j.s, .slice Ax0 j.list.length cx0, .slice Ax0B j.names.length cx0B] 32 by rw [hW]; first | exact Blk.new _ _ _ | exact (Blk.new _ _ _).drew)
 have hz_ : w11.heap.size + 1 ≤ W12.heap.size := by rw [hW]; simp
 clear hW
 have db0_Bx0 := Hd.mk eb0.out
 have dw0_Bx0 := Hd.mk ew0.out
 have dBw0_Bx0 := Hd.mk eBw0.out
 have dx0_Bx0 := Hd.mk ex0.out
 have aBx0 := Hd.mk hB.out.size
 replace b0 := b0.dn hE
 replace eb0 := upE eb0 hE
 replace w0 := w0.ob hE
 replace ew0 := upE ew0 hE
 replace Bw0 := Bw0.dn hE
 replace eBw0 := upE eBw0 hE
 replace x0 := x0.ob hE
 replace ex0 := upE ex0 hE
 replace hB := hB.th hE
 have eBx0 := Hd.mk hz_; clear hz_
 clear hE
 refine (laws_toOpS _ _ l _ (C_below hK1.out hB.out) HL1.out.1).mono ?_
 rintro e w13 ⟨v_, rfl, hO, hX⟩
 have db0_x1 := Hd.mk eb0.out
 have dw0_x1 := Hd.mk ew0.out
 have dBw0_x1 := Hd.mk eBw0.out
 have dx0_x1 := Hd.mk ex0.out
 have dBx0_x1 := Hd.mk eBx0.out
 have ax1 := Hd.mk hB.out.size
 replace b0 := b0.dn hX
 replace eb0 := upE eb0 hX
 replace w0 := w0.ob hX
 replace ew0 := upE ew0 hX
 replace Bw0 := Bw0.dn hX
 replace eBw0 := upE eBw0 hX
 replace x0 := x0.ob hX
 replace ex0 := upE ex0 hX
 replace Bx0 := Bx0.dn hX
 replace eBx0 := upE eBx0 hX
 replace hB := hB.th hX
 clear hX
 replace hO := R_bound hO
 obtain ⟨Ax1, cx1, hvx1, hcx1, _⟩ := R_C hO
 subst hvx1
 have x1 := Hd.mk (show (tOp (m + 1)).R 37 w13 (rng W12.heap.size w13.heap.size) (.slice Ax1 l.length cx1) l from hO); clear hO
 have hmx1 := (R_Cv x1.out).1
 have ex1 := Hd.mk (Nat.le_refl w13.heap.size)
 obtain ⟨fb00, fb01, fb02, fb03, fb04, -⟩ := blk5 b0.out
 obtain ⟨fBw00, fBw01, fBw02, fBw03, fBw04, -⟩ := blk5 Bw0.out
 obtain ⟨fBx00, fBx01, fBx02, fBx03, fBx04, -⟩ := blk5 Bx0.out
 go_wp2_with fail
 clear fb00 fb01 fb02 fb03 fb04 fBw00 fBw01 fBw02 fBw03 fBw04 fBx00 fBx01 fBx02 fBx03 fBx04
 apply calls_gen; intro W14 hW
 have hE : Below w13.heap.size w13 W14 := by rw [hW]; (repeat (first | with_reducible refine below_alloc ?_ _ | with_reducible refine below_drew ?_)); exact Below.refl _ _
 clear hW
 replace b0 := b0.dn hE
 replace eb0 := upE eb0 hE
 replace w0 := w0.ob hE
 replace ew0 := upE ew0 hE
 replace Bw0 := Bw0.dn hE
 replace eBw0 := upE eBw0 hE
 replace x0 := x0.ob hE
 replace ex0 := upE ex0 hE
 replace Bx0 := Bx0.dn hE
 replace eBx0 := upE eBx0 hE
 replace x1 := Hd.mk (R_below x1.out hE)
 replace ex1 := upE ex1 hE
 replace hB := hB.th hE
 clear hE
 refine (impl_PatchAllM (B := m) H6.out j _ _ _ l _ ((tJ (m + 1)).O_K x0.out) (R_Cv x1.out) (hT.out.below hB.out) (hE.out.below hB.out)).mono ?_
 rintro e w15 ⟨cs_, rfl, hO, hX⟩
 have db0_g0 := Hd.mk eb0.out
 have dw0_g0 := Hd.mk ew0.out
 have dBw0_g0 := Hd.mk eBw0.out
 have dx0_g0 := Hd.mk ex0.out
 have dBx0_g0 := Hd.mk eBx0.out
 have dx1_g0 := Hd.mk ex1.out
 have ag0 := Hd.mk hB.out.size
 replace b0 := b0.dn hX
 replace eb0 := upE eb0 hX
 replace w0 := w0.ob hX
 replace ew0 := upE ew0 hX
 replace Bw0 := Bw0.dn hX
 replace eBw0 := upE eBw0 hX
 replace x0 := x0.ob hX
 replace ex0 := upE ex0 hX
 replace Bx0 := Bx0.dn hX
 replace eBx0 := upE eBx0 hX
 replace x1 := Hd.mk (R_below x1.out hX)
 replace ex1 := upE ex1 hX
 replace hB := hB.th hX
 clear hX
 rw [← Hy.out] at hO
 rw [← Hyb.out]
 replace hO := Ty.O_bound _ hO
 obtain ⟨v_, u_, _, _, hcs, _, r1, r2, _⟩ := tJ_O.1 hO
 subst hcs
 obtain ⟨Ag0, cg0, hv_, hcg0, _⟩ := R_C r1
 subst hv_
 clear r1
 obtain ⟨Ag0B, cg0B, hv_, hcg0B, _⟩ := R_C r2
 subst hv_
 clear r2
 have g0 := Hd.mk (show (tJ (m + 1)).O w15 (rng W14.heap.size w15.heap.size) y [Value.int IntKind.i64 y.kind, .int .i64 y.n, .string y.s, .slice Ag0 y.list.length cg0, .slice Ag0B y.names.length cg0B] from hO); clear hO
 have eg0 := Hd.mk (Nat.le_refl w15.heap.size)
 obtain ⟨fb00, fb01, fb02, fb03, fb04, -⟩ := blk5 b0.out
 obtain ⟨fBw00, fBw01, fBw02, fBw03, fBw04, -⟩ := blk5 Bw0.out
 obtain ⟨fBx00, fBx01, fBx02, fBx03, fBx04, -⟩ := blk5 Bx0.out
 have lfb00 := fun o => cell_below (below_alloc (Below.refl _ _) o) fb00
 have lfb01 := fun o => cell_below (below_alloc (Below.refl _ _) o) fb01
 have lfb02 := fun o => cell_below (below_alloc (Below.refl _ _) o) fb02
 have lfb03 := fun o => cell_below (below_alloc (Below.refl _ _) o) fb03
 have lfb04 := fun o => cell_below (below_alloc (Below.refl _ _) o) fb04
 have lfBw00 := fun o => cell_below (below_alloc (Below.refl _ _) o) fBw00
 have lfBw01 := fun o => cell_below (below_alloc (Below.refl _ _) o) fBw01
 have lfBw02 := fun o => cell_below (below_alloc (Below.refl _ _) o) fBw02
 have lfBw03 := fun o => cell_below (below_alloc (Below.refl _ _) o) fBw03
 have lfBw04 := fun o => cell_below (below_alloc (Below.refl _ _) o) fBw04
 have lfBx00 := fun o => cell_below (below_alloc (Below.refl _ _) o) fBx00
 have lfBx01 := fun o => cell_below (below_alloc (Below.refl _ _) o) fBx01
 have lfBx02 := fun o => cell_below (below_alloc (Below.refl _ _) o) fBx02
 have lfBx03 := fun o => cell_below (below_alloc (Below.refl _ _) o) fBx03
 have lfBx04 := fun o => cell_below (below_alloc (Below.refl _ _) o) fBx04
 go_wp2_with fail
 clear lfb00 lfb01 lfb02 lfb03 lfb04 lfBw00 lfBw01 lfBw02 lfBw03 lfBw04 lfBx00 lfBx01 lfBx02 lfBx03 lfBx04
 clear fb00 fb01 fb02 fb03 fb04 fBw00 fBw01 fBw02 fBw03 fBw04 fBx00 fBx01 fBx02 fBx03 fBx04
 apply calls_gen; intro W16 hW
 have hE : Below w15.heap.size w15 W16 := by rw [hW]; (repeat (first | with_reducible refine below_alloc ?_ _ | with_reducible refine below_drew ?_)); exact Below.refl _ _
 have Bg0 := Hd.mk (show Blk W16 w15.heap.size #[.int .i64 y.kind, .int .i64 y.n, .string y.s, .slice Ag0 y.list.length cg0, .slice Ag0B y.names.length cg0B] 32 by rw [hW]; first | exact Blk.new _ _ _ | exact (Blk.new _ _ _).drew)
 have hz_ : w15.heap.size + 1 ≤ W16.heap.size := by rw [hW]; simp
 clear hW
 have db0_Bg0 := Hd.mk eb0.out
 have dw0_Bg0 := Hd.mk ew0.out
 have dBw0_Bg0 := Hd.mk eBw0.out
 have dx0_Bg0 := Hd.mk ex0.out
 have dBx0_Bg0 := Hd.mk eBx0.out
 have dx1_Bg0 := Hd.mk ex1.out
 have dg0_Bg0 := Hd.mk eg0.out
 have aBg0 := Hd.mk hB.out.size
 replace b0 := b0.dn hE
 replace eb0 := upE eb0 hE
 replace w0 := w0.ob hE
 replace ew0 := upE ew0 hE
 replace Bw0 := Bw0.dn hE
 replace eBw0 := upE eBw0 hE
 replace x0 := x0.ob hE
 replace ex0 := upE ex0 hE
 replace Bx0 := Bx0.dn hE
 replace eBx0 := upE eBx0 hE
 replace x1 := Hd.mk (R_below x1.out hE)
 replace ex1 := upE ex1 hE
 replace g0 := g0.ob hE
 replace eg0 := upE eg0 hE
 replace hB := hB.th hE
 have eBg0 := Hd.mk hz_; clear hz_
 clear hE
 refine (laws_eqJson y y _ _ _ ((tJ (m + 1)).O_K g0.out) ((tJ (m + 1)).O_K w0.out)).mono ?_
 rintro e w17 ⟨rfl, hX⟩
 replace b0 := b0.dn hX
 replace eb0 := upE eb0 hX
 replace w0 := w0.ob hX
 replace ew0 := upE ew0 hX
 replace Bw0 := Bw0.dn hX
 replace eBw0 := upE eBw0 hX
 replace x0 := x0.ob hX
 replace ex0 := upE ex0 hX
 replace Bx0 := Bx0.dn hX
 replace eBx0 := upE eBx0 hX
 replace x1 := Hd.mk (R_below x1.out hX)
 replace ex1 := upE ex1 hX
 replace g0 := g0.ob hX
 replace eg0 := upE eg0 hX
 replace Bg0 := Bg0.dn hX
 replace eBg0 := upE eBg0 hX
 replace hB := hB.th hX
 clear hX
 rw [eqv_self]
 obtain ⟨fb00, fb01, fb02, fb03, fb04, -⟩ := blk5 b0.out
 obtain ⟨fBw00, fBw01, fBw02, fBw03, fBw04, -⟩ := blk5 Bw0.out
 obtain ⟨fBx00, fBx01, fBx02, fBx03, fBx04, -⟩ := blk5 Bx0.out
 obtain ⟨fBg00, fBg01, fBg02, fBg03, fBg04, -⟩ := blk5 Bg0.out
 go_wp2_with fail
 clear fb00 fb01 fb02 fb03 fb04 fBw00 fBw01 fBw02 fBw03 fBw04 fBx00 fBx01 fBx02 fBx03 fBx04 fBg00 fBg01 fBg02 fBg03 fBg04
 obtain ⟨fb00, fb01, fb02, fb03, fb04, -⟩ := blk5 b0.out
 obtain ⟨fBw00, fBw01, fBw02, fBw03, fBw04, -⟩ := blk5 Bw0.out
 obtain ⟨fBx00, fBx01, fBx02, fBx03, fBx04, -⟩ := blk5 Bx0.out
 obtain ⟨fBg00, fBg01, fBg02, fBg03, fBg04, -⟩ := blk5 Bg0.out
 obtain ⟨rfb00, rfb01, rfb02, rfb03, rfb04⟩ := reg5 fb00 fb01 fb02 fb03 fb04
 obtain ⟨rfBw00, rfBw01, rfBw02, rfBw03, rfBw04⟩ := reg5 fBw00 fBw01 fBw02 fBw03 fBw04
 obtain ⟨rfBx00, rfBx01, rfBx02, rfBx03, rfBx04⟩ := reg5 fBx00 fBx01 fBx02 fBx03 fBx04
 obtain ⟨rfBg00, rfBg01, rfBg02, rfBg03, rfBg04⟩ := reg5 fBg00 fBg01 fBg02 fBg03 fBg04
 refine region_mix [(true, 0), (true, 1), (false, 2), (false, 3), (true, 4)] (by kernel_rfl) (by kernel_rfl) (fun _ _ _ _ _ h => h) ?_
 try (repeat (refine mix_q rfl ?_; go_big_quiet_want; go_big_quiet_op; go_big_quiet_on; refine wpQuiet_nil ?_))
 refine mix_b rfl ?_ (by rfl)
 go_wp2_with fail
 clear rfb00 rfb01 rfb02 rfb03 rfb04 rfBw00 rfBw01 rfBw02 rfBw03 rfBw04 rfBx00 rfBx01 rfBx02 rfBx03 rfBx04 rfBg00 rfBg01 rfBg02 rfBg03 rfBg04
 clear fb00 fb01 fb02 fb03 fb04 fBw00 fBw01 fBw02 fBw03 fBw04 fBx00 fBx01 fBx02 fBx03 fBx04 fBg00 fBg01 fBg02 fBg03 fBg04
 have hS := Hd.mk (Below.refl w17.heap.size w17)
 apply calls_gen; intro W18 hW
 have hE : Below w17.heap.size w17 W18 := by rw [hW]; (repeat (first | with_reducible refine below_alloc ?_ _ | with_reducible refine below_drew ?_)); exact Below.refl _ _
 clear hW
 replace b0 := b0.dn hE
 replace eb0 := upE eb0 hE
 replace w0 := w0.ob hE
 replace ew0 := upE ew0 hE
 replace Bw0 := Bw0.dn hE
 replace eBw0 := upE eBw0 hE
 replace x0 := x0.ob hE
 replace ex0 := upE ex0 hE
 replace Bx0 := Bx0.dn hE
 replace eBx0 := upE eBx0 hE
 replace x1 := Hd.mk (R_below x1.out hE)
 replace ex1 := upE ex1 hE
 replace g0 := g0.ob hE
 replace eg0 := upE eg0 hE
 replace Bg0 := Bg0.dn hE
 replace eBg0 := upE eBg0 hE
 replace hB := hB.th hE
 replace hS := Hd.mk (below_then hS.out hE)
 clear hE
 refine (laws_toJson j _ _ ((tJ (m + 1)).K_below hB.out hK0.out) HL0.out.1).mono ?_
 rintro e w19 ⟨cs_, rfl, hO, hX⟩
 have db0_t0 := Hd.mk eb0.out
 have dw0_t0 := Hd.mk ew0.out
 have dBw0_t0 := Hd.mk eBw0.out
 have dx0_t0 := Hd.mk ex0.out
 have dBx0_t0 := Hd.mk eBx0.out
 have dx1_t0 := Hd.mk ex1.out
 have dg0_t0 := Hd.mk eg0.out
 have dBg0_t0 := Hd.mk eBg0.out
 have at0 := Hd.mk hB.out.size
 replace b0 := b0.dn hX
 replace eb0 := upE eb0 hX
 replace w0 := w0.ob hX
 replace ew0 := upE ew0 hX
 replace Bw0 := Bw0.dn hX
 replace eBw0 := upE eBw0 hX
 replace x0 := x0.ob hX
 replace ex0 := upE ex0 hX
 replace Bx0 := Bx0.dn hX
 replace eBx0 := upE eBx0 hX
 replace x1 := Hd.mk (R_below x1.out hX)
 replace ex1 := upE ex1 hX
 replace g0 := g0.ob hX
 replace eg0 := upE eg0 hX
 replace Bg0 := Bg0.dn hX
 replace eBg0 := upE eBg0 hX
 replace hB := hB.th hX
 replace hS := Hd.mk (below_then hS.out hX)
 clear hX
 replace hO := Ty.O_bound _ hO
 obtain ⟨v_, u_, _, _, hcs, _, r1, r2, _⟩ := tJ_O.1 hO
 subst hcs
 obtain ⟨At0, ct0, hv_, hct0, _⟩ := R_C r1
 subst hv_
 clear r1
 obtain ⟨At0B, ct0B, hv_, hct0B, _⟩ := R_C r2
 subst hv_
 clear r2
 have t0 := Hd.mk (show (tJ (m + 1)).O w19 (rng W18.heap.size w19.heap.size) j [Value.int IntKind.i64 j.kind, .int .i64 j.n, .string j.s, .slice At0 j.list.length ct0, .slice At0B j.names.length ct0B] from hO); clear hO
 have et0 := Hd.mk (Nat.le_refl w19.heap.size)
 obtain ⟨fb00, fb01, fb02, fb03, fb04, -⟩ := blk5 b0.out
 obtain ⟨fBw00, fBw01, fBw02, fBw03, fBw04, -⟩ := blk5 Bw0.out
 obtain ⟨fBx00, fBx01, fBx02, fBx03, fBx04, -⟩ := blk5 Bx0.out
 obtain ⟨fBg00, fBg01, fBg02, fBg03, fBg04, -⟩ := blk5 Bg0.out
 go_wp2_with fail
 refine ⟨cls_below hS.out, ?_⟩
 refine mix_b rfl ?_ (by rfl)
 go_wp2_with fail
 clear fb00 fb01 fb02 fb03 fb04 fBw00 fBw01 fBw02 fBw03 fBw04 fBx00 fBx01 fBx02 fBx03 fBx04 fBg00 fBg01 fBg02 fBg03 fBg04
 apply calls_gen; intro W20 hW
 have hE : Below w19.heap.size w19 W20 := by rw [hW]; (repeat (first | with_reducible refine below_alloc ?_ _ | with_reducible refine below_drew ?_)); exact Below.refl _ _
 clear hW
 replace b0 := b0.dn hE
 replace eb0 := upE eb0 hE
 replace w0 := w0.ob hE
 replace ew0 := upE ew0 hE
 replace Bw0 := Bw0.dn hE
 replace eBw0 := upE eBw0 hE
 replace x0 := x0.ob hE
 replace ex0 := upE ex0 hE
 replace Bx0 := Bx0.dn hE
 replace eBx0 := upE eBx0 hE
 replace x1 := Hd.mk (R_below x1.out hE)
 replace ex1 := upE ex1 hE
 replace g0 := g0.ob hE
 replace eg0 := upE eg0 hE
 replace Bg0 := Bg0.dn hE
 replace eBg0 := upE eBg0 hE
 replace t0 := t0.ob hE
 replace et0 := upE et0 hE
 replace hB := hB.th hE
 replace hS := Hd.mk (below_then hS.out hE)
 clear hE
 refine (laws_eqJson j j _ _ _ ((tJ (m + 1)).O_K x0.out) ((tJ (m + 1)).O_K t0.out)).mono ?_
 rintro e w21 ⟨rfl, hX⟩
 replace b0 := b0.dn hX
 replace eb0 := upE eb0 hX
 replace w0 := w0.ob hX
 replace ew0 := upE ew0 hX
 replace Bw0 := Bw0.dn hX
 replace eBw0 := upE eBw0 hX
 replace x0 := x0.ob hX
 replace ex0 := upE ex0 hX
 replace Bx0 := Bx0.dn hX
 replace eBx0 := upE eBx0 hX
 replace x1 := Hd.mk (R_below x1.out hX)
 replace ex1 := upE ex1 hX
 replace g0 := g0.ob hX
 replace eg0 := upE eg0 hX
 replace Bg0 := Bg0.dn hX
 replace eBg0 := upE eBg0 hX
 replace t0 := t0.ob hX
 replace et0 := upE et0 hX
 replace hB := hB.th hX
 replace hS := Hd.mk (below_then hS.out hX)
 clear hX
 rw [eqv_self]
 obtain ⟨fb00, fb01, fb02, fb03, fb04, -⟩ := blk5 b0.out
 obtain ⟨fBw00, fBw01, fBw02, fBw03, fBw04, -⟩ := blk5 Bw0.out
 obtain ⟨fBx00, fBx01, fBx02, fBx03, fBx04, -⟩ := blk5 Bx0.out
 obtain ⟨fBg00, fBg01, fBg02, fBg03, fBg04, -⟩ := blk5 Bg0.out
 obtain ⟨rfb00, rfb01, rfb02, rfb03, rfb04⟩ := reg5 fb00 fb01 fb02 fb03 fb04
 obtain ⟨rfBw00, rfBw01, rfBw02, rfBw03, rfBw04⟩ := reg5 fBw00 fBw01 fBw02 fBw03 fBw04
 obtain ⟨rfBx00, rfBx01, rfBx02, rfBx03, rfBx04⟩ := reg5 fBx00 fBx01 fBx02 fBx03 fBx04
 obtain ⟨rfBg00, rfBg01, rfBg02, rfBg03, rfBg04⟩ := reg5 fBg00 fBg01 fBg02 fBg03 fBg04
 go_wp2_with fail
 refine ⟨cls_below hS.out, ?_⟩
 try (repeat (refine mix_q rfl ?_; go_big_quiet_want; go_big_quiet_op; go_big_quiet_on; refine wpQuiet_nil ?_))
 refine mix_nil ?_
 clear rfb00 rfb01 rfb02 rfb03 rfb04 rfBw00 rfBw01 rfBw02 rfBw03 rfBw04 rfBx00 rfBx01 rfBx02 rfBx03 rfBx04 rfBg00 rfBg01 rfBg02 rfBg03 rfBg04
 clear hS
 go_wp2_with fail
 clear fb00 fb01 fb02 fb03 fb04 fBw00 fBw01 fBw02 fBw03 fBw04 fBx00 fBx01 fBx02 fBx03 fBx04 fBg00 fBg01 fBg02 fBg03 fBg04
 clear t0 et0
 obtain ⟨fb00, fb01, fb02, fb03, fb04, -⟩ := blk5 b0.out
 obtain ⟨fBw00, fBw01, fBw02, fBw03, fBw04, -⟩ := blk5 Bw0.out
 obtain ⟨fBx00, fBx01, fBx02, fBx03, fBx04, -⟩ := blk5 Bx0.out
 obtain ⟨fBg00, fBg01, fBg02, fBg03, fBg04, -⟩ := blk5 Bg0.out
 go_wp2_with fail
 clear fb00 fb01 fb02 fb03 fb04 fBw00 fBw01 fBw02 fBw03 fBw04 fBx00 fBx01 fBx02 fBx03 fBx04 fBg00 fBg01 fBg02 fBg03 fBg04
 apply calls_gen; intro W22 hW
 have hE : Below w21.heap.size w21 W22 := by rw [hW]; (repeat (first | with_reducible refine below_alloc ?_ _ | with_reducible refine below_drew ?_)); exact Below.refl _ _
 clear hW
 replace b0 := b0.dn hE
 replace eb0 := upE eb0 hE
 replace w0 := w0.ob hE
 replace ew0 := upE ew0 hE
 replace Bw0 := Bw0.dn hE
 replace eBw0 := upE eBw0 hE
 replace x0 := x0.ob hE
 replace ex0 := upE ex0 hE
 replace Bx0 := Bx0.dn hE
 replace eBx0 := upE eBx0 hE
 replace x1 := Hd.mk (R_below x1.out hE)
 replace ex1 := upE ex1 hE
 replace g0 := g0.ob hE
 replace eg0 := upE eg0 hE
 replace Bg0 := Bg0.dn hE
 replace eBg0 := upE eBg0 hE
 replace hB := hB.th hE
 clear hE
 refine (laws_toOpS _ _ l _ (C_below hK1.out hB.out) HL1.out.1).mono ?_
 rintro e w23 ⟨v_, rfl, hO, hX⟩
 have db0_t1 := Hd.mk eb0.out
 have dw0_t1 := Hd.mk ew0.out
 have dBw0_t1 := Hd.mk eBw0.out
 have dx0_t1 := Hd.mk ex0.out
 have dBx0_t1 := Hd.mk eBx0.out
 have dx1_t1 := Hd.mk ex1.out
 have dg0_t1 := Hd.mk eg0.out
 have dBg0_t1 := Hd.mk eBg0.out
 have at1 := Hd.mk hB.out.size
 replace b0 := b0.dn hX
 replace eb0 := upE eb0 hX
 replace w0 := w0.ob hX
 replace ew0 := upE ew0 hX
 replace Bw0 := Bw0.dn hX
 replace eBw0 := upE eBw0 hX
 replace x0 := x0.ob hX
 replace ex0 := upE ex0 hX
 replace Bx0 := Bx0.dn hX
 replace eBx0 := upE eBx0 hX
 replace x1 := Hd.mk (R_below x1.out hX)
 replace ex1 := upE ex1 hX
 replace g0 := g0.ob hX
 replace eg0 := upE eg0 hX
 replace Bg0 := Bg0.dn hX
 replace eBg0 := upE eBg0 hX
 replace hB := hB.th hX
 clear hX
 replace hO := R_bound hO
 obtain ⟨At1, ct1, hvt1, hct1, _⟩ := R_C hO
 subst hvt1
 have t1 := Hd.mk (show (tOp (m + 1)).R 37 w23 (rng W22.heap.size w23.heap.size) (.slice At1 l.length ct1) l from hO); clear hO
 have hmt1 := (R_Cv t1.out).1
 have et1 := Hd.mk (Nat.le_refl w23.heap.size)
 obtain ⟨fb00, fb01, fb02, fb03, fb04, -⟩ := blk5 b0.out
 obtain ⟨fBw00, fBw01, fBw02, fBw03, fBw04, -⟩ := blk5 Bw0.out
 obtain ⟨fBx00, fBx01, fBx02, fBx03, fBx04, -⟩ := blk5 Bx0.out
 obtain ⟨fBg00, fBg01, fBg02, fBg03, fBg04, -⟩ := blk5 Bg0.out
 go_wp2_with fail
 clear fb00 fb01 fb02 fb03 fb04 fBw00 fBw01 fBw02 fBw03 fBw04 fBx00 fBx01 fBx02 fBx03 fBx04 fBg00 fBg01 fBg02 fBg03 fBg04
 apply calls_gen; intro W24 hW
 have hE : Below w23.heap.size w23 W24 := by rw [hW]; (repeat (first | with_reducible refine below_alloc ?_ _ | with_reducible refine below_drew ?_)); exact Below.refl _ _
 clear hW
 replace b0 := b0.dn hE
 replace eb0 := upE eb0 hE
 replace w0 := w0.ob hE
 replace ew0 := upE ew0 hE
 replace Bw0 := Bw0.dn hE
 replace eBw0 := upE eBw0 hE
 replace x0 := x0.ob hE
 replace ex0 := upE ex0 hE
 replace Bx0 := Bx0.dn hE
 replace eBx0 := upE eBx0 hE
 replace x1 := Hd.mk (R_below x1.out hE)
 replace ex1 := upE ex1 hE
 replace g0 := g0.ob hE
 replace eg0 := upE eg0 hE
 replace Bg0 := Bg0.dn hE
 replace eBg0 := upE eBg0 hE
 replace t1 := Hd.mk (R_below t1.out hE)
 replace et1 := upE et1 hE
 replace hB := hB.th hE
 clear hE
 refine (laws_eqOpS _ _ _ _ l l _ (R_Cv x1.out) (R_Cv t1.out)).mono ?_
 rintro e w25 ⟨rfl, hX⟩
 replace b0 := b0.dn hX
 replace eb0 := upE eb0 hX
 replace w0 := w0.ob hX
 replace ew0 := upE ew0 hX
 replace Bw0 := Bw0.dn hX
 replace eBw0 := upE eBw0 hX
 replace x0 := x0.ob hX
 replace ex0 := upE ex0 hX
 replace Bx0 := Bx0.dn hX
 replace eBx0 := upE eBx0 hX
 replace x1 := Hd.mk (R_below x1.out hX)
 replace ex1 := upE ex1 hX
 replace g0 := g0.ob hX
 replace eg0 := upE eg0 hX
 replace Bg0 := Bg0.dn hX
 replace eBg0 := upE eBg0 hX
 replace t1 := Hd.mk (R_below t1.out hX)
 replace et1 := upE et1 hX
 replace hB := hB.th hX
 clear hX
 rw [eqv_self]
 clear t1 et1
 obtain ⟨fb00, fb01, fb02, fb03, fb04, -⟩ := blk5 b0.out
 obtain ⟨fBw00, fBw01, fBw02, fBw03, fBw04, -⟩ := blk5 Bw0.out
 obtain ⟨fBx00, fBx01, fBx02, fBx03, fBx04, -⟩ := blk5 Bx0.out
 obtain ⟨fBg00, fBg01, fBg02, fBg03, fBg04, -⟩ := blk5 Bg0.out
 go_wp2_with fail
 clear fb00 fb01 fb02 fb03 fb04 fBw00 fBw01 fBw02 fBw03 fBw04 fBx00 fBx01 fBx02 fBx03 fBx04 fBg00 fBg01 fBg02 fBg03 fBg04
 apply calls_gen; intro W26 hW
 have hE : Below w25.heap.size w25 W26 := by rw [hW]; (repeat (first | with_reducible refine below_alloc ?_ _ | with_reducible refine below_drew ?_)); exact Below.refl _ _
 clear hW
 replace b0 := b0.dn hE
 replace eb0 := upE eb0 hE
 replace w0 := w0.ob hE
 replace ew0 := upE ew0 hE
 replace Bw0 := Bw0.dn hE
 replace eBw0 := upE eBw0 hE
 replace x0 := x0.ob hE
 replace ex0 := upE ex0 hE
 replace Bx0 := Bx0.dn hE
 replace eBx0 := upE eBx0 hE
 replace x1 := Hd.mk (R_below x1.out hE)
 replace ex1 := upE ex1 hE
 replace g0 := g0.ob hE
 replace eg0 := upE eg0 hE
 replace Bg0 := Bg0.dn hE
 replace eBg0 := upE eBg0 hE
 replace hB := hB.th hE
 clear hE
 refine (laws_markJson _ _ (1) _ x0.out (by omega) (by omega)).mono ?_
 rintro e w27 ⟨rfl, hM, hX⟩
 have hsz_ := hX.size
 replace b0 := Hd.mk (b0.out.fr hX (rng_not (Or.inl db0_x0.out)))
 replace eb0 := Hd.mk (Nat.le_trans eb0.out hsz_)
 replace w0 := Hd.mk (Ty.O_fr w0.out hX (rng_off (Or.inl dw0_x0.out)))
 replace ew0 := Hd.mk (Nat.le_trans ew0.out hsz_)
 replace Bw0 := Hd.mk (Bw0.out.fr hX (rng_not (Or.inl dBw0_x0.out)))
 replace eBw0 := Hd.mk (Nat.le_trans eBw0.out hsz_)
 replace ex0 := Hd.mk (Nat.le_trans ex0.out hsz_)
 replace Bx0 := Hd.mk (Bx0.out.fr hX (rng_not (Or.inr dx0_Bx0.out)))
 replace eBx0 := Hd.mk (Nat.le_trans eBx0.out hsz_)
 replace x1 := Hd.mk (R_fr x1.out hX (rng_off (Or.inr dx0_x1.out)))
 replace ex1 := Hd.mk (Nat.le_trans ex1.out hsz_)
 replace g0 := Hd.mk (Ty.O_fr g0.out hX (rng_off (Or.inr dx0_g0.out)))
 replace eg0 := Hd.mk (Nat.le_trans eg0.out hsz_)
 replace Bg0 := Hd.mk (Bg0.out.fr hX (rng_not (Or.inr dx0_Bg0.out)))
 replace eBg0 := Hd.mk (Nat.le_trans eBg0.out hsz_)
 replace hB := Hd.mk (below_rng hB.out hX ax0.out)
 clear hsz_
 clear hX
 clear hM
 clear x0 ex0
 obtain ⟨fb00, fb01, fb02, fb03, fb04, -⟩ := blk5 b0.out
 obtain ⟨fBw00, fBw01, fBw02, fBw03, fBw04, -⟩ := blk5 Bw0.out
 obtain ⟨fBx00, fBx01, fBx02, fBx03, fBx04, -⟩ := blk5 Bx0.out
 obtain ⟨fBg00, fBg01, fBg02, fBg03, fBg04, -⟩ := blk5 Bg0.out
 go_wp2_with fail
 clear fb00 fb01 fb02 fb03 fb04 fBw00 fBw01 fBw02 fBw03 fBw04 fBx00 fBx01 fBx02 fBx03 fBx04 fBg00 fBg01 fBg02 fBg03 fBg04
 apply calls_gen; intro W28 hW
 have hE : Below w27.heap.size w27 W28 := by rw [hW]; (repeat (first | with_reducible refine below_alloc ?_ _ | with_reducible refine below_drew ?_)); exact Below.refl _ _
 clear hW
 replace b0 := b0.dn hE
 replace eb0 := upE eb0 hE
 replace w0 := w0.ob hE
 replace ew0 := upE ew0 hE
 replace Bw0 := Bw0.dn hE
 replace eBw0 := upE eBw0 hE
 replace Bx0 := Bx0.dn hE
 replace eBx0 := upE eBx0 hE
 replace x1 := Hd.mk (R_below x1.out hE)
 replace ex1 := upE ex1 hE
 replace g0 := g0.ob hE
 replace eg0 := upE eg0 hE
 replace Bg0 := Bg0.dn hE
 replace eBg0 := upE eBg0 hE
 replace hB := hB.th hE
 clear hE
 refine (laws_markOpS _ _ (1 + (bulkL (cnJ m) j.list : Int) + (j.names.length : Int)) _ x1.out (by omega) (by omega)).mono ?_
 rintro e w29 ⟨rfl, hM, hX⟩
 have hsz_ := hX.size
 replace b0 := Hd.mk (b0.out.fr hX (rng_not (Or.inl db0_x1.out)))
 replace eb0 := Hd.mk (Nat.le_trans eb0.out hsz_)
 replace w0 := Hd.mk (Ty.O_fr w0.out hX (rng_off (Or.inl dw0_x1.out)))
 replace ew0 := Hd.mk (Nat.le_trans ew0.out hsz_)
 replace Bw0 := Hd.mk (Bw0.out.fr hX (rng_not (Or.inl dBw0_x1.out)))
 replace eBw0 := Hd.mk (Nat.le_trans eBw0.out hsz_)
 replace Bx0 := Hd.mk (Bx0.out.fr hX (rng_not (Or.inl dBx0_x1.out)))
 replace eBx0 := Hd.mk (Nat.le_trans eBx0.out hsz_)
 replace ex1 := Hd.mk (Nat.le_trans ex1.out hsz_)
 replace g0 := Hd.mk (Ty.O_fr g0.out hX (rng_off (Or.inr dx1_g0.out)))
 replace eg0 := Hd.mk (Nat.le_trans eg0.out hsz_)
 replace Bg0 := Hd.mk (Bg0.out.fr hX (rng_not (Or.inr dx1_Bg0.out)))
 replace eBg0 := Hd.mk (Nat.le_trans eBg0.out hsz_)
 replace hB := Hd.mk (below_rng hB.out hX ax1.out)
 clear hsz_
 clear hX
 clear hM
 clear x1 ex1
 have hkp : (0 : Int) ≤ 1 + (bulkL (cnJ m) j.list : Int) + (j.names.length : Int) + (bulkL (cnOp (m + 1)) l : Int) := by omega
 obtain ⟨fb00, fb01, fb02, fb03, fb04, -⟩ := blk5 b0.out
 obtain ⟨fBw00, fBw01, fBw02, fBw03, fBw04, -⟩ := blk5 Bw0.out
 obtain ⟨fBx00, fBx01, fBx02, fBx03, fBx04, -⟩ := blk5 Bx0.out
 obtain ⟨fBg00, fBg01, fBg02, fBg03, fBg04, -⟩ := blk5 Bg0.out
 go_wp2_with fail
 clear fb00 fb01 fb02 fb03 fb04 fBw00 fBw01 fBw02 fBw03 fBw04 fBx00 fBx01 fBx02 fBx03 fBx04 fBg00 fBg01 fBg02 fBg03 fBg04
 apply calls_gen; intro W30 hW
 have hE : Below w29.heap.size w29 W30 := by rw [hW]; (repeat (first | with_reducible refine below_alloc ?_ _ | with_reducible refine below_drew ?_)); exact Below.refl _ _
 clear hW
 replace b0 := b0.dn hE
 replace eb0 := upE eb0 hE
 replace w0 := w0.ob hE
 replace ew0 := upE ew0 hE
 replace Bw0 := Bw0.dn hE
 replace eBw0 := upE eBw0 hE
 replace Bx0 := Bx0.dn hE
 replace eBx0 := upE eBx0 hE
 replace g0 := g0.ob hE
 replace eg0 := upE eg0 hE
 replace Bg0 := Bg0.dn hE
 replace eBg0 := upE eBg0 hE
 replace hB := hB.th hE
 clear hE
 refine (laws_eqJson y y _ _ _ ((tJ (m + 1)).O_K g0.out) ((tJ (m + 1)).O_K w0.out)).mono ?_
 rintro e w31 ⟨rfl, hX⟩
 replace b0 := b0.dn hX
 replace eb0 := upE eb0 hX
 replace w0 := w0.ob hX
 replace ew0 := upE ew0 hX
 replace Bw0 := Bw0.dn hX
 replace eBw0 := upE eBw0 hX
 replace Bx0 := Bx0.dn hX
 replace eBx0 := upE eBx0 hX
 replace g0 := g0.ob hX
 replace eg0 := upE eg0 hX
 replace Bg0 := Bg0.dn hX
 replace eBg0 := upE eBg0 hX
 replace hB := hB.th hX
 clear hX
 rw [eqv_self]
 obtain ⟨fb00, fb01, fb02, fb03, fb04, -⟩ := blk5 b0.out
 obtain ⟨fBw00, fBw01, fBw02, fBw03, fBw04, -⟩ := blk5 Bw0.out
 obtain ⟨fBx00, fBx01, fBx02, fBx03, fBx04, -⟩ := blk5 Bx0.out
 obtain ⟨fBg00, fBg01, fBg02, fBg03, fBg04, -⟩ := blk5 Bg0.out
 go_wp2_with fail
 clear fb00 fb01 fb02 fb03 fb04 fBw00 fBw01 fBw02 fBw03 fBw04 fBx00 fBx01 fBx02 fBx03 fBx04 fBg00 fBg01 fBg02 fBg03 fBg04
 apply calls_gen; intro W32 hW
 have hE : Below w31.heap.size w31 W32 := by rw [hW]; (repeat (first | with_reducible refine below_alloc ?_ _ | with_reducible refine below_drew ?_)); exact Below.refl _ _
 clear hW
 replace b0 := b0.dn hE
 replace eb0 := upE eb0 hE
 replace w0 := w0.ob hE
 replace ew0 := upE ew0 hE
 replace Bw0 := Bw0.dn hE
 replace eBw0 := upE eBw0 hE
 replace Bx0 := Bx0.dn hE
 replace eBx0 := upE eBx0 hE
 replace g0 := g0.ob hE
 replace eg0 := upE eg0 hE
 replace Bg0 := Bg0.dn hE
 replace eBg0 := upE eBg0 hE
 replace hB := hB.th hE
 clear hE
 refine (laws_markJson _ _ (1) _ g0.out (by omega) (by omega)).mono ?_
 rintro e w33 ⟨rfl, hM, hX⟩
 have hsz_ := hX.size
 replace b0 := Hd.mk (b0.out.fr hX (rng_not (Or.inl db0_g0.out)))
 replace eb0 := Hd.mk (Nat.le_trans eb0.out hsz_)
 replace w0 := Hd.mk (Ty.O_fr w0.out hX (rng_off (Or.inl dw0_g0.out)))
 replace ew0 := Hd.mk (Nat.le_trans ew0.out hsz_)
 replace Bw0 := Hd.mk (Bw0.out.fr hX (rng_not (Or.inl dBw0_g0.out)))
 replace eBw0 := Hd.mk (Nat.le_trans eBw0.out hsz_)
 replace Bx0 := Hd.mk (Bx0.out.fr hX (rng_not (Or.inl dBx0_g0.out)))
 replace eBx0 := Hd.mk (Nat.le_trans eBx0.out hsz_)
 replace eg0 := Hd.mk (Nat.le_trans eg0.out hsz_)
 replace Bg0 := Hd.mk (Bg0.out.fr hX (rng_not (Or.inr dg0_Bg0.out)))
 replace eBg0 := Hd.mk (Nat.le_trans eBg0.out hsz_)
 replace hB := Hd.mk (below_rng hB.out hX ag0.out)
 clear hsz_
 clear hX
 replace g0 := Hd.mk hM; clear hM
 have hqp : (0 : Int) ≤ 1 + (bulkL (cnJ m) y.list : Int) + (y.names.length : Int) := by omega
 obtain ⟨fb00, fb01, fb02, fb03, fb04, -⟩ := blk5 b0.out
 obtain ⟨fBw00, fBw01, fBw02, fBw03, fBw04, -⟩ := blk5 Bw0.out
 obtain ⟨fBx00, fBx01, fBx02, fBx03, fBx04, -⟩ := blk5 Bx0.out
 obtain ⟨fBg00, fBg01, fBg02, fBg03, fBg04, -⟩ := blk5 Bg0.out
 go_wp2_with fail
 clear fb00 fb01 fb02 fb03 fb04 fBw00 fBw01 fBw02 fBw03 fBw04 fBx00 fBx01 fBx02 fBx03 fBx04 fBg00 fBg01 fBg02 fBg03 fBg04
 apply calls_gen; intro W34 hW
 have hE : Below w33.heap.size w33 W34 := by rw [hW]; (repeat (first | with_reducible refine below_alloc ?_ _ | with_reducible refine below_drew ?_)); exact Below.refl _ _
 clear hW
 replace b0 := b0.dn hE
 replace eb0 := upE eb0 hE
 replace w0 := w0.ob hE
 replace ew0 := upE ew0 hE
 replace Bw0 := Bw0.dn hE
 replace eBw0 := upE eBw0 hE
 replace Bx0 := Bx0.dn hE
 replace eBx0 := upE eBx0 hE
 replace g0 := g0.ob hE
 replace eg0 := upE eg0 hE
 replace Bg0 := Bg0.dn hE
 replace eBg0 := upE eBg0 hE
 replace hB := hB.th hE
 clear hE
 refine (laws_heldJson y _ 1 _ ((tJ (m + 1)).O_K g0.out) (by omega) (by omega)).mono ?_
 rintro e w35 ⟨rfl, hX⟩
 replace b0 := b0.dn hX
 replace eb0 := upE eb0 hX
 replace w0 := w0.ob hX
 replace ew0 := upE ew0 hX
 replace Bw0 := Bw0.dn hX
 replace eBw0 := upE eBw0 hX
 replace Bx0 := Bx0.dn hX
 replace eBx0 := upE eBx0 hX
 replace g0 := g0.ob hX
 replace eg0 := upE eg0 hX
 replace Bg0 := Bg0.dn hX
 replace eBg0 := upE eBg0 hX
 replace hB := hB.th hX
 clear hX
 obtain ⟨fb00, fb01, fb02, fb03, fb04, -⟩ := blk5 b0.out
 obtain ⟨fBw00, fBw01, fBw02, fBw03, fBw04, -⟩ := blk5 Bw0.out
 obtain ⟨fBx00, fBx01, fBx02, fBx03, fBx04, -⟩ := blk5 Bx0.out
 obtain ⟨fBg00, fBg01, fBg02, fBg03, fBg04, -⟩ := blk5 Bg0.out
 go_wp2_with fail
 clear fb00 fb01 fb02 fb03 fb04 fBw00 fBw01 fBw02 fBw03 fBw04 fBx00 fBx01 fBx02 fBx03 fBx04 fBg00 fBg01 fBg02 fBg03 fBg04
 apply calls_gen; intro W36 hW
 have hE : Below w35.heap.size w35 W36 := by rw [hW]; (repeat (first | with_reducible refine below_alloc ?_ _ | with_reducible refine below_drew ?_)); exact Below.refl _ _
 clear hW
 replace b0 := b0.dn hE
 replace eb0 := upE eb0 hE
 replace w0 := w0.ob hE
 replace ew0 := upE ew0 hE
 replace Bw0 := Bw0.dn hE
 replace eBw0 := upE eBw0 hE
 replace Bx0 := Bx0.dn hE
 replace eBx0 := upE eBx0 hE
 replace g0 := g0.ob hE
 replace eg0 := upE eg0 hE
 replace Bg0 := Bg0.dn hE
 replace eBg0 := upE eBg0 hE
 replace hB := hB.th hE
 clear hE
 refine (laws_toJson j _ _ ((tJ (m + 1)).K_below hB.out hK0.out) HL0.out.1).mono ?_
 rintro e w37 ⟨cs_, rfl, hO, hX⟩
 have db0_r0 := Hd.mk eb0.out
 have dw0_r0 := Hd.mk ew0.out
 have dBw0_r0 := Hd.mk eBw0.out
 have dBx0_r0 := Hd.mk eBx0.out
 have dg0_r0 := Hd.mk eg0.out
 have dBg0_r0 := Hd.mk eBg0.out
 have ar0 := Hd.mk hB.out.size
 replace b0 := b0.dn hX
 replace eb0 := upE eb0 hX
 replace w0 := w0.ob hX
 replace ew0 := upE ew0 hX
 replace Bw0 := Bw0.dn hX
 replace eBw0 := upE eBw0 hX
 replace Bx0 := Bx0.dn hX
 replace eBx0 := upE eBx0 hX
 replace g0 := g0.ob hX
 replace eg0 := upE eg0 hX
 replace Bg0 := Bg0.dn hX
 replace eBg0 := upE eBg0 hX
 replace hB := hB.th hX
 clear hX
 replace hO := Ty.O_bound _ hO
 obtain ⟨v_, u_, _, _, hcs, _, r1, r2, _⟩ := tJ_O.1 hO
 subst hcs
 obtain ⟨Ar0, cr0, hv_, hcr0, _⟩ := R_C r1
 subst hv_
 clear r1
 obtain ⟨Ar0B, cr0B, hv_, hcr0B, _⟩ := R_C r2
 subst hv_
 clear r2
 have r0 := Hd.mk (show (tJ (m + 1)).O w37 (rng W36.heap.size w37.heap.size) j [Value.int IntKind.i64 j.kind, .int .i64 j.n, .string j.s, .slice Ar0 j.list.length cr0, .slice Ar0B j.names.length cr0B] from hO); clear hO
 have er0 := Hd.mk (Nat.le_refl w37.heap.size)
 obtain ⟨fb00, fb01, fb02, fb03, fb04, -⟩ := blk5 b0.out
 obtain ⟨fBw00, fBw01, fBw02, fBw03, fBw04, -⟩ := blk5 Bw0.out
 obtain ⟨fBx00, fBx01, fBx02, fBx03, fBx04, -⟩ := blk5 Bx0.out
 obtain ⟨fBg00, fBg01, fBg02, fBg03, fBg04, -⟩ := blk5 Bg0.out
 go_wp2_with fail
 clear fb00 fb01 fb02 fb03 fb04 fBw00 fBw01 fBw02 fBw03 fBw04 fBx00 fBx01 fBx02 fBx03 fBx04 fBg00 fBg01 fBg02 fBg03 fBg04
 apply calls_gen; intro W38 hW
 have hE : Below w37.heap.size w37 W38 := by rw [hW]; (repeat (first | with_reducible refine below_alloc ?_ _ | with_reducible refine below_drew ?_)); exact Below.refl _ _
 clear hW
 replace b0 := b0.dn hE
 replace eb0 := upE eb0 hE
 replace w0 := w0.ob hE
 replace ew0 := upE ew0 hE
 replace Bw0 := Bw0.dn hE
 replace eBw0 := upE eBw0 hE
 replace Bx0 := Bx0.dn hE
 replace eBx0 := upE eBx0 hE
 replace g0 := g0.ob hE
 replace eg0 := upE eg0 hE
 replace Bg0 := Bg0.dn hE
 replace eBg0 := upE eBg0 hE
 replace r0 := r0.ob hE
 replace er0 := upE er0 hE
 replace hB := hB.th hE
 clear hE
 refine (laws_toOpS _ _ l _ (C_below hK1.out hB.out) HL1.out.1).mono ?_
 rintro e w39 ⟨v_, rfl, hO, hX⟩
 have db0_r1 := Hd.mk eb0.out
 have dw0_r1 := Hd.mk ew0.out
 have dBw0_r1 := Hd.mk eBw0.out
 have dBx0_r1 := Hd.mk eBx0.out
 have dg0_r1 := Hd.mk eg0.out
 have dBg0_r1 := Hd.mk eBg0.out
 have dr0_r1 := Hd.mk er0.out
 have ar1 := Hd.mk hB.out.size
 replace b0 := b0.dn hX
 replace eb0 := upE eb0 hX
 replace w0 := w0.ob hX
 replace ew0 := upE ew0 hX
 replace Bw0 := Bw0.dn hX
 replace eBw0 := upE eBw0 hX
 replace Bx0 := Bx0.dn hX
 replace eBx0 := upE eBx0 hX
 replace g0 := g0.ob hX
 replace eg0 := upE eg0 hX
 replace Bg0 := Bg0.dn hX
 replace eBg0 := upE eBg0 hX
 replace r0 := r0.ob hX
 replace er0 := upE er0 hX
 replace hB := hB.th hX
 clear hX
 replace hO := R_bound hO
 obtain ⟨Ar1, cr1, hvr1, hcr1, _⟩ := R_C hO
 subst hvr1
 have r1 := Hd.mk (show (tOp (m + 1)).R 37 w39 (rng W38.heap.size w39.heap.size) (.slice Ar1 l.length cr1) l from hO); clear hO
 have hmr1 := (R_Cv r1.out).1
 have er1 := Hd.mk (Nat.le_refl w39.heap.size)
 obtain ⟨fb00, fb01, fb02, fb03, fb04, -⟩ := blk5 b0.out
 obtain ⟨fBw00, fBw01, fBw02, fBw03, fBw04, -⟩ := blk5 Bw0.out
 obtain ⟨fBx00, fBx01, fBx02, fBx03, fBx04, -⟩ := blk5 Bx0.out
 obtain ⟨fBg00, fBg01, fBg02, fBg03, fBg04, -⟩ := blk5 Bg0.out
 go_wp2_with fail
 clear fb00 fb01 fb02 fb03 fb04 fBw00 fBw01 fBw02 fBw03 fBw04 fBx00 fBx01 fBx02 fBx03 fBx04 fBg00 fBg01 fBg02 fBg03 fBg04
 apply calls_gen; intro W40 hW
 have hE : Below w39.heap.size w39 W40 := by rw [hW]; (repeat (first | with_reducible refine below_alloc ?_ _ | with_reducible refine below_drew ?_)); exact Below.refl _ _
 clear hW
 replace b0 := b0.dn hE
 replace eb0 := upE eb0 hE
 replace w0 := w0.ob hE
 replace ew0 := upE ew0 hE
 replace Bw0 := Bw0.dn hE
 replace eBw0 := upE eBw0 hE
 replace Bx0 := Bx0.dn hE
 replace eBx0 := upE eBx0 hE
 replace g0 := g0.ob hE
 replace eg0 := upE eg0 hE
 replace Bg0 := Bg0.dn hE
 replace eBg0 := upE eBg0 hE
 replace r0 := r0.ob hE
 replace er0 := upE er0 hE
 replace r1 := Hd.mk (R_below r1.out hE)
 replace er1 := upE er1 hE
 replace hB := hB.th hE
 clear hE
 refine (impl_PatchAllM (B := m) H6.out j _ _ _ l _ ((tJ (m + 1)).O_K r0.out) (R_Cv r1.out) (hT.out.below hB.out) (hE.out.below hB.out)).mono ?_
 rintro e w41 ⟨cs_, rfl, hO, hX⟩
 have db0_h0 := Hd.mk eb0.out
 have dw0_h0 := Hd.mk ew0.out
 have dBw0_h0 := Hd.mk eBw0.out
 have dBx0_h0 := Hd.mk eBx0.out
 have dg0_h0 := Hd.mk eg0.out
 have dBg0_h0 := Hd.mk eBg0.out
 have dr0_h0 := Hd.mk er0.out
 have dr1_h0 := Hd.mk er1.out
 have ah0 := Hd.mk hB.out.size
 replace b0 := b0.dn hX
 replace eb0 := upE eb0 hX
 replace w0 := w0.ob hX
 replace ew0 := upE ew0 hX
 replace Bw0 := Bw0.dn hX
 replace eBw0 := upE eBw0 hX
 replace Bx0 := Bx0.dn hX
 replace eBx0 := upE eBx0 hX
 replace g0 := g0.ob hX
 replace eg0 := upE eg0 hX
 replace Bg0 := Bg0.dn hX
 replace eBg0 := upE eBg0 hX
 replace r0 := r0.ob hX
 replace er0 := upE er0 hX
 replace r1 := Hd.mk (R_below r1.out hX)
 replace er1 := upE er1 hX
 replace hB := hB.th hX
 clear hX
 rw [← Hy.out] at hO
 rw [← Hyb.out]
 replace hO := Ty.O_bound _ hO
 obtain ⟨v_, u_, _, _, hcs, _, r1, r2, _⟩ := tJ_O.1 hO
 subst hcs
 obtain ⟨Ah0, ch0, hv_, hch0, _⟩ := R_C r1
 subst hv_
 clear r1
 obtain ⟨Ah0B, ch0B, hv_, hch0B, _⟩ := R_C r2
 subst hv_
 clear r2
 have h0 := Hd.mk (show (tJ (m + 1)).O w41 (rng W40.heap.size w41.heap.size) y [Value.int IntKind.i64 y.kind, .int .i64 y.n, .string y.s, .slice Ah0 y.list.length ch0, .slice Ah0B y.names.length ch0B] from hO); clear hO
 have eh0 := Hd.mk (Nat.le_refl w41.heap.size)
 clear r0 er0
 clear r1 er1
 obtain ⟨fb00, fb01, fb02, fb03, fb04, -⟩ := blk5 b0.out
 obtain ⟨fBw00, fBw01, fBw02, fBw03, fBw04, -⟩ := blk5 Bw0.out
 obtain ⟨fBx00, fBx01, fBx02, fBx03, fBx04, -⟩ := blk5 Bx0.out
 obtain ⟨fBg00, fBg01, fBg02, fBg03, fBg04, -⟩ := blk5 Bg0.out
 have lfb00 := fun o => cell_below (below_alloc (Below.refl _ _) o) fb00
 have lfb01 := fun o => cell_below (below_alloc (Below.refl _ _) o) fb01
 have lfb02 := fun o => cell_below (below_alloc (Below.refl _ _) o) fb02
 have lfb03 := fun o => cell_below (below_alloc (Below.refl _ _) o) fb03
 have lfb04 := fun o => cell_below (below_alloc (Below.refl _ _) o) fb04
 have lfBw00 := fun o => cell_below (below_alloc (Below.refl _ _) o) fBw00
 have lfBw01 := fun o => cell_below (below_alloc (Below.refl _ _) o) fBw01
 have lfBw02 := fun o => cell_below (below_alloc (Below.refl _ _) o) fBw02
 have lfBw03 := fun o => cell_below (below_alloc (Below.refl _ _) o) fBw03
 have lfBw04 := fun o => cell_below (below_alloc (Below.refl _ _) o) fBw04
 have lfBx00 := fun o => cell_below (below_alloc (Below.refl _ _) o) fBx00
 have lfBx01 := fun o => cell_below (below_alloc (Below.refl _ _) o) fBx01
 have lfBx02 := fun o => cell_below (below_alloc (Below.refl _ _) o) fBx02
 have lfBx03 := fun o => cell_below (below_alloc (Below.refl _ _) o) fBx03
 have lfBx04 := fun o => cell_below (below_alloc (Below.refl _ _) o) fBx04
 have lfBg00 := fun o => cell_below (below_alloc (Below.refl _ _) o) fBg00
 have lfBg01 := fun o => cell_below (below_alloc (Below.refl _ _) o) fBg01
 have lfBg02 := fun o => cell_below (below_alloc (Below.refl _ _) o) fBg02
 have lfBg03 := fun o => cell_below (below_alloc (Below.refl _ _) o) fBg03
 have lfBg04 := fun o => cell_below (below_alloc (Below.refl _ _) o) fBg04
 go_wp2_with fail
 clear lfb00 lfb01 lfb02 lfb03 lfb04 lfBw00 lfBw01 lfBw02 lfBw03 lfBw04 lfBx00 lfBx01 lfBx02 lfBx03 lfBx04 lfBg00 lfBg01 lfBg02 lfBg03 lfBg04
 clear fb00 fb01 fb02 fb03 fb04 fBw00 fBw01 fBw02 fBw03 fBw04 fBx00 fBx01 fBx02 fBx03 fBx04 fBg00 fBg01 fBg02 fBg03 fBg04
 apply calls_gen; intro W42 hW
 have hE : Below w41.heap.size w41 W42 := by rw [hW]; (repeat (first | with_reducible refine below_alloc ?_ _ | with_reducible refine below_drew ?_)); exact Below.refl _ _
 have Bh0 := Hd.mk (show Blk W42 w41.heap.size #[.int .i64 y.kind, .int .i64 y.n, .string y.s, .slice Ah0 y.list.length ch0, .slice Ah0B y.names.length ch0B] 32 by rw [hW]; first | exact Blk.new _ _ _ | exact (Blk.new _ _ _).drew)
 have hz_ : w41.heap.size + 1 ≤ W42.heap.size := by rw [hW]; simp
 clear hW
 have db0_Bh0 := Hd.mk eb0.out
 have dw0_Bh0 := Hd.mk ew0.out
 have dBw0_Bh0 := Hd.mk eBw0.out
 have dBx0_Bh0 := Hd.mk eBx0.out
 have dg0_Bh0 := Hd.mk eg0.out
 have dBg0_Bh0 := Hd.mk eBg0.out
 have dh0_Bh0 := Hd.mk eh0.out
 have aBh0 := Hd.mk hB.out.size
 replace b0 := b0.dn hE
 replace eb0 := upE eb0 hE
 replace w0 := w0.ob hE
 replace ew0 := upE ew0 hE
 replace Bw0 := Bw0.dn hE
 replace eBw0 := upE eBw0 hE
 replace Bx0 := Bx0.dn hE
 replace eBx0 := upE eBx0 hE
 replace g0 := g0.ob hE
 replace eg0 := upE eg0 hE
 replace Bg0 := Bg0.dn hE
 replace eBg0 := upE eBg0 hE
 replace h0 := h0.ob hE
 replace eh0 := upE eh0 hE
 replace hB := hB.th hE
 have eBh0 := Hd.mk hz_; clear hz_
 clear hE
 refine (laws_eqJson y y _ _ _ ((tJ (m + 1)).O_K h0.out) ((tJ (m + 1)).O_K w0.out)).mono ?_
 rintro e w43 ⟨rfl, hX⟩
 replace b0 := b0.dn hX
 replace eb0 := upE eb0 hX
 replace w0 := w0.ob hX
 replace ew0 := upE ew0 hX
 replace Bw0 := Bw0.dn hX
 replace eBw0 := upE eBw0 hX
 replace Bx0 := Bx0.dn hX
 replace eBx0 := upE eBx0 hX
 replace g0 := g0.ob hX
 replace eg0 := upE eg0 hX
 replace Bg0 := Bg0.dn hX
 replace eBg0 := upE eBg0 hX
 replace h0 := h0.ob hX
 replace eh0 := upE eh0 hX
 replace Bh0 := Bh0.dn hX
 replace eBh0 := upE eBh0 hX
 replace hB := hB.th hX
 clear hX
 rw [eqv_self]
 obtain ⟨fb00, fb01, fb02, fb03, fb04, -⟩ := blk5 b0.out
 obtain ⟨fBw00, fBw01, fBw02, fBw03, fBw04, -⟩ := blk5 Bw0.out
 obtain ⟨fBx00, fBx01, fBx02, fBx03, fBx04, -⟩ := blk5 Bx0.out
 obtain ⟨fBg00, fBg01, fBg02, fBg03, fBg04, -⟩ := blk5 Bg0.out
 obtain ⟨fBh00, fBh01, fBh02, fBh03, fBh04, -⟩ := blk5 Bh0.out
 go_wp2_with fail
 clear fb00 fb01 fb02 fb03 fb04 fBw00 fBw01 fBw02 fBw03 fBw04 fBx00 fBx01 fBx02 fBx03 fBx04 fBg00 fBg01 fBg02 fBg03 fBg04 fBh00 fBh01 fBh02 fBh03 fBh04
 apply calls_gen; intro W44 hW
 have hE : Below w43.heap.size w43 W44 := by rw [hW]; (repeat (first | with_reducible refine below_alloc ?_ _ | with_reducible refine below_drew ?_)); exact Below.refl _ _
 clear hW
 replace b0 := b0.dn hE
 replace eb0 := upE eb0 hE
 replace w0 := w0.ob hE
 replace ew0 := upE ew0 hE
 replace Bw0 := Bw0.dn hE
 replace eBw0 := upE eBw0 hE
 replace Bx0 := Bx0.dn hE
 replace eBx0 := upE eBx0 hE
 replace g0 := g0.ob hE
 replace eg0 := upE eg0 hE
 replace Bg0 := Bg0.dn hE
 replace eBg0 := upE eBg0 hE
 replace h0 := h0.ob hE
 replace eh0 := upE eh0 hE
 replace Bh0 := Bh0.dn hE
 replace eBh0 := upE eBh0 hE
 replace hB := hB.th hE
 clear hE
 refine (laws_heldJson y _ 1 _ ((tJ (m + 1)).O_K g0.out) (by omega) (by omega)).mono ?_
 rintro e w45 ⟨rfl, hX⟩
 replace b0 := b0.dn hX
 replace eb0 := upE eb0 hX
 replace w0 := w0.ob hX
 replace ew0 := upE ew0 hX
 replace Bw0 := Bw0.dn hX
 replace eBw0 := upE eBw0 hX
 replace Bx0 := Bx0.dn hX
 replace eBx0 := upE eBx0 hX
 replace g0 := g0.ob hX
 replace eg0 := upE eg0 hX
 replace Bg0 := Bg0.dn hX
 replace eBg0 := upE eBg0 hX
 replace h0 := h0.ob hX
 replace eh0 := upE eh0 hX
 replace Bh0 := Bh0.dn hX
 replace eBh0 := upE eBh0 hX
 replace hB := hB.th hX
 clear hX
 obtain ⟨fb00, fb01, fb02, fb03, fb04, -⟩ := blk5 b0.out
 obtain ⟨fBw00, fBw01, fBw02, fBw03, fBw04, -⟩ := blk5 Bw0.out
 obtain ⟨fBx00, fBx01, fBx02, fBx03, fBx04, -⟩ := blk5 Bx0.out
 obtain ⟨fBg00, fBg01, fBg02, fBg03, fBg04, -⟩ := blk5 Bg0.out
 obtain ⟨fBh00, fBh01, fBh02, fBh03, fBh04, -⟩ := blk5 Bh0.out
 go_wp2_with fail
 clear fb00 fb01 fb02 fb03 fb04 fBw00 fBw01 fBw02 fBw03 fBw04 fBx00 fBx01 fBx02 fBx03 fBx04 fBg00 fBg01 fBg02 fBg03 fBg04 fBh00 fBh01 fBh02 fBh03 fBh04
 go_ret
 exact ⟨rfl, hB.out⟩
end Go.Proofs.YtegcecnjmimbiaaGreatDoor.X
namespace Go.Proofs.YtegcecnjmimbiaaGreatDoor.X
open Go.RowKit
set_option linter.unusedVariables false
set_option linter.unusedSimpArgs false
open Ty
def Opens {α : Type} (d : Ty α) (P : Program) (t : TypeId) (wf : α → Prop) (B : Nat) : Prop :=
 ∀ (H : Type) (enc : TypeId × Value → H) (W : World) (base : Nat) (spare : Nat → Bool) (held : Bool) (fuel : Nat) (_ : fuel ≤ B) (cs : List Value) (x : DataW H × List MemPlace),
  DataW.trod enc P W base spare held fuel t cs = some x → ∃ v : α, d.K W v cs ∧ wf v
section
variable {P : Program} {t e : TypeId} {B : Nat}
theorem opens_int (ht : P.underlying t = some (.int .i64)) : Opens int P t (fun n => -9223372036854775808 ≤ n ∧ n ≤ 9223372036854775807) B := by
 intro H enc W base spare held fuel hB cs x h
 obtain ⟨n, rfl, _, hw⟩ := DataW.trod_int ht h
 exact ⟨n, rfl, bounds_i64 hw⟩
theorem opens_bool (ht : P.underlying t = some .bool) : Opens Ty.bool P t (fun _ => True) B := by
 intro H enc W base spare held fuel hB cs x h
 obtain ⟨n, rfl, _⟩ := DataW.trod_bool ht h
 exact ⟨n, rfl, trivial⟩
theorem opens_str (ht : P.underlying t = some .string) : Opens str P t (fun s => s.size ≤ 9223372036854775807) B := by
 intro H enc W base spare held fuel hB cs x h
 obtain ⟨s, rfl, _, hs⟩ := DataW.trod_string ht h
 exact ⟨s, ⟨rfl, by simpa [maxLen] using hs⟩, by simpa [maxLen] using hs⟩
theorem opens_sl {α : Type} {d : Ty α} {wf : α → Prop} {e' : TypeId} (ht : P.underlying t = some (.slice e)) (hc : P.cellsOf e = d.sz) (ho : Opens d P e wf B) : Opens (sl e' d) P t (fun l => ∀ x ∈ l, wf x) B := by
 intro H enc W base spare held fuel hB cs x h
 rcases DataW.trod_slice ht h with ⟨rfl, _⟩ | ⟨a, len, cap, elems, rest, n, hfu, rfl, _, hb, hl, hm, hel, hx, _⟩
 ·exact ⟨[], ⟨none, 0, rfl, Nat.le_refl _, C_nil _⟩, by simp⟩
 ·have key : ∀ i, i < len → ∃ (v : α) (cs : List Value), d.K W v cs ∧ wf v ∧ ∀ j u, cs[j]? = some u → W.cell? (a.add (i * d.sz + j)) = some u := by
   intro i hi
   have h1 := hx i hi
   rw [List.getElem?_eq_getElem (by omega)] at h1
   obtain ⟨cs, h2, h3⟩ := Option.bind_eq_some_iff.1 h1
   obtain ⟨_, h4, h5⟩ := World.cells?_some h2
   obtain ⟨v, hk, hw⟩ := ho H enc W base spare held n (by omega) cs _ h3
   refine ⟨v, cs, hk, hw, fun j u hu => ?_⟩
   have hj : j < cs.length := (List.getElem?_eq_some_iff.1 hu).1
   rw [← hc, ← Addr.add_add, h5 j (by omega), hu]
  have hg : ∀ i x, (List.ofFn (fun i : Fin len => Classical.choose (key i i.2)))[i]? = some x → ∃ hi : i < len, x = Classical.choose (key i hi) := by
   intro i x hi
   rw [List.getElem?_ofFn] at hi
   split at hi
   ·rename_i h1; injection hi with hi; exact ⟨h1, hi.symm⟩
   ·cases hi
  have hll : (List.ofFn (fun i : Fin len => Classical.choose (key i i.2))).length = len := by simp
  refine ⟨List.ofFn (fun i : Fin len => Classical.choose (key i i.2)), ⟨some a, cap, by rw [hll], by rw [hll]; exact hl, by rw [hll]; simp only [maxLen] at hm; omega, fun i x hi => ?_⟩, fun x hx => ?_⟩
  ·obtain ⟨h1, rfl⟩ := hg i x hi
   obtain ⟨cs, hk, _, hcell⟩ := Classical.choose_spec (key i h1)
   exact ⟨a, cs, rfl, hk, hcell⟩
  ·obtain ⟨i, hi⟩ := List.mem_iff_getElem?.1 hx
   obtain ⟨h1, rfl⟩ := hg i x hi
   obtain ⟨cs, _, hw, _⟩ := Classical.choose_spec (key i h1)
   exact hw
theorem pr_split {α β : Type} {a : Ty α} {b : Ty β} {w : World} {x : α} {y : β} {cs : List Value} (k : Nat) (h1 : a.K w x (cs.take k)) (h2 : b.K w y (cs.drop k)) : (pr a b).K w (x, y) cs :=
 ⟨_, _, (List.take_append_drop k cs).symm, h1, h2⟩
theorem opens_fields {H : Type} {enc : TypeId × Value → H} {W : World} {base : Nat} {spare : Nat → Bool} {held : Bool} {fuel : Nat} {cs : List Value} {x : DataW H × List MemPlace} {fs : Array Field} (ht : P.underlying t = some (.struct fs)) (h : DataW.trod enc P W base spare held fuel t cs = some x) :
  cs.length = P.cellsOf t ∧ ∃ n, n < fuel ∧ ∀ (i : Nat) (f : Field), fs[i]? = some f → ∃ y, DataW.trod enc P W base spare held n f.type ((cs.drop f.offset).take (P.cellsOf f.type)) = some y := by
 obtain ⟨xs, n, hfu, _, hl, hxl, hf⟩ := DataW.trod_struct ht h
 refine ⟨hl, n, by omega, fun i f hi => ?_⟩
 have := hf i f hi
 rw [List.getElem?_eq_getElem (by rw [hxl]; exact (Array.getElem?_eq_some_iff.1 hi).1)] at this
 exact ⟨_, this⟩
end
open Go.RowKit
def I64 (n : Int) : Prop := -9223372036854775808 ≤ n ∧ n ≤ 9223372036854775807
theorem cells_int : Tryz.prog.cellsOf 3 = 1 := by kernel_rfl
theorem o_int (B : Nat) : Opens int Tryz.prog 3 (I64) B := opens_int Tryz.underlying3
theorem cells_bool : Tryz.prog.cellsOf 4 = 1 := by kernel_rfl
theorem o_bool (B : Nat) : Opens Ty.bool Tryz.prog 4 (fun _ => True) B := opens_bool Tryz.underlying4
theorem cells_str : Tryz.prog.cellsOf 9 = 1 := by kernel_rfl
theorem o_str (B : Nat) : Opens str Tryz.prog 9 (fun s => s.size ≤ 9223372036854775807) B := opens_str Tryz.underlying9
theorem cells_strs : Tryz.prog.cellsOf 23 = 1 := by kernel_rfl
theorem o_strs (B : Nat) : Opens (sl 9 str) Tryz.prog 23 (fun l => ∀ x ∈ l, x.size ≤ 9223372036854775807) B := opens_sl Tryz.underlying23 cells_str (o_str B)
theorem cells_Json : Tryz.prog.cellsOf 25 = 5 := by kernel_rfl
theorem cells_Jsons : Tryz.prog.cellsOf 22 = 1 := by kernel_rfl
theorem o_Json : ∀ (B : Nat), Opens (tJ (B + 1)) Tryz.prog 25 (fun _ => True) B
 | 0 => by
  intro H enc W base spare held fuel hB cs x h
  obtain rfl : fuel = 0 := by omega
  simp [DataW.trod] at h
 | B + 1 => by
  intro H enc W base spare held fuel hB cs x h
  obtain ⟨hl, n, hn, hf⟩ := opens_fields Tryz.underlying25 h
  rw [cells_Json] at hl
  obtain ⟨y0, h0⟩ := hf 0 _ rfl
  obtain ⟨y1, h1⟩ := hf 1 _ rfl
  obtain ⟨y2, h2⟩ := hf 2 _ rfl
  obtain ⟨y3, h3⟩ := hf 3 _ rfl
  obtain ⟨y4, h4⟩ := hf 4 _ rfl
  have h0 : DataW.trod enc Tryz.prog W base spare held n 3 ((cs.drop 0).take (Tryz.prog.cellsOf 3)) = some y0 := h0
  have h1 : DataW.trod enc Tryz.prog W base spare held n 3 ((cs.drop 1).take (Tryz.prog.cellsOf 3)) = some y1 := h1
  have h2 : DataW.trod enc Tryz.prog W base spare held n 9 ((cs.drop 2).take (Tryz.prog.cellsOf 9)) = some y2 := h2
  have h3 : DataW.trod enc Tryz.prog W base spare held n 22 ((cs.drop 3).take (Tryz.prog.cellsOf 22)) = some y3 := h3
  have h4 : DataW.trod enc Tryz.prog W base spare held n 23 ((cs.drop 4).take (Tryz.prog.cellsOf 23)) = some y4 := h4
  rw [cells_int] at h0 h1
  rw [cells_str] at h2
  rw [cells_Jsons] at h3
  rw [cells_strs] at h4
  obtain ⟨v0, k0, _⟩ := o_int (B + 1) H enc W base spare held n (by omega) _ _ h0
  obtain ⟨v1, k1, _⟩ := o_int (B + 1) H enc W base spare held n (by omega) _ _ h1
  obtain ⟨v2, k2, _⟩ := o_str (B + 1) H enc W base spare held n (by omega) _ _ h2
  obtain ⟨v3, k3, _⟩ := opens_sl (e' := 32) (d := tJ (B + 1)) Tryz.underlying22 (by rw [cells_Json, tJ_sz]) (o_Json B) H enc W base spare held n (by omega) _ _ h3
  obtain ⟨v4, k4, _⟩ := o_strs (B + 1) H enc W base spare held n (by omega) _ _ h4
  exact ⟨.mk v0 v1 v2 v3 v4, pr_split 1 (by simpa using k0) (pr_split 1 (by simpa using k1) (pr_split 1 (by simpa using k2) (pr_split 1 (by simpa using k3) (by rw [List.take_of_length_le (by simp; omega)] at k4; simpa using k4)))), trivial⟩
theorem cells_Op : Tryz.prog.cellsOf 27 = 7 := by kernel_rfl
theorem o_Op (B : Nat) : Opens (tOp (B + 1)) Tryz.prog 27 (fun _ => True) B := by
 intro H enc W base spare held fuel hB cs x h
 obtain ⟨hl, n, hn, hf⟩ := opens_fields Tryz.underlying27 h
 rw [cells_Op] at hl
 obtain ⟨y0, h0⟩ := hf 0 _ rfl
 obtain ⟨y1, h1⟩ := hf 1 _ rfl
 obtain ⟨y2, h2⟩ := hf 2 _ rfl
 have h0 : DataW.trod enc Tryz.prog W base spare held n 3 ((cs.drop 0).take (Tryz.prog.cellsOf 3)) = some y0 := h0
 have h1 : DataW.trod enc Tryz.prog W base spare held n 23 ((cs.drop 1).take (Tryz.prog.cellsOf 23)) = some y1 := h1
 have h2 : DataW.trod enc Tryz.prog W base spare held n 25 ((cs.drop 2).take (Tryz.prog.cellsOf 25)) = some y2 := h2
 rw [cells_int] at h0
 rw [cells_strs] at h1
 rw [cells_Json] at h2
 obtain ⟨v0, k0, _⟩ := o_int B H enc W base spare held n (by omega) _ _ h0
 obtain ⟨v1, k1, _⟩ := o_strs B H enc W base spare held n (by omega) _ _ h1
 obtain ⟨v2, k2, _⟩ := o_Json B H enc W base spare held n (by omega) _ _ h2
 exact ⟨⟨v0, v1, v2⟩, pr_split 1 (by simpa using k0) (pr_split 1 (by simpa using k1) (by rw [List.take_of_length_le (by simp; omega)] at k2; simpa using k2)), trivial⟩
theorem o_Ops (B : Nat) : Opens (sl 37 (tOp (B + 1))) Tryz.prog 44 (fun _ => True) B := fun H enc W base spare held fuel hB cs x h => let ⟨v, k, _⟩ := opens_sl (e' := 37) Tryz.underlying44 cells_Op (o_Op B) H enc W base spare held fuel hB cs x h; ⟨v, k, trivial⟩
/-! The program's head says 'cut': read off its first word alone (the kernel doesn't walk the whole text of the head). -/
theorem cut_of {P : Program} (l : List Char) (h : P.initOrder = String.ofList l) (h2 : ((behindMainWord (wordsSigns l)).head? == some "cut".toList) = true) : ∃ rest, behindMainWord (wordsSigns P.initOrder.toList) = "cut".toList :: rest := by
 rw [h, String.toList_ofList]
 cases hb : behindMainWord (wordsSigns l) with
 | nil => rw [hb] at h2; cases h2
 | cons c r =>
  rw [hb] at h2
  have : c = "cut".toList := by simpa using h2
  exact ⟨r, by rw [this]⟩
theorem make_cut {P : Program} (h : ∃ rest, behindMainWord (wordsSigns P.initOrder.toList) = "cut".toList :: rest) : P.make = some .cut := by
 obtain ⟨r, h⟩ := h
 unfold Program.make
 rw [h]
 rfl
theorem lifts_cut {P : Program} (h : ∃ rest, behindMainWord (wordsSigns P.initOrder.toList) = "cut".toList :: rest) : P.headLifts = [] := by
 obtain ⟨r, h⟩ := h
 unfold Program.headLifts
 rw [h]
 rfl
theorem final_cut {P : Program} (h : ∃ rest, behindMainWord (wordsSigns P.initOrder.toList) = "cut".toList :: rest) : P.liftsFinal = false := by
 have h1 := lifts_cut h
 obtain ⟨r, h⟩ := h
 unfold Program.liftsFinal
 rw [h1, h]
 rfl
theorem enter_cut {P : Program} (h : ∃ rest, behindMainWord (wordsSigns P.initOrder.toList) = "cut".toList :: rest) (h2 : (!P.laysLater && !P.bearsReflect && P.doorFits []) = true) : P.mayEnter = true := by
 obtain ⟨r, h⟩ := h
 simp only [Bool.and_eq_true] at h2
 unfold Program.mayEnter
 rw [h]
 have e : stripLifts liftWords ("cut".toList :: r) = ([], "cut".toList :: r) := rfl
 simp only [e, h2.1.1, h2.1.2, h2.2]
 rfl
set_option maxRecDepth 100000 in
theorem head_cut : ∃ rest, behindMainWord (wordsSigns Tryz.prog.initOrder.toList) = "cut".toList :: rest := cut_of _ rfl (by kernel_rfl)
theorem enter_ : Tryz.prog.mayEnter = true := enter_cut head_cut (by kernel_rfl)
theorem final_ : (false == Tryz.prog.liftsFinal) = true := by rw [final_cut head_cut]; rfl
theorem make_ : (Tryz.prog.make == some .cut) = true := by rw [make_cut head_cut]; rfl
theorem andB {a b : Bool} (ha : a = true) (hb : b = true) : (a && b) = true := by rw [ha, hb]; rfl
end Go.Proofs.YtegcecnjmimbiaaGreatDoor.X
