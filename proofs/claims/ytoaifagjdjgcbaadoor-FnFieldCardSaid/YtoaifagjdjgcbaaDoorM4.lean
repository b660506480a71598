/- What is proved here: lemmas about the functions that the statement reaches, and what they compute (part 4). Conditions: none. -/
import Derived.Test.YtoaifagjdjgcbaaDoorM3
import Derived.Test.YtoaifagjdjgcbaaDoorM1
import Derived.Test.YtoaifagjdjgcbaaDoorProg
import Derived.ProofKit
import Derived.OpenShut
namespace Go.Proofs.YtoaifagjdjgcbaaDoor.X
open Go.RowKit Go.Sort
set_option linter.unusedVariables false
set_option linter.unusedSimpArgs false
open Ty
theorem own_num (n : Int) : ownB ⟨2, n, ⟨#[]⟩, [], []⟩ = decide (-1000000000 ≤ n ∧ n ≤ 1000000000) := by
 have h1 : ownB ⟨2, n, ⟨#[]⟩, [], []⟩ = isNumB n := by unfold ownB; simp [ByteArray.toList_eq]
 rw [h1]
 unfold isNumB inB
 rw [Bool.eq_iff_iff]
 simp only [Bool.and_eq_true, decide_eq_true_eq]
theorem num_ok (n : Int) : jsonOk ⟨2, n, ⟨#[]⟩, [], []⟩ = decide (-1000000000 ≤ n ∧ n ≤ 1000000000) := by
 have h0 := own_num n
 have hs : sizeN 6 ⟨2, n, ⟨#[]⟩, [], []⟩ = if ownB ⟨2, n, ⟨#[]⟩, [], []⟩ = true ∧ 1 + sumZ (sizeN 5) ([] : List J) ≤ 400 then 1 + sumZ (sizeN 5) ([] : List J) else 401 := rfl
 by_cases h : -1000000000 ≤ n ∧ n ≤ 1000000000
 ·rw [decide_eq_true h] at h0 ⊢
  refine decide_eq_true (p := sizeN 6 ⟨2, n, ⟨#[]⟩, [], []⟩ ≤ 400) ?_
  rw [hs, if_pos ⟨h0, by decide⟩]; decide
 ·rw [decide_eq_false h] at h0 ⊢
  refine decide_eq_false (p := sizeN 6 ⟨2, n, ⟨#[]⟩, [], []⟩ ≤ 400) ?_
  rw [hs, if_neg (fun h2 => by rw [h0] at h2; cases h2.1)]; decide
theorem num_yes {n : Int} (h : -1000000000 ≤ n ∧ n ≤ 1000000000) : numOf n = ⟨2, n, ⟨#[]⟩, [], []⟩ := by
 unfold numOf
 exact if_pos ((num_ok n).trans (decide_eq_true h))
theorem num_no {n : Int} (h : ¬ (-1000000000 ≤ n ∧ n ≤ 1000000000)) : numOf n = ⟨0, 0, ⟨#[]⟩, [], []⟩ := by
 unfold numOf
 exact if_neg (fun h2 => by have h3 := h2.symm.trans (num_ok n); rw [decide_eq_false h] at h3; cases h3)
theorem text_yes {t : ByteArray} (h : jsonOk ⟨3, 0, t, [], []⟩ = true) : textOf t = ⟨3, 0, t, [], []⟩ := by
 unfold textOf
 exact if_pos h
theorem text_no {t : ByteArray} (h : jsonOk ⟨3, 0, t, [], []⟩ = false) : textOf t = ⟨0, 0, ⟨#[]⟩, [], []⟩ := by
 unfold textOf
 exact if_neg (by rw [h]; decide)
set_option maxHeartbeats 16000000 in
set_option maxRecDepth 100000 in
theorem laws_FnField {w : World} (A0 : Option Addr) (c0 : Nat) (bs : List Int) (hv0 : bs.length ≤ c0) (hk0 : u8.C w A0 bs) (hT : EnvT w) (hE : EnvE w) :
  Calls Tryd.prog 3 #[.slice A0 bs.length c0] w fun e w' => e = .returned (.bool true) ∧ Below w.heap.size w w' := by
 have hm := hk0.1
 have HBS := Hd.mk hk0; clear hk0
 have HT := Hd.mk hT; have HE := Hd.mk hE; clear hT hE
 have hB := Hd.mk (Below.refl w.heap.size w)
 go_enter Tryd.func3, Tryd.ntmps3
 go_wp2_with fail
 refine (laws_big _ _ bs w hm).mono ?_
 rintro e w1 ⟨rfl, rfl⟩
 by_cases hbig : (1048576 : Int) < bs.length
 ·have hbb : decide ((1048576 : Int) < bs.length) = true := decide_eq_true hbig
  rw [hbb]
  go_wp2_with fail
  go_ret
  exact ⟨rfl, Below.refl _ _⟩
 have hbb : decide ((1048576 : Int) < bs.length) = false := decide_eq_false hbig
 rw [hbb]
 have hbs : bs.length ≤ 1048576 := by omega
 clear hbig hbb
 go_wp2_with fail
 refine (spec_DrawField _ _ bs _ (C_below HBS.out hB.out) hbs).mono ?_
 rintro e w1 ⟨j, s, cs, rfl, hK, hBJ, hs6, hX⟩
 have hB := hB.th hX
 have hz_ := hX.size
 clear hX
 have z1 := Hd.mk hz_; clear hz_
 obtain ⟨A3, c3, A4, c4, rfl, _⟩ := tJ_K.1 hK
 have HK := Hd.mk hK; clear hK
 have h1B := Hd.mk (Below.refl w1.heap.size w1)
 have hb9 : bulkJ (8 + 1) j ≤ 30000 := hBJ 9
 clear hBJ
 obtain ⟨ok, hok⟩ : ∃ z, z = hasField j s := ⟨_, rfl⟩
 have HOK := Hd.mk hok; clear hok
 obtain ⟨f, hf⟩ : ∃ z, z = field j s := ⟨_, rfl⟩
 have HF := Hd.mk hf; clear hf
 go_wp2_with fail
 apply calls_gen; intro W2 hW
 have hz_ : w1.heap.size + 1 ≤ W2.heap.size := by rw [hW]; simp
 have hE : Below w1.heap.size w1 W2 := by rw [hW]; (repeat (first | with_reducible refine below_alloc ?_ _ | with_reducible refine below_drew ?_)); exact Below.refl _ _
 have hB := hB.th hE
 have h1B := Hd.mk (below_then h1B.out hE)
 have b0 := Hd.mk (show Blk W2 (w1.heap.size) #[.int .i64 j.kind, .int .i64 j.n, .string j.s, .slice A3 j.list.length c3, .slice A4 j.names.length c4] 27 by rw [hW]; first | exact (Blk.new _ _ _) | (simpa using (Blk.new _ _ _)))
 clear hW hE
 have z2 := Hd.mk hz_; clear hz_
 refine (impl_Field (m := 8) j _ s _ (Ty.K_below _ h1B.out HK.out) (by omega)).mono ?_
 rintro e w3 ⟨cf, rfl, hO, hX⟩
 have b0 := b0.dn hX
 have hB := hB.th hX
 have hz_ := hX.size
 have h1B := Hd.mk (below_then h1B.out hX)
 clear hX
 have z3 := Hd.mk hz_; clear hz_
 rw [← HF.out] at hO
 rw [← HOK.out]
 obtain ⟨fv3, fv4, _, _, rfl, _, fr3, fr4, _⟩ := tJ_O.1 hO
 obtain ⟨fD3, fd3, rfl, _, _⟩ := R_C fr3
 obtain ⟨fD4, fd4, rfl, _, _⟩ := R_C fr4
 clear fr3 fr4
 replace hO := Hd.mk (show (tJ 9).O w3 (rng W2.heap.size w3.heap.size) f _ from Ty.O_bound _ hO)
 obtain ⟨v00, v01, v02, v03, v04, v0z⟩ := blk5 b0.out
 have lfb0_0 := fun o => cell_below (below_alloc (Below.refl _ _) o) v00
 have lfb0_1 := fun o => cell_below (below_alloc (Below.refl _ _) o) v01
 have lfb0_2 := fun o => cell_below (below_alloc (Below.refl _ _) o) v02
 have lfb0_3 := fun o => cell_below (below_alloc (Below.refl _ _) o) v03
 have lfb0_4 := fun o => cell_below (below_alloc (Below.refl _ _) o) v04
 go_wp2_with fail
 clear lfb0_0 lfb0_1 lfb0_2 lfb0_3 lfb0_4
 clear v00 v01 v02 v03 v04 v0z
 apply calls_gen; intro W4 hW
 have hz_ : w3.heap.size + 1 ≤ W4.heap.size := by rw [hW]; simp
 have hE : Below w3.heap.size w3 W4 := by rw [hW]; (repeat (first | with_reducible refine below_alloc ?_ _ | with_reducible refine below_drew ?_)); exact Below.refl _ _
 have hB := hB.th hE
 have h1B := Hd.mk (below_then h1B.out hE)
 have b0 := b0.dn hE
 have b1 := Hd.mk (show Blk W4 (w3.heap.size) #[.int .i64 f.kind, .int .i64 f.n, .string f.s, .slice fD3 f.list.length fd3, .slice fD4 f.names.length fd4] 27 by rw [hW]; first | exact (Blk.new _ _ _) | (simpa using (Blk.new _ _ _)))
 have hO := hO.ob hE
 clear hW hE
 have z4 := Hd.mk hz_; clear hz_
 refine (spec_Field (m := 8) j _ s _ (Ty.K_below _ h1B.out HK.out) (by omega)).mono ?_
 rintro e w5 ⟨cg, rfl, hO2, hX⟩
 have b0 := b0.dn hX
 have b1 := b1.dn hX
 have hO := hO.ob hX
 have hB := hB.th hX
 have hz_ := hX.size
 have h1B := Hd.mk (below_then h1B.out hX)
 clear hX
 have z5 := Hd.mk hz_; clear hz_
 rw [← HF.out] at hO2
 rw [← HOK.out]
 obtain ⟨qv3, qv4, _, _, rfl, _, qr3, qr4, _⟩ := tJ_O.1 hO2
 obtain ⟨qD3, qd3, rfl, _, _⟩ := R_C qr3
 obtain ⟨qD4, qd4, rfl, _, _⟩ := R_C qr4
 clear qr3 qr4
 clear hO2
 have hoo : (ok != ok) = false := by cases ok <;> rfl
 obtain ⟨v00, v01, v02, v03, v04, v0z⟩ := blk5 b0.out
 obtain ⟨v10, v11, v12, v13, v14, v1z⟩ := blk5 b1.out
 have lfb0_0 := fun o => cell_below (below_alloc (Below.refl _ _) o) v00
 have lfb0_1 := fun o => cell_below (below_alloc (Below.refl _ _) o) v01
 have lfb0_2 := fun o => cell_below (below_alloc (Below.refl _ _) o) v02
 have lfb0_3 := fun o => cell_below (below_alloc (Below.refl _ _) o) v03
 have lfb0_4 := fun o => cell_below (below_alloc (Below.refl _ _) o) v04
 have lfb1_0 := fun o => cell_below (below_alloc (Below.refl _ _) o) v10
 have lfb1_1 := fun o => cell_below (below_alloc (Below.refl _ _) o) v11
 have lfb1_2 := fun o => cell_below (below_alloc (Below.refl _ _) o) v12
 have lfb1_3 := fun o => cell_below (below_alloc (Below.refl _ _) o) v13
 have lfb1_4 := fun o => cell_below (below_alloc (Below.refl _ _) o) v14
 go_wp2_with fail
 clear lfb0_0 lfb0_1 lfb0_2 lfb0_3 lfb0_4 lfb1_0 lfb1_1 lfb1_2 lfb1_3 lfb1_4
 clear v00 v01 v02 v03 v04 v0z v10 v11 v12 v13 v14 v1z
 apply calls_gen; intro WG hW
 have hE0 := Hd.mk (show str.R 9 WG (fun k => k = w5.heap.size + 1) (.slice (some ⟨w5.heap.size + 1, 0, none⟩) 1 1) [s] by rw [hW]; have h1 := R_str1 (W0 := w5.alloc (.cells #[.int .i64 f.kind, .int .i64 f.n, .string f.s, .slice qD3 f.list.length qd3, .slice qD4 f.names.length qd4] 27)) s (by omega); simpa using h1)
 have hz_ : w5.heap.size + 2 ≤ WG.heap.size := by rw [hW]; simp
 have hE : Below w5.heap.size w5 WG := by rw [hW]; (repeat (first | with_reducible refine below_alloc ?_ _ | with_reducible refine below_drew ?_)); exact Below.refl _ _
 have hB := hB.th hE
 have h1B := Hd.mk (below_then h1B.out hE)
 have b0 := b0.dn hE
 have b1 := b1.dn hE
 have b2 := Hd.mk (show Blk WG (w5.heap.size) #[.int .i64 f.kind, .int .i64 f.n, .string f.s, .slice qD3 f.list.length qd3, .slice qD4 f.names.length qd4] 27 by rw [hW]; first | exact ((Blk.new _ _ _).alloc _) | (simpa using ((Blk.new _ _ _).alloc _)))
 have hO := hO.ob hE
 clear hW hE
 have z6 := Hd.mk hz_; clear hz_
 refine (impl_Get (m := 8) j _ _ _ [s] _ (Ty.K_below _ h1B.out HK.out) (R_Cv hE0.out) (by omega) (by simp only [bulkStringS, bulkL, List.length_cons, List.length_nil]; omega) (envT_mv hB.out HT.out) (envE_mv hB.out HE.out)).mono ?_
 rintro e w6 ⟨cp, rfl, hP, hX⟩
 have b0 := b0.dn hX
 have b1 := b1.dn hX
 have b2 := b2.dn hX
 have hO := hO.ob hX
 have hB := hB.th hX
 have hz_ := hX.size
 have h1B := Hd.mk (below_then h1B.out hX)
 clear hX
 have z7 := Hd.mk hz_; clear hz_
 obtain ⟨p, hp⟩ : ∃ z, z = getJ j [s] := ⟨_, rfl⟩
 rw [← hp] at hP
 have HP := Hd.mk hp; clear hp
 obtain ⟨fine, hfi⟩ : ∃ z, z = getB j [s] := ⟨_, rfl⟩
 rw [← hfi]
 have HFI := Hd.mk hfi; clear hfi hE0
 obtain ⟨pv3, pv4, _, _, rfl, _, pr3, pr4, _⟩ := tJ_O.1 hP
 obtain ⟨pD3, pd3, rfl, _, _⟩ := R_C pr3
 obtain ⟨pD4, pd4, rfl, _, _⟩ := R_C pr4
 clear pr3 pr4
 replace hP := Hd.mk (show (tJ 9).O w6 (rng WG.heap.size w6.heap.size) p _ from Ty.O_bound _ hP)
 cases ok
 ·have hf0 : f.kind = 0 := by rw [HF.out]; exact field_no HOK.out.symm
  rw [hf0] at b1
  clear hf0
  obtain ⟨v00, v01, v02, v03, v04, v0z⟩ := blk5 b0.out
  obtain ⟨v10, v11, v12, v13, v14, v1z⟩ := blk5 b1.out
  obtain ⟨v20, v21, v22, v23, v24, v2z⟩ := blk5 b2.out
  have lfb0_0 := fun o => cell_below (below_alloc (Below.refl _ _) o) v00
  have lfb0_1 := fun o => cell_below (below_alloc (Below.refl _ _) o) v01
  have lfb0_2 := fun o => cell_below (below_alloc (Below.refl _ _) o) v02
  have lfb0_3 := fun o => cell_below (below_alloc (Below.refl _ _) o) v03
  have lfb0_4 := fun o => cell_below (below_alloc (Below.refl _ _) o) v04
  have lfb1_0 := fun o => cell_below (below_alloc (Below.refl _ _) o) v10
  have lfb1_1 := fun o => cell_below (below_alloc (Below.refl _ _) o) v11
  have lfb1_2 := fun o => cell_below (below_alloc (Below.refl _ _) o) v12
  have lfb1_3 := fun o => cell_below (below_alloc (Below.refl _ _) o) v13
  have lfb1_4 := fun o => cell_below (below_alloc (Below.refl _ _) o) v14
  have lfb2_0 := fun o => cell_below (below_alloc (Below.refl _ _) o) v20
  have lfb2_1 := fun o => cell_below (below_alloc (Below.refl _ _) o) v21
  have lfb2_2 := fun o => cell_below (below_alloc (Below.refl _ _) o) v22
  have lfb2_3 := fun o => cell_below (below_alloc (Below.refl _ _) o) v23
  have lfb2_4 := fun o => cell_below (below_alloc (Below.refl _ _) o) v24
  go_wp2_with fail
  clear lfb0_0 lfb0_1 lfb0_2 lfb0_3 lfb0_4 lfb1_0 lfb1_1 lfb1_2 lfb1_3 lfb1_4 lfb2_0 lfb2_1 lfb2_2 lfb2_3 lfb2_4
  clear v00 v01 v02 v03 v04 v0z v10 v11 v12 v13 v14 v1z v20 v21 v22 v23 v24 v2z
  apply calls_gen; intro W7 hW
  have hz_ : w6.heap.size + 1 ≤ W7.heap.size := by rw [hW]; simp
  have hE : Below w6.heap.size w6 W7 := by rw [hW]; (repeat (first | with_reducible refine below_alloc ?_ _ | with_reducible refine below_drew ?_)); exact Below.refl _ _
  have hB := hB.th hE
  have h1B := Hd.mk (below_then h1B.out hE)
  have b0 := b0.dn hE
  have b1 := b1.dn hE
  have b2 := b2.dn hE
  have b9 := Hd.mk (show Blk W7 (w6.heap.size) #[.int .i64 p.kind, .int .i64 p.n, .string p.s, .slice pD3 p.list.length pd3, .slice pD4 p.names.length pd4] 27 by rw [hW]; first | exact (Blk.new _ _ _) | (simpa using (Blk.new _ _ _)))
  have hO := hO.ob hE
  have hP := hP.ob hE
  clear hW hE
  have z8 := Hd.mk hz_; clear hz_
  clear b9
  refine (spec_DrawNumOf _ _ bs _ (C_below HBS.out hB.out) hbs).mono ?_
  rintro e w8 ⟨n, rfl, hX⟩
  have b0 := b0.dn hX
  have b1 := b1.dn hX
  have b2 := b2.dn hX
  have hO := hO.ob hX
  have hP := hP.ob hX
  have hB := hB.th hX
  have hz_ := hX.size
  have h1B := Hd.mk (below_then h1B.out hX)
  clear hX
  have z9 := Hd.mk hz_; clear hz_
  obtain ⟨v00, v01, v02, v03, v04, v0z⟩ := blk5 b0.out
  obtain ⟨v10, v11, v12, v13, v14, v1z⟩ := blk5 b1.out
  obtain ⟨v20, v21, v22, v23, v24, v2z⟩ := blk5 b2.out
  go_wp2_with fail
  clear v00 v01 v02 v03 v04 v0z v10 v11 v12 v13 v14 v1z v20 v21 v22 v23 v24 v2z
  refine (spec_DrawTextOf _ _ bs _ (C_below HBS.out hB.out) hbs).mono ?_
  rintro e w9 ⟨t, rfl, ht, hX⟩
  have b0 := b0.dn hX
  have b1 := b1.dn hX
  have b2 := b2.dn hX
  have hO := hO.ob hX
  have hP := hP.ob hX
  have hB := hB.th hX
  have hz_ := hX.size
  have h1B := Hd.mk (below_then h1B.out hX)
  clear hX
  have z10 := Hd.mk hz_; clear hz_
  clear b0 b2 hO hP
  obtain ⟨v10, v11, v12, v13, v14, v1z⟩ := blk5 b1.out
  go_wp2_with fail
  clear v10 v11 v12 v13 v14 v1z
  refine (impl_NumOf 0 n _).mono ?_
  rintro e w10 ⟨cn, rfl, hN, hX⟩
  have b1 := b1.dn hX
  have hB := hB.th hX
  have hz_ := hX.size
  have h1B := Hd.mk (below_then h1B.out hX)
  clear hX
  have z11 := Hd.mk hz_; clear hz_
  by_cases hn : -1000000000 ≤ n ∧ n ≤ 1000000000
  ·rw [num_yes hn] at hN
   obtain ⟨hn1, hn2⟩ := hn
   obtain ⟨nv3, nv4, _, _, rfl, _, nr3, nr4, _⟩ := tJ_O.1 hN
   obtain ⟨nD3, nd3, rfl, _, _⟩ := R_C nr3
   obtain ⟨nD4, nd4, rfl, _, _⟩ := R_C nr4
   clear nr3 nr4 hN
   simp only [J.kind_mk, J.n_mk, J.s_mk, J.list_mk, J.names_mk, List.length_nil]
   obtain ⟨v10, v11, v12, v13, v14, v1z⟩ := blk5 b1.out
   go_wp2_with fail
   clear v10 v11 v12 v13 v14 v1z
   refine (impl_TextOf 0 t (by omega) _).mono ?_
   rintro e w11 ⟨ct, rfl, hU, hX⟩
   have b1 := b1.dn hX
   have hB := hB.th hX
   have hz_ := hX.size
   have h1B := Hd.mk (below_then h1B.out hX)
   clear hX
   have z12 := Hd.mk hz_; clear hz_
   obtain ⟨okt, hokt⟩ : ∃ z, z = jsonOk ⟨3, 0, t, [], []⟩ := ⟨_, rfl⟩
   have HOT := Hd.mk hokt
   cases okt
   ·rw [text_no HOT.out.symm] at hU
    clear hokt
    obtain ⟨tv3, tv4, _, _, rfl, _, tr3, tr4, _⟩ := tJ_O.1 hU
    obtain ⟨tD3, td3, rfl, _, _⟩ := R_C tr3
    obtain ⟨tD4, td4, rfl, _, _⟩ := R_C tr4
    clear tr3 tr4 hU
    simp only [J.kind_mk, J.n_mk, J.s_mk, J.list_mk, J.names_mk, List.length_nil]
    obtain ⟨v10, v11, v12, v13, v14, v1z⟩ := blk5 b1.out
    go_wp2_with fail
    clear v10 v11 v12 v13 v14 v1z
    apply wp_gen; intro WX hW
    have hz_ : w11.heap.size + 2 ≤ WX.heap.size := by rw [hW]; simp
    have hE : Below w11.heap.size w11 WX := by rw [hW]; (repeat (first | with_reducible refine below_alloc ?_ _ | with_reducible refine below_drew ?_)); exact Below.refl _ _
    have hB := hB.th hE
    have h1B := Hd.mk (below_then h1B.out hE)
    have b1 := b1.dn hE
    have b3 := Hd.mk (show Blk WX (w11.heap.size) #[.int .i64 2, .int .i64 n, .string ⟨#[]⟩, .slice nD3 0 nd3, .slice nD4 0 nd4] 27 by rw [hW]; first | exact ((Blk.new _ _ _).alloc _) | (simpa using ((Blk.new _ _ _).alloc _)))
    have b4 := Hd.mk (show Blk WX (w11.heap.size + 1) #[.int .i64 0, .int .i64 0, .string ⟨#[]⟩, .slice tD3 0 td3, .slice tD4 0 td4] 27 by rw [hW]; first | exact (Blk.new1 _ _ _ _) | (simpa using (Blk.new1 _ _ _ _)))
    clear hW hE
    have z13 := Hd.mk hz_; clear hz_
    obtain ⟨v10, v11, v12, v13, v14, v1z⟩ := blk5 b1.out
    obtain ⟨v30, v31, v32, v33, v34, v3z⟩ := blk5 b3.out
    obtain ⟨v40, v41, v42, v43, v44, v4z⟩ := blk5 b4.out
    obtain ⟨rv10, rv11, rv12, rv13, rv14⟩ := reg5 v10 v11 v12 v13 v14
    obtain ⟨rv30, rv31, rv32, rv33, rv34⟩ := reg5 v30 v31 v32 v33 v34
    obtain ⟨rv40, rv41, rv42, rv43, rv44⟩ := reg5 v40 v41 v42 v43 v44
    refine region_mix [(true, 0), (true, 1), (true, 2), (true, 3), (true, 4), (true, 5), (true, 6), (true, 7), (true, 8), (true, 9), (true, 10), (true, 11), (true, 12), (true, 13), (true, 14), (true, 15), (true, 16), (true, 17), (true, 18), (true, 19), (true, 20), (true, 21), (true, 22), (true, 23), (true, 24), (true, 25), (true, 26), (true, 27), (true, 28), (true, 29), (true, 30), (true, 31), (true, 32), (true, 33), (true, 34), (false, 35), (false, 36), (true, 37), (true, 38), (true, 39)] (by kernel_rfl) (by kernel_rfl) (fun _ _ _ _ _ h => h) ?_
    (repeat (first | (refine mix_z rfl (by rfl) ?_; go_big_quiet_skip; refine wpQuiet_nil ?_) | (refine mix_q rfl ?_; first | (go_big_quiet_skip; refine wpQuiet_nil ?_) | (go_big_quiet_want; go_big_quiet_op; go_big_quiet_on; refine wpQuiet_nil ?_))))
    have hS := Hd.mk (Below.refl WX.heap.size WX)
    refine mix_b rfl ?_ (by rfl)
    go_wp2_with fail
    refine mixQ_n ⟨cls_below (below_drew (Below.refl _ _)), ?_⟩
    (repeat (first | (refine mix_z rfl (by rfl) ?_; go_big_quiet_skip; refine wpQuiet_nil ?_) | (refine mix_q rfl ?_; first | (go_big_quiet_skip; refine wpQuiet_nil ?_) | (go_big_quiet_want; go_big_quiet_op; go_big_quiet_on; refine wpQuiet_nil ?_))))
    refine mix_b rfl ?_ (by rfl)
    go_wp2_with fail
    clear v10 v11 v12 v13 v14 v1z v30 v31 v32 v33 v34 v3z v40 v41 v42 v43 v44 v4z
    apply calls_gen; intro W12 hW
    have hz_ : WX.heap.size ≤ W12.heap.size := by rw [hW]; simp
    have hE : Below WX.heap.size WX W12 := by rw [hW]; (repeat (first | with_reducible refine below_alloc ?_ _ | with_reducible refine below_drew ?_)); exact Below.refl _ _
    have hB := hB.th hE
    have h1B := Hd.mk (below_then h1B.out hE)
    replace hS := Hd.mk (below_then hS.out hE)
    have b1 := b1.dn hE
    have b3 := b3.dn hE
    have b4 := b4.dn hE
    clear hW hE
    have z14 := Hd.mk hz_; clear hz_
    have hKT : (tJ 1).K W12 ⟨3, 0, t, [], []⟩ [.int .i64 3, .int .i64 0, .string t, .slice none 0 0, .slice none 0 0] := tJ_K.2 ⟨none, 0, none, 0, rfl, by show t.size ≤ _; omega, ⟨Nat.le_refl _, C_nil _⟩, Nat.le_refl _, C_nil _⟩
    refine (impl_JsonOk (m := 0) ⟨3, 0, t, [], []⟩ _ _ hKT).mono ?_
    rintro e w13 ⟨rfl, hX⟩
    have b1 := b1.dn hX
    have b3 := b3.dn hX
    have b4 := b4.dn hX
    have hB := hB.th hX
    replace hS := Hd.mk (below_then hS.out hX)
    have hz_ := hX.size
    have h1B := Hd.mk (below_then h1B.out hX)
    clear hX
    have z15 := Hd.mk hz_; clear hz_
    rw [← HOT.out]
    clear hKT
    go_wp2_with fail
    refine ⟨cls_below hS.out, ?_⟩
    (repeat (first | (refine mix_z rfl (by rfl) ?_; go_big_quiet_skip; refine wpQuiet_nil ?_) | (refine mix_q rfl ?_; first | (go_big_quiet_skip; refine wpQuiet_nil ?_) | (go_big_quiet_want; go_big_quiet_op; go_big_quiet_on; refine wpQuiet_nil ?_))))
    refine mix_nil ?_
    clear hS rv10 rv11 rv12 rv13 rv14 rv30 rv31 rv32 rv33 rv34 rv40 rv41 rv42 rv43 rv44
    go_wp2_with fail
    go_ret
    exact ⟨by rfl, hB.out⟩
   ·rw [text_yes HOT.out.symm] at hU
    clear hokt
    obtain ⟨tv3, tv4, _, _, rfl, _, tr3, tr4, _⟩ := tJ_O.1 hU
    obtain ⟨tD3, td3, rfl, _, _⟩ := R_C tr3
    obtain ⟨tD4, td4, rfl, _, _⟩ := R_C tr4
    clear tr3 tr4 hU
    simp only [J.kind_mk, J.n_mk, J.s_mk, J.list_mk, J.names_mk, List.length_nil]
    obtain ⟨v10, v11, v12, v13, v14, v1z⟩ := blk5 b1.out
    go_wp2_with fail
    clear v10 v11 v12 v13 v14 v1z
    apply wp_gen; intro WX hW
    have hz_ : w11.heap.size + 2 ≤ WX.heap.size := by rw [hW]; simp
    have hE : Below w11.heap.size w11 WX := by rw [hW]; (repeat (first | with_reducible refine below_alloc ?_ _ | with_reducible refine below_drew ?_)); exact Below.refl _ _
    have hB := hB.th hE
    have h1B := Hd.mk (below_then h1B.out hE)
    have b1 := b1.dn hE
    have b3 := Hd.mk (show Blk WX (w11.heap.size) #[.int .i64 2, .int .i64 n, .string ⟨#[]⟩, .slice nD3 0 nd3, .slice nD4 0 nd4] 27 by rw [hW]; first | exact ((Blk.new _ _ _).alloc _) | (simpa using ((Blk.new _ _ _).alloc _)))
    have b4 := Hd.mk (show Blk WX (w11.heap.size + 1) #[.int .i64 3, .int .i64 0, .string t, .slice tD3 0 td3, .slice tD4 0 td4] 27 by rw [hW]; first | exact (Blk.new1 _ _ _ _) | (simpa using (Blk.new1 _ _ _ _)))
    clear hW hE
    have z13 := Hd.mk hz_; clear hz_
    obtain ⟨v10, v11, v12, v13, v14, v1z⟩ := blk5 b1.out
    obtain ⟨v30, v31, v32, v33, v34, v3z⟩ := blk5 b3.out
    obtain ⟨v40, v41, v42, v43, v44, v4z⟩ := blk5 b4.out
    obtain ⟨rv10, rv11, rv12, rv13, rv14⟩ := reg5 v10 v11 v12 v13 v14
    obtain ⟨rv30, rv31, rv32, rv33, rv34⟩ := reg5 v30 v31 v32 v33 v34
    obtain ⟨rv40, rv41, rv42, rv43, rv44⟩ := reg5 v40 v41 v42 v43 v44
    refine region_mix [(true, 0), (true, 1), (true, 2), (true, 3), (true, 4), (true, 5), (true, 6), (true, 7), (true, 8), (true, 9), (true, 10), (true, 11), (true, 12), (true, 13), (true, 14), (true, 15), (true, 16), (true, 17), (true, 18), (true, 19), (true, 20), (true, 21), (true, 22), (true, 23), (true, 24), (true, 25), (true, 26), (true, 27), (true, 28), (true, 29), (true, 30), (true, 31), (true, 32), (true, 33), (true, 34), (false, 35), (false, 36), (true, 37), (true, 38), (true, 39)] (by kernel_rfl) (by kernel_rfl) (fun _ _ _ _ _ h => h) ?_
    (repeat (first | (refine mix_z rfl (by rfl) ?_; go_big_quiet_skip; refine wpQuiet_nil ?_) | (refine mix_q rfl ?_; first | (go_big_quiet_skip; refine wpQuiet_nil ?_) | (go_big_quiet_want; go_big_quiet_op; go_big_quiet_on; refine wpQuiet_nil ?_))))
    have hS := Hd.mk (Below.refl WX.heap.size WX)
    refine mix_b rfl ?_ (by rfl)
    go_wp2_with fail
    refine mixQ_n ⟨cls_below (below_drew (Below.refl _ _)), ?_⟩
    (repeat (first | (refine mix_z rfl (by rfl) ?_; go_big_quiet_skip; refine wpQuiet_nil ?_) | (refine mix_q rfl ?_; first | (go_big_quiet_skip; refine wpQuiet_nil ?_) | (go_big_quiet_want; go_big_quiet_op; go_big_quiet_on; refine wpQuiet_nil ?_))))
    refine mix_b rfl ?_ (by rfl)
    go_wp2_with fail
    clear v10 v11 v12 v13 v14 v1z v30 v31 v32 v33 v34 v3z v40 v41 v42 v43 v44 v4z
    apply calls_gen; intro W12 hW
    have hz_ : WX.heap.size ≤ W12.heap.size := by rw [hW]; simp
    have hE : Below WX.heap.size WX W12 := by rw [hW]; (repeat (first | with_reducible refine below_alloc ?_ _ | with_reducible refine below_drew ?_)); exact Below.refl _ _
    have hB := hB.th hE
    have h1B := Hd.mk (below_then h1B.out hE)
    replace hS := Hd.mk (below_then hS.out hE)
    have b1 := b1.dn hE
    have b3 := b3.dn hE
    have b4 := b4.dn hE
    clear hW hE
    have z14 := Hd.mk hz_; clear hz_
    have hKT : (tJ 1).K W12 ⟨3, 0, t, [], []⟩ [.int .i64 3, .int .i64 0, .string t, .slice none 0 0, .slice none 0 0] := tJ_K.2 ⟨none, 0, none, 0, rfl, by show t.size ≤ _; omega, ⟨Nat.le_refl _, C_nil _⟩, Nat.le_refl _, C_nil _⟩
    refine (impl_JsonOk (m := 0) ⟨3, 0, t, [], []⟩ _ _ hKT).mono ?_
    rintro e w13 ⟨rfl, hX⟩
    have b1 := b1.dn hX
    have b3 := b3.dn hX
    have b4 := b4.dn hX
    have hB := hB.th hX
    replace hS := Hd.mk (below_then hS.out hX)
    have hz_ := hX.size
    have h1B := Hd.mk (below_then h1B.out hX)
    clear hX
    have z15 := Hd.mk hz_; clear hz_
    rw [← HOT.out]
    clear hKT
    go_wp2_with fail
    refine ⟨cls_below hS.out, ?_⟩
    (repeat (first | (refine mix_z rfl (by rfl) ?_; go_big_quiet_skip; refine wpQuiet_nil ?_) | (refine mix_q rfl ?_; first | (go_big_quiet_skip; refine wpQuiet_nil ?_) | (go_big_quiet_want; go_big_quiet_op; go_big_quiet_on; refine wpQuiet_nil ?_))))
    refine mix_nil ?_
    clear hS rv10 rv11 rv12 rv13 rv14 rv30 rv31 rv32 rv33 rv34 rv40 rv41 rv42 rv43 rv44
    go_wp2_with fail
    go_ret
    exact ⟨by rfl, hB.out⟩
  ·rw [num_no hn] at hN
   have hng : decide (1000000000 < n) = true ∨ (decide (1000000000 < n) = false ∧ decide (n < -1000000000) = true) := by simp only [decide_eq_true_eq, decide_eq_false_iff_not]; omega
   clear hn
   obtain ⟨nv3, nv4, _, _, rfl, _, nr3, nr4, _⟩ := tJ_O.1 hN
   obtain ⟨nD3, nd3, rfl, _, _⟩ := R_C nr3
   obtain ⟨nD4, nd4, rfl, _, _⟩ := R_C nr4
   clear nr3 nr4 hN
   simp only [J.kind_mk, J.n_mk, J.s_mk, J.list_mk, J.names_mk, List.length_nil]
   obtain ⟨v10, v11, v12, v13, v14, v1z⟩ := blk5 b1.out
   go_wp2_with fail
   clear v10 v11 v12 v13 v14 v1z
   refine (impl_TextOf 0 t (by omega) _).mono ?_
   rintro e w11 ⟨ct, rfl, hU, hX⟩
   have b1 := b1.dn hX
   have hB := hB.th hX
   have hz_ := hX.size
   have h1B := Hd.mk (below_then h1B.out hX)
   clear hX
   have z12 := Hd.mk hz_; clear hz_
   obtain ⟨okt, hokt⟩ : ∃ z, z = jsonOk ⟨3, 0, t, [], []⟩ := ⟨_, rfl⟩
   have HOT := Hd.mk hokt
   cases okt
   ·rw [text_no HOT.out.symm] at hU
    clear hokt
    obtain ⟨tv3, tv4, _, _, rfl, _, tr3, tr4, _⟩ := tJ_O.1 hU
    obtain ⟨tD3, td3, rfl, _, _⟩ := R_C tr3
    obtain ⟨tD4, td4, rfl, _, _⟩ := R_C tr4
    clear tr3 tr4 hU
    simp only [J.kind_mk, J.n_mk, J.s_mk, J.list_mk, J.names_mk, List.length_nil]
    obtain ⟨v10, v11, v12, v13, v14, v1z⟩ := blk5 b1.out
    go_wp2_with fail
    clear v10 v11 v12 v13 v14 v1z
    apply wp_gen; intro WX hW
    have hz_ : w11.heap.size + 2 ≤ WX.heap.size := by rw [hW]; simp
    have hE : Below w11.heap.size w11 WX := by rw [hW]; (repeat (first | with_reducible refine below_alloc ?_ _ | with_reducible refine below_drew ?_)); exact Below.refl _ _
    have hB := hB.th hE
    have h1B := Hd.mk (below_then h1B.out hE)
    have b1 := b1.dn hE
    have b3 := Hd.mk (show Blk WX (w11.heap.size) #[.int .i64 0, .int .i64 0, .string ⟨#[]⟩, .slice nD3 0 nd3, .slice nD4 0 nd4] 27 by rw [hW]; first | exact ((Blk.new _ _ _).alloc _) | (simpa using ((Blk.new _ _ _).alloc _)))
    have b4 := Hd.mk (show Blk WX (w11.heap.size + 1) #[.int .i64 0, .int .i64 0, .string ⟨#[]⟩, .slice tD3 0 td3, .slice tD4 0 td4] 27 by rw [hW]; first | exact (Blk.new1 _ _ _ _) | (simpa using (Blk.new1 _ _ _ _)))
    clear hW hE
    have z13 := Hd.mk hz_; clear hz_
    rcases hng with hng | ⟨hng, hng2⟩
    ·have v10 : WX.cell? ⟨w3.heap.size, 0, none⟩ = some (.int .i64 0) := b1.out.cell 0 rfl
     have v11 : WX.cell? ⟨w3.heap.size, 1, none⟩ = some (.int .i64 f.n) := b1.out.cell 1 rfl
     have v12 : WX.cell? ⟨w3.heap.size, 2, none⟩ = some (.string f.s) := b1.out.cell 2 rfl
     have v13 : WX.cell? ⟨w3.heap.size, 3, none⟩ = some (.slice fD3 f.list.length fd3) := b1.out.cell 3 rfl
     have v14 : WX.cell? ⟨w3.heap.size, 4, none⟩ = some (.slice fD4 f.names.length fd4) := b1.out.cell 4 rfl
     have v1z := b1.out.frozen
     obtain ⟨v30, v31, v32, v33, v34, v3z⟩ := blk5 b3.out
     obtain ⟨v40, v41, v42, v43, v44, v4z⟩ := blk5 b4.out
     obtain ⟨rv10, rv11, rv12, rv13, rv14⟩ := reg5 v10 v11 v12 v13 v14
     obtain ⟨rv30, rv31, rv32, rv33, rv34⟩ := reg5 v30 v31 v32 v33 v34
     obtain ⟨rv40, rv41, rv42, rv43, rv44⟩ := reg5 v40 v41 v42 v43 v44
     refine region_mix [(true, 0), (true, 1), (true, 2), (true, 3), (true, 4), (true, 5), (true, 6), (true, 7), (true, 8), (true, 9), (true, 10), (true, 11), (true, 12), (true, 13), (true, 14), (true, 15), (true, 16), (true, 17), (true, 18), (true, 19), (true, 20), (true, 21), (true, 22), (true, 23), (true, 24), (true, 25), (true, 26), (true, 27), (true, 28), (true, 29), (true, 30), (true, 31), (true, 32), (true, 33), (true, 34), (false, 35), (false, 36), (true, 37), (true, 38), (true, 39)] (by kernel_rfl) (by kernel_rfl) (fun _ _ _ _ _ h => h) ?_
     (repeat (first | (refine mix_z rfl (by rfl) ?_; go_big_quiet_skip; refine wpQuiet_nil ?_) | (refine mix_q rfl ?_; first | (go_big_quiet_skip; refine wpQuiet_nil ?_) | (go_big_quiet_want; go_big_quiet_op; go_big_quiet_on; refine wpQuiet_nil ?_))))
     have hS := Hd.mk (Below.refl WX.heap.size WX)
     refine mix_b rfl ?_ (by rfl)
     go_wp2_with fail
     refine mixQ_n ⟨cls_below (below_drew (Below.refl _ _)), ?_⟩
     (repeat (first | (refine mix_z rfl (by rfl) ?_; go_big_quiet_skip; refine wpQuiet_nil ?_) | (refine mix_q rfl ?_; first | (go_big_quiet_skip; refine wpQuiet_nil ?_) | (go_big_quiet_want; go_big_quiet_op; go_big_quiet_on; refine wpQuiet_nil ?_))))
     refine mix_b rfl ?_ (by rfl)
     go_wp2_with fail
     clear v10 v11 v12 v13 v14 v1z v30 v31 v32 v33 v34 v3z v40 v41 v42 v43 v44 v4z
     apply calls_gen; intro W12 hW
     have hz_ : WX.heap.size ≤ W12.heap.size := by rw [hW]; simp
     have hE : Below WX.heap.size WX W12 := by rw [hW]; (repeat (first | with_reducible refine below_alloc ?_ _ | with_reducible refine below_drew ?_)); exact Below.refl _ _
     have hB := hB.th hE
     have h1B := Hd.mk (below_then h1B.out hE)
     replace hS := Hd.mk (below_then hS.out hE)
     have b1 := b1.dn hE
     have b3 := b3.dn hE
     have b4 := b4.dn hE
     clear hW hE
     have z14 := Hd.mk hz_; clear hz_
     have hKT : (tJ 1).K W12 ⟨3, 0, t, [], []⟩ [.int .i64 3, .int .i64 0, .string t, .slice none 0 0, .slice none 0 0] := tJ_K.2 ⟨none, 0, none, 0, rfl, by show t.size ≤ _; omega, ⟨Nat.le_refl _, C_nil _⟩, Nat.le_refl _, C_nil _⟩
     refine (impl_JsonOk (m := 0) ⟨3, 0, t, [], []⟩ _ _ hKT).mono ?_
     rintro e w13 ⟨rfl, hX⟩
     have b1 := b1.dn hX
     have b3 := b3.dn hX
     have b4 := b4.dn hX
     have hB := hB.th hX
     replace hS := Hd.mk (below_then hS.out hX)
     have hz_ := hX.size
     have h1B := Hd.mk (below_then h1B.out hX)
     clear hX
     have z15 := Hd.mk hz_; clear hz_
     rw [← HOT.out]
     clear hKT
     go_wp2_with fail
     refine ⟨cls_below hS.out, ?_⟩
     (repeat (first | (refine mix_z rfl (by rfl) ?_; go_big_quiet_skip; refine wpQuiet_nil ?_) | (refine mix_q rfl ?_; first | (go_big_quiet_skip; refine wpQuiet_nil ?_) | (go_big_quiet_want; go_big_quiet_op; go_big_quiet_on; refine wpQuiet_nil ?_))))
     refine mix_nil ?_
     clear hS rv10 rv11 rv12 rv13 rv14 rv30 rv31 rv32 rv33 rv34 rv40 rv41 rv42 rv43 rv44
     go_wp2_with fail
     go_ret
     exact ⟨by rfl, hB.out⟩
    ·have v10 : WX.cell? ⟨w3.heap.size, 0, none⟩ = some (.int .i64 0) := b1.out.cell 0 rfl
     have v11 : WX.cell? ⟨w3.heap.size, 1, none⟩ = some (.int .i64 f.n) := b1.out.cell 1 rfl
     have v12 : WX.cell? ⟨w3.heap.size, 2, none⟩ = some (.string f.s) := b1.out.cell 2 rfl
     have v13 : WX.cell? ⟨w3.heap.size, 3, none⟩ = some (.slice fD3 f.list.length fd3) := b1.out.cell 3 rfl
     have v14 : WX.cell? ⟨w3.heap.size, 4, none⟩ = some (.slice fD4 f.names.length fd4) := b1.out.cell 4 rfl
     have v1z := b1.out.frozen
     obtain ⟨v30, v31, v32, v33, v34, v3z⟩ := blk5 b3.out
     obtain ⟨v40, v41, v42, v43, v44, v4z⟩ := blk5 b4.out
     obtain ⟨rv10, rv11, rv12, rv13, rv14⟩ := reg5 v10 v11 v12 v13 v14
     obtain ⟨rv30, rv31, rv32, rv33, rv34⟩ := reg5 v30 v31 v32 v33 v34
     obtain ⟨rv40, rv41, rv42, rv43, rv44⟩ := reg5 v40 v41 v42 v43 v44
     refine region_mix [(true, 0), (true, 1), (true, 2), (true, 3), (true, 4), (true, 5), (true, 6), (true, 7), (true, 8), (true, 9), (true, 10), (true, 11), (true, 12), (true, 13), (true, 14), (true, 15), (true, 16), (true, 17), (true, 18), (true, 19), (true, 20), (true, 21), (true, 22), (true, 23), (true, 24), (true, 25), (true, 26), (true, 27), (true, 28), (true, 29), (true, 30), (true, 31), (true, 32), (true, 33), (true, 34), (false, 35), (false, 36), (true, 37), (true, 38), (true, 39)] (by kernel_rfl) (by kernel_rfl) (fun _ _ _ _ _ h => h) ?_
     (repeat (first | (refine mix_z rfl (by rfl) ?_; go_big_quiet_skip; refine wpQuiet_nil ?_) | (refine mix_q rfl ?_; first | (go_big_quiet_skip; refine wpQuiet_nil ?_) | (go_big_quiet_want; go_big_quiet_op; go_big_quiet_on; refine wpQuiet_nil ?_))))
     have hS := Hd.mk (Below.refl WX.heap.size WX)
     refine mix_b rfl ?_ (by rfl)
     go_wp2_with fail
     refine mixQ_n ⟨cls_below (below_drew (Below.refl _ _)), ?_⟩
     (repeat (first | (refine mix_z rfl (by rfl) ?_; go_big_quiet_skip; refine wpQuiet_nil ?_) | (refine mix_q rfl ?_; first | (go_big_quiet_skip; refine wpQuiet_nil ?_) | (go_big_quiet_want; go_big_quiet_op; go_big_quiet_on; refine wpQuiet_nil ?_))))
     refine mix_b rfl ?_ (by rfl)
     go_wp2_with fail
     clear v10 v11 v12 v13 v14 v1z v30 v31 v32 v33 v34 v3z v40 v41 v42 v43 v44 v4z
     apply calls_gen; intro W12 hW
     have hz_ : WX.heap.size ≤ W12.heap.size := by rw [hW]; simp
     have hE : Below WX.heap.size WX W12 := by rw [hW]; (repeat (first | with_reducible refine below_alloc ?_ _ | with_reducible refine below_drew ?_)); exact Below.refl _ _
     have hB := hB.th hE
     have h1B := Hd.mk (below_then h1B.out hE)
     replace hS := Hd.mk (below_then hS.out hE)
     have b1 := b1.dn hE
     have b3 := b3.dn hE
     have b4 := b4.dn hE
     clear hW hE
     have z14 := Hd.mk hz_; clear hz_
     have hKT : (tJ 1).K W12 ⟨3, 0, t, [], []⟩ [.int .i64 3, .int .i64 0, .string t, .slice none 0 0, .slice none 0 0] := tJ_K.2 ⟨none, 0, none, 0, rfl, by show t.size ≤ _; omega, ⟨Nat.le_refl _, C_nil _⟩, Nat.le_refl _, C_nil _⟩
     refine (impl_JsonOk (m := 0) ⟨3, 0, t, [], []⟩ _ _ hKT).mono ?_
     rintro e w13 ⟨rfl, hX⟩
     have b1 := b1.dn hX
     have b3 := b3.dn hX
     have b4 := b4.dn hX
     have hB := hB.th hX
     replace hS := Hd.mk (below_then hS.out hX)
     have hz_ := hX.size
     have h1B := Hd.mk (below_then h1B.out hX)
     clear hX
     have z15 := Hd.mk hz_; clear hz_
     rw [← HOT.out]
     clear hKT
     go_wp2_with fail
     refine ⟨cls_below hS.out, ?_⟩
     (repeat (first | (refine mix_z rfl (by rfl) ?_; go_big_quiet_skip; refine wpQuiet_nil ?_) | (refine mix_q rfl ?_; first | (go_big_quiet_skip; refine wpQuiet_nil ?_) | (go_big_quiet_want; go_big_quiet_op; go_big_quiet_on; refine wpQuiet_nil ?_))))
     refine mix_nil ?_
     clear hS rv10 rv11 rv12 rv13 rv14 rv30 rv31 rv32 rv33 rv34 rv40 rv41 rv42 rv43 rv44
     go_wp2_with fail
     go_ret
     exact ⟨by rfl, hB.out⟩
   ·rw [text_yes HOT.out.symm] at hU
    clear hokt
    obtain ⟨tv3, tv4, _, _, rfl, _, tr3, tr4, _⟩ := tJ_O.1 hU
    obtain ⟨tD3, td3, rfl, _, _⟩ := R_C tr3
    obtain ⟨tD4, td4, rfl, _, _⟩ := R_C tr4
    clear tr3 tr4 hU
    simp only [J.kind_mk, J.n_mk, J.s_mk, J.list_mk, J.names_mk, List.length_nil]
    obtain ⟨v10, v11, v12, v13, v14, v1z⟩ := blk5 b1.out
    go_wp2_with fail
    clear v10 v11 v12 v13 v14 v1z
    apply wp_gen; intro WX hW
    have hz_ : w11.heap.size + 2 ≤ WX.heap.size := by rw [hW]; simp
    have hE : Below w11.heap.size w11 WX := by rw [hW]; (repeat (first | with_reducible refine below_alloc ?_ _ | with_reducible refine below_drew ?_)); exact Below.refl _ _
    have hB := hB.th hE
    have h1B := Hd.mk (below_then h1B.out hE)
    have b1 := b1.dn hE
    have b3 := Hd.mk (show Blk WX (w11.heap.size) #[.int .i64 0, .int .i64 0, .string ⟨#[]⟩, .slice nD3 0 nd3, .slice nD4 0 nd4] 27 by rw [hW]; first | exact ((Blk.new _ _ _).alloc _) | (simpa using ((Blk.new _ _ _).alloc _)))
    have b4 := Hd.mk (show Blk WX (w11.heap.size + 1) #[.int .i64 3, .int .i64 0, .string t, .slice tD3 0 td3, .slice tD4 0 td4] 27 by rw [hW]; first | exact (Blk.new1 _ _ _ _) | (simpa using (Blk.new1 _ _ _ _)))
    clear hW hE
    have z13 := Hd.mk hz_; clear hz_
    rcases hng with hng | ⟨hng, hng2⟩
    ·have v10 : WX.cell? ⟨w3.heap.size, 0, none⟩ = some (.int .i64 0) := b1.out.cell 0 rfl
     have v11 : WX.cell? ⟨w3.heap.size, 1, none⟩ = some (.int .i64 f.n) := b1.out.cell 1 rfl
     have v12 : WX.cell? ⟨w3.heap.size, 2, none⟩ = some (.string f.s) := b1.out.cell 2 rfl
     have v13 : WX.cell? ⟨w3.heap.size, 3, none⟩ = some (.slice fD3 f.list.length fd3) := b1.out.cell 3 rfl
     have v14 : WX.cell? ⟨w3.heap.size, 4, none⟩ = some (.slice fD4 f.names.length fd4) := b1.out.cell 4 rfl
     have v1z := b1.out.frozen
     obtain ⟨v30, v31, v32, v33, v34, v3z⟩ := blk5 b3.out
     obtain ⟨v40, v41, v42, v43, v44, v4z⟩ := blk5 b4.out
     obtain ⟨rv10, rv11, rv12, rv13, rv14⟩ := reg5 v10 v11 v12 v13 v14
     obtain ⟨rv30, rv31, rv32, rv33, rv34⟩ := reg5 v30 v31 v32 v33 v34
     obtain ⟨rv40, rv41, rv42, rv43, rv44⟩ := reg5 v40 v41 v42 v43 v44
     refine region_mix [(true, 0), (true, 1), (true, 2), (true, 3), (true, 4), (true, 5), (true, 6), (true, 7), (true, 8), (true, 9), (true, 10), (true, 11), (true, 12), (true, 13), (true, 14), (true, 15), (true, 16), (true, 17), (true, 18), (true, 19), (true, 20), (true, 21), (true, 22), (true, 23), (true, 24), (true, 25), (true, 26), (true, 27), (true, 28), (true, 29), (true, 30), (true, 31), (true, 32), (true, 33), (true, 34), (false, 35), (false, 36), (true, 37), (true, 38), (true, 39)] (by kernel_rfl) (by kernel_rfl) (fun _ _ _ _ _ h => h) ?_
     (repeat (first | (refine mix_z rfl (by rfl) ?_; go_big_quiet_skip; refine wpQuiet_nil ?_) | (refine mix_q rfl ?_; first | (go_big_quiet_skip; refine wpQuiet_nil ?_) | (go_big_quiet_want; go_big_quiet_op; go_big_quiet_on; refine wpQuiet_nil ?_))))
     have hS := Hd.mk (Below.refl WX.heap.size WX)
     refine mix_b rfl ?_ (by rfl)
     go_wp2_with fail
     refine mixQ_n ⟨cls_below (below_drew (Below.refl _ _)), ?_⟩
     (repeat (first | (refine mix_z rfl (by rfl) ?_; go_big_quiet_skip; refine wpQuiet_nil ?_) | (refine mix_q rfl ?_; first | (go_big_quiet_skip; refine wpQuiet_nil ?_) | (go_big_quiet_want; go_big_quiet_op; go_big_quiet_on; refine wpQuiet_nil ?_))))
     refine mix_b rfl ?_ (by rfl)
     go_wp2_with fail
     clear v10 v11 v12 v13 v14 v1z v30 v31 v32 v33 v34 v3z v40 v41 v42 v43 v44 v4z
     apply calls_gen; intro W12 hW
     have hz_ : WX.heap.size ≤ W12.heap.size := by rw [hW]; simp
     have hE : Below WX.heap.size WX W12 := by rw [hW]; (repeat (first | with_reducible refine below_alloc ?_ _ | with_reducible refine below_drew ?_)); exact Below.refl _ _
     have hB := hB.th hE
     have h1B := Hd.mk (below_then h1B.out hE)
     replace hS := Hd.mk (below_then hS.out hE)
     have b1 := b1.dn hE
     have b3 := b3.dn hE
     have b4 := b4.dn hE
     clear hW hE
     have z14 := Hd.mk hz_; clear hz_
     have hKT : (tJ 1).K W12 ⟨3, 0, t, [], []⟩ [.int .i64 3, .int .i64 0, .string t, .slice none 0 0, .slice none 0 0] := tJ_K.2 ⟨none, 0, none, 0, rfl, by show t.size ≤ _; omega, ⟨Nat.le_refl _, C_nil _⟩, Nat.le_refl _, C_nil _⟩
     refine (impl_JsonOk (m := 0) ⟨3, 0, t, [], []⟩ _ _ hKT).mono ?_
     rintro e w13 ⟨rfl, hX⟩
     have b1 := b1.dn hX
     have b3 := b3.dn hX
     have b4 := b4.dn hX
     have hB := hB.th hX
     replace hS := Hd.mk (below_then hS.out hX)
     have hz_ := hX.size
     have h1B := Hd.mk (below_then h1B.out hX)
     clear hX
     have z15 := Hd.mk hz_; clear hz_
     rw [← HOT.out]
     clear hKT
     go_wp2_with fail
     refine ⟨cls_below hS.out, ?_⟩
     (repeat (first | (refine mix_z rfl (by rfl) ?_; go_big_quiet_skip; refine wpQuiet_nil ?_) | (refine mix_q rfl ?_; first | (go_big_quiet_skip; refine wpQuiet_nil ?_) | (go_big_quiet_want; go_big_quiet_op; go_big_quiet_on; refine wpQuiet_nil ?_))))
     refine mix_nil ?_
     clear hS rv10 rv11 rv12 rv13 rv14 rv30 rv31 rv32 rv33 rv34 rv40 rv41 rv42 rv43 rv44
     go_wp2_with fail
     go_ret
     exact ⟨by rfl, hB.out⟩
    ·have v10 : WX.cell? ⟨w3.heap.size, 0, none⟩ = some (.int .i64 0) := b1.out.cell 0 rfl
     have v11 : WX.cell? ⟨w3.heap.size, 1, none⟩ = some (.int .i64 f.n) := b1.out.cell 1 rfl
     have v12 : WX.cell? ⟨w3.heap.size, 2, none⟩ = some (.string f.s) := b1.out.cell 2 rfl
     have v13 : WX.cell? ⟨w3.heap.size, 3, none⟩ = some (.slice fD3 f.list.length fd3) := b1.out.cell 3 rfl
     have v14 : WX.cell? ⟨w3.heap.size, 4, none⟩ = some (.slice fD4 f.names.length fd4) := b1.out.cell 4 rfl
     have v1z := b1.out.frozen
     obtain ⟨v30, v31, v32, v33, v34, v3z⟩ := blk5 b3.out
     obtain ⟨v40, v41, v42, v43, v44, v4z⟩ := blk5 b4.out
     obtain ⟨rv10, rv11, rv12, rv13, rv14⟩ := reg5 v10 v11 v12 v13 v14
     obtain ⟨rv30, rv31, rv32, rv33, rv34⟩ := reg5 v30 v31 v32 v33 v34
     obtain ⟨rv40, rv41, rv42, rv43, rv44⟩ := reg5 v40 v41 v42 v43 v44
     refine region_mix [(true, 0), (true, 1), (true, 2), (true, 3), (true, 4), (true, 5), (true, 6), (true, 7), (true, 8), (true, 9), (true, 10), (true, 11), (true, 12), (true, 13), (true, 14), (true, 15), (true, 16), (true, 17), (true, 18), (true, 19), (true, 20), (true, 21), (true, 22), (true, 23), (true, 24), (true, 25), (true, 26), (true, 27), (true, 28), (true, 29), (true, 30), (true, 31), (true, 32), (true, 33), (true, 34), (false, 35), (false, 36), (true, 37), (true, 38), (true, 39)] (by kernel_rfl) (by kernel_rfl) (fun _ _ _ _ _ h => h) ?_
     (repeat (first | (refine mix_z rfl (by rfl) ?_; go_big_quiet_skip; refine wpQuiet_nil ?_) | (refine mix_q rfl ?_; first | (go_big_quiet_skip; refine wpQuiet_nil ?_) | (go_big_quiet_want; go_big_quiet_op; go_big_quiet_on; refine wpQuiet_nil ?_))))
     have hS := Hd.mk (Below.refl WX.heap.size WX)
     refine mix_b rfl ?_ (by rfl)
     go_wp2_with fail
     refine mixQ_n ⟨cls_below (below_drew (Below.refl _ _)), ?_⟩
     (repeat (first | (refine mix_z rfl (by rfl) ?_; go_big_quiet_skip; refine wpQuiet_nil ?_) | (refine mix_q rfl ?_; first | (go_big_quiet_skip; refine wpQuiet_nil ?_) | (go_big_quiet_want; go_big_quiet_op; go_big_quiet_on; refine wpQuiet_nil ?_))))
     refine mix_b rfl ?_ (by rfl)
     go_wp2_with fail
     clear v10 v11 v12 v13 v14 v1z v30 v31 v32 v33 v34 v3z v40 v41 v42 v43 v44 v4z
     apply calls_gen; intro W12 hW
     have hz_ : WX.heap.size ≤ W12.heap.size := by rw [hW]; simp
     have hE : Below WX.heap.size WX W12 := by rw [hW]; (repeat (first | with_reducible refine below_alloc ?_ _ | with_reducible refine below_drew ?_)); exact Below.refl _ _
     have hB := hB.th hE
     have h1B := Hd.mk (below_then h1B.out hE)
     replace hS := Hd.mk (below_then hS.out hE)
     have b1 := b1.dn hE
     have b3 := b3.dn hE
     have b4 := b4.dn hE
     clear hW hE
     have z14 := Hd.mk hz_; clear hz_
     have hKT : (tJ 1).K W12 ⟨3, 0, t, [], []⟩ [.int .i64 3, .int .i64 0, .string t, .slice none 0 0, .slice none 0 0] := tJ_K.2 ⟨none, 0, none, 0, rfl, by show t.size ≤ _; omega, ⟨Nat.le_refl _, C_nil _⟩, Nat.le_refl _, C_nil _⟩
     refine (impl_JsonOk (m := 0) ⟨3, 0, t, [], []⟩ _ _ hKT).mono ?_
     rintro e w13 ⟨rfl, hX⟩
     have b1 := b1.dn hX
     have b3 := b3.dn hX
     have b4 := b4.dn hX
     have hB := hB.th hX
     replace hS := Hd.mk (below_then hS.out hX)
     have hz_ := hX.size
     have h1B := Hd.mk (below_then h1B.out hX)
     clear hX
     have z15 := Hd.mk hz_; clear hz_
     rw [← HOT.out]
     clear hKT
     go_wp2_with fail
     refine ⟨cls_below hS.out, ?_⟩
     (repeat (first | (refine mix_z rfl (by rfl) ?_; go_big_quiet_skip; refine wpQuiet_nil ?_) | (refine mix_q rfl ?_; first | (go_big_quiet_skip; refine wpQuiet_nil ?_) | (go_big_quiet_want; go_big_quiet_op; go_big_quiet_on; refine wpQuiet_nil ?_))))
     refine mix_nil ?_
     clear hS rv10 rv11 rv12 rv13 rv14 rv30 rv31 rv32 rv33 rv34 rv40 rv41 rv42 rv43 rv44
     go_wp2_with fail
     go_ret
     exact ⟨by rfl, hB.out⟩
 ·obtain ⟨g1, g2, g3⟩ := field_get HOK.out.symm
  have e1 : fine = true := by rw [HFI.out]; exact g1
  subst e1
  have hpf : f = p := by rw [HP.out, HF.out]; exact g2.symm
  subst hpf
  have HSS := Hd.mk (show jsonSame f f = true by rw [jsonSame_self, HF.out]; exact g3)
  clear g1 g2 g3
  obtain ⟨v00, v01, v02, v03, v04, v0z⟩ := blk5 b0.out
  obtain ⟨v10, v11, v12, v13, v14, v1z⟩ := blk5 b1.out
  obtain ⟨v20, v21, v22, v23, v24, v2z⟩ := blk5 b2.out
  have lfb0_0 := fun o => cell_below (below_alloc (Below.refl _ _) o) v00
  have lfb0_1 := fun o => cell_below (below_alloc (Below.refl _ _) o) v01
  have lfb0_2 := fun o => cell_below (below_alloc (Below.refl _ _) o) v02
  have lfb0_3 := fun o => cell_below (below_alloc (Below.refl _ _) o) v03
  have lfb0_4 := fun o => cell_below (below_alloc (Below.refl _ _) o) v04
  have lfb1_0 := fun o => cell_below (below_alloc (Below.refl _ _) o) v10
  have lfb1_1 := fun o => cell_below (below_alloc (Below.refl _ _) o) v11
  have lfb1_2 := fun o => cell_below (below_alloc (Below.refl _ _) o) v12
  have lfb1_3 := fun o => cell_below (below_alloc (Below.refl _ _) o) v13
  have lfb1_4 := fun o => cell_below (below_alloc (Below.refl _ _) o) v14
  have lfb2_0 := fun o => cell_below (below_alloc (Below.refl _ _) o) v20
  have lfb2_1 := fun o => cell_below (below_alloc (Below.refl _ _) o) v21
  have lfb2_2 := fun o => cell_below (below_alloc (Below.refl _ _) o) v22
  have lfb2_3 := fun o => cell_below (below_alloc (Below.refl _ _) o) v23
  have lfb2_4 := fun o => cell_below (below_alloc (Below.refl _ _) o) v24
  go_wp2_with fail
  clear lfb0_0 lfb0_1 lfb0_2 lfb0_3 lfb0_4 lfb1_0 lfb1_1 lfb1_2 lfb1_3 lfb1_4 lfb2_0 lfb2_1 lfb2_2 lfb2_3 lfb2_4
  clear v00 v01 v02 v03 v04 v0z v10 v11 v12 v13 v14 v1z v20 v21 v22 v23 v24 v2z
  apply calls_gen; intro W7 hW
  have hz_ : w6.heap.size + 1 ≤ W7.heap.size := by rw [hW]; simp
  have hE : Below w6.heap.size w6 W7 := by rw [hW]; (repeat (first | with_reducible refine below_alloc ?_ _ | with_reducible refine below_drew ?_)); exact Below.refl _ _
  have hB := hB.th hE
  have h1B := Hd.mk (below_then h1B.out hE)
  have b0 := b0.dn hE
  have b1 := b1.dn hE
  have b2 := b2.dn hE
  have b9 := Hd.mk (show Blk W7 (w6.heap.size) #[.int .i64 f.kind, .int .i64 f.n, .string f.s, .slice pD3 f.list.length pd3, .slice pD4 f.names.length pd4] 27 by rw [hW]; first | exact (Blk.new _ _ _) | (simpa using (Blk.new _ _ _)))
  have hO := hO.ob hE
  have hP := hP.ob hE
  clear hW hE
  have z8 := Hd.mk hz_; clear hz_
  refine (impl_JsonSame (m := 8) f f _ _ _ (Ty.O_K _ hO.out) (Ty.O_K _ hP.out)).mono ?_
  rintro e w8 ⟨rfl, hX⟩
  have b0 := b0.dn hX
  have b1 := b1.dn hX
  have b2 := b2.dn hX
  have b9 := b9.dn hX
  have hO := hO.ob hX
  have hP := hP.ob hX
  have hB := hB.th hX
  have hz_ := hX.size
  have h1B := Hd.mk (below_then h1B.out hX)
  clear hX
  have z9 := Hd.mk hz_; clear hz_
  rw [HSS.out]
  clear b9
  obtain ⟨v00, v01, v02, v03, v04, v0z⟩ := blk5 b0.out
  obtain ⟨v10, v11, v12, v13, v14, v1z⟩ := blk5 b1.out
  obtain ⟨v20, v21, v22, v23, v24, v2z⟩ := blk5 b2.out
  go_wp2_with fail
  clear v00 v01 v02 v03 v04 v0z v10 v11 v12 v13 v14 v1z v20 v21 v22 v23 v24 v2z
  refine (spec_DrawNumOf _ _ bs _ (C_below HBS.out hB.out) hbs).mono ?_
  rintro e w9 ⟨n, rfl, hX⟩
  have b0 := b0.dn hX
  have b1 := b1.dn hX
  have b2 := b2.dn hX
  have hO := hO.ob hX
  have hP := hP.ob hX
  have hB := hB.th hX
  have hz_ := hX.size
  have h1B := Hd.mk (below_then h1B.out hX)
  clear hX
  have z10 := Hd.mk hz_; clear hz_
  obtain ⟨v00, v01, v02, v03, v04, v0z⟩ := blk5 b0.out
  obtain ⟨v10, v11, v12, v13, v14, v1z⟩ := blk5 b1.out
  obtain ⟨v20, v21, v22, v23, v24, v2z⟩ := blk5 b2.out
  go_wp2_with fail
  clear v00 v01 v02 v03 v04 v0z v10 v11 v12 v13 v14 v1z v20 v21 v22 v23 v24 v2z
  refine (spec_DrawTextOf _ _ bs _ (C_below HBS.out hB.out) hbs).mono ?_
  rintro e w10 ⟨t, rfl, ht, hX⟩
  have b0 := b0.dn hX
  have b1 := b1.dn hX
  have b2 := b2.dn hX
  have hO := hO.ob hX
  have hP := hP.ob hX
  have hB := hB.th hX
  have hz_ := hX.size
  have h1B := Hd.mk (below_then h1B.out hX)
  clear hX
  have z11 := Hd.mk hz_; clear hz_
  clear b0 b2 hO hP
  obtain ⟨v10, v11, v12, v13, v14, v1z⟩ := blk5 b1.out
  go_wp2_with fail
  clear v10 v11 v12 v13 v14 v1z
  refine (impl_NumOf 0 n _).mono ?_
  rintro e w11 ⟨cn, rfl, hN, hX⟩
  have b1 := b1.dn hX
  have hB := hB.th hX
  have hz_ := hX.size
  have h1B := Hd.mk (below_then h1B.out hX)
  clear hX
  have z12 := Hd.mk hz_; clear hz_
  by_cases hn : -1000000000 ≤ n ∧ n ≤ 1000000000
  ·rw [num_yes hn] at hN
   obtain ⟨hn1, hn2⟩ := hn
   obtain ⟨nv3, nv4, _, _, rfl, _, nr3, nr4, _⟩ := tJ_O.1 hN
   obtain ⟨nD3, nd3, rfl, _, _⟩ := R_C nr3
   obtain ⟨nD4, nd4, rfl, _, _⟩ := R_C nr4
   clear nr3 nr4 hN
   simp only [J.kind_mk, J.n_mk, J.s_mk, J.list_mk, J.names_mk, List.length_nil]
   obtain ⟨v10, v11, v12, v13, v14, v1z⟩ := blk5 b1.out
   go_wp2_with fail
   clear v10 v11 v12 v13 v14 v1z
   refine (impl_TextOf 0 t (by omega) _).mono ?_
   rintro e w12 ⟨ct, rfl, hU, hX⟩
   have b1 := b1.dn hX
   have hB := hB.th hX
   have hz_ := hX.size
   have h1B := Hd.mk (below_then h1B.out hX)
   clear hX
   have z13 := Hd.mk hz_; clear hz_
   obtain ⟨okt, hokt⟩ : ∃ z, z = jsonOk ⟨3, 0, t, [], []⟩ := ⟨_, rfl⟩
   have HOT := Hd.mk hokt
   cases okt
   ·rw [text_no HOT.out.symm] at hU
    clear hokt
    obtain ⟨tv3, tv4, _, _, rfl, _, tr3, tr4, _⟩ := tJ_O.1 hU
    obtain ⟨tD3, td3, rfl, _, _⟩ := R_C tr3
    obtain ⟨tD4, td4, rfl, _, _⟩ := R_C tr4
    clear tr3 tr4 hU
    simp only [J.kind_mk, J.n_mk, J.s_mk, J.list_mk, J.names_mk, List.length_nil]
    obtain ⟨v10, v11, v12, v13, v14, v1z⟩ := blk5 b1.out
    go_wp2_with fail
    clear v10 v11 v12 v13 v14 v1z
    apply wp_gen; intro WX hW
    have hz_ : w12.heap.size + 2 ≤ WX.heap.size := by rw [hW]; simp
    have hE : Below w12.heap.size w12 WX := by rw [hW]; (repeat (first | with_reducible refine below_alloc ?_ _ | with_reducible refine below_drew ?_)); exact Below.refl _ _
    have hB := hB.th hE
    have h1B := Hd.mk (below_then h1B.out hE)
    have b1 := b1.dn hE
    have b3 := Hd.mk (show Blk WX (w12.heap.size) #[.int .i64 2, .int .i64 n, .string ⟨#[]⟩, .slice nD3 0 nd3, .slice nD4 0 nd4] 27 by rw [hW]; first | exact ((Blk.new _ _ _).alloc _) | (simpa using ((Blk.new _ _ _).alloc _)))
    have b4 := Hd.mk (show Blk WX (w12.heap.size + 1) #[.int .i64 0, .int .i64 0, .string ⟨#[]⟩, .slice tD3 0 td3, .slice tD4 0 td4] 27 by rw [hW]; first | exact (Blk.new1 _ _ _ _) | (simpa using (Blk.new1 _ _ _ _)))
    clear hW hE
    have z14 := Hd.mk hz_; clear hz_
    obtain ⟨v10, v11, v12, v13, v14, v1z⟩ := blk5 b1.out
    obtain ⟨v30, v31, v32, v33, v34, v3z⟩ := blk5 b3.out
    obtain ⟨v40, v41, v42, v43, v44, v4z⟩ := blk5 b4.out
    obtain ⟨rv10, rv11, rv12, rv13, rv14⟩ := reg5 v10 v11 v12 v13 v14
    obtain ⟨rv30, rv31, rv32, rv33, rv34⟩ := reg5 v30 v31 v32 v33 v34
    obtain ⟨rv40, rv41, rv42, rv43, rv44⟩ := reg5 v40 v41 v42 v43 v44
    refine region_mix [(true, 0), (true, 1), (true, 2), (true, 3), (true, 4), (true, 5), (true, 6), (true, 7), (true, 8), (true, 9), (true, 10), (true, 11), (true, 12), (true, 13), (true, 14), (true, 15), (true, 16), (true, 17), (true, 18), (true, 19), (true, 20), (true, 21), (true, 22), (true, 23), (true, 24), (true, 25), (true, 26), (true, 27), (true, 28), (true, 29), (true, 30), (true, 31), (true, 32), (true, 33), (true, 34), (false, 35), (false, 36), (true, 37), (true, 38), (true, 39)] (by kernel_rfl) (by kernel_rfl) (fun _ _ _ _ _ h => h) ?_
    (repeat (first | (refine mix_z rfl (by rfl) ?_; go_big_quiet_skip; refine wpQuiet_nil ?_) | (refine mix_q rfl ?_; first | (go_big_quiet_skip; refine wpQuiet_nil ?_) | (go_big_quiet_want; go_big_quiet_op; go_big_quiet_on; refine wpQuiet_nil ?_))))
    have hS := Hd.mk (Below.refl WX.heap.size WX)
    refine mix_b rfl ?_ (by rfl)
    go_wp2_with fail
    refine mixQ_n ⟨cls_below (below_drew (Below.refl _ _)), ?_⟩
    (repeat (first | (refine mix_z rfl (by rfl) ?_; go_big_quiet_skip; refine wpQuiet_nil ?_) | (refine mix_q rfl ?_; first | (go_big_quiet_skip; refine wpQuiet_nil ?_) | (go_big_quiet_want; go_big_quiet_op; go_big_quiet_on; refine wpQuiet_nil ?_))))
    refine mix_b rfl ?_ (by rfl)
    go_wp2_with fail
    clear v10 v11 v12 v13 v14 v1z v30 v31 v32 v33 v34 v3z v40 v41 v42 v43 v44 v4z
    apply calls_gen; intro W13 hW
    have hz_ : WX.heap.size ≤ W13.heap.size := by rw [hW]; simp
    have hE : Below WX.heap.size WX W13 := by rw [hW]; (repeat (first | with_reducible refine below_alloc ?_ _ | with_reducible refine below_drew ?_)); exact Below.refl _ _
    have hB := hB.th hE
    have h1B := Hd.mk (below_then h1B.out hE)
    replace hS := Hd.mk (below_then hS.out hE)
    have b1 := b1.dn hE
    have b3 := b3.dn hE
    have b4 := b4.dn hE
    clear hW hE
    have z15 := Hd.mk hz_; clear hz_
    have hKT : (tJ 1).K W13 ⟨3, 0, t, [], []⟩ [.int .i64 3, .int .i64 0, .string t, .slice none 0 0, .slice none 0 0] := tJ_K.2 ⟨none, 0, none, 0, rfl, by show t.size ≤ _; omega, ⟨Nat.le_refl _, C_nil _⟩, Nat.le_refl _, C_nil _⟩
    refine (impl_JsonOk (m := 0) ⟨3, 0, t, [], []⟩ _ _ hKT).mono ?_
    rintro e w14 ⟨rfl, hX⟩
    have b1 := b1.dn hX
    have b3 := b3.dn hX
    have b4 := b4.dn hX
    have hB := hB.th hX
    replace hS := Hd.mk (below_then hS.out hX)
    have hz_ := hX.size
    have h1B := Hd.mk (below_then h1B.out hX)
    clear hX
    have z16 := Hd.mk hz_; clear hz_
    rw [← HOT.out]
    clear hKT
    go_wp2_with fail
    refine ⟨cls_below hS.out, ?_⟩
    (repeat (first | (refine mix_z rfl (by rfl) ?_; go_big_quiet_skip; refine wpQuiet_nil ?_) | (refine mix_q rfl ?_; first | (go_big_quiet_skip; refine wpQuiet_nil ?_) | (go_big_quiet_want; go_big_quiet_op; go_big_quiet_on; refine wpQuiet_nil ?_))))
    refine mix_nil ?_
    clear hS rv10 rv11 rv12 rv13 rv14 rv30 rv31 rv32 rv33 rv34 rv40 rv41 rv42 rv43 rv44
    go_wp2_with fail
    go_ret
    exact ⟨by rfl, hB.out⟩
   ·rw [text_yes HOT.out.symm] at hU
    clear hokt
    obtain ⟨tv3, tv4, _, _, rfl, _, tr3, tr4, _⟩ := tJ_O.1 hU
    obtain ⟨tD3, td3, rfl, _, _⟩ := R_C tr3
    obtain ⟨tD4, td4, rfl, _, _⟩ := R_C tr4
    clear tr3 tr4 hU
    simp only [J.kind_mk, J.n_mk, J.s_mk, J.list_mk, J.names_mk, List.length_nil]
    obtain ⟨v10, v11, v12, v13, v14, v1z⟩ := blk5 b1.out
    go_wp2_with fail
    clear v10 v11 v12 v13 v14 v1z
    apply wp_gen; intro WX hW
    have hz_ : w12.heap.size + 2 ≤ WX.heap.size := by rw [hW]; simp
    have hE : Below w12.heap.size w12 WX := by rw [hW]; (repeat (first | with_reducible refine below_alloc ?_ _ | with_reducible refine below_drew ?_)); exact Below.refl _ _
    have hB := hB.th hE
    have h1B := Hd.mk (below_then h1B.out hE)
    have b1 := b1.dn hE
    have b3 := Hd.mk (show Blk WX (w12.heap.size) #[.int .i64 2, .int .i64 n, .string ⟨#[]⟩, .slice nD3 0 nd3, .slice nD4 0 nd4] 27 by rw [hW]; first | exact ((Blk.new _ _ _).alloc _) | (simpa using ((Blk.new _ _ _).alloc _)))
    have b4 := Hd.mk (show Blk WX (w12.heap.size + 1) #[.int .i64 3, .int .i64 0, .string t, .slice tD3 0 td3, .slice tD4 0 td4] 27 by rw [hW]; first | exact (Blk.new1 _ _ _ _) | (simpa using (Blk.new1 _ _ _ _)))
    clear hW hE
    have z14 := Hd.mk hz_; clear hz_
    obtain ⟨v10, v11, v12, v13, v14, v1z⟩ := blk5 b1.out
    obtain ⟨v30, v31, v32, v33, v34, v3z⟩ := blk5 b3.out
    obtain ⟨v40, v41, v42, v43, v44, v4z⟩ := blk5 b4.out
    obtain ⟨rv10, rv11, rv12, rv13, rv14⟩ := reg5 v10 v11 v12 v13 v14
    obtain ⟨rv30, rv31, rv32, rv33, rv34⟩ := reg5 v30 v31 v32 v33 v34
    obtain ⟨rv40, rv41, rv42, rv43, rv44⟩ := reg5 v40 v41 v42 v43 v44
    refine region_mix [(true, 0), (true, 1), (true, 2), (true, 3), (true, 4), (true, 5), (true, 6), (true, 7), (true, 8), (true, 9), (true, 10), (true, 11), (true, 12), (true, 13), (true, 14), (true, 15), (true, 16), (true, 17), (true, 18), (true, 19), (true, 20), (true, 21), (true, 22), (true, 23), (true, 24), (true, 25), (true, 26), (true, 27), (true, 28), (true, 29), (true, 30), (true, 31), (true, 32), (true, 33), (true, 34), (false, 35), (false, 36), (true, 37), (true, 38), (true, 39)] (by kernel_rfl) (by kernel_rfl) (fun _ _ _ _ _ h => h) ?_
    (repeat (first | (refine mix_z rfl (by rfl) ?_; go_big_quiet_skip; refine wpQuiet_nil ?_) | (refine mix_q rfl ?_; first | (go_big_quiet_skip; refine wpQuiet_nil ?_) | (go_big_quiet_want; go_big_quiet_op; go_big_quiet_on; refine wpQuiet_nil ?_))))
    have hS := Hd.mk (Below.refl WX.heap.size WX)
    refine mix_b rfl ?_ (by rfl)
    go_wp2_with fail
    refine mixQ_n ⟨cls_below (below_drew (Below.refl _ _)), ?_⟩
    (repeat (first | (refine mix_z rfl (by rfl) ?_; go_big_quiet_skip; refine wpQuiet_nil ?_) | (refine mix_q rfl ?_; first | (go_big_quiet_skip; refine wpQuiet_nil ?_) | (go_big_quiet_want; go_big_quiet_op; go_big_quiet_on; refine wpQuiet_nil ?_))))
    refine mix_b rfl ?_ (by rfl)
    go_wp2_with fail
    clear v10 v11 v12 v13 v14 v1z v30 v31 v32 v33 v34 v3z v40 v41 v42 v43 v44 v4z
    apply calls_gen; intro W13 hW
    have hz_ : WX.heap.size ≤ W13.heap.size := by rw [hW]; simp
    have hE : Below WX.heap.size WX W13 := by rw [hW]; (repeat (first | with_reducible refine below_alloc ?_ _ | with_reducible refine below_drew ?_)); exact Below.refl _ _
    have hB := hB.th hE
    have h1B := Hd.mk (below_then h1B.out hE)
    replace hS := Hd.mk (below_then hS.out hE)
    have b1 := b1.dn hE
    have b3 := b3.dn hE
    have b4 := b4.dn hE
    clear hW hE
    have z15 := Hd.mk hz_; clear hz_
    have hKT : (tJ 1).K W13 ⟨3, 0, t, [], []⟩ [.int .i64 3, .int .i64 0, .string t, .slice none 0 0, .slice none 0 0] := tJ_K.2 ⟨none, 0, none, 0, rfl, by show t.size ≤ _; omega, ⟨Nat.le_refl _, C_nil _⟩, Nat.le_refl _, C_nil _⟩
    refine (impl_JsonOk (m := 0) ⟨3, 0, t, [], []⟩ _ _ hKT).mono ?_
    rintro e w14 ⟨rfl, hX⟩
    have b1 := b1.dn hX
    have b3 := b3.dn hX
    have b4 := b4.dn hX
    have hB := hB.th hX
    replace hS := Hd.mk (below_then hS.out hX)
    have hz_ := hX.size
    have h1B := Hd.mk (below_then h1B.out hX)
    clear hX
    have z16 := Hd.mk hz_; clear hz_
    rw [← HOT.out]
    clear hKT
    go_wp2_with fail
    refine ⟨cls_below hS.out, ?_⟩
    (repeat (first | (refine mix_z rfl (by rfl) ?_; go_big_quiet_skip; refine wpQuiet_nil ?_) | (refine mix_q rfl ?_; first | (go_big_quiet_skip; refine wpQuiet_nil ?_) | (go_big_quiet_want; go_big_quiet_op; go_big_quiet_on; refine wpQuiet_nil ?_))))
    refine mix_nil ?_
    clear hS rv10 rv11 rv12 rv13 rv14 rv30 rv31 rv32 rv33 rv34 rv40 rv41 rv42 rv43 rv44
    go_wp2_with fail
    go_ret
    exact ⟨by rfl, hB.out⟩
  ·rw [num_no hn] at hN
   have hng : decide (1000000000 < n) = true ∨ (decide (1000000000 < n) = false ∧ decide (n < -1000000000) = true) := by simp only [decide_eq_true_eq, decide_eq_false_iff_not]; omega
   clear hn
   obtain ⟨nv3, nv4, _, _, rfl, _, nr3, nr4, _⟩ := tJ_O.1 hN
   obtain ⟨nD3, nd3, rfl, _, _⟩ := R_C nr3
   obtain ⟨nD4, nd4, rfl, _, _⟩ := R_C nr4
   clear nr3 nr4 hN
   simp only [J.kind_mk, J.n_mk, J.s_mk, J.list_mk, J.names_mk, List.length_nil]
   obtain ⟨v10, v11, v12, v13, v14, v1z⟩ := blk5 b1.out
   go_wp2_with fail
   clear v10 v11 v12 v13 v14 v1z
   refine (impl_TextOf 0 t (by omega) _).mono ?_
   rintro e w12 ⟨ct, rfl, hU, hX⟩
   have b1 := b1.dn hX
   have hB := hB.th hX
   have hz_ := hX.size
   have h1B := Hd.mk (below_then h1B.out hX)
   clear hX
   have z13 := Hd.mk hz_; clear hz_
   obtain ⟨okt, hokt⟩ : ∃ z, z = jsonOk ⟨3, 0, t, [], []⟩ := ⟨_, rfl⟩
   have HOT := Hd.mk hokt
   cases okt
   ·rw [text_no HOT.out.symm] at hU
    clear hokt
    obtain ⟨tv3, tv4, _, _, rfl, _, tr3, tr4, _⟩ := tJ_O.1 hU
    obtain ⟨tD3, td3, rfl, _, _⟩ := R_C tr3
    obtain ⟨tD4, td4, rfl, _, _⟩ := R_C tr4
    clear tr3 tr4 hU
    simp only [J.kind_mk, J.n_mk, J.s_mk, J.list_mk, J.names_mk, List.length_nil]
    obtain ⟨v10, v11, v12, v13, v14, v1z⟩ := blk5 b1.out
    go_wp2_with fail
    clear v10 v11 v12 v13 v14 v1z
    apply wp_gen; intro WX hW
    have hz_ : w12.heap.size + 2 ≤ WX.heap.size := by rw [hW]; simp
    have hE : Below w12.heap.size w12 WX := by rw [hW]; (repeat (first | with_reducible refine below_alloc ?_ _ | with_reducible refine below_drew ?_)); exact Below.refl _ _
    have hB := hB.th hE
    have h1B := Hd.mk (below_then h1B.out hE)
    have b1 := b1.dn hE
    have b3 := Hd.mk (show Blk WX (w12.heap.size) #[.int .i64 0, .int .i64 0, .string ⟨#[]⟩, .slice nD3 0 nd3, .slice nD4 0 nd4] 27 by rw [hW]; first | exact ((Blk.new _ _ _).alloc _) | (simpa using ((Blk.new _ _ _).alloc _)))
    have b4 := Hd.mk (show Blk WX (w12.heap.size + 1) #[.int .i64 0, .int .i64 0, .string ⟨#[]⟩, .slice tD3 0 td3, .slice tD4 0 td4] 27 by rw [hW]; first | exact (Blk.new1 _ _ _ _) | (simpa using (Blk.new1 _ _ _ _)))
    clear hW hE
    have z14 := Hd.mk hz_; clear hz_
    rcases hng with hng | ⟨hng, hng2⟩
    ·have v10 : WX.cell? ⟨w3.heap.size, 0, none⟩ = some (.int .i64 f.kind) := b1.out.cell 0 rfl
     have v11 : WX.cell? ⟨w3.heap.size, 1, none⟩ = some (.int .i64 f.n) := b1.out.cell 1 rfl
     have v12 : WX.cell? ⟨w3.heap.size, 2, none⟩ = some (.string f.s) := b1.out.cell 2 rfl
     have v13 : WX.cell? ⟨w3.heap.size, 3, none⟩ = some (.slice fD3 f.list.length fd3) := b1.out.cell 3 rfl
     have v14 : WX.cell? ⟨w3.heap.size, 4, none⟩ = some (.slice fD4 f.names.length fd4) := b1.out.cell 4 rfl
     have v1z := b1.out.frozen
     obtain ⟨v30, v31, v32, v33, v34, v3z⟩ := blk5 b3.out
     obtain ⟨v40, v41, v42, v43, v44, v4z⟩ := blk5 b4.out
     obtain ⟨rv10, rv11, rv12, rv13, rv14⟩ := reg5 v10 v11 v12 v13 v14
     obtain ⟨rv30, rv31, rv32, rv33, rv34⟩ := reg5 v30 v31 v32 v33 v34
     obtain ⟨rv40, rv41, rv42, rv43, rv44⟩ := reg5 v40 v41 v42 v43 v44
     refine region_mix [(true, 0), (true, 1), (true, 2), (true, 3), (true, 4), (true, 5), (true, 6), (true, 7), (true, 8), (true, 9), (true, 10), (true, 11), (true, 12), (true, 13), (true, 14), (true, 15), (true, 16), (true, 17), (true, 18), (true, 19), (true, 20), (true, 21), (true, 22), (true, 23), (true, 24), (true, 25), (true, 26), (true, 27), (true, 28), (true, 29), (true, 30), (true, 31), (true, 32), (true, 33), (true, 34), (false, 35), (false, 36), (true, 37), (true, 38), (true, 39)] (by kernel_rfl) (by kernel_rfl) (fun _ _ _ _ _ h => h) ?_
     (repeat (first | (refine mix_z rfl (by rfl) ?_; go_big_quiet_skip; refine wpQuiet_nil ?_) | (refine mix_q rfl ?_; first | (go_big_quiet_skip; refine wpQuiet_nil ?_) | (go_big_quiet_want; go_big_quiet_op; go_big_quiet_on; refine wpQuiet_nil ?_))))
     have hS := Hd.mk (Below.refl WX.heap.size WX)
     refine mix_b rfl ?_ (by rfl)
     go_wp2_with fail
     refine mixQ_n ⟨cls_below (below_drew (Below.refl _ _)), ?_⟩
     (repeat (first | (refine mix_z rfl (by rfl) ?_; go_big_quiet_skip; refine wpQuiet_nil ?_) | (refine mix_q rfl ?_; first | (go_big_quiet_skip; refine wpQuiet_nil ?_) | (go_big_quiet_want; go_big_quiet_op; go_big_quiet_on; refine wpQuiet_nil ?_))))
     refine mix_b rfl ?_ (by rfl)
     go_wp2_with fail
     clear v10 v11 v12 v13 v14 v1z v30 v31 v32 v33 v34 v3z v40 v41 v42 v43 v44 v4z
     apply calls_gen; intro W13 hW
     have hz_ : WX.heap.size ≤ W13.heap.size := by rw [hW]; simp
     have hE : Below WX.heap.size WX W13 := by rw [hW]; (repeat (first | with_reducible refine below_alloc ?_ _ | with_reducible refine below_drew ?_)); exact Below.refl _ _
     have hB := hB.th hE
     have h1B := Hd.mk (below_then h1B.out hE)
     replace hS := Hd.mk (below_then hS.out hE)
     have b1 := b1.dn hE
     have b3 := b3.dn hE
     have b4 := b4.dn hE
     clear hW hE
     have z15 := Hd.mk hz_; clear hz_
     have hKT : (tJ 1).K W13 ⟨3, 0, t, [], []⟩ [.int .i64 3, .int .i64 0, .string t, .slice none 0 0, .slice none 0 0] := tJ_K.2 ⟨none, 0, none, 0, rfl, by show t.size ≤ _; omega, ⟨Nat.le_refl _, C_nil _⟩, Nat.le_refl _, C_nil _⟩
     refine (impl_JsonOk (m := 0) ⟨3, 0, t, [], []⟩ _ _ hKT).mono ?_
     rintro e w14 ⟨rfl, hX⟩
     have b1 := b1.dn hX
     have b3 := b3.dn hX
     have b4 := b4.dn hX
     have hB := hB.th hX
     replace hS := Hd.mk (below_then hS.out hX)
     have hz_ := hX.size
     have h1B := Hd.mk (below_then h1B.out hX)
     clear hX
     have z16 := Hd.mk hz_; clear hz_
     rw [← HOT.out]
     clear hKT
     go_wp2_with fail
     refine ⟨cls_below hS.out, ?_⟩
     (repeat (first | (refine mix_z rfl (by rfl) ?_; go_big_quiet_skip; refine wpQuiet_nil ?_) | (refine mix_q rfl ?_; first | (go_big_quiet_skip; refine wpQuiet_nil ?_) | (go_big_quiet_want; go_big_quiet_op; go_big_quiet_on; refine wpQuiet_nil ?_))))
     refine mix_nil ?_
     clear hS rv10 rv11 rv12 rv13 rv14 rv30 rv31 rv32 rv33 rv34 rv40 rv41 rv42 rv43 rv44
     go_wp2_with fail
     go_ret
     exact ⟨by rfl, hB.out⟩
    ·have v10 : WX.cell? ⟨w3.heap.size, 0, none⟩ = some (.int .i64 f.kind) := b1.out.cell 0 rfl
     have v11 : WX.cell? ⟨w3.heap.size, 1, none⟩ = some (.int .i64 f.n) := b1.out.cell 1 rfl
     have v12 : WX.cell? ⟨w3.heap.size, 2, none⟩ = some (.string f.s) := b1.out.cell 2 rfl
     have v13 : WX.cell? ⟨w3.heap.size, 3, none⟩ = some (.slice fD3 f.list.length fd3) := b1.out.cell 3 rfl
     have v14 : WX.cell? ⟨w3.heap.size, 4, none⟩ = some (.slice fD4 f.names.length fd4) := b1.out.cell 4 rfl
     have v1z := b1.out.frozen
     obtain ⟨v30, v31, v32, v33, v34, v3z⟩ := blk5 b3.out
     obtain ⟨v40, v41, v42, v43, v44, v4z⟩ := blk5 b4.out
     obtain ⟨rv10, rv11, rv12, rv13, rv14⟩ := reg5 v10 v11 v12 v13 v14
     obtain ⟨rv30, rv31, rv32, rv33, rv34⟩ := reg5 v30 v31 v32 v33 v34
     obtain ⟨rv40, rv41, rv42, rv43, rv44⟩ := reg5 v40 v41 v42 v43 v44
     refine region_mix [(true, 0), (true, 1), (true, 2), (true, 3), (true, 4), (true, 5), (true, 6), (true, 7), (true, 8), (true, 9), (true, 10), (true, 11), (true, 12), (true, 13), (true, 14), (true, 15), (true, 16), (true, 17), (true, 18), (true, 19), (true, 20), (true, 21), (true, 22), (true, 23), (true, 24), (true, 25), (true, 26), (true, 27), (true, 28), (true, 29), (true, 30), (true, 31), (true, 32), (true, 33), (true, 34), (false, 35), (false, 36), (true, 37), (true, 38), (true, 39)] (by kernel_rfl) (by kernel_rfl) (fun _ _ _ _ _ h => h) ?_
     (repeat (first | (refine mix_z rfl (by rfl) ?_; go_big_quiet_skip; refine wpQuiet_nil ?_) | (refine mix_q rfl ?_; first | (go_big_quiet_skip; refine wpQuiet_nil ?_) | (go_big_quiet_want; go_big_quiet_op; go_big_quiet_on; refine wpQuiet_nil ?_))))
     have hS := Hd.mk (Below.refl WX.heap.size WX)
     refine mix_b rfl ?_ (by rfl)
     go_wp2_with fail
     refine mixQ_n ⟨cls_below (below_drew (Below.refl _ _)), ?_⟩
     (repeat (first | (refine mix_z rfl (by rfl) ?_; go_big_quiet_skip; refine wpQuiet_nil ?_) | (refine mix_q rfl ?_; first | (go_big_quiet_skip; refine wpQuiet_nil ?_) | (go_big_quiet_want; go_big_quiet_op; go_big_quiet_on; refine wpQuiet_nil ?_))))
     refine mix_b rfl ?_ (by rfl)
     go_wp2_with fail
     clear v10 v11 v12 v13 v14 v1z v30 v31 v32 v33 v34 v3z v40 v41 v42 v43 v44 v4z
     apply calls_gen; intro W13 hW
     have hz_ : WX.heap.size ≤ W13.heap.size := by rw [hW]; simp
     have hE : Below WX.heap.size WX W13 := by rw [hW]; (repeat (first | with_reducible refine below_alloc ?_ _ | with_reducible refine below_drew ?_)); exact Below.refl _ _
     have hB := hB.th hE
     have h1B := Hd.mk (below_then h1B.out hE)
     replace hS := Hd.mk (below_then hS.out hE)
     have b1 := b1.dn hE
     have b3 := b3.dn hE
     have b4 := b4.dn hE
     clear hW hE
     have z15 := Hd.mk hz_; clear hz_
     have hKT : (tJ 1).K W13 ⟨3, 0, t, [], []⟩ [.int .i64 3, .int .i64 0, .string t, .slice none 0 0, .slice none 0 0] := tJ_K.2 ⟨none, 0, none, 0, rfl, by show t.size ≤ _; omega, ⟨Nat.le_refl _, C_nil _⟩, Nat.le_refl _, C_nil _⟩
     refine (impl_JsonOk (m := 0) ⟨3, 0, t, [], []⟩ _ _ hKT).mono ?_
     rintro e w14 ⟨rfl, hX⟩
     have b1 := b1.dn hX
     have b3 := b3.dn hX
     have b4 := b4.dn hX
     have hB := hB.th hX
     replace hS := Hd.mk (below_then hS.out hX)
     have hz_ := hX.size
     have h1B := Hd.mk (below_then h1B.out hX)
     clear hX
     have z16 := Hd.mk hz_; clear hz_
     rw [← HOT.out]
     clear hKT
     go_wp2_with fail
     refine ⟨cls_below hS.out, ?_⟩
     (repeat (first | (refine mix_z rfl (by rfl) ?_; go_big_quiet_skip; refine wpQuiet_nil ?_) | (refine mix_q rfl ?_; first | (go_big_quiet_skip; refine wpQuiet_nil ?_) | (go_big_quiet_want; go_big_quiet_op; go_big_quiet_on; refine wpQuiet_nil ?_))))
     refine mix_nil ?_
     clear hS rv10 rv11 rv12 rv13 rv14 rv30 rv31 rv32 rv33 rv34 rv40 rv41 rv42 rv43 rv44
     go_wp2_with fail
     go_ret
     exact ⟨by rfl, hB.out⟩
   ·rw [text_yes HOT.out.symm] at hU
    clear hokt
    obtain ⟨tv3, tv4, _, _, rfl, _, tr3, tr4, _⟩ := tJ_O.1 hU
    obtain ⟨tD3, td3, rfl, _, _⟩ := R_C tr3
    obtain ⟨tD4, td4, rfl, _, _⟩ := R_C tr4
    clear tr3 tr4 hU
    simp only [J.kind_mk, J.n_mk, J.s_mk, J.list_mk, J.names_mk, List.length_nil]
    obtain ⟨v10, v11, v12, v13, v14, v1z⟩ := blk5 b1.out
    go_wp2_with fail
    clear v10 v11 v12 v13 v14 v1z
    apply wp_gen; intro WX hW
    have hz_ : w12.heap.size + 2 ≤ WX.heap.size := by rw [hW]; simp
    have hE : Below w12.heap.size w12 WX := by rw [hW]; (repeat (first | with_reducible refine below_alloc ?_ _ | with_reducible refine below_drew ?_)); exact Below.refl _ _
    have hB := hB.th hE
    have h1B := Hd.mk (below_then h1B.out hE)
    have b1 := b1.dn hE
    have b3 := Hd.mk (show Blk WX (w12.heap.size) #[.int .i64 0, .int .i64 0, .string ⟨#[]⟩, .slice nD3 0 nd3, .slice nD4 0 nd4] 27 by rw [hW]; first | exact ((Blk.new _ _ _).alloc _) | (simpa using ((Blk.new _ _ _).alloc _)))
    have b4 := Hd.mk (show Blk WX (w12.heap.size + 1) #[.int .i64 3, .int .i64 0, .string t, .slice tD3 0 td3, .slice tD4 0 td4] 27 by rw [hW]; first | exact (Blk.new1 _ _ _ _) | (simpa using (Blk.new1 _ _ _ _)))
    clear hW hE
    have z14 := Hd.mk hz_; clear hz_
    rcases hng with hng | ⟨hng, hng2⟩
    ·have v10 : WX.cell? ⟨w3.heap.size, 0, none⟩ = some (.int .i64 f.kind) := b1.out.cell 0 rfl
     have v11 : WX.cell? ⟨w3.heap.size, 1, none⟩ = some (.int .i64 f.n) := b1.out.cell 1 rfl
     have v12 : WX.cell? ⟨w3.heap.size, 2, none⟩ = some (.string f.s) := b1.out.cell 2 rfl
     have v13 : WX.cell? ⟨w3.heap.size, 3, none⟩ = some (.slice fD3 f.list.length fd3) := b1.out.cell 3 rfl
     have v14 : WX.cell? ⟨w3.heap.size, 4, none⟩ = some (.slice fD4 f.names.length fd4) := b1.out.cell 4 rfl
     have v1z := b1.out.frozen
     obtain ⟨v30, v31, v32, v33, v34, v3z⟩ := blk5 b3.out
     obtain ⟨v40, v41, v42, v43, v44, v4z⟩ := blk5 b4.out
     obtain ⟨rv10, rv11, rv12, rv13, rv14⟩ := reg5 v10 v11 v12 v13 v14
     obtain ⟨rv30, rv31, rv32, rv33, rv34⟩ := reg5 v30 v31 v32 v33 v34
     obtain ⟨rv40, rv41, rv42, rv43, rv44⟩ := reg5 v40 v41 v42 v43 v44
     refine region_mix [(true, 0), (true, 1), (true, 2), (true, 3), (true, 4), (true, 5), (true, 6), (true, 7), (true, 8), (true, 9), (true, 10), (true, 11), (true, 12), (true, 13), (true, 14), (true, 15), (true, 16), (true, 17), (true, 18), (true, 19), (true, 20), (true, 21), (true, 22), (true, 23), (true, 24), (true, 25), (true, 26), (true, 27), (true, 28), (true, 29), (true, 30), (true, 31), (true, 32), (true, 33), (true, 34), (false, 35), (false, 36), (true, 37), (true, 38), (true, 39)] (by kernel_rfl) (by kernel_rfl) (fun _ _ _ _ _ h => h) ?_
     (repeat (first | (refine mix_z rfl (by rfl) ?_; go_big_quiet_skip; refine wpQuiet_nil ?_) | (refine mix_q rfl ?_; first | (go_big_quiet_skip; refine wpQuiet_nil ?_) | (go_big_quiet_want; go_big_quiet_op; go_big_quiet_on; refine wpQuiet_nil ?_))))
     have hS := Hd.mk (Below.refl WX.heap.size WX)
     refine mix_b rfl ?_ (by rfl)
     go_wp2_with fail
     refine mixQ_n ⟨cls_below (below_drew (Below.refl _ _)), ?_⟩
     (repeat (first | (refine mix_z rfl (by rfl) ?_; go_big_quiet_skip; refine wpQuiet_nil ?_) | (refine mix_q rfl ?_; first | (go_big_quiet_skip; refine wpQuiet_nil ?_) | (go_big_quiet_want; go_big_quiet_op; go_big_quiet_on; refine wpQuiet_nil ?_))))
     refine mix_b rfl ?_ (by rfl)
     go_wp2_with fail
     clear v10 v11 v12 v13 v14 v1z v30 v31 v32 v33 v34 v3z v40 v41 v42 v43 v44 v4z
     apply calls_gen; intro W13 hW
     have hz_ : WX.heap.size ≤ W13.heap.size := by rw [hW]; simp
     have hE : Below WX.heap.size WX W13 := by rw [hW]; (repeat (first | with_reducible refine below_alloc ?_ _ | with_reducible refine below_drew ?_)); exact Below.refl _ _
     have hB := hB.th hE
     have h1B := Hd.mk (below_then h1B.out hE)
     replace hS := Hd.mk (below_then hS.out hE)
     have b1 := b1.dn hE
     have b3 := b3.dn hE
     have b4 := b4.dn hE
     clear hW hE
     have z15 := Hd.mk hz_; clear hz_
     have hKT : (tJ 1).K W13 ⟨3, 0, t, [], []⟩ [.int .i64 3, .int .i64 0, .string t, .slice none 0 0, .slice none 0 0] := tJ_K.2 ⟨none, 0, none, 0, rfl, by show t.size ≤ _; omega, ⟨Nat.le_refl _, C_nil _⟩, Nat.le_refl _, C_nil _⟩
     refine (impl_JsonOk (m := 0) ⟨3, 0, t, [], []⟩ _ _ hKT).mono ?_
     rintro e w14 ⟨rfl, hX⟩
     have b1 := b1.dn hX
     have b3 := b3.dn hX
     have b4 := b4.dn hX
     have hB := hB.th hX
     replace hS := Hd.mk (below_then hS.out hX)
     have hz_ := hX.size
     have h1B := Hd.mk (below_then h1B.out hX)
     clear hX
     have z16 := Hd.mk hz_; clear hz_
     rw [← HOT.out]
     clear hKT
     go_wp2_with fail
     refine ⟨cls_below hS.out, ?_⟩
     (repeat (first | (refine mix_z rfl (by rfl) ?_; go_big_quiet_skip; refine wpQuiet_nil ?_) | (refine mix_q rfl ?_; first | (go_big_quiet_skip; refine wpQuiet_nil ?_) | (go_big_quiet_want; go_big_quiet_op; go_big_quiet_on; refine wpQuiet_nil ?_))))
     refine mix_nil ?_
     clear hS rv10 rv11 rv12 rv13 rv14 rv30 rv31 rv32 rv33 rv34 rv40 rv41 rv42 rv43 rv44
     go_wp2_with fail
     go_ret
     exact ⟨by rfl, hB.out⟩
    ·have v10 : WX.cell? ⟨w3.heap.size, 0, none⟩ = some (.int .i64 f.kind) := b1.out.cell 0 rfl
     have v11 : WX.cell? ⟨w3.heap.size, 1, none⟩ = some (.int .i64 f.n) := b1.out.cell 1 rfl
     have v12 : WX.cell? ⟨w3.heap.size, 2, none⟩ = some (.string f.s) := b1.out.cell 2 rfl
     have v13 : WX.cell? ⟨w3.heap.size, 3, none⟩ = some (.slice fD3 f.list.length fd3) := b1.out.cell 3 rfl
     have v14 : WX.cell? ⟨w3.heap.size, 4, none⟩ = some (.slice fD4 f.names.length fd4) := b1.out.cell 4 rfl
     have v1z := b1.out.frozen
     obtain ⟨v30, v31, v32, v33, v34, v3z⟩ := blk5 b3.out
     obtain ⟨v40, v41, v42, v43, v44, v4z⟩ := blk5 b4.out
     obtain ⟨rv10, rv11, rv12, rv13, rv14⟩ := reg5 v10 v11 v12 v13 v14
     obtain ⟨rv30, rv31, rv32, rv33, rv34⟩ := reg5 v30 v31 v32 v33 v34
     obtain ⟨rv40, rv41, rv42, rv43, rv44⟩ := reg5 v40 v41 v42 v43 v44
     refine region_mix [(true, 0), (true, 1), (true, 2), (true, 3), (true, 4), (true, 5), (true, 6), (true, 7), (true, 8), (true, 9), (true, 10), (true, 11), (true, 12), (true, 13), (true, 14), (true, 15), (true, 16), (true, 17), (true, 18), (true, 19), (true, 20), (true, 21), (true, 22), (true, 23), (true, 24), (true, 25), (true, 26), (true, 27), (true, 28), (true, 29), (true, 30), (true, 31), (true, 32), (true, 33), (true, 34), (false, 35), (false, 36), (true, 37), (true, 38), (true, 39)] (by kernel_rfl) (by kernel_rfl) (fun _ _ _ _ _ h => h) ?_
     (repeat (first | (refine mix_z rfl (by rfl) ?_; go_big_quiet_skip; refine wpQuiet_nil ?_) | (refine mix_q rfl ?_; first | (go_big_quiet_skip; refine wpQuiet_nil ?_) | (go_big_quiet_want; go_big_quiet_op; go_big_quiet_on; refine wpQuiet_nil ?_))))
     have hS := Hd.mk (Below.refl WX.heap.size WX)
     refine mix_b rfl ?_ (by rfl)
     go_wp2_with fail
     refine mixQ_n ⟨cls_below (below_drew (Below.refl _ _)), ?_⟩
     (repeat (first | (refine mix_z rfl (by rfl) ?_; go_big_quiet_skip; refine wpQuiet_nil ?_) | (refine mix_q rfl ?_; first | (go_big_quiet_skip; refine wpQuiet_nil ?_) | (go_big_quiet_want; go_big_quiet_op; go_big_quiet_on; refine wpQuiet_nil ?_))))
     refine mix_b rfl ?_ (by rfl)
     go_wp2_with fail
     clear v10 v11 v12 v13 v14 v1z v30 v31 v32 v33 v34 v3z v40 v41 v42 v43 v44 v4z
     apply calls_gen; intro W13 hW
     have hz_ : WX.heap.size ≤ W13.heap.size := by rw [hW]; simp
     have hE : Below WX.heap.size WX W13 := by rw [hW]; (repeat (first | with_reducible refine below_alloc ?_ _ | with_reducible refine below_drew ?_)); exact Below.refl _ _
     have hB := hB.th hE
     have h1B := Hd.mk (below_then h1B.out hE)
     replace hS := Hd.mk (below_then hS.out hE)
     have b1 := b1.dn hE
     have b3 := b3.dn hE
     have b4 := b4.dn hE
     clear hW hE
     have z15 := Hd.mk hz_; clear hz_
     have hKT : (tJ 1).K W13 ⟨3, 0, t, [], []⟩ [.int .i64 3, .int .i64 0, .string t, .slice none 0 0, .slice none 0 0] := tJ_K.2 ⟨none, 0, none, 0, rfl, by show t.size ≤ _; omega, ⟨Nat.le_refl _, C_nil _⟩, Nat.le_refl _, C_nil _⟩
     refine (impl_JsonOk (m := 0) ⟨3, 0, t, [], []⟩ _ _ hKT).mono ?_
     rintro e w14 ⟨rfl, hX⟩
     have b1 := b1.dn hX
     have b3 := b3.dn hX
     have b4 := b4.dn hX
     have hB := hB.th hX
     replace hS := Hd.mk (below_then hS.out hX)
     have hz_ := hX.size
     have h1B := Hd.mk (below_then h1B.out hX)
     clear hX
     have z16 := Hd.mk hz_; clear hz_
     rw [← HOT.out]
     clear hKT
     go_wp2_with fail
     refine ⟨cls_below hS.out, ?_⟩
     (repeat (first | (refine mix_z rfl (by rfl) ?_; go_big_quiet_skip; refine wpQuiet_nil ?_) | (refine mix_q rfl ?_; first | (go_big_quiet_skip; refine wpQuiet_nil ?_) | (go_big_quiet_want; go_big_quiet_op; go_big_quiet_on; refine wpQuiet_nil ?_))))
     refine mix_nil ?_
     clear hS rv10 rv11 rv12 rv13 rv14 rv30 rv31 rv32 rv33 rv34 rv40 rv41 rv42 rv43 rv44
     go_wp2_with fail
     go_ret
     exact ⟨by rfl, hB.out⟩
end Go.Proofs.YtoaifagjdjgcbaaDoor.X
namespace Go.Proofs.YtoaifagjdjgcbaaDoor.X
open Go.RowKit
set_option linter.unusedVariables false
set_option linter.unusedSimpArgs false
open Ty
def Opens {α : Type} (d : Ty α) (P : Program) (t : TypeId) (wf : α → Prop) (B : Nat) : Prop :=
 ∀ (H : Type) (enc : TypeId × Value → H) (W : World) (base : Nat) (spare : Nat → Bool) (held : Bool) (fuel : Nat) (_ : fuel ≤ B) (cs : List Value) (x : DataW H × List MemPlace),
  DataW.trod enc P W base spare held fuel t cs = some x → ∃ v : α, d.K W v cs ∧ wf v
section
variable {P : Program} {t e : TypeId} {B : Nat}
theorem opens_int (ht : P.underlying t = some (.int .i64)) : Opens int P t (fun n => -9223372036854775808 ≤ n ∧ n ≤ 9223372036854775807) B := by
 intro H enc W base spare held fuel hB cs x h
 obtain ⟨n, rfl, _, hw⟩ := DataW.trod_int ht h
 exact ⟨n, rfl, bounds_i64 hw⟩
theorem opens_bool (ht : P.underlying t = some .bool) : Opens Ty.bool P t (fun _ => True) B := by
 intro H enc W base spare held fuel hB cs x h
 obtain ⟨n, rfl, _⟩ := DataW.trod_bool ht h
 exact ⟨n, rfl, trivial⟩
theorem opens_str (ht : P.underlying t = some .string) : Opens str P t (fun s => s.size ≤ 9223372036854775807) B := by
 intro H enc W base spare held fuel hB cs x h
 obtain ⟨s, rfl, _, hs⟩ := DataW.trod_string ht h
 exact ⟨s, ⟨rfl, by simpa [maxLen] using hs⟩, by simpa [maxLen] using hs⟩
theorem opens_sl {α : Type} {d : Ty α} {wf : α → Prop} {e' : TypeId} (ht : P.underlying t = some (.slice e)) (hc : P.cellsOf e = d.sz) (ho : Opens d P e wf B) : Opens (sl e' d) P t (fun l => ∀ x ∈ l, wf x) B := by
 intro H enc W base spare held fuel hB cs x h
 rcases DataW.trod_slice ht h with ⟨rfl, _⟩ | ⟨a, len, cap, elems, rest, n, hfu, rfl, _, hb, hl, hm, hel, hx, _⟩
 ·exact ⟨[], ⟨none, 0, rfl, Nat.le_refl _, C_nil _⟩, by simp⟩
 ·have key : ∀ i, i < len → ∃ (v : α) (cs : List Value), d.K W v cs ∧ wf v ∧ ∀ j u, cs[j]? = some u → W.cell? (a.add (i * d.sz + j)) = some u := by
   intro i hi
   have h1 := hx i hi
   rw [List.getElem?_eq_getElem (by omega)] at h1
   obtain ⟨cs, h2, h3⟩ := Option.bind_eq_some_iff.1 h1
   obtain ⟨_, h4, h5⟩ := World.cells?_some h2
   obtain ⟨v, hk, hw⟩ := ho H enc W base spare held n (by omega) cs _ h3
   refine ⟨v, cs, hk, hw, fun j u hu => ?_⟩
   have hj : j < cs.length := (List.getElem?_eq_some_iff.1 hu).1
   rw [← hc, ← Addr.add_add, h5 j (by omega), hu]
  have hg : ∀ i x, (List.ofFn (fun i : Fin len => Classical.choose (key i i.2)))[i]? = some x → ∃ hi : i < len, x = Classical.choose (key i hi) := by
   intro i x hi
   rw [List.getElem?_ofFn] at hi
   split at hi
   ·rename_i h1; injection hi with hi; exact ⟨h1, hi.symm⟩
   ·cases hi
  have hll : (List.ofFn (fun i : Fin len => Classical.choose (key i i.2))).length = len := by simp
  refine ⟨List.ofFn (fun i : Fin len => Classical.choose (key i i.2)), ⟨some a, cap, by rw [hll], by rw [hll]; exact hl, by rw [hll]; simp only [maxLen] at hm; omega, fun i x hi => ?_⟩, fun x hx => ?_⟩
  ·obtain ⟨h1, rfl⟩ := hg i x hi
   obtain ⟨cs, hk, _, hcell⟩ := Classical.choose_spec (key i h1)
   exact ⟨a, cs, rfl, hk, hcell⟩
  ·obtain ⟨i, hi⟩ := List.mem_iff_getElem?.1 hx
   obtain ⟨h1, rfl⟩ := hg i x hi
   obtain ⟨cs, _, hw, _⟩ := Classical.choose_spec (key i h1)
   exact hw
theorem pr_split {α β : Type} {a : Ty α} {b : Ty β} {w : World} {x : α} {y : β} {cs : List Value} (k : Nat) (h1 : a.K w x (cs.take k)) (h2 : b.K w y (cs.drop k)) : (pr a b).K w (x, y) cs :=
 ⟨_, _, (List.take_append_drop k cs).symm, h1, h2⟩
theorem opens_fields {H : Type} {enc : TypeId × Value → H} {W : World} {base : Nat} {spare : Nat → Bool} {held : Bool} {fuel : Nat} {cs : List Value} {x : DataW H × List MemPlace} {fs : Array Field} (ht : P.underlying t = some (.struct fs)) (h : DataW.trod enc P W base spare held fuel t cs = some x) :
  cs.length = P.cellsOf t ∧ ∃ n, n < fuel ∧ ∀ (i : Nat) (f : Field), fs[i]? = some f → ∃ y, DataW.trod enc P W base spare held n f.type ((cs.drop f.offset).take (P.cellsOf f.type)) = some y := by
 obtain ⟨xs, n, hfu, _, hl, hxl, hf⟩ := DataW.trod_struct ht h
 refine ⟨hl, n, by omega, fun i f hi => ?_⟩
 have := hf i f hi
 rw [List.getElem?_eq_getElem (by rw [hxl]; exact (Array.getElem?_eq_some_iff.1 hi).1)] at this
 exact ⟨_, this⟩
end
open Go.RowKit
def I64 (n : Int) : Prop := -9223372036854775808 ≤ n ∧ n ≤ 9223372036854775807
theorem cells_int : Tryd.prog.cellsOf 3 = 1 := by kernel_rfl
theorem o_int (B : Nat) : Opens int Tryd.prog 3 (I64) B := opens_int Tryd.underlying3
theorem cells_bool : Tryd.prog.cellsOf 4 = 1 := by kernel_rfl
theorem o_bool (B : Nat) : Opens Ty.bool Tryd.prog 4 (fun _ => True) B := opens_bool Tryd.underlying4
theorem cells_ints : Tryd.prog.cellsOf 64 = 1 := by kernel_rfl
theorem o_ints (B : Nat) : Opens (sl 3 int) Tryd.prog 64 (fun l => ∀ x ∈ l, I64 x) B := opens_sl Tryd.underlying64 cells_int (o_int B)
theorem cells_str : Tryd.prog.cellsOf 9 = 1 := by kernel_rfl
theorem o_str (B : Nat) : Opens str Tryd.prog 9 (fun s => s.size ≤ 9223372036854775807) B := opens_str Tryd.underlying9
theorem cells_strs : Tryd.prog.cellsOf 25 = 1 := by kernel_rfl
theorem o_strs (B : Nat) : Opens (sl 9 str) Tryd.prog 25 (fun l => ∀ x ∈ l, x.size ≤ 9223372036854775807) B := opens_sl Tryd.underlying25 cells_str (o_str B)
/-! The program's head says 'cut': read off its first word alone (the kernel doesn't walk the whole text of the head). -/
theorem cut_of {P : Program} (l : List Char) (h : P.initOrder = String.ofList l) (h2 : ((behindMainWord (wordsSigns l)).head? == some "cut".toList) = true) : ∃ rest, behindMainWord (wordsSigns P.initOrder.toList) = "cut".toList :: rest := by
 rw [h, String.toList_ofList]
 cases hb : behindMainWord (wordsSigns l) with
 | nil => rw [hb] at h2; cases h2
 | cons c r =>
  rw [hb] at h2
  have : c = "cut".toList := by simpa using h2
  exact ⟨r, by rw [this]⟩
theorem make_cut {P : Program} (h : ∃ rest, behindMainWord (wordsSigns P.initOrder.toList) = "cut".toList :: rest) : P.make = some .cut := by
 obtain ⟨r, h⟩ := h
 unfold Program.make
 rw [h]
 rfl
theorem lifts_cut {P : Program} (h : ∃ rest, behindMainWord (wordsSigns P.initOrder.toList) = "cut".toList :: rest) : P.headLifts = [] := by
 obtain ⟨r, h⟩ := h
 unfold Program.headLifts
 rw [h]
 rfl
theorem final_cut {P : Program} (h : ∃ rest, behindMainWord (wordsSigns P.initOrder.toList) = "cut".toList :: rest) : P.liftsFinal = false := by
 have h1 := lifts_cut h
 obtain ⟨r, h⟩ := h
 unfold Program.liftsFinal
 rw [h1, h]
 rfl
theorem enter_cut {P : Program} (h : ∃ rest, behindMainWord (wordsSigns P.initOrder.toList) = "cut".toList :: rest) (h2 : (!P.laysLater && !P.bearsReflect && P.doorFits []) = true) : P.mayEnter = true := by
 obtain ⟨r, h⟩ := h
 simp only [Bool.and_eq_true] at h2
 unfold Program.mayEnter
 rw [h]
 have e : stripLifts liftWords ("cut".toList :: r) = ([], "cut".toList :: r) := rfl
 simp only [e, h2.1.1, h2.1.2, h2.2]
 rfl
set_option maxRecDepth 100000 in
theorem head_cut : ∃ rest, behindMainWord (wordsSigns Tryd.prog.initOrder.toList) = "cut".toList :: rest := cut_of _ rfl (by kernel_rfl)
theorem enter_ : Tryd.prog.mayEnter = true := enter_cut head_cut (by kernel_rfl)
theorem final_ : (false == Tryd.prog.liftsFinal) = true := by rw [final_cut head_cut]; rfl
theorem make_ : (Tryd.prog.make == some .cut) = true := by rw [make_cut head_cut]; rfl
theorem andB {a b : Bool} (ha : a = true) (hb : b = true) : (a && b) = true := by rw [ha, hb]; rfl
theorem opens_u8 {P : Program} {t : TypeId} {B : Nat} (ht : P.underlying t = some (.int .u8)) : Opens u8 P t (fun _ => True) B := by
 intro H enc W base spare held fuel hB cs x h
 obtain ⟨n, rfl, _, _⟩ := DataW.trod_int ht h
 exact ⟨n, rfl, trivial⟩
theorem cells_u8 : Tryd.prog.cellsOf 5 = 1 := by kernel_rfl
theorem o_bytes (B : Nat) : Opens (sl 5 u8) Tryd.prog 22 (fun l => ∀ x ∈ l, True) B := opens_sl Tryd.underlying22 cells_u8 (opens_u8 Tryd.underlying5)
end Go.Proofs.YtoaifagjdjgcbaaDoor.X
