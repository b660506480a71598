/- What is proved here: lemmas about the functions that the statement reaches, and what they compute (part 4). Conditions: none. -/
import Derived.Test.YtlkjpnlpankhpaaM3
import Derived.Test.YtlkjpnlpankhpaaM2
import Derived.Test.YtlkjpnlpankhpaaM1
namespace Go.Proofs.Ytlkjpnlpankhpaa.X
open Go.RowKit Go.Sort
set_option linter.unusedVariables false
set_option linter.unusedSimpArgs false
open Ty
theorem R_two {α : Type} {d : Ty α} {e : TypeId} {w : World} {S : Nat → Prop} {A : Option Addr} {n c : Nat} {xs : List α} (h : d.R e w S (.slice A n c) xs) : (A = none ∧ xs = [] ∧ c = 0) ∨ ∃ g, A = some ⟨g, 0, none⟩ ∧ xs.length ≤ c := by
 obtain ⟨inner, f, ho, hv, hE⟩ := h
 rcases ho.2 with ⟨h1, h0⟩ | ⟨g, cap, cur, h1, hg, hh, h2, h3, h4⟩
 ·injection h1 with h1 h2 h3
  exact .inl ⟨h1, List.eq_nil_of_length_eq_zero h0, h3⟩
 ·injection h1 with h1 h2 h3
  subst h3
  exact .inr ⟨g, h1, by omega⟩
set_option maxHeartbeats 2000000 in
set_option maxRecDepth 100000 in
theorem spec_l4Add {m : Nat} {S : Nat → Prop} (j : J) (s : ByteArray) (cs : List Value) (o : JOp) (co : List Value) (w : World) (hj : (tJ (m + 2)).O w S j cs) (ho : (tOp (m + 1)).K w o co) (hb : bulkJ (m + 1) o.value ≤ 4194304) (hs : s.size ≤ 1000) (hown : ownB j = true) (hle : j.list.length ≤ 399) :
  Calls Try.prog 126 #[.agg cs.toArray, .string s, .agg co.toArray] w fun e w' => PatPost (m + 2) w S (addV j s o.value) e w' := by
 obtain ⟨v3, v4, _, _, rfl, hsj, hr3, hr4, _⟩ := tJ_O.1 hj
 obtain ⟨A1, c1, rfl, hc1, _⟩ := R_C hr3
 obtain ⟨A2, c2, rfl, hc2, _⟩ := R_C hr4
 clear hr3 hr4
 have HJ := Hd.mk (Ty.O_bound _ hj); clear hj
 obtain ⟨AW, cW, _, rfl, ⟨hcw, hrw⟩, hjo⟩ := tOp_K.1 ho
 have HKJ := Hd.mk hjo
 obtain ⟨A3, c3, A4, c4, rfl, hso, ⟨hc3, hr3⟩, hc4, hr4⟩ := tJ_K.1 hjo
 have HKO := Hd.mk ho
 clear hr3 hr4 ho hjo hrw hcw
 have HBU := Hd.mk hb; have HOW := Hd.mk hown; clear hb hown
 have hB := Hd.mk (Below.refl w.heap.size w)
 cases hk5 : (j.kind == 5)
 ·have hd5 : decide (j.kind = 5) = false := by simpa using hk5
  go_enter Try.func126, Try.ntmps126
  go_wp2_with fail
  apply calls_gen; intro W1 hW
  have hz_ : w.heap.size + 3 ≤ W1.heap.size := by rw [hW]; simp
  have hE : Below w.heap.size w W1 := by rw [hW]; (repeat (first | with_reducible refine below_alloc ?_ _ | with_reducible refine below_drew ?_)); exact Below.refl _ _
  have hB := hB.th hE
  have b0 := Hd.mk (show Blk W1 (w.heap.size) #[.int .i64 j.kind, .int .i64 j.n, .string j.s, .slice A1 j.list.length c1, .slice A2 j.names.length c2] 27 by rw [hW]; first | exact (((Blk.new _ _ _).alloc _).alloc _) | (simpa using (((Blk.new _ _ _).alloc _).alloc _)))
  have b1 := Hd.mk (show Blk W1 (w.heap.size + 1) #[.int .i64 o.kind, .slice AW o.way.length cW, .int .i64 o.value.kind, .int .i64 o.value.n, .string o.value.s, .slice A3 o.value.list.length c3, .slice A4 o.value.names.length c4] 38 by rw [hW]; first | exact ((Blk.new1 _ _ _ _).alloc _) | (simpa using ((Blk.new1 _ _ _ _).alloc _)))
  have b2 := Hd.mk (show Blk W1 (w.heap.size + 1 + 1) #[.int .i64 0, .int .i64 0, .string ⟨#[]⟩, .slice none 0 0, .slice none 0 0] 27 by rw [hW]; first | exact (Blk.new2 _ _ _ _ _) | (simpa using (Blk.new2 _ _ _ _ _)))
  have HJ := HJ.ob hE
  clear hW hE
  have z1 := Hd.mk hz_; clear hz_
  refine (spec_IndexOf s _ (by omega)).mono ?_
  rintro e w2 ⟨rfl, hX⟩
  have b0 := b0.dn hX
  have b1 := b1.dn hX
  have b2 := b2.dn hX
  have HJ := HJ.ob hX
  have hB := hB.th hX
  have hz_ := hX.size
  clear hX
  have z2 := Hd.mk hz_; clear hz_
  obtain ⟨ix, hix⟩ : ∃ z, z = idxS s.data.toList := ⟨_, rfl⟩
  rw [← hix]
  have HIX := Hd.mk hix; clear hix
  cases hm : (s.toList == endSg.toList)
  ·have hms : (s.toList == [45]) = false := by rw [show ([45] : List UInt8) = endSg.toList from by unfold endSg; rw [ByteArray.toList_eq]]; exact hm
   have HAT := Hd.mk (show addAt j s = ix by unfold addAt; rw [hm]; exact HIX.out.symm)
   clear hm
   cases hk4 : (j.kind == 4)
   ·have hd4 : (j.kind != 4) = true := by simpa using hk4
    obtain ⟨v00, v01, v02, v03, v04, v0z⟩ := blk5 b0.out
    obtain ⟨v10, v11, v12, v13, v14, v15, v16, v1z⟩ := blk7 b1.out
    obtain ⟨v20, v21, v22, v23, v24, v2z⟩ := blk5 b2.out
    go_wp2_with fail
    refine bodyPost_retW (v := .tuple #[.agg #[.int .i64 j.kind, .int .i64 j.n, .string j.s, .slice A1 j.list.length c1, .slice A2 j.names.length c2], .bool false]) (by simp [results, Try.results126, go_sem, v00, v01, v02, v03, v04, v0z, v10, v11, v12, v13, v14, v15, v16, v1z, v20, v21, v22, v23, v24, v2z]) rfl ?_
    intro W hW
    clear v00 v01 v02 v03 v04 v0z v10 v11 v12 v13 v14 v15 v16 v1z v20 v21 v22 v23 v24 v2z
    have eF : Fr w2 W (fun k => w.heap.size ≤ k) := by rw [hW]; (repeat (first | with_reducible refine Fr.setCell ?_ _ (fun _ => by simp <;> omega) _ | with_reducible refine Fr.alloc ?_ _ | with_reducible refine Fr.drew ?_)); exact Fr.refl _ _
    exact pat_none (by unfold addV; rw [hk5, hk4]; rfl) rfl ((Fr.of_below hB.out S).then_ eF (fun k h hl => by (try simp only at h); omega))
   ·have hd4 : (j.kind != 4) = false := by simpa using hk4
    obtain ⟨v00, v01, v02, v03, v04, v0z⟩ := blk5 b0.out
    obtain ⟨v10, v11, v12, v13, v14, v15, v16, v1z⟩ := blk7 b1.out
    obtain ⟨v20, v21, v22, v23, v24, v2z⟩ := blk5 b2.out
    go_wp2_with fail
    clear v00 v01 v02 v03 v04 v0z v10 v11 v12 v13 v14 v15 v16 v1z v20 v21 v22 v23 v24 v2z
    apply calls_gen; intro W3 hW
    have hz_ : w2.heap.size ≤ W3.heap.size := by rw [hW]; simp
    have hE : Below w2.heap.size w2 W3 := by rw [hW]; (repeat (first | with_reducible refine below_alloc ?_ _ | with_reducible refine below_drew ?_)); exact Below.refl _ _
    have hB := hB.th hE
    have b0 := b0.dn hE
    have b1 := b1.dn hE
    have b2 := b2.dn hE
    have HJ := HJ.ob hE
    clear hW hE
    have z3 := Hd.mk hz_; clear hz_
    refine (spec_l1In ix 0 (j.list.length : Int) W3).mono ?_
    rintro e w_ ⟨rfl, rfl⟩
    cases hin : inB ix 0 (j.list.length : Int)
    ·obtain ⟨v00, v01, v02, v03, v04, v0z⟩ := blk5 b0.out
     obtain ⟨v10, v11, v12, v13, v14, v15, v16, v1z⟩ := blk7 b1.out
     obtain ⟨v20, v21, v22, v23, v24, v2z⟩ := blk5 b2.out
     go_wp2_with fail
     refine bodyPost_retW (v := .tuple #[.agg #[.int .i64 j.kind, .int .i64 j.n, .string j.s, .slice A1 j.list.length c1, .slice A2 j.names.length c2], .bool false]) (by simp [results, Try.results126, go_sem, v00, v01, v02, v03, v04, v0z, v10, v11, v12, v13, v14, v15, v16, v1z, v20, v21, v22, v23, v24, v2z]) rfl ?_
     intro W hW
     clear v00 v01 v02 v03 v04 v0z v10 v11 v12 v13 v14 v15 v16 v1z v20 v21 v22 v23 v24 v2z
     have eF : Fr W3 W (fun k => w.heap.size ≤ k) := by rw [hW]; (repeat (first | with_reducible refine Fr.setCell ?_ _ (fun _ => by simp <;> omega) _ | with_reducible refine Fr.alloc ?_ _ | with_reducible refine Fr.drew ?_)); exact Fr.refl _ _
     exact pat_none (by unfold addV; rw [hk5, hk4, HAT.out, hin]; rfl) rfl ((Fr.of_below hB.out S).then_ eF (fun k h hl => by (try simp only at h); omega))
    ·have hin2 := inB_iff.1 hin
     obtain ⟨p, hp⟩ := Int.eq_ofNat_of_zero_le hin2.1
     have hpl : p ≤ j.list.length := by have := hin2.2; omega
     have HAV := Hd.mk (show addV j s o.value = some (insJ j p o.value) by unfold addV; rw [hk5, hk4, HAT.out, hin, hp]; rfl)
     have HP := Hd.mk hp
     subst hp
     clear hin hin2
     obtain ⟨v3, v4, T3, T4, hcj, hsj2, hr3, hr4, hs3, hs4, hs34⟩ := tJ_O.1 HJ.out
     simp only [List.cons.injEq, and_true, true_and] at hcj
     obtain ⟨rfl, rfl⟩ := hcj
     have HN4 := Hd.mk hr4; have HT3 := Hd.mk hs3; have HT4 := Hd.mk hs4; have H34 := Hd.mk hs34
     obtain ⟨C, T, hCO, hCS, hCT, hCC⟩ := R_rawC (tJ (m + 1)) hr3
     obtain ⟨LC, hLC⟩ : ∃ z, z = (List.range j.list.length).map C := ⟨_, rfl⟩
     have HLL := Hd.mk (show LC.length = j.list.length by rw [hLC]; simp)
     rw [← hLC] at hCC
     have HLC := Hd.mk hLC; have HCC := Hd.mk hCC; have HCO := Hd.mk hCO; have HCS := Hd.mk hCS; have HCT := Hd.mk hCT
     have HBW := Hd.mk (show Below W3.heap.size W3 W3 from Below.refl _ _)
     have h2 := R_two hr3
     clear hr3 hr4 hs3 hs4 hs34 hLC hCC hCO hCS hCT
     have hsz0 := Hd.mk (show w.heap.size + 3 ≤ W3.heap.size by have z1_ := z1.out; have z2_ := z2.out; have z3_ := z3.out; omega)
     rcases h2 with ⟨rfl, h0, rfl⟩ | ⟨gl, rfl, hcl⟩
     ·have hl0 : j.list.length = 0 := by rw [h0]; rfl
      obtain rfl : p = 0 := by omega
      simp only [hl0] at b0
      have HL0 := Hd.mk hl0; clear hl0 h0
      have hlt0 : w.heap.size < W3.heap.size := by have := hsz0.out; omega
      have hne0 : ¬ w.heap.size = W3.heap.size := by omega
      have hlt1 : w.heap.size + 1 < W3.heap.size := by have := hsz0.out; omega
      have hne1 : ¬ w.heap.size + 1 = W3.heap.size := by omega
      obtain ⟨v00, v01, v02, v03, v04, v0z⟩ := blk5 b0.out
      obtain ⟨v10, v11, v12, v13, v14, v15, v16, v1z⟩ := blk7 b1.out
      obtain ⟨v20, v21, v22, v23, v24, v2z⟩ := blk5 b2.out
      go_wp2_with fail
      clear v00 v01 v02 v03 v04 v0z v10 v11 v12 v13 v14 v15 v16 v1z v20 v21 v22 v23 v24 v2z
      apply calls_gen; intro W4 hW
      have HRW := Hd.mk (show (raw 5).R 27 W4 (fun k => W3.heap.size ≤ k ∧ k < W4.heap.size) (.slice (some ⟨W3.heap.size, 0, none⟩) 0 0) (LC.take 0) by rw [hW, List.take_zero]; exact R_bound (R_empty (raw 5) _ _))
      generalize hvv : Value.slice (some ⟨W3.heap.size, 0, none⟩) 0 0 = vv at HRW ⊢
      clear hvv
      obtain ⟨D1, d1, hve, hd1, _⟩ := R_C HRW.out
      obtain ⟨n1, hn1⟩ : ∃ z, z = (LC.take 0).length := ⟨_, rfl⟩
      rw [← hn1] at hve
      subst hve
      clear hn1 hd1
      have hz_ : W3.heap.size + 1 ≤ W4.heap.size := by rw [hW]; simp
      have hE : Below W3.heap.size W3 W4 := by rw [hW]; (repeat (first | with_reducible refine below_alloc ?_ _ | with_reducible refine below_drew ?_)); exact Below.refl _ _
      have hB := hB.th hE
      have HBW := Hd.mk (below_then HBW.out hE)
      have b0 := b0.dn hE
      have b1 := b1.dn hE
      have b2 := b2.dn hE
      have HN4 := Hd.mk (R_below HN4.out hE)
      clear hW hE
      have z4 := Hd.mk hz_; clear hz_
      clear hlt0 hne0 hlt1 hne1
      refine (spec_l1Copy o.value _ _ (Ty.K_below _ hB.out HKJ.out) HBU.out).mono ?_
      rintro e w5 ⟨cy, rfl, hY, hX⟩
      have b0 := b0.dn hX
      have b1 := b1.dn hX
      have b2 := b2.dn hX
      have HN4 := Hd.mk (R_below HN4.out hX)
      have HRW := Hd.mk (R_below HRW.out hX)
      have hB := hB.th hX
      have hz_ := hX.size
      have HBW := Hd.mk (below_then HBW.out hX)
      clear hX
      have z5 := Hd.mk hz_; clear hz_
      obtain ⟨v3, v4, _, _, hcy, _, h3_, h4_, _⟩ := tJ_O.1 hY
      obtain ⟨A7, c7, rfl, _, _⟩ := R_C h3_
      obtain ⟨A8, c8, rfl, _, _⟩ := R_C h4_
      clear h3_ h4_
      subst hcy
      replace hY := Hd.mk (show (tJ (m + 1)).O w5 (rng W4.heap.size w5.heap.size) o.value _ from Ty.O_bound _ hY)
      obtain ⟨v00, v01, v02, v03, v04, v0z⟩ := blk5 b0.out
      obtain ⟨v10, v11, v12, v13, v14, v15, v16, v1z⟩ := blk7 b1.out
      obtain ⟨v20, v21, v22, v23, v24, v2z⟩ := blk5 b2.out
      go_wp2_with (first | (at_builtin; refine append_r1 rfl rfl [Value.int IntKind.i64 o.value.kind, .int .i64 o.value.n, .string o.value.s, .slice A7 o.value.list.length c7, .slice A8 o.value.names.length c8] ⟨rfl, one5 _ _ _ _ _ _ _ _ _⟩ rfl _ _ rfl rfl rfl HRW.out (by have := HLL.out; first | (simp; done) | (simp; omega)) (fun v2 wb hv2 hX2 => ?_); obtain ⟨D2, d2, hve, hd2, _⟩ := R_C hv2; obtain ⟨n2, hn2⟩ : ∃ z, z = (LC.take 0 ++ [[Value.int IntKind.i64 o.value.kind, .int .i64 o.value.n, .string o.value.s, .slice A7 o.value.list.length c7, .slice A8 o.value.names.length c8]]).length := ⟨_, rfl⟩; rw [← hn2] at hve; subst hve; clear hn2 hd2; have hX := hX2; clear hX2; have hsz0_ := hsz0.out; have z1_ := z1.out; have z2_ := z2.out; have z3_ := z3.out; have z4_ := z4.out; have z5_ := z5.out; obtain ⟨y0, y1, y2, y3, y4, yz⟩ := blk5 (b0.out.fr hX (fun h => by have q_ := h.1; omega)); obtain ⟨u0, u1, u2, u3, u4, uz⟩ := blk5 (b2.out.fr hX (fun h => by have q_ := h.1; omega)); have HBV := Hd.mk (below_frS HBW.out hX (fun k h => h.1)); have hF2 := Hd.mk hX; clear hX; have HRV := Hd.mk (R_bound hv2); clear hv2 HRW) | (at_builtin; refine append_rw rfl rfl _ _ rfl (ys := LC.drop 0) (S' := fun k => (fun k => (W3.heap.size ≤ k ∧ k < W4.heap.size ∨ w5.heap.size ≤ k) ∧ k < wb.heap.size) k ∨ wb.heap.size ≤ k) rfl rfl (by rw [List.length_drop]; have h1_ := HLL.out; have h0_ := HL0.out; omega) HRV.out (show (raw 5).C _ none (LC.drop 0) from C_below HCC.out HBV.out) (fun k h => .inl h) (fun k h => .inr h) (by have := HLL.out; first | (simp; done) | (simp; omega)) (fun v3 wc hv3 hX3 => ?_); obtain ⟨D3, d3, hve, hd3, _⟩ := R_C hv3; obtain ⟨n3, hn3⟩ : ∃ z, z = (LC.take 0 ++ [[Value.int IntKind.i64 o.value.kind, .int .i64 o.value.n, .string o.value.s, .slice A7 o.value.list.length c7, .slice A8 o.value.names.length c8]] ++ LC.drop 0).length := ⟨_, rfl⟩; rw [← hn3] at hve; subst hve; clear hn3 hd3; clear y0 y1 y2 y3 y4 yz u0 u1 u2 u3 u4 uz; obtain ⟨y0, y1, y2, y3, y4, yz⟩ := blk5 ((b0.out.fr hF2.out (fun h => by have q_ := h.1; omega)).fr hX3 (fun h => by rcases h.1 with q_ | q_; (have q2_ := q_.1; omega); omega)); obtain ⟨u0, u1, u2, u3, u4, uz⟩ := blk5 ((b2.out.fr hF2.out (fun h => by have q_ := h.1; omega)).fr hX3 (fun h => by rcases h.1 with q_ | q_; (have q2_ := q_.1; omega); omega)); have hX3 := Hd.mk hX3; have HRF := Hd.mk (R_bound hv3); clear hv3 HRV))
      refine bodyPost_retW (v := .tuple #[.agg #[.int .i64 j.kind, .int .i64 j.n, .string j.s, .slice D3 n3 d3, .slice A2 j.names.length c2], .bool true]) (by simp [results, Try.results126, go_sem, v00, v01, v02, v03, v04, v0z, v10, v11, v12, v13, v14, v15, v16, v1z, v20, v21, v22, v23, v24, v2z, y0, y1, y2, y3, y4, u0, u1, u2, u3, u4]) rfl ?_
      intro W hW
      clear v00 v01 v02 v03 v04 v0z v10 v11 v12 v13 v14 v15 v16 v1z v20 v21 v22 v23 v24 v2z
      clear y0 y1 y2 y3 y4 yz u0 u1 u2 u3 u4 uz
      have eF : Fr wc W (fun k => k = w.heap.size ∨ k = w.heap.size + 2) := by rw [hW]; (repeat (first | with_reducible refine Fr.setCell ?_ _ (fun _ => by simp <;> omega) _ | with_reducible refine Fr.alloc ?_ _ | with_reducible refine Fr.drew ?_)); exact Fr.refl _ _
      clear hW
      have hws : w.heap.size + 3 ≤ W3.heap.size := by omega
      have hwb := hF2.out.size
      have hwc := hX3.out.size
      have hBC := below_frS HBV.out hX3.out (fun k h => by rcases h.1 with q_ | q_; exact q_.1; omega)
      have hRF := HRF.out
      rw [List.append_assoc, List.singleton_append, HLC.out] at hRF
      have hRW := R_fr hRF eF (fun k hk hl h => by (try simp only at h); have q9_ := hk.2; rcases hk.1 with q_ | q_; (rcases q_.1 with q2_ | q2_; (have q3_ := q2_.1; omega); omega); omega)
      have hTi : ∀ i b, T i b → T3 b ∧ b < w.heap.size := fun i b hb => ⟨(HCS.out i b hb).1, (HT3.out b (HCS.out i b hb).1).2⟩
      have hL := R_ins (S' := fun k => T3 k ∨ W3.heap.size ≤ k) (Tv := rng W4.heap.size w5.heap.size) (tJ (m + 1)) hpl hRW (fun i x hx => Ty.O_fr (Ty.O_below (Ty.O_mono _ (S := fun b => T i b ∧ b < W3.heap.size) (fun k h => h.1) (Ty.O_bound _ (HCO.out i x hx))) hBC) eF (fun k hk hl h => by (try simp only at h); have q_ := (hTi i k hk).2; omega))
       (Ty.O_fr (Ty.O_fr (Ty.O_fr hY.out hF2.out (fun k hk hl h => by have q_ := hk.1; have q2_ := h.2; omega)) hX3.out (fun k hk hl h => by have q_ := hk.1; have q2_ := hk.2; rcases h.1 with q3_ | q3_; (have q4_ := q3_.2; omega); omega)) eF (fun k hk hl h => by (try simp only at h); have q_ := hk.1; omega))
       HCT.out (fun i b hb h => by have q_ := (hTi i b hb).2; have q2_ := h.1; omega)
       (fun i b hb => ⟨.inl (hTi i b hb).1, fun h => by have q0_ := (hTi i b hb).2; rcases h.1 with q_ | q_; (rcases q_.1 with q2_ | q2_; (have q3_ := q2_.1; omega); omega); omega⟩)
       (fun b h => ⟨.inr (by have q_ := h.1; omega), fun h2 => by have q0_ := h.1; have q1_ := h.2; rcases h2.1 with q_ | q_; (rcases q_.1 with q2_ | q2_; (have q3_ := q2_.2; omega); omega); omega⟩)
       (fun k h => .inr (by rcases h.1 with q_ | q_; (rcases q_.1 with q2_ | q2_; exact q2_.1; omega); omega))
      have hN := R_fr (R_fr (R_fr HN4.out hF2.out (fun k hk hl h => by have q_ := (HT4.out k hk).2; have q2_ := h.1; omega)) hX3.out (fun k hk hl h => by have q_ := (HT4.out k hk).2; rcases h.1 with q3_ | q3_; (have q4_ := q3_.1; omega); omega)) eF (fun k hk hl h => by (try simp only at h); have q_ := (HT4.out k hk).2; omega)
      have hFF := (((Fr.of_below hB.out S).then_ hF2.out (fun k h hl => by have q_ := h.1; omega)).then_ hX3.out (fun k h hl => by rcases h.1 with q3_ | q3_; (have q4_ := q3_.1; omega); omega)).then_ eF (fun k h hl => by (try simp only at h); omega)
      exact pat_some (z := insJ j 0 o.value) (cs := [Value.int IntKind.i64 j.kind, .int .i64 j.n, .string j.s, .slice D3 n3 d3, .slice A2 j.names.length c2]) HAV.out rfl (tJ_O.2 ⟨_, _, fun k => T3 k ∨ W3.heap.size ≤ k, T4, rfl, hsj, hL, hN, fun k h => by
       rcases h with q_ | q_
       ·exact .inr (HT3.out k q_).1
       ·exact .inl (by omega), fun k h => .inr (HT4.out k h).1, fun k h h2 => by
       rcases h with q_ | q_
       ·exact H34.out k q_ h2
       ·have q2_ := (HT4.out k h2).2
        omega⟩) hFF
     ·have hlt0 : w.heap.size < W3.heap.size := by have := hsz0.out; omega
      have hne0 : ¬ w.heap.size = W3.heap.size := by omega
      have hlt1 : w.heap.size + 1 < W3.heap.size := by have := hsz0.out; omega
      have hne1 : ¬ w.heap.size + 1 = W3.heap.size := by omega
      obtain ⟨v00, v01, v02, v03, v04, v0z⟩ := blk5 b0.out
      obtain ⟨v10, v11, v12, v13, v14, v15, v16, v1z⟩ := blk7 b1.out
      obtain ⟨v20, v21, v22, v23, v24, v2z⟩ := blk5 b2.out
      go_wp2_with (at_builtin; refine append_rw rfl rfl _ _ rfl (l := []) (ys := LC.take p) (m := p) (S := fun k => W3.heap.size ≤ k) (S' := fun k => W3.heap.size ≤ k) rfl rfl (by rw [List.length_take]; have := HLL.out; omega) (R_empty (raw 5) _ _) (C_take (C_below HCC.out (below_alloc HBW.out _)) _) (fun _ h => h) (fun k h => by simp at h; omega) (by simp; omega) (fun v1 wa hv1 hX1 => ?_); obtain ⟨D1, d1, hve, hd1, _⟩ := R_C hv1; obtain ⟨n1, hn1⟩ : ∃ z, z = (([] : List (List Value)) ++ LC.take p).length := ⟨_, rfl⟩; rw [← hn1] at hve; subst hve; clear hn1 hd1; have hX := (((Fr.refl W3 (fun k => W3.heap.size ≤ k)).alloc _).then_ hX1 (fun k h _ => h)).below (fun k h => h); clear hX1; obtain ⟨y0, y1, y2, y3, y4, y5, y6, yz⟩ := blk7 (b1.out.below hX))
      clear v00 v01 v02 v03 v04 v0z v10 v11 v12 v13 v14 v15 v16 v1z v20 v21 v22 v23 v24 v2z
      clear y0 y1 y2 y3 y4 y5 y6 yz
      rw [List.nil_append] at hv1
      have HRW := Hd.mk (R_bound hv1); clear hv1
      clear hlt0 hne0 hlt1 hne1
      have HBW := Hd.mk (below_then HBW.out hX)
      have b0 := b0.dn hX
      have b1 := b1.dn hX
      have b2 := b2.dn hX
      have HN4 := Hd.mk (R_below HN4.out hX)
      have hB := hB.th hX
      have hz_ := hX.size
      clear hX
      have z4 := Hd.mk hz_; clear hz_
      apply calls_gen; intro W4 hW
      have hz_ : wa.heap.size ≤ W4.heap.size := by rw [hW]; simp
      have hE : Below wa.heap.size wa W4 := by rw [hW]; (repeat (first | with_reducible refine below_alloc ?_ _ | with_reducible refine below_drew ?_)); exact Below.refl _ _
      have hB := hB.th hE
      have HBW := Hd.mk (below_then HBW.out hE)
      have b0 := b0.dn hE
      have b1 := b1.dn hE
      have b2 := b2.dn hE
      have HN4 := Hd.mk (R_below HN4.out hE)
      have HRW := Hd.mk (R_below HRW.out hE)
      clear hW hE
      have z5 := Hd.mk hz_; clear hz_
      refine (spec_l1Copy o.value _ _ (Ty.K_below _ hB.out HKJ.out) HBU.out).mono ?_
      rintro e w5 ⟨cy, rfl, hY, hX⟩
      have b0 := b0.dn hX
      have b1 := b1.dn hX
      have b2 := b2.dn hX
      have HN4 := Hd.mk (R_below HN4.out hX)
      have HRW := Hd.mk (R_below HRW.out hX)
      have hB := hB.th hX
      have hz_ := hX.size
      have HBW := Hd.mk (below_then HBW.out hX)
      clear hX
      have z6 := Hd.mk hz_; clear hz_
      obtain ⟨v3, v4, _, _, hcy, _, h3_, h4_, _⟩ := tJ_O.1 hY
      obtain ⟨A7, c7, rfl, _, _⟩ := R_C h3_
      obtain ⟨A8, c8, rfl, _, _⟩ := R_C h4_
      clear h3_ h4_
      subst hcy
      replace hY := Hd.mk (show (tJ (m + 1)).O w5 (rng W4.heap.size w5.heap.size) o.value _ from Ty.O_bound _ hY)
      obtain ⟨v00, v01, v02, v03, v04, v0z⟩ := blk5 b0.out
      obtain ⟨v10, v11, v12, v13, v14, v15, v16, v1z⟩ := blk7 b1.out
      obtain ⟨v20, v21, v22, v23, v24, v2z⟩ := blk5 b2.out
      go_wp2_with (first | (at_builtin; refine append_r1 rfl rfl [Value.int IntKind.i64 o.value.kind, Value.int IntKind.i64 o.value.n, Value.string o.value.s, Value.slice A7 o.value.list.length c7, Value.slice A8 o.value.names.length c8] ⟨rfl, one5 _ _ _ _ _ _ _ _ _⟩ rfl _ _ rfl rfl rfl HRW.out (by have := HLL.out; first | (simp; done) | (simp; omega)) (fun v2 wb hv2 hX2 => ?_); obtain ⟨D2, d2, hve, hd2, _⟩ := R_C hv2; obtain ⟨n2, hn2⟩ : ∃ z, z = (LC.take p ++ [[Value.int IntKind.i64 o.value.kind, Value.int IntKind.i64 o.value.n, Value.string o.value.s, Value.slice A7 o.value.list.length c7, Value.slice A8 o.value.names.length c8]]).length := ⟨_, rfl⟩; rw [← hn2] at hve; subst hve; clear hn2 hd2; have hX := hX2; clear hX2; have hsz0_ := hsz0.out; have z1_ := z1.out; have z2_ := z2.out; have z3_ := z3.out; have z4_ := z4.out; have z5_ := z5.out; have z6_ := z6.out; obtain ⟨y0, y1, y2, y3, y4, yz⟩ := blk5 (b0.out.fr hX (fun h => by have q_ := h.1; omega)); obtain ⟨u0, u1, u2, u3, u4, uz⟩ := blk5 (b2.out.fr hX (fun h => by have q_ := h.1; omega)); have HBV := Hd.mk (below_frS HBW.out hX (fun k h => h.1)); have hF2 := Hd.mk hX; clear hX; have HRV := Hd.mk (R_bound hv2); clear hv2 HRW) | (at_builtin; refine append_rw rfl rfl _ _ rfl (ys := LC.drop p) (S' := fun k => (fun k => (W3.heap.size ≤ k ∧ k < wa.heap.size ∨ w5.heap.size ≤ k) ∧ k < wb.heap.size) k ∨ wb.heap.size ≤ k) rfl rfl (by rw [List.length_drop]; have h1_ := HLL.out; omega) HRV.out (C_dropIf (C_below HCC.out HBV.out) (by have := HLL.out; omega)) (fun k h => .inl h) (fun k h => .inr h) (by have := HLL.out; first | (simp; done) | (simp; omega)) (fun v3 wc hv3 hX3 => ?_); obtain ⟨D3, d3, hve, hd3, _⟩ := R_C hv3; obtain ⟨n3, hn3⟩ : ∃ z, z = (LC.take p ++ [[Value.int IntKind.i64 o.value.kind, Value.int IntKind.i64 o.value.n, Value.string o.value.s, Value.slice A7 o.value.list.length c7, Value.slice A8 o.value.names.length c8]] ++ LC.drop p).length := ⟨_, rfl⟩; rw [← hn3] at hve; subst hve; clear hn3 hd3; clear y0 y1 y2 y3 y4 yz u0 u1 u2 u3 u4 uz; obtain ⟨y0, y1, y2, y3, y4, yz⟩ := blk5 ((b0.out.fr hF2.out (fun h => by have q_ := h.1; omega)).fr hX3 (fun h => by rcases h.1 with q_ | q_; (have q2_ := q_.1; omega); omega)); obtain ⟨u0, u1, u2, u3, u4, uz⟩ := blk5 ((b2.out.fr hF2.out (fun h => by have q_ := h.1; omega)).fr hX3 (fun h => by rcases h.1 with q_ | q_; (have q2_ := q_.1; omega); omega)); have hX3 := Hd.mk hX3; have HRF := Hd.mk (R_bound hv3); clear hv3 HRV; generalize (if c1 = p then (some ⟨gl, 0, none⟩ : Option Addr) else some ⟨gl, p * 5, none⟩) = AX_))
      refine bodyPost_retW (v := .tuple #[.agg #[.int .i64 j.kind, .int .i64 j.n, .string j.s, .slice D3 n3 d3, .slice A2 j.names.length c2], .bool true]) (by simp [results, Try.results126, go_sem, v00, v01, v02, v03, v04, v0z, v10, v11, v12, v13, v14, v15, v16, v1z, v20, v21, v22, v23, v24, v2z, y0, y1, y2, y3, y4, u0, u1, u2, u3, u4]) rfl ?_
      intro W hW
      clear v00 v01 v02 v03 v04 v0z v10 v11 v12 v13 v14 v15 v16 v1z v20 v21 v22 v23 v24 v2z
      clear y0 y1 y2 y3 y4 yz u0 u1 u2 u3 u4 uz
      have eF : Fr wc W (fun k => k = w.heap.size ∨ k = w.heap.size + 2) := by rw [hW]; (repeat (first | with_reducible refine Fr.setCell ?_ _ (fun _ => by simp <;> omega) _ | with_reducible refine Fr.alloc ?_ _ | with_reducible refine Fr.drew ?_)); exact Fr.refl _ _
      clear hW
      have hws : w.heap.size + 3 ≤ W3.heap.size := by omega
      have hwb := hF2.out.size
      have hwc := hX3.out.size
      have hBC := below_frS HBV.out hX3.out (fun k h => by rcases h.1 with q_ | q_; exact q_.1; omega)
      have hRF := HRF.out
      rw [List.append_assoc, List.singleton_append, HLC.out] at hRF
      have hRW := R_fr hRF eF (fun k hk hl h => by (try simp only at h); have q9_ := hk.2; rcases hk.1 with q_ | q_; (rcases q_.1 with q2_ | q2_; (have q3_ := q2_.1; omega); omega); omega)
      have hTi : ∀ i b, T i b → T3 b ∧ b < w.heap.size := fun i b hb => ⟨(HCS.out i b hb).1, (HT3.out b (HCS.out i b hb).1).2⟩
      have hL := R_ins (S' := fun k => T3 k ∨ W3.heap.size ≤ k) (Tv := rng W4.heap.size w5.heap.size) (tJ (m + 1)) hpl hRW (fun i x hx => Ty.O_fr (Ty.O_below (Ty.O_mono _ (S := fun b => T i b ∧ b < W3.heap.size) (fun k h => h.1) (Ty.O_bound _ (HCO.out i x hx))) hBC) eF (fun k hk hl h => by (try simp only at h); have q_ := (hTi i k hk).2; omega))
       (Ty.O_fr (Ty.O_fr (Ty.O_fr hY.out hF2.out (fun k hk hl h => by have q_ := hk.1; have q2_ := h.2; omega)) hX3.out (fun k hk hl h => by have q_ := hk.1; have q2_ := hk.2; rcases h.1 with q3_ | q3_; (have q4_ := q3_.2; omega); omega)) eF (fun k hk hl h => by (try simp only at h); have q_ := hk.1; omega))
       HCT.out (fun i b hb h => by have q_ := (hTi i b hb).2; have q2_ := h.1; omega)
       (fun i b hb => ⟨.inl (hTi i b hb).1, fun h => by have q0_ := (hTi i b hb).2; rcases h.1 with q_ | q_; (rcases q_.1 with q2_ | q2_; (have q3_ := q2_.1; omega); omega); omega⟩)
       (fun b h => ⟨.inr (by have q_ := h.1; omega), fun h2 => by have q0_ := h.1; have q1_ := h.2; rcases h2.1 with q_ | q_; (rcases q_.1 with q2_ | q2_; (have q3_ := q2_.2; omega); omega); omega⟩)
       (fun k h => .inr (by rcases h.1 with q_ | q_; (rcases q_.1 with q2_ | q2_; exact q2_.1; omega); omega))
      have hN := R_fr (R_fr (R_fr HN4.out hF2.out (fun k hk hl h => by have q_ := (HT4.out k hk).2; have q2_ := h.1; omega)) hX3.out (fun k hk hl h => by have q_ := (HT4.out k hk).2; rcases h.1 with q3_ | q3_; (have q4_ := q3_.1; omega); omega)) eF (fun k hk hl h => by (try simp only at h); have q_ := (HT4.out k hk).2; omega)
      have hFF := (((Fr.of_below hB.out S).then_ hF2.out (fun k h hl => by have q_ := h.1; omega)).then_ hX3.out (fun k h hl => by rcases h.1 with q3_ | q3_; (have q4_ := q3_.1; omega); omega)).then_ eF (fun k h hl => by (try simp only at h); omega)
      exact pat_some (z := insJ j p o.value) (cs := [Value.int IntKind.i64 j.kind, .int .i64 j.n, .string j.s, .slice D3 n3 d3, .slice A2 j.names.length c2]) HAV.out rfl (tJ_O.2 ⟨_, _, fun k => T3 k ∨ W3.heap.size ≤ k, T4, rfl, hsj, hL, hN, fun k h => by
       rcases h with q_ | q_
       ·exact .inr (HT3.out k q_).1
       ·exact .inl (by omega), fun k h => .inr (HT4.out k h).1, fun k h h2 => by
       rcases h with q_ | q_
       ·exact H34.out k q_ h2
       ·have q2_ := (HT4.out k h2).2
        omega⟩) hFF
  ·have hms : (s.toList == [45]) = true := by rw [show ([45] : List UInt8) = endSg.toList from by unfold endSg; rw [ByteArray.toList_eq]]; exact hm
   have HAT := Hd.mk (show addAt j s = (j.list.length : Int) by unfold addAt; rw [hm]; rfl)
   clear hm
   cases hk4 : (j.kind == 4)
   ·have hd4 : (j.kind != 4) = true := by simpa using hk4
    obtain ⟨v00, v01, v02, v03, v04, v0z⟩ := blk5 b0.out
    obtain ⟨v10, v11, v12, v13, v14, v15, v16, v1z⟩ := blk7 b1.out
    obtain ⟨v20, v21, v22, v23, v24, v2z⟩ := blk5 b2.out
    go_wp2_with fail
    refine bodyPost_retW (v := .tuple #[.agg #[.int .i64 j.kind, .int .i64 j.n, .string j.s, .slice A1 j.list.length c1, .slice A2 j.names.length c2], .bool false]) (by simp [results, Try.results126, go_sem, v00, v01, v02, v03, v04, v0z, v10, v11, v12, v13, v14, v15, v16, v1z, v20, v21, v22, v23, v24, v2z]) rfl ?_
    intro W hW
    clear v00 v01 v02 v03 v04 v0z v10 v11 v12 v13 v14 v15 v16 v1z v20 v21 v22 v23 v24 v2z
    have eF : Fr w2 W (fun k => w.heap.size ≤ k) := by rw [hW]; (repeat (first | with_reducible refine Fr.setCell ?_ _ (fun _ => by simp <;> omega) _ | with_reducible refine Fr.alloc ?_ _ | with_reducible refine Fr.drew ?_)); exact Fr.refl _ _
    exact pat_none (by unfold addV; rw [hk5, hk4]; rfl) rfl ((Fr.of_below hB.out S).then_ eF (fun k h hl => by (try simp only at h); omega))
   ·have hd4 : (j.kind != 4) = false := by simpa using hk4
    obtain ⟨v00, v01, v02, v03, v04, v0z⟩ := blk5 b0.out
    obtain ⟨v10, v11, v12, v13, v14, v15, v16, v1z⟩ := blk7 b1.out
    obtain ⟨v20, v21, v22, v23, v24, v2z⟩ := blk5 b2.out
    go_wp2_with fail
    clear v00 v01 v02 v03 v04 v0z v10 v11 v12 v13 v14 v15 v16 v1z v20 v21 v22 v23 v24 v2z
    apply calls_gen; intro W3 hW
    have hz_ : w2.heap.size ≤ W3.heap.size := by rw [hW]; simp
    have hE : Below w2.heap.size w2 W3 := by rw [hW]; (repeat (first | with_reducible refine below_alloc ?_ _ | with_reducible refine below_drew ?_)); exact Below.refl _ _
    have hB := hB.th hE
    have b0 := b0.dn hE
    have b1 := b1.dn hE
    have b2 := b2.dn hE
    have HJ := HJ.ob hE
    clear hW hE
    have z3 := Hd.mk hz_; clear hz_
    refine (spec_l1In (j.list.length : Int) 0 (j.list.length : Int) W3).mono ?_
    rintro e w_ ⟨rfl, rfl⟩
    cases hin : inB (j.list.length : Int) 0 (j.list.length : Int)
    ·obtain ⟨v00, v01, v02, v03, v04, v0z⟩ := blk5 b0.out
     obtain ⟨v10, v11, v12, v13, v14, v15, v16, v1z⟩ := blk7 b1.out
     obtain ⟨v20, v21, v22, v23, v24, v2z⟩ := blk5 b2.out
     go_wp2_with fail
     refine bodyPost_retW (v := .tuple #[.agg #[.int .i64 j.kind, .int .i64 j.n, .string j.s, .slice A1 j.list.length c1, .slice A2 j.names.length c2], .bool false]) (by simp [results, Try.results126, go_sem, v00, v01, v02, v03, v04, v0z, v10, v11, v12, v13, v14, v15, v16, v1z, v20, v21, v22, v23, v24, v2z]) rfl ?_
     intro W hW
     clear v00 v01 v02 v03 v04 v0z v10 v11 v12 v13 v14 v15 v16 v1z v20 v21 v22 v23 v24 v2z
     have eF : Fr W3 W (fun k => w.heap.size ≤ k) := by rw [hW]; (repeat (first | with_reducible refine Fr.setCell ?_ _ (fun _ => by simp <;> omega) _ | with_reducible refine Fr.alloc ?_ _ | with_reducible refine Fr.drew ?_)); exact Fr.refl _ _
     exact pat_none (by unfold addV; rw [hk5, hk4, HAT.out, hin]; rfl) rfl ((Fr.of_below hB.out S).then_ eF (fun k h hl => by (try simp only at h); omega))
    ·have hin2 := inB_iff.1 hin
     obtain ⟨p, hp⟩ := Int.eq_ofNat_of_zero_le hin2.1
     have hpl : p ≤ j.list.length := by have := hin2.2; omega
     have HAV := Hd.mk (show addV j s o.value = some (insJ j p o.value) by unfold addV; rw [hk5, hk4, HAT.out, hin, hp]; rfl)
     rw [hp]
     clear hin hin2
     obtain ⟨v3, v4, T3, T4, hcj, hsj2, hr3, hr4, hs3, hs4, hs34⟩ := tJ_O.1 HJ.out
     simp only [List.cons.injEq, and_true, true_and] at hcj
     obtain ⟨rfl, rfl⟩ := hcj
     have HN4 := Hd.mk hr4; have HT3 := Hd.mk hs3; have HT4 := Hd.mk hs4; have H34 := Hd.mk hs34
     obtain ⟨C, T, hCO, hCS, hCT, hCC⟩ := R_rawC (tJ (m + 1)) hr3
     obtain ⟨LC, hLC⟩ : ∃ z, z = (List.range j.list.length).map C := ⟨_, rfl⟩
     have HLL := Hd.mk (show LC.length = j.list.length by rw [hLC]; simp)
     rw [← hLC] at hCC
     have HLC := Hd.mk hLC; have HCC := Hd.mk hCC; have HCO := Hd.mk hCO; have HCS := Hd.mk hCS; have HCT := Hd.mk hCT
     have HBW := Hd.mk (show Below W3.heap.size W3 W3 from Below.refl _ _)
     have h2 := R_two hr3
     clear hr3 hr4 hs3 hs4 hs34 hLC hCC hCO hCS hCT
     have hsz0 := Hd.mk (show w.heap.size + 3 ≤ W3.heap.size by have z1_ := z1.out; have z2_ := z2.out; have z3_ := z3.out; omega)
     rcases h2 with ⟨rfl, h0, rfl⟩ | ⟨gl, rfl, hcl⟩
     ·have hl0 : j.list.length = 0 := by rw [h0]; rfl
      obtain rfl : p = 0 := by omega
      simp only [hl0] at b0
      have HL0 := Hd.mk hl0; clear hl0 h0
      have hlt0 : w.heap.size < W3.heap.size := by have := hsz0.out; omega
      have hne0 : ¬ w.heap.size = W3.heap.size := by omega
      have hlt1 : w.heap.size + 1 < W3.heap.size := by have := hsz0.out; omega
      have hne1 : ¬ w.heap.size + 1 = W3.heap.size := by omega
      obtain ⟨v00, v01, v02, v03, v04, v0z⟩ := blk5 b0.out
      obtain ⟨v10, v11, v12, v13, v14, v15, v16, v1z⟩ := blk7 b1.out
      obtain ⟨v20, v21, v22, v23, v24, v2z⟩ := blk5 b2.out
      go_wp2_with fail
      clear v00 v01 v02 v03 v04 v0z v10 v11 v12 v13 v14 v15 v16 v1z v20 v21 v22 v23 v24 v2z
      apply calls_gen; intro W4 hW
      have HRW := Hd.mk (show (raw 5).R 27 W4 (fun k => W3.heap.size ≤ k ∧ k < W4.heap.size) (.slice (some ⟨W3.heap.size, 0, none⟩) 0 0) (LC.take 0) by rw [hW, List.take_zero]; exact R_bound (R_empty (raw 5) _ _))
      generalize hvv : Value.slice (some ⟨W3.heap.size, 0, none⟩) 0 0 = vv at HRW ⊢
      clear hvv
      obtain ⟨D1, d1, hve, hd1, _⟩ := R_C HRW.out
      obtain ⟨n1, hn1⟩ : ∃ z, z = (LC.take 0).length := ⟨_, rfl⟩
      rw [← hn1] at hve
      subst hve
      clear hn1 hd1
      have hz_ : W3.heap.size + 1 ≤ W4.heap.size := by rw [hW]; simp
      have hE : Below W3.heap.size W3 W4 := by rw [hW]; (repeat (first | with_reducible refine below_alloc ?_ _ | with_reducible refine below_drew ?_)); exact Below.refl _ _
      have hB := hB.th hE
      have HBW := Hd.mk (below_then HBW.out hE)
      have b0 := b0.dn hE
      have b1 := b1.dn hE
      have b2 := b2.dn hE
      have HN4 := Hd.mk (R_below HN4.out hE)
      clear hW hE
      have z4 := Hd.mk hz_; clear hz_
      clear hlt0 hne0 hlt1 hne1
      refine (spec_l1Copy o.value _ _ (Ty.K_below _ hB.out HKJ.out) HBU.out).mono ?_
      rintro e w5 ⟨cy, rfl, hY, hX⟩
      have b0 := b0.dn hX
      have b1 := b1.dn hX
      have b2 := b2.dn hX
      have HN4 := Hd.mk (R_below HN4.out hX)
      have HRW := Hd.mk (R_below HRW.out hX)
      have hB := hB.th hX
      have hz_ := hX.size
      have HBW := Hd.mk (below_then HBW.out hX)
      clear hX
      have z5 := Hd.mk hz_; clear hz_
      obtain ⟨v3, v4, _, _, hcy, _, h3_, h4_, _⟩ := tJ_O.1 hY
      obtain ⟨A7, c7, rfl, _, _⟩ := R_C h3_
      obtain ⟨A8, c8, rfl, _, _⟩ := R_C h4_
      clear h3_ h4_
      subst hcy
      replace hY := Hd.mk (show (tJ (m + 1)).O w5 (rng W4.heap.size w5.heap.size) o.value _ from Ty.O_bound _ hY)
      obtain ⟨v00, v01, v02, v03, v04, v0z⟩ := blk5 b0.out
      obtain ⟨v10, v11, v12, v13, v14, v15, v16, v1z⟩ := blk7 b1.out
      obtain ⟨v20, v21, v22, v23, v24, v2z⟩ := blk5 b2.out
      go_wp2_with (first | (at_builtin; refine append_r1 rfl rfl [Value.int IntKind.i64 o.value.kind, .int .i64 o.value.n, .string o.value.s, .slice A7 o.value.list.length c7, .slice A8 o.value.names.length c8] ⟨rfl, one5 _ _ _ _ _ _ _ _ _⟩ rfl _ _ rfl rfl rfl HRW.out (by have := HLL.out; first | (simp; done) | (simp; omega)) (fun v2 wb hv2 hX2 => ?_); obtain ⟨D2, d2, hve, hd2, _⟩ := R_C hv2; obtain ⟨n2, hn2⟩ : ∃ z, z = (LC.take 0 ++ [[Value.int IntKind.i64 o.value.kind, .int .i64 o.value.n, .string o.value.s, .slice A7 o.value.list.length c7, .slice A8 o.value.names.length c8]]).length := ⟨_, rfl⟩; rw [← hn2] at hve; subst hve; clear hn2 hd2; have hX := hX2; clear hX2; have hsz0_ := hsz0.out; have z1_ := z1.out; have z2_ := z2.out; have z3_ := z3.out; have z4_ := z4.out; have z5_ := z5.out; obtain ⟨y0, y1, y2, y3, y4, yz⟩ := blk5 (b0.out.fr hX (fun h => by have q_ := h.1; omega)); obtain ⟨u0, u1, u2, u3, u4, uz⟩ := blk5 (b2.out.fr hX (fun h => by have q_ := h.1; omega)); have HBV := Hd.mk (below_frS HBW.out hX (fun k h => h.1)); have hF2 := Hd.mk hX; clear hX; have HRV := Hd.mk (R_bound hv2); clear hv2 HRW) | (at_builtin; refine append_rw rfl rfl _ _ rfl (ys := LC.drop 0) (S' := fun k => (fun k => (W3.heap.size ≤ k ∧ k < W4.heap.size ∨ w5.heap.size ≤ k) ∧ k < wb.heap.size) k ∨ wb.heap.size ≤ k) rfl rfl (by rw [List.length_drop]; have h1_ := HLL.out; have h0_ := HL0.out; omega) HRV.out (show (raw 5).C _ none (LC.drop 0) from C_below HCC.out HBV.out) (fun k h => .inl h) (fun k h => .inr h) (by have := HLL.out; first | (simp; done) | (simp; omega)) (fun v3 wc hv3 hX3 => ?_); obtain ⟨D3, d3, hve, hd3, _⟩ := R_C hv3; obtain ⟨n3, hn3⟩ : ∃ z, z = (LC.take 0 ++ [[Value.int IntKind.i64 o.value.kind, .int .i64 o.value.n, .string o.value.s, .slice A7 o.value.list.length c7, .slice A8 o.value.names.length c8]] ++ LC.drop 0).length := ⟨_, rfl⟩; rw [← hn3] at hve; subst hve; clear hn3 hd3; clear y0 y1 y2 y3 y4 yz u0 u1 u2 u3 u4 uz; obtain ⟨y0, y1, y2, y3, y4, yz⟩ := blk5 ((b0.out.fr hF2.out (fun h => by have q_ := h.1; omega)).fr hX3 (fun h => by rcases h.1 with q_ | q_; (have q2_ := q_.1; omega); omega)); obtain ⟨u0, u1, u2, u3, u4, uz⟩ := blk5 ((b2.out.fr hF2.out (fun h => by have q_ := h.1; omega)).fr hX3 (fun h => by rcases h.1 with q_ | q_; (have q2_ := q_.1; omega); omega)); have hX3 := Hd.mk hX3; have HRF := Hd.mk (R_bound hv3); clear hv3 HRV))
      refine bodyPost_retW (v := .tuple #[.agg #[.int .i64 j.kind, .int .i64 j.n, .string j.s, .slice D3 n3 d3, .slice A2 j.names.length c2], .bool true]) (by simp [results, Try.results126, go_sem, v00, v01, v02, v03, v04, v0z, v10, v11, v12, v13, v14, v15, v16, v1z, v20, v21, v22, v23, v24, v2z, y0, y1, y2, y3, y4, u0, u1, u2, u3, u4]) rfl ?_
      intro W hW
      clear v00 v01 v02 v03 v04 v0z v10 v11 v12 v13 v14 v15 v16 v1z v20 v21 v22 v23 v24 v2z
      clear y0 y1 y2 y3 y4 yz u0 u1 u2 u3 u4 uz
      have eF : Fr wc W (fun k => k = w.heap.size ∨ k = w.heap.size + 2) := by rw [hW]; (repeat (first | with_reducible refine Fr.setCell ?_ _ (fun _ => by simp <;> omega) _ | with_reducible refine Fr.alloc ?_ _ | with_reducible refine Fr.drew ?_)); exact Fr.refl _ _
      clear hW
      have hws : w.heap.size + 3 ≤ W3.heap.size := by omega
      have hwb := hF2.out.size
      have hwc := hX3.out.size
      have hBC := below_frS HBV.out hX3.out (fun k h => by rcases h.1 with q_ | q_; exact q_.1; omega)
      have hRF := HRF.out
      rw [List.append_assoc, List.singleton_append, HLC.out] at hRF
      have hRW := R_fr hRF eF (fun k hk hl h => by (try simp only at h); have q9_ := hk.2; rcases hk.1 with q_ | q_; (rcases q_.1 with q2_ | q2_; (have q3_ := q2_.1; omega); omega); omega)
      have hTi : ∀ i b, T i b → T3 b ∧ b < w.heap.size := fun i b hb => ⟨(HCS.out i b hb).1, (HT3.out b (HCS.out i b hb).1).2⟩
      have hL := R_ins (S' := fun k => T3 k ∨ W3.heap.size ≤ k) (Tv := rng W4.heap.size w5.heap.size) (tJ (m + 1)) hpl hRW (fun i x hx => Ty.O_fr (Ty.O_below (Ty.O_mono _ (S := fun b => T i b ∧ b < W3.heap.size) (fun k h => h.1) (Ty.O_bound _ (HCO.out i x hx))) hBC) eF (fun k hk hl h => by (try simp only at h); have q_ := (hTi i k hk).2; omega))
       (Ty.O_fr (Ty.O_fr (Ty.O_fr hY.out hF2.out (fun k hk hl h => by have q_ := hk.1; have q2_ := h.2; omega)) hX3.out (fun k hk hl h => by have q_ := hk.1; have q2_ := hk.2; rcases h.1 with q3_ | q3_; (have q4_ := q3_.2; omega); omega)) eF (fun k hk hl h => by (try simp only at h); have q_ := hk.1; omega))
       HCT.out (fun i b hb h => by have q_ := (hTi i b hb).2; have q2_ := h.1; omega)
       (fun i b hb => ⟨.inl (hTi i b hb).1, fun h => by have q0_ := (hTi i b hb).2; rcases h.1 with q_ | q_; (rcases q_.1 with q2_ | q2_; (have q3_ := q2_.1; omega); omega); omega⟩)
       (fun b h => ⟨.inr (by have q_ := h.1; omega), fun h2 => by have q0_ := h.1; have q1_ := h.2; rcases h2.1 with q_ | q_; (rcases q_.1 with q2_ | q2_; (have q3_ := q2_.2; omega); omega); omega⟩)
       (fun k h => .inr (by rcases h.1 with q_ | q_; (rcases q_.1 with q2_ | q2_; exact q2_.1; omega); omega))
      have hN := R_fr (R_fr (R_fr HN4.out hF2.out (fun k hk hl h => by have q_ := (HT4.out k hk).2; have q2_ := h.1; omega)) hX3.out (fun k hk hl h => by have q_ := (HT4.out k hk).2; rcases h.1 with q3_ | q3_; (have q4_ := q3_.1; omega); omega)) eF (fun k hk hl h => by (try simp only at h); have q_ := (HT4.out k hk).2; omega)
      have hFF := (((Fr.of_below hB.out S).then_ hF2.out (fun k h hl => by have q_ := h.1; omega)).then_ hX3.out (fun k h hl => by rcases h.1 with q3_ | q3_; (have q4_ := q3_.1; omega); omega)).then_ eF (fun k h hl => by (try simp only at h); omega)
      exact pat_some (z := insJ j 0 o.value) (cs := [Value.int IntKind.i64 j.kind, .int .i64 j.n, .string j.s, .slice D3 n3 d3, .slice A2 j.names.length c2]) HAV.out rfl (tJ_O.2 ⟨_, _, fun k => T3 k ∨ W3.heap.size ≤ k, T4, rfl, hsj, hL, hN, fun k h => by
       rcases h with q_ | q_
       ·exact .inr (HT3.out k q_).1
       ·exact .inl (by omega), fun k h => .inr (HT4.out k h).1, fun k h h2 => by
       rcases h with q_ | q_
       ·exact H34.out k q_ h2
       ·have q2_ := (HT4.out k h2).2
        omega⟩) hFF
     ·have hlt0 : w.heap.size < W3.heap.size := by have := hsz0.out; omega
      have hne0 : ¬ w.heap.size = W3.heap.size := by omega
      have hlt1 : w.heap.size + 1 < W3.heap.size := by have := hsz0.out; omega
      have hne1 : ¬ w.heap.size + 1 = W3.heap.size := by omega
      obtain ⟨v00, v01, v02, v03, v04, v0z⟩ := blk5 b0.out
      obtain ⟨v10, v11, v12, v13, v14, v15, v16, v1z⟩ := blk7 b1.out
      obtain ⟨v20, v21, v22, v23, v24, v2z⟩ := blk5 b2.out
      go_wp2_with (at_builtin; refine append_rw rfl rfl _ _ rfl (l := []) (ys := LC.take p) (m := p) (S := fun k => W3.heap.size ≤ k) (S' := fun k => W3.heap.size ≤ k) rfl rfl (by rw [List.length_take]; have := HLL.out; omega) (R_empty (raw 5) _ _) (C_take (C_below HCC.out (below_alloc HBW.out _)) _) (fun _ h => h) (fun k h => by simp at h; omega) (by simp; omega) (fun v1 wa hv1 hX1 => ?_); obtain ⟨D1, d1, hve, hd1, _⟩ := R_C hv1; obtain ⟨n1, hn1⟩ : ∃ z, z = (([] : List (List Value)) ++ LC.take p).length := ⟨_, rfl⟩; rw [← hn1] at hve; subst hve; clear hn1 hd1; have hX := (((Fr.refl W3 (fun k => W3.heap.size ≤ k)).alloc _).then_ hX1 (fun k h _ => h)).below (fun k h => h); clear hX1; obtain ⟨y0, y1, y2, y3, y4, y5, y6, yz⟩ := blk7 (b1.out.below hX))
      clear v00 v01 v02 v03 v04 v0z v10 v11 v12 v13 v14 v15 v16 v1z v20 v21 v22 v23 v24 v2z
      clear y0 y1 y2 y3 y4 y5 y6 yz
      rw [List.nil_append] at hv1
      have HRW := Hd.mk (R_bound hv1); clear hv1
      clear hlt0 hne0 hlt1 hne1
      have HBW := Hd.mk (below_then HBW.out hX)
      have b0 := b0.dn hX
      have b1 := b1.dn hX
      have b2 := b2.dn hX
      have HN4 := Hd.mk (R_below HN4.out hX)
      have hB := hB.th hX
      have hz_ := hX.size
      clear hX
      have z4 := Hd.mk hz_; clear hz_
      apply calls_gen; intro W4 hW
      have hz_ : wa.heap.size ≤ W4.heap.size := by rw [hW]; simp
      have hE : Below wa.heap.size wa W4 := by rw [hW]; (repeat (first | with_reducible refine below_alloc ?_ _ | with_reducible refine below_drew ?_)); exact Below.refl _ _
      have hB := hB.th hE
      have HBW := Hd.mk (below_then HBW.out hE)
      have b0 := b0.dn hE
      have b1 := b1.dn hE
      have b2 := b2.dn hE
      have HN4 := Hd.mk (R_below HN4.out hE)
      have HRW := Hd.mk (R_below HRW.out hE)
      clear hW hE
      have z5 := Hd.mk hz_; clear hz_
      refine (spec_l1Copy o.value _ _ (Ty.K_below _ hB.out HKJ.out) HBU.out).mono ?_
      rintro e w5 ⟨cy, rfl, hY, hX⟩
      have b0 := b0.dn hX
      have b1 := b1.dn hX
      have b2 := b2.dn hX
      have HN4 := Hd.mk (R_below HN4.out hX)
      have HRW := Hd.mk (R_below HRW.out hX)
      have hB := hB.th hX
      have hz_ := hX.size
      have HBW := Hd.mk (below_then HBW.out hX)
      clear hX
      have z6 := Hd.mk hz_; clear hz_
      obtain ⟨v3, v4, _, _, hcy, _, h3_, h4_, _⟩ := tJ_O.1 hY
      obtain ⟨A7, c7, rfl, _, _⟩ := R_C h3_
      obtain ⟨A8, c8, rfl, _, _⟩ := R_C h4_
      clear h3_ h4_
      subst hcy
      replace hY := Hd.mk (show (tJ (m + 1)).O w5 (rng W4.heap.size w5.heap.size) o.value _ from Ty.O_bound _ hY)
      obtain ⟨v00, v01, v02, v03, v04, v0z⟩ := blk5 b0.out
      obtain ⟨v10, v11, v12, v13, v14, v15, v16, v1z⟩ := blk7 b1.out
      obtain ⟨v20, v21, v22, v23, v24, v2z⟩ := blk5 b2.out
      go_wp2_with (first | (at_builtin; refine append_r1 rfl rfl [Value.int IntKind.i64 o.value.kind, Value.int IntKind.i64 o.value.n, Value.string o.value.s, Value.slice A7 o.value.list.length c7, Value.slice A8 o.value.names.length c8] ⟨rfl, one5 _ _ _ _ _ _ _ _ _⟩ rfl _ _ rfl rfl rfl HRW.out (by have := HLL.out; first | (simp; done) | (simp; omega)) (fun v2 wb hv2 hX2 => ?_); obtain ⟨D2, d2, hve, hd2, _⟩ := R_C hv2; obtain ⟨n2, hn2⟩ : ∃ z, z = (LC.take p ++ [[Value.int IntKind.i64 o.value.kind, Value.int IntKind.i64 o.value.n, Value.string o.value.s, Value.slice A7 o.value.list.length c7, Value.slice A8 o.value.names.length c8]]).length := ⟨_, rfl⟩; rw [← hn2] at hve; subst hve; clear hn2 hd2; have hX := hX2; clear hX2; have hsz0_ := hsz0.out; have z1_ := z1.out; have z2_ := z2.out; have z3_ := z3.out; have z4_ := z4.out; have z5_ := z5.out; have z6_ := z6.out; obtain ⟨y0, y1, y2, y3, y4, yz⟩ := blk5 (b0.out.fr hX (fun h => by have q_ := h.1; omega)); obtain ⟨u0, u1, u2, u3, u4, uz⟩ := blk5 (b2.out.fr hX (fun h => by have q_ := h.1; omega)); have HBV := Hd.mk (below_frS HBW.out hX (fun k h => h.1)); have hF2 := Hd.mk hX; clear hX; have HRV := Hd.mk (R_bound hv2); clear hv2 HRW) | (at_builtin; refine append_rw rfl rfl _ _ rfl (ys := LC.drop p) (S' := fun k => (fun k => (W3.heap.size ≤ k ∧ k < wa.heap.size ∨ w5.heap.size ≤ k) ∧ k < wb.heap.size) k ∨ wb.heap.size ≤ k) rfl rfl (by rw [List.length_drop]; have h1_ := HLL.out; omega) HRV.out (C_dropIf (C_below HCC.out HBV.out) (by have := HLL.out; omega)) (fun k h => .inl h) (fun k h => .inr h) (by have := HLL.out; first | (simp; done) | (simp; omega)) (fun v3 wc hv3 hX3 => ?_); obtain ⟨D3, d3, hve, hd3, _⟩ := R_C hv3; obtain ⟨n3, hn3⟩ : ∃ z, z = (LC.take p ++ [[Value.int IntKind.i64 o.value.kind, Value.int IntKind.i64 o.value.n, Value.string o.value.s, Value.slice A7 o.value.list.length c7, Value.slice A8 o.value.names.length c8]] ++ LC.drop p).length := ⟨_, rfl⟩; rw [← hn3] at hve; subst hve; clear hn3 hd3; clear y0 y1 y2 y3 y4 yz u0 u1 u2 u3 u4 uz; obtain ⟨y0, y1, y2, y3, y4, yz⟩ := blk5 ((b0.out.fr hF2.out (fun h => by have q_ := h.1; omega)).fr hX3 (fun h => by rcases h.1 with q_ | q_; (have q2_ := q_.1; omega); omega)); obtain ⟨u0, u1, u2, u3, u4, uz⟩ := blk5 ((b2.out.fr hF2.out (fun h => by have q_ := h.1; omega)).fr hX3 (fun h => by rcases h.1 with q_ | q_; (have q2_ := q_.1; omega); omega)); have hX3 := Hd.mk hX3; have HRF := Hd.mk (R_bound hv3); clear hv3 HRV; generalize (if c1 = p then (some ⟨gl, 0, none⟩ : Option Addr) else some ⟨gl, p * 5, none⟩) = AX_))
      refine bodyPost_retW (v := .tuple #[.agg #[.int .i64 j.kind, .int .i64 j.n, .string j.s, .slice D3 n3 d3, .slice A2 j.names.length c2], .bool true]) (by simp [results, Try.results126, go_sem, v00, v01, v02, v03, v04, v0z, v10, v11, v12, v13, v14, v15, v16, v1z, v20, v21, v22, v23, v24, v2z, y0, y1, y2, y3, y4, u0, u1, u2, u3, u4]) rfl ?_
      intro W hW
      clear v00 v01 v02 v03 v04 v0z v10 v11 v12 v13 v14 v15 v16 v1z v20 v21 v22 v23 v24 v2z
      clear y0 y1 y2 y3 y4 yz u0 u1 u2 u3 u4 uz
      have eF : Fr wc W (fun k => k = w.heap.size ∨ k = w.heap.size + 2) := by rw [hW]; (repeat (first | with_reducible refine Fr.setCell ?_ _ (fun _ => by simp <;> omega) _ | with_reducible refine Fr.alloc ?_ _ | with_reducible refine Fr.drew ?_)); exact Fr.refl _ _
      clear hW
      have hws : w.heap.size + 3 ≤ W3.heap.size := by omega
      have hwb := hF2.out.size
      have hwc := hX3.out.size
      have hBC := below_frS HBV.out hX3.out (fun k h => by rcases h.1 with q_ | q_; exact q_.1; omega)
      have hRF := HRF.out
      rw [List.append_assoc, List.singleton_append, HLC.out] at hRF
      have hRW := R_fr hRF eF (fun k hk hl h => by (try simp only at h); have q9_ := hk.2; rcases hk.1 with q_ | q_; (rcases q_.1 with q2_ | q2_; (have q3_ := q2_.1; omega); omega); omega)
      have hTi : ∀ i b, T i b → T3 b ∧ b < w.heap.size := fun i b hb => ⟨(HCS.out i b hb).1, (HT3.out b (HCS.out i b hb).1).2⟩
      have hL := R_ins (S' := fun k => T3 k ∨ W3.heap.size ≤ k) (Tv := rng W4.heap.size w5.heap.size) (tJ (m + 1)) hpl hRW (fun i x hx => Ty.O_fr (Ty.O_below (Ty.O_mono _ (S := fun b => T i b ∧ b < W3.heap.size) (fun k h => h.1) (Ty.O_bound _ (HCO.out i x hx))) hBC) eF (fun k hk hl h => by (try simp only at h); have q_ := (hTi i k hk).2; omega))
       (Ty.O_fr (Ty.O_fr (Ty.O_fr hY.out hF2.out (fun k hk hl h => by have q_ := hk.1; have q2_ := h.2; omega)) hX3.out (fun k hk hl h => by have q_ := hk.1; have q2_ := hk.2; rcases h.1 with q3_ | q3_; (have q4_ := q3_.2; omega); omega)) eF (fun k hk hl h => by (try simp only at h); have q_ := hk.1; omega))
       HCT.out (fun i b hb h => by have q_ := (hTi i b hb).2; have q2_ := h.1; omega)
       (fun i b hb => ⟨.inl (hTi i b hb).1, fun h => by have q0_ := (hTi i b hb).2; rcases h.1 with q_ | q_; (rcases q_.1 with q2_ | q2_; (have q3_ := q2_.1; omega); omega); omega⟩)
       (fun b h => ⟨.inr (by have q_ := h.1; omega), fun h2 => by have q0_ := h.1; have q1_ := h.2; rcases h2.1 with q_ | q_; (rcases q_.1 with q2_ | q2_; (have q3_ := q2_.2; omega); omega); omega⟩)
       (fun k h => .inr (by rcases h.1 with q_ | q_; (rcases q_.1 with q2_ | q2_; exact q2_.1; omega); omega))
      have hN := R_fr (R_fr (R_fr HN4.out hF2.out (fun k hk hl h => by have q_ := (HT4.out k hk).2; have q2_ := h.1; omega)) hX3.out (fun k hk hl h => by have q_ := (HT4.out k hk).2; rcases h.1 with q3_ | q3_; (have q4_ := q3_.1; omega); omega)) eF (fun k hk hl h => by (try simp only at h); have q_ := (HT4.out k hk).2; omega)
      have hFF := (((Fr.of_below hB.out S).then_ hF2.out (fun k h hl => by have q_ := h.1; omega)).then_ hX3.out (fun k h hl => by rcases h.1 with q3_ | q3_; (have q4_ := q3_.1; omega); omega)).then_ eF (fun k h hl => by (try simp only at h); omega)
      exact pat_some (z := insJ j p o.value) (cs := [Value.int IntKind.i64 j.kind, .int .i64 j.n, .string j.s, .slice D3 n3 d3, .slice A2 j.names.length c2]) HAV.out rfl (tJ_O.2 ⟨_, _, fun k => T3 k ∨ W3.heap.size ≤ k, T4, rfl, hsj, hL, hN, fun k h => by
       rcases h with q_ | q_
       ·exact .inr (HT3.out k q_).1
       ·exact .inl (by omega), fun k h => .inr (HT4.out k h).1, fun k h h2 => by
       rcases h with q_ | q_
       ·exact H34.out k q_ h2
       ·have q2_ := (HT4.out k h2).2
        omega⟩) hFF
 ·have hd5 : decide (j.kind = 5) = true := by simpa using hk5
  have HAV := Hd.mk (show addV j s o.value = some (putJ j o.value s) by unfold addV; rw [hk5]; rfl)
  have HNL := Hd.mk (own5 HOW.out hk5).2.2.2
  go_enter Try.func126, Try.ntmps126
  go_wp2_with fail
  apply wp_gen; intro W1 hW
  have hz_ : w.heap.size + 3 ≤ W1.heap.size := by rw [hW]; simp
  have hE : Below w.heap.size w W1 := by rw [hW]; (repeat (first | with_reducible refine below_alloc ?_ _ | with_reducible refine below_drew ?_)); exact Below.refl _ _
  have hB := hB.th hE
  have b0 := Hd.mk (show Blk W1 (w.heap.size) #[.int .i64 j.kind, .int .i64 j.n, .string j.s, .slice A1 j.list.length c1, .slice A2 j.names.length c2] 27 by rw [hW]; first | exact (((Blk.new _ _ _).alloc _).alloc _) | (simpa using (((Blk.new _ _ _).alloc _).alloc _)))
  have b1 := Hd.mk (show Blk W1 (w.heap.size + 1) #[.int .i64 o.kind, .slice AW o.way.length cW, .int .i64 o.value.kind, .int .i64 o.value.n, .string o.value.s, .slice A3 o.value.list.length c3, .slice A4 o.value.names.length c4] 38 by rw [hW]; first | exact ((Blk.new1 _ _ _ _).alloc _) | (simpa using ((Blk.new1 _ _ _ _).alloc _)))
  have b2 := Hd.mk (show Blk W1 (w.heap.size + 1 + 1) #[.int .i64 0, .int .i64 0, .string ⟨#[]⟩, .slice none 0 0, .slice none 0 0] 27 by rw [hW]; first | exact (Blk.new2 _ _ _ _ _) | (simpa using (Blk.new2 _ _ _ _ _)))
  have HJ := HJ.ob hE
  clear hW hE
  have z1 := Hd.mk hz_; clear hz_
  obtain ⟨v00, v01, v02, v03, v04, v0z⟩ := blk5 b0.out
  obtain ⟨v10, v11, v12, v13, v14, v15, v16, v1z⟩ := blk7 b1.out
  obtain ⟨v20, v21, v22, v23, v24, v2z⟩ := blk5 b2.out
  obtain ⟨rv00, rv01, rv02, rv03, rv04, rv10, rv11⟩ := reg7 v00 v01 v02 v03 v04 v10 v11
  obtain ⟨rv12, rv13, rv14, rv15, rv16⟩ := reg5 v12 v13 v14 v15 v16
  obtain ⟨rv20, rv21, rv22, rv23, rv24⟩ := reg5 v20 v21 v22 v23 v24
  refine region_mixT (.q 0 (.p 1 (.p 2 (.q 3 (.b 4 (.b 5 .fin)))))) [6, 7] (by kernel_rfl) (by kernel_rfl) (fun _ _ _ _ _ h => h) ?_
  refine genT ?_
  intro W2 hW
  have hS := Hd.mk (show Below W1.heap.size W1 W2 by rw [hW]; exact below_drew (Below.refl _ _))
  have hz_ : W1.heap.size ≤ W2.heap.size := by rw [hW]; simp
  have hE : Below W1.heap.size W1 W2 := by rw [hW]; (repeat (first | with_reducible refine below_alloc ?_ _ | with_reducible refine below_drew ?_)); exact Below.refl _ _
  have hB := hB.th hE
  have b0 := b0.dn hE
  have b1 := b1.dn hE
  have b2 := b2.dn hE
  have HJ := HJ.ob hE
  clear hW hE
  have z2 := Hd.mk hz_; clear hz_
  iterate 4 ((first | refine mixT_q rfl ?_ | refine mixT_p rfl ?_); go_big_quiet_want; go_big_quiet_op; go_big_quiet_on; refine wpQuiet_nil ?_)
  refine mixT_b rfl ?_ (by rfl)
  go_wp2_with fail
  apply calls_gen; intro W3 hW
  have hz_ : W2.heap.size ≤ W3.heap.size := by rw [hW]; simp
  have hE : Below W2.heap.size W2 W3 := by rw [hW]; (repeat (first | with_reducible refine below_alloc ?_ _ | with_reducible refine below_drew ?_)); exact Below.refl _ _
  have hB := hB.th hE
  replace hS := Hd.mk (below_then hS.out hE)
  have b0 := b0.dn hE
  have b1 := b1.dn hE
  have b2 := b2.dn hE
  have HJ := HJ.ob hE
  clear hW hE
  have z3 := Hd.mk hz_; clear hz_
  refine (spec_l1Copy o.value _ _ (Ty.K_below _ hB.out HKJ.out) HBU.out).mono ?_
  rintro e w4 ⟨cy, rfl, hY, hX⟩
  have b0 := b0.dn hX
  have b1 := b1.dn hX
  have b2 := b2.dn hX
  have HJ := HJ.ob hX
  have hB := hB.th hX
  replace hS := Hd.mk (below_then hS.out hX)
  have hz_ := hX.size
  clear hX
  have z4 := Hd.mk hz_; clear hz_
  obtain ⟨v3, v4, _, _, hcy, _, h3_, h4_, _⟩ := tJ_O.1 hY
  obtain ⟨A7, c7, rfl, _, _⟩ := R_C h3_
  obtain ⟨A8, c8, rfl, _, _⟩ := R_C h4_
  clear h3_ h4_
  subst hcy
  replace hY := Hd.mk (show (tJ (m + 1)).O w4 (rng W3.heap.size w4.heap.size) o.value _ from Ty.O_bound _ hY)
  go_wp2_with fail
  refine ⟨cls_below hS.out, ?_⟩
  refine mixT_b rfl ?_ (by rfl)
  go_wp2_with fail
  apply calls_gen; intro W5 hW
  have hz_ : w4.heap.size ≤ W5.heap.size := by rw [hW]; simp
  have hE : Below w4.heap.size w4 W5 := by rw [hW]; (repeat (first | with_reducible refine below_alloc ?_ _ | with_reducible refine below_drew ?_)); exact Below.refl _ _
  have hB := hB.th hE
  replace hS := Hd.mk (below_then hS.out hE)
  have b0 := b0.dn hE
  have b1 := b1.dn hE
  have b2 := b2.dn hE
  have HJ := HJ.ob hE
  have hY := hY.ob hE
  clear hW hE
  have z5 := Hd.mk hz_; clear hz_
  have z1_ := z1.out; have z2_ := z2.out; have z3_ := z3.out; have z4_ := z4.out; have z5_ := z5.out
  refine (spec_l1Put (m := m) j o.value s _ _ _ HJ.out hY.out (fun k h h2 => by have q_ := h.2; have q2_ := h2.1; omega) hs HNL.out (by omega)).mono ?_
  rintro e w6 ⟨cz, rfl, hZ, hX⟩
  have b0 := b0.dn hX
  have b1 := b1.dn hX
  have b2 := b2.dn hX
  have HJ := HJ.ob hX
  have hY := hY.ob hX
  have hB := hB.th hX
  replace hS := Hd.mk (below_then hS.out hX)
  have hz_ := hX.size
  clear hX
  have z6 := Hd.mk hz_; clear hz_
  obtain ⟨v3, v4, _, _, hcz, _, h3_, h4_, _⟩ := tJ_O.1 hZ
  obtain ⟨A9, c9, rfl, _, _⟩ := R_C h3_
  obtain ⟨A10, c10, rfl, _, _⟩ := R_C h4_
  clear h3_ h4_
  subst hcz
  replace hZ := Hd.mk (Ty.O_bound _ hZ)
  go_wp2_with fail
  refine ⟨cls_below hS.out, ?_⟩
  refine mixT_fin ?_
  clear hS
  clear rv00 rv01 rv02 rv03 rv04 rv10 rv11 rv12 rv13 rv14 rv15 rv16 rv20 rv21 rv22 rv23 rv24
  clear v00 v01 v02 v03 v04 v0z v10 v11 v12 v13 v14 v15 v16 v1z v20 v21 v22 v23 v24 v2z
  obtain ⟨v00, v01, v02, v03, v04, v0z⟩ := blk5 b0.out
  obtain ⟨v10, v11, v12, v13, v14, v15, v16, v1z⟩ := blk7 b1.out
  obtain ⟨v20, v21, v22, v23, v24, v2z⟩ := blk5 b2.out
  refine tail_b rfl ?_ (by rfl)
  go_wp2_with fail
  refine mixQ_n ?_
  refine tail_b rfl ?_ (by rfl)
  go_wp2_with fail
  refine mixQ_n ?_
  refine tail_nil ?_
  go_wp2_with fail
  refine bodyPost_retW (v := .tuple #[.agg #[.int .i64 (putJ j o.value s).kind, .int .i64 (putJ j o.value s).n, .string (putJ j o.value s).s, .slice A9 (putJ j o.value s).list.length c9, .slice A10 (putJ j o.value s).names.length c10], .bool true]) (by simp [results, Try.results126, go_sem, v00, v01, v02, v03, v04, v0z, v10, v11, v12, v13, v14, v15, v16, v1z, v20, v21, v22, v23, v24, v2z]) rfl ?_
  intro W hW
  clear v00 v01 v02 v03 v04 v0z v10 v11 v12 v13 v14 v15 v16 v1z v20 v21 v22 v23 v24 v2z
  have z1_ := z1.out; have z2_ := z2.out; have z3_ := z3.out; have z4_ := z4.out; have z5_ := z5.out; have z6_ := z6.out
  have hBs := hB.out.size
  have eF : Fr w6 W (fun k => k = w.heap.size + 2) := by rw [hW]; (repeat (first | with_reducible refine Fr.setCell ?_ _ (fun _ => by simp <;> omega) _ | with_reducible refine Fr.alloc ?_ _ | with_reducible refine Fr.drew ?_)); exact Fr.refl _ _
  exact pat_some (z := putJ j o.value s) (cs := [Value.int IntKind.i64 (putJ j o.value s).kind, .int .i64 (putJ j o.value s).n, .string (putJ j o.value s).s, .slice A9 (putJ j o.value s).list.length c9, .slice A10 (putJ j o.value s).names.length c10]) HAV.out rfl (Ty.O_mono _ (fun k hk => by
   rcases hk.1 with q_ | q_ | q_
   ·exact .inl (by omega)
   ·exact .inr q_.1
   ·exact .inl (by have q2_ := q_.1; omega)) (Ty.O_fr hZ.out eF (fun k hk hl h => by
   (try simp only at h)
   rcases hk.1 with q_ | q_ | q_
   ·omega
   ·have q2_ := q_.2; omega
   ·have q2_ := q_.1; omega))) ((Fr.of_below hB.out S).then_ eF (fun k h hl => by (try simp only at h); omega))
end Go.Proofs.Ytlkjpnlpankhpaa.X
namespace Go.Proofs.Ytlkjpnlpankhpaa.X
open Go.RowKit Go.Sort Go.Lib
set_option linter.unusedVariables false
set_option linter.unusedSimpArgs false
open Ty
theorem zeroA (a : Value) : (Builtin.zeroCells #[a] 1).toList = [a] := by
 simp [Builtin.zeroCells, show Array.range 1 = #[0] from rfl]
theorem zero5 (a b c d e : Value) : (Builtin.zeroCells #[a, b, c, d, e] 1).toList = [a, b, c, d, e] := by
 simp [Builtin.zeroCells, show Array.range 5 = #[0, 1, 2, 3, 4] from rfl]
theorem zero6 (a b c d e f : Value) : (Builtin.zeroCells #[a, b, c, d, e, f] 1).toList = [a, b, c, d, e, f] := by
 simp [Builtin.zeroCells, show Array.range 6 = #[0, 1, 2, 3, 4, 5] from rfl]
end Go.Proofs.Ytlkjpnlpankhpaa.X
namespace Go.Proofs.Ytlkjpnlpankhpaa.X
open Go.RowKit Go.Sort
set_option linter.unusedVariables false
set_option linter.unusedSimpArgs false
open Ty
end Go.Proofs.Ytlkjpnlpankhpaa.X
namespace Go.Proofs.Ytlkjpnlpankhpaa.X
open Go.RowKit Go.Sort
set_option linter.unusedVariables false
set_option linter.unusedSimpArgs false
open Ty
set_option maxRecDepth 100000 in
theorem spec_l4Whole {B : Nat} {S : Nat → Prop} (j : J) (cs : List Value) (o : JOp) (co : List Value) (w : World) (hj : (tJ (B + 1)).O w S j cs) (ho : (tOp (B + 1)).K w o co) (hb : bulkJ (B + 1) o.value ≤ 4194304) (hk : 1 ≤ o.kind ∧ o.kind ≤ 4) :
  Calls Try.prog 121 #[.agg cs.toArray, .agg co.toArray] w fun e w' => PatPost (B + 1) w S (wholeV o j) e w' := by
 obtain ⟨v3, v4, _, _, rfl, hsj, hr3, hr4, _⟩ := tJ_O.1 hj
 obtain ⟨A1, c1, rfl, hc1, _⟩ := R_C hr3
 obtain ⟨A2, c2, rfl, hc2, _⟩ := R_C hr4
 clear hr3 hr4
 have HJ := Hd.mk hj; clear hj
 obtain ⟨AW, cW, _, rfl, ⟨hcw, hrw⟩, hjo⟩ := tOp_K.1 ho
 have HKJ := Hd.mk hjo
 obtain ⟨A3, c3, A4, c4, rfl, hso, ⟨hc3, hr3⟩, hc4, hr4⟩ := tJ_K.1 hjo
 clear hr3 hr4 ho hjo
 have HBU := Hd.mk hb; clear hb
 obtain ⟨kk, hkk⟩ : ∃ z, z = o.kind := ⟨_, rfl⟩
 rw [← hkk] at hk ⊢
 have hB := Hd.mk (Below.refl w.heap.size w)
 obtain hk1 | hk1 | hk1 | hk1 : kk = 1 ∨ kk = 2 ∨ kk = 3 ∨ kk = 4 := by omega
 ·subst hk1
  have HKK := Hd.mk hkk; clear hkk hk
  go_enter Try.func121, Try.ntmps121
  go_wp2_with fail
  apply calls_gen; intro W1 hW
  have hz_ : w.heap.size + 3 ≤ W1.heap.size := by rw [hW]; simp
  have hE : Below w.heap.size w W1 := by rw [hW]; (repeat (first | with_reducible refine below_alloc ?_ _ | with_reducible refine below_drew ?_)); exact Below.refl _ _
  have hB := hB.th hE
  have b0 := Hd.mk (show Blk W1 (w.heap.size) #[.int .i64 j.kind, .int .i64 j.n, .string j.s, .slice A1 j.list.length c1, .slice A2 j.names.length c2] 27 by rw [hW]; first | exact (((Blk.new _ _ _).alloc _).alloc _) | (simpa using (((Blk.new _ _ _).alloc _).alloc _)))
  have b1 := Hd.mk (show Blk W1 (w.heap.size + 1) #[.int .i64 1, .slice AW o.way.length cW, .int .i64 o.value.kind, .int .i64 o.value.n, .string o.value.s, .slice A3 o.value.list.length c3, .slice A4 o.value.names.length c4] 38 by rw [hW]; first | exact ((Blk.new1 _ _ _ _).alloc _) | (simpa using ((Blk.new1 _ _ _ _).alloc _)))
  have b2 := Hd.mk (show Blk W1 (w.heap.size + 1 + 1) #[.int .i64 0, .int .i64 0, .string ⟨#[]⟩, .slice none 0 0, .slice none 0 0] 27 by rw [hW]; first | exact (Blk.new2 _ _ _ _ _) | (simpa using (Blk.new2 _ _ _ _ _)))
  clear hW hE
  have z1 := Hd.mk hz_; clear hz_
  refine (spec_l1Copy o.value _ _ (Ty.K_below _ hB.out HKJ.out) HBU.out).mono ?_
  rintro e w2 ⟨cy, rfl, hY, hX⟩
  have b0 := b0.dn hX
  have b1 := b1.dn hX
  have b2 := b2.dn hX
  have hB := hB.th hX
  have hz_ := hX.size
  clear hX
  have z2 := Hd.mk hz_; clear hz_
  obtain ⟨v3, v4, _, _, hcy, _, h3_, h4_, _⟩ := tJ_O.1 hY
  obtain ⟨A7, c7, rfl, _, _⟩ := R_C h3_
  obtain ⟨A8, c8, rfl, _, _⟩ := R_C h4_
  clear h3_ h4_
  subst hcy
  replace hY := Hd.mk (show (tJ (B + 1)).O w2 (rng W1.heap.size w2.heap.size) o.value _ from Ty.O_bound _ hY)
  obtain ⟨v00, v01, v02, v03, v04, v0z⟩ := blk5 b0.out
  obtain ⟨v10, v11, v12, v13, v14, v15, v16, v1z⟩ := blk7 b1.out
  obtain ⟨v20, v21, v22, v23, v24, v2z⟩ := blk5 b2.out
  go_wp2_with fail
  refine bodyPost_retW (v := .tuple #[.agg #[.int .i64 o.value.kind, .int .i64 o.value.n, .string o.value.s, .slice A7 o.value.list.length c7, .slice A8 o.value.names.length c8], .bool true]) (by simp [results, Try.results121, go_sem, v00, v01, v02, v03, v04, v0z, v10, v11, v12, v13, v14, v15, v16, v1z, v20, v21, v22, v23, v24, v2z]) rfl ?_
  intro W hW
  clear v00 v01 v02 v03 v04 v0z v10 v11 v12 v13 v14 v15 v16 v1z v20 v21 v22 v23 v24 v2z
  have hz_ : w2.heap.size ≤ W.heap.size := by rw [hW]; simp
  have eF : Fr w2 W (fun k => k = w.heap.size + 1 + 1 ∨ w2.heap.size ≤ k) := by rw [hW]; (repeat (first | with_reducible refine Fr.setCell ?_ _ (fun _ => by simp <;> omega) _ | with_reducible refine Fr.alloc ?_ _ | with_reducible refine Fr.drew ?_)); exact Fr.refl _ _
  have z1_ := z1.out; have z2_ := z2.out
  have hB := Hd.mk (((Fr.of_below hB.out (fun k => k = w.heap.size + 1 + 1 ∨ w2.heap.size ≤ k)).then_ eF (fun k hk _ => hk)).below (fun k hk => by have := hB.out.size; omega))
  have b0 := Hd.mk (b0.out.fr eF (fun h => by have hlt_ := b0.out.lt; (try simp only at h); omega))
  have b1 := Hd.mk (b1.out.fr eF (fun h => by have hlt_ := b1.out.lt; (try simp only at h); omega))
  have b2 := Hd.mk (show Blk W (w.heap.size + 1 + 1) #[.int .i64 o.value.kind, .int .i64 o.value.n, .string o.value.s, .slice A7 o.value.list.length c7, .slice A8 o.value.names.length c8] 27 by rw [hW]; exact (Blk.all b2.out [Value.int IntKind.i64 o.value.kind, .int .i64 o.value.n, .string o.value.s, .slice A7 o.value.list.length c7, .slice A8 o.value.names.length c8] rfl))
  have hY := Hd.mk (Ty.O_fr hY.out eF (fun k hk hl h => by skip; (try simp only [rng] at hk); (try simp only at hk); (try simp only at h); omega))
  clear hW eF
  have z3 := Hd.mk hz_; clear hz_
  have z1_ := z1.out; have z2_ := z2.out
  exact pat_some (z := o.value) (cs := [Value.int IntKind.i64 o.value.kind, .int .i64 o.value.n, .string o.value.s, .slice A7 o.value.list.length c7, .slice A8 o.value.names.length c8]) (by unfold wholeV; rw [← HKK.out]; rfl) rfl (Ty.O_mono _ (fun k h => by have q_ := h.1; exact .inl (by omega)) hY.out) (Fr.of_below hB.out S)
 ·subst hk1
  have HKK := Hd.mk hkk; clear hkk hk
  go_enter Try.func121, Try.ntmps121
  go_wp2_with fail
  refine bodyPost_retW (v := .tuple #[.agg #[.int .i64 j.kind, .int .i64 j.n, .string j.s, .slice A1 j.list.length c1, .slice A2 j.names.length c2], .bool false]) (by simp [results, Try.results121, go_sem]) rfl ?_
  intro W hW
  have eF : Fr w W (fun k => w.heap.size ≤ k) := by rw [hW]; (repeat (first | with_reducible refine Fr.setCell ?_ _ (fun _ => by simp <;> omega) _ | with_reducible refine Fr.alloc ?_ _ | with_reducible refine Fr.drew ?_)); exact Fr.refl _ _
  exact pat_none (by unfold wholeV; rw [← HKK.out]; rfl) rfl (Fr.of_below (eF.below (fun k h => h)) S)
 ·subst hk1
  have HKK := Hd.mk hkk; clear hkk hk
  go_enter Try.func121, Try.ntmps121
  go_wp2_with fail
  apply calls_gen; intro W1 hW
  have hz_ : w.heap.size + 3 ≤ W1.heap.size := by rw [hW]; simp
  have hE : Below w.heap.size w W1 := by rw [hW]; (repeat (first | with_reducible refine below_alloc ?_ _ | with_reducible refine below_drew ?_)); exact Below.refl _ _
  have hB := hB.th hE
  have b0 := Hd.mk (show Blk W1 (w.heap.size) #[.int .i64 j.kind, .int .i64 j.n, .string j.s, .slice A1 j.list.length c1, .slice A2 j.names.length c2] 27 by rw [hW]; first | exact (((Blk.new _ _ _).alloc _).alloc _) | (simpa using (((Blk.new _ _ _).alloc _).alloc _)))
  have b1 := Hd.mk (show Blk W1 (w.heap.size + 1) #[.int .i64 3, .slice AW o.way.length cW, .int .i64 o.value.kind, .int .i64 o.value.n, .string o.value.s, .slice A3 o.value.list.length c3, .slice A4 o.value.names.length c4] 38 by rw [hW]; first | exact ((Blk.new1 _ _ _ _).alloc _) | (simpa using ((Blk.new1 _ _ _ _).alloc _)))
  have b2 := Hd.mk (show Blk W1 (w.heap.size + 1 + 1) #[.int .i64 0, .int .i64 0, .string ⟨#[]⟩, .slice none 0 0, .slice none 0 0] 27 by rw [hW]; first | exact (Blk.new2 _ _ _ _ _) | (simpa using (Blk.new2 _ _ _ _ _)))
  clear hW hE
  have z1 := Hd.mk hz_; clear hz_
  refine (spec_l1Copy o.value _ _ (Ty.K_below _ hB.out HKJ.out) HBU.out).mono ?_
  rintro e w2 ⟨cy, rfl, hY, hX⟩
  have b0 := b0.dn hX
  have b1 := b1.dn hX
  have b2 := b2.dn hX
  have hB := hB.th hX
  have hz_ := hX.size
  clear hX
  have z2 := Hd.mk hz_; clear hz_
  obtain ⟨v3, v4, _, _, hcy, _, h3_, h4_, _⟩ := tJ_O.1 hY
  obtain ⟨A7, c7, rfl, _, _⟩ := R_C h3_
  obtain ⟨A8, c8, rfl, _, _⟩ := R_C h4_
  clear h3_ h4_
  subst hcy
  replace hY := Hd.mk (show (tJ (B + 1)).O w2 (rng W1.heap.size w2.heap.size) o.value _ from Ty.O_bound _ hY)
  obtain ⟨v00, v01, v02, v03, v04, v0z⟩ := blk5 b0.out
  obtain ⟨v10, v11, v12, v13, v14, v15, v16, v1z⟩ := blk7 b1.out
  obtain ⟨v20, v21, v22, v23, v24, v2z⟩ := blk5 b2.out
  go_wp2_with fail
  refine bodyPost_retW (v := .tuple #[.agg #[.int .i64 o.value.kind, .int .i64 o.value.n, .string o.value.s, .slice A7 o.value.list.length c7, .slice A8 o.value.names.length c8], .bool true]) (by simp [results, Try.results121, go_sem, v00, v01, v02, v03, v04, v0z, v10, v11, v12, v13, v14, v15, v16, v1z, v20, v21, v22, v23, v24, v2z]) rfl ?_
  intro W hW
  clear v00 v01 v02 v03 v04 v0z v10 v11 v12 v13 v14 v15 v16 v1z v20 v21 v22 v23 v24 v2z
  have hz_ : w2.heap.size ≤ W.heap.size := by rw [hW]; simp
  have eF : Fr w2 W (fun k => k = w.heap.size + 1 + 1 ∨ w2.heap.size ≤ k) := by rw [hW]; (repeat (first | with_reducible refine Fr.setCell ?_ _ (fun _ => by simp <;> omega) _ | with_reducible refine Fr.alloc ?_ _ | with_reducible refine Fr.drew ?_)); exact Fr.refl _ _
  have z1_ := z1.out; have z2_ := z2.out
  have hB := Hd.mk (((Fr.of_below hB.out (fun k => k = w.heap.size + 1 + 1 ∨ w2.heap.size ≤ k)).then_ eF (fun k hk _ => hk)).below (fun k hk => by have := hB.out.size; omega))
  have b0 := Hd.mk (b0.out.fr eF (fun h => by have hlt_ := b0.out.lt; (try simp only at h); omega))
  have b1 := Hd.mk (b1.out.fr eF (fun h => by have hlt_ := b1.out.lt; (try simp only at h); omega))
  have b2 := Hd.mk (show Blk W (w.heap.size + 1 + 1) #[.int .i64 o.value.kind, .int .i64 o.value.n, .string o.value.s, .slice A7 o.value.list.length c7, .slice A8 o.value.names.length c8] 27 by rw [hW]; exact (Blk.all b2.out [Value.int IntKind.i64 o.value.kind, .int .i64 o.value.n, .string o.value.s, .slice A7 o.value.list.length c7, .slice A8 o.value.names.length c8] rfl))
  have hY := Hd.mk (Ty.O_fr hY.out eF (fun k hk hl h => by skip; (try simp only [rng] at hk); (try simp only at hk); (try simp only at h); omega))
  clear hW eF
  have z3 := Hd.mk hz_; clear hz_
  have z1_ := z1.out; have z2_ := z2.out
  exact pat_some (z := o.value) (cs := [Value.int IntKind.i64 o.value.kind, .int .i64 o.value.n, .string o.value.s, .slice A7 o.value.list.length c7, .slice A8 o.value.names.length c8]) (by unfold wholeV; rw [← HKK.out]; rfl) rfl (Ty.O_mono _ (fun k h => by have q_ := h.1; exact .inl (by omega)) hY.out) (Fr.of_below hB.out S)
 ·subst hk1
  have HKK := Hd.mk hkk; clear hkk hk
  go_enter Try.func121, Try.ntmps121
  go_wp2_with fail
  apply wp_gen; intro W1 hW
  have hz_ : w.heap.size + 3 ≤ W1.heap.size := by rw [hW]; simp
  have hE : Below w.heap.size w W1 := by rw [hW]; (repeat (first | with_reducible refine below_alloc ?_ _ | with_reducible refine below_drew ?_)); exact Below.refl _ _
  have hB := hB.th hE
  have b0 := Hd.mk (show Blk W1 (w.heap.size) #[.int .i64 j.kind, .int .i64 j.n, .string j.s, .slice A1 j.list.length c1, .slice A2 j.names.length c2] 27 by rw [hW]; first | exact (((Blk.new _ _ _).alloc _).alloc _) | (simpa using (((Blk.new _ _ _).alloc _).alloc _)))
  have b1 := Hd.mk (show Blk W1 (w.heap.size + 1) #[.int .i64 4, .slice AW o.way.length cW, .int .i64 o.value.kind, .int .i64 o.value.n, .string o.value.s, .slice A3 o.value.list.length c3, .slice A4 o.value.names.length c4] 38 by rw [hW]; first | exact ((Blk.new1 _ _ _ _).alloc _) | (simpa using ((Blk.new1 _ _ _ _).alloc _)))
  have b2 := Hd.mk (show Blk W1 (w.heap.size + 1 + 1) #[.int .i64 0, .int .i64 0, .string ⟨#[]⟩, .slice none 0 0, .slice none 0 0] 27 by rw [hW]; first | exact (Blk.new2 _ _ _ _ _) | (simpa using (Blk.new2 _ _ _ _ _)))
  clear hW hE
  have z1 := Hd.mk hz_; clear hz_
  obtain ⟨v00, v01, v02, v03, v04, v0z⟩ := blk5 b0.out
  obtain ⟨v10, v11, v12, v13, v14, v15, v16, v1z⟩ := blk7 b1.out
  obtain ⟨v20, v21, v22, v23, v24, v2z⟩ := blk5 b2.out
  obtain ⟨rv00, rv01, rv02, rv03, rv04, rv10, rv11⟩ := reg7 v00 v01 v02 v03 v04 v10 v11
  obtain ⟨rv12, rv13, rv14, rv15, rv16⟩ := reg5 v12 v13 v14 v15 v16
  obtain ⟨rv20, rv21, rv22, rv23, rv24⟩ := reg5 v20 v21 v22 v23 v24
  refine region_mixT (.q 0 (.q 1 (.p 2 (.q 3 (.b 4 .fin))))) [5, 6] (by kernel_rfl) (by kernel_rfl) (fun _ _ _ _ _ h => h) ?_
  refine genT ?_
  intro W2 hW
  have hS := Hd.mk (show Below W1.heap.size W1 W2 by rw [hW]; exact below_drew (Below.refl _ _))
  have hz_ : W1.heap.size ≤ W2.heap.size := by rw [hW]; simp
  have hE : Below W1.heap.size W1 W2 := by rw [hW]; (repeat (first | with_reducible refine below_alloc ?_ _ | with_reducible refine below_drew ?_)); exact Below.refl _ _
  have hB := hB.th hE
  have b0 := b0.dn hE
  have b1 := b1.dn hE
  have b2 := b2.dn hE
  clear hW hE
  have z2 := Hd.mk hz_; clear hz_
  iterate 4 ((first | refine mixT_q rfl ?_ | refine mixT_p rfl ?_); go_big_quiet_want; go_big_quiet_op; go_big_quiet_on; refine wpQuiet_nil ?_)
  refine mixT_b rfl ?_ (by rfl)
  go_wp2_with fail
  apply calls_gen; intro W3 hW
  have hz_ : W2.heap.size ≤ W3.heap.size := by rw [hW]; simp
  have hE : Below W2.heap.size W2 W3 := by rw [hW]; (repeat (first | with_reducible refine below_alloc ?_ _ | with_reducible refine below_drew ?_)); exact Below.refl _ _
  have hB := hB.th hE
  replace hS := Hd.mk (below_then hS.out hE)
  have b0 := b0.dn hE
  have b1 := b1.dn hE
  have b2 := b2.dn hE
  clear hW hE
  have z3 := Hd.mk hz_; clear hz_
  refine (same_all (B + 1) j o.value _ _ _ (Ty.O_K _ (Ty.O_below HJ.out hB.out)) (Ty.K_below _ hB.out HKJ.out)).mono ?_
  rintro e w4 ⟨rfl, hX⟩
  have b0 := b0.dn hX
  have b1 := b1.dn hX
  have b2 := b2.dn hX
  have hB := hB.th hX
  replace hS := Hd.mk (below_then hS.out hX)
  have hz_ := hX.size
  clear hX
  have z4 := Hd.mk hz_; clear hz_
  go_wp2_with fail
  refine ⟨cls_below hS.out, ?_⟩
  refine mixT_fin ?_
  clear hS
  clear rv00 rv01 rv02 rv03 rv04 rv10 rv11 rv12 rv13 rv14 rv15 rv16 rv20 rv21 rv22 rv23 rv24
  clear v00 v01 v02 v03 v04 v0z v10 v11 v12 v13 v14 v15 v16 v1z v20 v21 v22 v23 v24 v2z
  obtain ⟨v00, v01, v02, v03, v04, v0z⟩ := blk5 b0.out
  obtain ⟨v10, v11, v12, v13, v14, v15, v16, v1z⟩ := blk7 b1.out
  obtain ⟨v20, v21, v22, v23, v24, v2z⟩ := blk5 b2.out
  refine tail_b rfl ?_ (by rfl)
  go_wp2_with fail
  refine mixQ_n ?_
  refine tail_b rfl ?_ (by rfl)
  go_wp2_with fail
  refine mixQ_n ?_
  refine tail_nil ?_
  cases heq : eqv j o.value
  ·go_wp2_with fail
   refine bodyPost_retW (v := .tuple #[.agg #[.int .i64 j.kind, .int .i64 j.n, .string j.s, .slice A1 j.list.length c1, .slice A2 j.names.length c2], .bool false]) (by simp [results, Try.results121, go_sem, v00, v01, v02, v03, v04, v0z, v10, v11, v12, v13, v14, v15, v16, v1z, v20, v21, v22, v23, v24, v2z]) rfl ?_
   intro W hW
   clear v00 v01 v02 v03 v04 v0z v10 v11 v12 v13 v14 v15 v16 v1z v20 v21 v22 v23 v24 v2z
   have hz_ : w4.heap.size ≤ W.heap.size := by rw [hW]; simp
   have eF : Fr w4 W (fun k => k = w.heap.size + 1 + 1 ∨ w4.heap.size ≤ k) := by rw [hW]; (repeat (first | with_reducible refine Fr.setCell ?_ _ (fun _ => by simp <;> omega) _ | with_reducible refine Fr.alloc ?_ _ | with_reducible refine Fr.drew ?_)); exact Fr.refl _ _
   have z1_ := z1.out; have z2_ := z2.out; have z3_ := z3.out; have z4_ := z4.out
   have hB := Hd.mk (((Fr.of_below hB.out (fun k => k = w.heap.size + 1 + 1 ∨ w4.heap.size ≤ k)).then_ eF (fun k hk _ => hk)).below (fun k hk => by have := hB.out.size; omega))
   have b0 := Hd.mk (b0.out.fr eF (fun h => by have hlt_ := b0.out.lt; (try simp only at h); omega))
   have b1 := Hd.mk (b1.out.fr eF (fun h => by have hlt_ := b1.out.lt; (try simp only at h); omega))
   have b2 := Hd.mk (show Blk W (w.heap.size + 1 + 1) #[.int .i64 j.kind, .int .i64 j.n, .string j.s, .slice A1 j.list.length c1, .slice A2 j.names.length c2] 27 by rw [hW]; exact (Blk.all b2.out [Value.int IntKind.i64 j.kind, .int .i64 j.n, .string j.s, .slice A1 j.list.length c1, .slice A2 j.names.length c2] rfl))
   clear hW eF
   have z5 := Hd.mk hz_; clear hz_
   exact pat_none (by unfold wholeV; rw [← HKK.out, heq]; rfl) rfl (Fr.of_below hB.out S)
  ·go_wp2_with fail
   refine bodyPost_retW (v := .tuple #[.agg #[.int .i64 j.kind, .int .i64 j.n, .string j.s, .slice A1 j.list.length c1, .slice A2 j.names.length c2], .bool true]) (by simp [results, Try.results121, go_sem, v00, v01, v02, v03, v04, v0z, v10, v11, v12, v13, v14, v15, v16, v1z, v20, v21, v22, v23, v24, v2z]) rfl ?_
   intro W hW
   clear v00 v01 v02 v03 v04 v0z v10 v11 v12 v13 v14 v15 v16 v1z v20 v21 v22 v23 v24 v2z
   have hz_ : w4.heap.size ≤ W.heap.size := by rw [hW]; simp
   have eF : Fr w4 W (fun k => k = w.heap.size + 1 + 1 ∨ w4.heap.size ≤ k) := by rw [hW]; (repeat (first | with_reducible refine Fr.setCell ?_ _ (fun _ => by simp <;> omega) _ | with_reducible refine Fr.alloc ?_ _ | with_reducible refine Fr.drew ?_)); exact Fr.refl _ _
   have z1_ := z1.out; have z2_ := z2.out; have z3_ := z3.out; have z4_ := z4.out
   have hB := Hd.mk (((Fr.of_below hB.out (fun k => k = w.heap.size + 1 + 1 ∨ w4.heap.size ≤ k)).then_ eF (fun k hk _ => hk)).below (fun k hk => by have := hB.out.size; omega))
   have b0 := Hd.mk (b0.out.fr eF (fun h => by have hlt_ := b0.out.lt; (try simp only at h); omega))
   have b1 := Hd.mk (b1.out.fr eF (fun h => by have hlt_ := b1.out.lt; (try simp only at h); omega))
   have b2 := Hd.mk (show Blk W (w.heap.size + 1 + 1) #[.int .i64 j.kind, .int .i64 j.n, .string j.s, .slice A1 j.list.length c1, .slice A2 j.names.length c2] 27 by rw [hW]; exact (Blk.all b2.out [Value.int IntKind.i64 j.kind, .int .i64 j.n, .string j.s, .slice A1 j.list.length c1, .slice A2 j.names.length c2] rfl))
   clear hW eF
   have z5 := Hd.mk hz_; clear hz_
   exact pat_some (z := j) (cs := [Value.int IntKind.i64 j.kind, .int .i64 j.n, .string j.s, .slice A1 j.list.length c1, .slice A2 j.names.length c2]) (by unfold wholeV; rw [← HKK.out, heq]; rfl) rfl (Ty.O_mono _ (fun k h => .inr h) (Ty.O_below HJ.out hB.out)) (Fr.of_below hB.out S)
end Go.Proofs.Ytlkjpnlpankhpaa.X
namespace Go.Proofs.Ytlkjpnlpankhpaa.X
open Go.RowKit Go.Sort
set_option linter.unusedVariables false
set_option linter.unusedSimpArgs false
open Ty
theorem cell_old {w0 W x : World} {F : Nat → Prop} {a : Addr} {v : Value} (hc : w0.cell? a = some v) (hW : Below w0.heap.size w0 W) (hx : Fr W x F) (hF : ∀ k, F k → w0.heap.size ≤ k) : x.cell? a = some v := by
 have hl := World.block_lt_of_cell? w0 a hc
 have h1 := cell_below hW hc
 have h2 := hx.block a.block (Nat.lt_of_lt_of_le hl hW.size) (fun h => by have := hF _ h; omega)
 rw [World.cell?_of_block h2]; exact h1
def PatR (m : Nat) (w w' : World) (S : Nat → Prop) (r : Option J) (ok : Bool) (cs : List Value) : Prop :=
 (ok = true ∧ ∃ z, r = some z ∧ (tJ m).O w' (fun k => w.heap.size ≤ k ∨ S k) z cs) ∨ (ok = false ∧ r = none)
theorem pat_open {m : Nat} {w w' : World} {S : Nat → Prop} {r : Option J} {e : Ending} (h : PatPost (m + 1) w S r e w') :
  ∃ (a b : Int) (s : ByteArray) (A B : Option Addr) (n c n2 d : Nat) (ok : Bool), e = .returned (.tuple #[.agg #[.int .i64 a, .int .i64 b, .string s, .slice A n c, .slice B n2 d], .bool ok]) ∧ Fr w w' S ∧ PatR (m + 1) w w' S r ok [.int .i64 a, .int .i64 b, .string s, .slice A n c, .slice B n2 d] := by
 rcases h with ⟨z, cs, h1, h2, h3, h4⟩ | ⟨a, b, s, A, B, n, c, n2, d, h1, h2, h4⟩
 ·obtain ⟨v3, v4, _, _, rfl, _, k3, k4, _⟩ := tJ_O.1 h3
  obtain ⟨A, c, rfl, _, _⟩ := R_C k3
  obtain ⟨B, d, rfl, _, _⟩ := R_C k4
  exact ⟨_, _, _, _, _, _, _, _, _, true, h2, h4, .inl ⟨rfl, z, h1, h3⟩⟩
 ·exact ⟨_, _, _, _, _, _, _, _, _, false, h2, h4, .inr ⟨rfl, h1⟩⟩
theorem pat_close {m : Nat} {w w1 w2 W : World} {S S1 F : Nat → Prop} {r : Option J} {ok : Bool} {a b : Int} {s : ByteArray} {A B : Option Addr} {n c n2 d : Nat} (h : PatR m w1 w2 S1 r ok [.int .i64 a, .int .i64 b, .string s, .slice A n c, .slice B n2 d])
  (hW : Fr w2 W F) (hF : ∀ k, (w1.heap.size ≤ k ∨ S1 k) → k < w2.heap.size → ¬ F k) (hS : ∀ k, (w1.heap.size ≤ k ∨ S1 k) → w.heap.size ≤ k ∨ S k) (hwW : Fr w W S) :
  PatPost m w S r (.returned (.tuple #[.agg #[.int .i64 a, .int .i64 b, .string s, .slice A n c, .slice B n2 d], .bool ok])) W := by
 rcases h with ⟨rfl, z, h1, h2⟩ | ⟨rfl, h1⟩
 ·exact pat_some (cs := [_, _, _, _, _]) h1 rfl (Ty.O_mono _ hS (Ty.O_fr h2 hW hF)) hwW
 ·exact pat_none h1 rfl hwW
def PatT (m : Nat) (w' : World) (T : Nat → Prop) (r : Option J) (ok : Bool) (cs : List Value) : Prop :=
 (ok = true ∧ ∃ z, r = some z ∧ (tJ m).O w' T z cs) ∨ (ok = false ∧ r = none)
theorem pat_T {m : Nat} {w w' : World} {S : Nat → Prop} {r : Option J} {ok : Bool} {cs : List Value} (h : PatR m w w' S r ok cs) : PatT m w' (fun k => (w.heap.size ≤ k ∨ S k) ∧ k < w'.heap.size) r ok cs := by
 rcases h with ⟨h1, z, h2, h3⟩ | h
 ·exact .inl ⟨h1, z, h2, Ty.O_bound _ h3⟩
 ·exact .inr h
theorem patT_below {m : Nat} {w1 w2 : World} {T : Nat → Prop} {r : Option J} {ok : Bool} {cs : List Value} (h : PatT m w1 T r ok cs) (hb : Below w1.heap.size w1 w2) : PatT m w2 T r ok cs := by
 rcases h with ⟨h1, z, h2, h3⟩ | h
 ·exact .inl ⟨h1, z, h2, Ty.O_below h3 hb⟩
 ·exact .inr h
theorem patT_fr {m : Nat} {w1 w2 : World} {T F : Nat → Prop} {r : Option J} {ok : Bool} {cs : List Value} (h : PatT m w1 T r ok cs) (hf : Fr w1 w2 F) (hF : ∀ k, T k → k < w1.heap.size → ¬ F k) : PatT m w2 T r ok cs := by
 rcases h with ⟨h1, z, h2, h3⟩ | h
 ·exact .inl ⟨h1, z, h2, Ty.O_fr h3 hf hF⟩
 ·exact .inr h
theorem H_in {α : Type} {d : Ty α} {e : TypeId} {w : World} {S Si : Nat → Prop} {v : Value} {xs : List α} {i : Nat} {cs : List Value} (h : d.H e w S v xs i Si cs) : ∀ k, Si k → S k := by
 obtain ⟨_, _, inner, f, _, _, _, hs, _⟩ := h
 exact fun k hk => (hs k hk).1
theorem H_belowZ {α : Type} {d : Ty α} {e : TypeId} {w w1 : World} {S Si : Nat → Prop} {v : Value} {xs : List α} {i : Nat} {cs : List Value} (h : d.H e w S v xs i Si cs) (hb : Below w.heap.size w w1) : d.H e w1 S v xs i Si cs := H_step h (fun k _ _ hl => hb.block k hl)
theorem C_tail {w : World} {ad : Addr} {s : ByteArray} {r : List ByteArray} {A' : Option Addr} (h : str.C w (some ad) (s :: r)) (hA : r = [] ∨ A' = some (ad.add 1)) : str.C w A' r := by
 rcases hA with rfl | rfl
 ·exact C_nil _
 ·refine ⟨by have := h.1; simp only [List.length_cons] at this; omega, fun i x hx => ?_⟩
  obtain ⟨ad2, cs, h1, h2, h3⟩ := h.2 (i + 1) x (by simpa using hx)
  injection h1 with h1
  subst h1
  refine ⟨ad.add 1, cs, rfl, h2, fun j u hu => ?_⟩
  have h4 := h3 j u hu
  have e : (ad.add 1).add (i * str.sz + j) = ad.add ((i + 1) * str.sz + j) := by
   rw [Addr.add_add]
   congr 1
   show 1 + (i * 1 + j) = (i + 1) * 1 + j
   omega
  rw [e]; exact h4
end Go.Proofs.Ytlkjpnlpankhpaa.X
namespace Go.Proofs.Ytlkjpnlpankhpaa.X
open Go.RowKit Go.Sort
set_option linter.unusedVariables false
set_option linter.unusedSimpArgs false
open Ty
set_option maxHeartbeats 4000000 in
set_option maxRecDepth 100000 in
theorem spec_l4In {m : Nat} {S : Nat → Prop} (j : J) (s : ByteArray) (cs : List Value) (o : JOp) (co : List Value) (w : World) (hj : (tJ (m + 2)).O w S j cs) (ho : (tOp (m + 1)).K w o co) (hb : bulkJ (m + 1) o.value ≤ 4194304) (hk : 1 ≤ o.kind ∧ o.kind ≤ 4) (hs : s.size ≤ 1000) (hown : ownB j = true) (hle : j.list.length ≤ 399) :
  Calls Try.prog 122 #[.agg cs.toArray, .string s, .agg co.toArray] w fun e w' => PatPost (m + 2) w S (patV o [s] j) e w' := by
 obtain ⟨v3, v4, _, _, rfl, hsj, hr3, hr4, _⟩ := tJ_O.1 hj
 obtain ⟨A1, c1, rfl, hc1, _⟩ := R_C hr3
 obtain ⟨A2, c2, rfl, hc2, _⟩ := R_C hr4
 clear hr3 hr4
 have HJ := Hd.mk (Ty.O_bound _ hj); clear hj
 obtain ⟨AW, cW, _, rfl, ⟨hcw, hrw⟩, hjo⟩ := tOp_K.1 ho
 have HKJ := Hd.mk hjo
 obtain ⟨A3, c3, A4, c4, rfl, hso, ⟨hc3, hr3⟩, hc4, hr4⟩ := tJ_K.1 hjo
 have HKO := Hd.mk ho
 clear hr3 hr4 ho hjo hrw hcw
 have HBU := Hd.mk hb; have HOWN := Hd.mk hown; clear hb hown
 have HJ0 := Hd.mk HJ.out
 have hB := Hd.mk (Below.refl w.heap.size w)
 obtain ⟨kk, hkk⟩ : ∃ z, z = o.kind := ⟨_, rfl⟩
 rw [← hkk] at hk HKO ⊢
 obtain hk1 | hk1 | hk1 | hk1 : kk = 1 ∨ kk = 2 ∨ kk = 3 ∨ kk = 4 := by omega
 ·subst hk1
  have HKK := Hd.mk hkk; clear hkk hk
  go_enter Try.func122, Try.ntmps122
  go_wp2_with fail
  apply calls_gen; intro W1 hW
  have hz_ : w.heap.size + 3 ≤ W1.heap.size := by rw [hW]; simp
  have hE : Below w.heap.size w W1 := by rw [hW]; (repeat (first | with_reducible refine below_alloc ?_ _ | with_reducible refine below_drew ?_)); exact Below.refl _ _
  have hB := hB.th hE
  have b0 := Hd.mk (show Blk W1 (w.heap.size) #[.int .i64 j.kind, .int .i64 j.n, .string j.s, .slice A1 j.list.length c1, .slice A2 j.names.length c2] 27 by rw [hW]; first | exact (((Blk.new _ _ _).alloc _).alloc _) | (simpa using (((Blk.new _ _ _).alloc _).alloc _)))
  have b1 := Hd.mk (show Blk W1 (w.heap.size + 1) #[.int .i64 1, .slice AW o.way.length cW, .int .i64 o.value.kind, .int .i64 o.value.n, .string o.value.s, .slice A3 o.value.list.length c3, .slice A4 o.value.names.length c4] 38 by rw [hW]; first | exact ((Blk.new1 _ _ _ _).alloc _) | (simpa using ((Blk.new1 _ _ _ _).alloc _)))
  have b2 := Hd.mk (show Blk W1 (w.heap.size + 1 + 1) #[.int .i64 0, .int .i64 0, .string ⟨#[]⟩, .slice none 0 0, .slice none 0 0] 27 by rw [hW]; first | exact (Blk.new2 _ _ _ _ _) | (simpa using (Blk.new2 _ _ _ _ _)))
  have HJ := HJ.ob hE
  clear hW hE
  have z1 := Hd.mk hz_; clear hz_
  have z0 := Hd.mk (show w.heap.size + 3 ≤ W1.heap.size by have z1_ := z1.out; omega)
  refine (spec_l3At j _ s _ (Ty.O_K _ HJ.out) (by omega)).mono ?_
  rintro e w2 ⟨rfl, hX⟩
  have b0 := b0.dn hX
  have b1 := b1.dn hX
  have b2 := b2.dn hX
  have HJ := HJ.ob hX
  have hB := hB.th hX
  have hz_ := hX.size
  clear hX
  have z2 := Hd.mk hz_; clear hz_
  obtain ⟨at_, hat⟩ : ∃ z, z = placeS j s := ⟨_, rfl⟩
  rw [← hat]
  have HAT := Hd.mk hat; clear hat
  obtain ⟨v00, v01, v02, v03, v04, v0z⟩ := blk5 b0.out
  obtain ⟨v10, v11, v12, v13, v14, v15, v16, v1z⟩ := blk7 b1.out
  obtain ⟨v20, v21, v22, v23, v24, v2z⟩ := blk5 b2.out
  go_wp2_with fail
  clear v00 v01 v02 v03 v04 v0z v10 v11 v12 v13 v14 v15 v16 v1z v20 v21 v22 v23 v24 v2z
  apply calls_gen; intro W3 hW
  have hz_ : w2.heap.size ≤ W3.heap.size := by rw [hW]; simp
  have hE : Below w2.heap.size w2 W3 := by rw [hW]; (repeat (first | with_reducible refine below_alloc ?_ _ | with_reducible refine below_drew ?_)); exact Below.refl _ _
  have hB := hB.th hE
  have b0 := b0.dn hE
  have b1 := b1.dn hE
  have b2 := b2.dn hE
  have HJ := HJ.ob hE
  clear hW hE
  have z3 := Hd.mk hz_; clear hz_
  have z0_ := z0.out; have z1_ := z1.out; have z2_ := z2.out; have z3_ := z3.out
  refine (spec_l4Add (m := m) (S := fun k => S k ∧ k < w.heap.size) j s _ o _ _ HJ.out (Ty.K_below _ hB.out HKO.out) HBU.out hs HOWN.out hle).mono ?_
  rintro e w9 hP
  obtain ⟨ra, rb, rs, RA, RB, rn, rc, rn2, rd, ok, rfl, hX, hR⟩ := pat_open hP
  have HR := Hd.mk hR; clear hR hP
  have b0 := Hd.mk (b0.out.fr hX (fun h => by have q2_ := h.2; omega))
  have b1 := Hd.mk (b1.out.fr hX (fun h => by have q2_ := h.2; omega))
  have b2 := Hd.mk (b2.out.fr hX (fun h => by have q2_ := h.2; omega))
  have hF0 := Hd.mk ((Fr.of_below hB.out S).then_ hX (fun k h hl => h.1))
  have hsz := Hd.mk hX.size; clear hX
  obtain ⟨v00, v01, v02, v03, v04, v0z⟩ := blk5 b0.out
  obtain ⟨v10, v11, v12, v13, v14, v15, v16, v1z⟩ := blk7 b1.out
  obtain ⟨v20, v21, v22, v23, v24, v2z⟩ := blk5 b2.out
  go_wp2_with fail
  refine bodyPost_retW (v := .tuple #[.agg #[.int .i64 ra, .int .i64 rb, .string rs, .slice RA rn rc, .slice RB rn2 rd], .bool ok]) (by simp [results, Try.results122, go_sem, v00, v01, v02, v03, v04, v0z, v10, v11, v12, v13, v14, v15, v16, v1z, v20, v21, v22, v23, v24, v2z]) rfl ?_
  intro W hW
  clear v00 v01 v02 v03 v04 v0z v10 v11 v12 v13 v14 v15 v16 v1z v20 v21 v22 v23 v24 v2z
  have hsz_ := hsz.out
  have eF : Fr w9 W (fun k => k = w.heap.size + 2) := by rw [hW]; (repeat (first | with_reducible refine Fr.setCell ?_ _ (fun _ => by simp <;> omega) _ | with_reducible refine Fr.alloc ?_ _ | with_reducible refine Fr.drew ?_)); exact Fr.refl _ _
  rw [pat_add (o := o) (s := s) (j := j) (by rw [← HKK.out]; rfl)]
  exact pat_close HR.out eF (fun k hk hl h => by (try simp only at h); rcases hk with q_ | q_; omega; (have q2_ := q_.2; omega)) (fun k hk => by rcases hk with q_ | q_; exact .inl (by omega); exact .inr q_.1) (hF0.out.then_ eF (fun k h hl => by (try simp only at h); omega))
 ·subst hk1
  have HKK := Hd.mk hkk; clear hkk hk
  go_enter Try.func122, Try.ntmps122
  go_wp2_with fail
  apply calls_gen; intro W1 hW
  have hz_ : w.heap.size + 3 ≤ W1.heap.size := by rw [hW]; simp
  have hE : Below w.heap.size w W1 := by rw [hW]; (repeat (first | with_reducible refine below_alloc ?_ _ | with_reducible refine below_drew ?_)); exact Below.refl _ _
  have hB := hB.th hE
  have b0 := Hd.mk (show Blk W1 (w.heap.size) #[.int .i64 j.kind, .int .i64 j.n, .string j.s, .slice A1 j.list.length c1, .slice A2 j.names.length c2] 27 by rw [hW]; first | exact (((Blk.new _ _ _).alloc _).alloc _) | (simpa using (((Blk.new _ _ _).alloc _).alloc _)))
  have b1 := Hd.mk (show Blk W1 (w.heap.size + 1) #[.int .i64 2, .slice AW o.way.length cW, .int .i64 o.value.kind, .int .i64 o.value.n, .string o.value.s, .slice A3 o.value.list.length c3, .slice A4 o.value.names.length c4] 38 by rw [hW]; first | exact ((Blk.new1 _ _ _ _).alloc _) | (simpa using ((Blk.new1 _ _ _ _).alloc _)))
  have b2 := Hd.mk (show Blk W1 (w.heap.size + 1 + 1) #[.int .i64 0, .int .i64 0, .string ⟨#[]⟩, .slice none 0 0, .slice none 0 0] 27 by rw [hW]; first | exact (Blk.new2 _ _ _ _ _) | (simpa using (Blk.new2 _ _ _ _ _)))
  have HJ := HJ.ob hE
  clear hW hE
  have z1 := Hd.mk hz_; clear hz_
  have z0 := Hd.mk (show w.heap.size + 3 ≤ W1.heap.size by have z1_ := z1.out; omega)
  refine (spec_l3At j _ s _ (Ty.O_K _ HJ.out) (by omega)).mono ?_
  rintro e w2 ⟨rfl, hX⟩
  have b0 := b0.dn hX
  have b1 := b1.dn hX
  have b2 := b2.dn hX
  have HJ := HJ.ob hX
  have hB := hB.th hX
  have hz_ := hX.size
  clear hX
  have z2 := Hd.mk hz_; clear hz_
  obtain ⟨at_, hat⟩ : ∃ z, z = placeS j s := ⟨_, rfl⟩
  rw [← hat]
  have HAT := Hd.mk hat; clear hat
  have HA1 := Hd.mk (show ((o.kind == 1) && ([] : List ByteArray).isEmpty) = false by rw [← HKK.out]; rfl)
  by_cases hat0 : at_ < 0
  ·obtain ⟨v00, v01, v02, v03, v04, v0z⟩ := blk5 b0.out
   obtain ⟨v10, v11, v12, v13, v14, v15, v16, v1z⟩ := blk7 b1.out
   obtain ⟨v20, v21, v22, v23, v24, v2z⟩ := blk5 b2.out
   go_wp2_with fail
   refine bodyPost_retW (v := .tuple #[.agg #[.int .i64 j.kind, .int .i64 j.n, .string j.s, .slice A1 j.list.length c1, .slice A2 j.names.length c2], .bool false]) (by simp [results, Try.results122, go_sem, v00, v01, v02, v03, v04, v0z, v10, v11, v12, v13, v14, v15, v16, v1z, v20, v21, v22, v23, v24, v2z]) rfl ?_
   intro W hW
   clear v00 v01 v02 v03 v04 v0z v10 v11 v12 v13 v14 v15 v16 v1z v20 v21 v22 v23 v24 v2z
   have eF : Fr w2 W (fun k => w.heap.size ≤ k) := by rw [hW]; (repeat (first | with_reducible refine Fr.setCell ?_ _ (fun _ => by simp <;> omega) _ | with_reducible refine Fr.alloc ?_ _ | with_reducible refine Fr.drew ?_)); exact Fr.refl _ _
   exact pat_none (pat_no HA1.out (by rw [← HAT.out]; exact hat0)) rfl ((Fr.of_below hB.out S).then_ eF (fun k h hl => by (try simp only at h); omega))
  ·obtain ⟨q, hq⟩ := Int.eq_ofNat_of_zero_le (Int.not_lt.1 hat0)
   subst hq
   have hql := place_lt HOWN.out s HAT.out.symm
   clear hat0
   have hq0 : (0 : Int) ≤ (q : Int) := by omega
   have hqn : ¬ ((q : Int) < 0) := by omega
   have hqi : (q : Int) < (j.list.length : Int) := by omega
   obtain ⟨v3, v4, T3, T4, hcj, hsj2, hr3, hr4, hs3, hs4, hs34⟩ := tJ_O.1 HJ0.out
   simp only [List.cons.injEq, and_true, true_and] at hcj
   obtain ⟨rfl, rfl⟩ := hcj
   have HL := Hd.mk hr3; have HN4 := Hd.mk hr4; have HT3 := Hd.mk hs3; have HT4 := Hd.mk hs4; have H34 := Hd.mk hs34
   clear hr3 hr4 hs3 hs4 hs34
   obtain ⟨gl, cl, he, hgl, _⟩ := R_form HL.out (by omega)
   injection he with e1 e2 e3
   subst e1; subst e3; clear e2
   have HPV := Hd.mk (pat_drop (o := o) (s := s) (j := j) (by rw [← HKK.out]; rfl) HAT.out.symm)
   obtain ⟨C, T, hCO, hCS, hCT, hCC⟩ := R_rawC (tJ (m + 1)) HL.out
   obtain ⟨LC, hLC⟩ : ∃ z, z = (List.range j.list.length).map C := ⟨_, rfl⟩
   have HLL := Hd.mk (show LC.length = j.list.length by rw [hLC]; simp)
   rw [← hLC] at hCC
   have HLC := Hd.mk hLC; have HCC := Hd.mk hCC; have HCO := Hd.mk hCO; have HCS := Hd.mk hCS; have HCT := Hd.mk hCT
   clear hLC hCC hCO hCS hCT
   obtain ⟨_, _, he, hlc, _⟩ := R_C HL.out
   injection he with e1 _ e3
   subst e1; subst e3
   have HNL := Hd.mk (fun h => (own5 HOWN.out h).2.2.2)
   have hq1 : IntKind.i64.wrap ((q : Int) + 1) = (q : Int) + 1 := by rw [IntKind.wrap_i64]; omega
   rcases Nat.eq_or_lt_of_le (show q + 1 ≤ c1 by omega) with hcc | hcc
   ·subst hcc
    obtain ⟨v00, v01, v02, v03, v04, v0z⟩ := blk5 b0.out
    obtain ⟨v10, v11, v12, v13, v14, v15, v16, v1z⟩ := blk7 b1.out
    obtain ⟨v20, v21, v22, v23, v24, v2z⟩ := blk5 b2.out
    go_wp2_with fail
    clear v00 v01 v02 v03 v04 v0z v10 v11 v12 v13 v14 v15 v16 v1z v20 v21 v22 v23 v24 v2z
    obtain ⟨v00, v01, v02, v03, v04, v0z⟩ := blk5 b0.out
    obtain ⟨v10, v11, v12, v13, v14, v15, v16, v1z⟩ := blk7 b1.out
    obtain ⟨v20, v21, v22, v23, v24, v2z⟩ := blk5 b2.out
    obtain ⟨rv00, rv01, rv02, rv03, rv04, rv10, rv11⟩ := reg7 v00 v01 v02 v03 v04 v10 v11
    obtain ⟨rv12, rv13, rv14, rv15, rv16⟩ := reg5 v12 v13 v14 v15 v16
    obtain ⟨rv20, rv21, rv22, rv23, rv24⟩ := reg5 v20 v21 v22 v23 v24
    refine region_mixT (.p 1 (.q 2 (.p 3 (.q 4 (.p 6 (.q 7 (.p 8 (.p 9 (.q 10 (.b 0 (.b 5 .fin))))))))))) [11, 12, 13] (by kernel_rfl) (by kernel_rfl) (fun _ _ _ _ _ h => h) ?_
    refine genT ?_
    intro W3 hW
    have hS := Hd.mk (show Below w2.heap.size w2 W3 by rw [hW]; exact below_drew (Below.refl _ _))
    have hz_ : w2.heap.size ≤ W3.heap.size := by rw [hW]; simp
    have hE : Below w2.heap.size w2 W3 := by rw [hW]; (repeat (first | with_reducible refine below_alloc ?_ _ | with_reducible refine below_drew ?_)); exact Below.refl _ _
    have hB := hB.th hE
    have b0 := b0.dn hE
    have b1 := b1.dn hE
    have b2 := b2.dn hE
    clear hW hE
    have z3 := Hd.mk hz_; clear hz_
    iterate 9 ((first | refine mixT_q rfl ?_ | refine mixT_p rfl ?_); go_big_quiet_want; go_big_quiet_op; go_big_quiet_on; refine wpQuiet_nil ?_)
    refine mixT_b rfl ?_ (by rfl)
    go_wp2_with fail
    refine ⟨cls_below (below_alloc hS.out _), ?_⟩
    refine genT ?_; intro W4 hW
    have HRW := Hd.mk (show (raw 5).R 27 W4 (fun k => W3.heap.size ≤ k ∧ k < W4.heap.size) (.slice (some ⟨W3.heap.size, 0, none⟩) 0 0) [] by rw [hW]; first | exact R_bound (R_empty (raw 5) _ _) | exact R_bound (R_below (R_empty (raw 5) _ _) (below_drew (Below.refl _ _))))
    have hz_ : W3.heap.size + 1 ≤ W4.heap.size := by rw [hW]; simp
    have hE : Below W3.heap.size W3 W4 := by rw [hW]; (repeat (first | with_reducible refine below_alloc ?_ _ | with_reducible refine below_drew ?_)); exact Below.refl _ _
    have hB := hB.th hE
    replace hS := Hd.mk (below_then hS.out hE)
    have b0 := b0.dn hE
    have b1 := b1.dn hE
    have b2 := b2.dn hE
    clear hW hE
    have z4 := Hd.mk hz_; clear hz_
    refine mixT_b rfl ?_ (by rfl)
    go_wp2_with (at_builtin; refine append_rw rfl rfl _ _ rfl (ys := LC.take q) (m := q) (S' := (fun k => W3.heap.size ≤ k)) rfl rfl (by rw [List.length_take]; have := HLL.out; omega) HRW.out (C_take (C_below HCC.out hB.out) _) (fun _ h => h.1) (fun k h => by have q_ := z4.out; omega) (by have := HLL.out; first | (simp; done) | (simp; omega)) (fun v1 wa hv1 hX1 => ?_); obtain ⟨D1, d1, hve, hd1, _⟩ := R_C hv1; obtain ⟨n1, hn1⟩ : ∃ z, z = (([] : List (List Value)) ++ LC.take q).length := ⟨_, rfl⟩; rw [← hn1] at hve; subst hve; clear hn1 hd1)
    rw [List.nil_append] at hv1
    have hX := hX1.mono (fun k _ h => h.1); clear hX1
    have z0_ := z0.out; have z1_ := z1.out; have z2_ := z2.out; have z3_ := z3.out; have z4_ := z4.out
    have hS := Hd.mk (below_frS hS.out hX (fun k h => by omega))
    refine ⟨cls_below hS.out, ?_⟩
    have HRW := Hd.mk (R_bound hv1); clear hv1
    have z0_ := z0.out; have z1_ := z1.out; have z2_ := z2.out; have z3_ := z3.out; have z4_ := z4.out
    have hSz := hB.out.size
    have b0 := Hd.mk (b0.out.fr hX (fun h => by have hlt_ := b0.out.lt; skip; (try simp only [rng] at h); (try simp only at h); omega))
    have b1 := Hd.mk (b1.out.fr hX (fun h => by have hlt_ := b1.out.lt; skip; (try simp only [rng] at h); (try simp only at h); omega))
    have b2 := Hd.mk (b2.out.fr hX (fun h => by have hlt_ := b2.out.lt; skip; (try simp only [rng] at h); (try simp only at h); omega))
    have hB := Hd.mk (below_frS hB.out hX (fun k h => by skip; (try simp only [rng] at h); (try simp only at h); omega))
    have hz_ := hX.size
    clear hX
    have z5 := Hd.mk hz_; clear hz_
    refine mixT_fin ?_
    clear hS
    clear rv00 rv01 rv02 rv03 rv04 rv10 rv11 rv12 rv13 rv14 rv15 rv16 rv20 rv21 rv22 rv23 rv24
    clear v00 v01 v02 v03 v04 v0z v10 v11 v12 v13 v14 v15 v16 v1z v20 v21 v22 v23 v24 v2z
    obtain ⟨v00, v01, v02, v03, v04, v0z⟩ := blk5 b0.out
    obtain ⟨v10, v11, v12, v13, v14, v15, v16, v1z⟩ := blk7 b1.out
    obtain ⟨v20, v21, v22, v23, v24, v2z⟩ := blk5 b2.out
    refine tail_b rfl ?_ (by rfl)
    go_wp2_with (at_builtin; refine append_rw rfl rfl _ _ rfl (ys := LC.drop (q + 1)) (S' := fun k => (W3.heap.size ≤ k ∧ k < wa.heap.size) ∨ wa.heap.size ≤ k) rfl rfl (by rw [List.length_drop]; have h1_ := HLL.out; omega) HRW.out (C_drop (C_below HCC.out hB.out) (q + 1) (.inl (by have := HLL.out; omega))) (fun k h => .inl h) (fun k h => .inr h) (by have := HLL.out; first | (simp; done) | (simp; omega)) (fun v2 wb hv2 hX2 => ?_); obtain ⟨D2, d2, hve, hd2, _⟩ := R_C hv2; obtain ⟨n2, hn2⟩ : ∃ z, z = (LC.take q ++ LC.drop (q + 1)).length := ⟨_, rfl⟩; rw [← hn2] at hve; subst hve; clear hn2 hd2)
    have hX := hX2; clear hX2; have HRL := Hd.mk (R_bound hv2); clear hv2 HRW
    clear v00 v01 v02 v03 v04 v0z v10 v11 v12 v13 v14 v15 v16 v1z v20 v21 v22 v23 v24 v2z
    have z0_ := z0.out; have z1_ := z1.out; have z2_ := z2.out; have z3_ := z3.out; have z4_ := z4.out; have z5_ := z5.out
    have hSz := hB.out.size
    have b0 := Hd.mk (b0.out.fr hX (fun h => by have hlt_ := b0.out.lt; skip; (try simp only [rng] at h); (try simp only at h); omega))
    have b1 := Hd.mk (b1.out.fr hX (fun h => by have hlt_ := b1.out.lt; skip; (try simp only [rng] at h); (try simp only at h); omega))
    have b2 := Hd.mk (b2.out.fr hX (fun h => by have hlt_ := b2.out.lt; skip; (try simp only [rng] at h); (try simp only at h); omega))
    have hB := Hd.mk (below_frS hB.out hX (fun k h => by skip; (try simp only [rng] at h); (try simp only at h); omega))
    have hz_ := hX.size
    clear hX
    have z6 := Hd.mk hz_; clear hz_
    obtain ⟨v00, v01, v02, v03, v04, v0z⟩ := blk5 b0.out
    obtain ⟨v10, v11, v12, v13, v14, v15, v16, v1z⟩ := blk7 b1.out
    obtain ⟨v20, v21, v22, v23, v24, v2z⟩ := blk5 b2.out
    refine mixQ_n ?_
    refine tail_b rfl ?_ (by rfl)
    go_wp2_with fail
    refine mixQ_n ?_
    refine tail_b rfl ?_ (by rfl)
    go_wp2_with fail
    refine mixQ_n ?_
    refine tail_nil ?_
    refine exit_gen ?_; intro Wb hW
    clear v00 v01 v02 v03 v04 v0z v10 v11 v12 v13 v14 v15 v16 v1z v20 v21 v22 v23 v24 v2z
    have eF : Fr wb Wb (fun k => k = w.heap.size) := by rw [hW]; (repeat (first | with_reducible refine Fr.setCell ?_ _ (fun _ => by simp <;> omega) _ | with_reducible refine Fr.alloc ?_ _ | with_reducible refine Fr.drew ?_)); exact Fr.refl _ _
    have z0_ := z0.out; have z1_ := z1.out; have z2_ := z2.out; have z3_ := z3.out; have z4_ := z4.out; have z5_ := z5.out; have z6_ := z6.out
    have b1 := Hd.mk (b1.out.fr eF (fun h => by (try simp only at h); omega))
    have b2 := Hd.mk (b2.out.fr eF (fun h => by (try simp only at h); omega))
    have b0 := Hd.mk (show Blk Wb w.heap.size #[.int .i64 j.kind, .int .i64 j.n, .string j.s, .slice D2 n2 d2, .slice A2 j.names.length c2] 27 by rw [hW]; exact b0.out.set 3 _)
    have HRL := Hd.mk (R_fr HRL.out eF (fun k hk hl h => by (try simp only at h); rcases hk.1 with q_ | q_; (have q2_ := q_.1; omega); omega))
    have hB := Hd.mk (below_frS hB.out eF (fun k h => by (try simp only at h); omega))
    have hzb := Hd.mk eF.size
    clear hW eF
    cases hk5 : (j.kind == 5)
    ·have hd5 : decide (j.kind = 5) = false := by simpa using hk5
     obtain ⟨v00, v01, v02, v03, v04, v0z⟩ := blk5 b0.out
     obtain ⟨v10, v11, v12, v13, v14, v15, v16, v1z⟩ := blk7 b1.out
     obtain ⟨v20, v21, v22, v23, v24, v2z⟩ := blk5 b2.out
     go_wp2_with fail
     refine bodyPost_retW (v := .tuple #[.agg #[.int .i64 j.kind, .int .i64 j.n, .string j.s, .slice D2 n2 d2, .slice A2 j.names.length c2], .bool true]) (by simp [results, Try.results122, go_sem, v00, v01, v02, v03, v04, v0z, v10, v11, v12, v13, v14, v15, v16, v1z, v20, v21, v22, v23, v24, v2z]) rfl ?_
     intro W hW
     clear v00 v01 v02 v03 v04 v0z v10 v11 v12 v13 v14 v15 v16 v1z v20 v21 v22 v23 v24 v2z
     have z0_ := z0.out; have z1_ := z1.out; have z2_ := z2.out; have z3_ := z3.out; have z4_ := z4.out; have z5_ := z5.out; have z6_ := z6.out; have hzb_ := hzb.out
     have eF : Fr Wb W (fun k => k = w.heap.size ∨ k = w.heap.size + 2) := by rw [hW]; (repeat (first | with_reducible refine Fr.setCell ?_ _ (fun _ => by simp <;> omega) _ | with_reducible refine Fr.alloc ?_ _ | with_reducible refine Fr.drew ?_)); exact Fr.refl _ _
     clear hW
     have hRF := HRL.out
     rw [HLC.out] at hRF
     have hRW := R_fr hRF eF (fun k hk hl h => by (try simp only at h); rcases hk.1 with q_ | q_; (have q2_ := q_.1; omega); omega)
     have hTi : ∀ i b, T i b → T3 b ∧ b < w.heap.size := fun i b hb => ⟨(HCS.out i b hb).1, (HT3.out b (HCS.out i b hb).1).2⟩
     have hL := R_cut (S' := fun k => T3 k ∨ W3.heap.size ≤ k ∧ k < wb.heap.size) (tJ (m + 1)) hRW (fun i x hx => Ty.O_fr (Ty.O_below (Ty.O_mono _ (S := fun b => T i b ∧ b < w.heap.size) (fun k h => h.1) (Ty.O_bound _ (HCO.out i x hx))) hB.out) eF (fun k hk hl h => by (try simp only at h); have q_ := (hTi i k hk).2; omega))
      HCT.out (fun i b hb => ⟨.inl (hTi i b hb).1, fun h => by have q0_ := (hTi i b hb).2; rcases h.1 with q_ | q_; (have q2_ := q_.1; omega); omega⟩)
      (fun k h => .inr (by have q9_ := h.2; rcases h.1 with q_ | q_; (have q2_ := q_.1; omega); omega))
     have hN := R_fr (R_below (R_bound HN4.out) hB.out) eF (fun k hk hl h => by (try simp only at h); have q_ := (HT4.out k hk.1).2; omega)
     have hN' : str.R 9 W (fun k => T4 k ∧ k < w.heap.size) (Value.slice A2 j.names.length c2) (dropV j q).names := by rw [show (dropV j q).names = j.names by unfold dropV; rw [hk5]; rfl]; exact hN
     exact pat_some (z := dropV j q) (cs := [Value.int IntKind.i64 j.kind, .int .i64 j.n, .string j.s, .slice D2 n2 d2, .slice A2 j.names.length c2]) HPV.out rfl (tJ_O.2 ⟨_, _, fun k => T3 k ∨ W3.heap.size ≤ k ∧ k < wb.heap.size, (fun k => T4 k ∧ k < w.heap.size), rfl, hsj, hL, hN', fun k h => by
      rcases h with q_ | q_
      ·exact .inr (HT3.out k q_).1
      ·exact .inl (by have q2_ := q_.1; omega), fun k h => .inr (HT4.out k h.1).1, fun k h h2 => by
      rcases h with q_ | q_
      ·exact H34.out k q_ h2.1
      ·have q2_ := (HT4.out k h2.1).2
       have q3_ := q_.1
       omega⟩) ((Fr.of_below hB.out S).then_ eF (fun k h hl => by (try simp only at h); omega))
    ·have hd5 : decide (j.kind = 5) = true := by simpa using hk5
     have hnl := Hd.mk (HNL.out hk5)
     obtain ⟨gn, cn, hgn, hgn2, _⟩ := R_form HN4.out (by have := hnl.out; omega)
     injection hgn with e1 e2 e3
     subst e1; subst e3
     obtain ⟨_, _, he, hlc2, _⟩ := R_C HN4.out
     injection he with e1 _ e3
     subst e1; subst e3
     have HCN := Hd.mk (R_Cv HN4.out)
     have hqn : q < j.names.length := Nat.lt_of_lt_of_eq hql hnl.out.symm
     have hqm : (q : Int) < (j.names.length : Int) := by omega
     rcases Nat.eq_or_lt_of_le (show q + 1 ≤ c2 by omega) with hdd | hdd
     ·subst hdd
      obtain ⟨v00, v01, v02, v03, v04, v0z⟩ := blk5 b0.out
      obtain ⟨v10, v11, v12, v13, v14, v15, v16, v1z⟩ := blk7 b1.out
      obtain ⟨v20, v21, v22, v23, v24, v2z⟩ := blk5 b2.out
      go_wp2_with fail
      clear v00 v01 v02 v03 v04 v0z v10 v11 v12 v13 v14 v15 v16 v1z v20 v21 v22 v23 v24 v2z
      obtain ⟨v00, v01, v02, v03, v04, v0z⟩ := blk5 b0.out
      obtain ⟨v10, v11, v12, v13, v14, v15, v16, v1z⟩ := blk7 b1.out
      obtain ⟨v20, v21, v22, v23, v24, v2z⟩ := blk5 b2.out
      obtain ⟨rv00, rv01, rv02, rv03, rv04, rv10, rv11⟩ := reg7 v00 v01 v02 v03 v04 v10 v11
      obtain ⟨rv12, rv13, rv14, rv15, rv16⟩ := reg5 v12 v13 v14 v15 v16
      obtain ⟨rv20, rv21, rv22, rv23, rv24⟩ := reg5 v20 v21 v22 v23 v24
      refine region_mixT (.p 1 (.q 2 (.p 3 (.q 4 (.p 6 (.q 7 (.p 8 (.p 9 (.q 10 (.b 0 (.b 5 .fin))))))))))) [11, 12, 13] (by kernel_rfl) (by kernel_rfl) (fun _ _ _ _ _ h => h) ?_
      refine genT ?_
      intro W5 hW
      have hS := Hd.mk (show Below Wb.heap.size Wb W5 by rw [hW]; exact below_drew (Below.refl _ _))
      have hz_ : Wb.heap.size ≤ W5.heap.size := by rw [hW]; simp
      have hE : Below Wb.heap.size Wb W5 := by rw [hW]; (repeat (first | with_reducible refine below_alloc ?_ _ | with_reducible refine below_drew ?_)); exact Below.refl _ _
      have hB := hB.th hE
      have b0 := b0.dn hE
      have b1 := b1.dn hE
      have b2 := b2.dn hE
      have HRL := Hd.mk (R_below HRL.out hE)
      clear hW hE
      have z7 := Hd.mk hz_; clear hz_
      iterate 9 ((first | refine mixT_q rfl ?_ | refine mixT_p rfl ?_); go_big_quiet_want; go_big_quiet_op; go_big_quiet_on; refine wpQuiet_nil ?_)
      refine mixT_b rfl ?_ (by rfl)
      go_wp2_with fail
      refine ⟨cls_below (below_alloc hS.out _), ?_⟩
      refine genT ?_; intro W6 hW
      have HRS := Hd.mk (show str.R 9 W6 (fun k => W5.heap.size ≤ k ∧ k < W6.heap.size) (.slice (some ⟨W5.heap.size, 0, none⟩) 0 0) [] by rw [hW]; first | exact R_bound (R_empty str _ _) | exact R_bound (R_below (R_empty str _ _) (below_drew (Below.refl _ _))))
      have hz_ : W5.heap.size + 1 ≤ W6.heap.size := by rw [hW]; simp
      have hE : Below W5.heap.size W5 W6 := by rw [hW]; (repeat (first | with_reducible refine below_alloc ?_ _ | with_reducible refine below_drew ?_)); exact Below.refl _ _
      have hB := hB.th hE
      replace hS := Hd.mk (below_then hS.out hE)
      have b0 := b0.dn hE
      have b1 := b1.dn hE
      have b2 := b2.dn hE
      have HRL := Hd.mk (R_below HRL.out hE)
      clear hW hE
      have z8 := Hd.mk hz_; clear hz_
      refine mixT_b rfl ?_ (by rfl)
      go_wp2_with (at_builtin; refine append_str rfl _ _ 25 9 (.string ByteArray.empty) 16 rfl Try.underlying25 info_str rfl (by decide) (ys := j.names.take q) (S' := (fun k => W5.heap.size ≤ k)) rfl (by show _ = Value.slice _ (j.names.take q).length _; rw [List.length_take, Nat.min_eq_left (by omega)]; rfl) HRS.out (C_take (C_below HCN.out hB.out) _) (fun _ h => h.1) (fun k h => by have q_ := z8.out; omega) (by have := HLL.out; have := hnl.out; first | (simp; done) | (simp; omega)) (fun v1 wc hv1 hX1 => ?_); obtain ⟨D3, d3, hve, hd3, _⟩ := R_C hv1; obtain ⟨n3, hn3⟩ : ∃ z, z = (([] : List ByteArray) ++ j.names.take q).length := ⟨_, rfl⟩; rw [← hn3] at hve; subst hve; clear hn3 hd3)
      rw [List.nil_append] at hv1
      have hX := hX1.mono (fun k _ h => h.1); clear hX1
      have z0_ := z0.out; have z1_ := z1.out; have z2_ := z2.out; have z3_ := z3.out; have z4_ := z4.out; have z5_ := z5.out; have z6_ := z6.out; have hzb_ := hzb.out; have z7_ := z7.out; have z8_ := z8.out
      have hS := Hd.mk (below_frS hS.out hX (fun k h => by omega))
      refine ⟨cls_below hS.out, ?_⟩
      have HRS := Hd.mk (R_bound hv1); clear hv1
      have z0_ := z0.out; have z1_ := z1.out; have z2_ := z2.out; have z3_ := z3.out; have z4_ := z4.out; have z5_ := z5.out; have z6_ := z6.out; have hzb_ := hzb.out; have z7_ := z7.out; have z8_ := z8.out
      have hSz := hB.out.size
      have b0 := Hd.mk (b0.out.fr hX (fun h => by have hlt_ := b0.out.lt; skip; (try simp only [rng] at h); (try simp only at h); omega))
      have b1 := Hd.mk (b1.out.fr hX (fun h => by have hlt_ := b1.out.lt; skip; (try simp only [rng] at h); (try simp only at h); omega))
      have b2 := Hd.mk (b2.out.fr hX (fun h => by have hlt_ := b2.out.lt; skip; (try simp only [rng] at h); (try simp only at h); omega))
      have HRL := Hd.mk (R_fr HRL.out hX (fun k hk hl h => by skip; (try simp only [rng] at hk h); (try simp only at hk); (try simp only at h); omega))
      have hB := Hd.mk (below_frS hB.out hX (fun k h => by skip; (try simp only [rng] at h); (try simp only at h); omega))
      have hz_ := hX.size
      clear hX
      have z9 := Hd.mk hz_; clear hz_
      refine mixT_fin ?_
      clear hS
      clear rv00 rv01 rv02 rv03 rv04 rv10 rv11 rv12 rv13 rv14 rv15 rv16 rv20 rv21 rv22 rv23 rv24
      clear v00 v01 v02 v03 v04 v0z v10 v11 v12 v13 v14 v15 v16 v1z v20 v21 v22 v23 v24 v2z
      obtain ⟨v00, v01, v02, v03, v04, v0z⟩ := blk5 b0.out
      obtain ⟨v10, v11, v12, v13, v14, v15, v16, v1z⟩ := blk7 b1.out
      obtain ⟨v20, v21, v22, v23, v24, v2z⟩ := blk5 b2.out
      refine tail_b rfl ?_ (by rfl)
      go_wp2_with (at_builtin; refine append_str rfl _ _ 25 9 (.string ByteArray.empty) 16 rfl Try.underlying25 info_str rfl (by decide) (ys := j.names.drop (q + 1)) (S' := fun k => (W5.heap.size ≤ k ∧ k < wc.heap.size) ∨ wc.heap.size ≤ k) rfl (by show _ = Value.slice _ (j.names.drop (q + 1)).length _; first | (rw [List.length_drop]; rfl) | (rw [List.drop_eq_nil_of_le (by omega)]; rfl)) HRS.out (C_drop (C_below HCN.out hB.out) (q + 1) (.inl (by omega))) (fun k h => .inl h) (fun k h => .inr h) (by have := HLL.out; have := hnl.out; first | (simp; done) | (simp; omega)) (fun v2 wd hv2 hX2 => ?_); obtain ⟨D4, d4, hve, hd4, _⟩ := R_C hv2; obtain ⟨n4, hn4⟩ : ∃ z, z = (j.names.take q ++ j.names.drop (q + 1)).length := ⟨_, rfl⟩; rw [← hn4] at hve; subst hve; clear hn4 hd4)
      have hX := hX2; clear hX2; have HRN := Hd.mk (R_bound hv2); clear hv2 HRS
      clear v00 v01 v02 v03 v04 v0z v10 v11 v12 v13 v14 v15 v16 v1z v20 v21 v22 v23 v24 v2z
      have z0_ := z0.out; have z1_ := z1.out; have z2_ := z2.out; have z3_ := z3.out; have z4_ := z4.out; have z5_ := z5.out; have z6_ := z6.out; have hzb_ := hzb.out; have z7_ := z7.out; have z8_ := z8.out; have z9_ := z9.out
      have hSz := hB.out.size
      have b0 := Hd.mk (b0.out.fr hX (fun h => by have hlt_ := b0.out.lt; skip; (try simp only [rng] at h); (try simp only at h); omega))
      have b1 := Hd.mk (b1.out.fr hX (fun h => by have hlt_ := b1.out.lt; skip; (try simp only [rng] at h); (try simp only at h); omega))
      have b2 := Hd.mk (b2.out.fr hX (fun h => by have hlt_ := b2.out.lt; skip; (try simp only [rng] at h); (try simp only at h); omega))
      have HRL := Hd.mk (R_fr HRL.out hX (fun k hk hl h => by skip; (try simp only [rng] at hk h); (try simp only at hk); (try simp only at h); omega))
      have hB := Hd.mk (below_frS hB.out hX (fun k h => by skip; (try simp only [rng] at h); (try simp only at h); omega))
      have hz_ := hX.size
      clear hX
      have z10 := Hd.mk hz_; clear hz_
      obtain ⟨v00, v01, v02, v03, v04, v0z⟩ := blk5 b0.out
      obtain ⟨v10, v11, v12, v13, v14, v15, v16, v1z⟩ := blk7 b1.out
      obtain ⟨v20, v21, v22, v23, v24, v2z⟩ := blk5 b2.out
      refine mixQ_n ?_
      refine tail_b rfl ?_ (by rfl)
      go_wp2_with fail
      refine mixQ_n ?_
      refine tail_b rfl ?_ (by rfl)
      go_wp2_with fail
      refine mixQ_n ?_
      refine tail_nil ?_
      refine exit_gen ?_; intro We hW
      clear v00 v01 v02 v03 v04 v0z v10 v11 v12 v13 v14 v15 v16 v1z v20 v21 v22 v23 v24 v2z
      have eF : Fr wd We (fun k => k = w.heap.size) := by rw [hW]; (repeat (first | with_reducible refine Fr.setCell ?_ _ (fun _ => by simp <;> omega) _ | with_reducible refine Fr.alloc ?_ _ | with_reducible refine Fr.drew ?_)); exact Fr.refl _ _
      have z0_ := z0.out; have z1_ := z1.out; have z2_ := z2.out; have z3_ := z3.out; have z4_ := z4.out; have z5_ := z5.out; have z6_ := z6.out; have hzb_ := hzb.out; have z7_ := z7.out; have z8_ := z8.out; have z9_ := z9.out; have z10_ := z10.out
      have b1 := Hd.mk (b1.out.fr eF (fun h => by (try simp only at h); omega))
      have b2 := Hd.mk (b2.out.fr eF (fun h => by (try simp only at h); omega))
      have b0 := Hd.mk (show Blk We w.heap.size #[.int .i64 j.kind, .int .i64 j.n, .string j.s, .slice D2 n2 d2, .slice D4 n4 d4] 27 by rw [hW]; exact b0.out.set 4 _)
      have HRL := Hd.mk (R_fr HRL.out eF (fun k hk hl h => by (try simp only at h); rcases hk.1 with q_ | q_; (have q2_ := q_.1; omega); omega))
      have HRN := Hd.mk (R_fr HRN.out eF (fun k hk hl h => by (try simp only at h); rcases hk.1 with q_ | q_; (have q2_ := q_.1; omega); omega))
      have hB := Hd.mk (below_frS hB.out eF (fun k h => by (try simp only at h); omega))
      have hzb2 := Hd.mk eF.size
      clear hW eF
      obtain ⟨v00, v01, v02, v03, v04, v0z⟩ := blk5 b0.out
      obtain ⟨v10, v11, v12, v13, v14, v15, v16, v1z⟩ := blk7 b1.out
      obtain ⟨v20, v21, v22, v23, v24, v2z⟩ := blk5 b2.out
      go_wp2_with fail
      refine bodyPost_retW (v := .tuple #[.agg #[.int .i64 j.kind, .int .i64 j.n, .string j.s, .slice D2 n2 d2, .slice D4 n4 d4], .bool true]) (by simp [results, Try.results122, go_sem, v00, v01, v02, v03, v04, v0z, v10, v11, v12, v13, v14, v15, v16, v1z, v20, v21, v22, v23, v24, v2z]) rfl ?_
      intro W hW
      clear v00 v01 v02 v03 v04 v0z v10 v11 v12 v13 v14 v15 v16 v1z v20 v21 v22 v23 v24 v2z
      have z0_ := z0.out; have z1_ := z1.out; have z2_ := z2.out; have z3_ := z3.out; have z4_ := z4.out; have z5_ := z5.out; have z6_ := z6.out; have hzb_ := hzb.out; have z7_ := z7.out; have z8_ := z8.out; have z9_ := z9.out; have z10_ := z10.out; have hzb2_ := hzb2.out
      have eF : Fr We W (fun k => k = w.heap.size ∨ k = w.heap.size + 2) := by rw [hW]; (repeat (first | with_reducible refine Fr.setCell ?_ _ (fun _ => by simp <;> omega) _ | with_reducible refine Fr.alloc ?_ _ | with_reducible refine Fr.drew ?_)); exact Fr.refl _ _
      clear hW
      have hRF := HRL.out
      rw [HLC.out] at hRF
      have hRW := R_fr hRF eF (fun k hk hl h => by (try simp only at h); rcases hk.1 with q_ | q_; (have q2_ := q_.1; omega); omega)
      have hTi : ∀ i b, T i b → T3 b ∧ b < w.heap.size := fun i b hb => ⟨(HCS.out i b hb).1, (HT3.out b (HCS.out i b hb).1).2⟩
      have hL := R_cut (S' := fun k => T3 k ∨ W3.heap.size ≤ k ∧ k < wb.heap.size) (tJ (m + 1)) hRW (fun i x hx => Ty.O_fr (Ty.O_below (Ty.O_mono _ (S := fun b => T i b ∧ b < w.heap.size) (fun k h => h.1) (Ty.O_bound _ (HCO.out i x hx))) hB.out) eF (fun k hk hl h => by (try simp only at h); have q_ := (hTi i k hk).2; omega))
       HCT.out (fun i b hb => ⟨.inl (hTi i b hb).1, fun h => by have q0_ := (hTi i b hb).2; rcases h.1 with q_ | q_; (have q2_ := q_.1; omega); omega⟩)
       (fun k h => .inr (by have q9_ := h.2; rcases h.1 with q_ | q_; (have q2_ := q_.1; omega); omega))
      have hN := R_cutS (R_fr HRN.out eF (fun k hk hl h => by (try simp only at h); rcases hk.1 with q_ | q_; (have q2_ := q_.1; omega); omega))
      have hN' : str.R 9 W (fun k => (W5.heap.size ≤ k ∧ k < wc.heap.size ∨ wc.heap.size ≤ k) ∧ k < wd.heap.size) (Value.slice D4 n4 d4) (dropV j q).names := by rw [show (dropV j q).names = j.names.eraseIdx q by unfold dropV; rw [hk5]; rfl]; exact hN
      exact pat_some (z := dropV j q) (cs := [Value.int IntKind.i64 j.kind, .int .i64 j.n, .string j.s, .slice D2 n2 d2, .slice D4 n4 d4]) HPV.out rfl (tJ_O.2 ⟨_, _, fun k => T3 k ∨ W3.heap.size ≤ k ∧ k < wb.heap.size, (fun k => (W5.heap.size ≤ k ∧ k < wc.heap.size ∨ wc.heap.size ≤ k) ∧ k < wd.heap.size), rfl, hsj, hL, hN', fun k h => by
       rcases h with q_ | q_
       ·exact .inr (HT3.out k q_).1
       ·exact .inl (by have q2_ := q_.1; omega), fun k h => .inl (by rcases h.1 with q_ | q_; (have q2_ := q_.1; omega); omega), fun k h h2 => by
       rcases h with q_ | q_
       ·have q0_ := (HT3.out k q_).2
        rcases h2.1 with q2_ | q2_
        ·have q3_ := q2_.1; omega
        ·omega
       ·have q0_ := q_.2
        rcases h2.1 with q2_ | q2_
        ·have q3_ := q2_.1; omega
        ·omega⟩) ((Fr.of_below hB.out S).then_ eF (fun k h hl => by (try simp only at h); omega))
     ·have hdd1 : ¬ (c2 = q + 1) := by omega
      have hdd2 : ¬ (q + 1 = c2) := by omega
      obtain ⟨v00, v01, v02, v03, v04, v0z⟩ := blk5 b0.out
      obtain ⟨v10, v11, v12, v13, v14, v15, v16, v1z⟩ := blk7 b1.out
      obtain ⟨v20, v21, v22, v23, v24, v2z⟩ := blk5 b2.out
      go_wp2_with fail
      clear v00 v01 v02 v03 v04 v0z v10 v11 v12 v13 v14 v15 v16 v1z v20 v21 v22 v23 v24 v2z
      obtain ⟨v00, v01, v02, v03, v04, v0z⟩ := blk5 b0.out
      obtain ⟨v10, v11, v12, v13, v14, v15, v16, v1z⟩ := blk7 b1.out
      obtain ⟨v20, v21, v22, v23, v24, v2z⟩ := blk5 b2.out
      obtain ⟨rv00, rv01, rv02, rv03, rv04, rv10, rv11⟩ := reg7 v00 v01 v02 v03 v04 v10 v11
      obtain ⟨rv12, rv13, rv14, rv15, rv16⟩ := reg5 v12 v13 v14 v15 v16
      obtain ⟨rv20, rv21, rv22, rv23, rv24⟩ := reg5 v20 v21 v22 v23 v24
      refine region_mixT (.p 1 (.q 2 (.p 3 (.q 4 (.p 6 (.q 7 (.p 8 (.p 9 (.q 10 (.b 0 (.b 5 .fin))))))))))) [11, 12, 13] (by kernel_rfl) (by kernel_rfl) (fun _ _ _ _ _ h => h) ?_
      refine genT ?_
      intro W5 hW
      have hS := Hd.mk (show Below Wb.heap.size Wb W5 by rw [hW]; exact below_drew (Below.refl _ _))
      have hz_ : Wb.heap.size ≤ W5.heap.size := by rw [hW]; simp
      have hE : Below Wb.heap.size Wb W5 := by rw [hW]; (repeat (first | with_reducible refine below_alloc ?_ _ | with_reducible refine below_drew ?_)); exact Below.refl _ _
      have hB := hB.th hE
      have b0 := b0.dn hE
      have b1 := b1.dn hE
      have b2 := b2.dn hE
      have HRL := Hd.mk (R_below HRL.out hE)
      clear hW hE
      have z7 := Hd.mk hz_; clear hz_
      iterate 9 ((first | refine mixT_q rfl ?_ | refine mixT_p rfl ?_); go_big_quiet_want; go_big_quiet_op; go_big_quiet_on; refine wpQuiet_nil ?_)
      refine mixT_b rfl ?_ (by rfl)
      go_wp2_with fail
      refine ⟨cls_below (below_alloc hS.out _), ?_⟩
      refine genT ?_; intro W6 hW
      have HRS := Hd.mk (show str.R 9 W6 (fun k => W5.heap.size ≤ k ∧ k < W6.heap.size) (.slice (some ⟨W5.heap.size, 0, none⟩) 0 0) [] by rw [hW]; first | exact R_bound (R_empty str _ _) | exact R_bound (R_below (R_empty str _ _) (below_drew (Below.refl _ _))))
      have hz_ : W5.heap.size + 1 ≤ W6.heap.size := by rw [hW]; simp
      have hE : Below W5.heap.size W5 W6 := by rw [hW]; (repeat (first | with_reducible refine below_alloc ?_ _ | with_reducible refine below_drew ?_)); exact Below.refl _ _
      have hB := hB.th hE
      replace hS := Hd.mk (below_then hS.out hE)
      have b0 := b0.dn hE
      have b1 := b1.dn hE
      have b2 := b2.dn hE
      have HRL := Hd.mk (R_below HRL.out hE)
      clear hW hE
      have z8 := Hd.mk hz_; clear hz_
      refine mixT_b rfl ?_ (by rfl)
      go_wp2_with (at_builtin; refine append_str rfl _ _ 25 9 (.string ByteArray.empty) 16 rfl Try.underlying25 info_str rfl (by decide) (ys := j.names.take q) (S' := (fun k => W5.heap.size ≤ k)) rfl (by show _ = Value.slice _ (j.names.take q).length _; rw [List.length_take, Nat.min_eq_left (by omega)]; rfl) HRS.out (C_take (C_below HCN.out hB.out) _) (fun _ h => h.1) (fun k h => by have q_ := z8.out; omega) (by have := HLL.out; have := hnl.out; first | (simp; done) | (simp; omega)) (fun v1 wc hv1 hX1 => ?_); obtain ⟨D3, d3, hve, hd3, _⟩ := R_C hv1; obtain ⟨n3, hn3⟩ : ∃ z, z = (([] : List ByteArray) ++ j.names.take q).length := ⟨_, rfl⟩; rw [← hn3] at hve; subst hve; clear hn3 hd3)
      rw [List.nil_append] at hv1
      have hX := hX1.mono (fun k _ h => h.1); clear hX1
      have z0_ := z0.out; have z1_ := z1.out; have z2_ := z2.out; have z3_ := z3.out; have z4_ := z4.out; have z5_ := z5.out; have z6_ := z6.out; have hzb_ := hzb.out; have z7_ := z7.out; have z8_ := z8.out
      have hS := Hd.mk (below_frS hS.out hX (fun k h => by omega))
      refine ⟨cls_below hS.out, ?_⟩
      have HRS := Hd.mk (R_bound hv1); clear hv1
      have z0_ := z0.out; have z1_ := z1.out; have z2_ := z2.out; have z3_ := z3.out; have z4_ := z4.out; have z5_ := z5.out; have z6_ := z6.out; have hzb_ := hzb.out; have z7_ := z7.out; have z8_ := z8.out
      have hSz := hB.out.size
      have b0 := Hd.mk (b0.out.fr hX (fun h => by have hlt_ := b0.out.lt; skip; (try simp only [rng] at h); (try simp only at h); omega))
      have b1 := Hd.mk (b1.out.fr hX (fun h => by have hlt_ := b1.out.lt; skip; (try simp only [rng] at h); (try simp only at h); omega))
      have b2 := Hd.mk (b2.out.fr hX (fun h => by have hlt_ := b2.out.lt; skip; (try simp only [rng] at h); (try simp only at h); omega))
      have HRL := Hd.mk (R_fr HRL.out hX (fun k hk hl h => by skip; (try simp only [rng] at hk h); (try simp only at hk); (try simp only at h); omega))
      have hB := Hd.mk (below_frS hB.out hX (fun k h => by skip; (try simp only [rng] at h); (try simp only at h); omega))
      have hz_ := hX.size
      clear hX
      have z9 := Hd.mk hz_; clear hz_
      refine mixT_fin ?_
      clear hS
      clear rv00 rv01 rv02 rv03 rv04 rv10 rv11 rv12 rv13 rv14 rv15 rv16 rv20 rv21 rv22 rv23 rv24
      clear v00 v01 v02 v03 v04 v0z v10 v11 v12 v13 v14 v15 v16 v1z v20 v21 v22 v23 v24 v2z
      obtain ⟨v00, v01, v02, v03, v04, v0z⟩ := blk5 b0.out
      obtain ⟨v10, v11, v12, v13, v14, v15, v16, v1z⟩ := blk7 b1.out
      obtain ⟨v20, v21, v22, v23, v24, v2z⟩ := blk5 b2.out
      refine tail_b rfl ?_ (by rfl)
      go_wp2_with (at_builtin; refine append_str rfl _ _ 25 9 (.string ByteArray.empty) 16 rfl Try.underlying25 info_str rfl (by decide) (ys := j.names.drop (q + 1)) (S' := fun k => (W5.heap.size ≤ k ∧ k < wc.heap.size) ∨ wc.heap.size ≤ k) rfl (by show _ = Value.slice _ (j.names.drop (q + 1)).length _; first | (rw [List.length_drop]; rfl) | (rw [List.drop_eq_nil_of_le (by omega)]; rfl)) HRS.out (C_drop (C_below HCN.out hB.out) (q + 1) (.inr ⟨_, rfl, by rw [Addr.add_lit, Nat.zero_add]; show _ = some (Addr.mk gn ((q + 1) * 1) none); rw [Nat.mul_one]⟩)) (fun k h => .inl h) (fun k h => .inr h) (by have := HLL.out; have := hnl.out; first | (simp; done) | (simp; omega)) (fun v2 wd hv2 hX2 => ?_); obtain ⟨D4, d4, hve, hd4, _⟩ := R_C hv2; obtain ⟨n4, hn4⟩ : ∃ z, z = (j.names.take q ++ j.names.drop (q + 1)).length := ⟨_, rfl⟩; rw [← hn4] at hve; subst hve; clear hn4 hd4)
      have hX := hX2; clear hX2; have HRN := Hd.mk (R_bound hv2); clear hv2 HRS
      clear v00 v01 v02 v03 v04 v0z v10 v11 v12 v13 v14 v15 v16 v1z v20 v21 v22 v23 v24 v2z
      have z0_ := z0.out; have z1_ := z1.out; have z2_ := z2.out; have z3_ := z3.out; have z4_ := z4.out; have z5_ := z5.out; have z6_ := z6.out; have hzb_ := hzb.out; have z7_ := z7.out; have z8_ := z8.out; have z9_ := z9.out
      have hSz := hB.out.size
      have b0 := Hd.mk (b0.out.fr hX (fun h => by have hlt_ := b0.out.lt; skip; (try simp only [rng] at h); (try simp only at h); omega))
      have b1 := Hd.mk (b1.out.fr hX (fun h => by have hlt_ := b1.out.lt; skip; (try simp only [rng] at h); (try simp only at h); omega))
      have b2 := Hd.mk (b2.out.fr hX (fun h => by have hlt_ := b2.out.lt; skip; (try simp only [rng] at h); (try simp only at h); omega))
      have HRL := Hd.mk (R_fr HRL.out hX (fun k hk hl h => by skip; (try simp only [rng] at hk h); (try simp only at hk); (try simp only at h); omega))
      have hB := Hd.mk (below_frS hB.out hX (fun k h => by skip; (try simp only [rng] at h); (try simp only at h); omega))
      have hz_ := hX.size
      clear hX
      have z10 := Hd.mk hz_; clear hz_
      obtain ⟨v00, v01, v02, v03, v04, v0z⟩ := blk5 b0.out
      obtain ⟨v10, v11, v12, v13, v14, v15, v16, v1z⟩ := blk7 b1.out
      obtain ⟨v20, v21, v22, v23, v24, v2z⟩ := blk5 b2.out
      refine mixQ_n ?_
      refine tail_b rfl ?_ (by rfl)
      go_wp2_with fail
      refine mixQ_n ?_
      refine tail_b rfl ?_ (by rfl)
      go_wp2_with fail
      refine mixQ_n ?_
      refine tail_nil ?_
      refine exit_gen ?_; intro We hW
      clear v00 v01 v02 v03 v04 v0z v10 v11 v12 v13 v14 v15 v16 v1z v20 v21 v22 v23 v24 v2z
      have eF : Fr wd We (fun k => k = w.heap.size) := by rw [hW]; (repeat (first | with_reducible refine Fr.setCell ?_ _ (fun _ => by simp <;> omega) _ | with_reducible refine Fr.alloc ?_ _ | with_reducible refine Fr.drew ?_)); exact Fr.refl _ _
      have z0_ := z0.out; have z1_ := z1.out; have z2_ := z2.out; have z3_ := z3.out; have z4_ := z4.out; have z5_ := z5.out; have z6_ := z6.out; have hzb_ := hzb.out; have z7_ := z7.out; have z8_ := z8.out; have z9_ := z9.out; have z10_ := z10.out
      have b1 := Hd.mk (b1.out.fr eF (fun h => by (try simp only at h); omega))
      have b2 := Hd.mk (b2.out.fr eF (fun h => by (try simp only at h); omega))
      have b0 := Hd.mk (show Blk We w.heap.size #[.int .i64 j.kind, .int .i64 j.n, .string j.s, .slice D2 n2 d2, .slice D4 n4 d4] 27 by rw [hW]; exact b0.out.set 4 _)
      have HRL := Hd.mk (R_fr HRL.out eF (fun k hk hl h => by (try simp only at h); rcases hk.1 with q_ | q_; (have q2_ := q_.1; omega); omega))
      have HRN := Hd.mk (R_fr HRN.out eF (fun k hk hl h => by (try simp only at h); rcases hk.1 with q_ | q_; (have q2_ := q_.1; omega); omega))
      have hB := Hd.mk (below_frS hB.out eF (fun k h => by (try simp only at h); omega))
      have hzb2 := Hd.mk eF.size
      clear hW eF
      obtain ⟨v00, v01, v02, v03, v04, v0z⟩ := blk5 b0.out
      obtain ⟨v10, v11, v12, v13, v14, v15, v16, v1z⟩ := blk7 b1.out
      obtain ⟨v20, v21, v22, v23, v24, v2z⟩ := blk5 b2.out
      go_wp2_with fail
      refine bodyPost_retW (v := .tuple #[.agg #[.int .i64 j.kind, .int .i64 j.n, .string j.s, .slice D2 n2 d2, .slice D4 n4 d4], .bool true]) (by simp [results, Try.results122, go_sem, v00, v01, v02, v03, v04, v0z, v10, v11, v12, v13, v14, v15, v16, v1z, v20, v21, v22, v23, v24, v2z]) rfl ?_
      intro W hW
      clear v00 v01 v02 v03 v04 v0z v10 v11 v12 v13 v14 v15 v16 v1z v20 v21 v22 v23 v24 v2z
      have z0_ := z0.out; have z1_ := z1.out; have z2_ := z2.out; have z3_ := z3.out; have z4_ := z4.out; have z5_ := z5.out; have z6_ := z6.out; have hzb_ := hzb.out; have z7_ := z7.out; have z8_ := z8.out; have z9_ := z9.out; have z10_ := z10.out; have hzb2_ := hzb2.out
      have eF : Fr We W (fun k => k = w.heap.size ∨ k = w.heap.size + 2) := by rw [hW]; (repeat (first | with_reducible refine Fr.setCell ?_ _ (fun _ => by simp <;> omega) _ | with_reducible refine Fr.alloc ?_ _ | with_reducible refine Fr.drew ?_)); exact Fr.refl _ _
      clear hW
      have hRF := HRL.out
      rw [HLC.out] at hRF
      have hRW := R_fr hRF eF (fun k hk hl h => by (try simp only at h); rcases hk.1 with q_ | q_; (have q2_ := q_.1; omega); omega)
      have hTi : ∀ i b, T i b → T3 b ∧ b < w.heap.size := fun i b hb => ⟨(HCS.out i b hb).1, (HT3.out b (HCS.out i b hb).1).2⟩
      have hL := R_cut (S' := fun k => T3 k ∨ W3.heap.size ≤ k ∧ k < wb.heap.size) (tJ (m + 1)) hRW (fun i x hx => Ty.O_fr (Ty.O_below (Ty.O_mono _ (S := fun b => T i b ∧ b < w.heap.size) (fun k h => h.1) (Ty.O_bound _ (HCO.out i x hx))) hB.out) eF (fun k hk hl h => by (try simp only at h); have q_ := (hTi i k hk).2; omega))
       HCT.out (fun i b hb => ⟨.inl (hTi i b hb).1, fun h => by have q0_ := (hTi i b hb).2; rcases h.1 with q_ | q_; (have q2_ := q_.1; omega); omega⟩)
       (fun k h => .inr (by have q9_ := h.2; rcases h.1 with q_ | q_; (have q2_ := q_.1; omega); omega))
      have hN := R_cutS (R_fr HRN.out eF (fun k hk hl h => by (try simp only at h); rcases hk.1 with q_ | q_; (have q2_ := q_.1; omega); omega))
      have hN' : str.R 9 W (fun k => (W5.heap.size ≤ k ∧ k < wc.heap.size ∨ wc.heap.size ≤ k) ∧ k < wd.heap.size) (Value.slice D4 n4 d4) (dropV j q).names := by rw [show (dropV j q).names = j.names.eraseIdx q by unfold dropV; rw [hk5]; rfl]; exact hN
      exact pat_some (z := dropV j q) (cs := [Value.int IntKind.i64 j.kind, .int .i64 j.n, .string j.s, .slice D2 n2 d2, .slice D4 n4 d4]) HPV.out rfl (tJ_O.2 ⟨_, _, fun k => T3 k ∨ W3.heap.size ≤ k ∧ k < wb.heap.size, (fun k => (W5.heap.size ≤ k ∧ k < wc.heap.size ∨ wc.heap.size ≤ k) ∧ k < wd.heap.size), rfl, hsj, hL, hN', fun k h => by
       rcases h with q_ | q_
       ·exact .inr (HT3.out k q_).1
       ·exact .inl (by have q2_ := q_.1; omega), fun k h => .inl (by rcases h.1 with q_ | q_; (have q2_ := q_.1; omega); omega), fun k h h2 => by
       rcases h with q_ | q_
       ·have q0_ := (HT3.out k q_).2
        rcases h2.1 with q2_ | q2_
        ·have q3_ := q2_.1; omega
        ·omega
       ·have q0_ := q_.2
        rcases h2.1 with q2_ | q2_
        ·have q3_ := q2_.1; omega
        ·omega⟩) ((Fr.of_below hB.out S).then_ eF (fun k h hl => by (try simp only at h); omega))
   ·have hcc1 : ¬ (c1 = q + 1) := by omega
    have hcc2 : ¬ (q + 1 = c1) := by omega
    obtain ⟨v00, v01, v02, v03, v04, v0z⟩ := blk5 b0.out
    obtain ⟨v10, v11, v12, v13, v14, v15, v16, v1z⟩ := blk7 b1.out
    obtain ⟨v20, v21, v22, v23, v24, v2z⟩ := blk5 b2.out
    go_wp2_with fail
    clear v00 v01 v02 v03 v04 v0z v10 v11 v12 v13 v14 v15 v16 v1z v20 v21 v22 v23 v24 v2z
    obtain ⟨v00, v01, v02, v03, v04, v0z⟩ := blk5 b0.out
    obtain ⟨v10, v11, v12, v13, v14, v15, v16, v1z⟩ := blk7 b1.out
    obtain ⟨v20, v21, v22, v23, v24, v2z⟩ := blk5 b2.out
    obtain ⟨rv00, rv01, rv02, rv03, rv04, rv10, rv11⟩ := reg7 v00 v01 v02 v03 v04 v10 v11
    obtain ⟨rv12, rv13, rv14, rv15, rv16⟩ := reg5 v12 v13 v14 v15 v16
    obtain ⟨rv20, rv21, rv22, rv23, rv24⟩ := reg5 v20 v21 v22 v23 v24
    refine region_mixT (.p 1 (.q 2 (.p 3 (.q 4 (.p 6 (.q 7 (.p 8 (.p 9 (.q 10 (.b 0 (.b 5 .fin))))))))))) [11, 12, 13] (by kernel_rfl) (by kernel_rfl) (fun _ _ _ _ _ h => h) ?_
    refine genT ?_
    intro W3 hW
    have hS := Hd.mk (show Below w2.heap.size w2 W3 by rw [hW]; exact below_drew (Below.refl _ _))
    have hz_ : w2.heap.size ≤ W3.heap.size := by rw [hW]; simp
    have hE : Below w2.heap.size w2 W3 := by rw [hW]; (repeat (first | with_reducible refine below_alloc ?_ _ | with_reducible refine below_drew ?_)); exact Below.refl _ _
    have hB := hB.th hE
    have b0 := b0.dn hE
    have b1 := b1.dn hE
    have b2 := b2.dn hE
    clear hW hE
    have z3 := Hd.mk hz_; clear hz_
    iterate 9 ((first | refine mixT_q rfl ?_ | refine mixT_p rfl ?_); go_big_quiet_want; go_big_quiet_op; go_big_quiet_on; refine wpQuiet_nil ?_)
    refine mixT_b rfl ?_ (by rfl)
    go_wp2_with fail
    refine ⟨cls_below (below_alloc hS.out _), ?_⟩
    refine genT ?_; intro W4 hW
    have HRW := Hd.mk (show (raw 5).R 27 W4 (fun k => W3.heap.size ≤ k ∧ k < W4.heap.size) (.slice (some ⟨W3.heap.size, 0, none⟩) 0 0) [] by rw [hW]; first | exact R_bound (R_empty (raw 5) _ _) | exact R_bound (R_below (R_empty (raw 5) _ _) (below_drew (Below.refl _ _))))
    have hz_ : W3.heap.size + 1 ≤ W4.heap.size := by rw [hW]; simp
    have hE : Below W3.heap.size W3 W4 := by rw [hW]; (repeat (first | with_reducible refine below_alloc ?_ _ | with_reducible refine below_drew ?_)); exact Below.refl _ _
    have hB := hB.th hE
    replace hS := Hd.mk (below_then hS.out hE)
    have b0 := b0.dn hE
    have b1 := b1.dn hE
    have b2 := b2.dn hE
    clear hW hE
    have z4 := Hd.mk hz_; clear hz_
    refine mixT_b rfl ?_ (by rfl)
    go_wp2_with (at_builtin; refine append_rw rfl rfl _ _ rfl (ys := LC.take q) (m := q) (S' := (fun k => W3.heap.size ≤ k)) rfl rfl (by rw [List.length_take]; have := HLL.out; omega) HRW.out (C_take (C_below HCC.out hB.out) _) (fun _ h => h.1) (fun k h => by have q_ := z4.out; omega) (by have := HLL.out; first | (simp; done) | (simp; omega)) (fun v1 wa hv1 hX1 => ?_); obtain ⟨D1, d1, hve, hd1, _⟩ := R_C hv1; obtain ⟨n1, hn1⟩ : ∃ z, z = (([] : List (List Value)) ++ LC.take q).length := ⟨_, rfl⟩; rw [← hn1] at hve; subst hve; clear hn1 hd1)
    rw [List.nil_append] at hv1
    have hX := hX1.mono (fun k _ h => h.1); clear hX1
    have z0_ := z0.out; have z1_ := z1.out; have z2_ := z2.out; have z3_ := z3.out; have z4_ := z4.out
    have hS := Hd.mk (below_frS hS.out hX (fun k h => by omega))
    refine ⟨cls_below hS.out, ?_⟩
    have HRW := Hd.mk (R_bound hv1); clear hv1
    have z0_ := z0.out; have z1_ := z1.out; have z2_ := z2.out; have z3_ := z3.out; have z4_ := z4.out
    have hSz := hB.out.size
    have b0 := Hd.mk (b0.out.fr hX (fun h => by have hlt_ := b0.out.lt; skip; (try simp only [rng] at h); (try simp only at h); omega))
    have b1 := Hd.mk (b1.out.fr hX (fun h => by have hlt_ := b1.out.lt; skip; (try simp only [rng] at h); (try simp only at h); omega))
    have b2 := Hd.mk (b2.out.fr hX (fun h => by have hlt_ := b2.out.lt; skip; (try simp only [rng] at h); (try simp only at h); omega))
    have hB := Hd.mk (below_frS hB.out hX (fun k h => by skip; (try simp only [rng] at h); (try simp only at h); omega))
    have hz_ := hX.size
    clear hX
    have z5 := Hd.mk hz_; clear hz_
    refine mixT_fin ?_
    clear hS
    clear rv00 rv01 rv02 rv03 rv04 rv10 rv11 rv12 rv13 rv14 rv15 rv16 rv20 rv21 rv22 rv23 rv24
    clear v00 v01 v02 v03 v04 v0z v10 v11 v12 v13 v14 v15 v16 v1z v20 v21 v22 v23 v24 v2z
    obtain ⟨v00, v01, v02, v03, v04, v0z⟩ := blk5 b0.out
    obtain ⟨v10, v11, v12, v13, v14, v15, v16, v1z⟩ := blk7 b1.out
    obtain ⟨v20, v21, v22, v23, v24, v2z⟩ := blk5 b2.out
    refine tail_b rfl ?_ (by rfl)
    go_wp2_with (at_builtin; refine append_rw rfl rfl _ _ rfl (ys := LC.drop (q + 1)) (S' := fun k => (W3.heap.size ≤ k ∧ k < wa.heap.size) ∨ wa.heap.size ≤ k) rfl rfl (by rw [List.length_drop]; have h1_ := HLL.out; omega) HRW.out (C_drop (C_below HCC.out hB.out) (q + 1) (.inr ⟨_, rfl, by rw [Addr.add_lit, Nat.zero_add]; rfl⟩)) (fun k h => .inl h) (fun k h => .inr h) (by have := HLL.out; first | (simp; done) | (simp; omega)) (fun v2 wb hv2 hX2 => ?_); obtain ⟨D2, d2, hve, hd2, _⟩ := R_C hv2; obtain ⟨n2, hn2⟩ : ∃ z, z = (LC.take q ++ LC.drop (q + 1)).length := ⟨_, rfl⟩; rw [← hn2] at hve; subst hve; clear hn2 hd2)
    have hX := hX2; clear hX2; have HRL := Hd.mk (R_bound hv2); clear hv2 HRW
    clear v00 v01 v02 v03 v04 v0z v10 v11 v12 v13 v14 v15 v16 v1z v20 v21 v22 v23 v24 v2z
    have z0_ := z0.out; have z1_ := z1.out; have z2_ := z2.out; have z3_ := z3.out; have z4_ := z4.out; have z5_ := z5.out
    have hSz := hB.out.size
    have b0 := Hd.mk (b0.out.fr hX (fun h => by have hlt_ := b0.out.lt; skip; (try simp only [rng] at h); (try simp only at h); omega))
    have b1 := Hd.mk (b1.out.fr hX (fun h => by have hlt_ := b1.out.lt; skip; (try simp only [rng] at h); (try simp only at h); omega))
    have b2 := Hd.mk (b2.out.fr hX (fun h => by have hlt_ := b2.out.lt; skip; (try simp only [rng] at h); (try simp only at h); omega))
    have hB := Hd.mk (below_frS hB.out hX (fun k h => by skip; (try simp only [rng] at h); (try simp only at h); omega))
    have hz_ := hX.size
    clear hX
    have z6 := Hd.mk hz_; clear hz_
    obtain ⟨v00, v01, v02, v03, v04, v0z⟩ := blk5 b0.out
    obtain ⟨v10, v11, v12, v13, v14, v15, v16, v1z⟩ := blk7 b1.out
    obtain ⟨v20, v21, v22, v23, v24, v2z⟩ := blk5 b2.out
    refine mixQ_n ?_
    refine tail_b rfl ?_ (by rfl)
    go_wp2_with fail
    refine mixQ_n ?_
    refine tail_b rfl ?_ (by rfl)
    go_wp2_with fail
    refine mixQ_n ?_
    refine tail_nil ?_
    refine exit_gen ?_; intro Wb hW
    clear v00 v01 v02 v03 v04 v0z v10 v11 v12 v13 v14 v15 v16 v1z v20 v21 v22 v23 v24 v2z
    have eF : Fr wb Wb (fun k => k = w.heap.size) := by rw [hW]; (repeat (first | with_reducible refine Fr.setCell ?_ _ (fun _ => by simp <;> omega) _ | with_reducible refine Fr.alloc ?_ _ | with_reducible refine Fr.drew ?_)); exact Fr.refl _ _
    have z0_ := z0.out; have z1_ := z1.out; have z2_ := z2.out; have z3_ := z3.out; have z4_ := z4.out; have z5_ := z5.out; have z6_ := z6.out
    have b1 := Hd.mk (b1.out.fr eF (fun h => by (try simp only at h); omega))
    have b2 := Hd.mk (b2.out.fr eF (fun h => by (try simp only at h); omega))
    have b0 := Hd.mk (show Blk Wb w.heap.size #[.int .i64 j.kind, .int .i64 j.n, .string j.s, .slice D2 n2 d2, .slice A2 j.names.length c2] 27 by rw [hW]; exact b0.out.set 3 _)
    have HRL := Hd.mk (R_fr HRL.out eF (fun k hk hl h => by (try simp only at h); rcases hk.1 with q_ | q_; (have q2_ := q_.1; omega); omega))
    have hB := Hd.mk (below_frS hB.out eF (fun k h => by (try simp only at h); omega))
    have hzb := Hd.mk eF.size
    clear hW eF
    cases hk5 : (j.kind == 5)
    ·have hd5 : decide (j.kind = 5) = false := by simpa using hk5
     obtain ⟨v00, v01, v02, v03, v04, v0z⟩ := blk5 b0.out
     obtain ⟨v10, v11, v12, v13, v14, v15, v16, v1z⟩ := blk7 b1.out
     obtain ⟨v20, v21, v22, v23, v24, v2z⟩ := blk5 b2.out
     go_wp2_with fail
     refine bodyPost_retW (v := .tuple #[.agg #[.int .i64 j.kind, .int .i64 j.n, .string j.s, .slice D2 n2 d2, .slice A2 j.names.length c2], .bool true]) (by simp [results, Try.results122, go_sem, v00, v01, v02, v03, v04, v0z, v10, v11, v12, v13, v14, v15, v16, v1z, v20, v21, v22, v23, v24, v2z]) rfl ?_
     intro W hW
     clear v00 v01 v02 v03 v04 v0z v10 v11 v12 v13 v14 v15 v16 v1z v20 v21 v22 v23 v24 v2z
     have z0_ := z0.out; have z1_ := z1.out; have z2_ := z2.out; have z3_ := z3.out; have z4_ := z4.out; have z5_ := z5.out; have z6_ := z6.out; have hzb_ := hzb.out
     have eF : Fr Wb W (fun k => k = w.heap.size ∨ k = w.heap.size + 2) := by rw [hW]; (repeat (first | with_reducible refine Fr.setCell ?_ _ (fun _ => by simp <;> omega) _ | with_reducible refine Fr.alloc ?_ _ | with_reducible refine Fr.drew ?_)); exact Fr.refl _ _
     clear hW
     have hRF := HRL.out
     rw [HLC.out] at hRF
     have hRW := R_fr hRF eF (fun k hk hl h => by (try simp only at h); rcases hk.1 with q_ | q_; (have q2_ := q_.1; omega); omega)
     have hTi : ∀ i b, T i b → T3 b ∧ b < w.heap.size := fun i b hb => ⟨(HCS.out i b hb).1, (HT3.out b (HCS.out i b hb).1).2⟩
     have hL := R_cut (S' := fun k => T3 k ∨ W3.heap.size ≤ k ∧ k < wb.heap.size) (tJ (m + 1)) hRW (fun i x hx => Ty.O_fr (Ty.O_below (Ty.O_mono _ (S := fun b => T i b ∧ b < w.heap.size) (fun k h => h.1) (Ty.O_bound _ (HCO.out i x hx))) hB.out) eF (fun k hk hl h => by (try simp only at h); have q_ := (hTi i k hk).2; omega))
      HCT.out (fun i b hb => ⟨.inl (hTi i b hb).1, fun h => by have q0_ := (hTi i b hb).2; rcases h.1 with q_ | q_; (have q2_ := q_.1; omega); omega⟩)
      (fun k h => .inr (by have q9_ := h.2; rcases h.1 with q_ | q_; (have q2_ := q_.1; omega); omega))
     have hN := R_fr (R_below (R_bound HN4.out) hB.out) eF (fun k hk hl h => by (try simp only at h); have q_ := (HT4.out k hk.1).2; omega)
     have hN' : str.R 9 W (fun k => T4 k ∧ k < w.heap.size) (Value.slice A2 j.names.length c2) (dropV j q).names := by rw [show (dropV j q).names = j.names by unfold dropV; rw [hk5]; rfl]; exact hN
     exact pat_some (z := dropV j q) (cs := [Value.int IntKind.i64 j.kind, .int .i64 j.n, .string j.s, .slice D2 n2 d2, .slice A2 j.names.length c2]) HPV.out rfl (tJ_O.2 ⟨_, _, fun k => T3 k ∨ W3.heap.size ≤ k ∧ k < wb.heap.size, (fun k => T4 k ∧ k < w.heap.size), rfl, hsj, hL, hN', fun k h => by
      rcases h with q_ | q_
      ·exact .inr (HT3.out k q_).1
      ·exact .inl (by have q2_ := q_.1; omega), fun k h => .inr (HT4.out k h.1).1, fun k h h2 => by
      rcases h with q_ | q_
      ·exact H34.out k q_ h2.1
      ·have q2_ := (HT4.out k h2.1).2
       have q3_ := q_.1
       omega⟩) ((Fr.of_below hB.out S).then_ eF (fun k h hl => by (try simp only at h); omega))
    ·have hd5 : decide (j.kind = 5) = true := by simpa using hk5
     have hnl := Hd.mk (HNL.out hk5)
     obtain ⟨gn, cn, hgn, hgn2, _⟩ := R_form HN4.out (by have := hnl.out; omega)
     injection hgn with e1 e2 e3
     subst e1; subst e3
     obtain ⟨_, _, he, hlc2, _⟩ := R_C HN4.out
     injection he with e1 _ e3
     subst e1; subst e3
     have HCN := Hd.mk (R_Cv HN4.out)
     have hqn : q < j.names.length := Nat.lt_of_lt_of_eq hql hnl.out.symm
     have hqm : (q : Int) < (j.names.length : Int) := by omega
     rcases Nat.eq_or_lt_of_le (show q + 1 ≤ c2 by omega) with hdd | hdd
     ·subst hdd
      obtain ⟨v00, v01, v02, v03, v04, v0z⟩ := blk5 b0.out
      obtain ⟨v10, v11, v12, v13, v14, v15, v16, v1z⟩ := blk7 b1.out
      obtain ⟨v20, v21, v22, v23, v24, v2z⟩ := blk5 b2.out
      go_wp2_with fail
      clear v00 v01 v02 v03 v04 v0z v10 v11 v12 v13 v14 v15 v16 v1z v20 v21 v22 v23 v24 v2z
      obtain ⟨v00, v01, v02, v03, v04, v0z⟩ := blk5 b0.out
      obtain ⟨v10, v11, v12, v13, v14, v15, v16, v1z⟩ := blk7 b1.out
      obtain ⟨v20, v21, v22, v23, v24, v2z⟩ := blk5 b2.out
      obtain ⟨rv00, rv01, rv02, rv03, rv04, rv10, rv11⟩ := reg7 v00 v01 v02 v03 v04 v10 v11
      obtain ⟨rv12, rv13, rv14, rv15, rv16⟩ := reg5 v12 v13 v14 v15 v16
      obtain ⟨rv20, rv21, rv22, rv23, rv24⟩ := reg5 v20 v21 v22 v23 v24
      refine region_mixT (.p 1 (.q 2 (.p 3 (.q 4 (.p 6 (.q 7 (.p 8 (.p 9 (.q 10 (.b 0 (.b 5 .fin))))))))))) [11, 12, 13] (by kernel_rfl) (by kernel_rfl) (fun _ _ _ _ _ h => h) ?_
      refine genT ?_
      intro W5 hW
      have hS := Hd.mk (show Below Wb.heap.size Wb W5 by rw [hW]; exact below_drew (Below.refl _ _))
      have hz_ : Wb.heap.size ≤ W5.heap.size := by rw [hW]; simp
      have hE : Below Wb.heap.size Wb W5 := by rw [hW]; (repeat (first | with_reducible refine below_alloc ?_ _ | with_reducible refine below_drew ?_)); exact Below.refl _ _
      have hB := hB.th hE
      have b0 := b0.dn hE
      have b1 := b1.dn hE
      have b2 := b2.dn hE
      have HRL := Hd.mk (R_below HRL.out hE)
      clear hW hE
      have z7 := Hd.mk hz_; clear hz_
      iterate 9 ((first | refine mixT_q rfl ?_ | refine mixT_p rfl ?_); go_big_quiet_want; go_big_quiet_op; go_big_quiet_on; refine wpQuiet_nil ?_)
      refine mixT_b rfl ?_ (by rfl)
      go_wp2_with fail
      refine ⟨cls_below (below_alloc hS.out _), ?_⟩
      refine genT ?_; intro W6 hW
      have HRS := Hd.mk (show str.R 9 W6 (fun k => W5.heap.size ≤ k ∧ k < W6.heap.size) (.slice (some ⟨W5.heap.size, 0, none⟩) 0 0) [] by rw [hW]; first | exact R_bound (R_empty str _ _) | exact R_bound (R_below (R_empty str _ _) (below_drew (Below.refl _ _))))
      have hz_ : W5.heap.size + 1 ≤ W6.heap.size := by rw [hW]; simp
      have hE : Below W5.heap.size W5 W6 := by rw [hW]; (repeat (first | with_reducible refine below_alloc ?_ _ | with_reducible refine below_drew ?_)); exact Below.refl _ _
      have hB := hB.th hE
      replace hS := Hd.mk (below_then hS.out hE)
      have b0 := b0.dn hE
      have b1 := b1.dn hE
      have b2 := b2.dn hE
      have HRL := Hd.mk (R_below HRL.out hE)
      clear hW hE
      have z8 := Hd.mk hz_; clear hz_
      refine mixT_b rfl ?_ (by rfl)
      go_wp2_with (at_builtin; refine append_str rfl _ _ 25 9 (.string ByteArray.empty) 16 rfl Try.underlying25 info_str rfl (by decide) (ys := j.names.take q) (S' := (fun k => W5.heap.size ≤ k)) rfl (by show _ = Value.slice _ (j.names.take q).length _; rw [List.length_take, Nat.min_eq_left (by omega)]; rfl) HRS.out (C_take (C_below HCN.out hB.out) _) (fun _ h => h.1) (fun k h => by have q_ := z8.out; omega) (by have := HLL.out; have := hnl.out; first | (simp; done) | (simp; omega)) (fun v1 wc hv1 hX1 => ?_); obtain ⟨D3, d3, hve, hd3, _⟩ := R_C hv1; obtain ⟨n3, hn3⟩ : ∃ z, z = (([] : List ByteArray) ++ j.names.take q).length := ⟨_, rfl⟩; rw [← hn3] at hve; subst hve; clear hn3 hd3)
      rw [List.nil_append] at hv1
      have hX := hX1.mono (fun k _ h => h.1); clear hX1
      have z0_ := z0.out; have z1_ := z1.out; have z2_ := z2.out; have z3_ := z3.out; have z4_ := z4.out; have z5_ := z5.out; have z6_ := z6.out; have hzb_ := hzb.out; have z7_ := z7.out; have z8_ := z8.out
      have hS := Hd.mk (below_frS hS.out hX (fun k h => by omega))
      refine ⟨cls_below hS.out, ?_⟩
      have HRS := Hd.mk (R_bound hv1); clear hv1
      have z0_ := z0.out; have z1_ := z1.out; have z2_ := z2.out; have z3_ := z3.out; have z4_ := z4.out; have z5_ := z5.out; have z6_ := z6.out; have hzb_ := hzb.out; have z7_ := z7.out; have z8_ := z8.out
      have hSz := hB.out.size
      have b0 := Hd.mk (b0.out.fr hX (fun h => by have hlt_ := b0.out.lt; skip; (try simp only [rng] at h); (try simp only at h); omega))
      have b1 := Hd.mk (b1.out.fr hX (fun h => by have hlt_ := b1.out.lt; skip; (try simp only [rng] at h); (try simp only at h); omega))
      have b2 := Hd.mk (b2.out.fr hX (fun h => by have hlt_ := b2.out.lt; skip; (try simp only [rng] at h); (try simp only at h); omega))
      have HRL := Hd.mk (R_fr HRL.out hX (fun k hk hl h => by skip; (try simp only [rng] at hk h); (try simp only at hk); (try simp only at h); omega))
      have hB := Hd.mk (below_frS hB.out hX (fun k h => by skip; (try simp only [rng] at h); (try simp only at h); omega))
      have hz_ := hX.size
      clear hX
      have z9 := Hd.mk hz_; clear hz_
      refine mixT_fin ?_
      clear hS
      clear rv00 rv01 rv02 rv03 rv04 rv10 rv11 rv12 rv13 rv14 rv15 rv16 rv20 rv21 rv22 rv23 rv24
      clear v00 v01 v02 v03 v04 v0z v10 v11 v12 v13 v14 v15 v16 v1z v20 v21 v22 v23 v24 v2z
      obtain ⟨v00, v01, v02, v03, v04, v0z⟩ := blk5 b0.out
      obtain ⟨v10, v11, v12, v13, v14, v15, v16, v1z⟩ := blk7 b1.out
      obtain ⟨v20, v21, v22, v23, v24, v2z⟩ := blk5 b2.out
      refine tail_b rfl ?_ (by rfl)
      go_wp2_with (at_builtin; refine append_str rfl _ _ 25 9 (.string ByteArray.empty) 16 rfl Try.underlying25 info_str rfl (by decide) (ys := j.names.drop (q + 1)) (S' := fun k => (W5.heap.size ≤ k ∧ k < wc.heap.size) ∨ wc.heap.size ≤ k) rfl (by show _ = Value.slice _ (j.names.drop (q + 1)).length _; first | (rw [List.length_drop]; rfl) | (rw [List.drop_eq_nil_of_le (by omega)]; rfl)) HRS.out (C_drop (C_below HCN.out hB.out) (q + 1) (.inl (by omega))) (fun k h => .inl h) (fun k h => .inr h) (by have := HLL.out; have := hnl.out; first | (simp; done) | (simp; omega)) (fun v2 wd hv2 hX2 => ?_); obtain ⟨D4, d4, hve, hd4, _⟩ := R_C hv2; obtain ⟨n4, hn4⟩ : ∃ z, z = (j.names.take q ++ j.names.drop (q + 1)).length := ⟨_, rfl⟩; rw [← hn4] at hve; subst hve; clear hn4 hd4)
      have hX := hX2; clear hX2; have HRN := Hd.mk (R_bound hv2); clear hv2 HRS
      clear v00 v01 v02 v03 v04 v0z v10 v11 v12 v13 v14 v15 v16 v1z v20 v21 v22 v23 v24 v2z
      have z0_ := z0.out; have z1_ := z1.out; have z2_ := z2.out; have z3_ := z3.out; have z4_ := z4.out; have z5_ := z5.out; have z6_ := z6.out; have hzb_ := hzb.out; have z7_ := z7.out; have z8_ := z8.out; have z9_ := z9.out
      have hSz := hB.out.size
      have b0 := Hd.mk (b0.out.fr hX (fun h => by have hlt_ := b0.out.lt; skip; (try simp only [rng] at h); (try simp only at h); omega))
      have b1 := Hd.mk (b1.out.fr hX (fun h => by have hlt_ := b1.out.lt; skip; (try simp only [rng] at h); (try simp only at h); omega))
      have b2 := Hd.mk (b2.out.fr hX (fun h => by have hlt_ := b2.out.lt; skip; (try simp only [rng] at h); (try simp only at h); omega))
      have HRL := Hd.mk (R_fr HRL.out hX (fun k hk hl h => by skip; (try simp only [rng] at hk h); (try simp only at hk); (try simp only at h); omega))
      have hB := Hd.mk (below_frS hB.out hX (fun k h => by skip; (try simp only [rng] at h); (try simp only at h); omega))
      have hz_ := hX.size
      clear hX
      have z10 := Hd.mk hz_; clear hz_
      obtain ⟨v00, v01, v02, v03, v04, v0z⟩ := blk5 b0.out
      obtain ⟨v10, v11, v12, v13, v14, v15, v16, v1z⟩ := blk7 b1.out
      obtain ⟨v20, v21, v22, v23, v24, v2z⟩ := blk5 b2.out
      refine mixQ_n ?_
      refine tail_b rfl ?_ (by rfl)
      go_wp2_with fail
      refine mixQ_n ?_
      refine tail_b rfl ?_ (by rfl)
      go_wp2_with fail
      refine mixQ_n ?_
      refine tail_nil ?_
      refine exit_gen ?_; intro We hW
      clear v00 v01 v02 v03 v04 v0z v10 v11 v12 v13 v14 v15 v16 v1z v20 v21 v22 v23 v24 v2z
      have eF : Fr wd We (fun k => k = w.heap.size) := by rw [hW]; (repeat (first | with_reducible refine Fr.setCell ?_ _ (fun _ => by simp <;> omega) _ | with_reducible refine Fr.alloc ?_ _ | with_reducible refine Fr.drew ?_)); exact Fr.refl _ _
      have z0_ := z0.out; have z1_ := z1.out; have z2_ := z2.out; have z3_ := z3.out; have z4_ := z4.out; have z5_ := z5.out; have z6_ := z6.out; have hzb_ := hzb.out; have z7_ := z7.out; have z8_ := z8.out; have z9_ := z9.out; have z10_ := z10.out
      have b1 := Hd.mk (b1.out.fr eF (fun h => by (try simp only at h); omega))
      have b2 := Hd.mk (b2.out.fr eF (fun h => by (try simp only at h); omega))
      have b0 := Hd.mk (show Blk We w.heap.size #[.int .i64 j.kind, .int .i64 j.n, .string j.s, .slice D2 n2 d2, .slice D4 n4 d4] 27 by rw [hW]; exact b0.out.set 4 _)
      have HRL := Hd.mk (R_fr HRL.out eF (fun k hk hl h => by (try simp only at h); rcases hk.1 with q_ | q_; (have q2_ := q_.1; omega); omega))
      have HRN := Hd.mk (R_fr HRN.out eF (fun k hk hl h => by (try simp only at h); rcases hk.1 with q_ | q_; (have q2_ := q_.1; omega); omega))
      have hB := Hd.mk (below_frS hB.out eF (fun k h => by (try simp only at h); omega))
      have hzb2 := Hd.mk eF.size
      clear hW eF
      obtain ⟨v00, v01, v02, v03, v04, v0z⟩ := blk5 b0.out
      obtain ⟨v10, v11, v12, v13, v14, v15, v16, v1z⟩ := blk7 b1.out
      obtain ⟨v20, v21, v22, v23, v24, v2z⟩ := blk5 b2.out
      go_wp2_with fail
      refine bodyPost_retW (v := .tuple #[.agg #[.int .i64 j.kind, .int .i64 j.n, .string j.s, .slice D2 n2 d2, .slice D4 n4 d4], .bool true]) (by simp [results, Try.results122, go_sem, v00, v01, v02, v03, v04, v0z, v10, v11, v12, v13, v14, v15, v16, v1z, v20, v21, v22, v23, v24, v2z]) rfl ?_
      intro W hW
      clear v00 v01 v02 v03 v04 v0z v10 v11 v12 v13 v14 v15 v16 v1z v20 v21 v22 v23 v24 v2z
      have z0_ := z0.out; have z1_ := z1.out; have z2_ := z2.out; have z3_ := z3.out; have z4_ := z4.out; have z5_ := z5.out; have z6_ := z6.out; have hzb_ := hzb.out; have z7_ := z7.out; have z8_ := z8.out; have z9_ := z9.out; have z10_ := z10.out; have hzb2_ := hzb2.out
      have eF : Fr We W (fun k => k = w.heap.size ∨ k = w.heap.size + 2) := by rw [hW]; (repeat (first | with_reducible refine Fr.setCell ?_ _ (fun _ => by simp <;> omega) _ | with_reducible refine Fr.alloc ?_ _ | with_reducible refine Fr.drew ?_)); exact Fr.refl _ _
      clear hW
      have hRF := HRL.out
      rw [HLC.out] at hRF
      have hRW := R_fr hRF eF (fun k hk hl h => by (try simp only at h); rcases hk.1 with q_ | q_; (have q2_ := q_.1; omega); omega)
      have hTi : ∀ i b, T i b → T3 b ∧ b < w.heap.size := fun i b hb => ⟨(HCS.out i b hb).1, (HT3.out b (HCS.out i b hb).1).2⟩
      have hL := R_cut (S' := fun k => T3 k ∨ W3.heap.size ≤ k ∧ k < wb.heap.size) (tJ (m + 1)) hRW (fun i x hx => Ty.O_fr (Ty.O_below (Ty.O_mono _ (S := fun b => T i b ∧ b < w.heap.size) (fun k h => h.1) (Ty.O_bound _ (HCO.out i x hx))) hB.out) eF (fun k hk hl h => by (try simp only at h); have q_ := (hTi i k hk).2; omega))
       HCT.out (fun i b hb => ⟨.inl (hTi i b hb).1, fun h => by have q0_ := (hTi i b hb).2; rcases h.1 with q_ | q_; (have q2_ := q_.1; omega); omega⟩)
       (fun k h => .inr (by have q9_ := h.2; rcases h.1 with q_ | q_; (have q2_ := q_.1; omega); omega))
      have hN := R_cutS (R_fr HRN.out eF (fun k hk hl h => by (try simp only at h); rcases hk.1 with q_ | q_; (have q2_ := q_.1; omega); omega))
      have hN' : str.R 9 W (fun k => (W5.heap.size ≤ k ∧ k < wc.heap.size ∨ wc.heap.size ≤ k) ∧ k < wd.heap.size) (Value.slice D4 n4 d4) (dropV j q).names := by rw [show (dropV j q).names = j.names.eraseIdx q by unfold dropV; rw [hk5]; rfl]; exact hN
      exact pat_some (z := dropV j q) (cs := [Value.int IntKind.i64 j.kind, .int .i64 j.n, .string j.s, .slice D2 n2 d2, .slice D4 n4 d4]) HPV.out rfl (tJ_O.2 ⟨_, _, fun k => T3 k ∨ W3.heap.size ≤ k ∧ k < wb.heap.size, (fun k => (W5.heap.size ≤ k ∧ k < wc.heap.size ∨ wc.heap.size ≤ k) ∧ k < wd.heap.size), rfl, hsj, hL, hN', fun k h => by
       rcases h with q_ | q_
       ·exact .inr (HT3.out k q_).1
       ·exact .inl (by have q2_ := q_.1; omega), fun k h => .inl (by rcases h.1 with q_ | q_; (have q2_ := q_.1; omega); omega), fun k h h2 => by
       rcases h with q_ | q_
       ·have q0_ := (HT3.out k q_).2
        rcases h2.1 with q2_ | q2_
        ·have q3_ := q2_.1; omega
        ·omega
       ·have q0_ := q_.2
        rcases h2.1 with q2_ | q2_
        ·have q3_ := q2_.1; omega
        ·omega⟩) ((Fr.of_below hB.out S).then_ eF (fun k h hl => by (try simp only at h); omega))
     ·have hdd1 : ¬ (c2 = q + 1) := by omega
      have hdd2 : ¬ (q + 1 = c2) := by omega
      obtain ⟨v00, v01, v02, v03, v04, v0z⟩ := blk5 b0.out
      obtain ⟨v10, v11, v12, v13, v14, v15, v16, v1z⟩ := blk7 b1.out
      obtain ⟨v20, v21, v22, v23, v24, v2z⟩ := blk5 b2.out
      go_wp2_with fail
      clear v00 v01 v02 v03 v04 v0z v10 v11 v12 v13 v14 v15 v16 v1z v20 v21 v22 v23 v24 v2z
      obtain ⟨v00, v01, v02, v03, v04, v0z⟩ := blk5 b0.out
      obtain ⟨v10, v11, v12, v13, v14, v15, v16, v1z⟩ := blk7 b1.out
      obtain ⟨v20, v21, v22, v23, v24, v2z⟩ := blk5 b2.out
      obtain ⟨rv00, rv01, rv02, rv03, rv04, rv10, rv11⟩ := reg7 v00 v01 v02 v03 v04 v10 v11
      obtain ⟨rv12, rv13, rv14, rv15, rv16⟩ := reg5 v12 v13 v14 v15 v16
      obtain ⟨rv20, rv21, rv22, rv23, rv24⟩ := reg5 v20 v21 v22 v23 v24
      refine region_mixT (.p 1 (.q 2 (.p 3 (.q 4 (.p 6 (.q 7 (.p 8 (.p 9 (.q 10 (.b 0 (.b 5 .fin))))))))))) [11, 12, 13] (by kernel_rfl) (by kernel_rfl) (fun _ _ _ _ _ h => h) ?_
      refine genT ?_
      intro W5 hW
      have hS := Hd.mk (show Below Wb.heap.size Wb W5 by rw [hW]; exact below_drew (Below.refl _ _))
      have hz_ : Wb.heap.size ≤ W5.heap.size := by rw [hW]; simp
      have hE : Below Wb.heap.size Wb W5 := by rw [hW]; (repeat (first | with_reducible refine below_alloc ?_ _ | with_reducible refine below_drew ?_)); exact Below.refl _ _
      have hB := hB.th hE
      have b0 := b0.dn hE
      have b1 := b1.dn hE
      have b2 := b2.dn hE
      have HRL := Hd.mk (R_below HRL.out hE)
      clear hW hE
      have z7 := Hd.mk hz_; clear hz_
      iterate 9 ((first | refine mixT_q rfl ?_ | refine mixT_p rfl ?_); go_big_quiet_want; go_big_quiet_op; go_big_quiet_on; refine wpQuiet_nil ?_)
      refine mixT_b rfl ?_ (by rfl)
      go_wp2_with fail
      refine ⟨cls_below (below_alloc hS.out _), ?_⟩
      refine genT ?_; intro W6 hW
      have HRS := Hd.mk (show str.R 9 W6 (fun k => W5.heap.size ≤ k ∧ k < W6.heap.size) (.slice (some ⟨W5.heap.size, 0, none⟩) 0 0) [] by rw [hW]; first | exact R_bound (R_empty str _ _) | exact R_bound (R_below (R_empty str _ _) (below_drew (Below.refl _ _))))
      have hz_ : W5.heap.size + 1 ≤ W6.heap.size := by rw [hW]; simp
      have hE : Below W5.heap.size W5 W6 := by rw [hW]; (repeat (first | with_reducible refine below_alloc ?_ _ | with_reducible refine below_drew ?_)); exact Below.refl _ _
      have hB := hB.th hE
      replace hS := Hd.mk (below_then hS.out hE)
      have b0 := b0.dn hE
      have b1 := b1.dn hE
      have b2 := b2.dn hE
      have HRL := Hd.mk (R_below HRL.out hE)
      clear hW hE
      have z8 := Hd.mk hz_; clear hz_
      refine mixT_b rfl ?_ (by rfl)
      go_wp2_with (at_builtin; refine append_str rfl _ _ 25 9 (.string ByteArray.empty) 16 rfl Try.underlying25 info_str rfl (by decide) (ys := j.names.take q) (S' := (fun k => W5.heap.size ≤ k)) rfl (by show _ = Value.slice _ (j.names.take q).length _; rw [List.length_take, Nat.min_eq_left (by omega)]; rfl) HRS.out (C_take (C_below HCN.out hB.out) _) (fun _ h => h.1) (fun k h => by have q_ := z8.out; omega) (by have := HLL.out; have := hnl.out; first | (simp; done) | (simp; omega)) (fun v1 wc hv1 hX1 => ?_); obtain ⟨D3, d3, hve, hd3, _⟩ := R_C hv1; obtain ⟨n3, hn3⟩ : ∃ z, z = (([] : List ByteArray) ++ j.names.take q).length := ⟨_, rfl⟩; rw [← hn3] at hve; subst hve; clear hn3 hd3)
      rw [List.nil_append] at hv1
      have hX := hX1.mono (fun k _ h => h.1); clear hX1
      have z0_ := z0.out; have z1_ := z1.out; have z2_ := z2.out; have z3_ := z3.out; have z4_ := z4.out; have z5_ := z5.out; have z6_ := z6.out; have hzb_ := hzb.out; have z7_ := z7.out; have z8_ := z8.out
      have hS := Hd.mk (below_frS hS.out hX (fun k h => by omega))
      refine ⟨cls_below hS.out, ?_⟩
      have HRS := Hd.mk (R_bound hv1); clear hv1
      have z0_ := z0.out; have z1_ := z1.out; have z2_ := z2.out; have z3_ := z3.out; have z4_ := z4.out; have z5_ := z5.out; have z6_ := z6.out; have hzb_ := hzb.out; have z7_ := z7.out; have z8_ := z8.out
      have hSz := hB.out.size
      have b0 := Hd.mk (b0.out.fr hX (fun h => by have hlt_ := b0.out.lt; skip; (try simp only [rng] at h); (try simp only at h); omega))
      have b1 := Hd.mk (b1.out.fr hX (fun h => by have hlt_ := b1.out.lt; skip; (try simp only [rng] at h); (try simp only at h); omega))
      have b2 := Hd.mk (b2.out.fr hX (fun h => by have hlt_ := b2.out.lt; skip; (try simp only [rng] at h); (try simp only at h); omega))
      have HRL := Hd.mk (R_fr HRL.out hX (fun k hk hl h => by skip; (try simp only [rng] at hk h); (try simp only at hk); (try simp only at h); omega))
      have hB := Hd.mk (below_frS hB.out hX (fun k h => by skip; (try simp only [rng] at h); (try simp only at h); omega))
      have hz_ := hX.size
      clear hX
      have z9 := Hd.mk hz_; clear hz_
      refine mixT_fin ?_
      clear hS
      clear rv00 rv01 rv02 rv03 rv04 rv10 rv11 rv12 rv13 rv14 rv15 rv16 rv20 rv21 rv22 rv23 rv24
      clear v00 v01 v02 v03 v04 v0z v10 v11 v12 v13 v14 v15 v16 v1z v20 v21 v22 v23 v24 v2z
      obtain ⟨v00, v01, v02, v03, v04, v0z⟩ := blk5 b0.out
      obtain ⟨v10, v11, v12, v13, v14, v15, v16, v1z⟩ := blk7 b1.out
      obtain ⟨v20, v21, v22, v23, v24, v2z⟩ := blk5 b2.out
      refine tail_b rfl ?_ (by rfl)
      go_wp2_with (at_builtin; refine append_str rfl _ _ 25 9 (.string ByteArray.empty) 16 rfl Try.underlying25 info_str rfl (by decide) (ys := j.names.drop (q + 1)) (S' := fun k => (W5.heap.size ≤ k ∧ k < wc.heap.size) ∨ wc.heap.size ≤ k) rfl (by show _ = Value.slice _ (j.names.drop (q + 1)).length _; first | (rw [List.length_drop]; rfl) | (rw [List.drop_eq_nil_of_le (by omega)]; rfl)) HRS.out (C_drop (C_below HCN.out hB.out) (q + 1) (.inr ⟨_, rfl, by rw [Addr.add_lit, Nat.zero_add]; show _ = some (Addr.mk gn ((q + 1) * 1) none); rw [Nat.mul_one]⟩)) (fun k h => .inl h) (fun k h => .inr h) (by have := HLL.out; have := hnl.out; first | (simp; done) | (simp; omega)) (fun v2 wd hv2 hX2 => ?_); obtain ⟨D4, d4, hve, hd4, _⟩ := R_C hv2; obtain ⟨n4, hn4⟩ : ∃ z, z = (j.names.take q ++ j.names.drop (q + 1)).length := ⟨_, rfl⟩; rw [← hn4] at hve; subst hve; clear hn4 hd4)
      have hX := hX2; clear hX2; have HRN := Hd.mk (R_bound hv2); clear hv2 HRS
      clear v00 v01 v02 v03 v04 v0z v10 v11 v12 v13 v14 v15 v16 v1z v20 v21 v22 v23 v24 v2z
      have z0_ := z0.out; have z1_ := z1.out; have z2_ := z2.out; have z3_ := z3.out; have z4_ := z4.out; have z5_ := z5.out; have z6_ := z6.out; have hzb_ := hzb.out; have z7_ := z7.out; have z8_ := z8.out; have z9_ := z9.out
      have hSz := hB.out.size
      have b0 := Hd.mk (b0.out.fr hX (fun h => by have hlt_ := b0.out.lt; skip; (try simp only [rng] at h); (try simp only at h); omega))
      have b1 := Hd.mk (b1.out.fr hX (fun h => by have hlt_ := b1.out.lt; skip; (try simp only [rng] at h); (try simp only at h); omega))
      have b2 := Hd.mk (b2.out.fr hX (fun h => by have hlt_ := b2.out.lt; skip; (try simp only [rng] at h); (try simp only at h); omega))
      have HRL := Hd.mk (R_fr HRL.out hX (fun k hk hl h => by skip; (try simp only [rng] at hk h); (try simp only at hk); (try simp only at h); omega))
      have hB := Hd.mk (below_frS hB.out hX (fun k h => by skip; (try simp only [rng] at h); (try simp only at h); omega))
      have hz_ := hX.size
      clear hX
      have z10 := Hd.mk hz_; clear hz_
      obtain ⟨v00, v01, v02, v03, v04, v0z⟩ := blk5 b0.out
      obtain ⟨v10, v11, v12, v13, v14, v15, v16, v1z⟩ := blk7 b1.out
      obtain ⟨v20, v21, v22, v23, v24, v2z⟩ := blk5 b2.out
      refine mixQ_n ?_
      refine tail_b rfl ?_ (by rfl)
      go_wp2_with fail
      refine mixQ_n ?_
      refine tail_b rfl ?_ (by rfl)
      go_wp2_with fail
      refine mixQ_n ?_
      refine tail_nil ?_
      refine exit_gen ?_; intro We hW
      clear v00 v01 v02 v03 v04 v0z v10 v11 v12 v13 v14 v15 v16 v1z v20 v21 v22 v23 v24 v2z
      have eF : Fr wd We (fun k => k = w.heap.size) := by rw [hW]; (repeat (first | with_reducible refine Fr.setCell ?_ _ (fun _ => by simp <;> omega) _ | with_reducible refine Fr.alloc ?_ _ | with_reducible refine Fr.drew ?_)); exact Fr.refl _ _
      have z0_ := z0.out; have z1_ := z1.out; have z2_ := z2.out; have z3_ := z3.out; have z4_ := z4.out; have z5_ := z5.out; have z6_ := z6.out; have hzb_ := hzb.out; have z7_ := z7.out; have z8_ := z8.out; have z9_ := z9.out; have z10_ := z10.out
      have b1 := Hd.mk (b1.out.fr eF (fun h => by (try simp only at h); omega))
      have b2 := Hd.mk (b2.out.fr eF (fun h => by (try simp only at h); omega))
      have b0 := Hd.mk (show Blk We w.heap.size #[.int .i64 j.kind, .int .i64 j.n, .string j.s, .slice D2 n2 d2, .slice D4 n4 d4] 27 by rw [hW]; exact b0.out.set 4 _)
      have HRL := Hd.mk (R_fr HRL.out eF (fun k hk hl h => by (try simp only at h); rcases hk.1 with q_ | q_; (have q2_ := q_.1; omega); omega))
      have HRN := Hd.mk (R_fr HRN.out eF (fun k hk hl h => by (try simp only at h); rcases hk.1 with q_ | q_; (have q2_ := q_.1; omega); omega))
      have hB := Hd.mk (below_frS hB.out eF (fun k h => by (try simp only at h); omega))
      have hzb2 := Hd.mk eF.size
      clear hW eF
      obtain ⟨v00, v01, v02, v03, v04, v0z⟩ := blk5 b0.out
      obtain ⟨v10, v11, v12, v13, v14, v15, v16, v1z⟩ := blk7 b1.out
      obtain ⟨v20, v21, v22, v23, v24, v2z⟩ := blk5 b2.out
      go_wp2_with fail
      refine bodyPost_retW (v := .tuple #[.agg #[.int .i64 j.kind, .int .i64 j.n, .string j.s, .slice D2 n2 d2, .slice D4 n4 d4], .bool true]) (by simp [results, Try.results122, go_sem, v00, v01, v02, v03, v04, v0z, v10, v11, v12, v13, v14, v15, v16, v1z, v20, v21, v22, v23, v24, v2z]) rfl ?_
      intro W hW
      clear v00 v01 v02 v03 v04 v0z v10 v11 v12 v13 v14 v15 v16 v1z v20 v21 v22 v23 v24 v2z
      have z0_ := z0.out; have z1_ := z1.out; have z2_ := z2.out; have z3_ := z3.out; have z4_ := z4.out; have z5_ := z5.out; have z6_ := z6.out; have hzb_ := hzb.out; have z7_ := z7.out; have z8_ := z8.out; have z9_ := z9.out; have z10_ := z10.out; have hzb2_ := hzb2.out
      have eF : Fr We W (fun k => k = w.heap.size ∨ k = w.heap.size + 2) := by rw [hW]; (repeat (first | with_reducible refine Fr.setCell ?_ _ (fun _ => by simp <;> omega) _ | with_reducible refine Fr.alloc ?_ _ | with_reducible refine Fr.drew ?_)); exact Fr.refl _ _
      clear hW
      have hRF := HRL.out
      rw [HLC.out] at hRF
      have hRW := R_fr hRF eF (fun k hk hl h => by (try simp only at h); rcases hk.1 with q_ | q_; (have q2_ := q_.1; omega); omega)
      have hTi : ∀ i b, T i b → T3 b ∧ b < w.heap.size := fun i b hb => ⟨(HCS.out i b hb).1, (HT3.out b (HCS.out i b hb).1).2⟩
      have hL := R_cut (S' := fun k => T3 k ∨ W3.heap.size ≤ k ∧ k < wb.heap.size) (tJ (m + 1)) hRW (fun i x hx => Ty.O_fr (Ty.O_below (Ty.O_mono _ (S := fun b => T i b ∧ b < w.heap.size) (fun k h => h.1) (Ty.O_bound _ (HCO.out i x hx))) hB.out) eF (fun k hk hl h => by (try simp only at h); have q_ := (hTi i k hk).2; omega))
       HCT.out (fun i b hb => ⟨.inl (hTi i b hb).1, fun h => by have q0_ := (hTi i b hb).2; rcases h.1 with q_ | q_; (have q2_ := q_.1; omega); omega⟩)
       (fun k h => .inr (by have q9_ := h.2; rcases h.1 with q_ | q_; (have q2_ := q_.1; omega); omega))
      have hN := R_cutS (R_fr HRN.out eF (fun k hk hl h => by (try simp only at h); rcases hk.1 with q_ | q_; (have q2_ := q_.1; omega); omega))
      have hN' : str.R 9 W (fun k => (W5.heap.size ≤ k ∧ k < wc.heap.size ∨ wc.heap.size ≤ k) ∧ k < wd.heap.size) (Value.slice D4 n4 d4) (dropV j q).names := by rw [show (dropV j q).names = j.names.eraseIdx q by unfold dropV; rw [hk5]; rfl]; exact hN
      exact pat_some (z := dropV j q) (cs := [Value.int IntKind.i64 j.kind, .int .i64 j.n, .string j.s, .slice D2 n2 d2, .slice D4 n4 d4]) HPV.out rfl (tJ_O.2 ⟨_, _, fun k => T3 k ∨ W3.heap.size ≤ k ∧ k < wb.heap.size, (fun k => (W5.heap.size ≤ k ∧ k < wc.heap.size ∨ wc.heap.size ≤ k) ∧ k < wd.heap.size), rfl, hsj, hL, hN', fun k h => by
       rcases h with q_ | q_
       ·exact .inr (HT3.out k q_).1
       ·exact .inl (by have q2_ := q_.1; omega), fun k h => .inl (by rcases h.1 with q_ | q_; (have q2_ := q_.1; omega); omega), fun k h h2 => by
       rcases h with q_ | q_
       ·have q0_ := (HT3.out k q_).2
        rcases h2.1 with q2_ | q2_
        ·have q3_ := q2_.1; omega
        ·omega
       ·have q0_ := q_.2
        rcases h2.1 with q2_ | q2_
        ·have q3_ := q2_.1; omega
        ·omega⟩) ((Fr.of_below hB.out S).then_ eF (fun k h hl => by (try simp only at h); omega))
 ·subst hk1
  have HKK := Hd.mk hkk; clear hkk hk
  go_enter Try.func122, Try.ntmps122
  go_wp2_with fail
  apply calls_gen; intro W1 hW
  have hz_ : w.heap.size + 3 ≤ W1.heap.size := by rw [hW]; simp
  have hE : Below w.heap.size w W1 := by rw [hW]; (repeat (first | with_reducible refine below_alloc ?_ _ | with_reducible refine below_drew ?_)); exact Below.refl _ _
  have hB := hB.th hE
  have b0 := Hd.mk (show Blk W1 (w.heap.size) #[.int .i64 j.kind, .int .i64 j.n, .string j.s, .slice A1 j.list.length c1, .slice A2 j.names.length c2] 27 by rw [hW]; first | exact (((Blk.new _ _ _).alloc _).alloc _) | (simpa using (((Blk.new _ _ _).alloc _).alloc _)))
  have b1 := Hd.mk (show Blk W1 (w.heap.size + 1) #[.int .i64 3, .slice AW o.way.length cW, .int .i64 o.value.kind, .int .i64 o.value.n, .string o.value.s, .slice A3 o.value.list.length c3, .slice A4 o.value.names.length c4] 38 by rw [hW]; first | exact ((Blk.new1 _ _ _ _).alloc _) | (simpa using ((Blk.new1 _ _ _ _).alloc _)))
  have b2 := Hd.mk (show Blk W1 (w.heap.size + 1 + 1) #[.int .i64 0, .int .i64 0, .string ⟨#[]⟩, .slice none 0 0, .slice none 0 0] 27 by rw [hW]; first | exact (Blk.new2 _ _ _ _ _) | (simpa using (Blk.new2 _ _ _ _ _)))
  have HJ := HJ.ob hE
  clear hW hE
  have z1 := Hd.mk hz_; clear hz_
  have z0 := Hd.mk (show w.heap.size + 3 ≤ W1.heap.size by have z1_ := z1.out; omega)
  refine (spec_l3At j _ s _ (Ty.O_K _ HJ.out) (by omega)).mono ?_
  rintro e w2 ⟨rfl, hX⟩
  have b0 := b0.dn hX
  have b1 := b1.dn hX
  have b2 := b2.dn hX
  have HJ := HJ.ob hX
  have hB := hB.th hX
  have hz_ := hX.size
  clear hX
  have z2 := Hd.mk hz_; clear hz_
  obtain ⟨at_, hat⟩ : ∃ z, z = placeS j s := ⟨_, rfl⟩
  rw [← hat]
  have HAT := Hd.mk hat; clear hat
  have HA1 := Hd.mk (show ((o.kind == 1) && ([] : List ByteArray).isEmpty) = false by rw [← HKK.out]; rfl)
  by_cases hat0 : at_ < 0
  ·obtain ⟨v00, v01, v02, v03, v04, v0z⟩ := blk5 b0.out
   obtain ⟨v10, v11, v12, v13, v14, v15, v16, v1z⟩ := blk7 b1.out
   obtain ⟨v20, v21, v22, v23, v24, v2z⟩ := blk5 b2.out
   go_wp2_with fail
   refine bodyPost_retW (v := .tuple #[.agg #[.int .i64 j.kind, .int .i64 j.n, .string j.s, .slice A1 j.list.length c1, .slice A2 j.names.length c2], .bool false]) (by simp [results, Try.results122, go_sem, v00, v01, v02, v03, v04, v0z, v10, v11, v12, v13, v14, v15, v16, v1z, v20, v21, v22, v23, v24, v2z]) rfl ?_
   intro W hW
   clear v00 v01 v02 v03 v04 v0z v10 v11 v12 v13 v14 v15 v16 v1z v20 v21 v22 v23 v24 v2z
   have eF : Fr w2 W (fun k => w.heap.size ≤ k) := by rw [hW]; (repeat (first | with_reducible refine Fr.setCell ?_ _ (fun _ => by simp <;> omega) _ | with_reducible refine Fr.alloc ?_ _ | with_reducible refine Fr.drew ?_)); exact Fr.refl _ _
   exact pat_none (pat_no HA1.out (by rw [← HAT.out]; exact hat0)) rfl ((Fr.of_below hB.out S).then_ eF (fun k h hl => by (try simp only at h); omega))
  ·obtain ⟨q, hq⟩ := Int.eq_ofNat_of_zero_le (Int.not_lt.1 hat0)
   subst hq
   have hql := place_lt HOWN.out s HAT.out.symm
   clear hat0
   have hq0 : (0 : Int) ≤ (q : Int) := by omega
   have hqn : ¬ ((q : Int) < 0) := by omega
   have hqi : (q : Int) < (j.list.length : Int) := by omega
   obtain ⟨v3, v4, T3, T4, hcj, hsj2, hr3, hr4, hs3, hs4, hs34⟩ := tJ_O.1 HJ0.out
   simp only [List.cons.injEq, and_true, true_and] at hcj
   obtain ⟨rfl, rfl⟩ := hcj
   have HL := Hd.mk hr3; have HN4 := Hd.mk hr4; have HT3 := Hd.mk hs3; have HT4 := Hd.mk hs4; have H34 := Hd.mk hs34
   clear hr3 hr4 hs3 hs4 hs34
   obtain ⟨gl, cl, he, hgl, _⟩ := R_form HL.out (by omega)
   injection he with e1 e2 e3
   subst e1; subst e3; clear e2
   have HA2 := Hd.mk (show ((o.kind == 2) && ([] : List ByteArray).isEmpty) = false by rw [← HKK.out]; rfl)
   have HPV := Hd.mk (pat_in HA1.out HA2.out HAT.out.symm hql)
   obtain ⟨Si, Ae, Be, ae, be, hH, hOe, hSg, hgw, ⟨x0, x1, x2, x3, x4⟩, xz, hlc, hc63⟩ := R_elem5 HL.out hql
   have HSI := Hd.mk (H_in hH)
   have hH := Hd.mk (H_belowZ hH hB.out); have hOe := Hd.mk hOe
   obtain ⟨v00, v01, v02, v03, v04, v0z⟩ := blk5 b0.out
   obtain ⟨v10, v11, v12, v13, v14, v15, v16, v1z⟩ := blk7 b1.out
   obtain ⟨v20, v21, v22, v23, v24, v2z⟩ := blk5 b2.out
   go_wp2_with fail
   clear v00 v01 v02 v03 v04 v0z v10 v11 v12 v13 v14 v15 v16 v1z v20 v21 v22 v23 v24 v2z
   obtain ⟨v00, v01, v02, v03, v04, v0z⟩ := blk5 b0.out
   obtain ⟨v10, v11, v12, v13, v14, v15, v16, v1z⟩ := blk7 b1.out
   obtain ⟨v20, v21, v22, v23, v24, v2z⟩ := blk5 b2.out
   obtain ⟨rv00, rv01, rv02, rv03, rv04, rv10, rv11⟩ := reg7 v00 v01 v02 v03 v04 v10 v11
   obtain ⟨rv12, rv13, rv14, rv15, rv16⟩ := reg5 v12 v13 v14 v15 v16
   obtain ⟨rv20, rv21, rv22, rv23, rv24⟩ := reg5 v20 v21 v22 v23 v24
   refine region_mixT (.p 0 (.q 1 (.p 2 (.p 3 (.q 4 (.b 5 (.q 6 .fin))))))) [7] (by kernel_rfl) (by kernel_rfl) (fun _ _ _ _ _ h => h) ?_
   refine genT ?_
   intro W3 hW
   have hS := Hd.mk (show Below w2.heap.size w2 W3 by rw [hW]; exact below_drew (Below.refl _ _))
   have hz_ : w2.heap.size ≤ W3.heap.size := by rw [hW]; simp
   have hE : Below w2.heap.size w2 W3 := by rw [hW]; (repeat (first | with_reducible refine below_alloc ?_ _ | with_reducible refine below_drew ?_)); exact Below.refl _ _
   have hB := hB.th hE
   have b0 := b0.dn hE
   have b1 := b1.dn hE
   have b2 := b2.dn hE
   have HJ := HJ.ob hE
   have hH := Hd.mk (H_belowZ hH.out hE)
   clear hW hE
   have z3 := Hd.mk hz_; clear hz_
   iterate 5 ((first | refine mixT_q rfl ?_ | refine mixT_p rfl ?_); go_big_quiet_want; go_big_quiet_op; go_big_quiet_on; refine wpQuiet_nil ?_)
   refine mixT_b rfl ?_ (by rfl)
   go_wp2_with fail
   apply calls_gen; intro W4 hW
   have hz_ : W3.heap.size ≤ W4.heap.size := by rw [hW]; simp
   have hE : Below W3.heap.size W3 W4 := by rw [hW]; (repeat (first | with_reducible refine below_alloc ?_ _ | with_reducible refine below_drew ?_)); exact Below.refl _ _
   have hB := hB.th hE
   replace hS := Hd.mk (below_then hS.out hE)
   have b0 := b0.dn hE
   have b1 := b1.dn hE
   have b2 := b2.dn hE
   have HJ := HJ.ob hE
   have hH := Hd.mk (H_belowZ hH.out hE)
   clear hW hE
   have z4 := Hd.mk hz_; clear hz_
   refine (spec_l1Copy o.value _ _ (Ty.K_below _ hB.out HKJ.out) HBU.out).mono ?_
   rintro e w5 ⟨cy, rfl, hY, hX⟩
   have b0 := b0.dn hX
   have b1 := b1.dn hX
   have b2 := b2.dn hX
   have HJ := HJ.ob hX
   have hH := Hd.mk (H_belowZ hH.out hX)
   have hB := hB.th hX
   replace hS := Hd.mk (below_then hS.out hX)
   have hz_ := hX.size
   clear hX
   have z5 := Hd.mk hz_; clear hz_
   obtain ⟨v3, v4, _, _, hcy, _, h3_, h4_, _⟩ := tJ_O.1 hY
   obtain ⟨A7, c7, rfl, _, _⟩ := R_C h3_
   obtain ⟨A8, c8, rfl, _, _⟩ := R_C h4_
   clear h3_ h4_
   subst hcy
   replace hY := Hd.mk (show (tJ (m + 1)).O w5 (rng W4.heap.size w5.heap.size) o.value _ from Ty.O_bound _ hY)
   go_wp2_with fail
   refine ⟨cls_below hS.out, ?_⟩
   obtain ⟨g2, cap2, he2, _, _, _, hg2w, hgI2, hcell, hfz⟩ := H_cells hH.out (show 0 < 5 by decide)
   injection he2 with e1 _ e3
   subst e3
   injection e1 with e1
   injection e1 with e1 _ _
   subst e1
   have y0 := hcell 0 _ rfl; have y1 := hcell 1 _ rfl; have y2 := hcell 2 _ rfl; have y3 := hcell 3 _ rfl; have y4 := hcell 4 _ rfl
   simp only [tJ_sz, Nat.add_zero] at y0 y1 y2 y3 y4
   clear hcell x0 x1 x2 x3 x4 xz
   have hglw : gl < w.heap.size := (HT3.out gl hSg).2
   have hgl9 : gl < w5.heap.size := by have z0_ := z0.out; have z1_ := z1.out; have z2_ := z2.out; have z3_ := z3.out; have z4_ := z4.out; have z5_ := z5.out; omega
   refine mixT_q rfl ?_
   go_big_quiet_want; go_big_quiet_op; go_big_quiet_on; refine wpQuiet_nil ?_
   refine mixT_fin ?_
   clear hS
   clear rv00 rv01 rv02 rv03 rv04 rv10 rv11 rv12 rv13 rv14 rv15 rv16 rv20 rv21 rv22 rv23 rv24
   clear v00 v01 v02 v03 v04 v0z v10 v11 v12 v13 v14 v15 v16 v1z v20 v21 v22 v23 v24 v2z
   obtain ⟨v00, v01, v02, v03, v04, v0z⟩ := blk5 b0.out
   obtain ⟨v10, v11, v12, v13, v14, v15, v16, v1z⟩ := blk7 b1.out
   obtain ⟨v20, v21, v22, v23, v24, v2z⟩ := blk5 b2.out
   refine tail_b rfl ?_ (by rfl)
   go_wp2_with fail
   refine mixQ_n ?_
   refine tail_nil ?_
   go_wp2_with fail
   refine bodyPost_retW (v := .tuple #[.agg #[.int .i64 j.kind, .int .i64 j.n, .string j.s, .slice (some ⟨gl, 0, none⟩) j.list.length c1, .slice A2 j.names.length c2], .bool true]) (by simp [results, Try.results122, go_sem, v00, v01, v02, v03, v04, v0z, v10, v11, v12, v13, v14, v15, v16, v1z, v20, v21, v22, v23, v24, v2z]) rfl ?_
   intro W hW
   clear v00 v01 v02 v03 v04 v0z v10 v11 v12 v13 v14 v15 v16 v1z v20 v21 v22 v23 v24 v2z
   have z0_ := z0.out; have z1_ := z1.out; have z2_ := z2.out; have z3_ := z3.out; have z4_ := z4.out; have z5_ := z5.out
   have hF1 := Fr.set5 w5 gl (q * 5) (q * 5 + 1) (q * 5 + 2) (q * 5 + 3) (q * 5 + 4) (Value.int IntKind.i64 o.value.kind) (Value.int IntKind.i64 o.value.n) (Value.string o.value.s) (Value.slice A7 o.value.list.length c7) (Value.slice A8 o.value.names.length c8)
   have hR1 := H_set5 hH.out rfl (z := o.value) (S' := fun k => T3 k ∨ W4.heap.size ≤ k) hY.out (fun h => by have q_ := h.1; omega) (fun k h => .inr (fun h3 => by have q3_ := (HT3.out k h3).2; have q4_ := h.1; omega)) (fun k h => .inl h) (fun k h => .inr h.1)
   obtain ⟨Wa, hWa⟩ : ∃ z, z = (((((w5.setCell ⟨gl, q * 5, none⟩ (Value.int IntKind.i64 o.value.kind)).setCell ⟨gl, q * 5 + 1, none⟩ (Value.int IntKind.i64 o.value.n)).setCell ⟨gl, q * 5 + 2, none⟩ (Value.string o.value.s)).setCell ⟨gl, q * 5 + 3, none⟩ (Value.slice A7 o.value.list.length c7)).setCell ⟨gl, q * 5 + 4, none⟩ (Value.slice A8 o.value.names.length c8)) := ⟨_, rfl⟩
   rw [← hWa] at hR1 hF1
   have eF : Fr Wa W (fun k => k = w.heap.size + 2) := by rw [hW, hWa]; exact Fr.set5 _ _ _ _ _ _ _ _ _ _ _ _
   clear hW hWa
   exact pat_some (z := setV j q o.value) (cs := [Value.int IntKind.i64 j.kind, .int .i64 j.n, .string j.s, .slice (some ⟨gl, 0, none⟩) j.list.length c1, .slice A2 j.names.length c2]) (by rw [HPV.out]; show Option.map _ (wholeV o j.list[q]) = _; unfold wholeV; rw [← HKK.out]; rfl) rfl (tJ_O.2 ⟨_, _, fun k => T3 k ∨ W4.heap.size ≤ k, fun k => T4 k ∧ k < w.heap.size, rfl, hsj, R_fr hR1 eF (fun k hk hl h => by (try simp only at h); rcases hk with q_ | q_; (have q2_ := (HT3.out k q_).2; omega); omega), R_fr (R_fr (R_below (R_bound HN4.out) hB.out) hF1 (fun k hk hl h => by have h : k = gl := h; subst h; exact H34.out _ hSg hk.1)) eF (fun k hk hl h => by have q_ := (HT4.out k hk.1).2; (try simp only at h); omega), fun k h => by
    rcases h with q_ | q_
    ·exact .inr (HT3.out k q_).1
    ·exact .inl (by omega), fun k h => .inr (HT4.out k h.1).1, fun k h h2 => by
    rcases h with q_ | q_
    ·exact H34.out k q_ h2.1
    ·have q2_ := (HT4.out k h2.1).2
     omega⟩) (((Fr.of_below hB.out S).then_ hF1 (fun k h _ => by have h : k = gl := h; subst h; exact (HT3.out _ hSg).1)).then_ eF (fun k h hl => by (try simp only at h); omega))
 ·subst hk1
  have HKK := Hd.mk hkk; clear hkk hk
  go_enter Try.func122, Try.ntmps122
  go_wp2_with fail
  apply calls_gen; intro W1 hW
  have hz_ : w.heap.size + 3 ≤ W1.heap.size := by rw [hW]; simp
  have hE : Below w.heap.size w W1 := by rw [hW]; (repeat (first | with_reducible refine below_alloc ?_ _ | with_reducible refine below_drew ?_)); exact Below.refl _ _
  have hB := hB.th hE
  have b0 := Hd.mk (show Blk W1 (w.heap.size) #[.int .i64 j.kind, .int .i64 j.n, .string j.s, .slice A1 j.list.length c1, .slice A2 j.names.length c2] 27 by rw [hW]; first | exact (((Blk.new _ _ _).alloc _).alloc _) | (simpa using (((Blk.new _ _ _).alloc _).alloc _)))
  have b1 := Hd.mk (show Blk W1 (w.heap.size + 1) #[.int .i64 4, .slice AW o.way.length cW, .int .i64 o.value.kind, .int .i64 o.value.n, .string o.value.s, .slice A3 o.value.list.length c3, .slice A4 o.value.names.length c4] 38 by rw [hW]; first | exact ((Blk.new1 _ _ _ _).alloc _) | (simpa using ((Blk.new1 _ _ _ _).alloc _)))
  have b2 := Hd.mk (show Blk W1 (w.heap.size + 1 + 1) #[.int .i64 0, .int .i64 0, .string ⟨#[]⟩, .slice none 0 0, .slice none 0 0] 27 by rw [hW]; first | exact (Blk.new2 _ _ _ _ _) | (simpa using (Blk.new2 _ _ _ _ _)))
  have HJ := HJ.ob hE
  clear hW hE
  have z1 := Hd.mk hz_; clear hz_
  have z0 := Hd.mk (show w.heap.size + 3 ≤ W1.heap.size by have z1_ := z1.out; omega)
  refine (spec_l3At j _ s _ (Ty.O_K _ HJ.out) (by omega)).mono ?_
  rintro e w2 ⟨rfl, hX⟩
  have b0 := b0.dn hX
  have b1 := b1.dn hX
  have b2 := b2.dn hX
  have HJ := HJ.ob hX
  have hB := hB.th hX
  have hz_ := hX.size
  clear hX
  have z2 := Hd.mk hz_; clear hz_
  obtain ⟨at_, hat⟩ : ∃ z, z = placeS j s := ⟨_, rfl⟩
  rw [← hat]
  have HAT := Hd.mk hat; clear hat
  have HA1 := Hd.mk (show ((o.kind == 1) && ([] : List ByteArray).isEmpty) = false by rw [← HKK.out]; rfl)
  by_cases hat0 : at_ < 0
  ·obtain ⟨v00, v01, v02, v03, v04, v0z⟩ := blk5 b0.out
   obtain ⟨v10, v11, v12, v13, v14, v15, v16, v1z⟩ := blk7 b1.out
   obtain ⟨v20, v21, v22, v23, v24, v2z⟩ := blk5 b2.out
   go_wp2_with fail
   refine bodyPost_retW (v := .tuple #[.agg #[.int .i64 j.kind, .int .i64 j.n, .string j.s, .slice A1 j.list.length c1, .slice A2 j.names.length c2], .bool false]) (by simp [results, Try.results122, go_sem, v00, v01, v02, v03, v04, v0z, v10, v11, v12, v13, v14, v15, v16, v1z, v20, v21, v22, v23, v24, v2z]) rfl ?_
   intro W hW
   clear v00 v01 v02 v03 v04 v0z v10 v11 v12 v13 v14 v15 v16 v1z v20 v21 v22 v23 v24 v2z
   have eF : Fr w2 W (fun k => w.heap.size ≤ k) := by rw [hW]; (repeat (first | with_reducible refine Fr.setCell ?_ _ (fun _ => by simp <;> omega) _ | with_reducible refine Fr.alloc ?_ _ | with_reducible refine Fr.drew ?_)); exact Fr.refl _ _
   exact pat_none (pat_no HA1.out (by rw [← HAT.out]; exact hat0)) rfl ((Fr.of_below hB.out S).then_ eF (fun k h hl => by (try simp only at h); omega))
  ·obtain ⟨q, hq⟩ := Int.eq_ofNat_of_zero_le (Int.not_lt.1 hat0)
   subst hq
   have hql := place_lt HOWN.out s HAT.out.symm
   clear hat0
   have hq0 : (0 : Int) ≤ (q : Int) := by omega
   have hqn : ¬ ((q : Int) < 0) := by omega
   have hqi : (q : Int) < (j.list.length : Int) := by omega
   obtain ⟨v3, v4, T3, T4, hcj, hsj2, hr3, hr4, hs3, hs4, hs34⟩ := tJ_O.1 HJ0.out
   simp only [List.cons.injEq, and_true, true_and] at hcj
   obtain ⟨rfl, rfl⟩ := hcj
   have HL := Hd.mk hr3; have HN4 := Hd.mk hr4; have HT3 := Hd.mk hs3; have HT4 := Hd.mk hs4; have H34 := Hd.mk hs34
   clear hr3 hr4 hs3 hs4 hs34
   obtain ⟨gl, cl, he, hgl, _⟩ := R_form HL.out (by omega)
   injection he with e1 e2 e3
   subst e1; subst e3; clear e2
   have HA2 := Hd.mk (show ((o.kind == 2) && ([] : List ByteArray).isEmpty) = false by rw [← HKK.out]; rfl)
   have HPV := Hd.mk (pat_in HA1.out HA2.out HAT.out.symm hql)
   obtain ⟨Si, Ae, Be, ae, be, hH, hOe, hSg, hgw, ⟨x0, x1, x2, x3, x4⟩, xz, hlc, hc63⟩ := R_elem5 HL.out hql
   have HSI := Hd.mk (H_in hH)
   have hH := Hd.mk (H_belowZ hH hB.out); have hOe := Hd.mk hOe
   clear hH
   obtain ⟨v00, v01, v02, v03, v04, v0z⟩ := blk5 b0.out
   obtain ⟨v10, v11, v12, v13, v14, v15, v16, v1z⟩ := blk7 b1.out
   obtain ⟨v20, v21, v22, v23, v24, v2z⟩ := blk5 b2.out
   go_wp2_with fail
   clear v00 v01 v02 v03 v04 v0z v10 v11 v12 v13 v14 v15 v16 v1z v20 v21 v22 v23 v24 v2z
   have y0 := cell_below hB.out x0; have ry0 := cell_regrown y0
   have y1 := cell_below hB.out x1; have ry1 := cell_regrown y1
   have y2 := cell_below hB.out x2; have ry2 := cell_regrown y2
   have y3 := cell_below hB.out x3; have ry3 := cell_regrown y3
   have y4 := cell_below hB.out x4; have ry4 := cell_regrown y4
   obtain ⟨v00, v01, v02, v03, v04, v0z⟩ := blk5 b0.out
   obtain ⟨v10, v11, v12, v13, v14, v15, v16, v1z⟩ := blk7 b1.out
   obtain ⟨v20, v21, v22, v23, v24, v2z⟩ := blk5 b2.out
   obtain ⟨rv00, rv01, rv02, rv03, rv04, rv10, rv11⟩ := reg7 v00 v01 v02 v03 v04 v10 v11
   obtain ⟨rv12, rv13, rv14, rv15, rv16⟩ := reg5 v12 v13 v14 v15 v16
   obtain ⟨rv20, rv21, rv22, rv23, rv24⟩ := reg5 v20 v21 v22 v23 v24
   refine region_mixT (.q 0 (.p 1 (.q 2 (.p 3 (.q 4 (.q 5 (.p 6 (.q 7 (.b 8 .fin))))))))) [9, 10] (by kernel_rfl) (by kernel_rfl) (fun _ _ _ _ _ h => h) ?_
   refine genT ?_
   intro W3 hW
   have hS := Hd.mk (show Below w2.heap.size w2 W3 by rw [hW]; exact below_drew (Below.refl _ _))
   have hz_ : w2.heap.size ≤ W3.heap.size := by rw [hW]; simp
   have hE : Below w2.heap.size w2 W3 := by rw [hW]; (repeat (first | with_reducible refine below_alloc ?_ _ | with_reducible refine below_drew ?_)); exact Below.refl _ _
   have hB := hB.th hE
   have b0 := b0.dn hE
   have b1 := b1.dn hE
   have b2 := b2.dn hE
   have HJ := HJ.ob hE
   clear hW hE
   have z3 := Hd.mk hz_; clear hz_
   iterate 8 ((first | refine mixT_q rfl ?_ | refine mixT_p rfl ?_); go_big_quiet_want; go_big_quiet_op; go_big_quiet_on; refine wpQuiet_nil ?_)
   refine mixT_b rfl ?_ (by rfl)
   go_wp2_with fail
   apply calls_gen; intro W4 hW
   have hz_ : W3.heap.size ≤ W4.heap.size := by rw [hW]; simp
   have hE : Below W3.heap.size W3 W4 := by rw [hW]; (repeat (first | with_reducible refine below_alloc ?_ _ | with_reducible refine below_drew ?_)); exact Below.refl _ _
   have hB := hB.th hE
   replace hS := Hd.mk (below_then hS.out hE)
   have b0 := b0.dn hE
   have b1 := b1.dn hE
   have b2 := b2.dn hE
   have HJ := HJ.ob hE
   clear hW hE
   have z4 := Hd.mk hz_; clear hz_
   refine (same_all (m + 1) j.list[q] o.value _ _ _ (Ty.K_below _ hB.out (Ty.O_K _ hOe.out)) (Ty.K_below _ hB.out HKJ.out)).mono ?_
   rintro e w5 ⟨rfl, hX⟩
   have b0 := b0.dn hX
   have b1 := b1.dn hX
   have b2 := b2.dn hX
   have HJ := HJ.ob hX
   have hB := hB.th hX
   replace hS := Hd.mk (below_then hS.out hX)
   have hz_ := hX.size
   clear hX
   have z5 := Hd.mk hz_; clear hz_
   go_wp2_with fail
   refine ⟨cls_below hS.out, ?_⟩
   refine mixT_fin ?_
   clear hS
   clear rv00 rv01 rv02 rv03 rv04 rv10 rv11 rv12 rv13 rv14 rv15 rv16 rv20 rv21 rv22 rv23 rv24
   clear v00 v01 v02 v03 v04 v0z v10 v11 v12 v13 v14 v15 v16 v1z v20 v21 v22 v23 v24 v2z
   obtain ⟨v00, v01, v02, v03, v04, v0z⟩ := blk5 b0.out
   obtain ⟨v10, v11, v12, v13, v14, v15, v16, v1z⟩ := blk7 b1.out
   obtain ⟨v20, v21, v22, v23, v24, v2z⟩ := blk5 b2.out
   refine tail_b rfl ?_ (by rfl)
   go_wp2_with fail
   refine mixQ_n ?_
   refine tail_b rfl ?_ (by rfl)
   go_wp2_with fail
   refine mixQ_n ?_
   refine tail_nil ?_
   clear y0 y1 y2 y3 y4 ry0 ry1 ry2 ry3 ry4
   cases heq : eqv j.list[q] o.value
   ·go_wp2_with fail
    refine bodyPost_retW (v := .tuple #[.agg #[.int .i64 j.kind, .int .i64 j.n, .string j.s, .slice (some ⟨gl, 0, none⟩) j.list.length c1, .slice A2 j.names.length c2], .bool false]) (by simp [results, Try.results122, go_sem, v00, v01, v02, v03, v04, v0z, v10, v11, v12, v13, v14, v15, v16, v1z, v20, v21, v22, v23, v24, v2z]) rfl ?_
    intro W hW
    clear v00 v01 v02 v03 v04 v0z v10 v11 v12 v13 v14 v15 v16 v1z v20 v21 v22 v23 v24 v2z
    have z0_ := z0.out; have z1_ := z1.out; have z2_ := z2.out; have z3_ := z3.out; have z4_ := z4.out; have z5_ := z5.out
    have eF : Fr w5 W (fun k => w.heap.size ≤ k) := by rw [hW]; (repeat (first | with_reducible refine Fr.setCell ?_ _ (fun _ => by simp <;> omega) _ | with_reducible refine Fr.alloc ?_ _ | with_reducible refine Fr.drew ?_)); exact Fr.refl _ _
    exact pat_none (by rw [HPV.out]; show Option.map _ (wholeV o j.list[q]) = _; unfold wholeV; rw [← HKK.out, heq]; rfl) rfl ((Fr.of_below hB.out S).then_ eF (fun k h hl => by (try simp only at h); omega))
   ·go_wp2_with fail
    refine bodyPost_retW (v := .tuple #[.agg #[.int .i64 j.kind, .int .i64 j.n, .string j.s, .slice (some ⟨gl, 0, none⟩) j.list.length c1, .slice A2 j.names.length c2], .bool true]) (by simp [results, Try.results122, go_sem, v00, v01, v02, v03, v04, v0z, v10, v11, v12, v13, v14, v15, v16, v1z, v20, v21, v22, v23, v24, v2z]) rfl ?_
    intro W hW
    clear v00 v01 v02 v03 v04 v0z v10 v11 v12 v13 v14 v15 v16 v1z v20 v21 v22 v23 v24 v2z
    have z0_ := z0.out; have z1_ := z1.out; have z2_ := z2.out; have z3_ := z3.out; have z4_ := z4.out; have z5_ := z5.out
    have eF : Fr w5 W (fun k => w.heap.size ≤ k) := by rw [hW]; (repeat (first | with_reducible refine Fr.setCell ?_ _ (fun _ => by simp <;> omega) _ | with_reducible refine Fr.alloc ?_ _ | with_reducible refine Fr.drew ?_)); exact Fr.refl _ _
    have eG : Fr w5 W (fun k => k = w.heap.size + 2) := by rw [hW]; (repeat (first | with_reducible refine Fr.setCell ?_ _ (fun _ => by simp <;> omega) _ | with_reducible refine Fr.alloc ?_ _ | with_reducible refine Fr.drew ?_)); exact Fr.refl _ _
    exact pat_some (z := j) (cs := [Value.int IntKind.i64 j.kind, .int .i64 j.n, .string j.s, .slice (some ⟨gl, 0, none⟩) j.list.length c1, .slice A2 j.names.length c2]) (by rw [HPV.out]; show Option.map _ (wholeV o j.list[q]) = _; unfold wholeV; rw [← HKK.out, heq]; show some (setV j q j.list[q]) = some j; rw [setV_self]) rfl (Ty.O_mono _ (fun k h => .inr h.1) (Ty.O_fr HJ.out eG (fun k hk hl h => by (try simp only at h); have q_ := hk.2; omega))) ((Fr.of_below hB.out S).then_ eF (fun k h hl => by (try simp only at h); omega))
end Go.Proofs.Ytlkjpnlpankhpaa.X
namespace Go.Proofs.Ytlkjpnlpankhpaa.X
open Go.RowKit Go.Sort
set_option linter.unusedVariables false
set_option linter.unusedSimpArgs false
open Ty
def PatS (B : Nat) (o : JOp) (way : List ByteArray) : Prop := ∀ (S : Nat → Prop) (j : J) (cs co : List Value) (A : Option Addr) (c : Nat) (w0 w : World), (tJ (B + way.length + 1)).O w S j cs → Below w0.heap.size w0 w → (∀ k, S k → w0.heap.size ≤ k) → str.C w0 A way → way.length ≤ c → (tOp (B + 1)).K w0 o co → (∃ d, sizeN (d + 1) j ≤ 400) →
 Calls Try.prog 110 #[.agg cs.toArray, .slice A way.length c, .agg co.toArray] w fun e w' => PatPost (B + way.length + 1) w S (patV o way j) e w'
set_option maxRecDepth 100000 in
theorem patS_nil {B : Nat} {o : JOp} (hb : bulkJ (B + 1) o.value ≤ 4194304) (hk : 1 ≤ o.kind ∧ o.kind ≤ 4) : PatS B o [] := by
 intro S j cs co A c w0 w hj h0 hS hw hcap ho hz
 replace hj : (tJ (B + 1)).O w S j cs := hj
 show Calls Try.prog 110 #[.agg cs.toArray, .slice A 0 c, .agg co.toArray] w fun e w' => PatPost (B + 1) w S (wholeV o j) e w'
 obtain ⟨v3, v4, _, _, rfl, hsj, hr3, hr4, _⟩ := tJ_O.1 hj
 obtain ⟨A1, c1, rfl, hc1, _⟩ := R_C hr3
 obtain ⟨A2, c2, rfl, hc2, _⟩ := R_C hr4
 clear hr3 hr4
 have HJ := Hd.mk (Ty.O_bound _ hj); clear hj
 obtain ⟨AW, cW, _, rfl, ⟨hcw, hrw⟩, hjo⟩ := tOp_K.1 ho
 have HKJ := Hd.mk hjo
 obtain ⟨A3, c3, A4, c4, rfl, hso, ⟨hc3, hr3⟩, hc4, hr4⟩ := tJ_K.1 hjo
 have HKO := Hd.mk ho
 clear hr3 hr4 ho hjo hrw hcw
 have H0 := Hd.mk h0; have HS0 := Hd.mk hS; have HW := Hd.mk hw; have HZ := Hd.mk hz
 clear h0 hS hw hz
 have hB := Hd.mk (Below.refl w.heap.size w)
 go_enter Try.func110, Try.ntmps110
 go_wp2_with fail
 apply calls_gen; intro W1 hW
 have hz_ : w.heap.size + 3 ≤ W1.heap.size := by rw [hW]; simp
 have hE : Below w.heap.size w W1 := by rw [hW]; (repeat (first | with_reducible refine below_alloc ?_ _ | with_reducible refine below_drew ?_)); exact Below.refl _ _
 have hB := hB.th hE
 have b0 := Hd.mk (show Blk W1 (w.heap.size) #[.int .i64 j.kind, .int .i64 j.n, .string j.s, .slice A1 j.list.length c1, .slice A2 j.names.length c2] 27 by rw [hW]; first | exact (((Blk.new _ _ _).alloc _).alloc _) | (simpa using (((Blk.new _ _ _).alloc _).alloc _)))
 have b1 := Hd.mk (show Blk W1 (w.heap.size + 1) #[.int .i64 o.kind, .slice AW o.way.length cW, .int .i64 o.value.kind, .int .i64 o.value.n, .string o.value.s, .slice A3 o.value.list.length c3, .slice A4 o.value.names.length c4] 38 by rw [hW]; first | exact ((Blk.new1 _ _ _ _).alloc _) | (simpa using ((Blk.new1 _ _ _ _).alloc _)))
 have b2 := Hd.mk (show Blk W1 (w.heap.size + 1 + 1) #[.int .i64 0, .int .i64 0, .string ⟨#[]⟩, .slice none 0 0, .slice none 0 0] 27 by rw [hW]; first | exact (Blk.new2 _ _ _ _ _) | (simpa using (Blk.new2 _ _ _ _ _)))
 have HJ := HJ.ob hE
 clear hW hE
 have z1 := Hd.mk hz_; clear hz_
 refine (spec_l4Whole j _ o _ _ HJ.out (Ty.K_below _ (below_then H0.out hB.out) HKO.out) hb hk).mono ?_
 rintro e w9 hP
 obtain ⟨ra, rb, rs, RA, RB, rn, rc, rn2, rd, ok, rfl, hX, hR⟩ := pat_open hP
 have HR := Hd.mk hR; clear hR hP
 have b0 := Hd.mk (b0.out.fr hX (fun h => by have q_ := h.2; omega))
 have b1 := Hd.mk (b1.out.fr hX (fun h => by have q_ := h.2; omega))
 have b2 := Hd.mk (b2.out.fr hX (fun h => by have q_ := h.2; omega))
 have hB0 := Hd.mk (show w.heap.size + 3 ≤ W1.heap.size by have z1_ := z1.out; omega)
 have hF0 := Hd.mk ((Fr.of_below hB.out S).then_ hX (fun k h _ => h.1))
 have hsz := Hd.mk hX.size; clear hX
 obtain ⟨v00, v01, v02, v03, v04, v0z⟩ := blk5 b0.out
 obtain ⟨v10, v11, v12, v13, v14, v15, v16, v1z⟩ := blk7 b1.out
 obtain ⟨v20, v21, v22, v23, v24, v2z⟩ := blk5 b2.out
 go_wp2_with fail
 refine bodyPost_retW (v := .tuple #[.agg #[.int .i64 ra, .int .i64 rb, .string rs, .slice RA rn rc, .slice RB rn2 rd], .bool ok]) (by simp [results, Try.results110, go_sem, v00, v01, v02, v03, v04, v0z, v10, v11, v12, v13, v14, v15, v16, v1z, v20, v21, v22, v23, v24, v2z]) rfl ?_
 intro W hW
 clear v00 v01 v02 v03 v04 v0z v10 v11 v12 v13 v14 v15 v16 v1z v20 v21 v22 v23 v24 v2z
 have hB0_ := hB0.out; have hsz_ := hsz.out
 have eF : Fr w9 W (fun k => k = w.heap.size + 2) := by rw [hW]; (repeat (first | with_reducible refine Fr.setCell ?_ _ (fun _ => by simp <;> omega) _ | with_reducible refine Fr.alloc ?_ _ | with_reducible refine Fr.drew ?_)); exact Fr.refl _ _
 exact pat_close HR.out eF (fun k hk hl h => by (try simp only at h); rcases hk with q_ | q_; omega; (have q2_ := q_.2; omega)) (fun k hk => by rcases hk with q_ | q_; exact .inl (by omega); exact .inr q_.1) (hF0.out.then_ eF (fun k h hl => by (try simp only at h); omega))
set_option maxHeartbeats 4000000 in
set_option maxRecDepth 100000 in
theorem patS_cons {B : Nat} {o : JOp} {s : ByteArray} {r : List ByteArray} (hb : bulkJ (B + 1) o.value ≤ 4194304) (hk : 1 ≤ o.kind ∧ o.kind ≤ 4) (hss : s.size ≤ 1000) (ih : PatS B o r) : PatS B o (s :: r) := by
 intro S j cs co A c w0 w hj h0 hS hw hcap ho hz
 replace hj : (tJ (B + r.length + 1 + 1)).O w S j cs := hj
 show Calls Try.prog 110 #[.agg cs.toArray, .slice A (r.length + 1) c, .agg co.toArray] w fun e w' => PatPost (B + r.length + 1 + 1) w S (patV o (s :: r) j) e w'
 obtain ⟨n, hn⟩ : ∃ n, n = r.length + 1 := ⟨_, rfl⟩
 rw [← hn]
 have hcap2 : n ≤ c := by rw [hn]; exact hcap
 obtain ⟨ad, hA, hc0, hs0⟩ := C_str_at hw (Below.refl _ _) 0 (by simp)
 subst hA
 have hc0b : w0.cell? ad = some (.string s) := by rw [← show ad.add 0 = ad by simp [Addr.add]]; exact hc0
 replace hc0 : w0.cell? (ad.add 0) = some (.string s) := hc0
 clear hs0 hcap
 obtain ⟨d, hzd⟩ := hz
 have HZD := Hd.mk hzd; clear hzd
 have hz : True := trivial
 obtain ⟨v3, v4, _, _, rfl, hsj, hr3, hr4, _⟩ := tJ_O.1 hj
 obtain ⟨A1, c1, rfl, hc1, _⟩ := R_C hr3
 obtain ⟨A2, c2, rfl, hc2, _⟩ := R_C hr4
 clear hr3 hr4
 have HJ := Hd.mk (Ty.O_bound _ hj); clear hj
 obtain ⟨AW, cW, _, rfl, ⟨hcw, hrw⟩, hjo⟩ := tOp_K.1 ho
 have HKJ := Hd.mk hjo
 obtain ⟨A3, c3, A4, c4, rfl, hso, ⟨hc3, hr3⟩, hc4, hr4⟩ := tJ_K.1 hjo
 have HKO := Hd.mk ho
 clear hr3 hr4 ho hjo hrw hcw
 have H0 := Hd.mk h0; have HS0 := Hd.mk hS; have HW := Hd.mk hw; have HZ := Hd.mk hz
 clear h0 hS hw hz
 have hB := Hd.mk (Below.refl w.heap.size w)
 have HBU := Hd.mk hb; clear hb
 have HOWN := Hd.mk (own_size HZD.out)
 have HLN := Hd.mk (list_len HZD.out)
 cases hr : r.isEmpty
 ·have hn0 : ¬ ((n : Int) = 0) := by omega
  have hn1 : ¬ ((n : Int) = 1) := by rcases r with _ | ⟨x, r⟩; (simp at hr); (simp only [List.length_cons] at hn; omega)
  have hne : n ≠ 1 := by omega
  have HN := Hd.mk hn; clear hn
  have HA1 := Hd.mk (show ((o.kind == 1) && r.isEmpty) = false by rw [hr]; simp)
  have HA2 := Hd.mk (show ((o.kind == 2) && r.isEmpty) = false by rw [hr]; simp)
  have HKK := Hd.mk hk; clear hr hk
  go_enter Try.func110, Try.ntmps110
  go_wp2_with fail
  apply wp_gen; intro W1 hW
  have hz_ : w.heap.size + 3 ≤ W1.heap.size := by rw [hW]; simp
  have hE : Below w.heap.size w W1 := by rw [hW]; (repeat (first | with_reducible refine below_alloc ?_ _ | with_reducible refine below_drew ?_)); exact Below.refl _ _
  have hB := hB.th hE
  have b0 := Hd.mk (show Blk W1 (w.heap.size) #[.int .i64 j.kind, .int .i64 j.n, .string j.s, .slice A1 j.list.length c1, .slice A2 j.names.length c2] 27 by rw [hW]; first | exact (((Blk.new _ _ _).alloc _).alloc _) | (simpa using (((Blk.new _ _ _).alloc _).alloc _)))
  have b1 := Hd.mk (show Blk W1 (w.heap.size + 1) #[.int .i64 o.kind, .slice AW o.way.length cW, .int .i64 o.value.kind, .int .i64 o.value.n, .string o.value.s, .slice A3 o.value.list.length c3, .slice A4 o.value.names.length c4] 38 by rw [hW]; first | exact ((Blk.new1 _ _ _ _).alloc _) | (simpa using ((Blk.new1 _ _ _ _).alloc _)))
  have b2 := Hd.mk (show Blk W1 (w.heap.size + 1 + 1) #[.int .i64 0, .int .i64 0, .string ⟨#[]⟩, .slice none 0 0, .slice none 0 0] 27 by rw [hW]; first | exact (Blk.new2 _ _ _ _ _) | (simpa using (Blk.new2 _ _ _ _ _)))
  have HJ := HJ.ob hE
  clear hW hE
  have z1 := Hd.mk hz_; clear hz_
  have H0c := Hd.mk (below_then H0.out hB.out)
  have H0r := Hd.mk H0c.out
  have z0 := Hd.mk (show w.heap.size + 3 ≤ W1.heap.size by have z1_ := z1.out; omega)
  have xw := cell_below H0c.out hc0b
  have rxw := cell_regrown xw
  have xv := cell_below H0c.out hc0
  have rxv := cell_regrown xv
  obtain ⟨v00, v01, v02, v03, v04, v0z⟩ := blk5 b0.out
  obtain ⟨v10, v11, v12, v13, v14, v15, v16, v1z⟩ := blk7 b1.out
  obtain ⟨v20, v21, v22, v23, v24, v2z⟩ := blk5 b2.out
  obtain ⟨rv00, rv01, rv02, rv03, rv04, rv10, rv11⟩ := reg7 v00 v01 v02 v03 v04 v10 v11
  obtain ⟨rv12, rv13, rv14, rv15, rv16⟩ := reg5 v12 v13 v14 v15 v16
  obtain ⟨rv20, rv21, rv22, rv23, rv24⟩ := reg5 v20 v21 v22 v23 v24
  refine region_mixT (.q 0 (.p 1 (.q 2 (.q 3 (.b 4 .fin))))) [5] (by kernel_rfl) (by kernel_rfl) (fun _ _ _ _ _ h => h) ?_
  refine genT ?_
  intro W2 hW
  have hS := Hd.mk (show Below W1.heap.size W1 W2 by rw [hW]; exact below_drew (Below.refl _ _))
  have hz_ : W1.heap.size ≤ W2.heap.size := by rw [hW]; simp
  have hE : Below W1.heap.size W1 W2 := by rw [hW]; (repeat (first | with_reducible refine below_alloc ?_ _ | with_reducible refine below_drew ?_)); exact Below.refl _ _
  have hB := hB.th hE
  have b0 := b0.dn hE
  have b1 := b1.dn hE
  have b2 := b2.dn hE
  have HJ := HJ.ob hE
  clear hW hE
  have z2 := Hd.mk hz_; clear hz_
  iterate 4 ((first | refine mixT_q rfl ?_ | refine mixT_p rfl ?_); go_big_quiet_want; go_big_quiet_op; go_big_quiet_on; refine wpQuiet_nil ?_)
  refine mixT_b rfl ?_ (by rfl)
  go_wp2_with fail
  apply calls_gen; intro W3 hW
  have hz_ : W2.heap.size ≤ W3.heap.size := by rw [hW]; simp
  have hE : Below W2.heap.size W2 W3 := by rw [hW]; (repeat (first | with_reducible refine below_alloc ?_ _ | with_reducible refine below_drew ?_)); exact Below.refl _ _
  have hB := hB.th hE
  replace hS := Hd.mk (below_then hS.out hE)
  have b0 := b0.dn hE
  have b1 := b1.dn hE
  have b2 := b2.dn hE
  have HJ := HJ.ob hE
  clear hW hE
  have z3 := Hd.mk hz_; clear hz_
  refine (spec_l3At j _ s _ (Ty.K_below _ (Below.refl _ _) (Ty.O_K _ HJ.out)) (by omega)).mono ?_
  rintro e w4 ⟨rfl, hX⟩
  have b0 := b0.dn hX
  have b1 := b1.dn hX
  have b2 := b2.dn hX
  have HJ := HJ.ob hX
  have hB := hB.th hX
  replace hS := Hd.mk (below_then hS.out hX)
  have hz_ := hX.size
  clear hX
  have z4 := Hd.mk hz_; clear hz_
  obtain ⟨at_, hat⟩ : ∃ z, z = placeS j s := ⟨_, rfl⟩
  rw [← hat]
  have HAT := Hd.mk hat; clear hat
  go_wp2_with fail
  refine ⟨cls_below hS.out, ?_⟩
  refine mixT_fin ?_
  clear hS
  clear rv00 rv01 rv02 rv03 rv04 rv10 rv11 rv12 rv13 rv14 rv15 rv16 rv20 rv21 rv22 rv23 rv24
  clear v00 v01 v02 v03 v04 v0z v10 v11 v12 v13 v14 v15 v16 v1z v20 v21 v22 v23 v24 v2z
  obtain ⟨v00, v01, v02, v03, v04, v0z⟩ := blk5 b0.out
  obtain ⟨v10, v11, v12, v13, v14, v15, v16, v1z⟩ := blk7 b1.out
  obtain ⟨v20, v21, v22, v23, v24, v2z⟩ := blk5 b2.out
  refine tail_b rfl ?_ (by rfl)
  go_wp2_with fail
  refine mixQ_n ?_
  refine tail_nil ?_
  clear xw rxw xv rxv
  clear v00 v01 v02 v03 v04 v0z v10 v11 v12 v13 v14 v15 v16 v1z v20 v21 v22 v23 v24 v2z
  by_cases hat0 : at_ < 0
  ·obtain ⟨v00, v01, v02, v03, v04, v0z⟩ := blk5 b0.out
   obtain ⟨v10, v11, v12, v13, v14, v15, v16, v1z⟩ := blk7 b1.out
   obtain ⟨v20, v21, v22, v23, v24, v2z⟩ := blk5 b2.out
   go_wp2_with fail
   refine bodyPost_retW (v := .tuple #[.agg #[.int .i64 j.kind, .int .i64 j.n, .string j.s, .slice A1 j.list.length c1, .slice A2 j.names.length c2], .bool false]) (by simp [results, Try.results110, go_sem, v00, v01, v02, v03, v04, v0z, v10, v11, v12, v13, v14, v15, v16, v1z, v20, v21, v22, v23, v24, v2z]) rfl ?_
   intro W hW
   clear v00 v01 v02 v03 v04 v0z v10 v11 v12 v13 v14 v15 v16 v1z v20 v21 v22 v23 v24 v2z
   have eF : Fr w4 W (fun k => w.heap.size ≤ k) := by rw [hW]; (repeat (first | with_reducible refine Fr.setCell ?_ _ (fun _ => by simp <;> omega) _ | with_reducible refine Fr.alloc ?_ _ | with_reducible refine Fr.drew ?_)); exact Fr.refl _ _
   exact pat_none (pat_no HA1.out (by rw [← HAT.out]; exact hat0)) rfl ((Fr.of_below hB.out S).then_ eF (fun k h hl => by (try simp only at h); omega))
  ·obtain ⟨q, hq⟩ := Int.eq_ofNat_of_zero_le (Int.not_lt.1 hat0)
   subst hq
   have hql := place_lt HOWN.out s HAT.out.symm
   clear hat0
   have hq0 : (0 : Int) ≤ (q : Int) := by omega
   have hqn : ¬ ((q : Int) < 0) := by omega
   have HPV := Hd.mk (pat_in HA1.out HA2.out HAT.out.symm hql)
   obtain ⟨v3, v4, T3, T4, hcj, hsj2, hr3, hr4, hs3, hs4, hs34⟩ := tJ_O.1 HJ.out
   simp only [List.cons.injEq, and_true, true_and] at hcj
   obtain ⟨rfl, rfl⟩ := hcj
   have HL := Hd.mk hr3; have HN4 := Hd.mk hr4; have HT3 := Hd.mk hs3; have HT4 := Hd.mk hs4; have H34 := Hd.mk hs34
   clear hr3 hr4 hs3 hs4 hs34 HJ
   obtain ⟨gl, cl, he, hgl, _⟩ := R_form HL.out (by omega)
   injection he with e1 e2 e3
   subst e1; subst e3; clear e2
   obtain ⟨Si, Ae, Be, ae, be, hH, hOe, hSg, hgw, ⟨x0, x1, x2, x3, x4⟩, xz, hlc, hc63⟩ := R_elem5 HL.out hql
   obtain ⟨_, _, _, _, _, _, _, hgI, _, _⟩ := H_cells hH (show 0 < 5 by decide)
   have HSI := Hd.mk (H_in hH)
   have hH := Hd.mk hH; have hOe := Hd.mk hOe
   have hqi : (q : Int) < (j.list.length : Int) := by omega
   obtain ⟨v00, v01, v02, v03, v04, v0z⟩ := blk5 b0.out
   obtain ⟨v10, v11, v12, v13, v14, v15, v16, v1z⟩ := blk7 b1.out
   obtain ⟨v20, v21, v22, v23, v24, v2z⟩ := blk5 b2.out
   go_wp2_with fail
   clear v00 v01 v02 v03 v04 v0z v10 v11 v12 v13 v14 v15 v16 v1z v20 v21 v22 v23 v24 v2z
   have H0c := Hd.mk (below_then H0.out hB.out)
   have H0r := Hd.mk H0c.out
   have hB := Hd.mk (Fr.of_below hB.out S)
   have sb0 := Hd.mk b0.out
   have sb1 := Hd.mk b1.out
   have sb2 := Hd.mk b2.out
   refine region_mixC (fun x_ => Fr w4 x_ (fun k => Si k ∧ k < w.heap.size)) (.q 7 (.p 0 (.q 1 (.p 2 (.p 3 (.q 4 (.p 5 (.p 6 (.br 8 12 (.p 9 (.p 10 (.p 11 (.b 12 .fin)))) (.b 8 (.p 9 (.p 10 (.p 11 .fin))))))))))))) [13, 14] (by kernel_rfl) (Fr.drew (Fr.refl _ _)) (by kernel_rfl) (fun _ _ _ _ _ h => h) ?_
   refine genT ?_
   intro W5 hW
   have hS := Hd.mk (show Fr w4 W5 (fun k => Si k ∧ k < w.heap.size) by rw [hW]; exact Fr.drew (Fr.refl _ _))
   have hz_ : w4.heap.size ≤ W5.heap.size := by rw [hW]; simp
   have hE : Below w4.heap.size w4 W5 := by rw [hW]; (repeat (first | with_reducible refine below_alloc ?_ _ | with_reducible refine below_drew ?_)); exact Below.refl _ _
   have hB := Hd.mk (hB.out.trans (Fr.of_below hE _))
   have H0c := Hd.mk (below_then H0c.out hE)
   have b0 := b0.dn hE
   have b1 := b1.dn hE
   have b2 := b2.dn hE
   have HN4 := Hd.mk (R_below HN4.out hE)
   have hH := Hd.mk (H_belowZ hH.out hE)
   have hOe := hOe.ob hE
   clear hW hE
   have z5 := Hd.mk hz_; clear hz_
   refine mixT_see rfl (by rfl) (.agg #[.int .i64 o.kind, .slice AW o.way.length cW, .int .i64 o.value.kind, .int .i64 o.value.n, .string o.value.s, .slice A3 o.value.list.length c3, .slice A4 o.value.names.length c4]) (fun w_ hw_ => by have f0_ := (sb1.out.fr hw_ (fun h => by have q_ := h.2; omega)).cell 0 rfl; have f1_ := (sb1.out.fr hw_ (fun h => by have q_ := h.2; omega)).cell 1 rfl; have f2_ := (sb1.out.fr hw_ (fun h => by have q_ := h.2; omega)).cell 2 rfl; have f3_ := (sb1.out.fr hw_ (fun h => by have q_ := h.2; omega)).cell 3 rfl; have f4_ := (sb1.out.fr hw_ (fun h => by have q_ := h.2; omega)).cell 4 rfl; have f5_ := (sb1.out.fr hw_ (fun h => by have q_ := h.2; omega)).cell 5 rfl; have f6_ := (sb1.out.fr hw_ (fun h => by have q_ := h.2; omega)).cell 6 rfl; simp [execOp, go_sem, f0_, f1_, f2_, f3_, f4_, f5_, f6_]) hS.out ?_
   obtain ⟨v00, v01, v02, v03, v04, v0z⟩ := blk5 b0.out
   obtain ⟨v10, v11, v12, v13, v14, v15, v16, v1z⟩ := blk7 b1.out
   obtain ⟨v20, v21, v22, v23, v24, v2z⟩ := blk5 b2.out
   go_wp2_with fail
   refine mixQ_n ?_
   clear v00 v01 v02 v03 v04 v0z v10 v11 v12 v13 v14 v15 v16 v1z v20 v21 v22 v23 v24 v2z
   refine mixT_p rfl ?_
   go_big_quiet_want; go_big_quiet_op; go_big_quiet_on; refine wpQuiet_nil ?_
   refine mixT_see rfl (by rfl) (Value.slice (some ⟨gl, 0, none⟩) j.list.length c1) (fun w_ hw_ => by have f0_ := (sb0.out.fr hw_ (fun h => by have q_ := h.2; omega)).cell 3 rfl; simp [execOp, go_sem, f0_]) hS.out ?_
   obtain ⟨v00, v01, v02, v03, v04, v0z⟩ := blk5 b0.out
   obtain ⟨v10, v11, v12, v13, v14, v15, v16, v1z⟩ := blk7 b1.out
   obtain ⟨v20, v21, v22, v23, v24, v2z⟩ := blk5 b2.out
   go_wp2_with fail
   refine mixQ_n ?_
   clear v00 v01 v02 v03 v04 v0z v10 v11 v12 v13 v14 v15 v16 v1z v20 v21 v22 v23 v24 v2z
   iterate 2 (refine mixT_p rfl ?_; go_big_quiet_want; go_big_quiet_op; go_big_quiet_on; refine wpQuiet_nil ?_)
   refine mixT_see rfl (by rfl) (.agg #[.int .i64 j.list[q].kind, .int .i64 j.list[q].n, .string j.list[q].s, .slice Ae j.list[q].list.length ae, .slice Be j.list[q].names.length be]) (fun w_ hw_ => by have f0_ := (World.cell?_of_block (hw_.block gl hgw (fun h => absurd h.1 hgI))).trans x0; have f1_ := (World.cell?_of_block (hw_.block gl hgw (fun h => absurd h.1 hgI))).trans x1; have f2_ := (World.cell?_of_block (hw_.block gl hgw (fun h => absurd h.1 hgI))).trans x2; have f3_ := (World.cell?_of_block (hw_.block gl hgw (fun h => absurd h.1 hgI))).trans x3; have f4_ := (World.cell?_of_block (hw_.block gl hgw (fun h => absurd h.1 hgI))).trans x4; simp [execOp, go_sem, f0_, f1_, f2_, f3_, f4_]) hS.out ?_
   have y0_ := (World.cell?_of_block (hS.out.block gl hgw (fun h => absurd h.1 hgI))).trans x0; have y1_ := (World.cell?_of_block (hS.out.block gl hgw (fun h => absurd h.1 hgI))).trans x1; have y2_ := (World.cell?_of_block (hS.out.block gl hgw (fun h => absurd h.1 hgI))).trans x2; have y3_ := (World.cell?_of_block (hS.out.block gl hgw (fun h => absurd h.1 hgI))).trans x3; have y4_ := (World.cell?_of_block (hS.out.block gl hgw (fun h => absurd h.1 hgI))).trans x4
   obtain ⟨v00, v01, v02, v03, v04, v0z⟩ := blk5 b0.out
   obtain ⟨v10, v11, v12, v13, v14, v15, v16, v1z⟩ := blk7 b1.out
   obtain ⟨v20, v21, v22, v23, v24, v2z⟩ := blk5 b2.out
   go_wp2_with fail
   refine mixQ_n ?_
   clear y0_ y1_ y2_ y3_ y4_
   clear v00 v01 v02 v03 v04 v0z v10 v11 v12 v13 v14 v15 v16 v1z v20 v21 v22 v23 v24 v2z
   iterate 2 (refine mixT_p rfl ?_; go_big_quiet_want; go_big_quiet_op; go_big_quiet_on; refine wpQuiet_nil ?_)
   refine ⟨?_, ?_⟩
   ·refine stepM_of rfl ?_ (by rfl)
    go_wp2_with fail
    apply calls_gen; intro W6 hW
    have hz_ : W5.heap.size ≤ W6.heap.size := by rw [hW]; simp
    have hE : Below W5.heap.size W5 W6 := by rw [hW]; (repeat (first | with_reducible refine below_alloc ?_ _ | with_reducible refine below_drew ?_)); exact Below.refl _ _
    have hB := Hd.mk (hB.out.trans (Fr.of_below hE _))
    have H0c := Hd.mk (below_then H0c.out hE)
    replace hS := Hd.mk (hS.out.trans (Fr.of_below hE _))
    have b0 := b0.dn hE
    have b1 := b1.dn hE
    have b2 := b2.dn hE
    have HN4 := Hd.mk (R_below HN4.out hE)
    have hH := Hd.mk (H_belowZ hH.out hE)
    have hOe := hOe.ob hE
    clear hW hE
    have z6 := Hd.mk hz_; clear hz_
    have z0_ := z0.out; have z1_ := z1.out; have z2_ := z2.out; have z3_ := z3.out; have z4_ := z4.out; have z5_ := z5.out; have z6_ := z6.out
    rw [show n - 1 = r.length by have := HN.out; omega]
    obtain ⟨d2, _, hz2⟩ := sizeN_at HZD.out q hql
    refine (ih (fun k => Si k) j.list[q] _ _ _ _ w0 _ hOe.out H0c.out (fun k h => HS0.out k (HT3.out k (HSI.out k h)).1) (C_tail HW.out (.inr rfl)) (by have := HN.out; omega) HKO.out ⟨d2, hz2⟩).mono ?_
    rintro e w9 hP
    obtain ⟨ra, rb, rs, RA, RB, rn, rc, rn2, rd, ok, rfl, hX, hR⟩ := pat_open hP
    have HR := Hd.mk hR; clear hR hP
    have b0 := Hd.mk (b0.out.fr hX (fun h => by have q_ := (HT3.out _ (HSI.out _ h)).2; omega))
    have b1 := Hd.mk (b1.out.fr hX (fun h => by have q_ := (HT3.out _ (HSI.out _ h)).2; omega))
    have b2 := Hd.mk (b2.out.fr hX (fun h => by have q_ := (HT3.out _ (HSI.out _ h)).2; omega))
    have HR := Hd.mk (pat_T HR.out)
    have HN4 := Hd.mk (R_fr HN4.out hX (fun k hk hl h => H34.out k (HSI.out k h) hk))
    have hH := Hd.mk (H_fr hH.out hX (fun k _ h _ => h))
    clear H0c hOe
    replace hS := Hd.mk (hS.out.then_ hX (fun k h hl => ⟨h, (HT3.out k (HSI.out k h)).2⟩))
    have hB := Hd.mk (hB.out.then_ hX (fun k h hl => (HT3.out k (HSI.out k h)).1))
    have hz_ := hX.size
    clear hX
    have z7 := Hd.mk hz_; clear hz_
    go_wp2_with fail
    refine ⟨hS.out, ?_⟩
    iterate 3 (refine mixT_p rfl ?_; go_big_quiet_want; go_big_quiet_op; go_big_quiet_on; refine wpQuiet_nil ?_)
    refine mixT_b rfl ?_ (by rfl)
    go_wp2_with fail
    refine ⟨hS.out.alloc _, ?_⟩
    refine genT ?_; intro W7 hW
    have hz_ : w9.heap.size + 1 ≤ W7.heap.size := by rw [hW]; simp
    have hE : Below w9.heap.size w9 W7 := by rw [hW]; (repeat (first | with_reducible refine below_alloc ?_ _ | with_reducible refine below_drew ?_)); exact Below.refl _ _
    have hB := Hd.mk (hB.out.trans (Fr.of_below hE _))
    replace hS := Hd.mk (hS.out.trans (Fr.of_below hE _))
    have b0 := b0.dn hE
    have b1 := b1.dn hE
    have b2 := b2.dn hE
    have b3 := Hd.mk (show Blk W7 (w9.heap.size) #[.int .i64 0, .int .i64 0, .string ⟨#[]⟩, .slice none 0 0, .slice none 0 0] 27 by rw [hW]; first | exact (Blk.new _ _ _) | (simpa using (Blk.new _ _ _)))
    have HN4 := Hd.mk (R_below HN4.out hE)
    have hH := Hd.mk (H_belowZ hH.out hE)
    have HR := Hd.mk (patT_below HR.out hE)
    clear hW hE
    have z8 := Hd.mk hz_; clear hz_
    refine mixT_fin ?_
    clear hS
    obtain ⟨v00, v01, v02, v03, v04, v0z⟩ := blk5 b0.out
    obtain ⟨v10, v11, v12, v13, v14, v15, v16, v1z⟩ := blk7 b1.out
    obtain ⟨v20, v21, v22, v23, v24, v2z⟩ := blk5 b2.out
    obtain ⟨v30, v31, v32, v33, v34, v3z⟩ := blk5 b3.out
    refine tail_b rfl ?_ (by rfl)
    go_wp2_with fail
    refine mixQ_n ?_
    refine tail_b rfl ?_ (by rfl)
    go_wp2_with fail
    refine mixQ_n ?_
    refine tail_nil ?_
    refine exit_gen ?_; intro Wb hW
    clear v00 v01 v02 v03 v04 v0z v10 v11 v12 v13 v14 v15 v16 v1z v20 v21 v22 v23 v24 v2z v30 v31 v32 v33 v34 v3z
    have eF : Fr W7 Wb (fun k => k = w9.heap.size) := by rw [hW]; exact Fr.set5 _ _ _ _ _ _ _ _ _ _ _ _
    have z0_ := z0.out; have z1_ := z1.out; have z2_ := z2.out; have z3_ := z3.out; have z4_ := z4.out; have z5_ := z5.out; have z6_ := z6.out; have z7_ := z7.out; have z8_ := z8.out
    have b0 := Hd.mk (b0.out.fr eF (fun h => by (try simp only at h); omega))
    have b1 := Hd.mk (b1.out.fr eF (fun h => by (try simp only at h); omega))
    have b2 := Hd.mk (b2.out.fr eF (fun h => by (try simp only at h); omega))
    have b3 := Hd.mk (show Blk Wb (w9.heap.size) #[.int .i64 ra, .int .i64 rb, .string rs, .slice RA rn rc, .slice RB rn2 rd] 27 by rw [hW]; exact Blk.all b3.out [Value.int IntKind.i64 ra, .int .i64 rb, .string rs, .slice RA rn rc, .slice RB rn2 rd] rfl)
    have HN4 := Hd.mk (R_fr HN4.out eF (fun k hk hl h => by have q_ := (HT4.out k hk).2; (try simp only at h); omega))
    have hH := Hd.mk (H_fr hH.out eF (fun k hs h _ => by have q_ := (HT3.out k hs).2; (try simp only at h); omega))
    have HR := Hd.mk (patT_fr HR.out eF (fun k hk hl h => by (try simp only at h); have q2_ := hk.2; rcases hk.1 with q_ | q_; omega; (have q3_ := (HT3.out k (HSI.out k q_)).2; omega)))
    have hB := Hd.mk (hB.out.then_ eF (fun k h hl => by (try simp only at h); omega))
    have hzb := Hd.mk eF.size
    clear hW eF
    obtain ⟨g2, cap2, he2, _, _, _, hg2w, hgI2, hcell, hfz⟩ := H_cells hH.out (show 0 < 5 by decide)
    injection he2 with e1 _ e3
    subst e3
    injection e1 with e1
    injection e1 with e1 _ _
    subst e1
    have y0 := hcell 0 _ rfl; have y1 := hcell 1 _ rfl; have y2 := hcell 2 _ rfl; have y3 := hcell 3 _ rfl; have y4 := hcell 4 _ rfl
    simp only [tJ_sz, Nat.add_zero] at y0 y1 y2 y3 y4
    clear hcell x0 x1 x2 x3 x4 xz
    have hglw : gl < w.heap.size := (HT3.out gl hSg).2
    have hgl9 : gl < w9.heap.size := by have z0_ := z0.out; have z1_ := z1.out; have z2_ := z2.out; have z3_ := z3.out; have z4_ := z4.out; have z5_ := z5.out; have z6_ := z6.out; have z7_ := z7.out; have z8_ := z8.out; have hzb_ := hzb.out; omega
    obtain ⟨v00, v01, v02, v03, v04, v0z⟩ := blk5 b0.out
    obtain ⟨v10, v11, v12, v13, v14, v15, v16, v1z⟩ := blk7 b1.out
    obtain ⟨v20, v21, v22, v23, v24, v2z⟩ := blk5 b2.out
    obtain ⟨v30, v31, v32, v33, v34, v3z⟩ := blk5 b3.out
    go_wp2_with fail
    refine bodyPost_retW (v := .tuple #[.agg #[.int .i64 j.kind, .int .i64 j.n, .string j.s, .slice (some ⟨gl, 0, none⟩) j.list.length c1, .slice A2 j.names.length c2], .bool ok]) (by simp [results, Try.results110, go_sem, v00, v01, v02, v03, v04, v0z, v10, v11, v12, v13, v14, v15, v16, v1z, v20, v21, v22, v23, v24, v2z, v30, v31, v32, v33, v34, v3z]) rfl ?_
    intro W hW
    clear v00 v01 v02 v03 v04 v0z v10 v11 v12 v13 v14 v15 v16 v1z v20 v21 v22 v23 v24 v2z v30 v31 v32 v33 v34 v3z
    have z0_ := z0.out; have z1_ := z1.out; have z2_ := z2.out; have z3_ := z3.out; have z4_ := z4.out; have z5_ := z5.out; have z6_ := z6.out; have z7_ := z7.out; have z8_ := z8.out; have hzb_ := hzb.out
    have hF1 := Fr.set5 Wb gl (q * 5) (q * 5 + 1) (q * 5 + 2) (q * 5 + 3) (q * 5 + 4) (Value.int IntKind.i64 ra) (Value.int IntKind.i64 rb) (Value.string rs) (Value.slice RA rn rc) (Value.slice RB rn2 rd)
    rcases HR.out with ⟨rfl, zz, hz1, hz2⟩ | ⟨rfl, hz1⟩
    ·have hR1 := H_set5 hH.out rfl (z := zz) (S' := fun k => T3 k ∨ W6.heap.size ≤ k) hz2 (fun h => by rcases h.1 with q_ | q_; omega; exact hgI q_) (fun k h => by rcases h.1 with q_ | q_; exact .inr (fun h3 => by have q3_ := (HT3.out k h3).2; omega); exact .inl q_) (fun k h => .inl h) (fun k h => by rcases h.1 with q_ | q_; exact .inr q_; exact .inl (HSI.out k q_))
     obtain ⟨Wa, hWa⟩ : ∃ z, z = (((((Wb.setCell ⟨gl, q * 5, none⟩ (Value.int IntKind.i64 ra)).setCell ⟨gl, q * 5 + 1, none⟩ (Value.int IntKind.i64 rb)).setCell ⟨gl, q * 5 + 2, none⟩ (Value.string rs)).setCell ⟨gl, q * 5 + 3, none⟩ (Value.slice RA rn rc)).setCell ⟨gl, q * 5 + 4, none⟩ (Value.slice RB rn2 rd)) := ⟨_, rfl⟩
     rw [← hWa] at hR1 hF1
     have eF : Fr Wa W (fun k => k = w.heap.size + 2) := by rw [hW, hWa]; exact Fr.set5 _ _ _ _ _ _ _ _ _ _ _ _
     clear hW hWa
     exact pat_some (z := setV j q zz) (cs := [Value.int IntKind.i64 j.kind, .int .i64 j.n, .string j.s, .slice (some ⟨gl, 0, none⟩) j.list.length c1, .slice A2 j.names.length c2]) (by rw [HPV.out, hz1]; rfl) rfl (tJ_O.2 ⟨_, _, fun k => T3 k ∨ W6.heap.size ≤ k, T4, rfl, hsj, R_fr hR1 eF (fun k hk hl h => by (try simp only at h); rcases hk with q_ | q_; (have q2_ := (HT3.out k q_).2; omega); omega), R_fr (R_fr HN4.out hF1 (fun k hk hl h => by have h : k = gl := h; subst h; exact H34.out _ hSg hk)) eF (fun k hk hl h => by have q_ := (HT4.out k hk).2; (try simp only at h); omega), fun k h => by
      rcases h with q_ | q_
      ·exact .inr (HT3.out k q_).1
      ·exact .inl (by omega), fun k h => .inr (HT4.out k h).1, fun k h h2 => by
      rcases h with q_ | q_
      ·exact H34.out k q_ h2
      ·have q2_ := (HT4.out k h2).2
       omega⟩) ((hB.out.then_ hF1 (fun k h _ => by have h : k = gl := h; subst h; exact (HT3.out _ hSg).1)).then_ eF (fun k h hl => by (try simp only at h); omega))
    ·obtain ⟨Wa, hWa⟩ : ∃ z, z = (((((Wb.setCell ⟨gl, q * 5, none⟩ (Value.int IntKind.i64 ra)).setCell ⟨gl, q * 5 + 1, none⟩ (Value.int IntKind.i64 rb)).setCell ⟨gl, q * 5 + 2, none⟩ (Value.string rs)).setCell ⟨gl, q * 5 + 3, none⟩ (Value.slice RA rn rc)).setCell ⟨gl, q * 5 + 4, none⟩ (Value.slice RB rn2 rd)) := ⟨_, rfl⟩
     rw [← hWa] at hF1
     have eF : Fr Wa W (fun k => k = w.heap.size + 2) := by rw [hW, hWa]; exact Fr.set5 _ _ _ _ _ _ _ _ _ _ _ _
     clear hW hWa
     exact pat_none (by rw [HPV.out, hz1]; rfl) rfl ((hB.out.then_ hF1 (fun k h _ => by have h : k = gl := h; subst h; exact (HT3.out _ hSg).1)).then_ eF (fun k h hl => by (try simp only at h); omega))
   ·refine stepM_of rfl ?_ (by rfl)
    go_wp2_with fail
    refine ⟨hS.out.alloc _, ?_⟩
    refine genT ?_; intro W6 hW
    have hz_ : W5.heap.size + 1 ≤ W6.heap.size := by rw [hW]; simp
    have hE : Below W5.heap.size W5 W6 := by rw [hW]; (repeat (first | with_reducible refine below_alloc ?_ _ | with_reducible refine below_drew ?_)); exact Below.refl _ _
    have hB := Hd.mk (hB.out.trans (Fr.of_below hE _))
    have H0c := Hd.mk (below_then H0c.out hE)
    replace hS := Hd.mk (hS.out.trans (Fr.of_below hE _))
    have b0 := b0.dn hE
    have b1 := b1.dn hE
    have b2 := b2.dn hE
    have b3 := Hd.mk (show Blk W6 (W5.heap.size) #[.int .i64 0, .int .i64 0, .string ⟨#[]⟩, .slice none 0 0, .slice none 0 0] 27 by rw [hW]; first | exact (Blk.new _ _ _) | (simpa using (Blk.new _ _ _)))
    have HN4 := Hd.mk (R_below HN4.out hE)
    have hH := Hd.mk (H_belowZ hH.out hE)
    have hOe := hOe.ob hE
    clear hW hE
    have z6 := Hd.mk hz_; clear hz_
    refine mixT_b rfl ?_ (by rfl)
    go_wp2_with fail
    apply calls_gen; intro W7 hW
    have hz_ : W6.heap.size ≤ W7.heap.size := by rw [hW]; simp
    have hE : Below W6.heap.size W6 W7 := by rw [hW]; (repeat (first | with_reducible refine below_alloc ?_ _ | with_reducible refine below_drew ?_)); exact Below.refl _ _
    have hB := Hd.mk (hB.out.trans (Fr.of_below hE _))
    have H0c := Hd.mk (below_then H0c.out hE)
    replace hS := Hd.mk (hS.out.trans (Fr.of_below hE _))
    have b0 := b0.dn hE
    have b1 := b1.dn hE
    have b2 := b2.dn hE
    have b3 := b3.dn hE
    have HN4 := Hd.mk (R_below HN4.out hE)
    have hH := Hd.mk (H_belowZ hH.out hE)
    have hOe := hOe.ob hE
    clear hW hE
    have z7 := Hd.mk hz_; clear hz_
    have z0_ := z0.out; have z1_ := z1.out; have z2_ := z2.out; have z3_ := z3.out; have z4_ := z4.out; have z5_ := z5.out; have z6_ := z6.out; have z7_ := z7.out
    rw [show n - 1 = r.length by have := HN.out; omega]
    obtain ⟨d2, _, hz2⟩ := sizeN_at HZD.out q hql
    refine (ih (fun k => Si k) j.list[q] _ _ _ _ w0 _ hOe.out H0c.out (fun k h => HS0.out k (HT3.out k (HSI.out k h)).1) (C_tail HW.out (.inr rfl)) (by have := HN.out; omega) HKO.out ⟨d2, hz2⟩).mono ?_
    rintro e w9 hP
    obtain ⟨ra, rb, rs, RA, RB, rn, rc, rn2, rd, ok, rfl, hX, hR⟩ := pat_open hP
    have HR := Hd.mk hR; clear hR hP
    have b0 := Hd.mk (b0.out.fr hX (fun h => by have q_ := (HT3.out _ (HSI.out _ h)).2; omega))
    have b1 := Hd.mk (b1.out.fr hX (fun h => by have q_ := (HT3.out _ (HSI.out _ h)).2; omega))
    have b2 := Hd.mk (b2.out.fr hX (fun h => by have q_ := (HT3.out _ (HSI.out _ h)).2; omega))
    have b3 := Hd.mk (b3.out.fr hX (fun h => by have q_ := (HT3.out _ (HSI.out _ h)).2; omega))
    have HR := Hd.mk (pat_T HR.out)
    have HN4 := Hd.mk (R_fr HN4.out hX (fun k hk hl h => H34.out k (HSI.out k h) hk))
    have hH := Hd.mk (H_fr hH.out hX (fun k _ h _ => h))
    clear H0c hOe
    replace hS := Hd.mk (hS.out.then_ hX (fun k h hl => ⟨h, (HT3.out k (HSI.out k h)).2⟩))
    have hB := Hd.mk (hB.out.then_ hX (fun k h hl => (HT3.out k (HSI.out k h)).1))
    have hz_ := hX.size
    clear hX
    have z8 := Hd.mk hz_; clear hz_
    go_wp2_with fail
    refine ⟨hS.out, ?_⟩
    iterate 3 (refine mixT_p rfl ?_; go_big_quiet_want; go_big_quiet_op; go_big_quiet_on; refine wpQuiet_nil ?_)
    refine mixT_fin ?_
    clear hS
    obtain ⟨v00, v01, v02, v03, v04, v0z⟩ := blk5 b0.out
    obtain ⟨v10, v11, v12, v13, v14, v15, v16, v1z⟩ := blk7 b1.out
    obtain ⟨v20, v21, v22, v23, v24, v2z⟩ := blk5 b2.out
    obtain ⟨v30, v31, v32, v33, v34, v3z⟩ := blk5 b3.out
    refine tail_b rfl ?_ (by rfl)
    go_wp2_with fail
    refine mixQ_n ?_
    refine tail_b rfl ?_ (by rfl)
    go_wp2_with fail
    refine mixQ_n ?_
    refine tail_nil ?_
    refine exit_gen ?_; intro Wb hW
    clear v00 v01 v02 v03 v04 v0z v10 v11 v12 v13 v14 v15 v16 v1z v20 v21 v22 v23 v24 v2z v30 v31 v32 v33 v34 v3z
    have eF : Fr w9 Wb (fun k => k = W5.heap.size) := by rw [hW]; exact Fr.set5 _ _ _ _ _ _ _ _ _ _ _ _
    have z0_ := z0.out; have z1_ := z1.out; have z2_ := z2.out; have z3_ := z3.out; have z4_ := z4.out; have z5_ := z5.out; have z6_ := z6.out; have z7_ := z7.out; have z8_ := z8.out
    have b0 := Hd.mk (b0.out.fr eF (fun h => by (try simp only at h); omega))
    have b1 := Hd.mk (b1.out.fr eF (fun h => by (try simp only at h); omega))
    have b2 := Hd.mk (b2.out.fr eF (fun h => by (try simp only at h); omega))
    have b3 := Hd.mk (show Blk Wb (W5.heap.size) #[.int .i64 ra, .int .i64 rb, .string rs, .slice RA rn rc, .slice RB rn2 rd] 27 by rw [hW]; exact Blk.all b3.out [Value.int IntKind.i64 ra, .int .i64 rb, .string rs, .slice RA rn rc, .slice RB rn2 rd] rfl)
    have HN4 := Hd.mk (R_fr HN4.out eF (fun k hk hl h => by have q_ := (HT4.out k hk).2; (try simp only at h); omega))
    have hH := Hd.mk (H_fr hH.out eF (fun k hs h _ => by have q_ := (HT3.out k hs).2; (try simp only at h); omega))
    have HR := Hd.mk (patT_fr HR.out eF (fun k hk hl h => by (try simp only at h); have q2_ := hk.2; rcases hk.1 with q_ | q_; omega; (have q3_ := (HT3.out k (HSI.out k q_)).2; omega)))
    have hB := Hd.mk (hB.out.then_ eF (fun k h hl => by (try simp only at h); omega))
    have hzb := Hd.mk eF.size
    clear hW eF
    obtain ⟨g2, cap2, he2, _, _, _, hg2w, hgI2, hcell, hfz⟩ := H_cells hH.out (show 0 < 5 by decide)
    injection he2 with e1 _ e3
    subst e3
    injection e1 with e1
    injection e1 with e1 _ _
    subst e1
    have y0 := hcell 0 _ rfl; have y1 := hcell 1 _ rfl; have y2 := hcell 2 _ rfl; have y3 := hcell 3 _ rfl; have y4 := hcell 4 _ rfl
    simp only [tJ_sz, Nat.add_zero] at y0 y1 y2 y3 y4
    clear hcell x0 x1 x2 x3 x4 xz
    have hglw : gl < w.heap.size := (HT3.out gl hSg).2
    have hgl9 : gl < W5.heap.size := by have z0_ := z0.out; have z1_ := z1.out; have z2_ := z2.out; have z3_ := z3.out; have z4_ := z4.out; have z5_ := z5.out; have z6_ := z6.out; have z7_ := z7.out; have z8_ := z8.out; have hzb_ := hzb.out; omega
    obtain ⟨v00, v01, v02, v03, v04, v0z⟩ := blk5 b0.out
    obtain ⟨v10, v11, v12, v13, v14, v15, v16, v1z⟩ := blk7 b1.out
    obtain ⟨v20, v21, v22, v23, v24, v2z⟩ := blk5 b2.out
    obtain ⟨v30, v31, v32, v33, v34, v3z⟩ := blk5 b3.out
    go_wp2_with fail
    refine bodyPost_retW (v := .tuple #[.agg #[.int .i64 j.kind, .int .i64 j.n, .string j.s, .slice (some ⟨gl, 0, none⟩) j.list.length c1, .slice A2 j.names.length c2], .bool ok]) (by simp [results, Try.results110, go_sem, v00, v01, v02, v03, v04, v0z, v10, v11, v12, v13, v14, v15, v16, v1z, v20, v21, v22, v23, v24, v2z, v30, v31, v32, v33, v34, v3z]) rfl ?_
    intro W hW
    clear v00 v01 v02 v03 v04 v0z v10 v11 v12 v13 v14 v15 v16 v1z v20 v21 v22 v23 v24 v2z v30 v31 v32 v33 v34 v3z
    have z0_ := z0.out; have z1_ := z1.out; have z2_ := z2.out; have z3_ := z3.out; have z4_ := z4.out; have z5_ := z5.out; have z6_ := z6.out; have z7_ := z7.out; have z8_ := z8.out; have hzb_ := hzb.out
    have hF1 := Fr.set5 Wb gl (q * 5) (q * 5 + 1) (q * 5 + 2) (q * 5 + 3) (q * 5 + 4) (Value.int IntKind.i64 ra) (Value.int IntKind.i64 rb) (Value.string rs) (Value.slice RA rn rc) (Value.slice RB rn2 rd)
    rcases HR.out with ⟨rfl, zz, hz1, hz2⟩ | ⟨rfl, hz1⟩
    ·have hR1 := H_set5 hH.out rfl (z := zz) (S' := fun k => T3 k ∨ W7.heap.size ≤ k) hz2 (fun h => by rcases h.1 with q_ | q_; omega; exact hgI q_) (fun k h => by rcases h.1 with q_ | q_; exact .inr (fun h3 => by have q3_ := (HT3.out k h3).2; omega); exact .inl q_) (fun k h => .inl h) (fun k h => by rcases h.1 with q_ | q_; exact .inr q_; exact .inl (HSI.out k q_))
     obtain ⟨Wa, hWa⟩ : ∃ z, z = (((((Wb.setCell ⟨gl, q * 5, none⟩ (Value.int IntKind.i64 ra)).setCell ⟨gl, q * 5 + 1, none⟩ (Value.int IntKind.i64 rb)).setCell ⟨gl, q * 5 + 2, none⟩ (Value.string rs)).setCell ⟨gl, q * 5 + 3, none⟩ (Value.slice RA rn rc)).setCell ⟨gl, q * 5 + 4, none⟩ (Value.slice RB rn2 rd)) := ⟨_, rfl⟩
     rw [← hWa] at hR1 hF1
     have eF : Fr Wa W (fun k => k = w.heap.size + 2) := by rw [hW, hWa]; exact Fr.set5 _ _ _ _ _ _ _ _ _ _ _ _
     clear hW hWa
     exact pat_some (z := setV j q zz) (cs := [Value.int IntKind.i64 j.kind, .int .i64 j.n, .string j.s, .slice (some ⟨gl, 0, none⟩) j.list.length c1, .slice A2 j.names.length c2]) (by rw [HPV.out, hz1]; rfl) rfl (tJ_O.2 ⟨_, _, fun k => T3 k ∨ W7.heap.size ≤ k, T4, rfl, hsj, R_fr hR1 eF (fun k hk hl h => by (try simp only at h); rcases hk with q_ | q_; (have q2_ := (HT3.out k q_).2; omega); omega), R_fr (R_fr HN4.out hF1 (fun k hk hl h => by have h : k = gl := h; subst h; exact H34.out _ hSg hk)) eF (fun k hk hl h => by have q_ := (HT4.out k hk).2; (try simp only at h); omega), fun k h => by
      rcases h with q_ | q_
      ·exact .inr (HT3.out k q_).1
      ·exact .inl (by omega), fun k h => .inr (HT4.out k h).1, fun k h h2 => by
      rcases h with q_ | q_
      ·exact H34.out k q_ h2
      ·have q2_ := (HT4.out k h2).2
       omega⟩) ((hB.out.then_ hF1 (fun k h _ => by have h : k = gl := h; subst h; exact (HT3.out _ hSg).1)).then_ eF (fun k h hl => by (try simp only at h); omega))
    ·obtain ⟨Wa, hWa⟩ : ∃ z, z = (((((Wb.setCell ⟨gl, q * 5, none⟩ (Value.int IntKind.i64 ra)).setCell ⟨gl, q * 5 + 1, none⟩ (Value.int IntKind.i64 rb)).setCell ⟨gl, q * 5 + 2, none⟩ (Value.string rs)).setCell ⟨gl, q * 5 + 3, none⟩ (Value.slice RA rn rc)).setCell ⟨gl, q * 5 + 4, none⟩ (Value.slice RB rn2 rd)) := ⟨_, rfl⟩
     rw [← hWa] at hF1
     have eF : Fr Wa W (fun k => k = w.heap.size + 2) := by rw [hW, hWa]; exact Fr.set5 _ _ _ _ _ _ _ _ _ _ _ _
     clear hW hWa
     exact pat_none (by rw [HPV.out, hz1]; rfl) rfl ((hB.out.then_ hF1 (fun k h _ => by have h : k = gl := h; subst h; exact (HT3.out _ hSg).1)).then_ eF (fun k h hl => by (try simp only at h); omega))
 ·obtain rfl : r = [] := by simpa using hr
  obtain rfl : n = 1 := hn
  clear hr
  have HKK := Hd.mk hk; clear hk
  go_enter Try.func110, Try.ntmps110
  go_wp2_with fail
  apply wp_gen; intro W1 hW
  have hz_ : w.heap.size + 3 ≤ W1.heap.size := by rw [hW]; simp
  have hE : Below w.heap.size w W1 := by rw [hW]; (repeat (first | with_reducible refine below_alloc ?_ _ | with_reducible refine below_drew ?_)); exact Below.refl _ _
  have hB := hB.th hE
  have b0 := Hd.mk (show Blk W1 (w.heap.size) #[.int .i64 j.kind, .int .i64 j.n, .string j.s, .slice A1 j.list.length c1, .slice A2 j.names.length c2] 27 by rw [hW]; first | exact (((Blk.new _ _ _).alloc _).alloc _) | (simpa using (((Blk.new _ _ _).alloc _).alloc _)))
  have b1 := Hd.mk (show Blk W1 (w.heap.size + 1) #[.int .i64 o.kind, .slice AW o.way.length cW, .int .i64 o.value.kind, .int .i64 o.value.n, .string o.value.s, .slice A3 o.value.list.length c3, .slice A4 o.value.names.length c4] 38 by rw [hW]; first | exact ((Blk.new1 _ _ _ _).alloc _) | (simpa using ((Blk.new1 _ _ _ _).alloc _)))
  have b2 := Hd.mk (show Blk W1 (w.heap.size + 1 + 1) #[.int .i64 0, .int .i64 0, .string ⟨#[]⟩, .slice none 0 0, .slice none 0 0] 27 by rw [hW]; first | exact (Blk.new2 _ _ _ _ _) | (simpa using (Blk.new2 _ _ _ _ _)))
  have HJ := HJ.ob hE
  clear hW hE
  have z1 := Hd.mk hz_; clear hz_
  have H0c := Hd.mk (below_then H0.out hB.out)
  have H0r := Hd.mk H0c.out
  have z0 := Hd.mk (show w.heap.size + 3 ≤ W1.heap.size by have z1_ := z1.out; omega)
  have hB := Hd.mk (Fr.of_below hB.out S)
  have sb0 := Hd.mk b0.out
  have sb1 := Hd.mk b1.out
  have sb2 := Hd.mk b2.out
  refine region_mixC (fun x_ => Fr W1 x_ (fun k => S k ∧ k < w.heap.size)) (.q 0 (.q 4 (.p 1 (.q 2 (.q 3 (.b 5 (.p 6 (.p 7 .fin)))))))) [8, 9] (by kernel_rfl) (Fr.drew (Fr.refl _ _)) (by kernel_rfl) (fun _ _ _ _ _ h => h) ?_
  refine genT ?_
  intro W2 hW
  have hS := Hd.mk (show Fr W1 W2 (fun k => S k ∧ k < w.heap.size) by rw [hW]; exact Fr.drew (Fr.refl _ _))
  have hz_ : W1.heap.size ≤ W2.heap.size := by rw [hW]; simp
  have hE : Below W1.heap.size W1 W2 := by rw [hW]; (repeat (first | with_reducible refine below_alloc ?_ _ | with_reducible refine below_drew ?_)); exact Below.refl _ _
  have hB := Hd.mk (hB.out.trans (Fr.of_below hE _))
  have H0c := Hd.mk (below_then H0c.out hE)
  have b0 := b0.dn hE
  have b1 := b1.dn hE
  have b2 := b2.dn hE
  have HJ := HJ.ob hE
  clear hW hE
  have z2 := Hd.mk hz_; clear hz_
  refine mixT_see rfl (by rfl) (.agg #[.int .i64 j.kind, .int .i64 j.n, .string j.s, .slice A1 j.list.length c1, .slice A2 j.names.length c2]) (fun w_ hw_ => by have f0_ := (sb0.out.fr hw_ (fun h => by have q_ := h.2; omega)).cell 0 rfl; have f1_ := (sb0.out.fr hw_ (fun h => by have q_ := h.2; omega)).cell 1 rfl; have f2_ := (sb0.out.fr hw_ (fun h => by have q_ := h.2; omega)).cell 2 rfl; have f3_ := (sb0.out.fr hw_ (fun h => by have q_ := h.2; omega)).cell 3 rfl; have f4_ := (sb0.out.fr hw_ (fun h => by have q_ := h.2; omega)).cell 4 rfl; simp [execOp, go_sem, f0_, f1_, f2_, f3_, f4_]) hS.out ?_
  obtain ⟨v00, v01, v02, v03, v04, v0z⟩ := blk5 b0.out
  obtain ⟨v10, v11, v12, v13, v14, v15, v16, v1z⟩ := blk7 b1.out
  obtain ⟨v20, v21, v22, v23, v24, v2z⟩ := blk5 b2.out
  go_wp2_with fail
  refine mixQ_n ?_
  clear v00 v01 v02 v03 v04 v0z v10 v11 v12 v13 v14 v15 v16 v1z v20 v21 v22 v23 v24 v2z
  refine mixT_see rfl (by rfl) (.agg #[.int .i64 o.kind, .slice AW o.way.length cW, .int .i64 o.value.kind, .int .i64 o.value.n, .string o.value.s, .slice A3 o.value.list.length c3, .slice A4 o.value.names.length c4]) (fun w_ hw_ => by have f0_ := (sb1.out.fr hw_ (fun h => by have q_ := h.2; omega)).cell 0 rfl; have f1_ := (sb1.out.fr hw_ (fun h => by have q_ := h.2; omega)).cell 1 rfl; have f2_ := (sb1.out.fr hw_ (fun h => by have q_ := h.2; omega)).cell 2 rfl; have f3_ := (sb1.out.fr hw_ (fun h => by have q_ := h.2; omega)).cell 3 rfl; have f4_ := (sb1.out.fr hw_ (fun h => by have q_ := h.2; omega)).cell 4 rfl; have f5_ := (sb1.out.fr hw_ (fun h => by have q_ := h.2; omega)).cell 5 rfl; have f6_ := (sb1.out.fr hw_ (fun h => by have q_ := h.2; omega)).cell 6 rfl; simp [execOp, go_sem, f0_, f1_, f2_, f3_, f4_, f5_, f6_]) hS.out ?_
  obtain ⟨v00, v01, v02, v03, v04, v0z⟩ := blk5 b0.out
  obtain ⟨v10, v11, v12, v13, v14, v15, v16, v1z⟩ := blk7 b1.out
  obtain ⟨v20, v21, v22, v23, v24, v2z⟩ := blk5 b2.out
  go_wp2_with fail
  refine mixQ_n ?_
  clear v00 v01 v02 v03 v04 v0z v10 v11 v12 v13 v14 v15 v16 v1z v20 v21 v22 v23 v24 v2z
  refine mixT_p rfl ?_
  go_big_quiet_want; go_big_quiet_op; go_big_quiet_on; refine wpQuiet_nil ?_
  refine mixT_see rfl (by rfl) (.pointer (some ad)) (fun w_ hw_ => by first | (simp [execOp, go_sem]; done) | kernel_rfl) hS.out ?_
  have xw_ := cell_below H0c.out hc0b; have xv_ := cell_below H0c.out hc0
  obtain ⟨v00, v01, v02, v03, v04, v0z⟩ := blk5 b0.out
  obtain ⟨v10, v11, v12, v13, v14, v15, v16, v1z⟩ := blk7 b1.out
  obtain ⟨v20, v21, v22, v23, v24, v2z⟩ := blk5 b2.out
  go_wp2_with fail
  refine mixQ_n ?_
  clear xw_ xv_
  clear v00 v01 v02 v03 v04 v0z v10 v11 v12 v13 v14 v15 v16 v1z v20 v21 v22 v23 v24 v2z
  refine mixT_see rfl (by rfl) (.string s) (fun w_ hw_ => by have f0_ := cell_old hc0 H0r.out hw_ (fun k h => HS0.out k h.1); have f1_ := cell_old hc0b H0r.out hw_ (fun k h => HS0.out k h.1); simp [execOp, go_sem, f0_, f1_]) hS.out ?_
  have xw_ := cell_below H0c.out hc0b; have xv_ := cell_below H0c.out hc0
  obtain ⟨v00, v01, v02, v03, v04, v0z⟩ := blk5 b0.out
  obtain ⟨v10, v11, v12, v13, v14, v15, v16, v1z⟩ := blk7 b1.out
  obtain ⟨v20, v21, v22, v23, v24, v2z⟩ := blk5 b2.out
  go_wp2_with fail
  refine mixQ_n ?_
  clear xw_ xv_
  clear v00 v01 v02 v03 v04 v0z v10 v11 v12 v13 v14 v15 v16 v1z v20 v21 v22 v23 v24 v2z
  refine mixT_b rfl ?_ (by rfl)
  go_wp2_with fail
  apply calls_gen; intro W3 hW
  have hz_ : W2.heap.size ≤ W3.heap.size := by rw [hW]; simp
  have hE : Below W2.heap.size W2 W3 := by rw [hW]; (repeat (first | with_reducible refine below_alloc ?_ _ | with_reducible refine below_drew ?_)); exact Below.refl _ _
  have hB := Hd.mk (hB.out.trans (Fr.of_below hE _))
  have H0c := Hd.mk (below_then H0c.out hE)
  replace hS := Hd.mk (hS.out.trans (Fr.of_below hE _))
  have b0 := b0.dn hE
  have b1 := b1.dn hE
  have b2 := b2.dn hE
  have HJ := HJ.ob hE
  clear hW hE
  have z3 := Hd.mk hz_; clear hz_
  have z0_ := z0.out; have z1_ := z1.out; have z2_ := z2.out; have z3_ := z3.out
  refine (spec_l4In (m := B) (S := fun k => S k ∧ k < w.heap.size) j s _ o _ _ HJ.out (Ty.K_below _ H0c.out HKO.out) HBU.out HKK.out hss HOWN.out HLN.out).mono ?_
  rintro e w9 hP
  obtain ⟨ra, rb, rs, RA, RB, rn, rc, rn2, rd, ok, rfl, hX, hR⟩ := pat_open hP
  have HR := Hd.mk hR; clear hR hP
  have b0 := Hd.mk (b0.out.fr hX (fun h => by have q2_ := h.2; omega))
  have b1 := Hd.mk (b1.out.fr hX (fun h => by have q2_ := h.2; omega))
  have b2 := Hd.mk (b2.out.fr hX (fun h => by have q2_ := h.2; omega))
  clear H0c
  replace hS := Hd.mk (hS.out.then_ hX (fun k h hl => h))
  have hB := Hd.mk (hB.out.then_ hX (fun k h hl => h.1))
  have hz_ := hX.size
  clear hX HJ
  have z4 := Hd.mk hz_; clear hz_
  go_wp2_with fail
  refine ⟨hS.out, ?_⟩
  iterate 2 (refine mixT_p rfl ?_; go_big_quiet_want; go_big_quiet_op; go_big_quiet_on; refine wpQuiet_nil ?_)
  refine mixT_fin ?_
  clear hS
  obtain ⟨v00, v01, v02, v03, v04, v0z⟩ := blk5 b0.out
  obtain ⟨v10, v11, v12, v13, v14, v15, v16, v1z⟩ := blk7 b1.out
  obtain ⟨v20, v21, v22, v23, v24, v2z⟩ := blk5 b2.out
  refine tail_b rfl ?_ (by rfl)
  go_wp2_with fail
  refine mixQ_n ?_
  refine tail_b rfl ?_ (by rfl)
  go_wp2_with fail
  refine mixQ_n ?_
  refine tail_nil ?_
  go_wp2_with fail
  refine bodyPost_retW (v := .tuple #[.agg #[.int .i64 ra, .int .i64 rb, .string rs, .slice RA rn rc, .slice RB rn2 rd], .bool ok]) (by simp [results, Try.results110, go_sem, v00, v01, v02, v03, v04, v0z, v10, v11, v12, v13, v14, v15, v16, v1z, v20, v21, v22, v23, v24, v2z]) rfl ?_
  intro W hW
  clear v00 v01 v02 v03 v04 v0z v10 v11 v12 v13 v14 v15 v16 v1z v20 v21 v22 v23 v24 v2z
  have z0_ := z0.out; have z1_ := z1.out; have z2_ := z2.out; have z3_ := z3.out; have z4_ := z4.out
  have eF : Fr w9 W (fun k => k = w.heap.size + 2) := by rw [hW]; (repeat (first | with_reducible refine Fr.setCell ?_ _ (fun _ => by simp <;> omega) _ | with_reducible refine Fr.alloc ?_ _ | with_reducible refine Fr.drew ?_)); exact Fr.refl _ _
  exact pat_close HR.out eF (fun k hk hl h => by (try simp only at h); rcases hk with q_ | q_; omega; (have q2_ := q_.2; omega)) (fun k hk => by rcases hk with q_ | q_; exact .inl (by omega); exact .inr q_.1) (hB.out.then_ eF (fun k h hl => by (try simp only at h); omega))
theorem patS_all {B : Nat} {o : JOp} (hb : bulkJ (B + 1) o.value ≤ 4194304) (hk : 1 ≤ o.kind ∧ o.kind ≤ 4) : ∀ way : List ByteArray, (∀ s ∈ way, s.size ≤ 1000) → PatS B o way
 | [], _ => patS_nil hb hk
 | s :: r, h => patS_cons hb hk (h s (by simp)) (patS_all hb hk r (fun x hx => h x (by simp [hx])))
noncomputable def opOk (o : JOp) : Bool := o.way.all textB && (inB o.kind 1 4 && (decide ((o.way.length : Int) ≤ 6) && (jsonOk o.value && (o.kind != 2 || eqv o.value J.null))))
theorem null_K {m : Nat} {w : World} : (tJ (m + 1)).K w J.null [.int .i64 0, .int .i64 0, .string ByteArray.empty, .slice none 0 0, .slice none 0 0] :=
 tJ_K.2 ⟨none, 0, none, 0, rfl, Nat.zero_le _, ⟨Nat.le_refl _, C_nil _⟩, Nat.le_refl _, C_nil _⟩
theorem bytes_nil {s : ByteArray} : (s.toList == []) = true ↔ s = ByteArray.empty := by
 have : (s.toList == ByteArray.empty.toList) = true ↔ s = ByteArray.empty := bytes_eq
 simpa using this
set_option maxRecDepth 100000 in
theorem spec_OpOk {m : Nat} (x : JOp) (cs : List Value) (w : World) (hk : (tOp (m + 1)).K w x cs) :
  Calls Try.prog 109 #[.agg cs.toArray] w fun e w' => e = .returned (.bool (opOk x)) ∧ Below w.heap.size w w' := by
 obtain ⟨A1, c1, _, rfl, ⟨hc1, hr1⟩, hj⟩ := tOp_K.1 hk
 have HJ := hj
 obtain ⟨A2, c2, A3, c3, rfl, hs, ⟨hc2, hr2⟩, hc3, hr3⟩ := tJ_K.1 hj
 clear hk hj
 have hm1 := hr1.1
 have HR := Hd.mk hr1; clear hr1 hr2 hr3
 replace HJ := Hd.mk HJ
 have hB := Hd.mk (below_alloc (Below.refl w.heap.size w) (Obj.cells #[.int .i64 x.kind, .slice A1 x.way.length c1, .int .i64 x.value.kind, .int .i64 x.value.n, .string x.value.s, .slice A2 x.value.list.length c2, .slice A3 x.value.names.length c3] 38))
 have b0 := Blk.new w #[.int .i64 x.kind, .slice A1 x.way.length c1, .int .i64 x.value.kind, .int .i64 x.value.n, .string x.value.s, .slice A2 x.value.list.length c2, .slice A3 x.value.names.length c3] 38
 go_enter Try.func109, Try.ntmps109
 go_wp2_with fail
 generalize w.alloc (Obj.cells #[Value.int IntKind.i64 x.kind, Value.slice A1 x.way.length c1, Value.int IntKind.i64 x.value.kind, Value.int IntKind.i64 x.value.n, Value.string x.value.s, Value.slice A2 x.value.list.length c2, Value.slice A3 x.value.names.length c3] 38) = W0 at hB b0 ⊢
 have f0 : W0.cell? ⟨w.heap.size, 0, none⟩ = some (.int .i64 x.kind) := b0.cell 0 rfl
 have f1 : W0.cell? ⟨w.heap.size, 1, none⟩ = some (.slice A1 x.way.length c1) := b0.cell 1 rfl
 have f2 : W0.cell? ⟨w.heap.size, 2, none⟩ = some (.int .i64 x.value.kind) := b0.cell 2 rfl
 have f3 : W0.cell? ⟨w.heap.size, 3, none⟩ = some (.int .i64 x.value.n) := b0.cell 3 rfl
 have f4 : W0.cell? ⟨w.heap.size, 4, none⟩ = some (.string x.value.s) := b0.cell 4 rfl
 have f5 : W0.cell? ⟨w.heap.size, 5, none⟩ = some (.slice A2 x.value.list.length c2) := b0.cell 5 rfl
 have f6 : W0.cell? ⟨w.heap.size, 6, none⟩ = some (.slice A3 x.value.names.length c3) := b0.cell 6 rfl
 refine (spec_l1In _ _ _ _).mono ?_
 rintro e w2 ⟨rfl, rfl⟩
 have HE := Hd.mk (show opOk x = (inB x.kind 1 4 && (decide ((x.way.length : Int) ≤ 6) && (jsonOk x.value && (x.way.all textB && (x.kind != 2 || eqv x.value J.null))))) by
  rw [opOk]
  cases x.way.all textB <;> cases inB x.kind 1 4 <;> cases decide ((x.way.length : Int) ≤ 6) <;> cases jsonOk x.value <;> rfl)
 cases h1 : inB x.kind 1 4
 ·have HN := Hd.mk (show opOk x = false by rw [HE.out, h1]; rfl)
  go_wp2_with fail
  go_ret
  exact ⟨by rw [HN.out]; rfl, by exact hB.out⟩
 replace HE := Hd.mk (show opOk x = (decide ((x.way.length : Int) ≤ 6) && (jsonOk x.value && (x.way.all textB && (x.kind != 2 || eqv x.value J.null)))) by rw [HE.out, h1]; rfl)
 clear h1
 by_cases h2 : (x.way.length : Int) ≤ 6
 rotate_left
 ·have HN := Hd.mk (show opOk x = false by rw [HE.out, decide_eq_false h2]; rfl)
  go_wp2_with fail
  go_ret
  exact ⟨by rw [HN.out]; rfl, by exact hB.out⟩
 replace HE := Hd.mk (show opOk x = (jsonOk x.value && (x.way.all textB && (x.kind != 2 || eqv x.value J.null))) by rw [HE.out, decide_eq_true h2]; rfl)
 go_wp2_with fail
 refine (spec_JsonOk x.value _ _ ((tJ (m + 1)).K_below hB.out HJ.out)).mono ?_
 rintro e w3 ⟨rfl, hX⟩
 clear f0 f1 f2 f3 f4 f5 f6
 replace b0 := b0.below hX
 replace hB := Hd.mk (below_then hB.out hX)
 clear hX
 have f0 : w3.cell? ⟨w.heap.size, 0, none⟩ = some (.int .i64 x.kind) := b0.cell 0 rfl
 have f1 : w3.cell? ⟨w.heap.size, 1, none⟩ = some (.slice A1 x.way.length c1) := b0.cell 1 rfl
 have f2 : w3.cell? ⟨w.heap.size, 2, none⟩ = some (.int .i64 x.value.kind) := b0.cell 2 rfl
 have f3 : w3.cell? ⟨w.heap.size, 3, none⟩ = some (.int .i64 x.value.n) := b0.cell 3 rfl
 have f4 : w3.cell? ⟨w.heap.size, 4, none⟩ = some (.string x.value.s) := b0.cell 4 rfl
 have f5 : w3.cell? ⟨w.heap.size, 5, none⟩ = some (.slice A2 x.value.list.length c2) := b0.cell 5 rfl
 have f6 : w3.cell? ⟨w.heap.size, 6, none⟩ = some (.slice A3 x.value.names.length c3) := b0.cell 6 rfl
 cases h1 : jsonOk x.value
 ·have HN := Hd.mk (show opOk x = false by rw [HE.out, h1]; rfl)
  go_wp2_with fail
  go_ret
  exact ⟨by rw [HN.out]; rfl, by exact hB.out⟩
 replace HE := Hd.mk (show opOk x = (x.way.all textB && (x.kind != 2 || eqv x.value J.null)) by rw [HE.out, h1]; rfl)
 clear h1
 go_wp2_with fail
 clear f0 f1 f2 f3 f4 f5 f6
 go_loopw [3] (fun i wr => ∃ k : Nat, k ≤ x.way.length ∧ i = .int .i64 k ∧ Hd ((x.way.take k).all textB = true) ∧ Hd (Below w.heap.size w wr) ∧ Blk wr w.heap.size #[.int .i64 x.kind, .slice A1 x.way.length c1, .int .i64 x.value.kind, .int .i64 x.value.n, .string x.value.s, .slice A2 x.value.list.length c2, .slice A3 x.value.names.length c3] 38) (fun i _ => x.way.length - (intOf i).toNat)
 case atStart => exact ⟨0, Nat.zero_le _, rfl, ⟨rfl⟩, hB, b0⟩
 case round =>
  clear hB b0
  obtain ⟨k, hk, rfl, HA, hB, b0⟩ := hrel
  have f0 : wr.cell? ⟨w.heap.size, 0, none⟩ = some (.int .i64 x.kind) := b0.cell 0 rfl
  have f1 : wr.cell? ⟨w.heap.size, 1, none⟩ = some (.slice A1 x.way.length c1) := b0.cell 1 rfl
  have f2 : wr.cell? ⟨w.heap.size, 2, none⟩ = some (.int .i64 x.value.kind) := b0.cell 2 rfl
  have f3 : wr.cell? ⟨w.heap.size, 3, none⟩ = some (.int .i64 x.value.n) := b0.cell 3 rfl
  have f4 : wr.cell? ⟨w.heap.size, 4, none⟩ = some (.string x.value.s) := b0.cell 4 rfl
  have f5 : wr.cell? ⟨w.heap.size, 5, none⟩ = some (.slice A2 x.value.list.length c2) := b0.cell 5 rfl
  have f6 : wr.cell? ⟨w.heap.size, 6, none⟩ = some (.slice A3 x.value.names.length c3) := b0.cell 6 rfl
  by_cases hlt : k < x.way.length
  ·obtain ⟨ad, rfl, hx, hsz⟩ := C_str_at HR.out hB.out k hlt
   have HA2 := Hd.mk (all_take textB x.way k hlt HA.out)
   go_wp2_with fail
   refine (spec_l1Text _ _ hsz).mono ?_
   rintro e w9 ⟨rfl, rfl⟩
   cases hb : textB x.way[k]
   ·have HN := Hd.mk (show opOk x = false by rw [HE.out, all_false textB x.way (k + 1) (by rw [HA2.out]; exact hb)]; rfl)
    go_wp2_with fail
    go_ret
    exact ⟨by rw [HN.out]; rfl, hB.out⟩
   ·have HN := Hd.mk hb
    go_wp2_with fail
    clear f0 f1 f2 f3 f4 f5 f6
    go_roundw
    case rel => exact ⟨k + 1, by omega, by go_num, ⟨by rw [HA2.out]; exact HN.out⟩, hB, b0⟩
    case measure => simp [intOf]; omega
  ·obtain rfl : k = x.way.length := by omega
   have HW := Hd.mk (show x.way.all textB = true by have := HA.out; rwa [List.take_length] at this)
   have HE2 := Hd.mk (show opOk x = (x.kind != 2 || eqv x.value J.null) by rw [HE.out, HW.out]; rfl)
   cases h3 : (x.kind != 2)
   case true =>
    have HN := Hd.mk (show opOk x = true by rw [HE2.out, h3]; rfl)
    go_wp2_with fail
    go_ret
    exact ⟨by rw [HN.out]; rfl, hB.out⟩
   have HE3 := Hd.mk (show opOk x = eqv x.value J.null by rw [HE2.out, h3]; rfl)
   go_wp2_with fail
   refine (same_all (m + 1) x.value J.null _ _ _ ((tJ (m + 1)).K_below hB.out HJ.out) null_K).mono ?_
   rintro e w4 ⟨rfl, hX⟩
   replace hB := Hd.mk (below_then hB.out hX)
   clear hX
   go_wp2_with fail
   go_ret
   exact ⟨by rw [HE3.out]; rfl, hB.out⟩
noncomputable def patchO (j : J) (o : JOp) : Option J :=
 if (jsonOk j && opOk o) = true then (match patV o o.way j with
  | some z => if jsonOk z = true then some z else none
  | none => none) else none
noncomputable def patchJ (j : J) (o : JOp) : J := (patchO j o).getD J.null
noncomputable def patchB (j : J) (o : JOp) : Bool := (patchO j o).isSome
theorem patchO_bad {j : J} {o : JOp} (h : (jsonOk j && opOk o) = false) : patchO j o = none := by unfold patchO; rw [if_neg (by rw [h]; decide)]
theorem patchO_none {j : J} {o : JOp} (h : (jsonOk j && opOk o) = true) (h2 : patV o o.way j = none) : patchO j o = none := by unfold patchO; rw [if_pos h, h2]
theorem patchO_no {j z : J} {o : JOp} (h : (jsonOk j && opOk o) = true) (h2 : patV o o.way j = some z) (h3 : jsonOk z = false) : patchO j o = none := by unfold patchO; rw [if_pos h, h2]; simp [h3]
theorem patchO_yes {j z : J} {o : JOp} (h : (jsonOk j && opOk o) = true) (h2 : patV o o.way j = some z) (h3 : jsonOk z = true) : patchO j o = some z := by unfold patchO; rw [if_pos h, h2]; simp [h3]
noncomputable def patchL : J → List JOp → Option J
 | j, [] => some j
 | j, o :: l => match patchO j o with
  | some z => patchL z l
  | none => none
noncomputable def patchAllO (j : J) (l : List JOp) : Option J := if (jsonOk j && decide ((l.length : Int) ≤ 40)) = true then patchL j l else none
theorem opOk_way {o : JOp} (h : opOk o = true) : o.way.length ≤ 6 ∧ jsonOk o.value = true ∧ 1 ≤ o.kind ∧ o.kind ≤ 4 ∧ ∀ s ∈ o.way, textB s = true := by
 unfold opOk at h
 simp only [Bool.and_eq_true, decide_eq_true_eq] at h
 obtain ⟨h1, h2, h3, h4, h5⟩ := h
 have hk := inB_iff.1 h2
 exact ⟨by omega, h4, hk.1, hk.2, fun s hs => List.all_eq_true.1 h1 s hs⟩
end Go.Proofs.Ytlkjpnlpankhpaa.X
