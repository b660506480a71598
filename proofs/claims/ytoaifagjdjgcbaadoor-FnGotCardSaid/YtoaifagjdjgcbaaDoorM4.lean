/- What is proved here: lemmas about the functions that the statement reaches, and what they compute (part 4). Conditions: none. -/
import Derived.Test.YtoaifagjdjgcbaaDoorM3
import Derived.Deep.CutBlock
import Derived.Test.YtoaifagjdjgcbaaDoorM1
import Derived.Test.YtoaifagjdjgcbaaDoorProg
import Derived.ProofKit
import Derived.OpenShut
namespace Go.Proofs.YtoaifagjdjgcbaaDoor.X
open Go.RowKit Go.Sort
set_option linter.unusedVariables false
set_option linter.unusedSimpArgs false
open Ty
theorem laws_at (A : Option Addr) (c : Nat) (bs : List Int) (w : World) (hr : u8.C w A bs) (hm : bs.length ≤ 1048576) (hb : ∀ x ∈ bs, 0 ≤ x ∧ x ≤ 255) :
  Calls Tryd.prog 20 #[.slice A bs.length c, .int .i64 1] w fun e w' => ∃ x : Int, e = .returned (.int .i64 x) ∧ 0 ≤ x ∧ w = w' := by
 have HC := Hd.mk hr; clear hr
 go_enter Tryd.func20, Tryd.ntmps20
 by_cases h : 1 < bs.length
 ·have hd : decide ((1 : Int) < (bs.length : Int)) = true := decide_eq_true (by omega)
  obtain ⟨ad, rfl, _, x0⟩ := C_u8_at HC.out (Below.refl _ _) 1 h
  have hx := hb _ (List.getElem_mem h)
  generalize bs[1] = z at x0 hx
  obtain ⟨hx0, hx1⟩ := hx
  have x1 : w.cell? ⟨ad.block, ad.off + 1, none⟩ = some (.int .u8 z) := by have h1 := x0; unfold Addr.add at h1; simpa using h1
  go_wp2_with fail
  go_ret
  first | exact ⟨_, rfl, by omega, rfl⟩ | exact ⟨by omega, rfl⟩ | exact ⟨z, rfl, hx0, rfl⟩
 ·have hd : decide ((1 : Int) < (bs.length : Int)) = false := decide_eq_false (by omega)
  have hmod : 0 ≤ (7 + (bs.length : Int)).tmod 256 := Int.tmod_nonneg _ (by omega)
  go_wp2_with fail
  go_ret
  first | exact ⟨_, rfl, hmod, rfl⟩ | exact ⟨_, rfl, by omega, rfl⟩
theorem C_takeS {w : World} {A : Option Addr} {l : List ByteArray} (h : str.C w A l) (k : Nat) : str.C w A (l.take k) := by
 refine ⟨by have := h.1; rw [List.length_take]; omega, fun i x hx => ?_⟩
 rw [List.getElem?_take] at hx
 split at hx
 ·exact h.2 i x hx
 ·cases hx
theorem C_dropS {w : World} {A : Option Addr} {l : List ByteArray} (h : str.C w A l) (k : Nat) {A' : Option Addr} (hA : l.length ≤ k ∨ ∀ ad, A = some ad → A' = some (ad.add k)) : str.C w A' (l.drop k) := by
 rcases hA with hA | hA
 ·rw [List.drop_eq_nil_of_le hA]; exact C_nil _
 ·refine ⟨by have := h.1; rw [List.length_drop]; omega, fun i x hx => ?_⟩
  rw [List.getElem?_drop] at hx
  obtain ⟨ad, cs, h1, h2, h3⟩ := h.2 (k + i) x hx
  refine ⟨ad.add k, cs, hA ad h1, h2, fun j u hu => ?_⟩
  have h4 := h3 j u hu
  have e : (ad.add k).add (i * str.sz + j) = ad.add ((k + i) * str.sz + j) := by
   rw [Addr.add_add]
   congr 1
   show k + (i * 1 + j) = (k + i) * 1 + j
   omega
  rw [e]; exact h4
set_option maxHeartbeats 16000000 in
set_option maxRecDepth 100000 in
theorem laws_FnGot {w : World} (A0 : Option Addr) (c0 : Nat) (bs : List Int) (hv0 : bs.length ≤ c0) (hk0 : u8.C w A0 bs) (hb0 : ∀ x ∈ bs, 0 ≤ x ∧ x ≤ 255) (hT : EnvT w) (hE : EnvE w) :
  Calls Tryd.prog 4 #[.slice A0 bs.length c0] w fun e w' => e = .returned (.bool true) ∧ Below w.heap.size w w' := by
 have hm := hk0.1
 have HBS := Hd.mk hk0; clear hk0
 have HB0 := Hd.mk hb0; clear hb0
 have HT := Hd.mk hT; have HE := Hd.mk hE; clear hT hE
 have hB := Hd.mk (Below.refl w.heap.size w)
 go_enter Tryd.func4, Tryd.ntmps4
 go_wp2_with fail
 refine (laws_big _ _ bs w hm).mono ?_
 rintro e w1 ⟨rfl, rfl⟩
 by_cases hbig : (1048576 : Int) < bs.length
 ·have hbb : decide ((1048576 : Int) < bs.length) = true := decide_eq_true hbig
  rw [hbb]
  go_wp2_with fail
  go_ret
  exact ⟨rfl, Below.refl _ _⟩
 have hbb : decide ((1048576 : Int) < bs.length) = false := decide_eq_false hbig
 rw [hbb]
 have hbs : bs.length ≤ 1048576 := by omega
 clear hbig hbb
 go_wp2_with fail
 refine (spec_DrawGet _ _ bs _ (C_below HBS.out hB.out) hbs).mono ?_
 rintro e w1 ⟨j, way, cs, AW, cW, rfl, hK, hWy, hBJ, hwl, hws, hX⟩
 have hB := hB.th hX
 have hz_ := hX.size
 clear hX
 have z1 := Hd.mk hz_; clear hz_
 obtain ⟨A3, c3, A4, c4, rfl, _⟩ := tJ_K.1 hK
 have HK := Hd.mk hK; clear hK
 have h1B := Hd.mk (Below.refl w1.heap.size w1)
 have hb9 : bulkJ (8 + 1) j ≤ 30000 := hBJ 9
 have hcW : way.length ≤ cW := by obtain ⟨_, _, e_, h_, _⟩ := R_C hWy; injection e_ with _ _ e_; omega
 have hbw : ∀ l : List ByteArray, (∀ s ∈ l, s ∈ way) → l.length ≤ 6 → bulkStringS l ≤ 4194304 := fun l h1 h2 => by
  have h3 := bulkL_le4 ByteArray.size 30060 l (fun s hs => hws s (h1 s hs))
  have h4 : l.length * 30060 ≤ 6 * 30060 := Nat.mul_le_mul_right _ h2
  simp only [bulkStringS]; omega
 have HBW := Hd.mk hbw
 clear hBJ hws hbw
 have hWy := Hd.mk (show str.R 9 w1 (rng w.heap.size w1.heap.size) _ way from R_bound hWy)
 obtain ⟨ok, hok⟩ : ∃ z, z = getB j way := ⟨_, rfl⟩
 have HOK := Hd.mk hok; clear hok
 obtain ⟨p, hp⟩ : ∃ z, z = getJ j way := ⟨_, rfl⟩
 have HP := Hd.mk hp; clear hp
 go_wp2_with fail
 apply calls_gen; intro W2 hW
 have hz_ : w1.heap.size + 1 ≤ W2.heap.size := by rw [hW]; simp
 have hE : Below w1.heap.size w1 W2 := by rw [hW]; (repeat (first | with_reducible refine below_alloc ?_ _ | with_reducible refine below_drew ?_)); exact Below.refl _ _
 have hB := hB.th hE
 have h1B := Hd.mk (below_then h1B.out hE)
 have b0 := Hd.mk (show Blk W2 (w1.heap.size) #[.int .i64 j.kind, .int .i64 j.n, .string j.s, .slice A3 j.list.length c3, .slice A4 j.names.length c4] 27 by rw [hW]; first | exact (Blk.new _ _ _) | (simpa using (Blk.new _ _ _)))
 have hWy := Hd.mk (R_below hWy.out hE)
 clear hW hE
 have z2 := Hd.mk hz_; clear hz_
 refine (impl_Get (m := 8) j _ _ _ way _ (Ty.K_below _ h1B.out HK.out) (R_Cv hWy.out) (by omega) (HBW.out way (fun s h => h) hwl) (envT_mv hB.out HT.out) (envE_mv hB.out HE.out)).mono ?_
 rintro e w3 ⟨cp, rfl, hP, hX⟩
 have b0 := b0.dn hX
 have hWy := Hd.mk (R_below hWy.out hX)
 have hB := hB.th hX
 have hz_ := hX.size
 have h1B := Hd.mk (below_then h1B.out hX)
 clear hX
 have z3 := Hd.mk hz_; clear hz_
 rw [← HP.out] at hP
 rw [← HOK.out]
 obtain ⟨pv3, pv4, _, _, rfl, _, pr3, pr4, _⟩ := tJ_O.1 hP
 obtain ⟨pD3, pd3, rfl, _, _⟩ := R_C pr3
 obtain ⟨pD4, pd4, rfl, _, _⟩ := R_C pr4
 clear pr3 pr4
 replace hP := Hd.mk (show (tJ 9).O w3 (rng W2.heap.size w3.heap.size) p _ from Ty.O_bound _ hP)
 obtain ⟨v00, v01, v02, v03, v04, v0z⟩ := blk5 b0.out
 have lfb0_0 := fun o => cell_below (below_alloc (Below.refl _ _) o) v00
 have lfb0_1 := fun o => cell_below (below_alloc (Below.refl _ _) o) v01
 have lfb0_2 := fun o => cell_below (below_alloc (Below.refl _ _) o) v02
 have lfb0_3 := fun o => cell_below (below_alloc (Below.refl _ _) o) v03
 have lfb0_4 := fun o => cell_below (below_alloc (Below.refl _ _) o) v04
 go_wp2_with fail
 clear lfb0_0 lfb0_1 lfb0_2 lfb0_3 lfb0_4
 clear v00 v01 v02 v03 v04 v0z
 apply calls_gen; intro W4 hW
 have hz_ : w3.heap.size + 1 ≤ W4.heap.size := by rw [hW]; simp
 have hE : Below w3.heap.size w3 W4 := by rw [hW]; (repeat (first | with_reducible refine below_alloc ?_ _ | with_reducible refine below_drew ?_)); exact Below.refl _ _
 have hB := hB.th hE
 have h1B := Hd.mk (below_then h1B.out hE)
 have b0 := b0.dn hE
 have b1 := Hd.mk (show Blk W4 (w3.heap.size) #[.int .i64 p.kind, .int .i64 p.n, .string p.s, .slice pD3 p.list.length pd3, .slice pD4 p.names.length pd4] 27 by rw [hW]; first | exact (Blk.new _ _ _) | (simpa using (Blk.new _ _ _)))
 have hWy := Hd.mk (R_below hWy.out hE)
 have hP := hP.ob hE
 clear hW hE
 have z4 := Hd.mk hz_; clear hz_
 refine (spec_Get (m := 8) j _ _ _ way _ (Ty.K_below _ h1B.out HK.out) (R_Cv hWy.out) (by omega) (HBW.out way (fun s h => h) hwl)).mono ?_
 rintro e w5 ⟨cq, rfl, hQ, hX⟩
 have b0 := b0.dn hX
 have b1 := b1.dn hX
 have hWy := Hd.mk (R_below hWy.out hX)
 have hP := hP.ob hX
 have hB := hB.th hX
 have hz_ := hX.size
 have h1B := Hd.mk (below_then h1B.out hX)
 clear hX
 have z5 := Hd.mk hz_; clear hz_
 rw [← HP.out] at hQ
 rw [← HOK.out]
 obtain ⟨qv3, qv4, _, _, rfl, _, qr3, qr4, _⟩ := tJ_O.1 hQ
 obtain ⟨qD3, qd3, rfl, _, _⟩ := R_C qr3
 obtain ⟨qD4, qd4, rfl, _, _⟩ := R_C qr4
 clear qr3 qr4
 clear hQ
 have hoo : (ok != ok) = false := by cases ok <;> rfl
 cases ok
 ·have hp0 : p.kind = 0 := by rw [HP.out]; exact getJ_no HOK.out.symm
  rw [hp0] at b1
  obtain ⟨v00, v01, v02, v03, v04, v0z⟩ := blk5 b0.out
  obtain ⟨v10, v11, v12, v13, v14, v1z⟩ := blk5 b1.out
  have lfb0_0 := fun o => cell_below (below_alloc (Below.refl _ _) o) v00
  have lfb0_1 := fun o => cell_below (below_alloc (Below.refl _ _) o) v01
  have lfb0_2 := fun o => cell_below (below_alloc (Below.refl _ _) o) v02
  have lfb0_3 := fun o => cell_below (below_alloc (Below.refl _ _) o) v03
  have lfb0_4 := fun o => cell_below (below_alloc (Below.refl _ _) o) v04
  have lfb1_0 := fun o => cell_below (below_alloc (Below.refl _ _) o) v10
  have lfb1_1 := fun o => cell_below (below_alloc (Below.refl _ _) o) v11
  have lfb1_2 := fun o => cell_below (below_alloc (Below.refl _ _) o) v12
  have lfb1_3 := fun o => cell_below (below_alloc (Below.refl _ _) o) v13
  have lfb1_4 := fun o => cell_below (below_alloc (Below.refl _ _) o) v14
  go_wp2_with fail
  clear lfb0_0 lfb0_1 lfb0_2 lfb0_3 lfb0_4 lfb1_0 lfb1_1 lfb1_2 lfb1_3 lfb1_4
  clear v00 v01 v02 v03 v04 v0z v10 v11 v12 v13 v14 v1z
  go_ret
  exact ⟨by rfl, below_alloc hB.out _⟩
 ·have v00 : w5.cell? ⟨w1.heap.size, 0, none⟩ = some (.int .i64 j.kind) := b0.out.cell 0 rfl
  have v01 : w5.cell? ⟨w1.heap.size, 1, none⟩ = some (.int .i64 j.n) := b0.out.cell 1 rfl
  have v02 : w5.cell? ⟨w1.heap.size, 2, none⟩ = some (.string j.s) := b0.out.cell 2 rfl
  have v03 : w5.cell? ⟨w1.heap.size, 3, none⟩ = some (.slice A3 j.list.length c3) := b0.out.cell 3 rfl
  have v04 : w5.cell? ⟨w1.heap.size, 4, none⟩ = some (.slice A4 j.names.length c4) := b0.out.cell 4 rfl
  have v0z := b0.out.frozen
  obtain ⟨v10, v11, v12, v13, v14, v1z⟩ := blk5 b1.out
  have lfb0_0 := fun o => cell_below (below_alloc (Below.refl _ _) o) v00
  have lfb0_1 := fun o => cell_below (below_alloc (Below.refl _ _) o) v01
  have lfb0_2 := fun o => cell_below (below_alloc (Below.refl _ _) o) v02
  have lfb0_3 := fun o => cell_below (below_alloc (Below.refl _ _) o) v03
  have lfb0_4 := fun o => cell_below (below_alloc (Below.refl _ _) o) v04
  have lfb1_0 := fun o => cell_below (below_alloc (Below.refl _ _) o) v10
  have lfb1_1 := fun o => cell_below (below_alloc (Below.refl _ _) o) v11
  have lfb1_2 := fun o => cell_below (below_alloc (Below.refl _ _) o) v12
  have lfb1_3 := fun o => cell_below (below_alloc (Below.refl _ _) o) v13
  have lfb1_4 := fun o => cell_below (below_alloc (Below.refl _ _) o) v14
  go_wp2_with fail
  clear lfb0_0 lfb0_1 lfb0_2 lfb0_3 lfb0_4 lfb1_0 lfb1_1 lfb1_2 lfb1_3 lfb1_4
  clear v00 v01 v02 v03 v04 v0z v10 v11 v12 v13 v14 v1z
  apply calls_gen; intro W6 hW
  have hz_ : w5.heap.size + 1 ≤ W6.heap.size := by rw [hW]; simp
  have hE : Below w5.heap.size w5 W6 := by rw [hW]; (repeat (first | with_reducible refine below_alloc ?_ _ | with_reducible refine below_drew ?_)); exact Below.refl _ _
  have hB := hB.th hE
  have h1B := Hd.mk (below_then h1B.out hE)
  have b0 := b0.dn hE
  have b1 := b1.dn hE
  have b2 := Hd.mk (show Blk W6 (w5.heap.size) #[.int .i64 p.kind, .int .i64 p.n, .string p.s, .slice qD3 p.list.length qd3, .slice qD4 p.names.length qd4] 27 by rw [hW]; first | exact (Blk.new _ _ _) | (simpa using (Blk.new _ _ _)))
  have hWy := Hd.mk (R_below hWy.out hE)
  have hP := hP.ob hE
  clear hW hE
  have z6 := Hd.mk hz_; clear hz_
  clear b2
  refine (laws_at _ _ bs _ (C_below HBS.out hB.out) hbs HB0.out).mono ?_
  rintro e w_ ⟨x, rfl, hx, rfl⟩
  obtain ⟨k, hkk⟩ : ∃ k : Nat, x.tmod ((way.length : Int) + 1) = (k : Int) := ⟨(x.tmod ((way.length : Int) + 1)).toNat, by have h1 := Int.tmod_nonneg ((way.length : Int) + 1) hx; omega⟩
  have hkl : k ≤ way.length := by have h1 := Int.tmod_lt_of_pos x (show (0 : Int) < (way.length : Int) + 1 by omega); omega
  obtain ⟨gt1, gt2, gt3, gt4, gt5⟩ := get_cut k HOK.out.symm
  rw [← HP.out] at gt3 gt4 gt5
  obtain ⟨hh, hhe⟩ : ∃ z, z = getJ j (way.take k) := ⟨_, rfl⟩
  rw [← hhe] at gt2 gt3
  have HH := Hd.mk hhe; clear hhe
  have G1 := Hd.mk gt1; have G2 := Hd.mk gt2; have G3 := Hd.mk gt3; have G4 := Hd.mk gt4; have G5 := Hd.mk gt5
  clear gt1 gt2 gt3 gt4 gt5
  have hk0 : (0 : Int) ≤ (k : Int) := by omega
  have hkc : (k : Int) ≤ (cW : Int) := by omega
  have hkw : (k : Int) ≤ (way.length : Int) := by omega
  have hlen9 : ((way.length : Int) + 1 == 0) = false := by simp; omega
  obtain ⟨v00, v01, v02, v03, v04, v0z⟩ := blk5 b0.out
  obtain ⟨v10, v11, v12, v13, v14, v1z⟩ := blk5 b1.out
  go_upto_region 11 with fail
  clear hkk
  clear v00 v01 v02 v03 v04 v0z v10 v11 v12 v13 v14 v1z
  go_cut [10, 11] from 47 to 54 (fun s10 s11 wx => ∃ (p1 : Nat) (hD3 hD4 : Option Addr) (hd3 hd4 : Nat), s10 = .pointer (some ⟨p1, 0, none⟩) ∧ s11 = .bool true ∧ Hd (Blk wx p1 #[.int .i64 hh.kind, .int .i64 hh.n, .string hh.s, .slice hD3 hh.list.length hd3, .slice hD4 hh.names.length hd4] 27) ∧ Hd ((tJ 9).O wx (fun q => W6.heap.size ≤ q ∧ q ≠ p1) hh [Value.int IntKind.i64 hh.kind, .int .i64 hh.n, .string hh.s, .slice hD3 hh.list.length hd3, .slice hD4 hh.names.length hd4]) ∧ Hd (W6.heap.size ≤ p1) ∧ Hd (Blk wx w1.heap.size #[.int .i64 j.kind, .int .i64 j.n, .string j.s, .slice A3 j.list.length c3, .slice A4 j.names.length c4] 27) ∧ Hd (Blk wx w3.heap.size #[.int .i64 p.kind, .int .i64 p.n, .string p.s, .slice pD3 p.list.length pd3, .slice pD4 p.names.length pd4] 27) ∧ Hd (str.R 9 wx (rng w.heap.size w1.heap.size) (.slice AW way.length cW) way) ∧ Hd ((tJ 9).O wx (rng W2.heap.size w3.heap.size) p [Value.int IntKind.i64 p.kind, .int .i64 p.n, .string p.s, .slice pD3 p.list.length pd3, .slice pD4 p.names.length pd4]) ∧ Hd (Below w1.heap.size w1 wx) ∧ Hd (Below w.heap.size w wx) ∧ Hd (W6.heap.size ≤ wx.heap.size))
  case first =>
   have hWL := Hd.mk (Below.refl W6.heap.size W6)
   obtain ⟨v00, v01, v02, v03, v04, v0z⟩ := blk5 b0.out
   obtain ⟨v10, v11, v12, v13, v14, v1z⟩ := blk5 b1.out
   obtain ⟨rv00, rv01, rv02, rv03, rv04⟩ := reg5 v00 v01 v02 v03 v04
   obtain ⟨rv10, rv11, rv12, rv13, rv14⟩ := reg5 v10 v11 v12 v13 v14
   refine region_mixT (.q 0 (.p 1 (.p 2 (.q 3 (.br 4 8 (.p 5 (.p 6 (.p 7 (.b 8 .fin)))) (.b 4 (.p 5 (.p 6 (.p 7 .fin))))))))) [9, 10] (by kernel_rfl) (by kernel_rfl) (fun _ _ _ _ _ h => h) ?_
   refine genT ?_
   intro W7 hW
   have hS := Hd.mk (show Below W6.heap.size W6 W7 by rw [hW]; exact below_drew (Below.refl _ _))
   have hz_ : W6.heap.size ≤ W7.heap.size := by rw [hW]; simp
   have hE : Below W6.heap.size W6 W7 := by rw [hW]; (repeat (first | with_reducible refine below_alloc ?_ _ | with_reducible refine below_drew ?_)); exact Below.refl _ _
   have hB := hB.th hE
   have h1B := Hd.mk (below_then h1B.out hE)
   have hWL := Hd.mk (below_then hWL.out hE)
   have b0 := b0.dn hE
   have b1 := b1.dn hE
   have hWy := Hd.mk (R_below hWy.out hE)
   have hP := hP.ob hE
   clear hW hE
   have z7 := Hd.mk hz_; clear hz_
   iterate 4 ((first | refine mixT_q rfl ?_ | refine mixT_p rfl ?_); go_big_quiet_want; go_big_quiet_op; go_big_quiet_on; refine wpQuiet_nil ?_)
   refine ⟨?_, ?_⟩
   ·refine stepM_of rfl ?_ (by rfl)
    go_wp2_with fail
    apply calls_gen; intro W8 hW
    have hz_ : W7.heap.size ≤ W8.heap.size := by rw [hW]; simp
    have hE : Below W7.heap.size W7 W8 := by rw [hW]; (repeat (first | with_reducible refine below_alloc ?_ _ | with_reducible refine below_drew ?_)); exact Below.refl _ _
    have hB := hB.th hE
    have h1B := Hd.mk (below_then h1B.out hE)
    have hWL := Hd.mk (below_then hWL.out hE)
    replace hS := Hd.mk (below_then hS.out hE)
    have b0 := b0.dn hE
    have b1 := b1.dn hE
    have hWy := Hd.mk (R_below hWy.out hE)
    have hP := hP.ob hE
    clear hW hE
    have z8 := Hd.mk hz_; clear hz_
    have hG := impl_Get (m := 8) j [Value.int IntKind.i64 j.kind, .int .i64 j.n, .string j.s, .slice A3 j.list.length c3, .slice A4 j.names.length c4] AW cW (way.take k) W8 (Ty.K_below _ h1B.out HK.out) (C_takeS (R_Cv hWy.out) k) (by omega) (HBW.out _ (fun s h => List.mem_of_mem_take h) (by rw [List.length_take]; omega)) (envT_mv hB.out HT.out) (envE_mv hB.out HE.out)
    rw [show (way.take k).length = k by rw [List.length_take]; omega] at hG
    refine (hG).mono ?_
    rintro e w9 ⟨cx, rfl, hHO, hX⟩
    have b0 := b0.dn hX
    have b1 := b1.dn hX
    have hWy := Hd.mk (R_below hWy.out hX)
    have hP := hP.ob hX
    have hB := hB.th hX
    replace hS := Hd.mk (below_then hS.out hX)
    have hz_ := hX.size
    have h1B := Hd.mk (below_then h1B.out hX)
    have hWL := Hd.mk (below_then hWL.out hX)
    clear hX
    have z9 := Hd.mk hz_; clear hz_
    clear hG
    rw [G1.out]
    rw [← HH.out] at hHO
    obtain ⟨hv3, hv4, _, _, rfl, _, hr3, hr4, _⟩ := tJ_O.1 hHO
    obtain ⟨hD3, hd3, rfl, _, _⟩ := R_C hr3
    obtain ⟨hD4, hd4, rfl, _, _⟩ := R_C hr4
    clear hr3 hr4
    replace hHO := Hd.mk (show (tJ 9).O w9 (rng W8.heap.size w9.heap.size) hh _ from Ty.O_bound _ hHO)
    go_wp2_with fail
    refine ⟨cls_below hS.out, ?_⟩
    iterate 3 (refine mixT_p rfl ?_; go_big_quiet_want; go_big_quiet_op; go_big_quiet_on; refine wpQuiet_nil ?_)
    refine mixT_b rfl ?_ (by rfl)
    go_wp2_with fail
    refine ⟨cls_below (below_alloc hS.out _), ?_⟩
    refine genT ?_; intro W10 hW
    have hz_ : w9.heap.size + 1 ≤ W10.heap.size := by rw [hW]; simp
    have hE : Below w9.heap.size w9 W10 := by rw [hW]; (repeat (first | with_reducible refine below_alloc ?_ _ | with_reducible refine below_drew ?_)); exact Below.refl _ _
    have hB := hB.th hE
    have h1B := Hd.mk (below_then h1B.out hE)
    have hWL := Hd.mk (below_then hWL.out hE)
    replace hS := Hd.mk (below_then hS.out hE)
    have b0 := b0.dn hE
    have b1 := b1.dn hE
    have b10 := Hd.mk (show Blk W10 (w9.heap.size) #[.int .i64 0, .int .i64 0, .string ⟨#[]⟩, .slice none 0 0, .slice none 0 0] 27 by rw [hW]; first | exact (Blk.new _ _ _) | (simpa using (Blk.new _ _ _)))
    have hWy := Hd.mk (R_below hWy.out hE)
    have hP := hP.ob hE
    have hHO := hHO.ob hE
    clear hW hE
    have z10 := Hd.mk hz_; clear hz_
    refine mixT_fin ?_
    clear hS
    clear rv00 rv01 rv02 rv03 rv04 rv10 rv11 rv12 rv13 rv14
    clear v00 v01 v02 v03 v04 v0z v10 v11 v12 v13 v14 v1z
    obtain ⟨v00, v01, v02, v03, v04, v0z⟩ := blk5 b0.out
    obtain ⟨v10, v11, v12, v13, v14, v1z⟩ := blk5 b1.out
    obtain ⟨fb10_0, fb10_1, fb10_2, fb10_3, fb10_4, fb10_z⟩ := blk5 b10.out
    refine tail_b rfl ?_ (by rfl)
    go_wp2_with fail
    refine mixQ_n ?_
    refine tail_b rfl ?_ (by rfl)
    go_wp2_with fail
    refine mixQ_n ?_
    refine tail_nil ?_
    clear v00 v01 v02 v03 v04 v0z v10 v11 v12 v13 v14 v1z fb10_0 fb10_1 fb10_2 fb10_3 fb10_4 fb10_z
    go_wp2_with fail
    go_meet
    have key : ∀ W, W = (((((W10.setCell ⟨w9.heap.size, 0, none⟩ (Value.int IntKind.i64 hh.kind)).setCell ⟨w9.heap.size, 1, none⟩ (Value.int IntKind.i64 hh.n)).setCell ⟨w9.heap.size, 2, none⟩ (Value.string hh.s)).setCell ⟨w9.heap.size, 3, none⟩ (Value.slice hD3 hh.list.length hd3)).setCell ⟨w9.heap.size, 4, none⟩ (Value.slice hD4 hh.names.length hd4)) → Hd (Blk W w9.heap.size #[.int .i64 hh.kind, .int .i64 hh.n, .string hh.s, .slice hD3 hh.list.length hd3, .slice hD4 hh.names.length hd4] 27) ∧ Hd ((tJ 9).O W (fun q => W6.heap.size ≤ q ∧ q ≠ w9.heap.size) hh [Value.int IntKind.i64 hh.kind, .int .i64 hh.n, .string hh.s, .slice hD3 hh.list.length hd3, .slice hD4 hh.names.length hd4]) ∧ Hd (W6.heap.size ≤ w9.heap.size) ∧ Hd (Blk W w1.heap.size #[.int .i64 j.kind, .int .i64 j.n, .string j.s, .slice A3 j.list.length c3, .slice A4 j.names.length c4] 27) ∧ Hd (Blk W w3.heap.size #[.int .i64 p.kind, .int .i64 p.n, .string p.s, .slice pD3 p.list.length pd3, .slice pD4 p.names.length pd4] 27) ∧ Hd (str.R 9 W (rng w.heap.size w1.heap.size) (.slice AW way.length cW) way) ∧ Hd ((tJ 9).O W (rng W2.heap.size w3.heap.size) p [Value.int IntKind.i64 p.kind, .int .i64 p.n, .string p.s, .slice pD3 p.list.length pd3, .slice pD4 p.names.length pd4]) ∧ Hd (Below w1.heap.size w1 W) ∧ Hd (Below w.heap.size w W) ∧ Hd (W6.heap.size ≤ W.heap.size) := by
     intro W hW
     have z1_ := z1.out; have z2_ := z2.out; have z3_ := z3.out; have z4_ := z4.out; have z5_ := z5.out; have z6_ := z6.out; have z7_ := z7.out; have z8_ := z8.out; have z9_ := z9.out; have z10_ := z10.out
     have hSz_ := hB.out.size
     have hSw_ := hWL.out.size
     have h1B := Hd.mk (show Below w1.heap.size w1 W by rw [hW]; exact ((Fr.of_below h1B.out (fun q => q = w9.heap.size)).then_ (show Fr W10 _ (fun q => q = w9.heap.size) from by (repeat (first | with_reducible refine Fr.setCell (S := fun q => q = w9.heap.size) ?_ _ (fun _ => rfl) _)); exact Fr.refl _ _) (fun k hk _ => hk)).below (fun k hk => by have h2 := h1B.out.size; (try simp only at hk); omega))
     have hz_ : W10.heap.size ≤ W.heap.size := by rw [hW]; simp
     have eF : Fr W10 W (fun k => k = w9.heap.size ∨ W10.heap.size ≤ k) := by rw [hW]; (repeat (first | with_reducible refine Fr.setCell ?_ _ (fun _ => by simp <;> omega) _ | with_reducible refine Fr.alloc ?_ _ | with_reducible refine Fr.drew ?_)); exact Fr.refl _ _
     have z1_ := z1.out; have z2_ := z2.out; have z3_ := z3.out; have z4_ := z4.out; have z5_ := z5.out; have z6_ := z6.out; have z7_ := z7.out; have z8_ := z8.out; have z9_ := z9.out; have z10_ := z10.out
     have hB := Hd.mk (((Fr.of_below hB.out (fun k => k = w9.heap.size ∨ W10.heap.size ≤ k)).then_ eF (fun k hk _ => hk)).below (fun k hk => by have := hB.out.size; omega))
     have b0 := Hd.mk (b0.out.fr eF (fun h => by have hlt_ := b0.out.lt; (try simp only at h); omega))
     have b1 := Hd.mk (b1.out.fr eF (fun h => by have hlt_ := b1.out.lt; (try simp only at h); omega))
     have b10 := Hd.mk (show Blk W (w9.heap.size) #[.int .i64 hh.kind, .int .i64 hh.n, .string hh.s, .slice hD3 hh.list.length hd3, .slice hD4 hh.names.length hd4] 27 by rw [hW]; exact (Blk.all b10.out [Value.int IntKind.i64 hh.kind, .int .i64 hh.n, .string hh.s, .slice hD3 hh.list.length hd3, .slice hD4 hh.names.length hd4] rfl))
     have hWy := Hd.mk (R_fr hWy.out eF (fun k hk hl h => by skip; (try simp only [rng] at hk); (try simp only at hk); (try simp only at h); omega))
     have hP := Hd.mk (Ty.O_fr hP.out eF (fun k hk hl h => by skip; (try simp only [rng] at hk); (try simp only at hk); (try simp only at h); omega))
     have hHO := Hd.mk (Ty.O_fr hHO.out eF (fun k hk hl h => by skip; (try simp only [rng] at hk); (try simp only at hk); (try simp only at h); omega))
     clear hW eF
     have z11 := Hd.mk hz_; clear hz_
     have z1_ := z1.out; have z2_ := z2.out; have z3_ := z3.out; have z4_ := z4.out; have z5_ := z5.out; have z6_ := z6.out; have z7_ := z7.out; have z8_ := z8.out; have z9_ := z9.out; have z10_ := z10.out; have z11_ := z11.out
     exact ⟨b10, ⟨Ty.O_mono _ (fun q h => by have h1 := h.1; have h2 := h.2; exact ⟨by omega, by omega⟩) hHO.out⟩, ⟨by omega⟩, b0, b1, hWy, hP, h1B, hB, ⟨by omega⟩⟩
    exact ⟨_, _, _, _, _, rfl, rfl, key _ rfl⟩
   ·refine stepM_of rfl ?_ (by rfl)
    go_wp2_with fail
    refine ⟨cls_below (below_alloc hS.out _), ?_⟩
    refine genT ?_; intro W8 hW
    have hz_ : W7.heap.size + 1 ≤ W8.heap.size := by rw [hW]; simp
    have hE : Below W7.heap.size W7 W8 := by rw [hW]; (repeat (first | with_reducible refine below_alloc ?_ _ | with_reducible refine below_drew ?_)); exact Below.refl _ _
    have hB := hB.th hE
    have h1B := Hd.mk (below_then h1B.out hE)
    have hWL := Hd.mk (below_then hWL.out hE)
    replace hS := Hd.mk (below_then hS.out hE)
    have b0 := b0.dn hE
    have b1 := b1.dn hE
    have b10 := Hd.mk (show Blk W8 (W7.heap.size) #[.int .i64 0, .int .i64 0, .string ⟨#[]⟩, .slice none 0 0, .slice none 0 0] 27 by rw [hW]; first | exact (Blk.new _ _ _) | (simpa using (Blk.new _ _ _)))
    have hWy := Hd.mk (R_below hWy.out hE)
    have hP := hP.ob hE
    clear hW hE
    have z8 := Hd.mk hz_; clear hz_
    refine mixT_b rfl ?_ (by rfl)
    go_wp2_with fail
    apply calls_gen; intro W9 hW
    have hz_ : W8.heap.size ≤ W9.heap.size := by rw [hW]; simp
    have hE : Below W8.heap.size W8 W9 := by rw [hW]; (repeat (first | with_reducible refine below_alloc ?_ _ | with_reducible refine below_drew ?_)); exact Below.refl _ _
    have hB := hB.th hE
    have h1B := Hd.mk (below_then h1B.out hE)
    have hWL := Hd.mk (below_then hWL.out hE)
    replace hS := Hd.mk (below_then hS.out hE)
    have b0 := b0.dn hE
    have b1 := b1.dn hE
    have b10 := Hd.mk (b10.out.below hE)
    have hWy := Hd.mk (R_below hWy.out hE)
    have hP := hP.ob hE
    clear hW hE
    have z9 := Hd.mk hz_; clear hz_
    have hG := impl_Get (m := 8) j [Value.int IntKind.i64 j.kind, .int .i64 j.n, .string j.s, .slice A3 j.list.length c3, .slice A4 j.names.length c4] AW cW (way.take k) W9 (Ty.K_below _ h1B.out HK.out) (C_takeS (R_Cv hWy.out) k) (by omega) (HBW.out _ (fun s h => List.mem_of_mem_take h) (by rw [List.length_take]; omega)) (envT_mv hB.out HT.out) (envE_mv hB.out HE.out)
    rw [show (way.take k).length = k by rw [List.length_take]; omega] at hG
    refine (hG).mono ?_
    rintro e w10 ⟨cx, rfl, hHO, hX⟩
    have b0 := b0.dn hX
    have b1 := b1.dn hX
    have b10 := Hd.mk (b10.out.below hX)
    have hWy := Hd.mk (R_below hWy.out hX)
    have hP := hP.ob hX
    have hB := hB.th hX
    replace hS := Hd.mk (below_then hS.out hX)
    have hz_ := hX.size
    have h1B := Hd.mk (below_then h1B.out hX)
    have hWL := Hd.mk (below_then hWL.out hX)
    clear hX
    have z10 := Hd.mk hz_; clear hz_
    clear hG
    rw [G1.out]
    rw [← HH.out] at hHO
    obtain ⟨hv3, hv4, _, _, rfl, _, hr3, hr4, _⟩ := tJ_O.1 hHO
    obtain ⟨hD3, hd3, rfl, _, _⟩ := R_C hr3
    obtain ⟨hD4, hd4, rfl, _, _⟩ := R_C hr4
    clear hr3 hr4
    replace hHO := Hd.mk (show (tJ 9).O w10 (rng W9.heap.size w10.heap.size) hh _ from Ty.O_bound _ hHO)
    go_wp2_with fail
    refine ⟨cls_below hS.out, ?_⟩
    iterate 3 (refine mixT_p rfl ?_; go_big_quiet_want; go_big_quiet_op; go_big_quiet_on; refine wpQuiet_nil ?_)
    refine mixT_fin ?_
    clear hS
    clear rv00 rv01 rv02 rv03 rv04 rv10 rv11 rv12 rv13 rv14
    clear v00 v01 v02 v03 v04 v0z v10 v11 v12 v13 v14 v1z
    obtain ⟨v00, v01, v02, v03, v04, v0z⟩ := blk5 b0.out
    obtain ⟨v10, v11, v12, v13, v14, v1z⟩ := blk5 b1.out
    obtain ⟨fb10_0, fb10_1, fb10_2, fb10_3, fb10_4, fb10_z⟩ := blk5 b10.out
    refine tail_b rfl ?_ (by rfl)
    go_wp2_with fail
    refine mixQ_n ?_
    refine tail_b rfl ?_ (by rfl)
    go_wp2_with fail
    refine mixQ_n ?_
    refine tail_nil ?_
    clear v00 v01 v02 v03 v04 v0z v10 v11 v12 v13 v14 v1z fb10_0 fb10_1 fb10_2 fb10_3 fb10_4 fb10_z
    go_wp2_with fail
    go_meet
    have key : ∀ W, W = (((((w10.setCell ⟨W7.heap.size, 0, none⟩ (Value.int IntKind.i64 hh.kind)).setCell ⟨W7.heap.size, 1, none⟩ (Value.int IntKind.i64 hh.n)).setCell ⟨W7.heap.size, 2, none⟩ (Value.string hh.s)).setCell ⟨W7.heap.size, 3, none⟩ (Value.slice hD3 hh.list.length hd3)).setCell ⟨W7.heap.size, 4, none⟩ (Value.slice hD4 hh.names.length hd4)) → Hd (Blk W W7.heap.size #[.int .i64 hh.kind, .int .i64 hh.n, .string hh.s, .slice hD3 hh.list.length hd3, .slice hD4 hh.names.length hd4] 27) ∧ Hd ((tJ 9).O W (fun q => W6.heap.size ≤ q ∧ q ≠ W7.heap.size) hh [Value.int IntKind.i64 hh.kind, .int .i64 hh.n, .string hh.s, .slice hD3 hh.list.length hd3, .slice hD4 hh.names.length hd4]) ∧ Hd (W6.heap.size ≤ W7.heap.size) ∧ Hd (Blk W w1.heap.size #[.int .i64 j.kind, .int .i64 j.n, .string j.s, .slice A3 j.list.length c3, .slice A4 j.names.length c4] 27) ∧ Hd (Blk W w3.heap.size #[.int .i64 p.kind, .int .i64 p.n, .string p.s, .slice pD3 p.list.length pd3, .slice pD4 p.names.length pd4] 27) ∧ Hd (str.R 9 W (rng w.heap.size w1.heap.size) (.slice AW way.length cW) way) ∧ Hd ((tJ 9).O W (rng W2.heap.size w3.heap.size) p [Value.int IntKind.i64 p.kind, .int .i64 p.n, .string p.s, .slice pD3 p.list.length pd3, .slice pD4 p.names.length pd4]) ∧ Hd (Below w1.heap.size w1 W) ∧ Hd (Below w.heap.size w W) ∧ Hd (W6.heap.size ≤ W.heap.size) := by
     intro W hW
     have z1_ := z1.out; have z2_ := z2.out; have z3_ := z3.out; have z4_ := z4.out; have z5_ := z5.out; have z6_ := z6.out; have z7_ := z7.out; have z8_ := z8.out; have z9_ := z9.out; have z10_ := z10.out
     have hSz_ := hB.out.size
     have hSw_ := hWL.out.size
     have h1B := Hd.mk (show Below w1.heap.size w1 W by rw [hW]; exact ((Fr.of_below h1B.out (fun q => q = W7.heap.size)).then_ (show Fr w10 _ (fun q => q = W7.heap.size) from by (repeat (first | with_reducible refine Fr.setCell (S := fun q => q = W7.heap.size) ?_ _ (fun _ => rfl) _)); exact Fr.refl _ _) (fun k hk _ => hk)).below (fun k hk => by have h2 := h1B.out.size; (try simp only at hk); omega))
     have hz_ : w10.heap.size ≤ W.heap.size := by rw [hW]; simp
     have eF : Fr w10 W (fun k => k = W7.heap.size ∨ w10.heap.size ≤ k) := by rw [hW]; (repeat (first | with_reducible refine Fr.setCell ?_ _ (fun _ => by simp <;> omega) _ | with_reducible refine Fr.alloc ?_ _ | with_reducible refine Fr.drew ?_)); exact Fr.refl _ _
     have z1_ := z1.out; have z2_ := z2.out; have z3_ := z3.out; have z4_ := z4.out; have z5_ := z5.out; have z6_ := z6.out; have z7_ := z7.out; have z8_ := z8.out; have z9_ := z9.out; have z10_ := z10.out
     have hB := Hd.mk (((Fr.of_below hB.out (fun k => k = W7.heap.size ∨ w10.heap.size ≤ k)).then_ eF (fun k hk _ => hk)).below (fun k hk => by have := hB.out.size; omega))
     have b0 := Hd.mk (b0.out.fr eF (fun h => by have hlt_ := b0.out.lt; (try simp only at h); omega))
     have b1 := Hd.mk (b1.out.fr eF (fun h => by have hlt_ := b1.out.lt; (try simp only at h); omega))
     have b10 := Hd.mk (show Blk W (W7.heap.size) #[.int .i64 hh.kind, .int .i64 hh.n, .string hh.s, .slice hD3 hh.list.length hd3, .slice hD4 hh.names.length hd4] 27 by rw [hW]; exact (Blk.all b10.out [Value.int IntKind.i64 hh.kind, .int .i64 hh.n, .string hh.s, .slice hD3 hh.list.length hd3, .slice hD4 hh.names.length hd4] rfl))
     have hWy := Hd.mk (R_fr hWy.out eF (fun k hk hl h => by skip; (try simp only [rng] at hk); (try simp only at hk); (try simp only at h); omega))
     have hP := Hd.mk (Ty.O_fr hP.out eF (fun k hk hl h => by skip; (try simp only [rng] at hk); (try simp only at hk); (try simp only at h); omega))
     have hHO := Hd.mk (Ty.O_fr hHO.out eF (fun k hk hl h => by skip; (try simp only [rng] at hk); (try simp only at hk); (try simp only at h); omega))
     clear hW eF
     have z11 := Hd.mk hz_; clear hz_
     have z1_ := z1.out; have z2_ := z2.out; have z3_ := z3.out; have z4_ := z4.out; have z5_ := z5.out; have z6_ := z6.out; have z7_ := z7.out; have z8_ := z8.out; have z9_ := z9.out; have z10_ := z10.out; have z11_ := z11.out
     exact ⟨b10, ⟨Ty.O_mono _ (fun q h => by have h1 := h.1; have h2 := h.2; exact ⟨by omega, by omega⟩) hHO.out⟩, ⟨by omega⟩, b0, b1, hWy, hP, h1B, hB, ⟨by omega⟩⟩
    exact ⟨_, _, _, _, _, rfl, rfl, key _ rfl⟩
  case rest =>
  clear b0 b1 hWy hP h1B hB
  obtain ⟨p1, hD3, hD4, hd3, hd4, rfl, rfl, b3, hHO, hp1, b0, b1, hWy, hP, h1B, hB, hzw⟩ := hcut
  have hp1l := Hd.mk (show p1 < wc.heap.size from b3.out.lt)
  have hWL := Hd.mk (Below.refl wc.heap.size wc)
  replace hHO := Hd.mk (Ty.O_bound _ hHO.out)
  obtain ⟨v00, v01, v02, v03, v04, v0z⟩ := blk5 b0.out
  obtain ⟨v10, v11, v12, v13, v14, v1z⟩ := blk5 b1.out
  obtain ⟨v30, v31, v32, v33, v34, v3z⟩ := blk5 b3.out
  go_upto_region 12 with fail
  clear v00 v01 v02 v03 v04 v0z v10 v11 v12 v13 v14 v1z v30 v31 v32 v33 v34 v3z
  go_cut [12, 13] from 55 to 62 (fun s12 s13 wx => ∃ (p2 : Nat) (rD3 rD4 : Option Addr) (rd3 rd4 : Nat), s12 = .pointer (some ⟨p2, 0, none⟩) ∧ s13 = .bool true ∧ Hd (Blk wx p2 #[.int .i64 p.kind, .int .i64 p.n, .string p.s, .slice rD3 p.list.length rd3, .slice rD4 p.names.length rd4] 27) ∧ Hd ((tJ 9).O wx (fun q => wc.heap.size ≤ q ∧ q ≠ p2) p [Value.int IntKind.i64 p.kind, .int .i64 p.n, .string p.s, .slice rD3 p.list.length rd3, .slice rD4 p.names.length rd4]) ∧ Hd (wc.heap.size ≤ p2) ∧ Hd (Blk wx w1.heap.size #[.int .i64 j.kind, .int .i64 j.n, .string j.s, .slice A3 j.list.length c3, .slice A4 j.names.length c4] 27) ∧ Hd (Blk wx w3.heap.size #[.int .i64 p.kind, .int .i64 p.n, .string p.s, .slice pD3 p.list.length pd3, .slice pD4 p.names.length pd4] 27) ∧ Hd (str.R 9 wx (rng w.heap.size w1.heap.size) (.slice AW way.length cW) way) ∧ Hd ((tJ 9).O wx (rng W2.heap.size w3.heap.size) p [Value.int IntKind.i64 p.kind, .int .i64 p.n, .string p.s, .slice pD3 p.list.length pd3, .slice pD4 p.names.length pd4]) ∧ Hd (Below w1.heap.size w1 wx) ∧ Hd (Below w.heap.size w wx) ∧ Hd (wc.heap.size ≤ wx.heap.size))
  case first =>
   have hform : (AW = none ∧ cW = 0 ∧ way.length = 0) ∨ ∃ gW, AW = some ⟨gW, 0, none⟩ := by
    by_cases h0 : way.length = 0
    ·obtain ⟨inner, f_, ⟨_, ho⟩, _, _⟩ := hWy.out
     rcases ho with ⟨he, _⟩ | ⟨g', cap', cur, he, _⟩
     ·injection he with e1 _ e3
      exact .inl ⟨e1, e3, h0⟩
     ·injection he with e1 _ _
      exact .inr ⟨g', e1⟩
    ·obtain ⟨g', cap, hv, _, _⟩ := R_form hWy.out (by omega)
     injection hv with e1 _ _
     exact .inr ⟨g', e1⟩
   have hfin : (tJ (8 + 1)).K wc hh [Value.int IntKind.i64 hh.kind, .int .i64 hh.n, .string hh.s, .slice hD3 hh.list.length hd3, .slice hD4 hh.names.length hd4] := Ty.O_K _ hHO.out
   have HFIN := Hd.mk hfin; clear hfin
   have hhb : bulkJ (8 + 1) hh ≤ 4194304 := by rw [HH.out]; exact Nat.le_trans (bulk_getJ HK.out (way.take k)) (by omega)
   rcases hform with ⟨rfl, rfl, hw0⟩ | ⟨gW, rfl⟩
   ·obtain rfl : k = 0 := by omega
    obtain rfl : way = [] := List.eq_nil_of_length_eq_zero hw0
    clear hkc hkw hw0
    have hdr : ([] : List ByteArray).drop 0 = [] := List.drop_eq_nil_of_le (by omega)
    obtain ⟨v00, v01, v02, v03, v04, v0z⟩ := blk5 b0.out
    obtain ⟨v10, v11, v12, v13, v14, v1z⟩ := blk5 b1.out
    obtain ⟨v30, v31, v32, v33, v34, v3z⟩ := blk5 b3.out
    obtain ⟨rv00, rv01, rv02, rv03, rv04⟩ := reg5 v00 v01 v02 v03 v04
    obtain ⟨rv10, rv11, rv12, rv13, rv14⟩ := reg5 v10 v11 v12 v13 v14
    obtain ⟨rv30, rv31, rv32, rv33, rv34⟩ := reg5 v30 v31 v32 v33 v34
    refine region_mixT (.q 0 (.p 1 (.p 2 (.q 3 (.br 4 8 (.p 5 (.p 6 (.p 7 (.b 8 .fin)))) (.b 4 (.p 5 (.p 6 (.p 7 .fin))))))))) [9, 10] (by kernel_rfl) (by kernel_rfl) (fun _ _ _ _ _ h => h) ?_
    refine genT ?_
    intro W7 hW
    have hS := Hd.mk (show Below wc.heap.size wc W7 by rw [hW]; exact below_drew (Below.refl _ _))
    have hz_ : wc.heap.size ≤ W7.heap.size := by rw [hW]; simp
    have hE : Below wc.heap.size wc W7 := by rw [hW]; (repeat (first | with_reducible refine below_alloc ?_ _ | with_reducible refine below_drew ?_)); exact Below.refl _ _
    have hB := hB.th hE
    have h1B := Hd.mk (below_then h1B.out hE)
    have hWL := Hd.mk (below_then hWL.out hE)
    have b0 := b0.dn hE
    have b1 := b1.dn hE
    have b3 := b3.dn hE
    have hWy := Hd.mk (R_below hWy.out hE)
    have hP := hP.ob hE
    have hHO := hHO.ob hE
    clear hW hE
    have z7 := Hd.mk hz_; clear hz_
    iterate 4 ((first | refine mixT_q rfl ?_ | refine mixT_p rfl ?_); go_big_quiet_want; go_big_quiet_op; go_big_quiet_on; refine wpQuiet_nil ?_)
    refine ⟨?_, ?_⟩
    ·refine stepM_of rfl ?_ (by rfl)
     go_wp2_with fail
     apply calls_gen; intro W8 hW
     have hz_ : W7.heap.size ≤ W8.heap.size := by rw [hW]; simp
     have hE : Below W7.heap.size W7 W8 := by rw [hW]; (repeat (first | with_reducible refine below_alloc ?_ _ | with_reducible refine below_drew ?_)); exact Below.refl _ _
     have hB := hB.th hE
     have h1B := Hd.mk (below_then h1B.out hE)
     have hWL := Hd.mk (below_then hWL.out hE)
     replace hS := Hd.mk (below_then hS.out hE)
     have b0 := b0.dn hE
     have b1 := b1.dn hE
     have b3 := b3.dn hE
     have hWy := Hd.mk (R_below hWy.out hE)
     have hP := hP.ob hE
     have hHO := hHO.ob hE
     clear hW hE
     have z8 := Hd.mk hz_; clear hz_
     have hG := impl_Get (m := 8) hh [Value.int IntKind.i64 hh.kind, .int .i64 hh.n, .string hh.s, .slice hD3 hh.list.length hd3, .slice hD4 hh.names.length hd4] none (0) (([] : List ByteArray).drop 0) W8 (Ty.K_below _ hWL.out HFIN.out) (by rw [hdr]; exact C_nil _) hhb (HBW.out _ (fun s h => List.mem_of_mem_drop h) (by rw [List.length_drop]; omega)) (envT_mv hB.out HT.out) (envE_mv hB.out HE.out)
     rw [show (([] : List ByteArray).drop 0).length = 0 by rw [List.length_drop] <;> omega] at hG
     refine (hG).mono ?_
     rintro e w9 ⟨cx, rfl, hHO2, hX⟩
     have b0 := b0.dn hX
     have b1 := b1.dn hX
     have b3 := b3.dn hX
     have hWy := Hd.mk (R_below hWy.out hX)
     have hP := hP.ob hX
     have hHO := hHO.ob hX
     have hB := hB.th hX
     replace hS := Hd.mk (below_then hS.out hX)
     have hz_ := hX.size
     have h1B := Hd.mk (below_then h1B.out hX)
     have hWL := Hd.mk (below_then hWL.out hX)
     clear hX
     have z9 := Hd.mk hz_; clear hz_
     clear hG
     rw [G2.out]
     rw [G3.out] at hHO2
     obtain ⟨rv3, rv4, _, _, rfl, _, rr3, rr4, _⟩ := tJ_O.1 hHO2
     obtain ⟨rD3, rd3, rfl, _, _⟩ := R_C rr3
     obtain ⟨rD4, rd4, rfl, _, _⟩ := R_C rr4
     clear rr3 rr4
     replace hHO2 := Hd.mk (show (tJ 9).O w9 (rng W8.heap.size w9.heap.size) p _ from Ty.O_bound _ hHO2)
     go_wp2_with fail
     refine ⟨cls_below hS.out, ?_⟩
     iterate 3 (refine mixT_p rfl ?_; go_big_quiet_want; go_big_quiet_op; go_big_quiet_on; refine wpQuiet_nil ?_)
     refine mixT_b rfl ?_ (by rfl)
     go_wp2_with fail
     refine ⟨cls_below (below_alloc hS.out _), ?_⟩
     refine genT ?_; intro W10 hW
     have hz_ : w9.heap.size + 1 ≤ W10.heap.size := by rw [hW]; simp
     have hE : Below w9.heap.size w9 W10 := by rw [hW]; (repeat (first | with_reducible refine below_alloc ?_ _ | with_reducible refine below_drew ?_)); exact Below.refl _ _
     have hB := hB.th hE
     have h1B := Hd.mk (below_then h1B.out hE)
     have hWL := Hd.mk (below_then hWL.out hE)
     replace hS := Hd.mk (below_then hS.out hE)
     have b0 := b0.dn hE
     have b1 := b1.dn hE
     have b3 := b3.dn hE
     have b10 := Hd.mk (show Blk W10 (w9.heap.size) #[.int .i64 0, .int .i64 0, .string ⟨#[]⟩, .slice none 0 0, .slice none 0 0] 27 by rw [hW]; first | exact (Blk.new _ _ _) | (simpa using (Blk.new _ _ _)))
     have hWy := Hd.mk (R_below hWy.out hE)
     have hP := hP.ob hE
     have hHO := hHO.ob hE
     have hHO2 := hHO2.ob hE
     clear hW hE
     have z10 := Hd.mk hz_; clear hz_
     refine mixT_fin ?_
     clear hS
     clear rv00 rv01 rv02 rv03 rv04 rv10 rv11 rv12 rv13 rv14 rv30 rv31 rv32 rv33 rv34
     clear v00 v01 v02 v03 v04 v0z v10 v11 v12 v13 v14 v1z v30 v31 v32 v33 v34 v3z
     obtain ⟨v00, v01, v02, v03, v04, v0z⟩ := blk5 b0.out
     obtain ⟨v10, v11, v12, v13, v14, v1z⟩ := blk5 b1.out
     obtain ⟨v30, v31, v32, v33, v34, v3z⟩ := blk5 b3.out
     obtain ⟨fb10_0, fb10_1, fb10_2, fb10_3, fb10_4, fb10_z⟩ := blk5 b10.out
     refine tail_b rfl ?_ (by rfl)
     go_wp2_with fail
     refine mixQ_n ?_
     refine tail_b rfl ?_ (by rfl)
     go_wp2_with fail
     refine mixQ_n ?_
     refine tail_nil ?_
     clear v00 v01 v02 v03 v04 v0z v10 v11 v12 v13 v14 v1z v30 v31 v32 v33 v34 v3z fb10_0 fb10_1 fb10_2 fb10_3 fb10_4 fb10_z
     go_wp2_with fail
     go_meet
     have key : ∀ W, W = (((((W10.setCell ⟨w9.heap.size, 0, none⟩ (Value.int IntKind.i64 p.kind)).setCell ⟨w9.heap.size, 1, none⟩ (Value.int IntKind.i64 p.n)).setCell ⟨w9.heap.size, 2, none⟩ (Value.string p.s)).setCell ⟨w9.heap.size, 3, none⟩ (Value.slice rD3 p.list.length rd3)).setCell ⟨w9.heap.size, 4, none⟩ (Value.slice rD4 p.names.length rd4)) → Hd (Blk W w9.heap.size #[.int .i64 p.kind, .int .i64 p.n, .string p.s, .slice rD3 p.list.length rd3, .slice rD4 p.names.length rd4] 27) ∧ Hd ((tJ 9).O W (fun q => wc.heap.size ≤ q ∧ q ≠ w9.heap.size) p [Value.int IntKind.i64 p.kind, .int .i64 p.n, .string p.s, .slice rD3 p.list.length rd3, .slice rD4 p.names.length rd4]) ∧ Hd (wc.heap.size ≤ w9.heap.size) ∧ Hd (Blk W w1.heap.size #[.int .i64 j.kind, .int .i64 j.n, .string j.s, .slice A3 j.list.length c3, .slice A4 j.names.length c4] 27) ∧ Hd (Blk W w3.heap.size #[.int .i64 p.kind, .int .i64 p.n, .string p.s, .slice pD3 p.list.length pd3, .slice pD4 p.names.length pd4] 27) ∧ Hd (str.R 9 W (rng w.heap.size w1.heap.size) (.slice none ([] : List ByteArray).length 0) ([] : List ByteArray)) ∧ Hd ((tJ 9).O W (rng W2.heap.size w3.heap.size) p [Value.int IntKind.i64 p.kind, .int .i64 p.n, .string p.s, .slice pD3 p.list.length pd3, .slice pD4 p.names.length pd4]) ∧ Hd (Below w1.heap.size w1 W) ∧ Hd (Below w.heap.size w W) ∧ Hd (wc.heap.size ≤ W.heap.size) := by
      intro W hW
      have z1_ := z1.out; have z2_ := z2.out; have z3_ := z3.out; have z4_ := z4.out; have z5_ := z5.out; have z6_ := z6.out; have hp1_ := hp1.out; have hzw_ := hzw.out; have hp1l_ := hp1l.out; have z7_ := z7.out; have z8_ := z8.out; have z9_ := z9.out; have z10_ := z10.out
      have hSz_ := hB.out.size
      have hSw_ := hWL.out.size
      have h1B := Hd.mk (show Below w1.heap.size w1 W by rw [hW]; exact ((Fr.of_below h1B.out (fun q => q = w9.heap.size)).then_ (show Fr W10 _ (fun q => q = w9.heap.size) from by (repeat (first | with_reducible refine Fr.setCell (S := fun q => q = w9.heap.size) ?_ _ (fun _ => rfl) _)); exact Fr.refl _ _) (fun k hk _ => hk)).below (fun k hk => by have h2 := h1B.out.size; (try simp only at hk); omega))
      have hz_ : W10.heap.size ≤ W.heap.size := by rw [hW]; simp
      have eF : Fr W10 W (fun k => k = w9.heap.size ∨ W10.heap.size ≤ k) := by rw [hW]; (repeat (first | with_reducible refine Fr.setCell ?_ _ (fun _ => by simp <;> omega) _ | with_reducible refine Fr.alloc ?_ _ | with_reducible refine Fr.drew ?_)); exact Fr.refl _ _
      have z1_ := z1.out; have z2_ := z2.out; have z3_ := z3.out; have z4_ := z4.out; have z5_ := z5.out; have z6_ := z6.out; have hp1_ := hp1.out; have hzw_ := hzw.out; have hp1l_ := hp1l.out; have z7_ := z7.out; have z8_ := z8.out; have z9_ := z9.out; have z10_ := z10.out
      have hB := Hd.mk (((Fr.of_below hB.out (fun k => k = w9.heap.size ∨ W10.heap.size ≤ k)).then_ eF (fun k hk _ => hk)).below (fun k hk => by have := hB.out.size; omega))
      have b0 := Hd.mk (b0.out.fr eF (fun h => by have hlt_ := b0.out.lt; (try simp only at h); omega))
      have b1 := Hd.mk (b1.out.fr eF (fun h => by have hlt_ := b1.out.lt; (try simp only at h); omega))
      have b3 := Hd.mk (b3.out.fr eF (fun h => by have hlt_ := b3.out.lt; (try simp only at h); omega))
      have b10 := Hd.mk (show Blk W (w9.heap.size) #[.int .i64 p.kind, .int .i64 p.n, .string p.s, .slice rD3 p.list.length rd3, .slice rD4 p.names.length rd4] 27 by rw [hW]; exact (Blk.all b10.out [Value.int IntKind.i64 p.kind, .int .i64 p.n, .string p.s, .slice rD3 p.list.length rd3, .slice rD4 p.names.length rd4] rfl))
      have hWy := Hd.mk (R_fr hWy.out eF (fun k hk hl h => by skip; (try simp only [rng] at hk); (try simp only at hk); (try simp only at h); omega))
      have hP := Hd.mk (Ty.O_fr hP.out eF (fun k hk hl h => by skip; (try simp only [rng] at hk); (try simp only at hk); (try simp only at h); omega))
      have hHO := Hd.mk (Ty.O_fr hHO.out eF (fun k hk hl h => by skip; (try simp only [rng] at hk); (try simp only at hk); (try simp only at h); omega))
      have hHO2 := Hd.mk (Ty.O_fr hHO2.out eF (fun k hk hl h => by skip; (try simp only [rng] at hk); (try simp only at hk); (try simp only at h); omega))
      clear hW eF
      have z11 := Hd.mk hz_; clear hz_
      have z1_ := z1.out; have z2_ := z2.out; have z3_ := z3.out; have z4_ := z4.out; have z5_ := z5.out; have z6_ := z6.out; have hp1_ := hp1.out; have hzw_ := hzw.out; have hp1l_ := hp1l.out; have z7_ := z7.out; have z8_ := z8.out; have z9_ := z9.out; have z10_ := z10.out; have z11_ := z11.out
      exact ⟨b10, ⟨Ty.O_mono _ (fun q h => by have h1 := h.1; have h2 := h.2; exact ⟨by omega, by omega⟩) hHO2.out⟩, ⟨by omega⟩, b0, b1, hWy, hP, h1B, hB, ⟨by omega⟩⟩
     exact ⟨_, _, _, _, _, rfl, rfl, key _ rfl⟩
    ·refine stepM_of rfl ?_ (by rfl)
     go_wp2_with fail
     refine ⟨cls_below (below_alloc hS.out _), ?_⟩
     refine genT ?_; intro W8 hW
     have hz_ : W7.heap.size + 1 ≤ W8.heap.size := by rw [hW]; simp
     have hE : Below W7.heap.size W7 W8 := by rw [hW]; (repeat (first | with_reducible refine below_alloc ?_ _ | with_reducible refine below_drew ?_)); exact Below.refl _ _
     have hB := hB.th hE
     have h1B := Hd.mk (below_then h1B.out hE)
     have hWL := Hd.mk (below_then hWL.out hE)
     replace hS := Hd.mk (below_then hS.out hE)
     have b0 := b0.dn hE
     have b1 := b1.dn hE
     have b3 := b3.dn hE
     have b10 := Hd.mk (show Blk W8 (W7.heap.size) #[.int .i64 0, .int .i64 0, .string ⟨#[]⟩, .slice none 0 0, .slice none 0 0] 27 by rw [hW]; first | exact (Blk.new _ _ _) | (simpa using (Blk.new _ _ _)))
     have hWy := Hd.mk (R_below hWy.out hE)
     have hP := hP.ob hE
     have hHO := hHO.ob hE
     clear hW hE
     have z8 := Hd.mk hz_; clear hz_
     refine mixT_b rfl ?_ (by rfl)
     go_wp2_with fail
     apply calls_gen; intro W9 hW
     have hz_ : W8.heap.size ≤ W9.heap.size := by rw [hW]; simp
     have hE : Below W8.heap.size W8 W9 := by rw [hW]; (repeat (first | with_reducible refine below_alloc ?_ _ | with_reducible refine below_drew ?_)); exact Below.refl _ _
     have hB := hB.th hE
     have h1B := Hd.mk (below_then h1B.out hE)
     have hWL := Hd.mk (below_then hWL.out hE)
     replace hS := Hd.mk (below_then hS.out hE)
     have b0 := b0.dn hE
     have b1 := b1.dn hE
     have b3 := b3.dn hE
     have b10 := Hd.mk (b10.out.below hE)
     have hWy := Hd.mk (R_below hWy.out hE)
     have hP := hP.ob hE
     have hHO := hHO.ob hE
     clear hW hE
     have z9 := Hd.mk hz_; clear hz_
     have hG := impl_Get (m := 8) hh [Value.int IntKind.i64 hh.kind, .int .i64 hh.n, .string hh.s, .slice hD3 hh.list.length hd3, .slice hD4 hh.names.length hd4] none (0) (([] : List ByteArray).drop 0) W9 (Ty.K_below _ hWL.out HFIN.out) (by rw [hdr]; exact C_nil _) hhb (HBW.out _ (fun s h => List.mem_of_mem_drop h) (by rw [List.length_drop]; omega)) (envT_mv hB.out HT.out) (envE_mv hB.out HE.out)
     rw [show (([] : List ByteArray).drop 0).length = 0 by rw [List.length_drop] <;> omega] at hG
     refine (hG).mono ?_
     rintro e w10 ⟨cx, rfl, hHO2, hX⟩
     have b0 := b0.dn hX
     have b1 := b1.dn hX
     have b3 := b3.dn hX
     have b10 := Hd.mk (b10.out.below hX)
     have hWy := Hd.mk (R_below hWy.out hX)
     have hP := hP.ob hX
     have hHO := hHO.ob hX
     have hB := hB.th hX
     replace hS := Hd.mk (below_then hS.out hX)
     have hz_ := hX.size
     have h1B := Hd.mk (below_then h1B.out hX)
     have hWL := Hd.mk (below_then hWL.out hX)
     clear hX
     have z10 := Hd.mk hz_; clear hz_
     clear hG
     rw [G2.out]
     rw [G3.out] at hHO2
     obtain ⟨rv3, rv4, _, _, rfl, _, rr3, rr4, _⟩ := tJ_O.1 hHO2
     obtain ⟨rD3, rd3, rfl, _, _⟩ := R_C rr3
     obtain ⟨rD4, rd4, rfl, _, _⟩ := R_C rr4
     clear rr3 rr4
     replace hHO2 := Hd.mk (show (tJ 9).O w10 (rng W9.heap.size w10.heap.size) p _ from Ty.O_bound _ hHO2)
     go_wp2_with fail
     refine ⟨cls_below hS.out, ?_⟩
     iterate 3 (refine mixT_p rfl ?_; go_big_quiet_want; go_big_quiet_op; go_big_quiet_on; refine wpQuiet_nil ?_)
     refine mixT_fin ?_
     clear hS
     clear rv00 rv01 rv02 rv03 rv04 rv10 rv11 rv12 rv13 rv14 rv30 rv31 rv32 rv33 rv34
     clear v00 v01 v02 v03 v04 v0z v10 v11 v12 v13 v14 v1z v30 v31 v32 v33 v34 v3z
     obtain ⟨v00, v01, v02, v03, v04, v0z⟩ := blk5 b0.out
     obtain ⟨v10, v11, v12, v13, v14, v1z⟩ := blk5 b1.out
     obtain ⟨v30, v31, v32, v33, v34, v3z⟩ := blk5 b3.out
     obtain ⟨fb10_0, fb10_1, fb10_2, fb10_3, fb10_4, fb10_z⟩ := blk5 b10.out
     refine tail_b rfl ?_ (by rfl)
     go_wp2_with fail
     refine mixQ_n ?_
     refine tail_b rfl ?_ (by rfl)
     go_wp2_with fail
     refine mixQ_n ?_
     refine tail_nil ?_
     clear v00 v01 v02 v03 v04 v0z v10 v11 v12 v13 v14 v1z v30 v31 v32 v33 v34 v3z fb10_0 fb10_1 fb10_2 fb10_3 fb10_4 fb10_z
     go_wp2_with fail
     go_meet
     have key : ∀ W, W = (((((w10.setCell ⟨W7.heap.size, 0, none⟩ (Value.int IntKind.i64 p.kind)).setCell ⟨W7.heap.size, 1, none⟩ (Value.int IntKind.i64 p.n)).setCell ⟨W7.heap.size, 2, none⟩ (Value.string p.s)).setCell ⟨W7.heap.size, 3, none⟩ (Value.slice rD3 p.list.length rd3)).setCell ⟨W7.heap.size, 4, none⟩ (Value.slice rD4 p.names.length rd4)) → Hd (Blk W W7.heap.size #[.int .i64 p.kind, .int .i64 p.n, .string p.s, .slice rD3 p.list.length rd3, .slice rD4 p.names.length rd4] 27) ∧ Hd ((tJ 9).O W (fun q => wc.heap.size ≤ q ∧ q ≠ W7.heap.size) p [Value.int IntKind.i64 p.kind, .int .i64 p.n, .string p.s, .slice rD3 p.list.length rd3, .slice rD4 p.names.length rd4]) ∧ Hd (wc.heap.size ≤ W7.heap.size) ∧ Hd (Blk W w1.heap.size #[.int .i64 j.kind, .int .i64 j.n, .string j.s, .slice A3 j.list.length c3, .slice A4 j.names.length c4] 27) ∧ Hd (Blk W w3.heap.size #[.int .i64 p.kind, .int .i64 p.n, .string p.s, .slice pD3 p.list.length pd3, .slice pD4 p.names.length pd4] 27) ∧ Hd (str.R 9 W (rng w.heap.size w1.heap.size) (.slice none ([] : List ByteArray).length 0) ([] : List ByteArray)) ∧ Hd ((tJ 9).O W (rng W2.heap.size w3.heap.size) p [Value.int IntKind.i64 p.kind, .int .i64 p.n, .string p.s, .slice pD3 p.list.length pd3, .slice pD4 p.names.length pd4]) ∧ Hd (Below w1.heap.size w1 W) ∧ Hd (Below w.heap.size w W) ∧ Hd (wc.heap.size ≤ W.heap.size) := by
      intro W hW
      have z1_ := z1.out; have z2_ := z2.out; have z3_ := z3.out; have z4_ := z4.out; have z5_ := z5.out; have z6_ := z6.out; have hp1_ := hp1.out; have hzw_ := hzw.out; have hp1l_ := hp1l.out; have z7_ := z7.out; have z8_ := z8.out; have z9_ := z9.out; have z10_ := z10.out
      have hSz_ := hB.out.size
      have hSw_ := hWL.out.size
      have h1B := Hd.mk (show Below w1.heap.size w1 W by rw [hW]; exact ((Fr.of_below h1B.out (fun q => q = W7.heap.size)).then_ (show Fr w10 _ (fun q => q = W7.heap.size) from by (repeat (first | with_reducible refine Fr.setCell (S := fun q => q = W7.heap.size) ?_ _ (fun _ => rfl) _)); exact Fr.refl _ _) (fun k hk _ => hk)).below (fun k hk => by have h2 := h1B.out.size; (try simp only at hk); omega))
      have hz_ : w10.heap.size ≤ W.heap.size := by rw [hW]; simp
      have eF : Fr w10 W (fun k => k = W7.heap.size ∨ w10.heap.size ≤ k) := by rw [hW]; (repeat (first | with_reducible refine Fr.setCell ?_ _ (fun _ => by simp <;> omega) _ | with_reducible refine Fr.alloc ?_ _ | with_reducible refine Fr.drew ?_)); exact Fr.refl _ _
      have z1_ := z1.out; have z2_ := z2.out; have z3_ := z3.out; have z4_ := z4.out; have z5_ := z5.out; have z6_ := z6.out; have hp1_ := hp1.out; have hzw_ := hzw.out; have hp1l_ := hp1l.out; have z7_ := z7.out; have z8_ := z8.out; have z9_ := z9.out; have z10_ := z10.out
      have hB := Hd.mk (((Fr.of_below hB.out (fun k => k = W7.heap.size ∨ w10.heap.size ≤ k)).then_ eF (fun k hk _ => hk)).below (fun k hk => by have := hB.out.size; omega))
      have b0 := Hd.mk (b0.out.fr eF (fun h => by have hlt_ := b0.out.lt; (try simp only at h); omega))
      have b1 := Hd.mk (b1.out.fr eF (fun h => by have hlt_ := b1.out.lt; (try simp only at h); omega))
      have b3 := Hd.mk (b3.out.fr eF (fun h => by have hlt_ := b3.out.lt; (try simp only at h); omega))
      have b10 := Hd.mk (show Blk W (W7.heap.size) #[.int .i64 p.kind, .int .i64 p.n, .string p.s, .slice rD3 p.list.length rd3, .slice rD4 p.names.length rd4] 27 by rw [hW]; exact (Blk.all b10.out [Value.int IntKind.i64 p.kind, .int .i64 p.n, .string p.s, .slice rD3 p.list.length rd3, .slice rD4 p.names.length rd4] rfl))
      have hWy := Hd.mk (R_fr hWy.out eF (fun k hk hl h => by skip; (try simp only [rng] at hk); (try simp only at hk); (try simp only at h); omega))
      have hP := Hd.mk (Ty.O_fr hP.out eF (fun k hk hl h => by skip; (try simp only [rng] at hk); (try simp only at hk); (try simp only at h); omega))
      have hHO := Hd.mk (Ty.O_fr hHO.out eF (fun k hk hl h => by skip; (try simp only [rng] at hk); (try simp only at hk); (try simp only at h); omega))
      have hHO2 := Hd.mk (Ty.O_fr hHO2.out eF (fun k hk hl h => by skip; (try simp only [rng] at hk); (try simp only at hk); (try simp only at h); omega))
      clear hW eF
      have z11 := Hd.mk hz_; clear hz_
      have z1_ := z1.out; have z2_ := z2.out; have z3_ := z3.out; have z4_ := z4.out; have z5_ := z5.out; have z6_ := z6.out; have hp1_ := hp1.out; have hzw_ := hzw.out; have hp1l_ := hp1l.out; have z7_ := z7.out; have z8_ := z8.out; have z9_ := z9.out; have z10_ := z10.out; have z11_ := z11.out
      exact ⟨b10, ⟨Ty.O_mono _ (fun q h => by have h1 := h.1; have h2 := h.2; exact ⟨by omega, by omega⟩) hHO2.out⟩, ⟨by omega⟩, b0, b1, hWy, hP, h1B, hB, ⟨by omega⟩⟩
     exact ⟨_, _, _, _, _, rfl, rfl, key _ rfl⟩
   ·by_cases hck : cW = k
    ·subst hck
     have hdr : way.drop cW = [] := List.drop_eq_nil_of_le (by omega)
     have hcd : decide (cW = cW) = true := by simp
     obtain ⟨v00, v01, v02, v03, v04, v0z⟩ := blk5 b0.out
     obtain ⟨v10, v11, v12, v13, v14, v1z⟩ := blk5 b1.out
     obtain ⟨v30, v31, v32, v33, v34, v3z⟩ := blk5 b3.out
     obtain ⟨rv00, rv01, rv02, rv03, rv04⟩ := reg5 v00 v01 v02 v03 v04
     obtain ⟨rv10, rv11, rv12, rv13, rv14⟩ := reg5 v10 v11 v12 v13 v14
     obtain ⟨rv30, rv31, rv32, rv33, rv34⟩ := reg5 v30 v31 v32 v33 v34
     refine region_mixT (.q 0 (.p 1 (.p 2 (.q 3 (.br 4 8 (.p 5 (.p 6 (.p 7 (.b 8 .fin)))) (.b 4 (.p 5 (.p 6 (.p 7 .fin))))))))) [9, 10] (by kernel_rfl) (by kernel_rfl) (fun _ _ _ _ _ h => h) ?_
     refine genT ?_
     intro W7 hW
     have hS := Hd.mk (show Below wc.heap.size wc W7 by rw [hW]; exact below_drew (Below.refl _ _))
     have hz_ : wc.heap.size ≤ W7.heap.size := by rw [hW]; simp
     have hE : Below wc.heap.size wc W7 := by rw [hW]; (repeat (first | with_reducible refine below_alloc ?_ _ | with_reducible refine below_drew ?_)); exact Below.refl _ _
     have hB := hB.th hE
     have h1B := Hd.mk (below_then h1B.out hE)
     have hWL := Hd.mk (below_then hWL.out hE)
     have b0 := b0.dn hE
     have b1 := b1.dn hE
     have b3 := b3.dn hE
     have hWy := Hd.mk (R_below hWy.out hE)
     have hP := hP.ob hE
     have hHO := hHO.ob hE
     clear hW hE
     have z7 := Hd.mk hz_; clear hz_
     iterate 4 ((first | refine mixT_q rfl ?_ | refine mixT_p rfl ?_); go_big_quiet_want; go_big_quiet_op; go_big_quiet_on; refine wpQuiet_nil ?_)
     refine ⟨?_, ?_⟩
     ·refine stepM_of rfl ?_ (by rfl)
      go_wp2_with fail
      apply calls_gen; intro W8 hW
      have hz_ : W7.heap.size ≤ W8.heap.size := by rw [hW]; simp
      have hE : Below W7.heap.size W7 W8 := by rw [hW]; (repeat (first | with_reducible refine below_alloc ?_ _ | with_reducible refine below_drew ?_)); exact Below.refl _ _
      have hB := hB.th hE
      have h1B := Hd.mk (below_then h1B.out hE)
      have hWL := Hd.mk (below_then hWL.out hE)
      replace hS := Hd.mk (below_then hS.out hE)
      have b0 := b0.dn hE
      have b1 := b1.dn hE
      have b3 := b3.dn hE
      have hWy := Hd.mk (R_below hWy.out hE)
      have hP := hP.ob hE
      have hHO := hHO.ob hE
      clear hW hE
      have z8 := Hd.mk hz_; clear hz_
      have hG := impl_Get (m := 8) hh [Value.int IntKind.i64 hh.kind, .int .i64 hh.n, .string hh.s, .slice hD3 hh.list.length hd3, .slice hD4 hh.names.length hd4] (some ⟨gW, 0, none⟩) (0) (way.drop cW) W8 (Ty.K_below _ hWL.out HFIN.out) (by rw [hdr]; exact C_nil _) hhb (HBW.out _ (fun s h => List.mem_of_mem_drop h) (by rw [List.length_drop]; omega)) (envT_mv hB.out HT.out) (envE_mv hB.out HE.out)
      rw [show (way.drop cW).length = 0 by rw [List.length_drop] <;> omega] at hG
      refine (hG).mono ?_
      rintro e w9 ⟨cx, rfl, hHO2, hX⟩
      have b0 := b0.dn hX
      have b1 := b1.dn hX
      have b3 := b3.dn hX
      have hWy := Hd.mk (R_below hWy.out hX)
      have hP := hP.ob hX
      have hHO := hHO.ob hX
      have hB := hB.th hX
      replace hS := Hd.mk (below_then hS.out hX)
      have hz_ := hX.size
      have h1B := Hd.mk (below_then h1B.out hX)
      have hWL := Hd.mk (below_then hWL.out hX)
      clear hX
      have z9 := Hd.mk hz_; clear hz_
      clear hG
      rw [G2.out]
      rw [G3.out] at hHO2
      obtain ⟨rv3, rv4, _, _, rfl, _, rr3, rr4, _⟩ := tJ_O.1 hHO2
      obtain ⟨rD3, rd3, rfl, _, _⟩ := R_C rr3
      obtain ⟨rD4, rd4, rfl, _, _⟩ := R_C rr4
      clear rr3 rr4
      replace hHO2 := Hd.mk (show (tJ 9).O w9 (rng W8.heap.size w9.heap.size) p _ from Ty.O_bound _ hHO2)
      go_wp2_with fail
      refine ⟨cls_below hS.out, ?_⟩
      iterate 3 (refine mixT_p rfl ?_; go_big_quiet_want; go_big_quiet_op; go_big_quiet_on; refine wpQuiet_nil ?_)
      refine mixT_b rfl ?_ (by rfl)
      go_wp2_with fail
      refine ⟨cls_below (below_alloc hS.out _), ?_⟩
      refine genT ?_; intro W10 hW
      have hz_ : w9.heap.size + 1 ≤ W10.heap.size := by rw [hW]; simp
      have hE : Below w9.heap.size w9 W10 := by rw [hW]; (repeat (first | with_reducible refine below_alloc ?_ _ | with_reducible refine below_drew ?_)); exact Below.refl _ _
      have hB := hB.th hE
      have h1B := Hd.mk (below_then h1B.out hE)
      have hWL := Hd.mk (below_then hWL.out hE)
      replace hS := Hd.mk (below_then hS.out hE)
      have b0 := b0.dn hE
      have b1 := b1.dn hE
      have b3 := b3.dn hE
      have b10 := Hd.mk (show Blk W10 (w9.heap.size) #[.int .i64 0, .int .i64 0, .string ⟨#[]⟩, .slice none 0 0, .slice none 0 0] 27 by rw [hW]; first | exact (Blk.new _ _ _) | (simpa using (Blk.new _ _ _)))
      have hWy := Hd.mk (R_below hWy.out hE)
      have hP := hP.ob hE
      have hHO := hHO.ob hE
      have hHO2 := hHO2.ob hE
      clear hW hE
      have z10 := Hd.mk hz_; clear hz_
      refine mixT_fin ?_
      clear hS
      clear rv00 rv01 rv02 rv03 rv04 rv10 rv11 rv12 rv13 rv14 rv30 rv31 rv32 rv33 rv34
      clear v00 v01 v02 v03 v04 v0z v10 v11 v12 v13 v14 v1z v30 v31 v32 v33 v34 v3z
      obtain ⟨v00, v01, v02, v03, v04, v0z⟩ := blk5 b0.out
      obtain ⟨v10, v11, v12, v13, v14, v1z⟩ := blk5 b1.out
      obtain ⟨v30, v31, v32, v33, v34, v3z⟩ := blk5 b3.out
      obtain ⟨fb10_0, fb10_1, fb10_2, fb10_3, fb10_4, fb10_z⟩ := blk5 b10.out
      refine tail_b rfl ?_ (by rfl)
      go_wp2_with fail
      refine mixQ_n ?_
      refine tail_b rfl ?_ (by rfl)
      go_wp2_with fail
      refine mixQ_n ?_
      refine tail_nil ?_
      clear v00 v01 v02 v03 v04 v0z v10 v11 v12 v13 v14 v1z v30 v31 v32 v33 v34 v3z fb10_0 fb10_1 fb10_2 fb10_3 fb10_4 fb10_z
      go_wp2_with fail
      go_meet
      have key : ∀ W, W = (((((W10.setCell ⟨w9.heap.size, 0, none⟩ (Value.int IntKind.i64 p.kind)).setCell ⟨w9.heap.size, 1, none⟩ (Value.int IntKind.i64 p.n)).setCell ⟨w9.heap.size, 2, none⟩ (Value.string p.s)).setCell ⟨w9.heap.size, 3, none⟩ (Value.slice rD3 p.list.length rd3)).setCell ⟨w9.heap.size, 4, none⟩ (Value.slice rD4 p.names.length rd4)) → Hd (Blk W w9.heap.size #[.int .i64 p.kind, .int .i64 p.n, .string p.s, .slice rD3 p.list.length rd3, .slice rD4 p.names.length rd4] 27) ∧ Hd ((tJ 9).O W (fun q => wc.heap.size ≤ q ∧ q ≠ w9.heap.size) p [Value.int IntKind.i64 p.kind, .int .i64 p.n, .string p.s, .slice rD3 p.list.length rd3, .slice rD4 p.names.length rd4]) ∧ Hd (wc.heap.size ≤ w9.heap.size) ∧ Hd (Blk W w1.heap.size #[.int .i64 j.kind, .int .i64 j.n, .string j.s, .slice A3 j.list.length c3, .slice A4 j.names.length c4] 27) ∧ Hd (Blk W w3.heap.size #[.int .i64 p.kind, .int .i64 p.n, .string p.s, .slice pD3 p.list.length pd3, .slice pD4 p.names.length pd4] 27) ∧ Hd (str.R 9 W (rng w.heap.size w1.heap.size) (.slice (some ⟨gW, 0, none⟩) way.length cW) way) ∧ Hd ((tJ 9).O W (rng W2.heap.size w3.heap.size) p [Value.int IntKind.i64 p.kind, .int .i64 p.n, .string p.s, .slice pD3 p.list.length pd3, .slice pD4 p.names.length pd4]) ∧ Hd (Below w1.heap.size w1 W) ∧ Hd (Below w.heap.size w W) ∧ Hd (wc.heap.size ≤ W.heap.size) := by
       intro W hW
       have z1_ := z1.out; have z2_ := z2.out; have z3_ := z3.out; have z4_ := z4.out; have z5_ := z5.out; have z6_ := z6.out; have hp1_ := hp1.out; have hzw_ := hzw.out; have hp1l_ := hp1l.out; have z7_ := z7.out; have z8_ := z8.out; have z9_ := z9.out; have z10_ := z10.out
       have hSz_ := hB.out.size
       have hSw_ := hWL.out.size
       have h1B := Hd.mk (show Below w1.heap.size w1 W by rw [hW]; exact ((Fr.of_below h1B.out (fun q => q = w9.heap.size)).then_ (show Fr W10 _ (fun q => q = w9.heap.size) from by (repeat (first | with_reducible refine Fr.setCell (S := fun q => q = w9.heap.size) ?_ _ (fun _ => rfl) _)); exact Fr.refl _ _) (fun k hk _ => hk)).below (fun k hk => by have h2 := h1B.out.size; (try simp only at hk); omega))
       have hz_ : W10.heap.size ≤ W.heap.size := by rw [hW]; simp
       have eF : Fr W10 W (fun k => k = w9.heap.size ∨ W10.heap.size ≤ k) := by rw [hW]; (repeat (first | with_reducible refine Fr.setCell ?_ _ (fun _ => by simp <;> omega) _ | with_reducible refine Fr.alloc ?_ _ | with_reducible refine Fr.drew ?_)); exact Fr.refl _ _
       have z1_ := z1.out; have z2_ := z2.out; have z3_ := z3.out; have z4_ := z4.out; have z5_ := z5.out; have z6_ := z6.out; have hp1_ := hp1.out; have hzw_ := hzw.out; have hp1l_ := hp1l.out; have z7_ := z7.out; have z8_ := z8.out; have z9_ := z9.out; have z10_ := z10.out
       have hB := Hd.mk (((Fr.of_below hB.out (fun k => k = w9.heap.size ∨ W10.heap.size ≤ k)).then_ eF (fun k hk _ => hk)).below (fun k hk => by have := hB.out.size; omega))
       have b0 := Hd.mk (b0.out.fr eF (fun h => by have hlt_ := b0.out.lt; (try simp only at h); omega))
       have b1 := Hd.mk (b1.out.fr eF (fun h => by have hlt_ := b1.out.lt; (try simp only at h); omega))
       have b3 := Hd.mk (b3.out.fr eF (fun h => by have hlt_ := b3.out.lt; (try simp only at h); omega))
       have b10 := Hd.mk (show Blk W (w9.heap.size) #[.int .i64 p.kind, .int .i64 p.n, .string p.s, .slice rD3 p.list.length rd3, .slice rD4 p.names.length rd4] 27 by rw [hW]; exact (Blk.all b10.out [Value.int IntKind.i64 p.kind, .int .i64 p.n, .string p.s, .slice rD3 p.list.length rd3, .slice rD4 p.names.length rd4] rfl))
       have hWy := Hd.mk (R_fr hWy.out eF (fun k hk hl h => by skip; (try simp only [rng] at hk); (try simp only at hk); (try simp only at h); omega))
       have hP := Hd.mk (Ty.O_fr hP.out eF (fun k hk hl h => by skip; (try simp only [rng] at hk); (try simp only at hk); (try simp only at h); omega))
       have hHO := Hd.mk (Ty.O_fr hHO.out eF (fun k hk hl h => by skip; (try simp only [rng] at hk); (try simp only at hk); (try simp only at h); omega))
       have hHO2 := Hd.mk (Ty.O_fr hHO2.out eF (fun k hk hl h => by skip; (try simp only [rng] at hk); (try simp only at hk); (try simp only at h); omega))
       clear hW eF
       have z11 := Hd.mk hz_; clear hz_
       have z1_ := z1.out; have z2_ := z2.out; have z3_ := z3.out; have z4_ := z4.out; have z5_ := z5.out; have z6_ := z6.out; have hp1_ := hp1.out; have hzw_ := hzw.out; have hp1l_ := hp1l.out; have z7_ := z7.out; have z8_ := z8.out; have z9_ := z9.out; have z10_ := z10.out; have z11_ := z11.out
       exact ⟨b10, ⟨Ty.O_mono _ (fun q h => by have h1 := h.1; have h2 := h.2; exact ⟨by omega, by omega⟩) hHO2.out⟩, ⟨by omega⟩, b0, b1, hWy, hP, h1B, hB, ⟨by omega⟩⟩
      exact ⟨_, _, _, _, _, rfl, rfl, key _ rfl⟩
     ·refine stepM_of rfl ?_ (by rfl)
      go_wp2_with fail
      refine ⟨cls_below (below_alloc hS.out _), ?_⟩
      refine genT ?_; intro W8 hW
      have hz_ : W7.heap.size + 1 ≤ W8.heap.size := by rw [hW]; simp
      have hE : Below W7.heap.size W7 W8 := by rw [hW]; (repeat (first | with_reducible refine below_alloc ?_ _ | with_reducible refine below_drew ?_)); exact Below.refl _ _
      have hB := hB.th hE
      have h1B := Hd.mk (below_then h1B.out hE)
      have hWL := Hd.mk (below_then hWL.out hE)
      replace hS := Hd.mk (below_then hS.out hE)
      have b0 := b0.dn hE
      have b1 := b1.dn hE
      have b3 := b3.dn hE
      have b10 := Hd.mk (show Blk W8 (W7.heap.size) #[.int .i64 0, .int .i64 0, .string ⟨#[]⟩, .slice none 0 0, .slice none 0 0] 27 by rw [hW]; first | exact (Blk.new _ _ _) | (simpa using (Blk.new _ _ _)))
      have hWy := Hd.mk (R_below hWy.out hE)
      have hP := hP.ob hE
      have hHO := hHO.ob hE
      clear hW hE
      have z8 := Hd.mk hz_; clear hz_
      refine mixT_b rfl ?_ (by rfl)
      go_wp2_with fail
      apply calls_gen; intro W9 hW
      have hz_ : W8.heap.size ≤ W9.heap.size := by rw [hW]; simp
      have hE : Below W8.heap.size W8 W9 := by rw [hW]; (repeat (first | with_reducible refine below_alloc ?_ _ | with_reducible refine below_drew ?_)); exact Below.refl _ _
      have hB := hB.th hE
      have h1B := Hd.mk (below_then h1B.out hE)
      have hWL := Hd.mk (below_then hWL.out hE)
      replace hS := Hd.mk (below_then hS.out hE)
      have b0 := b0.dn hE
      have b1 := b1.dn hE
      have b3 := b3.dn hE
      have b10 := Hd.mk (b10.out.below hE)
      have hWy := Hd.mk (R_below hWy.out hE)
      have hP := hP.ob hE
      have hHO := hHO.ob hE
      clear hW hE
      have z9 := Hd.mk hz_; clear hz_
      have hG := impl_Get (m := 8) hh [Value.int IntKind.i64 hh.kind, .int .i64 hh.n, .string hh.s, .slice hD3 hh.list.length hd3, .slice hD4 hh.names.length hd4] (some ⟨gW, 0, none⟩) (0) (way.drop cW) W9 (Ty.K_below _ hWL.out HFIN.out) (by rw [hdr]; exact C_nil _) hhb (HBW.out _ (fun s h => List.mem_of_mem_drop h) (by rw [List.length_drop]; omega)) (envT_mv hB.out HT.out) (envE_mv hB.out HE.out)
      rw [show (way.drop cW).length = 0 by rw [List.length_drop] <;> omega] at hG
      refine (hG).mono ?_
      rintro e w10 ⟨cx, rfl, hHO2, hX⟩
      have b0 := b0.dn hX
      have b1 := b1.dn hX
      have b3 := b3.dn hX
      have b10 := Hd.mk (b10.out.below hX)
      have hWy := Hd.mk (R_below hWy.out hX)
      have hP := hP.ob hX
      have hHO := hHO.ob hX
      have hB := hB.th hX
      replace hS := Hd.mk (below_then hS.out hX)
      have hz_ := hX.size
      have h1B := Hd.mk (below_then h1B.out hX)
      have hWL := Hd.mk (below_then hWL.out hX)
      clear hX
      have z10 := Hd.mk hz_; clear hz_
      clear hG
      rw [G2.out]
      rw [G3.out] at hHO2
      obtain ⟨rv3, rv4, _, _, rfl, _, rr3, rr4, _⟩ := tJ_O.1 hHO2
      obtain ⟨rD3, rd3, rfl, _, _⟩ := R_C rr3
      obtain ⟨rD4, rd4, rfl, _, _⟩ := R_C rr4
      clear rr3 rr4
      replace hHO2 := Hd.mk (show (tJ 9).O w10 (rng W9.heap.size w10.heap.size) p _ from Ty.O_bound _ hHO2)
      go_wp2_with fail
      refine ⟨cls_below hS.out, ?_⟩
      iterate 3 (refine mixT_p rfl ?_; go_big_quiet_want; go_big_quiet_op; go_big_quiet_on; refine wpQuiet_nil ?_)
      refine mixT_fin ?_
      clear hS
      clear rv00 rv01 rv02 rv03 rv04 rv10 rv11 rv12 rv13 rv14 rv30 rv31 rv32 rv33 rv34
      clear v00 v01 v02 v03 v04 v0z v10 v11 v12 v13 v14 v1z v30 v31 v32 v33 v34 v3z
      obtain ⟨v00, v01, v02, v03, v04, v0z⟩ := blk5 b0.out
      obtain ⟨v10, v11, v12, v13, v14, v1z⟩ := blk5 b1.out
      obtain ⟨v30, v31, v32, v33, v34, v3z⟩ := blk5 b3.out
      obtain ⟨fb10_0, fb10_1, fb10_2, fb10_3, fb10_4, fb10_z⟩ := blk5 b10.out
      refine tail_b rfl ?_ (by rfl)
      go_wp2_with fail
      refine mixQ_n ?_
      refine tail_b rfl ?_ (by rfl)
      go_wp2_with fail
      refine mixQ_n ?_
      refine tail_nil ?_
      clear v00 v01 v02 v03 v04 v0z v10 v11 v12 v13 v14 v1z v30 v31 v32 v33 v34 v3z fb10_0 fb10_1 fb10_2 fb10_3 fb10_4 fb10_z
      go_wp2_with fail
      go_meet
      have key : ∀ W, W = (((((w10.setCell ⟨W7.heap.size, 0, none⟩ (Value.int IntKind.i64 p.kind)).setCell ⟨W7.heap.size, 1, none⟩ (Value.int IntKind.i64 p.n)).setCell ⟨W7.heap.size, 2, none⟩ (Value.string p.s)).setCell ⟨W7.heap.size, 3, none⟩ (Value.slice rD3 p.list.length rd3)).setCell ⟨W7.heap.size, 4, none⟩ (Value.slice rD4 p.names.length rd4)) → Hd (Blk W W7.heap.size #[.int .i64 p.kind, .int .i64 p.n, .string p.s, .slice rD3 p.list.length rd3, .slice rD4 p.names.length rd4] 27) ∧ Hd ((tJ 9).O W (fun q => wc.heap.size ≤ q ∧ q ≠ W7.heap.size) p [Value.int IntKind.i64 p.kind, .int .i64 p.n, .string p.s, .slice rD3 p.list.length rd3, .slice rD4 p.names.length rd4]) ∧ Hd (wc.heap.size ≤ W7.heap.size) ∧ Hd (Blk W w1.heap.size #[.int .i64 j.kind, .int .i64 j.n, .string j.s, .slice A3 j.list.length c3, .slice A4 j.names.length c4] 27) ∧ Hd (Blk W w3.heap.size #[.int .i64 p.kind, .int .i64 p.n, .string p.s, .slice pD3 p.list.length pd3, .slice pD4 p.names.length pd4] 27) ∧ Hd (str.R 9 W (rng w.heap.size w1.heap.size) (.slice (some ⟨gW, 0, none⟩) way.length cW) way) ∧ Hd ((tJ 9).O W (rng W2.heap.size w3.heap.size) p [Value.int IntKind.i64 p.kind, .int .i64 p.n, .string p.s, .slice pD3 p.list.length pd3, .slice pD4 p.names.length pd4]) ∧ Hd (Below w1.heap.size w1 W) ∧ Hd (Below w.heap.size w W) ∧ Hd (wc.heap.size ≤ W.heap.size) := by
       intro W hW
       have z1_ := z1.out; have z2_ := z2.out; have z3_ := z3.out; have z4_ := z4.out; have z5_ := z5.out; have z6_ := z6.out; have hp1_ := hp1.out; have hzw_ := hzw.out; have hp1l_ := hp1l.out; have z7_ := z7.out; have z8_ := z8.out; have z9_ := z9.out; have z10_ := z10.out
       have hSz_ := hB.out.size
       have hSw_ := hWL.out.size
       have h1B := Hd.mk (show Below w1.heap.size w1 W by rw [hW]; exact ((Fr.of_below h1B.out (fun q => q = W7.heap.size)).then_ (show Fr w10 _ (fun q => q = W7.heap.size) from by (repeat (first | with_reducible refine Fr.setCell (S := fun q => q = W7.heap.size) ?_ _ (fun _ => rfl) _)); exact Fr.refl _ _) (fun k hk _ => hk)).below (fun k hk => by have h2 := h1B.out.size; (try simp only at hk); omega))
       have hz_ : w10.heap.size ≤ W.heap.size := by rw [hW]; simp
       have eF : Fr w10 W (fun k => k = W7.heap.size ∨ w10.heap.size ≤ k) := by rw [hW]; (repeat (first | with_reducible refine Fr.setCell ?_ _ (fun _ => by simp <;> omega) _ | with_reducible refine Fr.alloc ?_ _ | with_reducible refine Fr.drew ?_)); exact Fr.refl _ _
       have z1_ := z1.out; have z2_ := z2.out; have z3_ := z3.out; have z4_ := z4.out; have z5_ := z5.out; have z6_ := z6.out; have hp1_ := hp1.out; have hzw_ := hzw.out; have hp1l_ := hp1l.out; have z7_ := z7.out; have z8_ := z8.out; have z9_ := z9.out; have z10_ := z10.out
       have hB := Hd.mk (((Fr.of_below hB.out (fun k => k = W7.heap.size ∨ w10.heap.size ≤ k)).then_ eF (fun k hk _ => hk)).below (fun k hk => by have := hB.out.size; omega))
       have b0 := Hd.mk (b0.out.fr eF (fun h => by have hlt_ := b0.out.lt; (try simp only at h); omega))
       have b1 := Hd.mk (b1.out.fr eF (fun h => by have hlt_ := b1.out.lt; (try simp only at h); omega))
       have b3 := Hd.mk (b3.out.fr eF (fun h => by have hlt_ := b3.out.lt; (try simp only at h); omega))
       have b10 := Hd.mk (show Blk W (W7.heap.size) #[.int .i64 p.kind, .int .i64 p.n, .string p.s, .slice rD3 p.list.length rd3, .slice rD4 p.names.length rd4] 27 by rw [hW]; exact (Blk.all b10.out [Value.int IntKind.i64 p.kind, .int .i64 p.n, .string p.s, .slice rD3 p.list.length rd3, .slice rD4 p.names.length rd4] rfl))
       have hWy := Hd.mk (R_fr hWy.out eF (fun k hk hl h => by skip; (try simp only [rng] at hk); (try simp only at hk); (try simp only at h); omega))
       have hP := Hd.mk (Ty.O_fr hP.out eF (fun k hk hl h => by skip; (try simp only [rng] at hk); (try simp only at hk); (try simp only at h); omega))
       have hHO := Hd.mk (Ty.O_fr hHO.out eF (fun k hk hl h => by skip; (try simp only [rng] at hk); (try simp only at hk); (try simp only at h); omega))
       have hHO2 := Hd.mk (Ty.O_fr hHO2.out eF (fun k hk hl h => by skip; (try simp only [rng] at hk); (try simp only at hk); (try simp only at h); omega))
       clear hW eF
       have z11 := Hd.mk hz_; clear hz_
       have z1_ := z1.out; have z2_ := z2.out; have z3_ := z3.out; have z4_ := z4.out; have z5_ := z5.out; have z6_ := z6.out; have hp1_ := hp1.out; have hzw_ := hzw.out; have hp1l_ := hp1l.out; have z7_ := z7.out; have z8_ := z8.out; have z9_ := z9.out; have z10_ := z10.out; have z11_ := z11.out
       exact ⟨b10, ⟨Ty.O_mono _ (fun q h => by have h1 := h.1; have h2 := h.2; exact ⟨by omega, by omega⟩) hHO2.out⟩, ⟨by omega⟩, b0, b1, hWy, hP, h1B, hB, ⟨by omega⟩⟩
      exact ⟨_, _, _, _, _, rfl, rfl, key _ rfl⟩
    ·skip
     obtain ⟨v00, v01, v02, v03, v04, v0z⟩ := blk5 b0.out
     obtain ⟨v10, v11, v12, v13, v14, v1z⟩ := blk5 b1.out
     obtain ⟨v30, v31, v32, v33, v34, v3z⟩ := blk5 b3.out
     obtain ⟨rv00, rv01, rv02, rv03, rv04⟩ := reg5 v00 v01 v02 v03 v04
     obtain ⟨rv10, rv11, rv12, rv13, rv14⟩ := reg5 v10 v11 v12 v13 v14
     obtain ⟨rv30, rv31, rv32, rv33, rv34⟩ := reg5 v30 v31 v32 v33 v34
     refine region_mixT (.q 0 (.p 1 (.p 2 (.q 3 (.br 4 8 (.p 5 (.p 6 (.p 7 (.b 8 .fin)))) (.b 4 (.p 5 (.p 6 (.p 7 .fin))))))))) [9, 10] (by kernel_rfl) (by kernel_rfl) (fun _ _ _ _ _ h => h) ?_
     refine genT ?_
     intro W7 hW
     have hS := Hd.mk (show Below wc.heap.size wc W7 by rw [hW]; exact below_drew (Below.refl _ _))
     have hz_ : wc.heap.size ≤ W7.heap.size := by rw [hW]; simp
     have hE : Below wc.heap.size wc W7 := by rw [hW]; (repeat (first | with_reducible refine below_alloc ?_ _ | with_reducible refine below_drew ?_)); exact Below.refl _ _
     have hB := hB.th hE
     have h1B := Hd.mk (below_then h1B.out hE)
     have hWL := Hd.mk (below_then hWL.out hE)
     have b0 := b0.dn hE
     have b1 := b1.dn hE
     have b3 := b3.dn hE
     have hWy := Hd.mk (R_below hWy.out hE)
     have hP := hP.ob hE
     have hHO := hHO.ob hE
     clear hW hE
     have z7 := Hd.mk hz_; clear hz_
     iterate 4 ((first | refine mixT_q rfl ?_ | refine mixT_p rfl ?_); go_big_quiet_want; go_big_quiet_op; go_big_quiet_on; refine wpQuiet_nil ?_)
     refine ⟨?_, ?_⟩
     ·refine stepM_of rfl ?_ (by rfl)
      go_wp2_with fail
      apply calls_gen; intro W8 hW
      have hz_ : W7.heap.size ≤ W8.heap.size := by rw [hW]; simp
      have hE : Below W7.heap.size W7 W8 := by rw [hW]; (repeat (first | with_reducible refine below_alloc ?_ _ | with_reducible refine below_drew ?_)); exact Below.refl _ _
      have hB := hB.th hE
      have h1B := Hd.mk (below_then h1B.out hE)
      have hWL := Hd.mk (below_then hWL.out hE)
      replace hS := Hd.mk (below_then hS.out hE)
      have b0 := b0.dn hE
      have b1 := b1.dn hE
      have b3 := b3.dn hE
      have hWy := Hd.mk (R_below hWy.out hE)
      have hP := hP.ob hE
      have hHO := hHO.ob hE
      clear hW hE
      have z8 := Hd.mk hz_; clear hz_
      have hG := impl_Get (m := 8) hh [Value.int IntKind.i64 hh.kind, .int .i64 hh.n, .string hh.s, .slice hD3 hh.list.length hd3, .slice hD4 hh.names.length hd4] (some ⟨gW, k, none⟩) (cW - k) (way.drop k) W8 (Ty.K_below _ hWL.out HFIN.out) (C_dropS (R_Cv hWy.out) k (.inr (fun ad e => by injection e with e; subst e; rw [add0]))) hhb (HBW.out _ (fun s h => List.mem_of_mem_drop h) (by rw [List.length_drop]; omega)) (envT_mv hB.out HT.out) (envE_mv hB.out HE.out)
      rw [show (way.drop k).length = way.length - k by rw [List.length_drop] <;> omega] at hG
      refine (hG).mono ?_
      rintro e w9 ⟨cx, rfl, hHO2, hX⟩
      have b0 := b0.dn hX
      have b1 := b1.dn hX
      have b3 := b3.dn hX
      have hWy := Hd.mk (R_below hWy.out hX)
      have hP := hP.ob hX
      have hHO := hHO.ob hX
      have hB := hB.th hX
      replace hS := Hd.mk (below_then hS.out hX)
      have hz_ := hX.size
      have h1B := Hd.mk (below_then h1B.out hX)
      have hWL := Hd.mk (below_then hWL.out hX)
      clear hX
      have z9 := Hd.mk hz_; clear hz_
      clear hG
      rw [G2.out]
      rw [G3.out] at hHO2
      obtain ⟨rv3, rv4, _, _, rfl, _, rr3, rr4, _⟩ := tJ_O.1 hHO2
      obtain ⟨rD3, rd3, rfl, _, _⟩ := R_C rr3
      obtain ⟨rD4, rd4, rfl, _, _⟩ := R_C rr4
      clear rr3 rr4
      replace hHO2 := Hd.mk (show (tJ 9).O w9 (rng W8.heap.size w9.heap.size) p _ from Ty.O_bound _ hHO2)
      go_wp2_with fail
      refine ⟨cls_below hS.out, ?_⟩
      iterate 3 (refine mixT_p rfl ?_; go_big_quiet_want; go_big_quiet_op; go_big_quiet_on; refine wpQuiet_nil ?_)
      refine mixT_b rfl ?_ (by rfl)
      go_wp2_with fail
      refine ⟨cls_below (below_alloc hS.out _), ?_⟩
      refine genT ?_; intro W10 hW
      have hz_ : w9.heap.size + 1 ≤ W10.heap.size := by rw [hW]; simp
      have hE : Below w9.heap.size w9 W10 := by rw [hW]; (repeat (first | with_reducible refine below_alloc ?_ _ | with_reducible refine below_drew ?_)); exact Below.refl _ _
      have hB := hB.th hE
      have h1B := Hd.mk (below_then h1B.out hE)
      have hWL := Hd.mk (below_then hWL.out hE)
      replace hS := Hd.mk (below_then hS.out hE)
      have b0 := b0.dn hE
      have b1 := b1.dn hE
      have b3 := b3.dn hE
      have b10 := Hd.mk (show Blk W10 (w9.heap.size) #[.int .i64 0, .int .i64 0, .string ⟨#[]⟩, .slice none 0 0, .slice none 0 0] 27 by rw [hW]; first | exact (Blk.new _ _ _) | (simpa using (Blk.new _ _ _)))
      have hWy := Hd.mk (R_below hWy.out hE)
      have hP := hP.ob hE
      have hHO := hHO.ob hE
      have hHO2 := hHO2.ob hE
      clear hW hE
      have z10 := Hd.mk hz_; clear hz_
      refine mixT_fin ?_
      clear hS
      clear rv00 rv01 rv02 rv03 rv04 rv10 rv11 rv12 rv13 rv14 rv30 rv31 rv32 rv33 rv34
      clear v00 v01 v02 v03 v04 v0z v10 v11 v12 v13 v14 v1z v30 v31 v32 v33 v34 v3z
      obtain ⟨v00, v01, v02, v03, v04, v0z⟩ := blk5 b0.out
      obtain ⟨v10, v11, v12, v13, v14, v1z⟩ := blk5 b1.out
      obtain ⟨v30, v31, v32, v33, v34, v3z⟩ := blk5 b3.out
      obtain ⟨fb10_0, fb10_1, fb10_2, fb10_3, fb10_4, fb10_z⟩ := blk5 b10.out
      refine tail_b rfl ?_ (by rfl)
      go_wp2_with fail
      refine mixQ_n ?_
      refine tail_b rfl ?_ (by rfl)
      go_wp2_with fail
      refine mixQ_n ?_
      refine tail_nil ?_
      clear v00 v01 v02 v03 v04 v0z v10 v11 v12 v13 v14 v1z v30 v31 v32 v33 v34 v3z fb10_0 fb10_1 fb10_2 fb10_3 fb10_4 fb10_z
      go_wp2_with fail
      go_meet
      have key : ∀ W, W = (((((W10.setCell ⟨w9.heap.size, 0, none⟩ (Value.int IntKind.i64 p.kind)).setCell ⟨w9.heap.size, 1, none⟩ (Value.int IntKind.i64 p.n)).setCell ⟨w9.heap.size, 2, none⟩ (Value.string p.s)).setCell ⟨w9.heap.size, 3, none⟩ (Value.slice rD3 p.list.length rd3)).setCell ⟨w9.heap.size, 4, none⟩ (Value.slice rD4 p.names.length rd4)) → Hd (Blk W w9.heap.size #[.int .i64 p.kind, .int .i64 p.n, .string p.s, .slice rD3 p.list.length rd3, .slice rD4 p.names.length rd4] 27) ∧ Hd ((tJ 9).O W (fun q => wc.heap.size ≤ q ∧ q ≠ w9.heap.size) p [Value.int IntKind.i64 p.kind, .int .i64 p.n, .string p.s, .slice rD3 p.list.length rd3, .slice rD4 p.names.length rd4]) ∧ Hd (wc.heap.size ≤ w9.heap.size) ∧ Hd (Blk W w1.heap.size #[.int .i64 j.kind, .int .i64 j.n, .string j.s, .slice A3 j.list.length c3, .slice A4 j.names.length c4] 27) ∧ Hd (Blk W w3.heap.size #[.int .i64 p.kind, .int .i64 p.n, .string p.s, .slice pD3 p.list.length pd3, .slice pD4 p.names.length pd4] 27) ∧ Hd (str.R 9 W (rng w.heap.size w1.heap.size) (.slice (some ⟨gW, 0, none⟩) way.length cW) way) ∧ Hd ((tJ 9).O W (rng W2.heap.size w3.heap.size) p [Value.int IntKind.i64 p.kind, .int .i64 p.n, .string p.s, .slice pD3 p.list.length pd3, .slice pD4 p.names.length pd4]) ∧ Hd (Below w1.heap.size w1 W) ∧ Hd (Below w.heap.size w W) ∧ Hd (wc.heap.size ≤ W.heap.size) := by
       intro W hW
       have z1_ := z1.out; have z2_ := z2.out; have z3_ := z3.out; have z4_ := z4.out; have z5_ := z5.out; have z6_ := z6.out; have hp1_ := hp1.out; have hzw_ := hzw.out; have hp1l_ := hp1l.out; have z7_ := z7.out; have z8_ := z8.out; have z9_ := z9.out; have z10_ := z10.out
       have hSz_ := hB.out.size
       have hSw_ := hWL.out.size
       have h1B := Hd.mk (show Below w1.heap.size w1 W by rw [hW]; exact ((Fr.of_below h1B.out (fun q => q = w9.heap.size)).then_ (show Fr W10 _ (fun q => q = w9.heap.size) from by (repeat (first | with_reducible refine Fr.setCell (S := fun q => q = w9.heap.size) ?_ _ (fun _ => rfl) _)); exact Fr.refl _ _) (fun k hk _ => hk)).below (fun k hk => by have h2 := h1B.out.size; (try simp only at hk); omega))
       have hz_ : W10.heap.size ≤ W.heap.size := by rw [hW]; simp
       have eF : Fr W10 W (fun k => k = w9.heap.size ∨ W10.heap.size ≤ k) := by rw [hW]; (repeat (first | with_reducible refine Fr.setCell ?_ _ (fun _ => by simp <;> omega) _ | with_reducible refine Fr.alloc ?_ _ | with_reducible refine Fr.drew ?_)); exact Fr.refl _ _
       have z1_ := z1.out; have z2_ := z2.out; have z3_ := z3.out; have z4_ := z4.out; have z5_ := z5.out; have z6_ := z6.out; have hp1_ := hp1.out; have hzw_ := hzw.out; have hp1l_ := hp1l.out; have z7_ := z7.out; have z8_ := z8.out; have z9_ := z9.out; have z10_ := z10.out
       have hB := Hd.mk (((Fr.of_below hB.out (fun k => k = w9.heap.size ∨ W10.heap.size ≤ k)).then_ eF (fun k hk _ => hk)).below (fun k hk => by have := hB.out.size; omega))
       have b0 := Hd.mk (b0.out.fr eF (fun h => by have hlt_ := b0.out.lt; (try simp only at h); omega))
       have b1 := Hd.mk (b1.out.fr eF (fun h => by have hlt_ := b1.out.lt; (try simp only at h); omega))
       have b3 := Hd.mk (b3.out.fr eF (fun h => by have hlt_ := b3.out.lt; (try simp only at h); omega))
       have b10 := Hd.mk (show Blk W (w9.heap.size) #[.int .i64 p.kind, .int .i64 p.n, .string p.s, .slice rD3 p.list.length rd3, .slice rD4 p.names.length rd4] 27 by rw [hW]; exact (Blk.all b10.out [Value.int IntKind.i64 p.kind, .int .i64 p.n, .string p.s, .slice rD3 p.list.length rd3, .slice rD4 p.names.length rd4] rfl))
       have hWy := Hd.mk (R_fr hWy.out eF (fun k hk hl h => by skip; (try simp only [rng] at hk); (try simp only at hk); (try simp only at h); omega))
       have hP := Hd.mk (Ty.O_fr hP.out eF (fun k hk hl h => by skip; (try simp only [rng] at hk); (try simp only at hk); (try simp only at h); omega))
       have hHO := Hd.mk (Ty.O_fr hHO.out eF (fun k hk hl h => by skip; (try simp only [rng] at hk); (try simp only at hk); (try simp only at h); omega))
       have hHO2 := Hd.mk (Ty.O_fr hHO2.out eF (fun k hk hl h => by skip; (try simp only [rng] at hk); (try simp only at hk); (try simp only at h); omega))
       clear hW eF
       have z11 := Hd.mk hz_; clear hz_
       have z1_ := z1.out; have z2_ := z2.out; have z3_ := z3.out; have z4_ := z4.out; have z5_ := z5.out; have z6_ := z6.out; have hp1_ := hp1.out; have hzw_ := hzw.out; have hp1l_ := hp1l.out; have z7_ := z7.out; have z8_ := z8.out; have z9_ := z9.out; have z10_ := z10.out; have z11_ := z11.out
       exact ⟨b10, ⟨Ty.O_mono _ (fun q h => by have h1 := h.1; have h2 := h.2; exact ⟨by omega, by omega⟩) hHO2.out⟩, ⟨by omega⟩, b0, b1, hWy, hP, h1B, hB, ⟨by omega⟩⟩
      exact ⟨_, _, _, _, _, rfl, rfl, key _ rfl⟩
     ·refine stepM_of rfl ?_ (by rfl)
      go_wp2_with fail
      refine ⟨cls_below (below_alloc hS.out _), ?_⟩
      refine genT ?_; intro W8 hW
      have hz_ : W7.heap.size + 1 ≤ W8.heap.size := by rw [hW]; simp
      have hE : Below W7.heap.size W7 W8 := by rw [hW]; (repeat (first | with_reducible refine below_alloc ?_ _ | with_reducible refine below_drew ?_)); exact Below.refl _ _
      have hB := hB.th hE
      have h1B := Hd.mk (below_then h1B.out hE)
      have hWL := Hd.mk (below_then hWL.out hE)
      replace hS := Hd.mk (below_then hS.out hE)
      have b0 := b0.dn hE
      have b1 := b1.dn hE
      have b3 := b3.dn hE
      have b10 := Hd.mk (show Blk W8 (W7.heap.size) #[.int .i64 0, .int .i64 0, .string ⟨#[]⟩, .slice none 0 0, .slice none 0 0] 27 by rw [hW]; first | exact (Blk.new _ _ _) | (simpa using (Blk.new _ _ _)))
      have hWy := Hd.mk (R_below hWy.out hE)
      have hP := hP.ob hE
      have hHO := hHO.ob hE
      clear hW hE
      have z8 := Hd.mk hz_; clear hz_
      refine mixT_b rfl ?_ (by rfl)
      go_wp2_with fail
      apply calls_gen; intro W9 hW
      have hz_ : W8.heap.size ≤ W9.heap.size := by rw [hW]; simp
      have hE : Below W8.heap.size W8 W9 := by rw [hW]; (repeat (first | with_reducible refine below_alloc ?_ _ | with_reducible refine below_drew ?_)); exact Below.refl _ _
      have hB := hB.th hE
      have h1B := Hd.mk (below_then h1B.out hE)
      have hWL := Hd.mk (below_then hWL.out hE)
      replace hS := Hd.mk (below_then hS.out hE)
      have b0 := b0.dn hE
      have b1 := b1.dn hE
      have b3 := b3.dn hE
      have b10 := Hd.mk (b10.out.below hE)
      have hWy := Hd.mk (R_below hWy.out hE)
      have hP := hP.ob hE
      have hHO := hHO.ob hE
      clear hW hE
      have z9 := Hd.mk hz_; clear hz_
      have hG := impl_Get (m := 8) hh [Value.int IntKind.i64 hh.kind, .int .i64 hh.n, .string hh.s, .slice hD3 hh.list.length hd3, .slice hD4 hh.names.length hd4] (some ⟨gW, k, none⟩) (cW - k) (way.drop k) W9 (Ty.K_below _ hWL.out HFIN.out) (C_dropS (R_Cv hWy.out) k (.inr (fun ad e => by injection e with e; subst e; rw [add0]))) hhb (HBW.out _ (fun s h => List.mem_of_mem_drop h) (by rw [List.length_drop]; omega)) (envT_mv hB.out HT.out) (envE_mv hB.out HE.out)
      rw [show (way.drop k).length = way.length - k by rw [List.length_drop] <;> omega] at hG
      refine (hG).mono ?_
      rintro e w10 ⟨cx, rfl, hHO2, hX⟩
      have b0 := b0.dn hX
      have b1 := b1.dn hX
      have b3 := b3.dn hX
      have b10 := Hd.mk (b10.out.below hX)
      have hWy := Hd.mk (R_below hWy.out hX)
      have hP := hP.ob hX
      have hHO := hHO.ob hX
      have hB := hB.th hX
      replace hS := Hd.mk (below_then hS.out hX)
      have hz_ := hX.size
      have h1B := Hd.mk (below_then h1B.out hX)
      have hWL := Hd.mk (below_then hWL.out hX)
      clear hX
      have z10 := Hd.mk hz_; clear hz_
      clear hG
      rw [G2.out]
      rw [G3.out] at hHO2
      obtain ⟨rv3, rv4, _, _, rfl, _, rr3, rr4, _⟩ := tJ_O.1 hHO2
      obtain ⟨rD3, rd3, rfl, _, _⟩ := R_C rr3
      obtain ⟨rD4, rd4, rfl, _, _⟩ := R_C rr4
      clear rr3 rr4
      replace hHO2 := Hd.mk (show (tJ 9).O w10 (rng W9.heap.size w10.heap.size) p _ from Ty.O_bound _ hHO2)
      go_wp2_with fail
      refine ⟨cls_below hS.out, ?_⟩
      iterate 3 (refine mixT_p rfl ?_; go_big_quiet_want; go_big_quiet_op; go_big_quiet_on; refine wpQuiet_nil ?_)
      refine mixT_fin ?_
      clear hS
      clear rv00 rv01 rv02 rv03 rv04 rv10 rv11 rv12 rv13 rv14 rv30 rv31 rv32 rv33 rv34
      clear v00 v01 v02 v03 v04 v0z v10 v11 v12 v13 v14 v1z v30 v31 v32 v33 v34 v3z
      obtain ⟨v00, v01, v02, v03, v04, v0z⟩ := blk5 b0.out
      obtain ⟨v10, v11, v12, v13, v14, v1z⟩ := blk5 b1.out
      obtain ⟨v30, v31, v32, v33, v34, v3z⟩ := blk5 b3.out
      obtain ⟨fb10_0, fb10_1, fb10_2, fb10_3, fb10_4, fb10_z⟩ := blk5 b10.out
      refine tail_b rfl ?_ (by rfl)
      go_wp2_with fail
      refine mixQ_n ?_
      refine tail_b rfl ?_ (by rfl)
      go_wp2_with fail
      refine mixQ_n ?_
      refine tail_nil ?_
      clear v00 v01 v02 v03 v04 v0z v10 v11 v12 v13 v14 v1z v30 v31 v32 v33 v34 v3z fb10_0 fb10_1 fb10_2 fb10_3 fb10_4 fb10_z
      go_wp2_with fail
      go_meet
      have key : ∀ W, W = (((((w10.setCell ⟨W7.heap.size, 0, none⟩ (Value.int IntKind.i64 p.kind)).setCell ⟨W7.heap.size, 1, none⟩ (Value.int IntKind.i64 p.n)).setCell ⟨W7.heap.size, 2, none⟩ (Value.string p.s)).setCell ⟨W7.heap.size, 3, none⟩ (Value.slice rD3 p.list.length rd3)).setCell ⟨W7.heap.size, 4, none⟩ (Value.slice rD4 p.names.length rd4)) → Hd (Blk W W7.heap.size #[.int .i64 p.kind, .int .i64 p.n, .string p.s, .slice rD3 p.list.length rd3, .slice rD4 p.names.length rd4] 27) ∧ Hd ((tJ 9).O W (fun q => wc.heap.size ≤ q ∧ q ≠ W7.heap.size) p [Value.int IntKind.i64 p.kind, .int .i64 p.n, .string p.s, .slice rD3 p.list.length rd3, .slice rD4 p.names.length rd4]) ∧ Hd (wc.heap.size ≤ W7.heap.size) ∧ Hd (Blk W w1.heap.size #[.int .i64 j.kind, .int .i64 j.n, .string j.s, .slice A3 j.list.length c3, .slice A4 j.names.length c4] 27) ∧ Hd (Blk W w3.heap.size #[.int .i64 p.kind, .int .i64 p.n, .string p.s, .slice pD3 p.list.length pd3, .slice pD4 p.names.length pd4] 27) ∧ Hd (str.R 9 W (rng w.heap.size w1.heap.size) (.slice (some ⟨gW, 0, none⟩) way.length cW) way) ∧ Hd ((tJ 9).O W (rng W2.heap.size w3.heap.size) p [Value.int IntKind.i64 p.kind, .int .i64 p.n, .string p.s, .slice pD3 p.list.length pd3, .slice pD4 p.names.length pd4]) ∧ Hd (Below w1.heap.size w1 W) ∧ Hd (Below w.heap.size w W) ∧ Hd (wc.heap.size ≤ W.heap.size) := by
       intro W hW
       have z1_ := z1.out; have z2_ := z2.out; have z3_ := z3.out; have z4_ := z4.out; have z5_ := z5.out; have z6_ := z6.out; have hp1_ := hp1.out; have hzw_ := hzw.out; have hp1l_ := hp1l.out; have z7_ := z7.out; have z8_ := z8.out; have z9_ := z9.out; have z10_ := z10.out
       have hSz_ := hB.out.size
       have hSw_ := hWL.out.size
       have h1B := Hd.mk (show Below w1.heap.size w1 W by rw [hW]; exact ((Fr.of_below h1B.out (fun q => q = W7.heap.size)).then_ (show Fr w10 _ (fun q => q = W7.heap.size) from by (repeat (first | with_reducible refine Fr.setCell (S := fun q => q = W7.heap.size) ?_ _ (fun _ => rfl) _)); exact Fr.refl _ _) (fun k hk _ => hk)).below (fun k hk => by have h2 := h1B.out.size; (try simp only at hk); omega))
       have hz_ : w10.heap.size ≤ W.heap.size := by rw [hW]; simp
       have eF : Fr w10 W (fun k => k = W7.heap.size ∨ w10.heap.size ≤ k) := by rw [hW]; (repeat (first | with_reducible refine Fr.setCell ?_ _ (fun _ => by simp <;> omega) _ | with_reducible refine Fr.alloc ?_ _ | with_reducible refine Fr.drew ?_)); exact Fr.refl _ _
       have z1_ := z1.out; have z2_ := z2.out; have z3_ := z3.out; have z4_ := z4.out; have z5_ := z5.out; have z6_ := z6.out; have hp1_ := hp1.out; have hzw_ := hzw.out; have hp1l_ := hp1l.out; have z7_ := z7.out; have z8_ := z8.out; have z9_ := z9.out; have z10_ := z10.out
       have hB := Hd.mk (((Fr.of_below hB.out (fun k => k = W7.heap.size ∨ w10.heap.size ≤ k)).then_ eF (fun k hk _ => hk)).below (fun k hk => by have := hB.out.size; omega))
       have b0 := Hd.mk (b0.out.fr eF (fun h => by have hlt_ := b0.out.lt; (try simp only at h); omega))
       have b1 := Hd.mk (b1.out.fr eF (fun h => by have hlt_ := b1.out.lt; (try simp only at h); omega))
       have b3 := Hd.mk (b3.out.fr eF (fun h => by have hlt_ := b3.out.lt; (try simp only at h); omega))
       have b10 := Hd.mk (show Blk W (W7.heap.size) #[.int .i64 p.kind, .int .i64 p.n, .string p.s, .slice rD3 p.list.length rd3, .slice rD4 p.names.length rd4] 27 by rw [hW]; exact (Blk.all b10.out [Value.int IntKind.i64 p.kind, .int .i64 p.n, .string p.s, .slice rD3 p.list.length rd3, .slice rD4 p.names.length rd4] rfl))
       have hWy := Hd.mk (R_fr hWy.out eF (fun k hk hl h => by skip; (try simp only [rng] at hk); (try simp only at hk); (try simp only at h); omega))
       have hP := Hd.mk (Ty.O_fr hP.out eF (fun k hk hl h => by skip; (try simp only [rng] at hk); (try simp only at hk); (try simp only at h); omega))
       have hHO := Hd.mk (Ty.O_fr hHO.out eF (fun k hk hl h => by skip; (try simp only [rng] at hk); (try simp only at hk); (try simp only at h); omega))
       have hHO2 := Hd.mk (Ty.O_fr hHO2.out eF (fun k hk hl h => by skip; (try simp only [rng] at hk); (try simp only at hk); (try simp only at h); omega))
       clear hW eF
       have z11 := Hd.mk hz_; clear hz_
       have z1_ := z1.out; have z2_ := z2.out; have z3_ := z3.out; have z4_ := z4.out; have z5_ := z5.out; have z6_ := z6.out; have hp1_ := hp1.out; have hzw_ := hzw.out; have hp1l_ := hp1l.out; have z7_ := z7.out; have z8_ := z8.out; have z9_ := z9.out; have z10_ := z10.out; have z11_ := z11.out
       exact ⟨b10, ⟨Ty.O_mono _ (fun q h => by have h1 := h.1; have h2 := h.2; exact ⟨by omega, by omega⟩) hHO2.out⟩, ⟨by omega⟩, b0, b1, hWy, hP, h1B, hB, ⟨by omega⟩⟩
      exact ⟨_, _, _, _, _, rfl, rfl, key _ rfl⟩
  case rest =>
  clear b0 b1 hWy hP h1B hB
  obtain ⟨p2, rD3, rD4, rd3, rd4, rfl, rfl, b4, hRO, hp2, b0, b1, hWy, hP, h1B, hB, hzw⟩ := hcut
  clear hWy hHO
  have hss : jsonSame p p = true := by rw [jsonSame_self]; exact G4.out
  have HSS := Hd.mk hss; clear hss
  obtain ⟨n1, hn1⟩ : ∃ z, z = jsonSize p := ⟨_, rfl⟩
  obtain ⟨n2, hn2⟩ : ∃ z, z = jsonSize j := ⟨_, rfl⟩
  have hle : n1 ≤ n2 := by rw [hn1, hn2]; exact G5.out
  have hld : decide (n1 ≤ n2) = true := decide_eq_true hle
  have HN1 := Hd.mk hn1; have HN2 := Hd.mk hn2; clear hn1 hn2
  obtain ⟨v00, v01, v02, v03, v04, v0z⟩ := blk5 b0.out
  obtain ⟨v10, v11, v12, v13, v14, v1z⟩ := blk5 b1.out
  obtain ⟨v40, v41, v42, v43, v44, v4z⟩ := blk5 b4.out
  go_wp2_with fail
  clear v00 v01 v02 v03 v04 v0z v10 v11 v12 v13 v14 v1z v40 v41 v42 v43 v44 v4z
  obtain ⟨v00, v01, v02, v03, v04, v0z⟩ := blk5 b0.out
  obtain ⟨v10, v11, v12, v13, v14, v1z⟩ := blk5 b1.out
  obtain ⟨v40, v41, v42, v43, v44, v4z⟩ := blk5 b4.out
  obtain ⟨rv00, rv01, rv02, rv03, rv04⟩ := reg5 v00 v01 v02 v03 v04
  obtain ⟨rv10, rv11, rv12, rv13, rv14⟩ := reg5 v10 v11 v12 v13 v14
  obtain ⟨rv40, rv41, rv42, rv43, rv44⟩ := reg5 v40 v41 v42 v43 v44
  refine region_mix [(true, 0), (true, 1), (true, 2), (true, 3), (true, 4), (true, 5), (true, 6), (false, 7), (true, 8), (true, 9), (true, 10), (true, 12), (false, 11), (false, 13), (true, 14), (true, 15), (true, 16)] (by kernel_rfl) (by kernel_rfl) (fun _ _ _ _ _ h => h) ?_
  (repeat (first | (refine mix_z rfl (by rfl) ?_; go_big_quiet_skip; refine wpQuiet_nil ?_) | (refine mix_q rfl ?_; first | (go_big_quiet_skip; refine wpQuiet_nil ?_) | (go_big_quiet_want; go_big_quiet_op; go_big_quiet_on; refine wpQuiet_nil ?_))))
  have hS := Hd.mk (Below.refl wc.heap.size wc)
  refine mix_b rfl ?_ (by rfl)
  go_wp2_with fail
  clear v00 v01 v02 v03 v04 v0z v10 v11 v12 v13 v14 v1z v40 v41 v42 v43 v44 v4z
  apply calls_gen; intro W7 hW
  have hz_ : wc.heap.size ≤ W7.heap.size := by rw [hW]; simp
  have hE : Below wc.heap.size wc W7 := by rw [hW]; (repeat (first | with_reducible refine below_alloc ?_ _ | with_reducible refine below_drew ?_)); exact Below.refl _ _
  have hB := hB.th hE
  have h1B := Hd.mk (below_then h1B.out hE)
  replace hS := Hd.mk (below_then hS.out hE)
  have b0 := b0.dn hE
  have b1 := b1.dn hE
  have b4 := b4.dn hE
  have hP := hP.ob hE
  have hRO := hRO.ob hE
  clear hW hE
  have z7 := Hd.mk hz_; clear hz_
  refine (impl_JsonSame (m := 8) p p _ _ _ (Ty.O_K _ hRO.out) (Ty.O_K _ hP.out)).mono ?_
  rintro e w8 ⟨rfl, hX⟩
  have b0 := b0.dn hX
  have b1 := b1.dn hX
  have b4 := b4.dn hX
  have hP := hP.ob hX
  have hRO := hRO.ob hX
  have hB := hB.th hX
  replace hS := Hd.mk (below_then hS.out hX)
  have hz_ := hX.size
  have h1B := Hd.mk (below_then h1B.out hX)
  clear hX
  have z8 := Hd.mk hz_; clear hz_
  rw [HSS.out]
  go_wp2_with fail
  refine ⟨cls_below hS.out, ?_⟩
  (repeat (first | (refine mix_z rfl (by rfl) ?_; go_big_quiet_skip; refine wpQuiet_nil ?_) | (refine mix_q rfl ?_; first | (go_big_quiet_skip; refine wpQuiet_nil ?_) | (go_big_quiet_want; go_big_quiet_op; go_big_quiet_on; refine wpQuiet_nil ?_))))
  refine mix_b rfl ?_ (by rfl)
  go_wp2_with fail
  apply calls_gen; intro W9 hW
  have hz_ : w8.heap.size ≤ W9.heap.size := by rw [hW]; simp
  have hE : Below w8.heap.size w8 W9 := by rw [hW]; (repeat (first | with_reducible refine below_alloc ?_ _ | with_reducible refine below_drew ?_)); exact Below.refl _ _
  have hB := hB.th hE
  have h1B := Hd.mk (below_then h1B.out hE)
  replace hS := Hd.mk (below_then hS.out hE)
  have b0 := b0.dn hE
  have b1 := b1.dn hE
  have b4 := b4.dn hE
  have hP := hP.ob hE
  have hRO := hRO.ob hE
  clear hW hE
  have z9 := Hd.mk hz_; clear hz_
  refine (impl_JsonSize (m := 8) p _ _ (Ty.O_K _ hP.out)).mono ?_
  rintro e w10 ⟨rfl, hX⟩
  have b0 := b0.dn hX
  have b1 := b1.dn hX
  have b4 := b4.dn hX
  have hP := hP.ob hX
  have hRO := hRO.ob hX
  have hB := hB.th hX
  replace hS := Hd.mk (below_then hS.out hX)
  have hz_ := hX.size
  have h1B := Hd.mk (below_then h1B.out hX)
  clear hX
  have z10 := Hd.mk hz_; clear hz_
  rw [← HN1.out]
  go_wp2_with fail
  refine ⟨cls_below hS.out, ?_⟩
  (repeat (first | (refine mix_z rfl (by rfl) ?_; go_big_quiet_skip; refine wpQuiet_nil ?_) | (refine mix_q rfl ?_; first | (go_big_quiet_skip; refine wpQuiet_nil ?_) | (go_big_quiet_want; go_big_quiet_op; go_big_quiet_on; refine wpQuiet_nil ?_))))
  refine mix_b rfl ?_ (by rfl)
  go_wp2_with fail
  apply calls_gen; intro W11 hW
  have hz_ : w10.heap.size ≤ W11.heap.size := by rw [hW]; simp
  have hE : Below w10.heap.size w10 W11 := by rw [hW]; (repeat (first | with_reducible refine below_alloc ?_ _ | with_reducible refine below_drew ?_)); exact Below.refl _ _
  have hB := hB.th hE
  have h1B := Hd.mk (below_then h1B.out hE)
  replace hS := Hd.mk (below_then hS.out hE)
  have b0 := b0.dn hE
  have b1 := b1.dn hE
  have b4 := b4.dn hE
  have hP := hP.ob hE
  have hRO := hRO.ob hE
  clear hW hE
  have z11 := Hd.mk hz_; clear hz_
  refine (impl_JsonSize (m := 8) j _ _ (Ty.K_below _ h1B.out HK.out)).mono ?_
  rintro e w12 ⟨rfl, hX⟩
  have b0 := b0.dn hX
  have b1 := b1.dn hX
  have b4 := b4.dn hX
  have hP := hP.ob hX
  have hRO := hRO.ob hX
  have hB := hB.th hX
  replace hS := Hd.mk (below_then hS.out hX)
  have hz_ := hX.size
  have h1B := Hd.mk (below_then h1B.out hX)
  clear hX
  have z12 := Hd.mk hz_; clear hz_
  rw [← HN2.out]
  go_wp2_with fail
  refine ⟨cls_below hS.out, ?_⟩
  (repeat (first | (refine mix_z rfl (by rfl) ?_; go_big_quiet_skip; refine wpQuiet_nil ?_) | (refine mix_q rfl ?_; first | (go_big_quiet_skip; refine wpQuiet_nil ?_) | (go_big_quiet_want; go_big_quiet_op; go_big_quiet_on; refine wpQuiet_nil ?_))))
  refine mix_nil ?_
  clear hS rv00 rv01 rv02 rv03 rv04 rv10 rv11 rv12 rv13 rv14 rv40 rv41 rv42 rv43 rv44
  go_wp2_with fail
  go_ret
  exact ⟨by rfl, hB.out⟩
end Go.Proofs.YtoaifagjdjgcbaaDoor.X
namespace Go.Proofs.YtoaifagjdjgcbaaDoor.X
open Go.RowKit
set_option linter.unusedVariables false
set_option linter.unusedSimpArgs false
open Ty
def Opens {α : Type} (d : Ty α) (P : Program) (t : TypeId) (wf : α → Prop) (B : Nat) : Prop :=
 ∀ (H : Type) (enc : TypeId × Value → H) (W : World) (base : Nat) (spare : Nat → Bool) (held : Bool) (fuel : Nat) (_ : fuel ≤ B) (cs : List Value) (x : DataW H × List MemPlace),
  DataW.trod enc P W base spare held fuel t cs = some x → ∃ v : α, d.K W v cs ∧ wf v
section
variable {P : Program} {t e : TypeId} {B : Nat}
theorem opens_int (ht : P.underlying t = some (.int .i64)) : Opens int P t (fun n => -9223372036854775808 ≤ n ∧ n ≤ 9223372036854775807) B := by
 intro H enc W base spare held fuel hB cs x h
 obtain ⟨n, rfl, _, hw⟩ := DataW.trod_int ht h
 exact ⟨n, rfl, bounds_i64 hw⟩
theorem opens_bool (ht : P.underlying t = some .bool) : Opens Ty.bool P t (fun _ => True) B := by
 intro H enc W base spare held fuel hB cs x h
 obtain ⟨n, rfl, _⟩ := DataW.trod_bool ht h
 exact ⟨n, rfl, trivial⟩
theorem opens_str (ht : P.underlying t = some .string) : Opens str P t (fun s => s.size ≤ 9223372036854775807) B := by
 intro H enc W base spare held fuel hB cs x h
 obtain ⟨s, rfl, _, hs⟩ := DataW.trod_string ht h
 exact ⟨s, ⟨rfl, by simpa [maxLen] using hs⟩, by simpa [maxLen] using hs⟩
theorem opens_sl {α : Type} {d : Ty α} {wf : α → Prop} {e' : TypeId} (ht : P.underlying t = some (.slice e)) (hc : P.cellsOf e = d.sz) (ho : Opens d P e wf B) : Opens (sl e' d) P t (fun l => ∀ x ∈ l, wf x) B := by
 intro H enc W base spare held fuel hB cs x h
 rcases DataW.trod_slice ht h with ⟨rfl, _⟩ | ⟨a, len, cap, elems, rest, n, hfu, rfl, _, hb, hl, hm, hel, hx, _⟩
 ·exact ⟨[], ⟨none, 0, rfl, Nat.le_refl _, C_nil _⟩, by simp⟩
 ·have key : ∀ i, i < len → ∃ (v : α) (cs : List Value), d.K W v cs ∧ wf v ∧ ∀ j u, cs[j]? = some u → W.cell? (a.add (i * d.sz + j)) = some u := by
   intro i hi
   have h1 := hx i hi
   rw [List.getElem?_eq_getElem (by omega)] at h1
   obtain ⟨cs, h2, h3⟩ := Option.bind_eq_some_iff.1 h1
   obtain ⟨_, h4, h5⟩ := World.cells?_some h2
   obtain ⟨v, hk, hw⟩ := ho H enc W base spare held n (by omega) cs _ h3
   refine ⟨v, cs, hk, hw, fun j u hu => ?_⟩
   have hj : j < cs.length := (List.getElem?_eq_some_iff.1 hu).1
   rw [← hc, ← Addr.add_add, h5 j (by omega), hu]
  have hg : ∀ i x, (List.ofFn (fun i : Fin len => Classical.choose (key i i.2)))[i]? = some x → ∃ hi : i < len, x = Classical.choose (key i hi) := by
   intro i x hi
   rw [List.getElem?_ofFn] at hi
   split at hi
   ·rename_i h1; injection hi with hi; exact ⟨h1, hi.symm⟩
   ·cases hi
  have hll : (List.ofFn (fun i : Fin len => Classical.choose (key i i.2))).length = len := by simp
  refine ⟨List.ofFn (fun i : Fin len => Classical.choose (key i i.2)), ⟨some a, cap, by rw [hll], by rw [hll]; exact hl, by rw [hll]; simp only [maxLen] at hm; omega, fun i x hi => ?_⟩, fun x hx => ?_⟩
  ·obtain ⟨h1, rfl⟩ := hg i x hi
   obtain ⟨cs, hk, _, hcell⟩ := Classical.choose_spec (key i h1)
   exact ⟨a, cs, rfl, hk, hcell⟩
  ·obtain ⟨i, hi⟩ := List.mem_iff_getElem?.1 hx
   obtain ⟨h1, rfl⟩ := hg i x hi
   obtain ⟨cs, _, hw, _⟩ := Classical.choose_spec (key i h1)
   exact hw
theorem pr_split {α β : Type} {a : Ty α} {b : Ty β} {w : World} {x : α} {y : β} {cs : List Value} (k : Nat) (h1 : a.K w x (cs.take k)) (h2 : b.K w y (cs.drop k)) : (pr a b).K w (x, y) cs :=
 ⟨_, _, (List.take_append_drop k cs).symm, h1, h2⟩
theorem opens_fields {H : Type} {enc : TypeId × Value → H} {W : World} {base : Nat} {spare : Nat → Bool} {held : Bool} {fuel : Nat} {cs : List Value} {x : DataW H × List MemPlace} {fs : Array Field} (ht : P.underlying t = some (.struct fs)) (h : DataW.trod enc P W base spare held fuel t cs = some x) :
  cs.length = P.cellsOf t ∧ ∃ n, n < fuel ∧ ∀ (i : Nat) (f : Field), fs[i]? = some f → ∃ y, DataW.trod enc P W base spare held n f.type ((cs.drop f.offset).take (P.cellsOf f.type)) = some y := by
 obtain ⟨xs, n, hfu, _, hl, hxl, hf⟩ := DataW.trod_struct ht h
 refine ⟨hl, n, by omega, fun i f hi => ?_⟩
 have := hf i f hi
 rw [List.getElem?_eq_getElem (by rw [hxl]; exact (Array.getElem?_eq_some_iff.1 hi).1)] at this
 exact ⟨_, this⟩
end
open Go.RowKit
def I64 (n : Int) : Prop := -9223372036854775808 ≤ n ∧ n ≤ 9223372036854775807
theorem cells_int : Tryd.prog.cellsOf 3 = 1 := by kernel_rfl
theorem o_int (B : Nat) : Opens int Tryd.prog 3 (I64) B := opens_int Tryd.underlying3
theorem cells_bool : Tryd.prog.cellsOf 4 = 1 := by kernel_rfl
theorem o_bool (B : Nat) : Opens Ty.bool Tryd.prog 4 (fun _ => True) B := opens_bool Tryd.underlying4
theorem cells_ints : Tryd.prog.cellsOf 64 = 1 := by kernel_rfl
theorem o_ints (B : Nat) : Opens (sl 3 int) Tryd.prog 64 (fun l => ∀ x ∈ l, I64 x) B := opens_sl Tryd.underlying64 cells_int (o_int B)
theorem cells_str : Tryd.prog.cellsOf 9 = 1 := by kernel_rfl
theorem o_str (B : Nat) : Opens str Tryd.prog 9 (fun s => s.size ≤ 9223372036854775807) B := opens_str Tryd.underlying9
theorem cells_strs : Tryd.prog.cellsOf 25 = 1 := by kernel_rfl
theorem o_strs (B : Nat) : Opens (sl 9 str) Tryd.prog 25 (fun l => ∀ x ∈ l, x.size ≤ 9223372036854775807) B := opens_sl Tryd.underlying25 cells_str (o_str B)
/-! The program's head says 'cut': read off its first word alone (the kernel doesn't walk the whole text of the head). -/
theorem cut_of {P : Program} (l : List Char) (h : P.initOrder = String.ofList l) (h2 : ((behindMainWord (wordsSigns l)).head? == some "cut".toList) = true) : ∃ rest, behindMainWord (wordsSigns P.initOrder.toList) = "cut".toList :: rest := by
 rw [h, String.toList_ofList]
 cases hb : behindMainWord (wordsSigns l) with
 | nil => rw [hb] at h2; cases h2
 | cons c r =>
  rw [hb] at h2
  have : c = "cut".toList := by simpa using h2
  exact ⟨r, by rw [this]⟩
theorem make_cut {P : Program} (h : ∃ rest, behindMainWord (wordsSigns P.initOrder.toList) = "cut".toList :: rest) : P.make = some .cut := by
 obtain ⟨r, h⟩ := h
 unfold Program.make
 rw [h]
 rfl
theorem lifts_cut {P : Program} (h : ∃ rest, behindMainWord (wordsSigns P.initOrder.toList) = "cut".toList :: rest) : P.headLifts = [] := by
 obtain ⟨r, h⟩ := h
 unfold Program.headLifts
 rw [h]
 rfl
theorem final_cut {P : Program} (h : ∃ rest, behindMainWord (wordsSigns P.initOrder.toList) = "cut".toList :: rest) : P.liftsFinal = false := by
 have h1 := lifts_cut h
 obtain ⟨r, h⟩ := h
 unfold Program.liftsFinal
 rw [h1, h]
 rfl
theorem enter_cut {P : Program} (h : ∃ rest, behindMainWord (wordsSigns P.initOrder.toList) = "cut".toList :: rest) (h2 : (!P.laysLater && !P.bearsReflect && P.doorFits []) = true) : P.mayEnter = true := by
 obtain ⟨r, h⟩ := h
 simp only [Bool.and_eq_true] at h2
 unfold Program.mayEnter
 rw [h]
 have e : stripLifts liftWords ("cut".toList :: r) = ([], "cut".toList :: r) := rfl
 simp only [e, h2.1.1, h2.1.2, h2.2]
 rfl
set_option maxRecDepth 100000 in
theorem head_cut : ∃ rest, behindMainWord (wordsSigns Tryd.prog.initOrder.toList) = "cut".toList :: rest := cut_of _ rfl (by kernel_rfl)
theorem enter_ : Tryd.prog.mayEnter = true := enter_cut head_cut (by kernel_rfl)
theorem final_ : (false == Tryd.prog.liftsFinal) = true := by rw [final_cut head_cut]; rfl
theorem make_ : (Tryd.prog.make == some .cut) = true := by rw [make_cut head_cut]; rfl
theorem andB {a b : Bool} (ha : a = true) (hb : b = true) : (a && b) = true := by rw [ha, hb]; rfl
theorem opens_u8 {P : Program} {t : TypeId} {B : Nat} (ht : P.underlying t = some (.int .u8)) : Opens u8 P t (fun _ => True) B := by
 intro H enc W base spare held fuel hB cs x h
 obtain ⟨n, rfl, _, _⟩ := DataW.trod_int ht h
 exact ⟨n, rfl, trivial⟩
theorem cells_u8 : Tryd.prog.cellsOf 5 = 1 := by kernel_rfl
theorem o_bytes (B : Nat) : Opens (sl 5 u8) Tryd.prog 22 (fun l => ∀ x ∈ l, True) B := opens_sl Tryd.underlying22 cells_u8 (opens_u8 Tryd.underlying5)
theorem opens_u8R {P : Program} {t : TypeId} {B : Nat} (ht : P.underlying t = some (.int .u8)) : Opens u8 P t (fun n => 0 ≤ n ∧ n ≤ 255) B := by
 intro H enc W base spare held fuel hB cs x h
 obtain ⟨n, rfl, _, hw⟩ := DataW.trod_int ht h
 refine ⟨n, rfl, ?_⟩
 simp only [Lit.wf, IntKind.min, IntKind.max, Bool.and_eq_true, decide_eq_true_eq] at hw
 first | (simp at hw; omega) | (have h1 := hw.1; have h2 := hw.2; simp [IntKind.signed, IntKind.bits] at h1 h2; omega)
theorem o_bytesR (B : Nat) : Opens (sl 5 u8) Tryd.prog 22 (fun l => ∀ x ∈ l, 0 ≤ x ∧ x ≤ 255) B := opens_sl Tryd.underlying22 cells_u8 (opens_u8R Tryd.underlying5)
end Go.Proofs.YtoaifagjdjgcbaaDoor.X
