/- What is proved here: lemmas about the functions that the statement reaches, and what they compute (part 6). Conditions: none. -/
import Derived.Test.YtegcecnjmimbiaaGreatDoorM1
import Derived.Test.YtegcecnjmimbiaaGreatDoorM5
import Derived.StillTailTactics
import Derived.Deep.RegionWith
import Derived.Test.YtegcecnjmimbiaaGreatDoorProg
import Derived.ProofKit
import Derived.OpenShut
namespace Go.Proofs.YtegcecnjmimbiaaGreatDoor.X
open Go.RowKit Go.Sort
set_option linter.unusedVariables false
set_option linter.unusedSimpArgs false
open Ty
set_option maxHeartbeats 16000000 in
set_option maxRecDepth 100000 in
theorem laws_FnExactPatch {w : World} (B0 : Nat) (j : J) (cs0 : List Value) (hk0 : (tJ (B0 + 1)).K w j cs0) (B1 : Nat) (o : JOp) (cs1 : List Value) (hk1 : (tOp (B1 + 1)).K w o cs1) (hT : EnvT w) (hE : EnvE w) :
  Calls Tryz.prog 3 #[.agg cs0.toArray, .agg cs1.toArray] w fun e w' => e = .returned (.bool true) ∧ Below w.heap.size w w' := by
 obtain ⟨m, hm⟩ : ∃ m : Nat, B0 ≤ m ∧ B1 ≤ m ∧ 6 ≤ m := ⟨B0 + B1 + 6, by omega⟩
 have H6 := Hd.mk (show 6 ≤ m by omega)
 replace hk0 : (tJ (m + 1)).K w j cs0 := (tJ_le (by omega : B0 + 1 ≤ m + 1)).K _ _ _ hk0
 replace hk1 : (tOp (m + 1)).K w o cs1 := (tOp_le (by omega : B1 + 1 ≤ m + 1)).K _ _ _ hk1
 clear hm
 obtain ⟨y, hy⟩ : ∃ z, z = patchJ j o := ⟨_, rfl⟩
 have Hy := Hd.mk hy; clear hy
 obtain ⟨yb, hyb⟩ : ∃ z, z = patchB j o := ⟨_, rfl⟩
 have Hyb := Hd.mk hyb; clear hyb
 obtain ⟨A0, c0, A0B, c0B, rfl, hs0, ⟨hc0, hr0⟩, hc0B, hr0B⟩ := tJ_K.1 hk0
 have hK0 := Hd.mk hk0; clear hk0
 clear hr0 hr0B
 obtain ⟨A1w, c1w, _, rfl, ⟨hc1w, hr1w⟩, hj1⟩ := tOp_K.1 hk1
 obtain ⟨A1, c1, A1B, c1B, rfl, hs1, ⟨hc1, hr1⟩, hc1B, hr1B⟩ := tJ_K.1 hj1
 have hK1 := Hd.mk hk1; clear hk1
 clear hr1 hr1B hr1w hj1
 replace hT := Hd.mk hT
 replace hE := Hd.mk hE
 go_enter Tryz.func3, Tryz.ntmps3
 go_wp2_with fail
 apply calls_gen; intro W0 hW
 have hE : Below w.heap.size w W0 := by rw [hW]; (repeat (with_reducible refine below_alloc ?_ _)); exact Below.refl _ _
 have b0 := Hd.mk (show Blk W0 (w.heap.size) #[.int .i64 j.kind, .int .i64 j.n, .string j.s, .slice A0 j.list.length c0, .slice A0B j.names.length c0B] 25 by rw [hW]; exact ((Blk.new w _ _).alloc _))
 have b1 := Hd.mk (show Blk W0 (w.heap.size + 1) #[.int .i64 o.kind, .slice A1w o.way.length c1w, .int .i64 o.value.kind, .int .i64 o.value.n, .string o.value.s, .slice A1 o.value.list.length c1, .slice A1B o.value.names.length c1B] 27 by rw [hW]; simpa using (Blk.new (w.alloc _) _ _))
 have hz_ : w.heap.size + 2 ≤ W0.heap.size := by rw [hW]; simp
 clear hW
 have hB := Hd.mk hE; clear hE
 have ab0 := Hd.mk (show w.heap.size ≤ w.heap.size by omega)
 have eb0 := Hd.mk (show w.heap.size + 1 ≤ W0.heap.size by omega)
 have ab1 := Hd.mk (show w.heap.size ≤ w.heap.size + 1 by omega)
 have eb1 := Hd.mk (show w.heap.size + 1 + 1 ≤ W0.heap.size by omega)
 have db0_b1 := Hd.mk (show w.heap.size + 1 ≤ w.heap.size + 1 by omega)
 clear hz_
 refine (laws_szJson j _ _ _ ((tJ (m + 1)).K_below hB.out hK0.out) (by omega) (by omega)).mono ?_
 rintro e w1 ⟨rfl, hX⟩
 replace b0 := b0.dn hX
 replace eb0 := upE eb0 hX
 replace b1 := b1.dn hX
 replace eb1 := upE eb1 hX
 replace hB := hB.th hX
 clear hX
 obtain ⟨fb00, fb01, fb02, fb03, fb04, -⟩ := blk5 b0.out
 obtain ⟨fb10, fb11, fb12, fb13, fb14, fb15, fb16, -⟩ := blk7 b1.out
 by_cases hz0 : szR 1048576 (bulkJ (m + 1) j) < 0
 ·go_wp2_with fail
  go_ret
  exact ⟨rfl, hB.out⟩
 have HL0 := Hd.mk (szR_le (Int.not_lt.1 hz0) (by omega))
 have hy0 := HL0.out.2.1
 have hx0 := HL0.out.2.2.1
 clear hz0
 go_wp2_with fail
 clear fb00 fb01 fb02 fb03 fb04 fb10 fb11 fb12 fb13 fb14 fb15 fb16
 apply calls_gen; intro W2 hW
 have hE : Below w1.heap.size w1 W2 := by rw [hW]; (repeat (first | with_reducible refine below_alloc ?_ _ | with_reducible refine below_drew ?_)); exact Below.refl _ _
 clear hW
 replace b0 := b0.dn hE
 replace eb0 := upE eb0 hE
 replace b1 := b1.dn hE
 replace eb1 := upE eb1 hE
 replace hB := hB.th hE
 clear hE
 refine (laws_szOp o _ _ _ ((tOp (m + 1)).K_below hB.out hK1.out) hy0 hx0).mono ?_
 rintro e w3 ⟨rfl, hX⟩
 replace b0 := b0.dn hX
 replace eb0 := upE eb0 hX
 replace b1 := b1.dn hX
 replace eb1 := upE eb1 hX
 replace hB := hB.th hX
 clear hX
 obtain ⟨fb00, fb01, fb02, fb03, fb04, -⟩ := blk5 b0.out
 obtain ⟨fb10, fb11, fb12, fb13, fb14, fb15, fb16, -⟩ := blk7 b1.out
 by_cases hz1 : szR (szR 1048576 (bulkJ (m + 1) j)) (bulkOp (m + 1) o) < 0
 ·go_wp2_with fail
  go_ret
  exact ⟨rfl, hB.out⟩
 have HL1 := Hd.mk (szR_le (Int.not_lt.1 hz1) hx0)
 have hy1 := HL1.out.2.1
 have hx1 := HL1.out.2.2.1
 clear hz1
 go_wp2_with fail
 clear fb00 fb01 fb02 fb03 fb04 fb10 fb11 fb12 fb13 fb14 fb15 fb16
 have hx_0 : ((bulkL (cnJ m) j.list : Int) + (j.names.length : Int) : Int) ≤ 8388608 := by have := cnt_Json m j; have := HL0.out.1; omega
 have hx_1 : ((o.way.length : Int) + (bulkL (cnJ m) o.value.list : Int) + (o.value.names.length : Int) : Int) ≤ 8388608 := by have := cnt_Op m o; have := HL1.out.1; omega
 have hx_y : ((bulkL (cnJ m) y.list : Int) + (y.names.length : Int) : Int) ≤ 1099511627776 := by (rw [Hy.out]; have h1 := cnt_Json m (patchJ j o); have h2 := bulk_size (m + 1) 6 (patchJ j o) (patchJ_size j o); have h3 := patchJ_size j o; omega)
 obtain ⟨RR, hRR⟩ : ∃ RR : Act → World → Prop, RR = (fun a w' => ∃ (p a0 b0 : Nat) (Aw0 : Option Addr) (cw0 : Nat) (Aw0B : Option Addr) (cw0B : Nat) (u5 u17 u18 u19 u20 u21 u22 u23 u24 u25 u26 u28 u29 u30 u31 u32 u27 u33 u34 : Value), a = ⟨#[.agg #[.int .i64 j.kind, .int .i64 j.n, .string j.s, .slice A0 j.list.length c0, .slice A0B j.names.length c0B], .agg #[.int .i64 o.kind, .slice A1w o.way.length c1w, .int .i64 o.value.kind, .int .i64 o.value.n, .string o.value.s, .slice A1 o.value.list.length c1, .slice A1B o.value.names.length c1B], .pointer (some ⟨w.heap.size, 0, none⟩), .pointer (some ⟨w.heap.size + 1, 0, none⟩), .bool false, u5, .pointer (some ⟨p, 0, none⟩), .bool yb, undef, undef, undef, undef, undef, undef, undef, undef, undef, u17, u18, u19, u20, u21, u22, u23, u24, u25, u26, u27, u28, u29, u30, u31, u32, u33, u34, undef, undef, undef, undef, undef, undef, undef, undef, undef, undef, undef, undef, undef, undef, undef, undef, undef, undef, undef, undef, undef, undef, undef, undef, undef, undef, undef, undef, undef, undef, undef, undef, undef, undef, undef, undef, undef, undef, undef, undef, undef, undef, undef, undef, undef, undef, undef, undef, undef, undef, undef, undef, undef, undef, undef, undef, undef, undef, undef, undef, undef, undef, undef, undef, undef, undef, undef, undef, undef, undef, undef, undef, undef, undef, undef, undef, undef, undef, undef, undef, undef, undef, undef, undef], []⟩ ∧ Hd (Blk w' p #[.int .i64 y.kind, .int .i64 y.n, .string y.s, .slice Aw0 y.list.length cw0, .slice Aw0B y.names.length cw0B] 32) ∧ Hd (Blk w' (w.heap.size) #[.int .i64 j.kind, .int .i64 j.n, .string j.s, .slice A0 j.list.length c0, .slice A0B j.names.length c0B] 25) ∧ Hd (w.heap.size + 1 ≤ w'.heap.size) ∧ Hd (Blk w' (w.heap.size + 1) #[.int .i64 o.kind, .slice A1w o.way.length c1w, .int .i64 o.value.kind, .int .i64 o.value.n, .string o.value.s, .slice A1 o.value.list.length c1, .slice A1B o.value.names.length c1B] 27) ∧ Hd (w.heap.size + 1 + 1 ≤ w'.heap.size) ∧ Hd ((tJ (m + 1)).O w' (rng a0 b0) y [Value.int IntKind.i64 y.kind, .int .i64 y.n, .string y.s, .slice Aw0 y.list.length cw0, .slice Aw0B y.names.length cw0B]) ∧ Hd (w.heap.size ≤ p) ∧ Hd (p + 1 ≤ w'.heap.size) ∧ Hd (w.heap.size ≤ a0) ∧ Hd (b0 ≤ w'.heap.size) ∧ Hd (Below w.heap.size w w')) := ⟨_, rfl⟩
 have HRR := Hd.mk hRR; clear hRR
 refine region_to RR ?_ ?_
 case refine_1 =>
  obtain ⟨fb00, fb01, fb02, fb03, fb04, -⟩ := blk5 b0.out
  obtain ⟨fb10, fb11, fb12, fb13, fb14, fb15, fb16, -⟩ := blk7 b1.out
  obtain ⟨rfb00, rfb01, rfb02, rfb03, rfb04, rfb10, rfb11⟩ := reg7 fb00 fb01 fb02 fb03 fb04 fb10 fb11
  obtain ⟨rfb12, rfb13, rfb14, rfb15, rfb16⟩ := reg5 fb12 fb13 fb14 fb15 fb16
  refine region_mixT (.q 0 (.q 2 (.br 1 8 (.br 3 8 (.br 4 8 (.p 5 (.p 6 (.p 7 (.b 8 .fin)))) (.b 4 (.p 5 (.p 6 (.p 7 .fin))))) (.b 3 (.b 4 (.p 5 (.p 6 (.p 7 .fin)))))) (.b 1 (.b 3 (.b 4 (.p 5 (.p 6 (.p 7 .fin))))))))) [9, 10] (by kernel_rfl) (by kernel_rfl) (fun _ _ _ _ _ h => h) ?_
  refine genT ?_; intro W4 hW
  have hE : Below w3.heap.size w3 W4 := by rw [hW]; exact below_drew (Below.refl _ _)
  have hS := Hd.mk hE
  clear hW
  replace b0 := b0.dn hE
  replace eb0 := upE eb0 hE
  replace b1 := b1.dn hE
  replace eb1 := upE eb1 hE
  replace hB := hB.th hE
  clear hE
  iterate 2 (refine mixT_q rfl ?_; go_big_quiet_want; go_big_quiet_op; go_big_quiet_on; refine wpQuiet_nil ?_)
  refine ⟨?_, ?_⟩
  ·refine stepM_of rfl ?_ (by rfl)
   go_wp2_with fail
   apply calls_gen; intro W5 hW
   have hE : Below W4.heap.size W4 W5 := by rw [hW]; (repeat (first | with_reducible refine below_alloc ?_ _ | with_reducible refine below_drew ?_)); exact Below.refl _ _
   clear hW
   replace b0 := b0.dn hE
   replace eb0 := upE eb0 hE
   replace b1 := b1.dn hE
   replace eb1 := upE eb1 hE
   replace hB := hB.th hE
   replace hS := Hd.mk (below_then hS.out hE)
   clear hE
   refine (laws_toJson j _ _ ((tJ (m + 1)).K_below hB.out hK0.out) HL0.out.1).mono ?_
   rintro e w6 ⟨cs_, rfl, hO, hX⟩
   have db0_s0 := Hd.mk eb0.out
   have db1_s0 := Hd.mk eb1.out
   have as0 := Hd.mk hB.out.size
   replace b0 := b0.dn hX
   replace eb0 := upE eb0 hX
   replace b1 := b1.dn hX
   replace eb1 := upE eb1 hX
   replace hB := hB.th hX
   replace hS := Hd.mk (below_then hS.out hX)
   clear hX
   replace hO := Ty.O_bound _ hO
   obtain ⟨v_, u_, _, _, hcs, _, r1, r2, _⟩ := tJ_O.1 hO
   subst hcs
   obtain ⟨As0, cs0, hv_, hcs0, _⟩ := R_C r1
   subst hv_
   clear r1
   obtain ⟨As0B, cs0B, hv_, hcs0B, _⟩ := R_C r2
   subst hv_
   clear r2
   have s0 := Hd.mk (show (tJ (m + 1)).O w6 (rng W5.heap.size w6.heap.size) j [Value.int IntKind.i64 j.kind, .int .i64 j.n, .string j.s, .slice As0 j.list.length cs0, .slice As0B j.names.length cs0B] from hO); clear hO
   have es0 := Hd.mk (Nat.le_refl w6.heap.size)
   go_wp2_with fail
   refine ⟨cls_below hS.out, ?_⟩
   refine ⟨?_, ?_⟩
   ·refine stepM_of rfl ?_ (by rfl)
    go_wp2_with fail
    apply calls_gen; intro W7 hW
    have hE : Below w6.heap.size w6 W7 := by rw [hW]; (repeat (first | with_reducible refine below_alloc ?_ _ | with_reducible refine below_drew ?_)); exact Below.refl _ _
    clear hW
    replace b0 := b0.dn hE
    replace eb0 := upE eb0 hE
    replace b1 := b1.dn hE
    replace eb1 := upE eb1 hE
    replace s0 := s0.ob hE
    replace es0 := upE es0 hE
    replace hB := hB.th hE
    replace hS := Hd.mk (below_then hS.out hE)
    clear hE
    refine (laws_toOp o _ _ ((tOp (m + 1)).K_below hB.out hK1.out) HL1.out.1).mono ?_
    rintro e w8 ⟨cs_, rfl, hO, hX⟩
    have db0_s1 := Hd.mk eb0.out
    have db1_s1 := Hd.mk eb1.out
    have ds0_s1 := Hd.mk es0.out
    have as1 := Hd.mk hB.out.size
    replace b0 := b0.dn hX
    replace eb0 := upE eb0 hX
    replace b1 := b1.dn hX
    replace eb1 := upE eb1 hX
    replace s0 := s0.ob hX
    replace es0 := upE es0 hX
    replace hB := hB.th hX
    replace hS := Hd.mk (below_then hS.out hX)
    clear hX
    replace hO := Ty.O_bound _ hO
    obtain ⟨v_, c1_, _, _, hcs, r1, rj_, _⟩ := tOp_O.1 hO
    obtain ⟨As1w, cs1w, hv_, hcs1w, _⟩ := R_C r1
    subst hv_
    clear r1
    obtain ⟨v_, u_, _, _, hcs2, _, r1, r2, _⟩ := tJ_O.1 rj_
    clear rj_
    subst hcs2
    subst hcs
    obtain ⟨As1, cs1, hv_, hcs1, _⟩ := R_C r1
    subst hv_
    clear r1
    obtain ⟨As1B, cs1B, hv_, hcs1B, _⟩ := R_C r2
    subst hv_
    clear r2
    have s1 := Hd.mk (show (tOp (m + 1)).O w8 (rng W7.heap.size w8.heap.size) o [Value.int IntKind.i64 o.kind, .slice As1w o.way.length cs1w, .int .i64 o.value.kind, .int .i64 o.value.n, .string o.value.s, .slice As1 o.value.list.length cs1, .slice As1B o.value.names.length cs1B] from hO); clear hO
    have es1 := Hd.mk (Nat.le_refl w8.heap.size)
    go_wp2_with fail
    refine ⟨cls_below hS.out, ?_⟩
    refine ⟨?_, ?_⟩
    ·refine stepM_of rfl ?_ (by rfl)
     go_wp2_with fail
     apply calls_gen; intro W9 hW
     have hE : Below w8.heap.size w8 W9 := by rw [hW]; (repeat (first | with_reducible refine below_alloc ?_ _ | with_reducible refine below_drew ?_)); exact Below.refl _ _
     clear hW
     replace b0 := b0.dn hE
     replace eb0 := upE eb0 hE
     replace b1 := b1.dn hE
     replace eb1 := upE eb1 hE
     replace s0 := s0.ob hE
     replace es0 := upE es0 hE
     replace s1 := s1.ob hE
     replace es1 := upE es1 hE
     replace hB := hB.th hE
     replace hS := Hd.mk (below_then hS.out hE)
     clear hE
     refine (spec_PatchM (B := m) H6.out j _ o _ _ ((tJ (m + 1)).O_K s0.out) ((tOp (m + 1)).O_K s1.out)).mono ?_
     rintro e w10 ⟨cs_, rfl, hO, hX⟩
     have db0_w0 := Hd.mk eb0.out
     have db1_w0 := Hd.mk eb1.out
     have ds0_w0 := Hd.mk es0.out
     have ds1_w0 := Hd.mk es1.out
     have aw0 := Hd.mk hB.out.size
     replace b0 := b0.dn hX
     replace eb0 := upE eb0 hX
     replace b1 := b1.dn hX
     replace eb1 := upE eb1 hX
     replace s0 := s0.ob hX
     replace es0 := upE es0 hX
     replace s1 := s1.ob hX
     replace es1 := upE es1 hX
     replace hB := hB.th hX
     replace hS := Hd.mk (below_then hS.out hX)
     clear hX
     rw [← Hy.out] at hO
     rw [← Hyb.out]
     replace hO := Ty.O_bound _ hO
     obtain ⟨v_, u_, _, _, hcs, _, r1, r2, _⟩ := tJ_O.1 hO
     subst hcs
     obtain ⟨Aw0, cw0, hv_, hcw0, _⟩ := R_C r1
     subst hv_
     clear r1
     obtain ⟨Aw0B, cw0B, hv_, hcw0B, _⟩ := R_C r2
     subst hv_
     clear r2
     have w0 := Hd.mk (show (tJ (m + 1)).O w10 (rng W9.heap.size w10.heap.size) y [Value.int IntKind.i64 y.kind, .int .i64 y.n, .string y.s, .slice Aw0 y.list.length cw0, .slice Aw0B y.names.length cw0B] from hO); clear hO
     have ew0 := Hd.mk (Nat.le_refl w10.heap.size)
     go_wp2_with fail
     refine ⟨cls_below hS.out, ?_⟩
     iterate 3 (refine mixT_p rfl ?_; go_big_quiet_want; go_big_quiet_op; go_big_quiet_on; refine wpQuiet_nil ?_)
     refine mixT_b rfl ?_ (by rfl)
     go_wp2_with fail
     refine ⟨cls_below (below_alloc hS.out _), ?_⟩
     refine genT ?_; intro W11 hW
     have hE : Below w10.heap.size w10 W11 := by rw [hW]; exact below_alloc (Below.refl _ _) _
     have Bw0 := Hd.mk (show Blk W11 w10.heap.size #[.int .i64 0, .int .i64 0, .string ⟨#[]⟩, .slice none 0 0, .slice none 0 0] 32 by rw [hW]; exact Blk.new _ _ _)
     have hz_ : w10.heap.size + 1 ≤ W11.heap.size := by rw [hW]; simp
     clear hW
     have db0_Bw0 := Hd.mk eb0.out
     have db1_Bw0 := Hd.mk eb1.out
     have ds0_Bw0 := Hd.mk es0.out
     have ds1_Bw0 := Hd.mk es1.out
     have dw0_Bw0 := Hd.mk ew0.out
     have aBw0 := Hd.mk hB.out.size
     replace b0 := b0.dn hE
     replace eb0 := upE eb0 hE
     replace b1 := b1.dn hE
     replace eb1 := upE eb1 hE
     replace s0 := s0.ob hE
     replace es0 := upE es0 hE
     replace s1 := s1.ob hE
     replace es1 := upE es1 hE
     replace w0 := w0.ob hE
     replace ew0 := upE ew0 hE
     replace hB := hB.th hE
     replace hS := Hd.mk (below_then hS.out hE)
     have eBw0 := Hd.mk hz_; clear hz_ hE
     refine mixT_fin ?_
     clear hS
     clear fb00 fb01 fb02 fb03 fb04 fb10 fb11 fb12 fb13 fb14 fb15 fb16 rfb00 rfb01 rfb02 rfb03 rfb04 rfb10 rfb11 rfb12 rfb13 rfb14 rfb15 rfb16
     obtain ⟨fb00, fb01, fb02, fb03, fb04, -⟩ := blk5 b0.out
     obtain ⟨fb10, fb11, fb12, fb13, fb14, fb15, fb16, -⟩ := blk7 b1.out
     obtain ⟨fBw00, fBw01, fBw02, fBw03, fBw04, -⟩ := blk5 Bw0.out
     have fz_ := Bw0.out.frozen
     refine tail_b rfl ?_ (by rfl)
     go_wp2_with fail
     refine mixQ_n ?_
     refine tail_b rfl ?_ (by rfl)
     go_wp2_with fail
     refine mixQ_n ?_
     refine tail_nil ?_
     refine region_gen ?_; intro W hW
     clear fz_
     clear fb00 fb01 fb02 fb03 fb04 fb10 fb11 fb12 fb13 fb14 fb15 fb16 fBw00 fBw01 fBw02 fBw03 fBw04
     have eF : Fr W11 W (fun k => k = w10.heap.size) := by rw [hW]; (repeat (first | with_reducible refine Fr.setCell (S := fun k => k = w10.heap.size) ?_ _ (fun _ => rfl) _)); exact Fr.refl _ _
     have hsz_ := eF.size
     replace b0 := Hd.mk (b0.out.fr eF (fun h => by have := db0_Bw0.out; (try simp only at h); omega))
     replace eb0 := Hd.mk (Nat.le_trans eb0.out hsz_)
     replace b1 := Hd.mk (b1.out.fr eF (fun h => by have := db1_Bw0.out; (try simp only at h); omega))
     replace eb1 := Hd.mk (Nat.le_trans eb1.out hsz_)
     replace s0 := Hd.mk (Ty.O_fr s0.out eF (fun k hk hl h => by have := ds0_Bw0.out; have h1 := hk.1; have h2 := hk.2; (try simp only at h); omega))
     replace es0 := Hd.mk (Nat.le_trans es0.out hsz_)
     replace s1 := Hd.mk (Ty.O_fr s1.out eF (fun k hk hl h => by have := ds1_Bw0.out; have h1 := hk.1; have h2 := hk.2; (try simp only at h); omega))
     replace es1 := Hd.mk (Nat.le_trans es1.out hsz_)
     replace w0 := Hd.mk (Ty.O_fr w0.out eF (fun k hk hl h => by have := dw0_Bw0.out; have h1 := hk.1; have h2 := hk.2; (try simp only at h); omega))
     replace ew0 := Hd.mk (Nat.le_trans ew0.out hsz_)
     replace Bw0 := Hd.mk (show Blk W (w10.heap.size) #[.int .i64 y.kind, .int .i64 y.n, .string y.s, .slice Aw0 y.list.length cw0, .slice Aw0B y.names.length cw0B] 32 by rw [hW]; exact (((((Bw0.out.set 0 (Value.int IntKind.i64 y.kind)).set 1 (Value.int IntKind.i64 y.n)).set 2 (Value.string y.s)).set 3 (Value.slice Aw0 y.list.length cw0)).set 4 (Value.slice Aw0B y.names.length cw0B)))
     replace eBw0 := Hd.mk (Nat.le_trans eBw0.out hsz_)
     replace hB := Hd.mk (((Fr.of_below hB.out (fun k => k = w10.heap.size)).then_ eF (fun k h _ => h)).below (fun k h => by have := aBw0.out; (try simp only at h); omega))
     clear hW eF hsz_
     rw [HRR.out]
     exact ⟨_, _, _, _, _, _, _, _, _, _, _, _, _, _, _, _, _, _, _, _, _, _, _, _, _, _, rfl, Bw0, b0, eb0, b1, eb1, w0, aBw0, eBw0, aw0, ew0, hB⟩
    ·refine stepM_of rfl ?_ (by rfl)
     go_wp2_with fail
     refine ⟨cls_below (below_alloc hS.out _), ?_⟩
     refine genT ?_; intro W9 hW
     have hE : Below w8.heap.size w8 W9 := by rw [hW]; exact below_alloc (Below.refl _ _) _
     have Bw0 := Hd.mk (show Blk W9 w8.heap.size #[.int .i64 0, .int .i64 0, .string ⟨#[]⟩, .slice none 0 0, .slice none 0 0] 32 by rw [hW]; exact Blk.new _ _ _)
     have hz_ : w8.heap.size + 1 ≤ W9.heap.size := by rw [hW]; simp
     clear hW
     have db0_Bw0 := Hd.mk eb0.out
     have db1_Bw0 := Hd.mk eb1.out
     have ds0_Bw0 := Hd.mk es0.out
     have ds1_Bw0 := Hd.mk es1.out
     have aBw0 := Hd.mk hB.out.size
     replace b0 := b0.dn hE
     replace eb0 := upE eb0 hE
     replace b1 := b1.dn hE
     replace eb1 := upE eb1 hE
     replace s0 := s0.ob hE
     replace es0 := upE es0 hE
     replace s1 := s1.ob hE
     replace es1 := upE es1 hE
     replace hB := hB.th hE
     replace hS := Hd.mk (below_then hS.out hE)
     have eBw0 := Hd.mk hz_; clear hz_ hE
     refine mixT_b rfl ?_ (by rfl)
     go_wp2_with fail
     apply calls_gen; intro W10 hW
     have hE : Below W9.heap.size W9 W10 := by rw [hW]; (repeat (first | with_reducible refine below_alloc ?_ _ | with_reducible refine below_drew ?_)); exact Below.refl _ _
     clear hW
     replace b0 := b0.dn hE
     replace eb0 := upE eb0 hE
     replace b1 := b1.dn hE
     replace eb1 := upE eb1 hE
     replace s0 := s0.ob hE
     replace es0 := upE es0 hE
     replace s1 := s1.ob hE
     replace es1 := upE es1 hE
     replace Bw0 := Bw0.dn hE
     replace eBw0 := upE eBw0 hE
     replace hB := hB.th hE
     replace hS := Hd.mk (below_then hS.out hE)
     clear hE
     refine (spec_PatchM (B := m) H6.out j _ o _ _ ((tJ (m + 1)).O_K s0.out) ((tOp (m + 1)).O_K s1.out)).mono ?_
     rintro e w11 ⟨cs_, rfl, hO, hX⟩
     have db0_w0 := Hd.mk eb0.out
     have db1_w0 := Hd.mk eb1.out
     have ds0_w0 := Hd.mk es0.out
     have ds1_w0 := Hd.mk es1.out
     have dBw0_w0 := Hd.mk eBw0.out
     have aw0 := Hd.mk hB.out.size
     replace b0 := b0.dn hX
     replace eb0 := upE eb0 hX
     replace b1 := b1.dn hX
     replace eb1 := upE eb1 hX
     replace s0 := s0.ob hX
     replace es0 := upE es0 hX
     replace s1 := s1.ob hX
     replace es1 := upE es1 hX
     replace Bw0 := Bw0.dn hX
     replace eBw0 := upE eBw0 hX
     replace hB := hB.th hX
     replace hS := Hd.mk (below_then hS.out hX)
     clear hX
     rw [← Hy.out] at hO
     rw [← Hyb.out]
     replace hO := Ty.O_bound _ hO
     obtain ⟨v_, u_, _, _, hcs, _, r1, r2, _⟩ := tJ_O.1 hO
     subst hcs
     obtain ⟨Aw0, cw0, hv_, hcw0, _⟩ := R_C r1
     subst hv_
     clear r1
     obtain ⟨Aw0B, cw0B, hv_, hcw0B, _⟩ := R_C r2
     subst hv_
     clear r2
     have w0 := Hd.mk (show (tJ (m + 1)).O w11 (rng W10.heap.size w11.heap.size) y [Value.int IntKind.i64 y.kind, .int .i64 y.n, .string y.s, .slice Aw0 y.list.length cw0, .slice Aw0B y.names.length cw0B] from hO); clear hO
     have ew0 := Hd.mk (Nat.le_refl w11.heap.size)
     go_wp2_with fail
     refine ⟨cls_below hS.out, ?_⟩
     iterate 3 (refine mixT_p rfl ?_; go_big_quiet_want; go_big_quiet_op; go_big_quiet_on; refine wpQuiet_nil ?_)
     refine mixT_fin ?_
     clear hS
     clear fb00 fb01 fb02 fb03 fb04 fb10 fb11 fb12 fb13 fb14 fb15 fb16 rfb00 rfb01 rfb02 rfb03 rfb04 rfb10 rfb11 rfb12 rfb13 rfb14 rfb15 rfb16
     obtain ⟨fb00, fb01, fb02, fb03, fb04, -⟩ := blk5 b0.out
     obtain ⟨fb10, fb11, fb12, fb13, fb14, fb15, fb16, -⟩ := blk7 b1.out
     obtain ⟨fBw00, fBw01, fBw02, fBw03, fBw04, -⟩ := blk5 Bw0.out
     have fz_ := Bw0.out.frozen
     refine tail_b rfl ?_ (by rfl)
     go_wp2_with fail
     refine mixQ_n ?_
     refine tail_b rfl ?_ (by rfl)
     go_wp2_with fail
     refine mixQ_n ?_
     refine tail_nil ?_
     refine region_gen ?_; intro W hW
     clear fz_
     clear fb00 fb01 fb02 fb03 fb04 fb10 fb11 fb12 fb13 fb14 fb15 fb16 fBw00 fBw01 fBw02 fBw03 fBw04
     have eF : Fr w11 W (fun k => k = w8.heap.size) := by rw [hW]; (repeat (first | with_reducible refine Fr.setCell (S := fun k => k = w8.heap.size) ?_ _ (fun _ => rfl) _)); exact Fr.refl _ _
     have hsz_ := eF.size
     replace b0 := Hd.mk (b0.out.fr eF (fun h => by have := db0_Bw0.out; (try simp only at h); omega))
     replace eb0 := Hd.mk (Nat.le_trans eb0.out hsz_)
     replace b1 := Hd.mk (b1.out.fr eF (fun h => by have := db1_Bw0.out; (try simp only at h); omega))
     replace eb1 := Hd.mk (Nat.le_trans eb1.out hsz_)
     replace s0 := Hd.mk (Ty.O_fr s0.out eF (fun k hk hl h => by have := ds0_Bw0.out; have h1 := hk.1; have h2 := hk.2; (try simp only at h); omega))
     replace es0 := Hd.mk (Nat.le_trans es0.out hsz_)
     replace s1 := Hd.mk (Ty.O_fr s1.out eF (fun k hk hl h => by have := ds1_Bw0.out; have h1 := hk.1; have h2 := hk.2; (try simp only at h); omega))
     replace es1 := Hd.mk (Nat.le_trans es1.out hsz_)
     replace w0 := Hd.mk (Ty.O_fr w0.out eF (fun k hk hl h => by have := dBw0_w0.out; have h1 := hk.1; have h2 := hk.2; (try simp only at h); omega))
     replace ew0 := Hd.mk (Nat.le_trans ew0.out hsz_)
     replace Bw0 := Hd.mk (show Blk W (w8.heap.size) #[.int .i64 y.kind, .int .i64 y.n, .string y.s, .slice Aw0 y.list.length cw0, .slice Aw0B y.names.length cw0B] 32 by rw [hW]; exact (((((Bw0.out.set 0 (Value.int IntKind.i64 y.kind)).set 1 (Value.int IntKind.i64 y.n)).set 2 (Value.string y.s)).set 3 (Value.slice Aw0 y.list.length cw0)).set 4 (Value.slice Aw0B y.names.length cw0B)))
     replace eBw0 := Hd.mk (Nat.le_trans eBw0.out hsz_)
     replace hB := Hd.mk (((Fr.of_below hB.out (fun k => k = w8.heap.size)).then_ eF (fun k h _ => h)).below (fun k h => by have := aBw0.out; (try simp only at h); omega))
     clear hW eF hsz_
     rw [HRR.out]
     exact ⟨_, _, _, _, _, _, _, _, _, _, _, _, _, _, _, _, _, _, _, _, _, _, _, _, _, _, rfl, Bw0, b0, eb0, b1, eb1, w0, aBw0, eBw0, aw0, ew0, hB⟩
   ·refine stepM_of rfl ?_ (by rfl)
    go_wp2_with fail
    refine ⟨cls_below (below_alloc hS.out _), ?_⟩
    refine genT ?_; intro W7 hW
    have hE : Below w6.heap.size w6 W7 := by rw [hW]; exact below_alloc (Below.refl _ _) _
    have Bw0 := Hd.mk (show Blk W7 w6.heap.size #[.int .i64 0, .int .i64 0, .string ⟨#[]⟩, .slice none 0 0, .slice none 0 0] 32 by rw [hW]; exact Blk.new _ _ _)
    have hz_ : w6.heap.size + 1 ≤ W7.heap.size := by rw [hW]; simp
    clear hW
    have db0_Bw0 := Hd.mk eb0.out
    have db1_Bw0 := Hd.mk eb1.out
    have ds0_Bw0 := Hd.mk es0.out
    have aBw0 := Hd.mk hB.out.size
    replace b0 := b0.dn hE
    replace eb0 := upE eb0 hE
    replace b1 := b1.dn hE
    replace eb1 := upE eb1 hE
    replace s0 := s0.ob hE
    replace es0 := upE es0 hE
    replace hB := hB.th hE
    replace hS := Hd.mk (below_then hS.out hE)
    have eBw0 := Hd.mk hz_; clear hz_ hE
    refine mixT_b rfl ?_ (by rfl)
    go_wp2_with fail
    apply calls_gen; intro W8 hW
    have hE : Below W7.heap.size W7 W8 := by rw [hW]; (repeat (first | with_reducible refine below_alloc ?_ _ | with_reducible refine below_drew ?_)); exact Below.refl _ _
    clear hW
    replace b0 := b0.dn hE
    replace eb0 := upE eb0 hE
    replace b1 := b1.dn hE
    replace eb1 := upE eb1 hE
    replace s0 := s0.ob hE
    replace es0 := upE es0 hE
    replace Bw0 := Bw0.dn hE
    replace eBw0 := upE eBw0 hE
    replace hB := hB.th hE
    replace hS := Hd.mk (below_then hS.out hE)
    clear hE
    refine (laws_toOp o _ _ ((tOp (m + 1)).K_below hB.out hK1.out) HL1.out.1).mono ?_
    rintro e w9 ⟨cs_, rfl, hO, hX⟩
    have db0_s1 := Hd.mk eb0.out
    have db1_s1 := Hd.mk eb1.out
    have ds0_s1 := Hd.mk es0.out
    have dBw0_s1 := Hd.mk eBw0.out
    have as1 := Hd.mk hB.out.size
    replace b0 := b0.dn hX
    replace eb0 := upE eb0 hX
    replace b1 := b1.dn hX
    replace eb1 := upE eb1 hX
    replace s0 := s0.ob hX
    replace es0 := upE es0 hX
    replace Bw0 := Bw0.dn hX
    replace eBw0 := upE eBw0 hX
    replace hB := hB.th hX
    replace hS := Hd.mk (below_then hS.out hX)
    clear hX
    replace hO := Ty.O_bound _ hO
    obtain ⟨v_, c1_, _, _, hcs, r1, rj_, _⟩ := tOp_O.1 hO
    obtain ⟨As1w, cs1w, hv_, hcs1w, _⟩ := R_C r1
    subst hv_
    clear r1
    obtain ⟨v_, u_, _, _, hcs2, _, r1, r2, _⟩ := tJ_O.1 rj_
    clear rj_
    subst hcs2
    subst hcs
    obtain ⟨As1, cs1, hv_, hcs1, _⟩ := R_C r1
    subst hv_
    clear r1
    obtain ⟨As1B, cs1B, hv_, hcs1B, _⟩ := R_C r2
    subst hv_
    clear r2
    have s1 := Hd.mk (show (tOp (m + 1)).O w9 (rng W8.heap.size w9.heap.size) o [Value.int IntKind.i64 o.kind, .slice As1w o.way.length cs1w, .int .i64 o.value.kind, .int .i64 o.value.n, .string o.value.s, .slice As1 o.value.list.length cs1, .slice As1B o.value.names.length cs1B] from hO); clear hO
    have es1 := Hd.mk (Nat.le_refl w9.heap.size)
    go_wp2_with fail
    refine ⟨cls_below hS.out, ?_⟩
    refine mixT_b rfl ?_ (by rfl)
    go_wp2_with fail
    apply calls_gen; intro W10 hW
    have hE : Below w9.heap.size w9 W10 := by rw [hW]; (repeat (first | with_reducible refine below_alloc ?_ _ | with_reducible refine below_drew ?_)); exact Below.refl _ _
    clear hW
    replace b0 := b0.dn hE
    replace eb0 := upE eb0 hE
    replace b1 := b1.dn hE
    replace eb1 := upE eb1 hE
    replace s0 := s0.ob hE
    replace es0 := upE es0 hE
    replace Bw0 := Bw0.dn hE
    replace eBw0 := upE eBw0 hE
    replace s1 := s1.ob hE
    replace es1 := upE es1 hE
    replace hB := hB.th hE
    replace hS := Hd.mk (below_then hS.out hE)
    clear hE
    refine (spec_PatchM (B := m) H6.out j _ o _ _ ((tJ (m + 1)).O_K s0.out) ((tOp (m + 1)).O_K s1.out)).mono ?_
    rintro e w11 ⟨cs_, rfl, hO, hX⟩
    have db0_w0 := Hd.mk eb0.out
    have db1_w0 := Hd.mk eb1.out
    have ds0_w0 := Hd.mk es0.out
    have dBw0_w0 := Hd.mk eBw0.out
    have ds1_w0 := Hd.mk es1.out
    have aw0 := Hd.mk hB.out.size
    replace b0 := b0.dn hX
    replace eb0 := upE eb0 hX
    replace b1 := b1.dn hX
    replace eb1 := upE eb1 hX
    replace s0 := s0.ob hX
    replace es0 := upE es0 hX
    replace Bw0 := Bw0.dn hX
    replace eBw0 := upE eBw0 hX
    replace s1 := s1.ob hX
    replace es1 := upE es1 hX
    replace hB := hB.th hX
    replace hS := Hd.mk (below_then hS.out hX)
    clear hX
    rw [← Hy.out] at hO
    rw [← Hyb.out]
    replace hO := Ty.O_bound _ hO
    obtain ⟨v_, u_, _, _, hcs, _, r1, r2, _⟩ := tJ_O.1 hO
    subst hcs
    obtain ⟨Aw0, cw0, hv_, hcw0, _⟩ := R_C r1
    subst hv_
    clear r1
    obtain ⟨Aw0B, cw0B, hv_, hcw0B, _⟩ := R_C r2
    subst hv_
    clear r2
    have w0 := Hd.mk (show (tJ (m + 1)).O w11 (rng W10.heap.size w11.heap.size) y [Value.int IntKind.i64 y.kind, .int .i64 y.n, .string y.s, .slice Aw0 y.list.length cw0, .slice Aw0B y.names.length cw0B] from hO); clear hO
    have ew0 := Hd.mk (Nat.le_refl w11.heap.size)
    go_wp2_with fail
    refine ⟨cls_below hS.out, ?_⟩
    iterate 3 (refine mixT_p rfl ?_; go_big_quiet_want; go_big_quiet_op; go_big_quiet_on; refine wpQuiet_nil ?_)
    refine mixT_fin ?_
    clear hS
    clear fb00 fb01 fb02 fb03 fb04 fb10 fb11 fb12 fb13 fb14 fb15 fb16 rfb00 rfb01 rfb02 rfb03 rfb04 rfb10 rfb11 rfb12 rfb13 rfb14 rfb15 rfb16
    obtain ⟨fb00, fb01, fb02, fb03, fb04, -⟩ := blk5 b0.out
    obtain ⟨fb10, fb11, fb12, fb13, fb14, fb15, fb16, -⟩ := blk7 b1.out
    obtain ⟨fBw00, fBw01, fBw02, fBw03, fBw04, -⟩ := blk5 Bw0.out
    have fz_ := Bw0.out.frozen
    refine tail_b rfl ?_ (by rfl)
    go_wp2_with fail
    refine mixQ_n ?_
    refine tail_b rfl ?_ (by rfl)
    go_wp2_with fail
    refine mixQ_n ?_
    refine tail_nil ?_
    refine region_gen ?_; intro W hW
    clear fz_
    clear fb00 fb01 fb02 fb03 fb04 fb10 fb11 fb12 fb13 fb14 fb15 fb16 fBw00 fBw01 fBw02 fBw03 fBw04
    have eF : Fr w11 W (fun k => k = w6.heap.size) := by rw [hW]; (repeat (first | with_reducible refine Fr.setCell (S := fun k => k = w6.heap.size) ?_ _ (fun _ => rfl) _)); exact Fr.refl _ _
    have hsz_ := eF.size
    replace b0 := Hd.mk (b0.out.fr eF (fun h => by have := db0_Bw0.out; (try simp only at h); omega))
    replace eb0 := Hd.mk (Nat.le_trans eb0.out hsz_)
    replace b1 := Hd.mk (b1.out.fr eF (fun h => by have := db1_Bw0.out; (try simp only at h); omega))
    replace eb1 := Hd.mk (Nat.le_trans eb1.out hsz_)
    replace s0 := Hd.mk (Ty.O_fr s0.out eF (fun k hk hl h => by have := ds0_Bw0.out; have h1 := hk.1; have h2 := hk.2; (try simp only at h); omega))
    replace es0 := Hd.mk (Nat.le_trans es0.out hsz_)
    replace s1 := Hd.mk (Ty.O_fr s1.out eF (fun k hk hl h => by have := dBw0_s1.out; have h1 := hk.1; have h2 := hk.2; (try simp only at h); omega))
    replace es1 := Hd.mk (Nat.le_trans es1.out hsz_)
    replace w0 := Hd.mk (Ty.O_fr w0.out eF (fun k hk hl h => by have := dBw0_w0.out; have h1 := hk.1; have h2 := hk.2; (try simp only at h); omega))
    replace ew0 := Hd.mk (Nat.le_trans ew0.out hsz_)
    replace Bw0 := Hd.mk (show Blk W (w6.heap.size) #[.int .i64 y.kind, .int .i64 y.n, .string y.s, .slice Aw0 y.list.length cw0, .slice Aw0B y.names.length cw0B] 32 by rw [hW]; exact (((((Bw0.out.set 0 (Value.int IntKind.i64 y.kind)).set 1 (Value.int IntKind.i64 y.n)).set 2 (Value.string y.s)).set 3 (Value.slice Aw0 y.list.length cw0)).set 4 (Value.slice Aw0B y.names.length cw0B)))
    replace eBw0 := Hd.mk (Nat.le_trans eBw0.out hsz_)
    replace hB := Hd.mk (((Fr.of_below hB.out (fun k => k = w6.heap.size)).then_ eF (fun k h _ => h)).below (fun k h => by have := aBw0.out; (try simp only at h); omega))
    clear hW eF hsz_
    rw [HRR.out]
    exact ⟨_, _, _, _, _, _, _, _, _, _, _, _, _, _, _, _, _, _, _, _, _, _, _, _, _, _, rfl, Bw0, b0, eb0, b1, eb1, w0, aBw0, eBw0, aw0, ew0, hB⟩
  ·refine stepM_of rfl ?_ (by rfl)
   go_wp2_with fail
   refine ⟨cls_below (below_alloc hS.out _), ?_⟩
   refine genT ?_; intro W5 hW
   have hE : Below W4.heap.size W4 W5 := by rw [hW]; exact below_alloc (Below.refl _ _) _
   have Bw0 := Hd.mk (show Blk W5 W4.heap.size #[.int .i64 0, .int .i64 0, .string ⟨#[]⟩, .slice none 0 0, .slice none 0 0] 32 by rw [hW]; exact Blk.new _ _ _)
   have hz_ : W4.heap.size + 1 ≤ W5.heap.size := by rw [hW]; simp
   clear hW
   have db0_Bw0 := Hd.mk eb0.out
   have db1_Bw0 := Hd.mk eb1.out
   have aBw0 := Hd.mk hB.out.size
   replace b0 := b0.dn hE
   replace eb0 := upE eb0 hE
   replace b1 := b1.dn hE
   replace eb1 := upE eb1 hE
   replace hB := hB.th hE
   replace hS := Hd.mk (below_then hS.out hE)
   have eBw0 := Hd.mk hz_; clear hz_ hE
   refine mixT_b rfl ?_ (by rfl)
   go_wp2_with fail
   apply calls_gen; intro W6 hW
   have hE : Below W5.heap.size W5 W6 := by rw [hW]; (repeat (first | with_reducible refine below_alloc ?_ _ | with_reducible refine below_drew ?_)); exact Below.refl _ _
   clear hW
   replace b0 := b0.dn hE
   replace eb0 := upE eb0 hE
   replace b1 := b1.dn hE
   replace eb1 := upE eb1 hE
   replace Bw0 := Bw0.dn hE
   replace eBw0 := upE eBw0 hE
   replace hB := hB.th hE
   replace hS := Hd.mk (below_then hS.out hE)
   clear hE
   refine (laws_toJson j _ _ ((tJ (m + 1)).K_below hB.out hK0.out) HL0.out.1).mono ?_
   rintro e w7 ⟨cs_, rfl, hO, hX⟩
   have db0_s0 := Hd.mk eb0.out
   have db1_s0 := Hd.mk eb1.out
   have dBw0_s0 := Hd.mk eBw0.out
   have as0 := Hd.mk hB.out.size
   replace b0 := b0.dn hX
   replace eb0 := upE eb0 hX
   replace b1 := b1.dn hX
   replace eb1 := upE eb1 hX
   replace Bw0 := Bw0.dn hX
   replace eBw0 := upE eBw0 hX
   replace hB := hB.th hX
   replace hS := Hd.mk (below_then hS.out hX)
   clear hX
   replace hO := Ty.O_bound _ hO
   obtain ⟨v_, u_, _, _, hcs, _, r1, r2, _⟩ := tJ_O.1 hO
   subst hcs
   obtain ⟨As0, cs0, hv_, hcs0, _⟩ := R_C r1
   subst hv_
   clear r1
   obtain ⟨As0B, cs0B, hv_, hcs0B, _⟩ := R_C r2
   subst hv_
   clear r2
   have s0 := Hd.mk (show (tJ (m + 1)).O w7 (rng W6.heap.size w7.heap.size) j [Value.int IntKind.i64 j.kind, .int .i64 j.n, .string j.s, .slice As0 j.list.length cs0, .slice As0B j.names.length cs0B] from hO); clear hO
   have es0 := Hd.mk (Nat.le_refl w7.heap.size)
   go_wp2_with fail
   refine ⟨cls_below hS.out, ?_⟩
   refine mixT_b rfl ?_ (by rfl)
   go_wp2_with fail
   apply calls_gen; intro W8 hW
   have hE : Below w7.heap.size w7 W8 := by rw [hW]; (repeat (first | with_reducible refine below_alloc ?_ _ | with_reducible refine below_drew ?_)); exact Below.refl _ _
   clear hW
   replace b0 := b0.dn hE
   replace eb0 := upE eb0 hE
   replace b1 := b1.dn hE
   replace eb1 := upE eb1 hE
   replace Bw0 := Bw0.dn hE
   replace eBw0 := upE eBw0 hE
   replace s0 := s0.ob hE
   replace es0 := upE es0 hE
   replace hB := hB.th hE
   replace hS := Hd.mk (below_then hS.out hE)
   clear hE
   refine (laws_toOp o _ _ ((tOp (m + 1)).K_below hB.out hK1.out) HL1.out.1).mono ?_
   rintro e w9 ⟨cs_, rfl, hO, hX⟩
   have db0_s1 := Hd.mk eb0.out
   have db1_s1 := Hd.mk eb1.out
   have dBw0_s1 := Hd.mk eBw0.out
   have ds0_s1 := Hd.mk es0.out
   have as1 := Hd.mk hB.out.size
   replace b0 := b0.dn hX
   replace eb0 := upE eb0 hX
   replace b1 := b1.dn hX
   replace eb1 := upE eb1 hX
   replace Bw0 := Bw0.dn hX
   replace eBw0 := upE eBw0 hX
   replace s0 := s0.ob hX
   replace es0 := upE es0 hX
   replace hB := hB.th hX
   replace hS := Hd.mk (below_then hS.out hX)
   clear hX
   replace hO := Ty.O_bound _ hO
   obtain ⟨v_, c1_, _, _, hcs, r1, rj_, _⟩ := tOp_O.1 hO
   obtain ⟨As1w, cs1w, hv_, hcs1w, _⟩ := R_C r1
   subst hv_
   clear r1
   obtain ⟨v_, u_, _, _, hcs2, _, r1, r2, _⟩ := tJ_O.1 rj_
   clear rj_
   subst hcs2
   subst hcs
   obtain ⟨As1, cs1, hv_, hcs1, _⟩ := R_C r1
   subst hv_
   clear r1
   obtain ⟨As1B, cs1B, hv_, hcs1B, _⟩ := R_C r2
   subst hv_
   clear r2
   have s1 := Hd.mk (show (tOp (m + 1)).O w9 (rng W8.heap.size w9.heap.size) o [Value.int IntKind.i64 o.kind, .slice As1w o.way.length cs1w, .int .i64 o.value.kind, .int .i64 o.value.n, .string o.value.s, .slice As1 o.value.list.length cs1, .slice As1B o.value.names.length cs1B] from hO); clear hO
   have es1 := Hd.mk (Nat.le_refl w9.heap.size)
   go_wp2_with fail
   refine ⟨cls_below hS.out, ?_⟩
   refine mixT_b rfl ?_ (by rfl)
   go_wp2_with fail
   apply calls_gen; intro W10 hW
   have hE : Below w9.heap.size w9 W10 := by rw [hW]; (repeat (first | with_reducible refine below_alloc ?_ _ | with_reducible refine below_drew ?_)); exact Below.refl _ _
   clear hW
   replace b0 := b0.dn hE
   replace eb0 := upE eb0 hE
   replace b1 := b1.dn hE
   replace eb1 := upE eb1 hE
   replace Bw0 := Bw0.dn hE
   replace eBw0 := upE eBw0 hE
   replace s0 := s0.ob hE
   replace es0 := upE es0 hE
   replace s1 := s1.ob hE
   replace es1 := upE es1 hE
   replace hB := hB.th hE
   replace hS := Hd.mk (below_then hS.out hE)
   clear hE
   refine (spec_PatchM (B := m) H6.out j _ o _ _ ((tJ (m + 1)).O_K s0.out) ((tOp (m + 1)).O_K s1.out)).mono ?_
   rintro e w11 ⟨cs_, rfl, hO, hX⟩
   have db0_w0 := Hd.mk eb0.out
   have db1_w0 := Hd.mk eb1.out
   have dBw0_w0 := Hd.mk eBw0.out
   have ds0_w0 := Hd.mk es0.out
   have ds1_w0 := Hd.mk es1.out
   have aw0 := Hd.mk hB.out.size
   replace b0 := b0.dn hX
   replace eb0 := upE eb0 hX
   replace b1 := b1.dn hX
   replace eb1 := upE eb1 hX
   replace Bw0 := Bw0.dn hX
   replace eBw0 := upE eBw0 hX
   replace s0 := s0.ob hX
   replace es0 := upE es0 hX
   replace s1 := s1.ob hX
   replace es1 := upE es1 hX
   replace hB := hB.th hX
   replace hS := Hd.mk (below_then hS.out hX)
   clear hX
   rw [← Hy.out] at hO
   rw [← Hyb.out]
   replace hO := Ty.O_bound _ hO
   obtain ⟨v_, u_, _, _, hcs, _, r1, r2, _⟩ := tJ_O.1 hO
   subst hcs
   obtain ⟨Aw0, cw0, hv_, hcw0, _⟩ := R_C r1
   subst hv_
   clear r1
   obtain ⟨Aw0B, cw0B, hv_, hcw0B, _⟩ := R_C r2
   subst hv_
   clear r2
   have w0 := Hd.mk (show (tJ (m + 1)).O w11 (rng W10.heap.size w11.heap.size) y [Value.int IntKind.i64 y.kind, .int .i64 y.n, .string y.s, .slice Aw0 y.list.length cw0, .slice Aw0B y.names.length cw0B] from hO); clear hO
   have ew0 := Hd.mk (Nat.le_refl w11.heap.size)
   go_wp2_with fail
   refine ⟨cls_below hS.out, ?_⟩
   iterate 3 (refine mixT_p rfl ?_; go_big_quiet_want; go_big_quiet_op; go_big_quiet_on; refine wpQuiet_nil ?_)
   refine mixT_fin ?_
   clear hS
   clear fb00 fb01 fb02 fb03 fb04 fb10 fb11 fb12 fb13 fb14 fb15 fb16 rfb00 rfb01 rfb02 rfb03 rfb04 rfb10 rfb11 rfb12 rfb13 rfb14 rfb15 rfb16
   obtain ⟨fb00, fb01, fb02, fb03, fb04, -⟩ := blk5 b0.out
   obtain ⟨fb10, fb11, fb12, fb13, fb14, fb15, fb16, -⟩ := blk7 b1.out
   obtain ⟨fBw00, fBw01, fBw02, fBw03, fBw04, -⟩ := blk5 Bw0.out
   have fz_ := Bw0.out.frozen
   refine tail_b rfl ?_ (by rfl)
   go_wp2_with fail
   refine mixQ_n ?_
   refine tail_b rfl ?_ (by rfl)
   go_wp2_with fail
   refine mixQ_n ?_
   refine tail_nil ?_
   refine region_gen ?_; intro W hW
   clear fz_
   clear fb00 fb01 fb02 fb03 fb04 fb10 fb11 fb12 fb13 fb14 fb15 fb16 fBw00 fBw01 fBw02 fBw03 fBw04
   have eF : Fr w11 W (fun k => k = W4.heap.size) := by rw [hW]; (repeat (first | with_reducible refine Fr.setCell (S := fun k => k = W4.heap.size) ?_ _ (fun _ => rfl) _)); exact Fr.refl _ _
   have hsz_ := eF.size
   replace b0 := Hd.mk (b0.out.fr eF (fun h => by have := db0_Bw0.out; (try simp only at h); omega))
   replace eb0 := Hd.mk (Nat.le_trans eb0.out hsz_)
   replace b1 := Hd.mk (b1.out.fr eF (fun h => by have := db1_Bw0.out; (try simp only at h); omega))
   replace eb1 := Hd.mk (Nat.le_trans eb1.out hsz_)
   replace s0 := Hd.mk (Ty.O_fr s0.out eF (fun k hk hl h => by have := dBw0_s0.out; have h1 := hk.1; have h2 := hk.2; (try simp only at h); omega))
   replace es0 := Hd.mk (Nat.le_trans es0.out hsz_)
   replace s1 := Hd.mk (Ty.O_fr s1.out eF (fun k hk hl h => by have := dBw0_s1.out; have h1 := hk.1; have h2 := hk.2; (try simp only at h); omega))
   replace es1 := Hd.mk (Nat.le_trans es1.out hsz_)
   replace w0 := Hd.mk (Ty.O_fr w0.out eF (fun k hk hl h => by have := dBw0_w0.out; have h1 := hk.1; have h2 := hk.2; (try simp only at h); omega))
   replace ew0 := Hd.mk (Nat.le_trans ew0.out hsz_)
   replace Bw0 := Hd.mk (show Blk W (W4.heap.size) #[.int .i64 y.kind, .int .i64 y.n, .string y.s, .slice Aw0 y.list.length cw0, .slice Aw0B y.names.length cw0B] 32 by rw [hW]; exact (((((Bw0.out.set 0 (Value.int IntKind.i64 y.kind)).set 1 (Value.int IntKind.i64 y.n)).set 2 (Value.string y.s)).set 3 (Value.slice Aw0 y.list.length cw0)).set 4 (Value.slice Aw0B y.names.length cw0B)))
   replace eBw0 := Hd.mk (Nat.le_trans eBw0.out hsz_)
   replace hB := Hd.mk (((Fr.of_below hB.out (fun k => k = W4.heap.size)).then_ eF (fun k h _ => h)).below (fun k h => by have := aBw0.out; (try simp only at h); omega))
   clear hW eF hsz_
   rw [HRR.out]
   exact ⟨_, _, _, _, _, _, _, _, _, _, _, _, _, _, _, _, _, _, _, _, _, _, _, _, _, _, rfl, Bw0, b0, eb0, b1, eb1, w0, aBw0, eBw0, aw0, ew0, hB⟩
 rw [HRR.out]
 clear HRR
 rintro a w1 ⟨p, a0, b0, Aw0, cw0, Aw0B, cw0B, u5, u17, u18, u19, u20, u21, u22, u23, u24, u25, u26, u28, u29, u30, u31, u32, u27, u33, u34, rfl, Bw0, b0, eb0, b1, eb1, w0, aBw0, eBw0, aw0, ew0, hB1⟩
 replace hB := hB1; clear hB1
 obtain ⟨fb00, fb01, fb02, fb03, fb04, -⟩ := blk5 b0.out
 obtain ⟨fb10, fb11, fb12, fb13, fb14, fb15, fb16, -⟩ := blk7 b1.out
 obtain ⟨fBw00, fBw01, fBw02, fBw03, fBw04, -⟩ := blk5 Bw0.out
 go_wp2_with fail
 clear fb00 fb01 fb02 fb03 fb04 fb10 fb11 fb12 fb13 fb14 fb15 fb16 fBw00 fBw01 fBw02 fBw03 fBw04
 apply calls_gen; intro W51 hW
 have hE : Below w1.heap.size w1 W51 := by rw [hW]; (repeat (first | with_reducible refine below_alloc ?_ _ | with_reducible refine below_drew ?_)); exact Below.refl _ _
 clear hW
 replace b0 := b0.dn hE
 replace eb0 := upE eb0 hE
 replace b1 := b1.dn hE
 replace eb1 := upE eb1 hE
 replace w0 := w0.ob hE
 replace ew0 := upE ew0 hE
 replace Bw0 := Bw0.dn hE
 replace eBw0 := upE eBw0 hE
 replace hB := hB.th hE
 clear hE
 refine (laws_toJson j _ _ ((tJ (m + 1)).K_below hB.out hK0.out) HL0.out.1).mono ?_
 rintro e w52 ⟨cs_, rfl, hO, hX⟩
 have db0_x0 := Hd.mk eb0.out
 have db1_x0 := Hd.mk eb1.out
 have dw0_x0 := Hd.mk ew0.out
 have dBw0_x0 := Hd.mk eBw0.out
 have ax0 := Hd.mk hB.out.size
 replace b0 := b0.dn hX
 replace eb0 := upE eb0 hX
 replace b1 := b1.dn hX
 replace eb1 := upE eb1 hX
 replace w0 := w0.ob hX
 replace ew0 := upE ew0 hX
 replace Bw0 := Bw0.dn hX
 replace eBw0 := upE eBw0 hX
 replace hB := hB.th hX
 clear hX
 replace hO := Ty.O_bound _ hO
 obtain ⟨v_, u_, _, _, hcs, _, r1, r2, _⟩ := tJ_O.1 hO
 subst hcs
 obtain ⟨Ax0, cx0, hv_, hcx0, _⟩ := R_C r1
 subst hv_
 clear r1
 obtain ⟨Ax0B, cx0B, hv_, hcx0B, _⟩ := R_C r2
 subst hv_
 clear r2
 have x0 := Hd.mk (show (tJ (m + 1)).O w52 (rng W51.heap.size w52.heap.size) j [Value.int IntKind.i64 j.kind, .int .i64 j.n, .string j.s, .slice Ax0 j.list.length cx0, .slice Ax0B j.names.length cx0B] from hO); clear hO
 have ex0 := Hd.mk (Nat.le_refl w52.heap.size)
 obtain ⟨fb00, fb01, fb02, fb03, fb04, -⟩ := blk5 b0.out
 obtain ⟨fb10, fb11, fb12, fb13, fb14, fb15, fb16, -⟩ := blk7 b1.out
 obtain ⟨fBw00, fBw01, fBw02, fBw03, fBw04, -⟩ := blk5 Bw0.out
 have lfb00 := fun o => cell_below (below_alloc (Below.refl _ _) o) fb00
 have lfb01 := fun o => cell_below (below_alloc (Below.refl _ _) o) fb01
 have lfb02 := fun o => cell_below (below_alloc (Below.refl _ _) o) fb02
 have lfb03 := fun o => cell_below (below_alloc (Below.refl _ _) o) fb03
 have lfb04 := fun o => cell_below (below_alloc (Below.refl _ _) o) fb04
 have lfb10 := fun o => cell_below (below_alloc (Below.refl _ _) o) fb10
 have lfb11 := fun o => cell_below (below_alloc (Below.refl _ _) o) fb11
 have lfb12 := fun o => cell_below (below_alloc (Below.refl _ _) o) fb12
 have lfb13 := fun o => cell_below (below_alloc (Below.refl _ _) o) fb13
 have lfb14 := fun o => cell_below (below_alloc (Below.refl _ _) o) fb14
 have lfb15 := fun o => cell_below (below_alloc (Below.refl _ _) o) fb15
 have lfb16 := fun o => cell_below (below_alloc (Below.refl _ _) o) fb16
 have lfBw00 := fun o => cell_below (below_alloc (Below.refl _ _) o) fBw00
 have lfBw01 := fun o => cell_below (below_alloc (Below.refl _ _) o) fBw01
 have lfBw02 := fun o => cell_below (below_alloc (Below.refl _ _) o) fBw02
 have lfBw03 := fun o => cell_below (below_alloc (Below.refl _ _) o) fBw03
 have lfBw04 := fun o => cell_below (below_alloc (Below.refl _ _) o) fBw04
 go_wp2_with fail
 clear lfb00 lfb01 lfb02 lfb03 lfb04 lfb10 lfb11 lfb12 lfb13 lfb14 lfb15 lfb16 lfBw00 lfBw01 lfBw02 lfBw03 lfBw04
 clear fb00 fb01 fb02 fb03 fb04 fb10 fb11 fb12 fb13 fb14 fb15 fb16 fBw00 fBw01 fBw02 fBw03 fBw04
 apply calls_gen; intro W53 hW
 have hE : Below w52.heap.size w52 W53 := by rw [hW]; (repeat (first | with_reducible refine below_alloc ?_ _ | with_reducible refine below_drew ?_)); exact Below.refl _ _
 have Bx0 := Hd.mk (show Blk W53 w52.heap.size #[.int .i64 j.kind, .int .i64 j.n, .string j.s, .slice Ax0 j.list.length cx0, .slice Ax0B j.names.length cx0B] 32 by rw [hW]; first | exact Blk.new _ _ _ | exact (Blk.new _ _ _).drew)
 have hz_ : w52.heap.size + 1 ≤ W53.heap.size := by rw [hW]; simp
 clear hW
 have db0_Bx0 := Hd.mk eb0.out
 have db1_Bx0 := Hd.mk eb1.out
 have dw0_Bx0 := Hd.mk ew0.out
 have dBw0_Bx0 := Hd.mk eBw0.out
 have dx0_Bx0 := Hd.mk ex0.out
 have aBx0 := Hd.mk hB.out.size
 replace b0 := b0.dn hE
 replace eb0 := upE eb0 hE
 replace b1 := b1.dn hE
 replace eb1 := upE eb1 hE
 replace w0 := w0.ob hE
 replace ew0 := upE ew0 hE
 replace Bw0 := Bw0.dn hE
 replace eBw0 := upE eBw0 hE
 replace x0 := x0.ob hE
 replace ex0 := upE ex0 hE
 replace hB := hB.th hE
 have eBx0 := Hd.mk hz_; clear hz_
 clear hE
 refine (laws_toOp o _ _ ((tOp (m + 1)).K_below hB.out hK1.out) HL1.out.1).mono ?_
 rintro e w54 ⟨cs_, rfl, hO, hX⟩
 have db0_x1 := Hd.mk eb0.out
 have db1_x1 := Hd.mk eb1.out
 have dw0_x1 := Hd.mk ew0.out
 have dBw0_x1 := Hd.mk eBw0.out
 have dx0_x1 := Hd.mk ex0.out
 have dBx0_x1 := Hd.mk eBx0.out
 have ax1 := Hd.mk hB.out.size
 replace b0 := b0.dn hX
 replace eb0 := upE eb0 hX
 replace b1 := b1.dn hX
 replace eb1 := upE eb1 hX
 replace w0 := w0.ob hX
 replace ew0 := upE ew0 hX
 replace Bw0 := Bw0.dn hX
 replace eBw0 := upE eBw0 hX
 replace x0 := x0.ob hX
 replace ex0 := upE ex0 hX
 replace Bx0 := Bx0.dn hX
 replace eBx0 := upE eBx0 hX
 replace hB := hB.th hX
 clear hX
 replace hO := Ty.O_bound _ hO
 obtain ⟨v_, c1_, _, _, hcs, r1, rj_, _⟩ := tOp_O.1 hO
 obtain ⟨Ax1w, cx1w, hv_, hcx1w, _⟩ := R_C r1
 subst hv_
 clear r1
 obtain ⟨v_, u_, _, _, hcs2, _, r1, r2, _⟩ := tJ_O.1 rj_
 clear rj_
 subst hcs2
 subst hcs
 obtain ⟨Ax1, cx1, hv_, hcx1, _⟩ := R_C r1
 subst hv_
 clear r1
 obtain ⟨Ax1B, cx1B, hv_, hcx1B, _⟩ := R_C r2
 subst hv_
 clear r2
 have x1 := Hd.mk (show (tOp (m + 1)).O w54 (rng W53.heap.size w54.heap.size) o [Value.int IntKind.i64 o.kind, .slice Ax1w o.way.length cx1w, .int .i64 o.value.kind, .int .i64 o.value.n, .string o.value.s, .slice Ax1 o.value.list.length cx1, .slice Ax1B o.value.names.length cx1B] from hO); clear hO
 have ex1 := Hd.mk (Nat.le_refl w54.heap.size)
 obtain ⟨fb00, fb01, fb02, fb03, fb04, -⟩ := blk5 b0.out
 obtain ⟨fb10, fb11, fb12, fb13, fb14, fb15, fb16, -⟩ := blk7 b1.out
 obtain ⟨fBw00, fBw01, fBw02, fBw03, fBw04, -⟩ := blk5 Bw0.out
 obtain ⟨fBx00, fBx01, fBx02, fBx03, fBx04, -⟩ := blk5 Bx0.out
 have lfb00 := fun o => cell_below (below_alloc (Below.refl _ _) o) fb00
 have lfb01 := fun o => cell_below (below_alloc (Below.refl _ _) o) fb01
 have lfb02 := fun o => cell_below (below_alloc (Below.refl _ _) o) fb02
 have lfb03 := fun o => cell_below (below_alloc (Below.refl _ _) o) fb03
 have lfb04 := fun o => cell_below (below_alloc (Below.refl _ _) o) fb04
 have lfb10 := fun o => cell_below (below_alloc (Below.refl _ _) o) fb10
 have lfb11 := fun o => cell_below (below_alloc (Below.refl _ _) o) fb11
 have lfb12 := fun o => cell_below (below_alloc (Below.refl _ _) o) fb12
 have lfb13 := fun o => cell_below (below_alloc (Below.refl _ _) o) fb13
 have lfb14 := fun o => cell_below (below_alloc (Below.refl _ _) o) fb14
 have lfb15 := fun o => cell_below (below_alloc (Below.refl _ _) o) fb15
 have lfb16 := fun o => cell_below (below_alloc (Below.refl _ _) o) fb16
 have lfBw00 := fun o => cell_below (below_alloc (Below.refl _ _) o) fBw00
 have lfBw01 := fun o => cell_below (below_alloc (Below.refl _ _) o) fBw01
 have lfBw02 := fun o => cell_below (below_alloc (Below.refl _ _) o) fBw02
 have lfBw03 := fun o => cell_below (below_alloc (Below.refl _ _) o) fBw03
 have lfBw04 := fun o => cell_below (below_alloc (Below.refl _ _) o) fBw04
 have lfBx00 := fun o => cell_below (below_alloc (Below.refl _ _) o) fBx00
 have lfBx01 := fun o => cell_below (below_alloc (Below.refl _ _) o) fBx01
 have lfBx02 := fun o => cell_below (below_alloc (Below.refl _ _) o) fBx02
 have lfBx03 := fun o => cell_below (below_alloc (Below.refl _ _) o) fBx03
 have lfBx04 := fun o => cell_below (below_alloc (Below.refl _ _) o) fBx04
 go_wp2_with fail
 clear lfb00 lfb01 lfb02 lfb03 lfb04 lfb10 lfb11 lfb12 lfb13 lfb14 lfb15 lfb16 lfBw00 lfBw01 lfBw02 lfBw03 lfBw04 lfBx00 lfBx01 lfBx02 lfBx03 lfBx04
 clear fb00 fb01 fb02 fb03 fb04 fb10 fb11 fb12 fb13 fb14 fb15 fb16 fBw00 fBw01 fBw02 fBw03 fBw04 fBx00 fBx01 fBx02 fBx03 fBx04
 apply calls_gen; intro W55 hW
 have hE : Below w54.heap.size w54 W55 := by rw [hW]; (repeat (first | with_reducible refine below_alloc ?_ _ | with_reducible refine below_drew ?_)); exact Below.refl _ _
 have Bx1 := Hd.mk (show Blk W55 w54.heap.size #[.int .i64 o.kind, .slice Ax1w o.way.length cx1w, .int .i64 o.value.kind, .int .i64 o.value.n, .string o.value.s, .slice Ax1 o.value.list.length cx1, .slice Ax1B o.value.names.length cx1B] 37 by rw [hW]; first | exact Blk.new _ _ _ | exact (Blk.new _ _ _).drew)
 have hz_ : w54.heap.size + 1 ≤ W55.heap.size := by rw [hW]; simp
 clear hW
 have db0_Bx1 := Hd.mk eb0.out
 have db1_Bx1 := Hd.mk eb1.out
 have dw0_Bx1 := Hd.mk ew0.out
 have dBw0_Bx1 := Hd.mk eBw0.out
 have dx0_Bx1 := Hd.mk ex0.out
 have dBx0_Bx1 := Hd.mk eBx0.out
 have dx1_Bx1 := Hd.mk ex1.out
 have aBx1 := Hd.mk hB.out.size
 replace b0 := b0.dn hE
 replace eb0 := upE eb0 hE
 replace b1 := b1.dn hE
 replace eb1 := upE eb1 hE
 replace w0 := w0.ob hE
 replace ew0 := upE ew0 hE
 replace Bw0 := Bw0.dn hE
 replace eBw0 := upE eBw0 hE
 replace x0 := x0.ob hE
 replace ex0 := upE ex0 hE
 replace Bx0 := Bx0.dn hE
 replace eBx0 := upE eBx0 hE
 replace x1 := x1.ob hE
 replace ex1 := upE ex1 hE
 replace hB := hB.th hE
 have eBx1 := Hd.mk hz_; clear hz_
 clear hE
 refine (impl_PatchM (B := m) H6.out j _ o _ _ ((tJ (m + 1)).O_K x0.out) ((tOp (m + 1)).O_K x1.out) (hT.out.below hB.out) (hE.out.below hB.out)).mono ?_
 rintro e w56 ⟨cs_, rfl, hO, hX⟩
 have db0_g0 := Hd.mk eb0.out
 have db1_g0 := Hd.mk eb1.out
 have dw0_g0 := Hd.mk ew0.out
 have dBw0_g0 := Hd.mk eBw0.out
 have dx0_g0 := Hd.mk ex0.out
 have dBx0_g0 := Hd.mk eBx0.out
 have dx1_g0 := Hd.mk ex1.out
 have dBx1_g0 := Hd.mk eBx1.out
 have ag0 := Hd.mk hB.out.size
 replace b0 := b0.dn hX
 replace eb0 := upE eb0 hX
 replace b1 := b1.dn hX
 replace eb1 := upE eb1 hX
 replace w0 := w0.ob hX
 replace ew0 := upE ew0 hX
 replace Bw0 := Bw0.dn hX
 replace eBw0 := upE eBw0 hX
 replace x0 := x0.ob hX
 replace ex0 := upE ex0 hX
 replace Bx0 := Bx0.dn hX
 replace eBx0 := upE eBx0 hX
 replace x1 := x1.ob hX
 replace ex1 := upE ex1 hX
 replace Bx1 := Bx1.dn hX
 replace eBx1 := upE eBx1 hX
 replace hB := hB.th hX
 clear hX
 rw [← Hy.out] at hO
 rw [← Hyb.out]
 replace hO := Ty.O_bound _ hO
 obtain ⟨v_, u_, _, _, hcs, _, r1, r2, _⟩ := tJ_O.1 hO
 subst hcs
 obtain ⟨Ag0, cg0, hv_, hcg0, _⟩ := R_C r1
 subst hv_
 clear r1
 obtain ⟨Ag0B, cg0B, hv_, hcg0B, _⟩ := R_C r2
 subst hv_
 clear r2
 have g0 := Hd.mk (show (tJ (m + 1)).O w56 (rng W55.heap.size w56.heap.size) y [Value.int IntKind.i64 y.kind, .int .i64 y.n, .string y.s, .slice Ag0 y.list.length cg0, .slice Ag0B y.names.length cg0B] from hO); clear hO
 have eg0 := Hd.mk (Nat.le_refl w56.heap.size)
 obtain ⟨fb00, fb01, fb02, fb03, fb04, -⟩ := blk5 b0.out
 obtain ⟨fb10, fb11, fb12, fb13, fb14, fb15, fb16, -⟩ := blk7 b1.out
 obtain ⟨fBw00, fBw01, fBw02, fBw03, fBw04, -⟩ := blk5 Bw0.out
 obtain ⟨fBx00, fBx01, fBx02, fBx03, fBx04, -⟩ := blk5 Bx0.out
 obtain ⟨fBx10, fBx11, fBx12, fBx13, fBx14, fBx15, fBx16, -⟩ := blk7 Bx1.out
 have lfb00 := fun o => cell_below (below_alloc (Below.refl _ _) o) fb00
 have lfb01 := fun o => cell_below (below_alloc (Below.refl _ _) o) fb01
 have lfb02 := fun o => cell_below (below_alloc (Below.refl _ _) o) fb02
 have lfb03 := fun o => cell_below (below_alloc (Below.refl _ _) o) fb03
 have lfb04 := fun o => cell_below (below_alloc (Below.refl _ _) o) fb04
 have lfb10 := fun o => cell_below (below_alloc (Below.refl _ _) o) fb10
 have lfb11 := fun o => cell_below (below_alloc (Below.refl _ _) o) fb11
 have lfb12 := fun o => cell_below (below_alloc (Below.refl _ _) o) fb12
 have lfb13 := fun o => cell_below (below_alloc (Below.refl _ _) o) fb13
 have lfb14 := fun o => cell_below (below_alloc (Below.refl _ _) o) fb14
 have lfb15 := fun o => cell_below (below_alloc (Below.refl _ _) o) fb15
 have lfb16 := fun o => cell_below (below_alloc (Below.refl _ _) o) fb16
 have lfBw00 := fun o => cell_below (below_alloc (Below.refl _ _) o) fBw00
 have lfBw01 := fun o => cell_below (below_alloc (Below.refl _ _) o) fBw01
 have lfBw02 := fun o => cell_below (below_alloc (Below.refl _ _) o) fBw02
 have lfBw03 := fun o => cell_below (below_alloc (Below.refl _ _) o) fBw03
 have lfBw04 := fun o => cell_below (below_alloc (Below.refl _ _) o) fBw04
 have lfBx00 := fun o => cell_below (below_alloc (Below.refl _ _) o) fBx00
 have lfBx01 := fun o => cell_below (below_alloc (Below.refl _ _) o) fBx01
 have lfBx02 := fun o => cell_below (below_alloc (Below.refl _ _) o) fBx02
 have lfBx03 := fun o => cell_below (below_alloc (Below.refl _ _) o) fBx03
 have lfBx04 := fun o => cell_below (below_alloc (Below.refl _ _) o) fBx04
 have lfBx10 := fun o => cell_below (below_alloc (Below.refl _ _) o) fBx10
 have lfBx11 := fun o => cell_below (below_alloc (Below.refl _ _) o) fBx11
 have lfBx12 := fun o => cell_below (below_alloc (Below.refl _ _) o) fBx12
 have lfBx13 := fun o => cell_below (below_alloc (Below.refl _ _) o) fBx13
 have lfBx14 := fun o => cell_below (below_alloc (Below.refl _ _) o) fBx14
 have lfBx15 := fun o => cell_below (below_alloc (Below.refl _ _) o) fBx15
 have lfBx16 := fun o => cell_below (below_alloc (Below.refl _ _) o) fBx16
 go_wp2_with fail
 clear lfb00 lfb01 lfb02 lfb03 lfb04 lfb10 lfb11 lfb12 lfb13 lfb14 lfb15 lfb16 lfBw00 lfBw01 lfBw02 lfBw03 lfBw04 lfBx00 lfBx01 lfBx02 lfBx03 lfBx04 lfBx10 lfBx11 lfBx12 lfBx13 lfBx14 lfBx15 lfBx16
 clear fb00 fb01 fb02 fb03 fb04 fb10 fb11 fb12 fb13 fb14 fb15 fb16 fBw00 fBw01 fBw02 fBw03 fBw04 fBx00 fBx01 fBx02 fBx03 fBx04 fBx10 fBx11 fBx12 fBx13 fBx14 fBx15 fBx16
 apply calls_gen; intro W57 hW
 have hE : Below w56.heap.size w56 W57 := by rw [hW]; (repeat (first | with_reducible refine below_alloc ?_ _ | with_reducible refine below_drew ?_)); exact Below.refl _ _
 have Bg0 := Hd.mk (show Blk W57 w56.heap.size #[.int .i64 y.kind, .int .i64 y.n, .string y.s, .slice Ag0 y.list.length cg0, .slice Ag0B y.names.length cg0B] 32 by rw [hW]; first | exact Blk.new _ _ _ | exact (Blk.new _ _ _).drew)
 have hz_ : w56.heap.size + 1 ≤ W57.heap.size := by rw [hW]; simp
 clear hW
 have db0_Bg0 := Hd.mk eb0.out
 have db1_Bg0 := Hd.mk eb1.out
 have dw0_Bg0 := Hd.mk ew0.out
 have dBw0_Bg0 := Hd.mk eBw0.out
 have dx0_Bg0 := Hd.mk ex0.out
 have dBx0_Bg0 := Hd.mk eBx0.out
 have dx1_Bg0 := Hd.mk ex1.out
 have dBx1_Bg0 := Hd.mk eBx1.out
 have dg0_Bg0 := Hd.mk eg0.out
 have aBg0 := Hd.mk hB.out.size
 replace b0 := b0.dn hE
 replace eb0 := upE eb0 hE
 replace b1 := b1.dn hE
 replace eb1 := upE eb1 hE
 replace w0 := w0.ob hE
 replace ew0 := upE ew0 hE
 replace Bw0 := Bw0.dn hE
 replace eBw0 := upE eBw0 hE
 replace x0 := x0.ob hE
 replace ex0 := upE ex0 hE
 replace Bx0 := Bx0.dn hE
 replace eBx0 := upE eBx0 hE
 replace x1 := x1.ob hE
 replace ex1 := upE ex1 hE
 replace Bx1 := Bx1.dn hE
 replace eBx1 := upE eBx1 hE
 replace g0 := g0.ob hE
 replace eg0 := upE eg0 hE
 replace hB := hB.th hE
 have eBg0 := Hd.mk hz_; clear hz_
 clear hE
 refine (laws_eqJson y y _ _ _ ((tJ (m + 1)).O_K g0.out) ((tJ (m + 1)).O_K w0.out)).mono ?_
 rintro e w58 ⟨rfl, hX⟩
 replace b0 := b0.dn hX
 replace eb0 := upE eb0 hX
 replace b1 := b1.dn hX
 replace eb1 := upE eb1 hX
 replace w0 := w0.ob hX
 replace ew0 := upE ew0 hX
 replace Bw0 := Bw0.dn hX
 replace eBw0 := upE eBw0 hX
 replace x0 := x0.ob hX
 replace ex0 := upE ex0 hX
 replace Bx0 := Bx0.dn hX
 replace eBx0 := upE eBx0 hX
 replace x1 := x1.ob hX
 replace ex1 := upE ex1 hX
 replace Bx1 := Bx1.dn hX
 replace eBx1 := upE eBx1 hX
 replace g0 := g0.ob hX
 replace eg0 := upE eg0 hX
 replace Bg0 := Bg0.dn hX
 replace eBg0 := upE eBg0 hX
 replace hB := hB.th hX
 clear hX
 rw [eqv_self]
 obtain ⟨fb00, fb01, fb02, fb03, fb04, -⟩ := blk5 b0.out
 obtain ⟨fb10, fb11, fb12, fb13, fb14, fb15, fb16, -⟩ := blk7 b1.out
 obtain ⟨fBw00, fBw01, fBw02, fBw03, fBw04, -⟩ := blk5 Bw0.out
 obtain ⟨fBx00, fBx01, fBx02, fBx03, fBx04, -⟩ := blk5 Bx0.out
 obtain ⟨fBx10, fBx11, fBx12, fBx13, fBx14, fBx15, fBx16, -⟩ := blk7 Bx1.out
 obtain ⟨fBg00, fBg01, fBg02, fBg03, fBg04, -⟩ := blk5 Bg0.out
 go_wp2_with fail
 clear fb00 fb01 fb02 fb03 fb04 fb10 fb11 fb12 fb13 fb14 fb15 fb16 fBw00 fBw01 fBw02 fBw03 fBw04 fBx00 fBx01 fBx02 fBx03 fBx04 fBx10 fBx11 fBx12 fBx13 fBx14 fBx15 fBx16 fBg00 fBg01 fBg02 fBg03 fBg04
 obtain ⟨fb00, fb01, fb02, fb03, fb04, -⟩ := blk5 b0.out
 obtain ⟨fb10, fb11, fb12, fb13, fb14, fb15, fb16, -⟩ := blk7 b1.out
 obtain ⟨fBw00, fBw01, fBw02, fBw03, fBw04, -⟩ := blk5 Bw0.out
 obtain ⟨fBx00, fBx01, fBx02, fBx03, fBx04, -⟩ := blk5 Bx0.out
 obtain ⟨fBx10, fBx11, fBx12, fBx13, fBx14, fBx15, fBx16, -⟩ := blk7 Bx1.out
 obtain ⟨fBg00, fBg01, fBg02, fBg03, fBg04, -⟩ := blk5 Bg0.out
 obtain ⟨rfb00, rfb01, rfb02, rfb03, rfb04, rfb10, rfb11⟩ := reg7 fb00 fb01 fb02 fb03 fb04 fb10 fb11
 obtain ⟨rfb12, rfb13, rfb14, rfb15, rfb16, rfBw00, rfBw01⟩ := reg7 fb12 fb13 fb14 fb15 fb16 fBw00 fBw01
 obtain ⟨rfBw02, rfBw03, rfBw04, rfBx00, rfBx01⟩ := reg5 fBw02 fBw03 fBw04 fBx00 fBx01
 obtain ⟨rfBx02, rfBx03, rfBx04, rfBx10, rfBx11⟩ := reg5 fBx02 fBx03 fBx04 fBx10 fBx11
 obtain ⟨rfBx12, rfBx13, rfBx14, rfBx15, rfBx16⟩ := reg5 fBx12 fBx13 fBx14 fBx15 fBx16
 obtain ⟨rfBg00, rfBg01, rfBg02, rfBg03, rfBg04⟩ := reg5 fBg00 fBg01 fBg02 fBg03 fBg04
 refine region_mix [(true, 0), (true, 1), (false, 2), (false, 3), (true, 4)] (by kernel_rfl) (by kernel_rfl) (fun _ _ _ _ _ h => h) ?_
 try (repeat (refine mix_q rfl ?_; go_big_quiet_want; go_big_quiet_op; go_big_quiet_on; refine wpQuiet_nil ?_))
 refine mix_b rfl ?_ (by rfl)
 go_wp2_with fail
 clear rfb00 rfb01 rfb02 rfb03 rfb04 rfb10 rfb11 rfb12 rfb13 rfb14 rfb15 rfb16 rfBw00 rfBw01 rfBw02 rfBw03 rfBw04 rfBx00 rfBx01 rfBx02 rfBx03 rfBx04 rfBx10 rfBx11 rfBx12 rfBx13 rfBx14 rfBx15 rfBx16 rfBg00 rfBg01 rfBg02 rfBg03 rfBg04
 clear fb00 fb01 fb02 fb03 fb04 fb10 fb11 fb12 fb13 fb14 fb15 fb16 fBw00 fBw01 fBw02 fBw03 fBw04 fBx00 fBx01 fBx02 fBx03 fBx04 fBx10 fBx11 fBx12 fBx13 fBx14 fBx15 fBx16 fBg00 fBg01 fBg02 fBg03 fBg04
 have hS := Hd.mk (Below.refl w58.heap.size w58)
 apply calls_gen; intro W59 hW
 have hE : Below w58.heap.size w58 W59 := by rw [hW]; (repeat (first | with_reducible refine below_alloc ?_ _ | with_reducible refine below_drew ?_)); exact Below.refl _ _
 clear hW
 replace b0 := b0.dn hE
 replace eb0 := upE eb0 hE
 replace b1 := b1.dn hE
 replace eb1 := upE eb1 hE
 replace w0 := w0.ob hE
 replace ew0 := upE ew0 hE
 replace Bw0 := Bw0.dn hE
 replace eBw0 := upE eBw0 hE
 replace x0 := x0.ob hE
 replace ex0 := upE ex0 hE
 replace Bx0 := Bx0.dn hE
 replace eBx0 := upE eBx0 hE
 replace x1 := x1.ob hE
 replace ex1 := upE ex1 hE
 replace Bx1 := Bx1.dn hE
 replace eBx1 := upE eBx1 hE
 replace g0 := g0.ob hE
 replace eg0 := upE eg0 hE
 replace Bg0 := Bg0.dn hE
 replace eBg0 := upE eBg0 hE
 replace hB := hB.th hE
 replace hS := Hd.mk (below_then hS.out hE)
 clear hE
 refine (laws_toJson j _ _ ((tJ (m + 1)).K_below hB.out hK0.out) HL0.out.1).mono ?_
 rintro e w60 ⟨cs_, rfl, hO, hX⟩
 have db0_t0 := Hd.mk eb0.out
 have db1_t0 := Hd.mk eb1.out
 have dw0_t0 := Hd.mk ew0.out
 have dBw0_t0 := Hd.mk eBw0.out
 have dx0_t0 := Hd.mk ex0.out
 have dBx0_t0 := Hd.mk eBx0.out
 have dx1_t0 := Hd.mk ex1.out
 have dBx1_t0 := Hd.mk eBx1.out
 have dg0_t0 := Hd.mk eg0.out
 have dBg0_t0 := Hd.mk eBg0.out
 have at0 := Hd.mk hB.out.size
 replace b0 := b0.dn hX
 replace eb0 := upE eb0 hX
 replace b1 := b1.dn hX
 replace eb1 := upE eb1 hX
 replace w0 := w0.ob hX
 replace ew0 := upE ew0 hX
 replace Bw0 := Bw0.dn hX
 replace eBw0 := upE eBw0 hX
 replace x0 := x0.ob hX
 replace ex0 := upE ex0 hX
 replace Bx0 := Bx0.dn hX
 replace eBx0 := upE eBx0 hX
 replace x1 := x1.ob hX
 replace ex1 := upE ex1 hX
 replace Bx1 := Bx1.dn hX
 replace eBx1 := upE eBx1 hX
 replace g0 := g0.ob hX
 replace eg0 := upE eg0 hX
 replace Bg0 := Bg0.dn hX
 replace eBg0 := upE eBg0 hX
 replace hB := hB.th hX
 replace hS := Hd.mk (below_then hS.out hX)
 clear hX
 replace hO := Ty.O_bound _ hO
 obtain ⟨v_, u_, _, _, hcs, _, r1, r2, _⟩ := tJ_O.1 hO
 subst hcs
 obtain ⟨At0, ct0, hv_, hct0, _⟩ := R_C r1
 subst hv_
 clear r1
 obtain ⟨At0B, ct0B, hv_, hct0B, _⟩ := R_C r2
 subst hv_
 clear r2
 have t0 := Hd.mk (show (tJ (m + 1)).O w60 (rng W59.heap.size w60.heap.size) j [Value.int IntKind.i64 j.kind, .int .i64 j.n, .string j.s, .slice At0 j.list.length ct0, .slice At0B j.names.length ct0B] from hO); clear hO
 have et0 := Hd.mk (Nat.le_refl w60.heap.size)
 obtain ⟨fb00, fb01, fb02, fb03, fb04, -⟩ := blk5 b0.out
 obtain ⟨fb10, fb11, fb12, fb13, fb14, fb15, fb16, -⟩ := blk7 b1.out
 obtain ⟨fBw00, fBw01, fBw02, fBw03, fBw04, -⟩ := blk5 Bw0.out
 obtain ⟨fBx00, fBx01, fBx02, fBx03, fBx04, -⟩ := blk5 Bx0.out
 obtain ⟨fBx10, fBx11, fBx12, fBx13, fBx14, fBx15, fBx16, -⟩ := blk7 Bx1.out
 obtain ⟨fBg00, fBg01, fBg02, fBg03, fBg04, -⟩ := blk5 Bg0.out
 go_wp2_with fail
 refine ⟨cls_below hS.out, ?_⟩
 refine mix_b rfl ?_ (by rfl)
 go_wp2_with fail
 clear fb00 fb01 fb02 fb03 fb04 fb10 fb11 fb12 fb13 fb14 fb15 fb16 fBw00 fBw01 fBw02 fBw03 fBw04 fBx00 fBx01 fBx02 fBx03 fBx04 fBx10 fBx11 fBx12 fBx13 fBx14 fBx15 fBx16 fBg00 fBg01 fBg02 fBg03 fBg04
 apply calls_gen; intro W61 hW
 have hE : Below w60.heap.size w60 W61 := by rw [hW]; (repeat (first | with_reducible refine below_alloc ?_ _ | with_reducible refine below_drew ?_)); exact Below.refl _ _
 clear hW
 replace b0 := b0.dn hE
 replace eb0 := upE eb0 hE
 replace b1 := b1.dn hE
 replace eb1 := upE eb1 hE
 replace w0 := w0.ob hE
 replace ew0 := upE ew0 hE
 replace Bw0 := Bw0.dn hE
 replace eBw0 := upE eBw0 hE
 replace x0 := x0.ob hE
 replace ex0 := upE ex0 hE
 replace Bx0 := Bx0.dn hE
 replace eBx0 := upE eBx0 hE
 replace x1 := x1.ob hE
 replace ex1 := upE ex1 hE
 replace Bx1 := Bx1.dn hE
 replace eBx1 := upE eBx1 hE
 replace g0 := g0.ob hE
 replace eg0 := upE eg0 hE
 replace Bg0 := Bg0.dn hE
 replace eBg0 := upE eBg0 hE
 replace t0 := t0.ob hE
 replace et0 := upE et0 hE
 replace hB := hB.th hE
 replace hS := Hd.mk (below_then hS.out hE)
 clear hE
 refine (laws_eqJson j j _ _ _ ((tJ (m + 1)).O_K x0.out) ((tJ (m + 1)).O_K t0.out)).mono ?_
 rintro e w62 ⟨rfl, hX⟩
 replace b0 := b0.dn hX
 replace eb0 := upE eb0 hX
 replace b1 := b1.dn hX
 replace eb1 := upE eb1 hX
 replace w0 := w0.ob hX
 replace ew0 := upE ew0 hX
 replace Bw0 := Bw0.dn hX
 replace eBw0 := upE eBw0 hX
 replace x0 := x0.ob hX
 replace ex0 := upE ex0 hX
 replace Bx0 := Bx0.dn hX
 replace eBx0 := upE eBx0 hX
 replace x1 := x1.ob hX
 replace ex1 := upE ex1 hX
 replace Bx1 := Bx1.dn hX
 replace eBx1 := upE eBx1 hX
 replace g0 := g0.ob hX
 replace eg0 := upE eg0 hX
 replace Bg0 := Bg0.dn hX
 replace eBg0 := upE eBg0 hX
 replace t0 := t0.ob hX
 replace et0 := upE et0 hX
 replace hB := hB.th hX
 replace hS := Hd.mk (below_then hS.out hX)
 clear hX
 rw [eqv_self]
 obtain ⟨fb00, fb01, fb02, fb03, fb04, -⟩ := blk5 b0.out
 obtain ⟨fb10, fb11, fb12, fb13, fb14, fb15, fb16, -⟩ := blk7 b1.out
 obtain ⟨fBw00, fBw01, fBw02, fBw03, fBw04, -⟩ := blk5 Bw0.out
 obtain ⟨fBx00, fBx01, fBx02, fBx03, fBx04, -⟩ := blk5 Bx0.out
 obtain ⟨fBx10, fBx11, fBx12, fBx13, fBx14, fBx15, fBx16, -⟩ := blk7 Bx1.out
 obtain ⟨fBg00, fBg01, fBg02, fBg03, fBg04, -⟩ := blk5 Bg0.out
 obtain ⟨rfb00, rfb01, rfb02, rfb03, rfb04, rfb10, rfb11⟩ := reg7 fb00 fb01 fb02 fb03 fb04 fb10 fb11
 obtain ⟨rfb12, rfb13, rfb14, rfb15, rfb16, rfBw00, rfBw01⟩ := reg7 fb12 fb13 fb14 fb15 fb16 fBw00 fBw01
 obtain ⟨rfBw02, rfBw03, rfBw04, rfBx00, rfBx01⟩ := reg5 fBw02 fBw03 fBw04 fBx00 fBx01
 obtain ⟨rfBx02, rfBx03, rfBx04, rfBx10, rfBx11⟩ := reg5 fBx02 fBx03 fBx04 fBx10 fBx11
 obtain ⟨rfBx12, rfBx13, rfBx14, rfBx15, rfBx16⟩ := reg5 fBx12 fBx13 fBx14 fBx15 fBx16
 obtain ⟨rfBg00, rfBg01, rfBg02, rfBg03, rfBg04⟩ := reg5 fBg00 fBg01 fBg02 fBg03 fBg04
 go_wp2_with fail
 refine ⟨cls_below hS.out, ?_⟩
 try (repeat (refine mix_q rfl ?_; go_big_quiet_want; go_big_quiet_op; go_big_quiet_on; refine wpQuiet_nil ?_))
 refine mix_nil ?_
 clear rfb00 rfb01 rfb02 rfb03 rfb04 rfb10 rfb11 rfb12 rfb13 rfb14 rfb15 rfb16 rfBw00 rfBw01 rfBw02 rfBw03 rfBw04 rfBx00 rfBx01 rfBx02 rfBx03 rfBx04 rfBx10 rfBx11 rfBx12 rfBx13 rfBx14 rfBx15 rfBx16 rfBg00 rfBg01 rfBg02 rfBg03 rfBg04
 clear hS
 go_wp2_with fail
 clear fb00 fb01 fb02 fb03 fb04 fb10 fb11 fb12 fb13 fb14 fb15 fb16 fBw00 fBw01 fBw02 fBw03 fBw04 fBx00 fBx01 fBx02 fBx03 fBx04 fBx10 fBx11 fBx12 fBx13 fBx14 fBx15 fBx16 fBg00 fBg01 fBg02 fBg03 fBg04
 clear t0 et0
 obtain ⟨fb00, fb01, fb02, fb03, fb04, -⟩ := blk5 b0.out
 obtain ⟨fb10, fb11, fb12, fb13, fb14, fb15, fb16, -⟩ := blk7 b1.out
 obtain ⟨fBw00, fBw01, fBw02, fBw03, fBw04, -⟩ := blk5 Bw0.out
 obtain ⟨fBx00, fBx01, fBx02, fBx03, fBx04, -⟩ := blk5 Bx0.out
 obtain ⟨fBx10, fBx11, fBx12, fBx13, fBx14, fBx15, fBx16, -⟩ := blk7 Bx1.out
 obtain ⟨fBg00, fBg01, fBg02, fBg03, fBg04, -⟩ := blk5 Bg0.out
 obtain ⟨rfb00, rfb01, rfb02, rfb03, rfb04, rfb10, rfb11⟩ := reg7 fb00 fb01 fb02 fb03 fb04 fb10 fb11
 obtain ⟨rfb12, rfb13, rfb14, rfb15, rfb16, rfBw00, rfBw01⟩ := reg7 fb12 fb13 fb14 fb15 fb16 fBw00 fBw01
 obtain ⟨rfBw02, rfBw03, rfBw04, rfBx00, rfBx01⟩ := reg5 fBw02 fBw03 fBw04 fBx00 fBx01
 obtain ⟨rfBx02, rfBx03, rfBx04, rfBx10, rfBx11⟩ := reg5 fBx02 fBx03 fBx04 fBx10 fBx11
 obtain ⟨rfBx12, rfBx13, rfBx14, rfBx15, rfBx16⟩ := reg5 fBx12 fBx13 fBx14 fBx15 fBx16
 obtain ⟨rfBg00, rfBg01, rfBg02, rfBg03, rfBg04⟩ := reg5 fBg00 fBg01 fBg02 fBg03 fBg04
 refine region_mix [(true, 0), (true, 1), (false, 2), (false, 3), (true, 4)] (by kernel_rfl) (by kernel_rfl) (fun _ _ _ _ _ h => h) ?_
 try (repeat (refine mix_q rfl ?_; go_big_quiet_want; go_big_quiet_op; go_big_quiet_on; refine wpQuiet_nil ?_))
 refine mix_b rfl ?_ (by rfl)
 go_wp2_with fail
 clear rfb00 rfb01 rfb02 rfb03 rfb04 rfb10 rfb11 rfb12 rfb13 rfb14 rfb15 rfb16 rfBw00 rfBw01 rfBw02 rfBw03 rfBw04 rfBx00 rfBx01 rfBx02 rfBx03 rfBx04 rfBx10 rfBx11 rfBx12 rfBx13 rfBx14 rfBx15 rfBx16 rfBg00 rfBg01 rfBg02 rfBg03 rfBg04
 clear fb00 fb01 fb02 fb03 fb04 fb10 fb11 fb12 fb13 fb14 fb15 fb16 fBw00 fBw01 fBw02 fBw03 fBw04 fBx00 fBx01 fBx02 fBx03 fBx04 fBx10 fBx11 fBx12 fBx13 fBx14 fBx15 fBx16 fBg00 fBg01 fBg02 fBg03 fBg04
 have hS := Hd.mk (Below.refl w62.heap.size w62)
 apply calls_gen; intro W63 hW
 have hE : Below w62.heap.size w62 W63 := by rw [hW]; (repeat (first | with_reducible refine below_alloc ?_ _ | with_reducible refine below_drew ?_)); exact Below.refl _ _
 clear hW
 replace b0 := b0.dn hE
 replace eb0 := upE eb0 hE
 replace b1 := b1.dn hE
 replace eb1 := upE eb1 hE
 replace w0 := w0.ob hE
 replace ew0 := upE ew0 hE
 replace Bw0 := Bw0.dn hE
 replace eBw0 := upE eBw0 hE
 replace x0 := x0.ob hE
 replace ex0 := upE ex0 hE
 replace Bx0 := Bx0.dn hE
 replace eBx0 := upE eBx0 hE
 replace x1 := x1.ob hE
 replace ex1 := upE ex1 hE
 replace Bx1 := Bx1.dn hE
 replace eBx1 := upE eBx1 hE
 replace g0 := g0.ob hE
 replace eg0 := upE eg0 hE
 replace Bg0 := Bg0.dn hE
 replace eBg0 := upE eBg0 hE
 replace hB := hB.th hE
 replace hS := Hd.mk (below_then hS.out hE)
 clear hE
 refine (laws_toOp o _ _ ((tOp (m + 1)).K_below hB.out hK1.out) HL1.out.1).mono ?_
 rintro e w64 ⟨cs_, rfl, hO, hX⟩
 have db0_t1 := Hd.mk eb0.out
 have db1_t1 := Hd.mk eb1.out
 have dw0_t1 := Hd.mk ew0.out
 have dBw0_t1 := Hd.mk eBw0.out
 have dx0_t1 := Hd.mk ex0.out
 have dBx0_t1 := Hd.mk eBx0.out
 have dx1_t1 := Hd.mk ex1.out
 have dBx1_t1 := Hd.mk eBx1.out
 have dg0_t1 := Hd.mk eg0.out
 have dBg0_t1 := Hd.mk eBg0.out
 have at1 := Hd.mk hB.out.size
 replace b0 := b0.dn hX
 replace eb0 := upE eb0 hX
 replace b1 := b1.dn hX
 replace eb1 := upE eb1 hX
 replace w0 := w0.ob hX
 replace ew0 := upE ew0 hX
 replace Bw0 := Bw0.dn hX
 replace eBw0 := upE eBw0 hX
 replace x0 := x0.ob hX
 replace ex0 := upE ex0 hX
 replace Bx0 := Bx0.dn hX
 replace eBx0 := upE eBx0 hX
 replace x1 := x1.ob hX
 replace ex1 := upE ex1 hX
 replace Bx1 := Bx1.dn hX
 replace eBx1 := upE eBx1 hX
 replace g0 := g0.ob hX
 replace eg0 := upE eg0 hX
 replace Bg0 := Bg0.dn hX
 replace eBg0 := upE eBg0 hX
 replace hB := hB.th hX
 replace hS := Hd.mk (below_then hS.out hX)
 clear hX
 replace hO := Ty.O_bound _ hO
 obtain ⟨v_, c1_, _, _, hcs, r1, rj_, _⟩ := tOp_O.1 hO
 obtain ⟨At1w, ct1w, hv_, hct1w, _⟩ := R_C r1
 subst hv_
 clear r1
 obtain ⟨v_, u_, _, _, hcs2, _, r1, r2, _⟩ := tJ_O.1 rj_
 clear rj_
 subst hcs2
 subst hcs
 obtain ⟨At1, ct1, hv_, hct1, _⟩ := R_C r1
 subst hv_
 clear r1
 obtain ⟨At1B, ct1B, hv_, hct1B, _⟩ := R_C r2
 subst hv_
 clear r2
 have t1 := Hd.mk (show (tOp (m + 1)).O w64 (rng W63.heap.size w64.heap.size) o [Value.int IntKind.i64 o.kind, .slice At1w o.way.length ct1w, .int .i64 o.value.kind, .int .i64 o.value.n, .string o.value.s, .slice At1 o.value.list.length ct1, .slice At1B o.value.names.length ct1B] from hO); clear hO
 have et1 := Hd.mk (Nat.le_refl w64.heap.size)
 obtain ⟨fb00, fb01, fb02, fb03, fb04, -⟩ := blk5 b0.out
 obtain ⟨fb10, fb11, fb12, fb13, fb14, fb15, fb16, -⟩ := blk7 b1.out
 obtain ⟨fBw00, fBw01, fBw02, fBw03, fBw04, -⟩ := blk5 Bw0.out
 obtain ⟨fBx00, fBx01, fBx02, fBx03, fBx04, -⟩ := blk5 Bx0.out
 obtain ⟨fBx10, fBx11, fBx12, fBx13, fBx14, fBx15, fBx16, -⟩ := blk7 Bx1.out
 obtain ⟨fBg00, fBg01, fBg02, fBg03, fBg04, -⟩ := blk5 Bg0.out
 go_wp2_with fail
 refine ⟨cls_below hS.out, ?_⟩
 refine mix_b rfl ?_ (by rfl)
 go_wp2_with fail
 clear fb00 fb01 fb02 fb03 fb04 fb10 fb11 fb12 fb13 fb14 fb15 fb16 fBw00 fBw01 fBw02 fBw03 fBw04 fBx00 fBx01 fBx02 fBx03 fBx04 fBx10 fBx11 fBx12 fBx13 fBx14 fBx15 fBx16 fBg00 fBg01 fBg02 fBg03 fBg04
 apply calls_gen; intro W65 hW
 have hE : Below w64.heap.size w64 W65 := by rw [hW]; (repeat (first | with_reducible refine below_alloc ?_ _ | with_reducible refine below_drew ?_)); exact Below.refl _ _
 clear hW
 replace b0 := b0.dn hE
 replace eb0 := upE eb0 hE
 replace b1 := b1.dn hE
 replace eb1 := upE eb1 hE
 replace w0 := w0.ob hE
 replace ew0 := upE ew0 hE
 replace Bw0 := Bw0.dn hE
 replace eBw0 := upE eBw0 hE
 replace x0 := x0.ob hE
 replace ex0 := upE ex0 hE
 replace Bx0 := Bx0.dn hE
 replace eBx0 := upE eBx0 hE
 replace x1 := x1.ob hE
 replace ex1 := upE ex1 hE
 replace Bx1 := Bx1.dn hE
 replace eBx1 := upE eBx1 hE
 replace g0 := g0.ob hE
 replace eg0 := upE eg0 hE
 replace Bg0 := Bg0.dn hE
 replace eBg0 := upE eBg0 hE
 replace t1 := t1.ob hE
 replace et1 := upE et1 hE
 replace hB := hB.th hE
 replace hS := Hd.mk (below_then hS.out hE)
 clear hE
 refine (laws_eqOp o o _ _ _ ((tOp (m + 1)).O_K x1.out) ((tOp (m + 1)).O_K t1.out)).mono ?_
 rintro e w66 ⟨rfl, hX⟩
 replace b0 := b0.dn hX
 replace eb0 := upE eb0 hX
 replace b1 := b1.dn hX
 replace eb1 := upE eb1 hX
 replace w0 := w0.ob hX
 replace ew0 := upE ew0 hX
 replace Bw0 := Bw0.dn hX
 replace eBw0 := upE eBw0 hX
 replace x0 := x0.ob hX
 replace ex0 := upE ex0 hX
 replace Bx0 := Bx0.dn hX
 replace eBx0 := upE eBx0 hX
 replace x1 := x1.ob hX
 replace ex1 := upE ex1 hX
 replace Bx1 := Bx1.dn hX
 replace eBx1 := upE eBx1 hX
 replace g0 := g0.ob hX
 replace eg0 := upE eg0 hX
 replace Bg0 := Bg0.dn hX
 replace eBg0 := upE eBg0 hX
 replace t1 := t1.ob hX
 replace et1 := upE et1 hX
 replace hB := hB.th hX
 replace hS := Hd.mk (below_then hS.out hX)
 clear hX
 rw [eqv_self]
 obtain ⟨fb00, fb01, fb02, fb03, fb04, -⟩ := blk5 b0.out
 obtain ⟨fb10, fb11, fb12, fb13, fb14, fb15, fb16, -⟩ := blk7 b1.out
 obtain ⟨fBw00, fBw01, fBw02, fBw03, fBw04, -⟩ := blk5 Bw0.out
 obtain ⟨fBx00, fBx01, fBx02, fBx03, fBx04, -⟩ := blk5 Bx0.out
 obtain ⟨fBx10, fBx11, fBx12, fBx13, fBx14, fBx15, fBx16, -⟩ := blk7 Bx1.out
 obtain ⟨fBg00, fBg01, fBg02, fBg03, fBg04, -⟩ := blk5 Bg0.out
 obtain ⟨rfb00, rfb01, rfb02, rfb03, rfb04, rfb10, rfb11⟩ := reg7 fb00 fb01 fb02 fb03 fb04 fb10 fb11
 obtain ⟨rfb12, rfb13, rfb14, rfb15, rfb16, rfBw00, rfBw01⟩ := reg7 fb12 fb13 fb14 fb15 fb16 fBw00 fBw01
 obtain ⟨rfBw02, rfBw03, rfBw04, rfBx00, rfBx01⟩ := reg5 fBw02 fBw03 fBw04 fBx00 fBx01
 obtain ⟨rfBx02, rfBx03, rfBx04, rfBx10, rfBx11⟩ := reg5 fBx02 fBx03 fBx04 fBx10 fBx11
 obtain ⟨rfBx12, rfBx13, rfBx14, rfBx15, rfBx16⟩ := reg5 fBx12 fBx13 fBx14 fBx15 fBx16
 obtain ⟨rfBg00, rfBg01, rfBg02, rfBg03, rfBg04⟩ := reg5 fBg00 fBg01 fBg02 fBg03 fBg04
 go_wp2_with fail
 refine ⟨cls_below hS.out, ?_⟩
 try (repeat (refine mix_q rfl ?_; go_big_quiet_want; go_big_quiet_op; go_big_quiet_on; refine wpQuiet_nil ?_))
 refine mix_nil ?_
 clear rfb00 rfb01 rfb02 rfb03 rfb04 rfb10 rfb11 rfb12 rfb13 rfb14 rfb15 rfb16 rfBw00 rfBw01 rfBw02 rfBw03 rfBw04 rfBx00 rfBx01 rfBx02 rfBx03 rfBx04 rfBx10 rfBx11 rfBx12 rfBx13 rfBx14 rfBx15 rfBx16 rfBg00 rfBg01 rfBg02 rfBg03 rfBg04
 clear hS
 go_wp2_with fail
 clear fb00 fb01 fb02 fb03 fb04 fb10 fb11 fb12 fb13 fb14 fb15 fb16 fBw00 fBw01 fBw02 fBw03 fBw04 fBx00 fBx01 fBx02 fBx03 fBx04 fBx10 fBx11 fBx12 fBx13 fBx14 fBx15 fBx16 fBg00 fBg01 fBg02 fBg03 fBg04
 clear t1 et1
 obtain ⟨fb00, fb01, fb02, fb03, fb04, -⟩ := blk5 b0.out
 obtain ⟨fb10, fb11, fb12, fb13, fb14, fb15, fb16, -⟩ := blk7 b1.out
 obtain ⟨fBw00, fBw01, fBw02, fBw03, fBw04, -⟩ := blk5 Bw0.out
 obtain ⟨fBx00, fBx01, fBx02, fBx03, fBx04, -⟩ := blk5 Bx0.out
 obtain ⟨fBx10, fBx11, fBx12, fBx13, fBx14, fBx15, fBx16, -⟩ := blk7 Bx1.out
 obtain ⟨fBg00, fBg01, fBg02, fBg03, fBg04, -⟩ := blk5 Bg0.out
 go_wp2_with fail
 clear fb00 fb01 fb02 fb03 fb04 fb10 fb11 fb12 fb13 fb14 fb15 fb16 fBw00 fBw01 fBw02 fBw03 fBw04 fBx00 fBx01 fBx02 fBx03 fBx04 fBx10 fBx11 fBx12 fBx13 fBx14 fBx15 fBx16 fBg00 fBg01 fBg02 fBg03 fBg04
 apply calls_gen; intro W67 hW
 have hE : Below w66.heap.size w66 W67 := by rw [hW]; (repeat (first | with_reducible refine below_alloc ?_ _ | with_reducible refine below_drew ?_)); exact Below.refl _ _
 clear hW
 replace b0 := b0.dn hE
 replace eb0 := upE eb0 hE
 replace b1 := b1.dn hE
 replace eb1 := upE eb1 hE
 replace w0 := w0.ob hE
 replace ew0 := upE ew0 hE
 replace Bw0 := Bw0.dn hE
 replace eBw0 := upE eBw0 hE
 replace x0 := x0.ob hE
 replace ex0 := upE ex0 hE
 replace Bx0 := Bx0.dn hE
 replace eBx0 := upE eBx0 hE
 replace x1 := x1.ob hE
 replace ex1 := upE ex1 hE
 replace Bx1 := Bx1.dn hE
 replace eBx1 := upE eBx1 hE
 replace g0 := g0.ob hE
 replace eg0 := upE eg0 hE
 replace Bg0 := Bg0.dn hE
 replace eBg0 := upE eBg0 hE
 replace hB := hB.th hE
 clear hE
 refine (laws_markJson _ _ (1) _ x0.out (by omega) (by omega)).mono ?_
 rintro e w68 ⟨rfl, hM, hX⟩
 have hsz_ := hX.size
 replace b0 := Hd.mk (b0.out.fr hX (rng_not (Or.inl db0_x0.out)))
 replace eb0 := Hd.mk (Nat.le_trans eb0.out hsz_)
 replace b1 := Hd.mk (b1.out.fr hX (rng_not (Or.inl db1_x0.out)))
 replace eb1 := Hd.mk (Nat.le_trans eb1.out hsz_)
 replace w0 := Hd.mk (Ty.O_fr w0.out hX (rng_off (Or.inl dw0_x0.out)))
 replace ew0 := Hd.mk (Nat.le_trans ew0.out hsz_)
 replace Bw0 := Hd.mk (Bw0.out.fr hX (rng_not (Or.inl dBw0_x0.out)))
 replace eBw0 := Hd.mk (Nat.le_trans eBw0.out hsz_)
 replace ex0 := Hd.mk (Nat.le_trans ex0.out hsz_)
 replace Bx0 := Hd.mk (Bx0.out.fr hX (rng_not (Or.inr dx0_Bx0.out)))
 replace eBx0 := Hd.mk (Nat.le_trans eBx0.out hsz_)
 replace x1 := Hd.mk (Ty.O_fr x1.out hX (rng_off (Or.inr dx0_x1.out)))
 replace ex1 := Hd.mk (Nat.le_trans ex1.out hsz_)
 replace Bx1 := Hd.mk (Bx1.out.fr hX (rng_not (Or.inr dx0_Bx1.out)))
 replace eBx1 := Hd.mk (Nat.le_trans eBx1.out hsz_)
 replace g0 := Hd.mk (Ty.O_fr g0.out hX (rng_off (Or.inr dx0_g0.out)))
 replace eg0 := Hd.mk (Nat.le_trans eg0.out hsz_)
 replace Bg0 := Hd.mk (Bg0.out.fr hX (rng_not (Or.inr dx0_Bg0.out)))
 replace eBg0 := Hd.mk (Nat.le_trans eBg0.out hsz_)
 replace hB := Hd.mk (below_rng hB.out hX ax0.out)
 clear hsz_
 clear hX
 clear hM
 clear x0 ex0
 obtain ⟨fb00, fb01, fb02, fb03, fb04, -⟩ := blk5 b0.out
 obtain ⟨fb10, fb11, fb12, fb13, fb14, fb15, fb16, -⟩ := blk7 b1.out
 obtain ⟨fBw00, fBw01, fBw02, fBw03, fBw04, -⟩ := blk5 Bw0.out
 obtain ⟨fBx00, fBx01, fBx02, fBx03, fBx04, -⟩ := blk5 Bx0.out
 obtain ⟨fBx10, fBx11, fBx12, fBx13, fBx14, fBx15, fBx16, -⟩ := blk7 Bx1.out
 obtain ⟨fBg00, fBg01, fBg02, fBg03, fBg04, -⟩ := blk5 Bg0.out
 go_wp2_with fail
 clear fb00 fb01 fb02 fb03 fb04 fb10 fb11 fb12 fb13 fb14 fb15 fb16 fBw00 fBw01 fBw02 fBw03 fBw04 fBx00 fBx01 fBx02 fBx03 fBx04 fBx10 fBx11 fBx12 fBx13 fBx14 fBx15 fBx16 fBg00 fBg01 fBg02 fBg03 fBg04
 apply calls_gen; intro W69 hW
 have hE : Below w68.heap.size w68 W69 := by rw [hW]; (repeat (first | with_reducible refine below_alloc ?_ _ | with_reducible refine below_drew ?_)); exact Below.refl _ _
 clear hW
 replace b0 := b0.dn hE
 replace eb0 := upE eb0 hE
 replace b1 := b1.dn hE
 replace eb1 := upE eb1 hE
 replace w0 := w0.ob hE
 replace ew0 := upE ew0 hE
 replace Bw0 := Bw0.dn hE
 replace eBw0 := upE eBw0 hE
 replace Bx0 := Bx0.dn hE
 replace eBx0 := upE eBx0 hE
 replace x1 := x1.ob hE
 replace ex1 := upE ex1 hE
 replace Bx1 := Bx1.dn hE
 replace eBx1 := upE eBx1 hE
 replace g0 := g0.ob hE
 replace eg0 := upE eg0 hE
 replace Bg0 := Bg0.dn hE
 replace eBg0 := upE eBg0 hE
 replace hB := hB.th hE
 clear hE
 refine (laws_markOp _ _ (1 + (bulkL (cnJ m) j.list : Int) + (j.names.length : Int)) _ x1.out (by omega) (by omega)).mono ?_
 rintro e w70 ⟨rfl, hM, hX⟩
 have hsz_ := hX.size
 replace b0 := Hd.mk (b0.out.fr hX (rng_not (Or.inl db0_x1.out)))
 replace eb0 := Hd.mk (Nat.le_trans eb0.out hsz_)
 replace b1 := Hd.mk (b1.out.fr hX (rng_not (Or.inl db1_x1.out)))
 replace eb1 := Hd.mk (Nat.le_trans eb1.out hsz_)
 replace w0 := Hd.mk (Ty.O_fr w0.out hX (rng_off (Or.inl dw0_x1.out)))
 replace ew0 := Hd.mk (Nat.le_trans ew0.out hsz_)
 replace Bw0 := Hd.mk (Bw0.out.fr hX (rng_not (Or.inl dBw0_x1.out)))
 replace eBw0 := Hd.mk (Nat.le_trans eBw0.out hsz_)
 replace Bx0 := Hd.mk (Bx0.out.fr hX (rng_not (Or.inl dBx0_x1.out)))
 replace eBx0 := Hd.mk (Nat.le_trans eBx0.out hsz_)
 replace ex1 := Hd.mk (Nat.le_trans ex1.out hsz_)
 replace Bx1 := Hd.mk (Bx1.out.fr hX (rng_not (Or.inr dx1_Bx1.out)))
 replace eBx1 := Hd.mk (Nat.le_trans eBx1.out hsz_)
 replace g0 := Hd.mk (Ty.O_fr g0.out hX (rng_off (Or.inr dx1_g0.out)))
 replace eg0 := Hd.mk (Nat.le_trans eg0.out hsz_)
 replace Bg0 := Hd.mk (Bg0.out.fr hX (rng_not (Or.inr dx1_Bg0.out)))
 replace eBg0 := Hd.mk (Nat.le_trans eBg0.out hsz_)
 replace hB := Hd.mk (below_rng hB.out hX ax1.out)
 clear hsz_
 clear hX
 clear hM
 clear x1 ex1
 have hkp : (0 : Int) ≤ 1 + (bulkL (cnJ m) j.list : Int) + (j.names.length : Int) + (o.way.length : Int) + (bulkL (cnJ m) o.value.list : Int) + (o.value.names.length : Int) := by omega
 obtain ⟨fb00, fb01, fb02, fb03, fb04, -⟩ := blk5 b0.out
 obtain ⟨fb10, fb11, fb12, fb13, fb14, fb15, fb16, -⟩ := blk7 b1.out
 obtain ⟨fBw00, fBw01, fBw02, fBw03, fBw04, -⟩ := blk5 Bw0.out
 obtain ⟨fBx00, fBx01, fBx02, fBx03, fBx04, -⟩ := blk5 Bx0.out
 obtain ⟨fBx10, fBx11, fBx12, fBx13, fBx14, fBx15, fBx16, -⟩ := blk7 Bx1.out
 obtain ⟨fBg00, fBg01, fBg02, fBg03, fBg04, -⟩ := blk5 Bg0.out
 go_wp2_with fail
 clear fb00 fb01 fb02 fb03 fb04 fb10 fb11 fb12 fb13 fb14 fb15 fb16 fBw00 fBw01 fBw02 fBw03 fBw04 fBx00 fBx01 fBx02 fBx03 fBx04 fBx10 fBx11 fBx12 fBx13 fBx14 fBx15 fBx16 fBg00 fBg01 fBg02 fBg03 fBg04
 apply calls_gen; intro W71 hW
 have hE : Below w70.heap.size w70 W71 := by rw [hW]; (repeat (first | with_reducible refine below_alloc ?_ _ | with_reducible refine below_drew ?_)); exact Below.refl _ _
 clear hW
 replace b0 := b0.dn hE
 replace eb0 := upE eb0 hE
 replace b1 := b1.dn hE
 replace eb1 := upE eb1 hE
 replace w0 := w0.ob hE
 replace ew0 := upE ew0 hE
 replace Bw0 := Bw0.dn hE
 replace eBw0 := upE eBw0 hE
 replace Bx0 := Bx0.dn hE
 replace eBx0 := upE eBx0 hE
 replace Bx1 := Bx1.dn hE
 replace eBx1 := upE eBx1 hE
 replace g0 := g0.ob hE
 replace eg0 := upE eg0 hE
 replace Bg0 := Bg0.dn hE
 replace eBg0 := upE eBg0 hE
 replace hB := hB.th hE
 clear hE
 refine (laws_eqJson y y _ _ _ ((tJ (m + 1)).O_K g0.out) ((tJ (m + 1)).O_K w0.out)).mono ?_
 rintro e w72 ⟨rfl, hX⟩
 replace b0 := b0.dn hX
 replace eb0 := upE eb0 hX
 replace b1 := b1.dn hX
 replace eb1 := upE eb1 hX
 replace w0 := w0.ob hX
 replace ew0 := upE ew0 hX
 replace Bw0 := Bw0.dn hX
 replace eBw0 := upE eBw0 hX
 replace Bx0 := Bx0.dn hX
 replace eBx0 := upE eBx0 hX
 replace Bx1 := Bx1.dn hX
 replace eBx1 := upE eBx1 hX
 replace g0 := g0.ob hX
 replace eg0 := upE eg0 hX
 replace Bg0 := Bg0.dn hX
 replace eBg0 := upE eBg0 hX
 replace hB := hB.th hX
 clear hX
 rw [eqv_self]
 obtain ⟨fb00, fb01, fb02, fb03, fb04, -⟩ := blk5 b0.out
 obtain ⟨fb10, fb11, fb12, fb13, fb14, fb15, fb16, -⟩ := blk7 b1.out
 obtain ⟨fBw00, fBw01, fBw02, fBw03, fBw04, -⟩ := blk5 Bw0.out
 obtain ⟨fBx00, fBx01, fBx02, fBx03, fBx04, -⟩ := blk5 Bx0.out
 obtain ⟨fBx10, fBx11, fBx12, fBx13, fBx14, fBx15, fBx16, -⟩ := blk7 Bx1.out
 obtain ⟨fBg00, fBg01, fBg02, fBg03, fBg04, -⟩ := blk5 Bg0.out
 go_wp2_with fail
 clear fb00 fb01 fb02 fb03 fb04 fb10 fb11 fb12 fb13 fb14 fb15 fb16 fBw00 fBw01 fBw02 fBw03 fBw04 fBx00 fBx01 fBx02 fBx03 fBx04 fBx10 fBx11 fBx12 fBx13 fBx14 fBx15 fBx16 fBg00 fBg01 fBg02 fBg03 fBg04
 apply calls_gen; intro W73 hW
 have hE : Below w72.heap.size w72 W73 := by rw [hW]; (repeat (first | with_reducible refine below_alloc ?_ _ | with_reducible refine below_drew ?_)); exact Below.refl _ _
 clear hW
 replace b0 := b0.dn hE
 replace eb0 := upE eb0 hE
 replace b1 := b1.dn hE
 replace eb1 := upE eb1 hE
 replace w0 := w0.ob hE
 replace ew0 := upE ew0 hE
 replace Bw0 := Bw0.dn hE
 replace eBw0 := upE eBw0 hE
 replace Bx0 := Bx0.dn hE
 replace eBx0 := upE eBx0 hE
 replace Bx1 := Bx1.dn hE
 replace eBx1 := upE eBx1 hE
 replace g0 := g0.ob hE
 replace eg0 := upE eg0 hE
 replace Bg0 := Bg0.dn hE
 replace eBg0 := upE eBg0 hE
 replace hB := hB.th hE
 clear hE
 refine (laws_markJson _ _ (1) _ g0.out (by omega) (by omega)).mono ?_
 rintro e w74 ⟨rfl, hM, hX⟩
 have hsz_ := hX.size
 replace b0 := Hd.mk (b0.out.fr hX (rng_not (Or.inl db0_g0.out)))
 replace eb0 := Hd.mk (Nat.le_trans eb0.out hsz_)
 replace b1 := Hd.mk (b1.out.fr hX (rng_not (Or.inl db1_g0.out)))
 replace eb1 := Hd.mk (Nat.le_trans eb1.out hsz_)
 replace w0 := Hd.mk (Ty.O_fr w0.out hX (rng_off (Or.inl dw0_g0.out)))
 replace ew0 := Hd.mk (Nat.le_trans ew0.out hsz_)
 replace Bw0 := Hd.mk (Bw0.out.fr hX (rng_not (Or.inl dBw0_g0.out)))
 replace eBw0 := Hd.mk (Nat.le_trans eBw0.out hsz_)
 replace Bx0 := Hd.mk (Bx0.out.fr hX (rng_not (Or.inl dBx0_g0.out)))
 replace eBx0 := Hd.mk (Nat.le_trans eBx0.out hsz_)
 replace Bx1 := Hd.mk (Bx1.out.fr hX (rng_not (Or.inl dBx1_g0.out)))
 replace eBx1 := Hd.mk (Nat.le_trans eBx1.out hsz_)
 replace eg0 := Hd.mk (Nat.le_trans eg0.out hsz_)
 replace Bg0 := Hd.mk (Bg0.out.fr hX (rng_not (Or.inr dg0_Bg0.out)))
 replace eBg0 := Hd.mk (Nat.le_trans eBg0.out hsz_)
 replace hB := Hd.mk (below_rng hB.out hX ag0.out)
 clear hsz_
 clear hX
 replace g0 := Hd.mk hM; clear hM
 have hqp : (0 : Int) ≤ 1 + (bulkL (cnJ m) y.list : Int) + (y.names.length : Int) := by omega
 obtain ⟨fb00, fb01, fb02, fb03, fb04, -⟩ := blk5 b0.out
 obtain ⟨fb10, fb11, fb12, fb13, fb14, fb15, fb16, -⟩ := blk7 b1.out
 obtain ⟨fBw00, fBw01, fBw02, fBw03, fBw04, -⟩ := blk5 Bw0.out
 obtain ⟨fBx00, fBx01, fBx02, fBx03, fBx04, -⟩ := blk5 Bx0.out
 obtain ⟨fBx10, fBx11, fBx12, fBx13, fBx14, fBx15, fBx16, -⟩ := blk7 Bx1.out
 obtain ⟨fBg00, fBg01, fBg02, fBg03, fBg04, -⟩ := blk5 Bg0.out
 go_wp2_with fail
 clear fb00 fb01 fb02 fb03 fb04 fb10 fb11 fb12 fb13 fb14 fb15 fb16 fBw00 fBw01 fBw02 fBw03 fBw04 fBx00 fBx01 fBx02 fBx03 fBx04 fBx10 fBx11 fBx12 fBx13 fBx14 fBx15 fBx16 fBg00 fBg01 fBg02 fBg03 fBg04
 apply calls_gen; intro W75 hW
 have hE : Below w74.heap.size w74 W75 := by rw [hW]; (repeat (first | with_reducible refine below_alloc ?_ _ | with_reducible refine below_drew ?_)); exact Below.refl _ _
 clear hW
 replace b0 := b0.dn hE
 replace eb0 := upE eb0 hE
 replace b1 := b1.dn hE
 replace eb1 := upE eb1 hE
 replace w0 := w0.ob hE
 replace ew0 := upE ew0 hE
 replace Bw0 := Bw0.dn hE
 replace eBw0 := upE eBw0 hE
 replace Bx0 := Bx0.dn hE
 replace eBx0 := upE eBx0 hE
 replace Bx1 := Bx1.dn hE
 replace eBx1 := upE eBx1 hE
 replace g0 := g0.ob hE
 replace eg0 := upE eg0 hE
 replace Bg0 := Bg0.dn hE
 replace eBg0 := upE eBg0 hE
 replace hB := hB.th hE
 clear hE
 refine (laws_heldJson y _ 1 _ ((tJ (m + 1)).O_K g0.out) (by omega) (by omega)).mono ?_
 rintro e w76 ⟨rfl, hX⟩
 replace b0 := b0.dn hX
 replace eb0 := upE eb0 hX
 replace b1 := b1.dn hX
 replace eb1 := upE eb1 hX
 replace w0 := w0.ob hX
 replace ew0 := upE ew0 hX
 replace Bw0 := Bw0.dn hX
 replace eBw0 := upE eBw0 hX
 replace Bx0 := Bx0.dn hX
 replace eBx0 := upE eBx0 hX
 replace Bx1 := Bx1.dn hX
 replace eBx1 := upE eBx1 hX
 replace g0 := g0.ob hX
 replace eg0 := upE eg0 hX
 replace Bg0 := Bg0.dn hX
 replace eBg0 := upE eBg0 hX
 replace hB := hB.th hX
 clear hX
 obtain ⟨fb00, fb01, fb02, fb03, fb04, -⟩ := blk5 b0.out
 obtain ⟨fb10, fb11, fb12, fb13, fb14, fb15, fb16, -⟩ := blk7 b1.out
 obtain ⟨fBw00, fBw01, fBw02, fBw03, fBw04, -⟩ := blk5 Bw0.out
 obtain ⟨fBx00, fBx01, fBx02, fBx03, fBx04, -⟩ := blk5 Bx0.out
 obtain ⟨fBx10, fBx11, fBx12, fBx13, fBx14, fBx15, fBx16, -⟩ := blk7 Bx1.out
 obtain ⟨fBg00, fBg01, fBg02, fBg03, fBg04, -⟩ := blk5 Bg0.out
 go_wp2_with fail
 clear fb00 fb01 fb02 fb03 fb04 fb10 fb11 fb12 fb13 fb14 fb15 fb16 fBw00 fBw01 fBw02 fBw03 fBw04 fBx00 fBx01 fBx02 fBx03 fBx04 fBx10 fBx11 fBx12 fBx13 fBx14 fBx15 fBx16 fBg00 fBg01 fBg02 fBg03 fBg04
 obtain ⟨fb00, fb01, fb02, fb03, fb04, -⟩ := blk5 b0.out
 obtain ⟨fb10, fb11, fb12, fb13, fb14, fb15, fb16, -⟩ := blk7 b1.out
 obtain ⟨fBw00, fBw01, fBw02, fBw03, fBw04, -⟩ := blk5 Bw0.out
 obtain ⟨fBx00, fBx01, fBx02, fBx03, fBx04, -⟩ := blk5 Bx0.out
 obtain ⟨fBx10, fBx11, fBx12, fBx13, fBx14, fBx15, fBx16, -⟩ := blk7 Bx1.out
 obtain ⟨fBg00, fBg01, fBg02, fBg03, fBg04, -⟩ := blk5 Bg0.out
 obtain ⟨rfb00, rfb01, rfb02, rfb03, rfb04, rfb10, rfb11⟩ := reg7 fb00 fb01 fb02 fb03 fb04 fb10 fb11
 obtain ⟨rfb12, rfb13, rfb14, rfb15, rfb16, rfBw00, rfBw01⟩ := reg7 fb12 fb13 fb14 fb15 fb16 fBw00 fBw01
 obtain ⟨rfBw02, rfBw03, rfBw04, rfBx00, rfBx01⟩ := reg5 fBw02 fBw03 fBw04 fBx00 fBx01
 obtain ⟨rfBx02, rfBx03, rfBx04, rfBx10, rfBx11⟩ := reg5 fBx02 fBx03 fBx04 fBx10 fBx11
 obtain ⟨rfBx12, rfBx13, rfBx14, rfBx15, rfBx16⟩ := reg5 fBx12 fBx13 fBx14 fBx15 fBx16
 obtain ⟨rfBg00, rfBg01, rfBg02, rfBg03, rfBg04⟩ := reg5 fBg00 fBg01 fBg02 fBg03 fBg04
 refine region_mixT (.q 0 (.q 2 (.br 1 8 (.br 3 8 (.br 4 8 (.p 5 (.p 6 (.p 7 (.b 8 .fin)))) (.b 4 (.p 5 (.p 6 (.p 7 .fin))))) (.b 3 (.b 4 (.p 5 (.p 6 (.p 7 .fin)))))) (.b 1 (.b 3 (.b 4 (.p 5 (.p 6 (.p 7 .fin))))))))) [9, 10] (by kernel_rfl) (by kernel_rfl) (fun _ _ _ _ _ h => h) ?_
 refine genT ?_; intro W77 hW
 have hE : Below w76.heap.size w76 W77 := by rw [hW]; exact below_drew (Below.refl _ _)
 have hS := Hd.mk hE
 clear hW
 replace b0 := b0.dn hE
 replace eb0 := upE eb0 hE
 replace b1 := b1.dn hE
 replace eb1 := upE eb1 hE
 replace w0 := w0.ob hE
 replace ew0 := upE ew0 hE
 replace Bw0 := Bw0.dn hE
 replace eBw0 := upE eBw0 hE
 replace Bx0 := Bx0.dn hE
 replace eBx0 := upE eBx0 hE
 replace Bx1 := Bx1.dn hE
 replace eBx1 := upE eBx1 hE
 replace g0 := g0.ob hE
 replace eg0 := upE eg0 hE
 replace Bg0 := Bg0.dn hE
 replace eBg0 := upE eBg0 hE
 replace hB := hB.th hE
 clear hE
 iterate 2 (refine mixT_q rfl ?_; go_big_quiet_want; go_big_quiet_op; go_big_quiet_on; refine wpQuiet_nil ?_)
 refine ⟨?_, ?_⟩
 ·refine stepM_of rfl ?_ (by rfl)
  go_wp2_with fail
  apply calls_gen; intro W78 hW
  have hE : Below W77.heap.size W77 W78 := by rw [hW]; (repeat (first | with_reducible refine below_alloc ?_ _ | with_reducible refine below_drew ?_)); exact Below.refl _ _
  clear hW
  replace b0 := b0.dn hE
  replace eb0 := upE eb0 hE
  replace b1 := b1.dn hE
  replace eb1 := upE eb1 hE
  replace w0 := w0.ob hE
  replace ew0 := upE ew0 hE
  replace Bw0 := Bw0.dn hE
  replace eBw0 := upE eBw0 hE
  replace Bx0 := Bx0.dn hE
  replace eBx0 := upE eBx0 hE
  replace Bx1 := Bx1.dn hE
  replace eBx1 := upE eBx1 hE
  replace g0 := g0.ob hE
  replace eg0 := upE eg0 hE
  replace Bg0 := Bg0.dn hE
  replace eBg0 := upE eBg0 hE
  replace hB := hB.th hE
  replace hS := Hd.mk (below_then hS.out hE)
  clear hE
  refine (laws_toJson j _ _ ((tJ (m + 1)).K_below hB.out hK0.out) HL0.out.1).mono ?_
  rintro e w79 ⟨cs_, rfl, hO, hX⟩
  have db0_r0 := Hd.mk eb0.out
  have db1_r0 := Hd.mk eb1.out
  have dw0_r0 := Hd.mk ew0.out
  have dBw0_r0 := Hd.mk eBw0.out
  have dBx0_r0 := Hd.mk eBx0.out
  have dBx1_r0 := Hd.mk eBx1.out
  have dg0_r0 := Hd.mk eg0.out
  have dBg0_r0 := Hd.mk eBg0.out
  have ar0 := Hd.mk hB.out.size
  replace b0 := b0.dn hX
  replace eb0 := upE eb0 hX
  replace b1 := b1.dn hX
  replace eb1 := upE eb1 hX
  replace w0 := w0.ob hX
  replace ew0 := upE ew0 hX
  replace Bw0 := Bw0.dn hX
  replace eBw0 := upE eBw0 hX
  replace Bx0 := Bx0.dn hX
  replace eBx0 := upE eBx0 hX
  replace Bx1 := Bx1.dn hX
  replace eBx1 := upE eBx1 hX
  replace g0 := g0.ob hX
  replace eg0 := upE eg0 hX
  replace Bg0 := Bg0.dn hX
  replace eBg0 := upE eBg0 hX
  replace hB := hB.th hX
  replace hS := Hd.mk (below_then hS.out hX)
  clear hX
  replace hO := Ty.O_bound _ hO
  obtain ⟨v_, u_, _, _, hcs, _, r1, r2, _⟩ := tJ_O.1 hO
  subst hcs
  obtain ⟨Ar0, cr0, hv_, hcr0, _⟩ := R_C r1
  subst hv_
  clear r1
  obtain ⟨Ar0B, cr0B, hv_, hcr0B, _⟩ := R_C r2
  subst hv_
  clear r2
  have r0 := Hd.mk (show (tJ (m + 1)).O w79 (rng W78.heap.size w79.heap.size) j [Value.int IntKind.i64 j.kind, .int .i64 j.n, .string j.s, .slice Ar0 j.list.length cr0, .slice Ar0B j.names.length cr0B] from hO); clear hO
  have er0 := Hd.mk (Nat.le_refl w79.heap.size)
  go_wp2_with fail
  refine ⟨cls_below hS.out, ?_⟩
  refine ⟨?_, ?_⟩
  ·refine stepM_of rfl ?_ (by rfl)
   go_wp2_with fail
   apply calls_gen; intro W80 hW
   have hE : Below w79.heap.size w79 W80 := by rw [hW]; (repeat (first | with_reducible refine below_alloc ?_ _ | with_reducible refine below_drew ?_)); exact Below.refl _ _
   clear hW
   replace b0 := b0.dn hE
   replace eb0 := upE eb0 hE
   replace b1 := b1.dn hE
   replace eb1 := upE eb1 hE
   replace w0 := w0.ob hE
   replace ew0 := upE ew0 hE
   replace Bw0 := Bw0.dn hE
   replace eBw0 := upE eBw0 hE
   replace Bx0 := Bx0.dn hE
   replace eBx0 := upE eBx0 hE
   replace Bx1 := Bx1.dn hE
   replace eBx1 := upE eBx1 hE
   replace g0 := g0.ob hE
   replace eg0 := upE eg0 hE
   replace Bg0 := Bg0.dn hE
   replace eBg0 := upE eBg0 hE
   replace r0 := r0.ob hE
   replace er0 := upE er0 hE
   replace hB := hB.th hE
   replace hS := Hd.mk (below_then hS.out hE)
   clear hE
   refine (laws_toOp o _ _ ((tOp (m + 1)).K_below hB.out hK1.out) HL1.out.1).mono ?_
   rintro e w81 ⟨cs_, rfl, hO, hX⟩
   have db0_r1 := Hd.mk eb0.out
   have db1_r1 := Hd.mk eb1.out
   have dw0_r1 := Hd.mk ew0.out
   have dBw0_r1 := Hd.mk eBw0.out
   have dBx0_r1 := Hd.mk eBx0.out
   have dBx1_r1 := Hd.mk eBx1.out
   have dg0_r1 := Hd.mk eg0.out
   have dBg0_r1 := Hd.mk eBg0.out
   have dr0_r1 := Hd.mk er0.out
   have ar1 := Hd.mk hB.out.size
   replace b0 := b0.dn hX
   replace eb0 := upE eb0 hX
   replace b1 := b1.dn hX
   replace eb1 := upE eb1 hX
   replace w0 := w0.ob hX
   replace ew0 := upE ew0 hX
   replace Bw0 := Bw0.dn hX
   replace eBw0 := upE eBw0 hX
   replace Bx0 := Bx0.dn hX
   replace eBx0 := upE eBx0 hX
   replace Bx1 := Bx1.dn hX
   replace eBx1 := upE eBx1 hX
   replace g0 := g0.ob hX
   replace eg0 := upE eg0 hX
   replace Bg0 := Bg0.dn hX
   replace eBg0 := upE eBg0 hX
   replace r0 := r0.ob hX
   replace er0 := upE er0 hX
   replace hB := hB.th hX
   replace hS := Hd.mk (below_then hS.out hX)
   clear hX
   replace hO := Ty.O_bound _ hO
   obtain ⟨v_, c1_, _, _, hcs, r1, rj_, _⟩ := tOp_O.1 hO
   obtain ⟨Ar1w, cr1w, hv_, hcr1w, _⟩ := R_C r1
   subst hv_
   clear r1
   obtain ⟨v_, u_, _, _, hcs2, _, r1, r2, _⟩ := tJ_O.1 rj_
   clear rj_
   subst hcs2
   subst hcs
   obtain ⟨Ar1, cr1, hv_, hcr1, _⟩ := R_C r1
   subst hv_
   clear r1
   obtain ⟨Ar1B, cr1B, hv_, hcr1B, _⟩ := R_C r2
   subst hv_
   clear r2
   have r1 := Hd.mk (show (tOp (m + 1)).O w81 (rng W80.heap.size w81.heap.size) o [Value.int IntKind.i64 o.kind, .slice Ar1w o.way.length cr1w, .int .i64 o.value.kind, .int .i64 o.value.n, .string o.value.s, .slice Ar1 o.value.list.length cr1, .slice Ar1B o.value.names.length cr1B] from hO); clear hO
   have er1 := Hd.mk (Nat.le_refl w81.heap.size)
   go_wp2_with fail
   refine ⟨cls_below hS.out, ?_⟩
   refine ⟨?_, ?_⟩
   ·refine stepM_of rfl ?_ (by rfl)
    go_wp2_with fail
    apply calls_gen; intro W82 hW
    have hE : Below w81.heap.size w81 W82 := by rw [hW]; (repeat (first | with_reducible refine below_alloc ?_ _ | with_reducible refine below_drew ?_)); exact Below.refl _ _
    clear hW
    replace b0 := b0.dn hE
    replace eb0 := upE eb0 hE
    replace b1 := b1.dn hE
    replace eb1 := upE eb1 hE
    replace w0 := w0.ob hE
    replace ew0 := upE ew0 hE
    replace Bw0 := Bw0.dn hE
    replace eBw0 := upE eBw0 hE
    replace Bx0 := Bx0.dn hE
    replace eBx0 := upE eBx0 hE
    replace Bx1 := Bx1.dn hE
    replace eBx1 := upE eBx1 hE
    replace g0 := g0.ob hE
    replace eg0 := upE eg0 hE
    replace Bg0 := Bg0.dn hE
    replace eBg0 := upE eBg0 hE
    replace r0 := r0.ob hE
    replace er0 := upE er0 hE
    replace r1 := r1.ob hE
    replace er1 := upE er1 hE
    replace hB := hB.th hE
    replace hS := Hd.mk (below_then hS.out hE)
    clear hE
    refine (impl_PatchM (B := m) H6.out j _ o _ _ ((tJ (m + 1)).O_K r0.out) ((tOp (m + 1)).O_K r1.out) (hT.out.below hB.out) (hE.out.below hB.out)).mono ?_
    rintro e w83 ⟨cs_, rfl, hO, hX⟩
    have db0_h0 := Hd.mk eb0.out
    have db1_h0 := Hd.mk eb1.out
    have dw0_h0 := Hd.mk ew0.out
    have dBw0_h0 := Hd.mk eBw0.out
    have dBx0_h0 := Hd.mk eBx0.out
    have dBx1_h0 := Hd.mk eBx1.out
    have dg0_h0 := Hd.mk eg0.out
    have dBg0_h0 := Hd.mk eBg0.out
    have dr0_h0 := Hd.mk er0.out
    have dr1_h0 := Hd.mk er1.out
    have ah0 := Hd.mk hB.out.size
    replace b0 := b0.dn hX
    replace eb0 := upE eb0 hX
    replace b1 := b1.dn hX
    replace eb1 := upE eb1 hX
    replace w0 := w0.ob hX
    replace ew0 := upE ew0 hX
    replace Bw0 := Bw0.dn hX
    replace eBw0 := upE eBw0 hX
    replace Bx0 := Bx0.dn hX
    replace eBx0 := upE eBx0 hX
    replace Bx1 := Bx1.dn hX
    replace eBx1 := upE eBx1 hX
    replace g0 := g0.ob hX
    replace eg0 := upE eg0 hX
    replace Bg0 := Bg0.dn hX
    replace eBg0 := upE eBg0 hX
    replace r0 := r0.ob hX
    replace er0 := upE er0 hX
    replace r1 := r1.ob hX
    replace er1 := upE er1 hX
    replace hB := hB.th hX
    replace hS := Hd.mk (below_then hS.out hX)
    clear hX
    rw [← Hy.out] at hO
    rw [← Hyb.out]
    replace hO := Ty.O_bound _ hO
    obtain ⟨v_, u_, _, _, hcs, _, r1, r2, _⟩ := tJ_O.1 hO
    subst hcs
    obtain ⟨Ah0, ch0, hv_, hch0, _⟩ := R_C r1
    subst hv_
    clear r1
    obtain ⟨Ah0B, ch0B, hv_, hch0B, _⟩ := R_C r2
    subst hv_
    clear r2
    have h0 := Hd.mk (show (tJ (m + 1)).O w83 (rng W82.heap.size w83.heap.size) y [Value.int IntKind.i64 y.kind, .int .i64 y.n, .string y.s, .slice Ah0 y.list.length ch0, .slice Ah0B y.names.length ch0B] from hO); clear hO
    have eh0 := Hd.mk (Nat.le_refl w83.heap.size)
    go_wp2_with fail
    refine ⟨cls_below hS.out, ?_⟩
    iterate 3 (refine mixT_p rfl ?_; go_big_quiet_want; go_big_quiet_op; go_big_quiet_on; refine wpQuiet_nil ?_)
    refine mixT_b rfl ?_ (by rfl)
    go_wp2_with fail
    refine ⟨cls_below (below_alloc hS.out _), ?_⟩
    refine genT ?_; intro W84 hW
    have hE : Below w83.heap.size w83 W84 := by rw [hW]; exact below_alloc (Below.refl _ _) _
    have Bh0 := Hd.mk (show Blk W84 w83.heap.size #[.int .i64 0, .int .i64 0, .string ⟨#[]⟩, .slice none 0 0, .slice none 0 0] 32 by rw [hW]; exact Blk.new _ _ _)
    have hz_ : w83.heap.size + 1 ≤ W84.heap.size := by rw [hW]; simp
    clear hW
    have db0_Bh0 := Hd.mk eb0.out
    have db1_Bh0 := Hd.mk eb1.out
    have dw0_Bh0 := Hd.mk ew0.out
    have dBw0_Bh0 := Hd.mk eBw0.out
    have dBx0_Bh0 := Hd.mk eBx0.out
    have dBx1_Bh0 := Hd.mk eBx1.out
    have dg0_Bh0 := Hd.mk eg0.out
    have dBg0_Bh0 := Hd.mk eBg0.out
    have dr0_Bh0 := Hd.mk er0.out
    have dr1_Bh0 := Hd.mk er1.out
    have dh0_Bh0 := Hd.mk eh0.out
    have aBh0 := Hd.mk hB.out.size
    replace b0 := b0.dn hE
    replace eb0 := upE eb0 hE
    replace b1 := b1.dn hE
    replace eb1 := upE eb1 hE
    replace w0 := w0.ob hE
    replace ew0 := upE ew0 hE
    replace Bw0 := Bw0.dn hE
    replace eBw0 := upE eBw0 hE
    replace Bx0 := Bx0.dn hE
    replace eBx0 := upE eBx0 hE
    replace Bx1 := Bx1.dn hE
    replace eBx1 := upE eBx1 hE
    replace g0 := g0.ob hE
    replace eg0 := upE eg0 hE
    replace Bg0 := Bg0.dn hE
    replace eBg0 := upE eBg0 hE
    replace r0 := r0.ob hE
    replace er0 := upE er0 hE
    replace r1 := r1.ob hE
    replace er1 := upE er1 hE
    replace h0 := h0.ob hE
    replace eh0 := upE eh0 hE
    replace hB := hB.th hE
    replace hS := Hd.mk (below_then hS.out hE)
    have eBh0 := Hd.mk hz_; clear hz_ hE
    refine mixT_fin ?_
    clear hS
    clear fb00 fb01 fb02 fb03 fb04 fb10 fb11 fb12 fb13 fb14 fb15 fb16 fBw00 fBw01 fBw02 fBw03 fBw04 fBx00 fBx01 fBx02 fBx03 fBx04 fBx10 fBx11 fBx12 fBx13 fBx14 fBx15 fBx16 fBg00 fBg01 fBg02 fBg03 fBg04 rfb00 rfb01 rfb02 rfb03 rfb04 rfb10 rfb11 rfb12 rfb13 rfb14 rfb15 rfb16 rfBw00 rfBw01 rfBw02 rfBw03 rfBw04 rfBx00 rfBx01 rfBx02 rfBx03 rfBx04 rfBx10 rfBx11 rfBx12 rfBx13 rfBx14 rfBx15 rfBx16 rfBg00 rfBg01 rfBg02 rfBg03 rfBg04
    obtain ⟨fb00, fb01, fb02, fb03, fb04, -⟩ := blk5 b0.out
    obtain ⟨fb10, fb11, fb12, fb13, fb14, fb15, fb16, -⟩ := blk7 b1.out
    obtain ⟨fBw00, fBw01, fBw02, fBw03, fBw04, -⟩ := blk5 Bw0.out
    obtain ⟨fBx00, fBx01, fBx02, fBx03, fBx04, -⟩ := blk5 Bx0.out
    obtain ⟨fBx10, fBx11, fBx12, fBx13, fBx14, fBx15, fBx16, -⟩ := blk7 Bx1.out
    obtain ⟨fBg00, fBg01, fBg02, fBg03, fBg04, -⟩ := blk5 Bg0.out
    obtain ⟨fBh00, fBh01, fBh02, fBh03, fBh04, -⟩ := blk5 Bh0.out
    have fz_ := Bh0.out.frozen
    refine tail_b rfl ?_ (by rfl)
    go_wp2_with fail
    refine mixQ_n ?_
    refine tail_b rfl ?_ (by rfl)
    go_wp2_with fail
    refine mixQ_n ?_
    refine tail_nil ?_
    refine exit_gen ?_; intro W hW
    clear fz_
    clear fb00 fb01 fb02 fb03 fb04 fb10 fb11 fb12 fb13 fb14 fb15 fb16 fBw00 fBw01 fBw02 fBw03 fBw04 fBx00 fBx01 fBx02 fBx03 fBx04 fBx10 fBx11 fBx12 fBx13 fBx14 fBx15 fBx16 fBg00 fBg01 fBg02 fBg03 fBg04 fBh00 fBh01 fBh02 fBh03 fBh04
    have eF : Fr W84 W (fun k => k = w83.heap.size) := by rw [hW]; (repeat (first | with_reducible refine Fr.setCell (S := fun k => k = w83.heap.size) ?_ _ (fun _ => rfl) _)); exact Fr.refl _ _
    have hsz_ := eF.size
    replace b0 := Hd.mk (b0.out.fr eF (fun h => by have := db0_Bh0.out; (try simp only at h); omega))
    replace eb0 := Hd.mk (Nat.le_trans eb0.out hsz_)
    replace b1 := Hd.mk (b1.out.fr eF (fun h => by have := db1_Bh0.out; (try simp only at h); omega))
    replace eb1 := Hd.mk (Nat.le_trans eb1.out hsz_)
    replace w0 := Hd.mk (Ty.O_fr w0.out eF (fun k hk hl h => by have := dw0_Bh0.out; have h1 := hk.1; have h2 := hk.2; (try simp only at h); omega))
    replace ew0 := Hd.mk (Nat.le_trans ew0.out hsz_)
    replace Bw0 := Hd.mk (Bw0.out.fr eF (fun h => by have := dBw0_Bh0.out; (try simp only at h); omega))
    replace eBw0 := Hd.mk (Nat.le_trans eBw0.out hsz_)
    replace Bx0 := Hd.mk (Bx0.out.fr eF (fun h => by have := dBx0_Bh0.out; (try simp only at h); omega))
    replace eBx0 := Hd.mk (Nat.le_trans eBx0.out hsz_)
    replace Bx1 := Hd.mk (Bx1.out.fr eF (fun h => by have := dBx1_Bh0.out; (try simp only at h); omega))
    replace eBx1 := Hd.mk (Nat.le_trans eBx1.out hsz_)
    replace g0 := Hd.mk (Ty.O_fr g0.out eF (fun k hk hl h => by have := dg0_Bh0.out; have h1 := hk.1; have h2 := hk.2; (try simp only at h); omega))
    replace eg0 := Hd.mk (Nat.le_trans eg0.out hsz_)
    replace Bg0 := Hd.mk (Bg0.out.fr eF (fun h => by have := dBg0_Bh0.out; (try simp only at h); omega))
    replace eBg0 := Hd.mk (Nat.le_trans eBg0.out hsz_)
    replace r0 := Hd.mk (Ty.O_fr r0.out eF (fun k hk hl h => by have := dr0_Bh0.out; have h1 := hk.1; have h2 := hk.2; (try simp only at h); omega))
    replace er0 := Hd.mk (Nat.le_trans er0.out hsz_)
    replace r1 := Hd.mk (Ty.O_fr r1.out eF (fun k hk hl h => by have := dr1_Bh0.out; have h1 := hk.1; have h2 := hk.2; (try simp only at h); omega))
    replace er1 := Hd.mk (Nat.le_trans er1.out hsz_)
    replace h0 := Hd.mk (Ty.O_fr h0.out eF (fun k hk hl h => by have := dh0_Bh0.out; have h1 := hk.1; have h2 := hk.2; (try simp only at h); omega))
    replace eh0 := Hd.mk (Nat.le_trans eh0.out hsz_)
    replace Bh0 := Hd.mk (show Blk W (w83.heap.size) #[.int .i64 y.kind, .int .i64 y.n, .string y.s, .slice Ah0 y.list.length ch0, .slice Ah0B y.names.length ch0B] 32 by rw [hW]; exact (((((Bh0.out.set 0 (Value.int IntKind.i64 y.kind)).set 1 (Value.int IntKind.i64 y.n)).set 2 (Value.string y.s)).set 3 (Value.slice Ah0 y.list.length ch0)).set 4 (Value.slice Ah0B y.names.length ch0B)))
    replace eBh0 := Hd.mk (Nat.le_trans eBh0.out hsz_)
    replace hB := Hd.mk (((Fr.of_below hB.out (fun k => k = w83.heap.size)).then_ eF (fun k h _ => h)).below (fun k h => by have := aBh0.out; (try simp only at h); omega))
    clear hW eF hsz_
    clear r0 er0
    clear r1 er1
    obtain ⟨fb00, fb01, fb02, fb03, fb04, -⟩ := blk5 b0.out
    obtain ⟨fb10, fb11, fb12, fb13, fb14, fb15, fb16, -⟩ := blk7 b1.out
    obtain ⟨fBw00, fBw01, fBw02, fBw03, fBw04, -⟩ := blk5 Bw0.out
    obtain ⟨fBx00, fBx01, fBx02, fBx03, fBx04, -⟩ := blk5 Bx0.out
    obtain ⟨fBx10, fBx11, fBx12, fBx13, fBx14, fBx15, fBx16, -⟩ := blk7 Bx1.out
    obtain ⟨fBg00, fBg01, fBg02, fBg03, fBg04, -⟩ := blk5 Bg0.out
    obtain ⟨fBh00, fBh01, fBh02, fBh03, fBh04, -⟩ := blk5 Bh0.out
    go_wp2_with fail
    clear fb00 fb01 fb02 fb03 fb04 fb10 fb11 fb12 fb13 fb14 fb15 fb16 fBw00 fBw01 fBw02 fBw03 fBw04 fBx00 fBx01 fBx02 fBx03 fBx04 fBx10 fBx11 fBx12 fBx13 fBx14 fBx15 fBx16 fBg00 fBg01 fBg02 fBg03 fBg04 fBh00 fBh01 fBh02 fBh03 fBh04
    apply calls_gen; intro W85 hW
    have hE : Below W.heap.size W W85 := by rw [hW]; (repeat (first | with_reducible refine below_alloc ?_ _ | with_reducible refine below_drew ?_)); exact Below.refl _ _
    clear hW
    replace b0 := b0.dn hE
    replace eb0 := upE eb0 hE
    replace b1 := b1.dn hE
    replace eb1 := upE eb1 hE
    replace w0 := w0.ob hE
    replace ew0 := upE ew0 hE
    replace Bw0 := Bw0.dn hE
    replace eBw0 := upE eBw0 hE
    replace Bx0 := Bx0.dn hE
    replace eBx0 := upE eBx0 hE
    replace Bx1 := Bx1.dn hE
    replace eBx1 := upE eBx1 hE
    replace g0 := g0.ob hE
    replace eg0 := upE eg0 hE
    replace Bg0 := Bg0.dn hE
    replace eBg0 := upE eBg0 hE
    replace h0 := h0.ob hE
    replace eh0 := upE eh0 hE
    replace Bh0 := Bh0.dn hE
    replace eBh0 := upE eBh0 hE
    replace hB := hB.th hE
    clear hE
    refine (laws_eqJson y y _ _ _ ((tJ (m + 1)).O_K h0.out) ((tJ (m + 1)).O_K w0.out)).mono ?_
    rintro e w86 ⟨rfl, hX⟩
    replace b0 := b0.dn hX
    replace eb0 := upE eb0 hX
    replace b1 := b1.dn hX
    replace eb1 := upE eb1 hX
    replace w0 := w0.ob hX
    replace ew0 := upE ew0 hX
    replace Bw0 := Bw0.dn hX
    replace eBw0 := upE eBw0 hX
    replace Bx0 := Bx0.dn hX
    replace eBx0 := upE eBx0 hX
    replace Bx1 := Bx1.dn hX
    replace eBx1 := upE eBx1 hX
    replace g0 := g0.ob hX
    replace eg0 := upE eg0 hX
    replace Bg0 := Bg0.dn hX
    replace eBg0 := upE eBg0 hX
    replace h0 := h0.ob hX
    replace eh0 := upE eh0 hX
    replace Bh0 := Bh0.dn hX
    replace eBh0 := upE eBh0 hX
    replace hB := hB.th hX
    clear hX
    rw [eqv_self]
    obtain ⟨fb00, fb01, fb02, fb03, fb04, -⟩ := blk5 b0.out
    obtain ⟨fb10, fb11, fb12, fb13, fb14, fb15, fb16, -⟩ := blk7 b1.out
    obtain ⟨fBw00, fBw01, fBw02, fBw03, fBw04, -⟩ := blk5 Bw0.out
    obtain ⟨fBx00, fBx01, fBx02, fBx03, fBx04, -⟩ := blk5 Bx0.out
    obtain ⟨fBx10, fBx11, fBx12, fBx13, fBx14, fBx15, fBx16, -⟩ := blk7 Bx1.out
    obtain ⟨fBg00, fBg01, fBg02, fBg03, fBg04, -⟩ := blk5 Bg0.out
    obtain ⟨fBh00, fBh01, fBh02, fBh03, fBh04, -⟩ := blk5 Bh0.out
    go_wp2_with fail
    clear fb00 fb01 fb02 fb03 fb04 fb10 fb11 fb12 fb13 fb14 fb15 fb16 fBw00 fBw01 fBw02 fBw03 fBw04 fBx00 fBx01 fBx02 fBx03 fBx04 fBx10 fBx11 fBx12 fBx13 fBx14 fBx15 fBx16 fBg00 fBg01 fBg02 fBg03 fBg04 fBh00 fBh01 fBh02 fBh03 fBh04
    apply calls_gen; intro W87 hW
    have hE : Below w86.heap.size w86 W87 := by rw [hW]; (repeat (first | with_reducible refine below_alloc ?_ _ | with_reducible refine below_drew ?_)); exact Below.refl _ _
    clear hW
    replace b0 := b0.dn hE
    replace eb0 := upE eb0 hE
    replace b1 := b1.dn hE
    replace eb1 := upE eb1 hE
    replace w0 := w0.ob hE
    replace ew0 := upE ew0 hE
    replace Bw0 := Bw0.dn hE
    replace eBw0 := upE eBw0 hE
    replace Bx0 := Bx0.dn hE
    replace eBx0 := upE eBx0 hE
    replace Bx1 := Bx1.dn hE
    replace eBx1 := upE eBx1 hE
    replace g0 := g0.ob hE
    replace eg0 := upE eg0 hE
    replace Bg0 := Bg0.dn hE
    replace eBg0 := upE eBg0 hE
    replace h0 := h0.ob hE
    replace eh0 := upE eh0 hE
    replace Bh0 := Bh0.dn hE
    replace eBh0 := upE eBh0 hE
    replace hB := hB.th hE
    clear hE
    refine (laws_heldJson y _ 1 _ ((tJ (m + 1)).O_K g0.out) (by omega) (by omega)).mono ?_
    rintro e w88 ⟨rfl, hX⟩
    replace b0 := b0.dn hX
    replace eb0 := upE eb0 hX
    replace b1 := b1.dn hX
    replace eb1 := upE eb1 hX
    replace w0 := w0.ob hX
    replace ew0 := upE ew0 hX
    replace Bw0 := Bw0.dn hX
    replace eBw0 := upE eBw0 hX
    replace Bx0 := Bx0.dn hX
    replace eBx0 := upE eBx0 hX
    replace Bx1 := Bx1.dn hX
    replace eBx1 := upE eBx1 hX
    replace g0 := g0.ob hX
    replace eg0 := upE eg0 hX
    replace Bg0 := Bg0.dn hX
    replace eBg0 := upE eBg0 hX
    replace h0 := h0.ob hX
    replace eh0 := upE eh0 hX
    replace Bh0 := Bh0.dn hX
    replace eBh0 := upE eBh0 hX
    replace hB := hB.th hX
    clear hX
    obtain ⟨fb00, fb01, fb02, fb03, fb04, -⟩ := blk5 b0.out
    obtain ⟨fb10, fb11, fb12, fb13, fb14, fb15, fb16, -⟩ := blk7 b1.out
    obtain ⟨fBw00, fBw01, fBw02, fBw03, fBw04, -⟩ := blk5 Bw0.out
    obtain ⟨fBx00, fBx01, fBx02, fBx03, fBx04, -⟩ := blk5 Bx0.out
    obtain ⟨fBx10, fBx11, fBx12, fBx13, fBx14, fBx15, fBx16, -⟩ := blk7 Bx1.out
    obtain ⟨fBg00, fBg01, fBg02, fBg03, fBg04, -⟩ := blk5 Bg0.out
    obtain ⟨fBh00, fBh01, fBh02, fBh03, fBh04, -⟩ := blk5 Bh0.out
    go_wp2_with fail
    clear fb00 fb01 fb02 fb03 fb04 fb10 fb11 fb12 fb13 fb14 fb15 fb16 fBw00 fBw01 fBw02 fBw03 fBw04 fBx00 fBx01 fBx02 fBx03 fBx04 fBx10 fBx11 fBx12 fBx13 fBx14 fBx15 fBx16 fBg00 fBg01 fBg02 fBg03 fBg04 fBh00 fBh01 fBh02 fBh03 fBh04
    go_ret
    exact ⟨rfl, hB.out⟩
   ·refine stepM_of rfl ?_ (by rfl)
    go_wp2_with fail
    refine ⟨cls_below (below_alloc hS.out _), ?_⟩
    refine genT ?_; intro W82 hW
    have hE : Below w81.heap.size w81 W82 := by rw [hW]; exact below_alloc (Below.refl _ _) _
    have Bh0 := Hd.mk (show Blk W82 w81.heap.size #[.int .i64 0, .int .i64 0, .string ⟨#[]⟩, .slice none 0 0, .slice none 0 0] 32 by rw [hW]; exact Blk.new _ _ _)
    have hz_ : w81.heap.size + 1 ≤ W82.heap.size := by rw [hW]; simp
    clear hW
    have db0_Bh0 := Hd.mk eb0.out
    have db1_Bh0 := Hd.mk eb1.out
    have dw0_Bh0 := Hd.mk ew0.out
    have dBw0_Bh0 := Hd.mk eBw0.out
    have dBx0_Bh0 := Hd.mk eBx0.out
    have dBx1_Bh0 := Hd.mk eBx1.out
    have dg0_Bh0 := Hd.mk eg0.out
    have dBg0_Bh0 := Hd.mk eBg0.out
    have dr0_Bh0 := Hd.mk er0.out
    have dr1_Bh0 := Hd.mk er1.out
    have aBh0 := Hd.mk hB.out.size
    replace b0 := b0.dn hE
    replace eb0 := upE eb0 hE
    replace b1 := b1.dn hE
    replace eb1 := upE eb1 hE
    replace w0 := w0.ob hE
    replace ew0 := upE ew0 hE
    replace Bw0 := Bw0.dn hE
    replace eBw0 := upE eBw0 hE
    replace Bx0 := Bx0.dn hE
    replace eBx0 := upE eBx0 hE
    replace Bx1 := Bx1.dn hE
    replace eBx1 := upE eBx1 hE
    replace g0 := g0.ob hE
    replace eg0 := upE eg0 hE
    replace Bg0 := Bg0.dn hE
    replace eBg0 := upE eBg0 hE
    replace r0 := r0.ob hE
    replace er0 := upE er0 hE
    replace r1 := r1.ob hE
    replace er1 := upE er1 hE
    replace hB := hB.th hE
    replace hS := Hd.mk (below_then hS.out hE)
    have eBh0 := Hd.mk hz_; clear hz_ hE
    refine mixT_b rfl ?_ (by rfl)
    go_wp2_with fail
    apply calls_gen; intro W83 hW
    have hE : Below W82.heap.size W82 W83 := by rw [hW]; (repeat (first | with_reducible refine below_alloc ?_ _ | with_reducible refine below_drew ?_)); exact Below.refl _ _
    clear hW
    replace b0 := b0.dn hE
    replace eb0 := upE eb0 hE
    replace b1 := b1.dn hE
    replace eb1 := upE eb1 hE
    replace w0 := w0.ob hE
    replace ew0 := upE ew0 hE
    replace Bw0 := Bw0.dn hE
    replace eBw0 := upE eBw0 hE
    replace Bx0 := Bx0.dn hE
    replace eBx0 := upE eBx0 hE
    replace Bx1 := Bx1.dn hE
    replace eBx1 := upE eBx1 hE
    replace g0 := g0.ob hE
    replace eg0 := upE eg0 hE
    replace Bg0 := Bg0.dn hE
    replace eBg0 := upE eBg0 hE
    replace r0 := r0.ob hE
    replace er0 := upE er0 hE
    replace r1 := r1.ob hE
    replace er1 := upE er1 hE
    replace Bh0 := Bh0.dn hE
    replace eBh0 := upE eBh0 hE
    replace hB := hB.th hE
    replace hS := Hd.mk (below_then hS.out hE)
    clear hE
    refine (impl_PatchM (B := m) H6.out j _ o _ _ ((tJ (m + 1)).O_K r0.out) ((tOp (m + 1)).O_K r1.out) (hT.out.below hB.out) (hE.out.below hB.out)).mono ?_
    rintro e w84 ⟨cs_, rfl, hO, hX⟩
    have db0_h0 := Hd.mk eb0.out
    have db1_h0 := Hd.mk eb1.out
    have dw0_h0 := Hd.mk ew0.out
    have dBw0_h0 := Hd.mk eBw0.out
    have dBx0_h0 := Hd.mk eBx0.out
    have dBx1_h0 := Hd.mk eBx1.out
    have dg0_h0 := Hd.mk eg0.out
    have dBg0_h0 := Hd.mk eBg0.out
    have dr0_h0 := Hd.mk er0.out
    have dr1_h0 := Hd.mk er1.out
    have dBh0_h0 := Hd.mk eBh0.out
    have ah0 := Hd.mk hB.out.size
    replace b0 := b0.dn hX
    replace eb0 := upE eb0 hX
    replace b1 := b1.dn hX
    replace eb1 := upE eb1 hX
    replace w0 := w0.ob hX
    replace ew0 := upE ew0 hX
    replace Bw0 := Bw0.dn hX
    replace eBw0 := upE eBw0 hX
    replace Bx0 := Bx0.dn hX
    replace eBx0 := upE eBx0 hX
    replace Bx1 := Bx1.dn hX
    replace eBx1 := upE eBx1 hX
    replace g0 := g0.ob hX
    replace eg0 := upE eg0 hX
    replace Bg0 := Bg0.dn hX
    replace eBg0 := upE eBg0 hX
    replace r0 := r0.ob hX
    replace er0 := upE er0 hX
    replace r1 := r1.ob hX
    replace er1 := upE er1 hX
    replace Bh0 := Bh0.dn hX
    replace eBh0 := upE eBh0 hX
    replace hB := hB.th hX
    replace hS := Hd.mk (below_then hS.out hX)
    clear hX
    rw [← Hy.out] at hO
    rw [← Hyb.out]
    replace hO := Ty.O_bound _ hO
    obtain ⟨v_, u_, _, _, hcs, _, r1, r2, _⟩ := tJ_O.1 hO
    subst hcs
    obtain ⟨Ah0, ch0, hv_, hch0, _⟩ := R_C r1
    subst hv_
    clear r1
    obtain ⟨Ah0B, ch0B, hv_, hch0B, _⟩ := R_C r2
    subst hv_
    clear r2
    have h0 := Hd.mk (show (tJ (m + 1)).O w84 (rng W83.heap.size w84.heap.size) y [Value.int IntKind.i64 y.kind, .int .i64 y.n, .string y.s, .slice Ah0 y.list.length ch0, .slice Ah0B y.names.length ch0B] from hO); clear hO
    have eh0 := Hd.mk (Nat.le_refl w84.heap.size)
    go_wp2_with fail
    refine ⟨cls_below hS.out, ?_⟩
    iterate 3 (refine mixT_p rfl ?_; go_big_quiet_want; go_big_quiet_op; go_big_quiet_on; refine wpQuiet_nil ?_)
    refine mixT_fin ?_
    clear hS
    clear fb00 fb01 fb02 fb03 fb04 fb10 fb11 fb12 fb13 fb14 fb15 fb16 fBw00 fBw01 fBw02 fBw03 fBw04 fBx00 fBx01 fBx02 fBx03 fBx04 fBx10 fBx11 fBx12 fBx13 fBx14 fBx15 fBx16 fBg00 fBg01 fBg02 fBg03 fBg04 rfb00 rfb01 rfb02 rfb03 rfb04 rfb10 rfb11 rfb12 rfb13 rfb14 rfb15 rfb16 rfBw00 rfBw01 rfBw02 rfBw03 rfBw04 rfBx00 rfBx01 rfBx02 rfBx03 rfBx04 rfBx10 rfBx11 rfBx12 rfBx13 rfBx14 rfBx15 rfBx16 rfBg00 rfBg01 rfBg02 rfBg03 rfBg04
    obtain ⟨fb00, fb01, fb02, fb03, fb04, -⟩ := blk5 b0.out
    obtain ⟨fb10, fb11, fb12, fb13, fb14, fb15, fb16, -⟩ := blk7 b1.out
    obtain ⟨fBw00, fBw01, fBw02, fBw03, fBw04, -⟩ := blk5 Bw0.out
    obtain ⟨fBx00, fBx01, fBx02, fBx03, fBx04, -⟩ := blk5 Bx0.out
    obtain ⟨fBx10, fBx11, fBx12, fBx13, fBx14, fBx15, fBx16, -⟩ := blk7 Bx1.out
    obtain ⟨fBg00, fBg01, fBg02, fBg03, fBg04, -⟩ := blk5 Bg0.out
    obtain ⟨fBh00, fBh01, fBh02, fBh03, fBh04, -⟩ := blk5 Bh0.out
    have fz_ := Bh0.out.frozen
    refine tail_b rfl ?_ (by rfl)
    go_wp2_with fail
    refine mixQ_n ?_
    refine tail_b rfl ?_ (by rfl)
    go_wp2_with fail
    refine mixQ_n ?_
    refine tail_nil ?_
    refine exit_gen ?_; intro W hW
    clear fz_
    clear fb00 fb01 fb02 fb03 fb04 fb10 fb11 fb12 fb13 fb14 fb15 fb16 fBw00 fBw01 fBw02 fBw03 fBw04 fBx00 fBx01 fBx02 fBx03 fBx04 fBx10 fBx11 fBx12 fBx13 fBx14 fBx15 fBx16 fBg00 fBg01 fBg02 fBg03 fBg04 fBh00 fBh01 fBh02 fBh03 fBh04
    have eF : Fr w84 W (fun k => k = w81.heap.size) := by rw [hW]; (repeat (first | with_reducible refine Fr.setCell (S := fun k => k = w81.heap.size) ?_ _ (fun _ => rfl) _)); exact Fr.refl _ _
    have hsz_ := eF.size
    replace b0 := Hd.mk (b0.out.fr eF (fun h => by have := db0_Bh0.out; (try simp only at h); omega))
    replace eb0 := Hd.mk (Nat.le_trans eb0.out hsz_)
    replace b1 := Hd.mk (b1.out.fr eF (fun h => by have := db1_Bh0.out; (try simp only at h); omega))
    replace eb1 := Hd.mk (Nat.le_trans eb1.out hsz_)
    replace w0 := Hd.mk (Ty.O_fr w0.out eF (fun k hk hl h => by have := dw0_Bh0.out; have h1 := hk.1; have h2 := hk.2; (try simp only at h); omega))
    replace ew0 := Hd.mk (Nat.le_trans ew0.out hsz_)
    replace Bw0 := Hd.mk (Bw0.out.fr eF (fun h => by have := dBw0_Bh0.out; (try simp only at h); omega))
    replace eBw0 := Hd.mk (Nat.le_trans eBw0.out hsz_)
    replace Bx0 := Hd.mk (Bx0.out.fr eF (fun h => by have := dBx0_Bh0.out; (try simp only at h); omega))
    replace eBx0 := Hd.mk (Nat.le_trans eBx0.out hsz_)
    replace Bx1 := Hd.mk (Bx1.out.fr eF (fun h => by have := dBx1_Bh0.out; (try simp only at h); omega))
    replace eBx1 := Hd.mk (Nat.le_trans eBx1.out hsz_)
    replace g0 := Hd.mk (Ty.O_fr g0.out eF (fun k hk hl h => by have := dg0_Bh0.out; have h1 := hk.1; have h2 := hk.2; (try simp only at h); omega))
    replace eg0 := Hd.mk (Nat.le_trans eg0.out hsz_)
    replace Bg0 := Hd.mk (Bg0.out.fr eF (fun h => by have := dBg0_Bh0.out; (try simp only at h); omega))
    replace eBg0 := Hd.mk (Nat.le_trans eBg0.out hsz_)
    replace r0 := Hd.mk (Ty.O_fr r0.out eF (fun k hk hl h => by have := dr0_Bh0.out; have h1 := hk.1; have h2 := hk.2; (try simp only at h); omega))
    replace er0 := Hd.mk (Nat.le_trans er0.out hsz_)
    replace r1 := Hd.mk (Ty.O_fr r1.out eF (fun k hk hl h => by have := dr1_Bh0.out; have h1 := hk.1; have h2 := hk.2; (try simp only at h); omega))
    replace er1 := Hd.mk (Nat.le_trans er1.out hsz_)
    replace h0 := Hd.mk (Ty.O_fr h0.out eF (fun k hk hl h => by have := dBh0_h0.out; have h1 := hk.1; have h2 := hk.2; (try simp only at h); omega))
    replace eh0 := Hd.mk (Nat.le_trans eh0.out hsz_)
    replace Bh0 := Hd.mk (show Blk W (w81.heap.size) #[.int .i64 y.kind, .int .i64 y.n, .string y.s, .slice Ah0 y.list.length ch0, .slice Ah0B y.names.length ch0B] 32 by rw [hW]; exact (((((Bh0.out.set 0 (Value.int IntKind.i64 y.kind)).set 1 (Value.int IntKind.i64 y.n)).set 2 (Value.string y.s)).set 3 (Value.slice Ah0 y.list.length ch0)).set 4 (Value.slice Ah0B y.names.length ch0B)))
    replace eBh0 := Hd.mk (Nat.le_trans eBh0.out hsz_)
    replace hB := Hd.mk (((Fr.of_below hB.out (fun k => k = w81.heap.size)).then_ eF (fun k h _ => h)).below (fun k h => by have := aBh0.out; (try simp only at h); omega))
    clear hW eF hsz_
    clear r0 er0
    clear r1 er1
    obtain ⟨fb00, fb01, fb02, fb03, fb04, -⟩ := blk5 b0.out
    obtain ⟨fb10, fb11, fb12, fb13, fb14, fb15, fb16, -⟩ := blk7 b1.out
    obtain ⟨fBw00, fBw01, fBw02, fBw03, fBw04, -⟩ := blk5 Bw0.out
    obtain ⟨fBx00, fBx01, fBx02, fBx03, fBx04, -⟩ := blk5 Bx0.out
    obtain ⟨fBx10, fBx11, fBx12, fBx13, fBx14, fBx15, fBx16, -⟩ := blk7 Bx1.out
    obtain ⟨fBg00, fBg01, fBg02, fBg03, fBg04, -⟩ := blk5 Bg0.out
    obtain ⟨fBh00, fBh01, fBh02, fBh03, fBh04, -⟩ := blk5 Bh0.out
    go_wp2_with fail
    clear fb00 fb01 fb02 fb03 fb04 fb10 fb11 fb12 fb13 fb14 fb15 fb16 fBw00 fBw01 fBw02 fBw03 fBw04 fBx00 fBx01 fBx02 fBx03 fBx04 fBx10 fBx11 fBx12 fBx13 fBx14 fBx15 fBx16 fBg00 fBg01 fBg02 fBg03 fBg04 fBh00 fBh01 fBh02 fBh03 fBh04
    apply calls_gen; intro W85 hW
    have hE : Below W.heap.size W W85 := by rw [hW]; (repeat (first | with_reducible refine below_alloc ?_ _ | with_reducible refine below_drew ?_)); exact Below.refl _ _
    clear hW
    replace b0 := b0.dn hE
    replace eb0 := upE eb0 hE
    replace b1 := b1.dn hE
    replace eb1 := upE eb1 hE
    replace w0 := w0.ob hE
    replace ew0 := upE ew0 hE
    replace Bw0 := Bw0.dn hE
    replace eBw0 := upE eBw0 hE
    replace Bx0 := Bx0.dn hE
    replace eBx0 := upE eBx0 hE
    replace Bx1 := Bx1.dn hE
    replace eBx1 := upE eBx1 hE
    replace g0 := g0.ob hE
    replace eg0 := upE eg0 hE
    replace Bg0 := Bg0.dn hE
    replace eBg0 := upE eBg0 hE
    replace Bh0 := Bh0.dn hE
    replace eBh0 := upE eBh0 hE
    replace h0 := h0.ob hE
    replace eh0 := upE eh0 hE
    replace hB := hB.th hE
    clear hE
    refine (laws_eqJson y y _ _ _ ((tJ (m + 1)).O_K h0.out) ((tJ (m + 1)).O_K w0.out)).mono ?_
    rintro e w86 ⟨rfl, hX⟩
    replace b0 := b0.dn hX
    replace eb0 := upE eb0 hX
    replace b1 := b1.dn hX
    replace eb1 := upE eb1 hX
    replace w0 := w0.ob hX
    replace ew0 := upE ew0 hX
    replace Bw0 := Bw0.dn hX
    replace eBw0 := upE eBw0 hX
    replace Bx0 := Bx0.dn hX
    replace eBx0 := upE eBx0 hX
    replace Bx1 := Bx1.dn hX
    replace eBx1 := upE eBx1 hX
    replace g0 := g0.ob hX
    replace eg0 := upE eg0 hX
    replace Bg0 := Bg0.dn hX
    replace eBg0 := upE eBg0 hX
    replace Bh0 := Bh0.dn hX
    replace eBh0 := upE eBh0 hX
    replace h0 := h0.ob hX
    replace eh0 := upE eh0 hX
    replace hB := hB.th hX
    clear hX
    rw [eqv_self]
    obtain ⟨fb00, fb01, fb02, fb03, fb04, -⟩ := blk5 b0.out
    obtain ⟨fb10, fb11, fb12, fb13, fb14, fb15, fb16, -⟩ := blk7 b1.out
    obtain ⟨fBw00, fBw01, fBw02, fBw03, fBw04, -⟩ := blk5 Bw0.out
    obtain ⟨fBx00, fBx01, fBx02, fBx03, fBx04, -⟩ := blk5 Bx0.out
    obtain ⟨fBx10, fBx11, fBx12, fBx13, fBx14, fBx15, fBx16, -⟩ := blk7 Bx1.out
    obtain ⟨fBg00, fBg01, fBg02, fBg03, fBg04, -⟩ := blk5 Bg0.out
    obtain ⟨fBh00, fBh01, fBh02, fBh03, fBh04, -⟩ := blk5 Bh0.out
    go_wp2_with fail
    clear fb00 fb01 fb02 fb03 fb04 fb10 fb11 fb12 fb13 fb14 fb15 fb16 fBw00 fBw01 fBw02 fBw03 fBw04 fBx00 fBx01 fBx02 fBx03 fBx04 fBx10 fBx11 fBx12 fBx13 fBx14 fBx15 fBx16 fBg00 fBg01 fBg02 fBg03 fBg04 fBh00 fBh01 fBh02 fBh03 fBh04
    apply calls_gen; intro W87 hW
    have hE : Below w86.heap.size w86 W87 := by rw [hW]; (repeat (first | with_reducible refine below_alloc ?_ _ | with_reducible refine below_drew ?_)); exact Below.refl _ _
    clear hW
    replace b0 := b0.dn hE
    replace eb0 := upE eb0 hE
    replace b1 := b1.dn hE
    replace eb1 := upE eb1 hE
    replace w0 := w0.ob hE
    replace ew0 := upE ew0 hE
    replace Bw0 := Bw0.dn hE
    replace eBw0 := upE eBw0 hE
    replace Bx0 := Bx0.dn hE
    replace eBx0 := upE eBx0 hE
    replace Bx1 := Bx1.dn hE
    replace eBx1 := upE eBx1 hE
    replace g0 := g0.ob hE
    replace eg0 := upE eg0 hE
    replace Bg0 := Bg0.dn hE
    replace eBg0 := upE eBg0 hE
    replace Bh0 := Bh0.dn hE
    replace eBh0 := upE eBh0 hE
    replace h0 := h0.ob hE
    replace eh0 := upE eh0 hE
    replace hB := hB.th hE
    clear hE
    refine (laws_heldJson y _ 1 _ ((tJ (m + 1)).O_K g0.out) (by omega) (by omega)).mono ?_
    rintro e w88 ⟨rfl, hX⟩
    replace b0 := b0.dn hX
    replace eb0 := upE eb0 hX
    replace b1 := b1.dn hX
    replace eb1 := upE eb1 hX
    replace w0 := w0.ob hX
    replace ew0 := upE ew0 hX
    replace Bw0 := Bw0.dn hX
    replace eBw0 := upE eBw0 hX
    replace Bx0 := Bx0.dn hX
    replace eBx0 := upE eBx0 hX
    replace Bx1 := Bx1.dn hX
    replace eBx1 := upE eBx1 hX
    replace g0 := g0.ob hX
    replace eg0 := upE eg0 hX
    replace Bg0 := Bg0.dn hX
    replace eBg0 := upE eBg0 hX
    replace Bh0 := Bh0.dn hX
    replace eBh0 := upE eBh0 hX
    replace h0 := h0.ob hX
    replace eh0 := upE eh0 hX
    replace hB := hB.th hX
    clear hX
    obtain ⟨fb00, fb01, fb02, fb03, fb04, -⟩ := blk5 b0.out
    obtain ⟨fb10, fb11, fb12, fb13, fb14, fb15, fb16, -⟩ := blk7 b1.out
    obtain ⟨fBw00, fBw01, fBw02, fBw03, fBw04, -⟩ := blk5 Bw0.out
    obtain ⟨fBx00, fBx01, fBx02, fBx03, fBx04, -⟩ := blk5 Bx0.out
    obtain ⟨fBx10, fBx11, fBx12, fBx13, fBx14, fBx15, fBx16, -⟩ := blk7 Bx1.out
    obtain ⟨fBg00, fBg01, fBg02, fBg03, fBg04, -⟩ := blk5 Bg0.out
    obtain ⟨fBh00, fBh01, fBh02, fBh03, fBh04, -⟩ := blk5 Bh0.out
    go_wp2_with fail
    clear fb00 fb01 fb02 fb03 fb04 fb10 fb11 fb12 fb13 fb14 fb15 fb16 fBw00 fBw01 fBw02 fBw03 fBw04 fBx00 fBx01 fBx02 fBx03 fBx04 fBx10 fBx11 fBx12 fBx13 fBx14 fBx15 fBx16 fBg00 fBg01 fBg02 fBg03 fBg04 fBh00 fBh01 fBh02 fBh03 fBh04
    go_ret
    exact ⟨rfl, hB.out⟩
  ·refine stepM_of rfl ?_ (by rfl)
   go_wp2_with fail
   refine ⟨cls_below (below_alloc hS.out _), ?_⟩
   refine genT ?_; intro W80 hW
   have hE : Below w79.heap.size w79 W80 := by rw [hW]; exact below_alloc (Below.refl _ _) _
   have Bh0 := Hd.mk (show Blk W80 w79.heap.size #[.int .i64 0, .int .i64 0, .string ⟨#[]⟩, .slice none 0 0, .slice none 0 0] 32 by rw [hW]; exact Blk.new _ _ _)
   have hz_ : w79.heap.size + 1 ≤ W80.heap.size := by rw [hW]; simp
   clear hW
   have db0_Bh0 := Hd.mk eb0.out
   have db1_Bh0 := Hd.mk eb1.out
   have dw0_Bh0 := Hd.mk ew0.out
   have dBw0_Bh0 := Hd.mk eBw0.out
   have dBx0_Bh0 := Hd.mk eBx0.out
   have dBx1_Bh0 := Hd.mk eBx1.out
   have dg0_Bh0 := Hd.mk eg0.out
   have dBg0_Bh0 := Hd.mk eBg0.out
   have dr0_Bh0 := Hd.mk er0.out
   have aBh0 := Hd.mk hB.out.size
   replace b0 := b0.dn hE
   replace eb0 := upE eb0 hE
   replace b1 := b1.dn hE
   replace eb1 := upE eb1 hE
   replace w0 := w0.ob hE
   replace ew0 := upE ew0 hE
   replace Bw0 := Bw0.dn hE
   replace eBw0 := upE eBw0 hE
   replace Bx0 := Bx0.dn hE
   replace eBx0 := upE eBx0 hE
   replace Bx1 := Bx1.dn hE
   replace eBx1 := upE eBx1 hE
   replace g0 := g0.ob hE
   replace eg0 := upE eg0 hE
   replace Bg0 := Bg0.dn hE
   replace eBg0 := upE eBg0 hE
   replace r0 := r0.ob hE
   replace er0 := upE er0 hE
   replace hB := hB.th hE
   replace hS := Hd.mk (below_then hS.out hE)
   have eBh0 := Hd.mk hz_; clear hz_ hE
   refine mixT_b rfl ?_ (by rfl)
   go_wp2_with fail
   apply calls_gen; intro W81 hW
   have hE : Below W80.heap.size W80 W81 := by rw [hW]; (repeat (first | with_reducible refine below_alloc ?_ _ | with_reducible refine below_drew ?_)); exact Below.refl _ _
   clear hW
   replace b0 := b0.dn hE
   replace eb0 := upE eb0 hE
   replace b1 := b1.dn hE
   replace eb1 := upE eb1 hE
   replace w0 := w0.ob hE
   replace ew0 := upE ew0 hE
   replace Bw0 := Bw0.dn hE
   replace eBw0 := upE eBw0 hE
   replace Bx0 := Bx0.dn hE
   replace eBx0 := upE eBx0 hE
   replace Bx1 := Bx1.dn hE
   replace eBx1 := upE eBx1 hE
   replace g0 := g0.ob hE
   replace eg0 := upE eg0 hE
   replace Bg0 := Bg0.dn hE
   replace eBg0 := upE eBg0 hE
   replace r0 := r0.ob hE
   replace er0 := upE er0 hE
   replace Bh0 := Bh0.dn hE
   replace eBh0 := upE eBh0 hE
   replace hB := hB.th hE
   replace hS := Hd.mk (below_then hS.out hE)
   clear hE
   refine (laws_toOp o _ _ ((tOp (m + 1)).K_below hB.out hK1.out) HL1.out.1).mono ?_
   rintro e w82 ⟨cs_, rfl, hO, hX⟩
   have db0_r1 := Hd.mk eb0.out
   have db1_r1 := Hd.mk eb1.out
   have dw0_r1 := Hd.mk ew0.out
   have dBw0_r1 := Hd.mk eBw0.out
   have dBx0_r1 := Hd.mk eBx0.out
   have dBx1_r1 := Hd.mk eBx1.out
   have dg0_r1 := Hd.mk eg0.out
   have dBg0_r1 := Hd.mk eBg0.out
   have dr0_r1 := Hd.mk er0.out
   have dBh0_r1 := Hd.mk eBh0.out
   have ar1 := Hd.mk hB.out.size
   replace b0 := b0.dn hX
   replace eb0 := upE eb0 hX
   replace b1 := b1.dn hX
   replace eb1 := upE eb1 hX
   replace w0 := w0.ob hX
   replace ew0 := upE ew0 hX
   replace Bw0 := Bw0.dn hX
   replace eBw0 := upE eBw0 hX
   replace Bx0 := Bx0.dn hX
   replace eBx0 := upE eBx0 hX
   replace Bx1 := Bx1.dn hX
   replace eBx1 := upE eBx1 hX
   replace g0 := g0.ob hX
   replace eg0 := upE eg0 hX
   replace Bg0 := Bg0.dn hX
   replace eBg0 := upE eBg0 hX
   replace r0 := r0.ob hX
   replace er0 := upE er0 hX
   replace Bh0 := Bh0.dn hX
   replace eBh0 := upE eBh0 hX
   replace hB := hB.th hX
   replace hS := Hd.mk (below_then hS.out hX)
   clear hX
   replace hO := Ty.O_bound _ hO
   obtain ⟨v_, c1_, _, _, hcs, r1, rj_, _⟩ := tOp_O.1 hO
   obtain ⟨Ar1w, cr1w, hv_, hcr1w, _⟩ := R_C r1
   subst hv_
   clear r1
   obtain ⟨v_, u_, _, _, hcs2, _, r1, r2, _⟩ := tJ_O.1 rj_
   clear rj_
   subst hcs2
   subst hcs
   obtain ⟨Ar1, cr1, hv_, hcr1, _⟩ := R_C r1
   subst hv_
   clear r1
   obtain ⟨Ar1B, cr1B, hv_, hcr1B, _⟩ := R_C r2
   subst hv_
   clear r2
   have r1 := Hd.mk (show (tOp (m + 1)).O w82 (rng W81.heap.size w82.heap.size) o [Value.int IntKind.i64 o.kind, .slice Ar1w o.way.length cr1w, .int .i64 o.value.kind, .int .i64 o.value.n, .string o.value.s, .slice Ar1 o.value.list.length cr1, .slice Ar1B o.value.names.length cr1B] from hO); clear hO
   have er1 := Hd.mk (Nat.le_refl w82.heap.size)
   go_wp2_with fail
   refine ⟨cls_below hS.out, ?_⟩
   refine mixT_b rfl ?_ (by rfl)
   go_wp2_with fail
   apply calls_gen; intro W83 hW
   have hE : Below w82.heap.size w82 W83 := by rw [hW]; (repeat (first | with_reducible refine below_alloc ?_ _ | with_reducible refine below_drew ?_)); exact Below.refl _ _
   clear hW
   replace b0 := b0.dn hE
   replace eb0 := upE eb0 hE
   replace b1 := b1.dn hE
   replace eb1 := upE eb1 hE
   replace w0 := w0.ob hE
   replace ew0 := upE ew0 hE
   replace Bw0 := Bw0.dn hE
   replace eBw0 := upE eBw0 hE
   replace Bx0 := Bx0.dn hE
   replace eBx0 := upE eBx0 hE
   replace Bx1 := Bx1.dn hE
   replace eBx1 := upE eBx1 hE
   replace g0 := g0.ob hE
   replace eg0 := upE eg0 hE
   replace Bg0 := Bg0.dn hE
   replace eBg0 := upE eBg0 hE
   replace r0 := r0.ob hE
   replace er0 := upE er0 hE
   replace Bh0 := Bh0.dn hE
   replace eBh0 := upE eBh0 hE
   replace r1 := r1.ob hE
   replace er1 := upE er1 hE
   replace hB := hB.th hE
   replace hS := Hd.mk (below_then hS.out hE)
   clear hE
   refine (impl_PatchM (B := m) H6.out j _ o _ _ ((tJ (m + 1)).O_K r0.out) ((tOp (m + 1)).O_K r1.out) (hT.out.below hB.out) (hE.out.below hB.out)).mono ?_
   rintro e w84 ⟨cs_, rfl, hO, hX⟩
   have db0_h0 := Hd.mk eb0.out
   have db1_h0 := Hd.mk eb1.out
   have dw0_h0 := Hd.mk ew0.out
   have dBw0_h0 := Hd.mk eBw0.out
   have dBx0_h0 := Hd.mk eBx0.out
   have dBx1_h0 := Hd.mk eBx1.out
   have dg0_h0 := Hd.mk eg0.out
   have dBg0_h0 := Hd.mk eBg0.out
   have dr0_h0 := Hd.mk er0.out
   have dBh0_h0 := Hd.mk eBh0.out
   have dr1_h0 := Hd.mk er1.out
   have ah0 := Hd.mk hB.out.size
   replace b0 := b0.dn hX
   replace eb0 := upE eb0 hX
   replace b1 := b1.dn hX
   replace eb1 := upE eb1 hX
   replace w0 := w0.ob hX
   replace ew0 := upE ew0 hX
   replace Bw0 := Bw0.dn hX
   replace eBw0 := upE eBw0 hX
   replace Bx0 := Bx0.dn hX
   replace eBx0 := upE eBx0 hX
   replace Bx1 := Bx1.dn hX
   replace eBx1 := upE eBx1 hX
   replace g0 := g0.ob hX
   replace eg0 := upE eg0 hX
   replace Bg0 := Bg0.dn hX
   replace eBg0 := upE eBg0 hX
   replace r0 := r0.ob hX
   replace er0 := upE er0 hX
   replace Bh0 := Bh0.dn hX
   replace eBh0 := upE eBh0 hX
   replace r1 := r1.ob hX
   replace er1 := upE er1 hX
   replace hB := hB.th hX
   replace hS := Hd.mk (below_then hS.out hX)
   clear hX
   rw [← Hy.out] at hO
   rw [← Hyb.out]
   replace hO := Ty.O_bound _ hO
   obtain ⟨v_, u_, _, _, hcs, _, r1, r2, _⟩ := tJ_O.1 hO
   subst hcs
   obtain ⟨Ah0, ch0, hv_, hch0, _⟩ := R_C r1
   subst hv_
   clear r1
   obtain ⟨Ah0B, ch0B, hv_, hch0B, _⟩ := R_C r2
   subst hv_
   clear r2
   have h0 := Hd.mk (show (tJ (m + 1)).O w84 (rng W83.heap.size w84.heap.size) y [Value.int IntKind.i64 y.kind, .int .i64 y.n, .string y.s, .slice Ah0 y.list.length ch0, .slice Ah0B y.names.length ch0B] from hO); clear hO
   have eh0 := Hd.mk (Nat.le_refl w84.heap.size)
   go_wp2_with fail
   refine ⟨cls_below hS.out, ?_⟩
   iterate 3 (refine mixT_p rfl ?_; go_big_quiet_want; go_big_quiet_op; go_big_quiet_on; refine wpQuiet_nil ?_)
   refine mixT_fin ?_
   clear hS
   clear fb00 fb01 fb02 fb03 fb04 fb10 fb11 fb12 fb13 fb14 fb15 fb16 fBw00 fBw01 fBw02 fBw03 fBw04 fBx00 fBx01 fBx02 fBx03 fBx04 fBx10 fBx11 fBx12 fBx13 fBx14 fBx15 fBx16 fBg00 fBg01 fBg02 fBg03 fBg04 rfb00 rfb01 rfb02 rfb03 rfb04 rfb10 rfb11 rfb12 rfb13 rfb14 rfb15 rfb16 rfBw00 rfBw01 rfBw02 rfBw03 rfBw04 rfBx00 rfBx01 rfBx02 rfBx03 rfBx04 rfBx10 rfBx11 rfBx12 rfBx13 rfBx14 rfBx15 rfBx16 rfBg00 rfBg01 rfBg02 rfBg03 rfBg04
   obtain ⟨fb00, fb01, fb02, fb03, fb04, -⟩ := blk5 b0.out
   obtain ⟨fb10, fb11, fb12, fb13, fb14, fb15, fb16, -⟩ := blk7 b1.out
   obtain ⟨fBw00, fBw01, fBw02, fBw03, fBw04, -⟩ := blk5 Bw0.out
   obtain ⟨fBx00, fBx01, fBx02, fBx03, fBx04, -⟩ := blk5 Bx0.out
   obtain ⟨fBx10, fBx11, fBx12, fBx13, fBx14, fBx15, fBx16, -⟩ := blk7 Bx1.out
   obtain ⟨fBg00, fBg01, fBg02, fBg03, fBg04, -⟩ := blk5 Bg0.out
   obtain ⟨fBh00, fBh01, fBh02, fBh03, fBh04, -⟩ := blk5 Bh0.out
   have fz_ := Bh0.out.frozen
   refine tail_b rfl ?_ (by rfl)
   go_wp2_with fail
   refine mixQ_n ?_
   refine tail_b rfl ?_ (by rfl)
   go_wp2_with fail
   refine mixQ_n ?_
   refine tail_nil ?_
   refine exit_gen ?_; intro W hW
   clear fz_
   clear fb00 fb01 fb02 fb03 fb04 fb10 fb11 fb12 fb13 fb14 fb15 fb16 fBw00 fBw01 fBw02 fBw03 fBw04 fBx00 fBx01 fBx02 fBx03 fBx04 fBx10 fBx11 fBx12 fBx13 fBx14 fBx15 fBx16 fBg00 fBg01 fBg02 fBg03 fBg04 fBh00 fBh01 fBh02 fBh03 fBh04
   have eF : Fr w84 W (fun k => k = w79.heap.size) := by rw [hW]; (repeat (first | with_reducible refine Fr.setCell (S := fun k => k = w79.heap.size) ?_ _ (fun _ => rfl) _)); exact Fr.refl _ _
   have hsz_ := eF.size
   replace b0 := Hd.mk (b0.out.fr eF (fun h => by have := db0_Bh0.out; (try simp only at h); omega))
   replace eb0 := Hd.mk (Nat.le_trans eb0.out hsz_)
   replace b1 := Hd.mk (b1.out.fr eF (fun h => by have := db1_Bh0.out; (try simp only at h); omega))
   replace eb1 := Hd.mk (Nat.le_trans eb1.out hsz_)
   replace w0 := Hd.mk (Ty.O_fr w0.out eF (fun k hk hl h => by have := dw0_Bh0.out; have h1 := hk.1; have h2 := hk.2; (try simp only at h); omega))
   replace ew0 := Hd.mk (Nat.le_trans ew0.out hsz_)
   replace Bw0 := Hd.mk (Bw0.out.fr eF (fun h => by have := dBw0_Bh0.out; (try simp only at h); omega))
   replace eBw0 := Hd.mk (Nat.le_trans eBw0.out hsz_)
   replace Bx0 := Hd.mk (Bx0.out.fr eF (fun h => by have := dBx0_Bh0.out; (try simp only at h); omega))
   replace eBx0 := Hd.mk (Nat.le_trans eBx0.out hsz_)
   replace Bx1 := Hd.mk (Bx1.out.fr eF (fun h => by have := dBx1_Bh0.out; (try simp only at h); omega))
   replace eBx1 := Hd.mk (Nat.le_trans eBx1.out hsz_)
   replace g0 := Hd.mk (Ty.O_fr g0.out eF (fun k hk hl h => by have := dg0_Bh0.out; have h1 := hk.1; have h2 := hk.2; (try simp only at h); omega))
   replace eg0 := Hd.mk (Nat.le_trans eg0.out hsz_)
   replace Bg0 := Hd.mk (Bg0.out.fr eF (fun h => by have := dBg0_Bh0.out; (try simp only at h); omega))
   replace eBg0 := Hd.mk (Nat.le_trans eBg0.out hsz_)
   replace r0 := Hd.mk (Ty.O_fr r0.out eF (fun k hk hl h => by have := dr0_Bh0.out; have h1 := hk.1; have h2 := hk.2; (try simp only at h); omega))
   replace er0 := Hd.mk (Nat.le_trans er0.out hsz_)
   replace r1 := Hd.mk (Ty.O_fr r1.out eF (fun k hk hl h => by have := dBh0_r1.out; have h1 := hk.1; have h2 := hk.2; (try simp only at h); omega))
   replace er1 := Hd.mk (Nat.le_trans er1.out hsz_)
   replace h0 := Hd.mk (Ty.O_fr h0.out eF (fun k hk hl h => by have := dBh0_h0.out; have h1 := hk.1; have h2 := hk.2; (try simp only at h); omega))
   replace eh0 := Hd.mk (Nat.le_trans eh0.out hsz_)
   replace Bh0 := Hd.mk (show Blk W (w79.heap.size) #[.int .i64 y.kind, .int .i64 y.n, .string y.s, .slice Ah0 y.list.length ch0, .slice Ah0B y.names.length ch0B] 32 by rw [hW]; exact (((((Bh0.out.set 0 (Value.int IntKind.i64 y.kind)).set 1 (Value.int IntKind.i64 y.n)).set 2 (Value.string y.s)).set 3 (Value.slice Ah0 y.list.length ch0)).set 4 (Value.slice Ah0B y.names.length ch0B)))
   replace eBh0 := Hd.mk (Nat.le_trans eBh0.out hsz_)
   replace hB := Hd.mk (((Fr.of_below hB.out (fun k => k = w79.heap.size)).then_ eF (fun k h _ => h)).below (fun k h => by have := aBh0.out; (try simp only at h); omega))
   clear hW eF hsz_
   clear r0 er0
   clear r1 er1
   obtain ⟨fb00, fb01, fb02, fb03, fb04, -⟩ := blk5 b0.out
   obtain ⟨fb10, fb11, fb12, fb13, fb14, fb15, fb16, -⟩ := blk7 b1.out
   obtain ⟨fBw00, fBw01, fBw02, fBw03, fBw04, -⟩ := blk5 Bw0.out
   obtain ⟨fBx00, fBx01, fBx02, fBx03, fBx04, -⟩ := blk5 Bx0.out
   obtain ⟨fBx10, fBx11, fBx12, fBx13, fBx14, fBx15, fBx16, -⟩ := blk7 Bx1.out
   obtain ⟨fBg00, fBg01, fBg02, fBg03, fBg04, -⟩ := blk5 Bg0.out
   obtain ⟨fBh00, fBh01, fBh02, fBh03, fBh04, -⟩ := blk5 Bh0.out
   go_wp2_with fail
   clear fb00 fb01 fb02 fb03 fb04 fb10 fb11 fb12 fb13 fb14 fb15 fb16 fBw00 fBw01 fBw02 fBw03 fBw04 fBx00 fBx01 fBx02 fBx03 fBx04 fBx10 fBx11 fBx12 fBx13 fBx14 fBx15 fBx16 fBg00 fBg01 fBg02 fBg03 fBg04 fBh00 fBh01 fBh02 fBh03 fBh04
   apply calls_gen; intro W85 hW
   have hE : Below W.heap.size W W85 := by rw [hW]; (repeat (first | with_reducible refine below_alloc ?_ _ | with_reducible refine below_drew ?_)); exact Below.refl _ _
   clear hW
   replace b0 := b0.dn hE
   replace eb0 := upE eb0 hE
   replace b1 := b1.dn hE
   replace eb1 := upE eb1 hE
   replace w0 := w0.ob hE
   replace ew0 := upE ew0 hE
   replace Bw0 := Bw0.dn hE
   replace eBw0 := upE eBw0 hE
   replace Bx0 := Bx0.dn hE
   replace eBx0 := upE eBx0 hE
   replace Bx1 := Bx1.dn hE
   replace eBx1 := upE eBx1 hE
   replace g0 := g0.ob hE
   replace eg0 := upE eg0 hE
   replace Bg0 := Bg0.dn hE
   replace eBg0 := upE eBg0 hE
   replace Bh0 := Bh0.dn hE
   replace eBh0 := upE eBh0 hE
   replace h0 := h0.ob hE
   replace eh0 := upE eh0 hE
   replace hB := hB.th hE
   clear hE
   refine (laws_eqJson y y _ _ _ ((tJ (m + 1)).O_K h0.out) ((tJ (m + 1)).O_K w0.out)).mono ?_
   rintro e w86 ⟨rfl, hX⟩
   replace b0 := b0.dn hX
   replace eb0 := upE eb0 hX
   replace b1 := b1.dn hX
   replace eb1 := upE eb1 hX
   replace w0 := w0.ob hX
   replace ew0 := upE ew0 hX
   replace Bw0 := Bw0.dn hX
   replace eBw0 := upE eBw0 hX
   replace Bx0 := Bx0.dn hX
   replace eBx0 := upE eBx0 hX
   replace Bx1 := Bx1.dn hX
   replace eBx1 := upE eBx1 hX
   replace g0 := g0.ob hX
   replace eg0 := upE eg0 hX
   replace Bg0 := Bg0.dn hX
   replace eBg0 := upE eBg0 hX
   replace Bh0 := Bh0.dn hX
   replace eBh0 := upE eBh0 hX
   replace h0 := h0.ob hX
   replace eh0 := upE eh0 hX
   replace hB := hB.th hX
   clear hX
   rw [eqv_self]
   obtain ⟨fb00, fb01, fb02, fb03, fb04, -⟩ := blk5 b0.out
   obtain ⟨fb10, fb11, fb12, fb13, fb14, fb15, fb16, -⟩ := blk7 b1.out
   obtain ⟨fBw00, fBw01, fBw02, fBw03, fBw04, -⟩ := blk5 Bw0.out
   obtain ⟨fBx00, fBx01, fBx02, fBx03, fBx04, -⟩ := blk5 Bx0.out
   obtain ⟨fBx10, fBx11, fBx12, fBx13, fBx14, fBx15, fBx16, -⟩ := blk7 Bx1.out
   obtain ⟨fBg00, fBg01, fBg02, fBg03, fBg04, -⟩ := blk5 Bg0.out
   obtain ⟨fBh00, fBh01, fBh02, fBh03, fBh04, -⟩ := blk5 Bh0.out
   go_wp2_with fail
   clear fb00 fb01 fb02 fb03 fb04 fb10 fb11 fb12 fb13 fb14 fb15 fb16 fBw00 fBw01 fBw02 fBw03 fBw04 fBx00 fBx01 fBx02 fBx03 fBx04 fBx10 fBx11 fBx12 fBx13 fBx14 fBx15 fBx16 fBg00 fBg01 fBg02 fBg03 fBg04 fBh00 fBh01 fBh02 fBh03 fBh04
   apply calls_gen; intro W87 hW
   have hE : Below w86.heap.size w86 W87 := by rw [hW]; (repeat (first | with_reducible refine below_alloc ?_ _ | with_reducible refine below_drew ?_)); exact Below.refl _ _
   clear hW
   replace b0 := b0.dn hE
   replace eb0 := upE eb0 hE
   replace b1 := b1.dn hE
   replace eb1 := upE eb1 hE
   replace w0 := w0.ob hE
   replace ew0 := upE ew0 hE
   replace Bw0 := Bw0.dn hE
   replace eBw0 := upE eBw0 hE
   replace Bx0 := Bx0.dn hE
   replace eBx0 := upE eBx0 hE
   replace Bx1 := Bx1.dn hE
   replace eBx1 := upE eBx1 hE
   replace g0 := g0.ob hE
   replace eg0 := upE eg0 hE
   replace Bg0 := Bg0.dn hE
   replace eBg0 := upE eBg0 hE
   replace Bh0 := Bh0.dn hE
   replace eBh0 := upE eBh0 hE
   replace h0 := h0.ob hE
   replace eh0 := upE eh0 hE
   replace hB := hB.th hE
   clear hE
   refine (laws_heldJson y _ 1 _ ((tJ (m + 1)).O_K g0.out) (by omega) (by omega)).mono ?_
   rintro e w88 ⟨rfl, hX⟩
   replace b0 := b0.dn hX
   replace eb0 := upE eb0 hX
   replace b1 := b1.dn hX
   replace eb1 := upE eb1 hX
   replace w0 := w0.ob hX
   replace ew0 := upE ew0 hX
   replace Bw0 := Bw0.dn hX
   replace eBw0 := upE eBw0 hX
   replace Bx0 := Bx0.dn hX
   replace eBx0 := upE eBx0 hX
   replace Bx1 := Bx1.dn hX
   replace eBx1 := upE eBx1 hX
   replace g0 := g0.ob hX
   replace eg0 := upE eg0 hX
   replace Bg0 := Bg0.dn hX
   replace eBg0 := upE eBg0 hX
   replace Bh0 := Bh0.dn hX
   replace eBh0 := upE eBh0 hX
   replace h0 := h0.ob hX
   replace eh0 := upE eh0 hX
   replace hB := hB.th hX
   clear hX
   obtain ⟨fb00, fb01, fb02, fb03, fb04, -⟩ := blk5 b0.out
   obtain ⟨fb10, fb11, fb12, fb13, fb14, fb15, fb16, -⟩ := blk7 b1.out
   obtain ⟨fBw00, fBw01, fBw02, fBw03, fBw04, -⟩ := blk5 Bw0.out
   obtain ⟨fBx00, fBx01, fBx02, fBx03, fBx04, -⟩ := blk5 Bx0.out
   obtain ⟨fBx10, fBx11, fBx12, fBx13, fBx14, fBx15, fBx16, -⟩ := blk7 Bx1.out
   obtain ⟨fBg00, fBg01, fBg02, fBg03, fBg04, -⟩ := blk5 Bg0.out
   obtain ⟨fBh00, fBh01, fBh02, fBh03, fBh04, -⟩ := blk5 Bh0.out
   go_wp2_with fail
   clear fb00 fb01 fb02 fb03 fb04 fb10 fb11 fb12 fb13 fb14 fb15 fb16 fBw00 fBw01 fBw02 fBw03 fBw04 fBx00 fBx01 fBx02 fBx03 fBx04 fBx10 fBx11 fBx12 fBx13 fBx14 fBx15 fBx16 fBg00 fBg01 fBg02 fBg03 fBg04 fBh00 fBh01 fBh02 fBh03 fBh04
   go_ret
   exact ⟨rfl, hB.out⟩
 ·refine stepM_of rfl ?_ (by rfl)
  go_wp2_with fail
  refine ⟨cls_below (below_alloc hS.out _), ?_⟩
  refine genT ?_; intro W78 hW
  have hE : Below W77.heap.size W77 W78 := by rw [hW]; exact below_alloc (Below.refl _ _) _
  have Bh0 := Hd.mk (show Blk W78 W77.heap.size #[.int .i64 0, .int .i64 0, .string ⟨#[]⟩, .slice none 0 0, .slice none 0 0] 32 by rw [hW]; exact Blk.new _ _ _)
  have hz_ : W77.heap.size + 1 ≤ W78.heap.size := by rw [hW]; simp
  clear hW
  have db0_Bh0 := Hd.mk eb0.out
  have db1_Bh0 := Hd.mk eb1.out
  have dw0_Bh0 := Hd.mk ew0.out
  have dBw0_Bh0 := Hd.mk eBw0.out
  have dBx0_Bh0 := Hd.mk eBx0.out
  have dBx1_Bh0 := Hd.mk eBx1.out
  have dg0_Bh0 := Hd.mk eg0.out
  have dBg0_Bh0 := Hd.mk eBg0.out
  have aBh0 := Hd.mk hB.out.size
  replace b0 := b0.dn hE
  replace eb0 := upE eb0 hE
  replace b1 := b1.dn hE
  replace eb1 := upE eb1 hE
  replace w0 := w0.ob hE
  replace ew0 := upE ew0 hE
  replace Bw0 := Bw0.dn hE
  replace eBw0 := upE eBw0 hE
  replace Bx0 := Bx0.dn hE
  replace eBx0 := upE eBx0 hE
  replace Bx1 := Bx1.dn hE
  replace eBx1 := upE eBx1 hE
  replace g0 := g0.ob hE
  replace eg0 := upE eg0 hE
  replace Bg0 := Bg0.dn hE
  replace eBg0 := upE eBg0 hE
  replace hB := hB.th hE
  replace hS := Hd.mk (below_then hS.out hE)
  have eBh0 := Hd.mk hz_; clear hz_ hE
  refine mixT_b rfl ?_ (by rfl)
  go_wp2_with fail
  apply calls_gen; intro W79 hW
  have hE : Below W78.heap.size W78 W79 := by rw [hW]; (repeat (first | with_reducible refine below_alloc ?_ _ | with_reducible refine below_drew ?_)); exact Below.refl _ _
  clear hW
  replace b0 := b0.dn hE
  replace eb0 := upE eb0 hE
  replace b1 := b1.dn hE
  replace eb1 := upE eb1 hE
  replace w0 := w0.ob hE
  replace ew0 := upE ew0 hE
  replace Bw0 := Bw0.dn hE
  replace eBw0 := upE eBw0 hE
  replace Bx0 := Bx0.dn hE
  replace eBx0 := upE eBx0 hE
  replace Bx1 := Bx1.dn hE
  replace eBx1 := upE eBx1 hE
  replace g0 := g0.ob hE
  replace eg0 := upE eg0 hE
  replace Bg0 := Bg0.dn hE
  replace eBg0 := upE eBg0 hE
  replace Bh0 := Bh0.dn hE
  replace eBh0 := upE eBh0 hE
  replace hB := hB.th hE
  replace hS := Hd.mk (below_then hS.out hE)
  clear hE
  refine (laws_toJson j _ _ ((tJ (m + 1)).K_below hB.out hK0.out) HL0.out.1).mono ?_
  rintro e w80 ⟨cs_, rfl, hO, hX⟩
  have db0_r0 := Hd.mk eb0.out
  have db1_r0 := Hd.mk eb1.out
  have dw0_r0 := Hd.mk ew0.out
  have dBw0_r0 := Hd.mk eBw0.out
  have dBx0_r0 := Hd.mk eBx0.out
  have dBx1_r0 := Hd.mk eBx1.out
  have dg0_r0 := Hd.mk eg0.out
  have dBg0_r0 := Hd.mk eBg0.out
  have dBh0_r0 := Hd.mk eBh0.out
  have ar0 := Hd.mk hB.out.size
  replace b0 := b0.dn hX
  replace eb0 := upE eb0 hX
  replace b1 := b1.dn hX
  replace eb1 := upE eb1 hX
  replace w0 := w0.ob hX
  replace ew0 := upE ew0 hX
  replace Bw0 := Bw0.dn hX
  replace eBw0 := upE eBw0 hX
  replace Bx0 := Bx0.dn hX
  replace eBx0 := upE eBx0 hX
  replace Bx1 := Bx1.dn hX
  replace eBx1 := upE eBx1 hX
  replace g0 := g0.ob hX
  replace eg0 := upE eg0 hX
  replace Bg0 := Bg0.dn hX
  replace eBg0 := upE eBg0 hX
  replace Bh0 := Bh0.dn hX
  replace eBh0 := upE eBh0 hX
  replace hB := hB.th hX
  replace hS := Hd.mk (below_then hS.out hX)
  clear hX
  replace hO := Ty.O_bound _ hO
  obtain ⟨v_, u_, _, _, hcs, _, r1, r2, _⟩ := tJ_O.1 hO
  subst hcs
  obtain ⟨Ar0, cr0, hv_, hcr0, _⟩ := R_C r1
  subst hv_
  clear r1
  obtain ⟨Ar0B, cr0B, hv_, hcr0B, _⟩ := R_C r2
  subst hv_
  clear r2
  have r0 := Hd.mk (show (tJ (m + 1)).O w80 (rng W79.heap.size w80.heap.size) j [Value.int IntKind.i64 j.kind, .int .i64 j.n, .string j.s, .slice Ar0 j.list.length cr0, .slice Ar0B j.names.length cr0B] from hO); clear hO
  have er0 := Hd.mk (Nat.le_refl w80.heap.size)
  go_wp2_with fail
  refine ⟨cls_below hS.out, ?_⟩
  refine mixT_b rfl ?_ (by rfl)
  go_wp2_with fail
  apply calls_gen; intro W81 hW
  have hE : Below w80.heap.size w80 W81 := by rw [hW]; (repeat (first | with_reducible refine below_alloc ?_ _ | with_reducible refine below_drew ?_)); exact Below.refl _ _
  clear hW
  replace b0 := b0.dn hE
  replace eb0 := upE eb0 hE
  replace b1 := b1.dn hE
  replace eb1 := upE eb1 hE
  replace w0 := w0.ob hE
  replace ew0 := upE ew0 hE
  replace Bw0 := Bw0.dn hE
  replace eBw0 := upE eBw0 hE
  replace Bx0 := Bx0.dn hE
  replace eBx0 := upE eBx0 hE
  replace Bx1 := Bx1.dn hE
  replace eBx1 := upE eBx1 hE
  replace g0 := g0.ob hE
  replace eg0 := upE eg0 hE
  replace Bg0 := Bg0.dn hE
  replace eBg0 := upE eBg0 hE
  replace Bh0 := Bh0.dn hE
  replace eBh0 := upE eBh0 hE
  replace r0 := r0.ob hE
  replace er0 := upE er0 hE
  replace hB := hB.th hE
  replace hS := Hd.mk (below_then hS.out hE)
  clear hE
  refine (laws_toOp o _ _ ((tOp (m + 1)).K_below hB.out hK1.out) HL1.out.1).mono ?_
  rintro e w82 ⟨cs_, rfl, hO, hX⟩
  have db0_r1 := Hd.mk eb0.out
  have db1_r1 := Hd.mk eb1.out
  have dw0_r1 := Hd.mk ew0.out
  have dBw0_r1 := Hd.mk eBw0.out
  have dBx0_r1 := Hd.mk eBx0.out
  have dBx1_r1 := Hd.mk eBx1.out
  have dg0_r1 := Hd.mk eg0.out
  have dBg0_r1 := Hd.mk eBg0.out
  have dBh0_r1 := Hd.mk eBh0.out
  have dr0_r1 := Hd.mk er0.out
  have ar1 := Hd.mk hB.out.size
  replace b0 := b0.dn hX
  replace eb0 := upE eb0 hX
  replace b1 := b1.dn hX
  replace eb1 := upE eb1 hX
  replace w0 := w0.ob hX
  replace ew0 := upE ew0 hX
  replace Bw0 := Bw0.dn hX
  replace eBw0 := upE eBw0 hX
  replace Bx0 := Bx0.dn hX
  replace eBx0 := upE eBx0 hX
  replace Bx1 := Bx1.dn hX
  replace eBx1 := upE eBx1 hX
  replace g0 := g0.ob hX
  replace eg0 := upE eg0 hX
  replace Bg0 := Bg0.dn hX
  replace eBg0 := upE eBg0 hX
  replace Bh0 := Bh0.dn hX
  replace eBh0 := upE eBh0 hX
  replace r0 := r0.ob hX
  replace er0 := upE er0 hX
  replace hB := hB.th hX
  replace hS := Hd.mk (below_then hS.out hX)
  clear hX
  replace hO := Ty.O_bound _ hO
  obtain ⟨v_, c1_, _, _, hcs, r1, rj_, _⟩ := tOp_O.1 hO
  obtain ⟨Ar1w, cr1w, hv_, hcr1w, _⟩ := R_C r1
  subst hv_
  clear r1
  obtain ⟨v_, u_, _, _, hcs2, _, r1, r2, _⟩ := tJ_O.1 rj_
  clear rj_
  subst hcs2
  subst hcs
  obtain ⟨Ar1, cr1, hv_, hcr1, _⟩ := R_C r1
  subst hv_
  clear r1
  obtain ⟨Ar1B, cr1B, hv_, hcr1B, _⟩ := R_C r2
  subst hv_
  clear r2
  have r1 := Hd.mk (show (tOp (m + 1)).O w82 (rng W81.heap.size w82.heap.size) o [Value.int IntKind.i64 o.kind, .slice Ar1w o.way.length cr1w, .int .i64 o.value.kind, .int .i64 o.value.n, .string o.value.s, .slice Ar1 o.value.list.length cr1, .slice Ar1B o.value.names.length cr1B] from hO); clear hO
  have er1 := Hd.mk (Nat.le_refl w82.heap.size)
  go_wp2_with fail
  refine ⟨cls_below hS.out, ?_⟩
  refine mixT_b rfl ?_ (by rfl)
  go_wp2_with fail
  apply calls_gen; intro W83 hW
  have hE : Below w82.heap.size w82 W83 := by rw [hW]; (repeat (first | with_reducible refine below_alloc ?_ _ | with_reducible refine below_drew ?_)); exact Below.refl _ _
  clear hW
  replace b0 := b0.dn hE
  replace eb0 := upE eb0 hE
  replace b1 := b1.dn hE
  replace eb1 := upE eb1 hE
  replace w0 := w0.ob hE
  replace ew0 := upE ew0 hE
  replace Bw0 := Bw0.dn hE
  replace eBw0 := upE eBw0 hE
  replace Bx0 := Bx0.dn hE
  replace eBx0 := upE eBx0 hE
  replace Bx1 := Bx1.dn hE
  replace eBx1 := upE eBx1 hE
  replace g0 := g0.ob hE
  replace eg0 := upE eg0 hE
  replace Bg0 := Bg0.dn hE
  replace eBg0 := upE eBg0 hE
  replace Bh0 := Bh0.dn hE
  replace eBh0 := upE eBh0 hE
  replace r0 := r0.ob hE
  replace er0 := upE er0 hE
  replace r1 := r1.ob hE
  replace er1 := upE er1 hE
  replace hB := hB.th hE
  replace hS := Hd.mk (below_then hS.out hE)
  clear hE
  refine (impl_PatchM (B := m) H6.out j _ o _ _ ((tJ (m + 1)).O_K r0.out) ((tOp (m + 1)).O_K r1.out) (hT.out.below hB.out) (hE.out.below hB.out)).mono ?_
  rintro e w84 ⟨cs_, rfl, hO, hX⟩
  have db0_h0 := Hd.mk eb0.out
  have db1_h0 := Hd.mk eb1.out
  have dw0_h0 := Hd.mk ew0.out
  have dBw0_h0 := Hd.mk eBw0.out
  have dBx0_h0 := Hd.mk eBx0.out
  have dBx1_h0 := Hd.mk eBx1.out
  have dg0_h0 := Hd.mk eg0.out
  have dBg0_h0 := Hd.mk eBg0.out
  have dBh0_h0 := Hd.mk eBh0.out
  have dr0_h0 := Hd.mk er0.out
  have dr1_h0 := Hd.mk er1.out
  have ah0 := Hd.mk hB.out.size
  replace b0 := b0.dn hX
  replace eb0 := upE eb0 hX
  replace b1 := b1.dn hX
  replace eb1 := upE eb1 hX
  replace w0 := w0.ob hX
  replace ew0 := upE ew0 hX
  replace Bw0 := Bw0.dn hX
  replace eBw0 := upE eBw0 hX
  replace Bx0 := Bx0.dn hX
  replace eBx0 := upE eBx0 hX
  replace Bx1 := Bx1.dn hX
  replace eBx1 := upE eBx1 hX
  replace g0 := g0.ob hX
  replace eg0 := upE eg0 hX
  replace Bg0 := Bg0.dn hX
  replace eBg0 := upE eBg0 hX
  replace Bh0 := Bh0.dn hX
  replace eBh0 := upE eBh0 hX
  replace r0 := r0.ob hX
  replace er0 := upE er0 hX
  replace r1 := r1.ob hX
  replace er1 := upE er1 hX
  replace hB := hB.th hX
  replace hS := Hd.mk (below_then hS.out hX)
  clear hX
  rw [← Hy.out] at hO
  rw [← Hyb.out]
  replace hO := Ty.O_bound _ hO
  obtain ⟨v_, u_, _, _, hcs, _, r1, r2, _⟩ := tJ_O.1 hO
  subst hcs
  obtain ⟨Ah0, ch0, hv_, hch0, _⟩ := R_C r1
  subst hv_
  clear r1
  obtain ⟨Ah0B, ch0B, hv_, hch0B, _⟩ := R_C r2
  subst hv_
  clear r2
  have h0 := Hd.mk (show (tJ (m + 1)).O w84 (rng W83.heap.size w84.heap.size) y [Value.int IntKind.i64 y.kind, .int .i64 y.n, .string y.s, .slice Ah0 y.list.length ch0, .slice Ah0B y.names.length ch0B] from hO); clear hO
  have eh0 := Hd.mk (Nat.le_refl w84.heap.size)
  go_wp2_with fail
  refine ⟨cls_below hS.out, ?_⟩
  iterate 3 (refine mixT_p rfl ?_; go_big_quiet_want; go_big_quiet_op; go_big_quiet_on; refine wpQuiet_nil ?_)
  refine mixT_fin ?_
  clear hS
  clear fb00 fb01 fb02 fb03 fb04 fb10 fb11 fb12 fb13 fb14 fb15 fb16 fBw00 fBw01 fBw02 fBw03 fBw04 fBx00 fBx01 fBx02 fBx03 fBx04 fBx10 fBx11 fBx12 fBx13 fBx14 fBx15 fBx16 fBg00 fBg01 fBg02 fBg03 fBg04 rfb00 rfb01 rfb02 rfb03 rfb04 rfb10 rfb11 rfb12 rfb13 rfb14 rfb15 rfb16 rfBw00 rfBw01 rfBw02 rfBw03 rfBw04 rfBx00 rfBx01 rfBx02 rfBx03 rfBx04 rfBx10 rfBx11 rfBx12 rfBx13 rfBx14 rfBx15 rfBx16 rfBg00 rfBg01 rfBg02 rfBg03 rfBg04
  obtain ⟨fb00, fb01, fb02, fb03, fb04, -⟩ := blk5 b0.out
  obtain ⟨fb10, fb11, fb12, fb13, fb14, fb15, fb16, -⟩ := blk7 b1.out
  obtain ⟨fBw00, fBw01, fBw02, fBw03, fBw04, -⟩ := blk5 Bw0.out
  obtain ⟨fBx00, fBx01, fBx02, fBx03, fBx04, -⟩ := blk5 Bx0.out
  obtain ⟨fBx10, fBx11, fBx12, fBx13, fBx14, fBx15, fBx16, -⟩ := blk7 Bx1.out
  obtain ⟨fBg00, fBg01, fBg02, fBg03, fBg04, -⟩ := blk5 Bg0.out
  obtain ⟨fBh00, fBh01, fBh02, fBh03, fBh04, -⟩ := blk5 Bh0.out
  have fz_ := Bh0.out.frozen
  refine tail_b rfl ?_ (by rfl)
  go_wp2_with fail
  refine mixQ_n ?_
  refine tail_b rfl ?_ (by rfl)
  go_wp2_with fail
  refine mixQ_n ?_
  refine tail_nil ?_
  refine exit_gen ?_; intro W hW
  clear fz_
  clear fb00 fb01 fb02 fb03 fb04 fb10 fb11 fb12 fb13 fb14 fb15 fb16 fBw00 fBw01 fBw02 fBw03 fBw04 fBx00 fBx01 fBx02 fBx03 fBx04 fBx10 fBx11 fBx12 fBx13 fBx14 fBx15 fBx16 fBg00 fBg01 fBg02 fBg03 fBg04 fBh00 fBh01 fBh02 fBh03 fBh04
  have eF : Fr w84 W (fun k => k = W77.heap.size) := by rw [hW]; (repeat (first | with_reducible refine Fr.setCell (S := fun k => k = W77.heap.size) ?_ _ (fun _ => rfl) _)); exact Fr.refl _ _
  have hsz_ := eF.size
  replace b0 := Hd.mk (b0.out.fr eF (fun h => by have := db0_Bh0.out; (try simp only at h); omega))
  replace eb0 := Hd.mk (Nat.le_trans eb0.out hsz_)
  replace b1 := Hd.mk (b1.out.fr eF (fun h => by have := db1_Bh0.out; (try simp only at h); omega))
  replace eb1 := Hd.mk (Nat.le_trans eb1.out hsz_)
  replace w0 := Hd.mk (Ty.O_fr w0.out eF (fun k hk hl h => by have := dw0_Bh0.out; have h1 := hk.1; have h2 := hk.2; (try simp only at h); omega))
  replace ew0 := Hd.mk (Nat.le_trans ew0.out hsz_)
  replace Bw0 := Hd.mk (Bw0.out.fr eF (fun h => by have := dBw0_Bh0.out; (try simp only at h); omega))
  replace eBw0 := Hd.mk (Nat.le_trans eBw0.out hsz_)
  replace Bx0 := Hd.mk (Bx0.out.fr eF (fun h => by have := dBx0_Bh0.out; (try simp only at h); omega))
  replace eBx0 := Hd.mk (Nat.le_trans eBx0.out hsz_)
  replace Bx1 := Hd.mk (Bx1.out.fr eF (fun h => by have := dBx1_Bh0.out; (try simp only at h); omega))
  replace eBx1 := Hd.mk (Nat.le_trans eBx1.out hsz_)
  replace g0 := Hd.mk (Ty.O_fr g0.out eF (fun k hk hl h => by have := dg0_Bh0.out; have h1 := hk.1; have h2 := hk.2; (try simp only at h); omega))
  replace eg0 := Hd.mk (Nat.le_trans eg0.out hsz_)
  replace Bg0 := Hd.mk (Bg0.out.fr eF (fun h => by have := dBg0_Bh0.out; (try simp only at h); omega))
  replace eBg0 := Hd.mk (Nat.le_trans eBg0.out hsz_)
  replace r0 := Hd.mk (Ty.O_fr r0.out eF (fun k hk hl h => by have := dBh0_r0.out; have h1 := hk.1; have h2 := hk.2; (try simp only at h); omega))
  replace er0 := Hd.mk (Nat.le_trans er0.out hsz_)
  replace r1 := Hd.mk (Ty.O_fr r1.out eF (fun k hk hl h => by have := dBh0_r1.out; have h1 := hk.1; have h2 := hk.2; (try simp only at h); omega))
  replace er1 := Hd.mk (Nat.le_trans er1.out hsz_)
  replace h0 := Hd.mk (Ty.O_fr h0.out eF (fun k hk hl h => by have := dBh0_h0.out; have h1 := hk.1; have h2 := hk.2; (try simp only at h); omega))
  replace eh0 := Hd.mk (Nat.le_trans eh0.out hsz_)
  replace Bh0 := Hd.mk (show Blk W (W77.heap.size) #[.int .i64 y.kind, .int .i64 y.n, .string y.s, .slice Ah0 y.list.length ch0, .slice Ah0B y.names.length ch0B] 32 by rw [hW]; exact (((((Bh0.out.set 0 (Value.int IntKind.i64 y.kind)).set 1 (Value.int IntKind.i64 y.n)).set 2 (Value.string y.s)).set 3 (Value.slice Ah0 y.list.length ch0)).set 4 (Value.slice Ah0B y.names.length ch0B)))
  replace eBh0 := Hd.mk (Nat.le_trans eBh0.out hsz_)
  replace hB := Hd.mk (((Fr.of_below hB.out (fun k => k = W77.heap.size)).then_ eF (fun k h _ => h)).below (fun k h => by have := aBh0.out; (try simp only at h); omega))
  clear hW eF hsz_
  clear r0 er0
  clear r1 er1
  obtain ⟨fb00, fb01, fb02, fb03, fb04, -⟩ := blk5 b0.out
  obtain ⟨fb10, fb11, fb12, fb13, fb14, fb15, fb16, -⟩ := blk7 b1.out
  obtain ⟨fBw00, fBw01, fBw02, fBw03, fBw04, -⟩ := blk5 Bw0.out
  obtain ⟨fBx00, fBx01, fBx02, fBx03, fBx04, -⟩ := blk5 Bx0.out
  obtain ⟨fBx10, fBx11, fBx12, fBx13, fBx14, fBx15, fBx16, -⟩ := blk7 Bx1.out
  obtain ⟨fBg00, fBg01, fBg02, fBg03, fBg04, -⟩ := blk5 Bg0.out
  obtain ⟨fBh00, fBh01, fBh02, fBh03, fBh04, -⟩ := blk5 Bh0.out
  go_wp2_with fail
  clear fb00 fb01 fb02 fb03 fb04 fb10 fb11 fb12 fb13 fb14 fb15 fb16 fBw00 fBw01 fBw02 fBw03 fBw04 fBx00 fBx01 fBx02 fBx03 fBx04 fBx10 fBx11 fBx12 fBx13 fBx14 fBx15 fBx16 fBg00 fBg01 fBg02 fBg03 fBg04 fBh00 fBh01 fBh02 fBh03 fBh04
  apply calls_gen; intro W85 hW
  have hE : Below W.heap.size W W85 := by rw [hW]; (repeat (first | with_reducible refine below_alloc ?_ _ | with_reducible refine below_drew ?_)); exact Below.refl _ _
  clear hW
  replace b0 := b0.dn hE
  replace eb0 := upE eb0 hE
  replace b1 := b1.dn hE
  replace eb1 := upE eb1 hE
  replace w0 := w0.ob hE
  replace ew0 := upE ew0 hE
  replace Bw0 := Bw0.dn hE
  replace eBw0 := upE eBw0 hE
  replace Bx0 := Bx0.dn hE
  replace eBx0 := upE eBx0 hE
  replace Bx1 := Bx1.dn hE
  replace eBx1 := upE eBx1 hE
  replace g0 := g0.ob hE
  replace eg0 := upE eg0 hE
  replace Bg0 := Bg0.dn hE
  replace eBg0 := upE eBg0 hE
  replace Bh0 := Bh0.dn hE
  replace eBh0 := upE eBh0 hE
  replace h0 := h0.ob hE
  replace eh0 := upE eh0 hE
  replace hB := hB.th hE
  clear hE
  refine (laws_eqJson y y _ _ _ ((tJ (m + 1)).O_K h0.out) ((tJ (m + 1)).O_K w0.out)).mono ?_
  rintro e w86 ⟨rfl, hX⟩
  replace b0 := b0.dn hX
  replace eb0 := upE eb0 hX
  replace b1 := b1.dn hX
  replace eb1 := upE eb1 hX
  replace w0 := w0.ob hX
  replace ew0 := upE ew0 hX
  replace Bw0 := Bw0.dn hX
  replace eBw0 := upE eBw0 hX
  replace Bx0 := Bx0.dn hX
  replace eBx0 := upE eBx0 hX
  replace Bx1 := Bx1.dn hX
  replace eBx1 := upE eBx1 hX
  replace g0 := g0.ob hX
  replace eg0 := upE eg0 hX
  replace Bg0 := Bg0.dn hX
  replace eBg0 := upE eBg0 hX
  replace Bh0 := Bh0.dn hX
  replace eBh0 := upE eBh0 hX
  replace h0 := h0.ob hX
  replace eh0 := upE eh0 hX
  replace hB := hB.th hX
  clear hX
  rw [eqv_self]
  obtain ⟨fb00, fb01, fb02, fb03, fb04, -⟩ := blk5 b0.out
  obtain ⟨fb10, fb11, fb12, fb13, fb14, fb15, fb16, -⟩ := blk7 b1.out
  obtain ⟨fBw00, fBw01, fBw02, fBw03, fBw04, -⟩ := blk5 Bw0.out
  obtain ⟨fBx00, fBx01, fBx02, fBx03, fBx04, -⟩ := blk5 Bx0.out
  obtain ⟨fBx10, fBx11, fBx12, fBx13, fBx14, fBx15, fBx16, -⟩ := blk7 Bx1.out
  obtain ⟨fBg00, fBg01, fBg02, fBg03, fBg04, -⟩ := blk5 Bg0.out
  obtain ⟨fBh00, fBh01, fBh02, fBh03, fBh04, -⟩ := blk5 Bh0.out
  go_wp2_with fail
  clear fb00 fb01 fb02 fb03 fb04 fb10 fb11 fb12 fb13 fb14 fb15 fb16 fBw00 fBw01 fBw02 fBw03 fBw04 fBx00 fBx01 fBx02 fBx03 fBx04 fBx10 fBx11 fBx12 fBx13 fBx14 fBx15 fBx16 fBg00 fBg01 fBg02 fBg03 fBg04 fBh00 fBh01 fBh02 fBh03 fBh04
  apply calls_gen; intro W87 hW
  have hE : Below w86.heap.size w86 W87 := by rw [hW]; (repeat (first | with_reducible refine below_alloc ?_ _ | with_reducible refine below_drew ?_)); exact Below.refl _ _
  clear hW
  replace b0 := b0.dn hE
  replace eb0 := upE eb0 hE
  replace b1 := b1.dn hE
  replace eb1 := upE eb1 hE
  replace w0 := w0.ob hE
  replace ew0 := upE ew0 hE
  replace Bw0 := Bw0.dn hE
  replace eBw0 := upE eBw0 hE
  replace Bx0 := Bx0.dn hE
  replace eBx0 := upE eBx0 hE
  replace Bx1 := Bx1.dn hE
  replace eBx1 := upE eBx1 hE
  replace g0 := g0.ob hE
  replace eg0 := upE eg0 hE
  replace Bg0 := Bg0.dn hE
  replace eBg0 := upE eBg0 hE
  replace Bh0 := Bh0.dn hE
  replace eBh0 := upE eBh0 hE
  replace h0 := h0.ob hE
  replace eh0 := upE eh0 hE
  replace hB := hB.th hE
  clear hE
  refine (laws_heldJson y _ 1 _ ((tJ (m + 1)).O_K g0.out) (by omega) (by omega)).mono ?_
  rintro e w88 ⟨rfl, hX⟩
  replace b0 := b0.dn hX
  replace eb0 := upE eb0 hX
  replace b1 := b1.dn hX
  replace eb1 := upE eb1 hX
  replace w0 := w0.ob hX
  replace ew0 := upE ew0 hX
  replace Bw0 := Bw0.dn hX
  replace eBw0 := upE eBw0 hX
  replace Bx0 := Bx0.dn hX
  replace eBx0 := upE eBx0 hX
  replace Bx1 := Bx1.dn hX
  replace eBx1 := upE eBx1 hX
  replace g0 := g0.ob hX
  replace eg0 := upE eg0 hX
  replace Bg0 := Bg0.dn hX
  replace eBg0 := upE eBg0 hX
  replace Bh0 := Bh0.dn hX
  replace eBh0 := upE eBh0 hX
  replace h0 := h0.ob hX
  replace eh0 := upE eh0 hX
  replace hB := hB.th hX
  clear hX
  obtain ⟨fb00, fb01, fb02, fb03, fb04, -⟩ := blk5 b0.out
  obtain ⟨fb10, fb11, fb12, fb13, fb14, fb15, fb16, -⟩ := blk7 b1.out
  obtain ⟨fBw00, fBw01, fBw02, fBw03, fBw04, -⟩ := blk5 Bw0.out
  obtain ⟨fBx00, fBx01, fBx02, fBx03, fBx04, -⟩ := blk5 Bx0.out
  obtain ⟨fBx10, fBx11, fBx12, fBx13, fBx14, fBx15, fBx16, -⟩ := blk7 Bx1.out
  obtain ⟨fBg00, fBg01, fBg02, fBg03, fBg04, -⟩ := blk5 Bg0.out
  obtain ⟨fBh00, fBh01, fBh02, fBh03, fBh04, -⟩ := blk5 Bh0.out
  go_wp2_with fail
  clear fb00 fb01 fb02 fb03 fb04 fb10 fb11 fb12 fb13 fb14 fb15 fb16 fBw00 fBw01 fBw02 fBw03 fBw04 fBx00 fBx01 fBx02 fBx03 fBx04 fBx10 fBx11 fBx12 fBx13 fBx14 fBx15 fBx16 fBg00 fBg01 fBg02 fBg03 fBg04 fBh00 fBh01 fBh02 fBh03 fBh04
  go_ret
  exact ⟨rfl, hB.out⟩
end Go.Proofs.YtegcecnjmimbiaaGreatDoor.X
namespace Go.Proofs.YtegcecnjmimbiaaGreatDoor.X
open Go.RowKit
set_option linter.unusedVariables false
set_option linter.unusedSimpArgs false
open Ty
def Opens {α : Type} (d : Ty α) (P : Program) (t : TypeId) (wf : α → Prop) (B : Nat) : Prop :=
 ∀ (H : Type) (enc : TypeId × Value → H) (W : World) (base : Nat) (spare : Nat → Bool) (held : Bool) (fuel : Nat) (_ : fuel ≤ B) (cs : List Value) (x : DataW H × List MemPlace),
  DataW.trod enc P W base spare held fuel t cs = some x → ∃ v : α, d.K W v cs ∧ wf v
section
variable {P : Program} {t e : TypeId} {B : Nat}
theorem opens_int (ht : P.underlying t = some (.int .i64)) : Opens int P t (fun n => -9223372036854775808 ≤ n ∧ n ≤ 9223372036854775807) B := by
 intro H enc W base spare held fuel hB cs x h
 obtain ⟨n, rfl, _, hw⟩ := DataW.trod_int ht h
 exact ⟨n, rfl, bounds_i64 hw⟩
theorem opens_bool (ht : P.underlying t = some .bool) : Opens Ty.bool P t (fun _ => True) B := by
 intro H enc W base spare held fuel hB cs x h
 obtain ⟨n, rfl, _⟩ := DataW.trod_bool ht h
 exact ⟨n, rfl, trivial⟩
theorem opens_str (ht : P.underlying t = some .string) : Opens str P t (fun s => s.size ≤ 9223372036854775807) B := by
 intro H enc W base spare held fuel hB cs x h
 obtain ⟨s, rfl, _, hs⟩ := DataW.trod_string ht h
 exact ⟨s, ⟨rfl, by simpa [maxLen] using hs⟩, by simpa [maxLen] using hs⟩
theorem opens_sl {α : Type} {d : Ty α} {wf : α → Prop} {e' : TypeId} (ht : P.underlying t = some (.slice e)) (hc : P.cellsOf e = d.sz) (ho : Opens d P e wf B) : Opens (sl e' d) P t (fun l => ∀ x ∈ l, wf x) B := by
 intro H enc W base spare held fuel hB cs x h
 rcases DataW.trod_slice ht h with ⟨rfl, _⟩ | ⟨a, len, cap, elems, rest, n, hfu, rfl, _, hb, hl, hm, hel, hx, _⟩
 ·exact ⟨[], ⟨none, 0, rfl, Nat.le_refl _, C_nil _⟩, by simp⟩
 ·have key : ∀ i, i < len → ∃ (v : α) (cs : List Value), d.K W v cs ∧ wf v ∧ ∀ j u, cs[j]? = some u → W.cell? (a.add (i * d.sz + j)) = some u := by
   intro i hi
   have h1 := hx i hi
   rw [List.getElem?_eq_getElem (by omega)] at h1
   obtain ⟨cs, h2, h3⟩ := Option.bind_eq_some_iff.1 h1
   obtain ⟨_, h4, h5⟩ := World.cells?_some h2
   obtain ⟨v, hk, hw⟩ := ho H enc W base spare held n (by omega) cs _ h3
   refine ⟨v, cs, hk, hw, fun j u hu => ?_⟩
   have hj : j < cs.length := (List.getElem?_eq_some_iff.1 hu).1
   rw [← hc, ← Addr.add_add, h5 j (by omega), hu]
  have hg : ∀ i x, (List.ofFn (fun i : Fin len => Classical.choose (key i i.2)))[i]? = some x → ∃ hi : i < len, x = Classical.choose (key i hi) := by
   intro i x hi
   rw [List.getElem?_ofFn] at hi
   split at hi
   ·rename_i h1; injection hi with hi; exact ⟨h1, hi.symm⟩
   ·cases hi
  have hll : (List.ofFn (fun i : Fin len => Classical.choose (key i i.2))).length = len := by simp
  refine ⟨List.ofFn (fun i : Fin len => Classical.choose (key i i.2)), ⟨some a, cap, by rw [hll], by rw [hll]; exact hl, by rw [hll]; simp only [maxLen] at hm; omega, fun i x hi => ?_⟩, fun x hx => ?_⟩
  ·obtain ⟨h1, rfl⟩ := hg i x hi
   obtain ⟨cs, hk, _, hcell⟩ := Classical.choose_spec (key i h1)
   exact ⟨a, cs, rfl, hk, hcell⟩
  ·obtain ⟨i, hi⟩ := List.mem_iff_getElem?.1 hx
   obtain ⟨h1, rfl⟩ := hg i x hi
   obtain ⟨cs, _, hw, _⟩ := Classical.choose_spec (key i h1)
   exact hw
theorem pr_split {α β : Type} {a : Ty α} {b : Ty β} {w : World} {x : α} {y : β} {cs : List Value} (k : Nat) (h1 : a.K w x (cs.take k)) (h2 : b.K w y (cs.drop k)) : (pr a b).K w (x, y) cs :=
 ⟨_, _, (List.take_append_drop k cs).symm, h1, h2⟩
theorem opens_fields {H : Type} {enc : TypeId × Value → H} {W : World} {base : Nat} {spare : Nat → Bool} {held : Bool} {fuel : Nat} {cs : List Value} {x : DataW H × List MemPlace} {fs : Array Field} (ht : P.underlying t = some (.struct fs)) (h : DataW.trod enc P W base spare held fuel t cs = some x) :
  cs.length = P.cellsOf t ∧ ∃ n, n < fuel ∧ ∀ (i : Nat) (f : Field), fs[i]? = some f → ∃ y, DataW.trod enc P W base spare held n f.type ((cs.drop f.offset).take (P.cellsOf f.type)) = some y := by
 obtain ⟨xs, n, hfu, _, hl, hxl, hf⟩ := DataW.trod_struct ht h
 refine ⟨hl, n, by omega, fun i f hi => ?_⟩
 have := hf i f hi
 rw [List.getElem?_eq_getElem (by rw [hxl]; exact (Array.getElem?_eq_some_iff.1 hi).1)] at this
 exact ⟨_, this⟩
end
open Go.RowKit
def I64 (n : Int) : Prop := -9223372036854775808 ≤ n ∧ n ≤ 9223372036854775807
theorem cells_int : Tryz.prog.cellsOf 3 = 1 := by kernel_rfl
theorem o_int (B : Nat) : Opens int Tryz.prog 3 (I64) B := opens_int Tryz.underlying3
theorem cells_bool : Tryz.prog.cellsOf 4 = 1 := by kernel_rfl
theorem o_bool (B : Nat) : Opens Ty.bool Tryz.prog 4 (fun _ => True) B := opens_bool Tryz.underlying4
theorem cells_str : Tryz.prog.cellsOf 9 = 1 := by kernel_rfl
theorem o_str (B : Nat) : Opens str Tryz.prog 9 (fun s => s.size ≤ 9223372036854775807) B := opens_str Tryz.underlying9
theorem cells_strs : Tryz.prog.cellsOf 23 = 1 := by kernel_rfl
theorem o_strs (B : Nat) : Opens (sl 9 str) Tryz.prog 23 (fun l => ∀ x ∈ l, x.size ≤ 9223372036854775807) B := opens_sl Tryz.underlying23 cells_str (o_str B)
theorem cells_Json : Tryz.prog.cellsOf 25 = 5 := by kernel_rfl
theorem cells_Jsons : Tryz.prog.cellsOf 22 = 1 := by kernel_rfl
theorem o_Json : ∀ (B : Nat), Opens (tJ (B + 1)) Tryz.prog 25 (fun _ => True) B
 | 0 => by
  intro H enc W base spare held fuel hB cs x h
  obtain rfl : fuel = 0 := by omega
  simp [DataW.trod] at h
 | B + 1 => by
  intro H enc W base spare held fuel hB cs x h
  obtain ⟨hl, n, hn, hf⟩ := opens_fields Tryz.underlying25 h
  rw [cells_Json] at hl
  obtain ⟨y0, h0⟩ := hf 0 _ rfl
  obtain ⟨y1, h1⟩ := hf 1 _ rfl
  obtain ⟨y2, h2⟩ := hf 2 _ rfl
  obtain ⟨y3, h3⟩ := hf 3 _ rfl
  obtain ⟨y4, h4⟩ := hf 4 _ rfl
  have h0 : DataW.trod enc Tryz.prog W base spare held n 3 ((cs.drop 0).take (Tryz.prog.cellsOf 3)) = some y0 := h0
  have h1 : DataW.trod enc Tryz.prog W base spare held n 3 ((cs.drop 1).take (Tryz.prog.cellsOf 3)) = some y1 := h1
  have h2 : DataW.trod enc Tryz.prog W base spare held n 9 ((cs.drop 2).take (Tryz.prog.cellsOf 9)) = some y2 := h2
  have h3 : DataW.trod enc Tryz.prog W base spare held n 22 ((cs.drop 3).take (Tryz.prog.cellsOf 22)) = some y3 := h3
  have h4 : DataW.trod enc Tryz.prog W base spare held n 23 ((cs.drop 4).take (Tryz.prog.cellsOf 23)) = some y4 := h4
  rw [cells_int] at h0 h1
  rw [cells_str] at h2
  rw [cells_Jsons] at h3
  rw [cells_strs] at h4
  obtain ⟨v0, k0, _⟩ := o_int (B + 1) H enc W base spare held n (by omega) _ _ h0
  obtain ⟨v1, k1, _⟩ := o_int (B + 1) H enc W base spare held n (by omega) _ _ h1
  obtain ⟨v2, k2, _⟩ := o_str (B + 1) H enc W base spare held n (by omega) _ _ h2
  obtain ⟨v3, k3, _⟩ := opens_sl (e' := 32) (d := tJ (B + 1)) Tryz.underlying22 (by rw [cells_Json, tJ_sz]) (o_Json B) H enc W base spare held n (by omega) _ _ h3
  obtain ⟨v4, k4, _⟩ := o_strs (B + 1) H enc W base spare held n (by omega) _ _ h4
  exact ⟨.mk v0 v1 v2 v3 v4, pr_split 1 (by simpa using k0) (pr_split 1 (by simpa using k1) (pr_split 1 (by simpa using k2) (pr_split 1 (by simpa using k3) (by rw [List.take_of_length_le (by simp; omega)] at k4; simpa using k4)))), trivial⟩
theorem cells_Op : Tryz.prog.cellsOf 27 = 7 := by kernel_rfl
theorem o_Op (B : Nat) : Opens (tOp (B + 1)) Tryz.prog 27 (fun _ => True) B := by
 intro H enc W base spare held fuel hB cs x h
 obtain ⟨hl, n, hn, hf⟩ := opens_fields Tryz.underlying27 h
 rw [cells_Op] at hl
 obtain ⟨y0, h0⟩ := hf 0 _ rfl
 obtain ⟨y1, h1⟩ := hf 1 _ rfl
 obtain ⟨y2, h2⟩ := hf 2 _ rfl
 have h0 : DataW.trod enc Tryz.prog W base spare held n 3 ((cs.drop 0).take (Tryz.prog.cellsOf 3)) = some y0 := h0
 have h1 : DataW.trod enc Tryz.prog W base spare held n 23 ((cs.drop 1).take (Tryz.prog.cellsOf 23)) = some y1 := h1
 have h2 : DataW.trod enc Tryz.prog W base spare held n 25 ((cs.drop 2).take (Tryz.prog.cellsOf 25)) = some y2 := h2
 rw [cells_int] at h0
 rw [cells_strs] at h1
 rw [cells_Json] at h2
 obtain ⟨v0, k0, _⟩ := o_int B H enc W base spare held n (by omega) _ _ h0
 obtain ⟨v1, k1, _⟩ := o_strs B H enc W base spare held n (by omega) _ _ h1
 obtain ⟨v2, k2, _⟩ := o_Json B H enc W base spare held n (by omega) _ _ h2
 exact ⟨⟨v0, v1, v2⟩, pr_split 1 (by simpa using k0) (pr_split 1 (by simpa using k1) (by rw [List.take_of_length_le (by simp; omega)] at k2; simpa using k2)), trivial⟩
theorem o_Ops (B : Nat) : Opens (sl 37 (tOp (B + 1))) Tryz.prog 44 (fun _ => True) B := fun H enc W base spare held fuel hB cs x h => let ⟨v, k, _⟩ := opens_sl (e' := 37) Tryz.underlying44 cells_Op (o_Op B) H enc W base spare held fuel hB cs x h; ⟨v, k, trivial⟩
/-! The program's head says 'cut': read off its first word alone (the kernel doesn't walk the whole text of the head). -/
theorem cut_of {P : Program} (l : List Char) (h : P.initOrder = String.ofList l) (h2 : ((behindMainWord (wordsSigns l)).head? == some "cut".toList) = true) : ∃ rest, behindMainWord (wordsSigns P.initOrder.toList) = "cut".toList :: rest := by
 rw [h, String.toList_ofList]
 cases hb : behindMainWord (wordsSigns l) with
 | nil => rw [hb] at h2; cases h2
 | cons c r =>
  rw [hb] at h2
  have : c = "cut".toList := by simpa using h2
  exact ⟨r, by rw [this]⟩
theorem make_cut {P : Program} (h : ∃ rest, behindMainWord (wordsSigns P.initOrder.toList) = "cut".toList :: rest) : P.make = some .cut := by
 obtain ⟨r, h⟩ := h
 unfold Program.make
 rw [h]
 rfl
theorem lifts_cut {P : Program} (h : ∃ rest, behindMainWord (wordsSigns P.initOrder.toList) = "cut".toList :: rest) : P.headLifts = [] := by
 obtain ⟨r, h⟩ := h
 unfold Program.headLifts
 rw [h]
 rfl
theorem final_cut {P : Program} (h : ∃ rest, behindMainWord (wordsSigns P.initOrder.toList) = "cut".toList :: rest) : P.liftsFinal = false := by
 have h1 := lifts_cut h
 obtain ⟨r, h⟩ := h
 unfold Program.liftsFinal
 rw [h1, h]
 rfl
theorem enter_cut {P : Program} (h : ∃ rest, behindMainWord (wordsSigns P.initOrder.toList) = "cut".toList :: rest) (h2 : (!P.laysLater && !P.bearsReflect && P.doorFits []) = true) : P.mayEnter = true := by
 obtain ⟨r, h⟩ := h
 simp only [Bool.and_eq_true] at h2
 unfold Program.mayEnter
 rw [h]
 have e : stripLifts liftWords ("cut".toList :: r) = ([], "cut".toList :: r) := rfl
 simp only [e, h2.1.1, h2.1.2, h2.2]
 rfl
set_option maxRecDepth 100000 in
theorem head_cut : ∃ rest, behindMainWord (wordsSigns Tryz.prog.initOrder.toList) = "cut".toList :: rest := cut_of _ rfl (by kernel_rfl)
theorem enter_ : Tryz.prog.mayEnter = true := enter_cut head_cut (by kernel_rfl)
theorem final_ : (false == Tryz.prog.liftsFinal) = true := by rw [final_cut head_cut]; rfl
theorem make_ : (Tryz.prog.make == some .cut) = true := by rw [make_cut head_cut]; rfl
theorem andB {a b : Bool} (ha : a = true) (hb : b = true) : (a && b) = true := by rw [ha, hb]; rfl
end Go.Proofs.YtegcecnjmimbiaaGreatDoor.X
