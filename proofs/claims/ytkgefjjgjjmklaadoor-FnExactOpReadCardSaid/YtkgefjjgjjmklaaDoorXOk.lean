/- What is proved here: OpJson. Conditions: none. -/
import Derived.Test.YtkgefjjgjjmklaaDoorXOm
import Derived.Lib.AtoiErrMem
import Derived.Lib.AppendIntMem
namespace Go.Proofs.YtkgefjjgjjmklaaDoor.X
open Go.RowKit Go.Sort
set_option linter.unusedVariables false
set_option linter.unusedSimpArgs false
open Ty
set_option maxHeartbeats 4000000 in
set_option maxRecDepth 100000 in
theorem spec_OpJson {m : Nat} (x : JOp) (cs : List Value) (w : World) (hk : (tOp (m + 1)).K w x cs) (hlw : bulkStringS x.way ≤ 1048576) (hlj : bulkJ (m + 1) x.value ≤ 4194304) :
    Calls Tryd.prog 31 #[.agg cs.toArray] w fun e w' => ∃ cs', e = .returned (.agg cs'.toArray) ∧ (tJ (m + 2)).O w' (fun k => w.heap.size ≤ k) (opJ x) cs' ∧ Below w.heap.size w w' := by
  have HK := Hd.mk hk
  obtain ⟨A1, c1, _, rfl, ⟨hc1, hr1⟩, hj⟩ := tOp_K.1 hk
  have HKJ := Hd.mk hj
  obtain ⟨A3, c3, A4, c4, rfl, hsj, ⟨hc3, hr3⟩, hc4, hr4⟩ := tJ_K.1 hj
  have hm := hr1.1
  have HRW := Hd.mk hr1; clear hr1 hr3 hr4 hk hj
  have HLW := Hd.mk hlw
  have HLJ := Hd.mk hlj; clear hlw hlj
  obtain ⟨tw, htw⟩ : ∃ t : ByteArray, t = ⟨(wayB x.way).toArray⟩ := ⟨_, rfl⟩
  have HTW := Hd.mk htw; clear htw
  have hB := Hd.mk (Below.refl w.heap.size w)
  go_enter Tryd.func31, Tryd.ntmps31
  go_wp2_with fail
  apply calls_gen; intro W1 hW
  have hz_ : w.heap.size + 2 ≤ W1.heap.size := by rw [hW]; simp
  have hE : Below w.heap.size w W1 := by rw [hW]; (repeat (first | with_reducible refine below_alloc ?_ _ | with_reducible refine below_drew ?_)); exact Below.refl _ _
  have hB := Hd.mk (below_then hB.out hE)
  have b0 := Hd.mk (show Blk W1 (w.heap.size) #[Value.int IntKind.i64 x.kind, Value.slice A1 x.way.length c1, Value.int IntKind.i64 x.value.kind, Value.int IntKind.i64 x.value.n, Value.string x.value.s, Value.slice A3 x.value.list.length c3, Value.slice A4 x.value.names.length c4] 49 by rw [hW]; first | exact ((Blk.new _ _ _).alloc _) | (simpa using ((Blk.new _ _ _).alloc _)))
  have b1 := Hd.mk (show Blk W1 (w.heap.size + 1) #[Value.int IntKind.i64 0, Value.int IntKind.i64 0, Value.string ⟨#[]⟩, Value.slice none 0 0, Value.slice none 0 0] 40 by rw [hW]; first | exact (Blk.new1 _ _ _ _) | (simpa using (Blk.new1 _ _ _ _)))
  clear hW hE
  have z1 := Hd.mk hz_; clear hz_
  refine (spec_OpOk x _ _ (Ty.K_below _ hB.out HK.out)).mono ?_
  rintro e w2 ⟨rfl, hX⟩
  have b0 := Hd.mk (b0.out.below hX)
  have b1 := Hd.mk (b1.out.below hX)
  have hB := Hd.mk (below_then hB.out hX)
  have hz_ := hX.size
  clear hX
  have z2 := Hd.mk hz_; clear hz_
  cases hb : opOk x
  · have HF := Hd.mk (show opJ x = J.null by unfold opJ; rw [hb]; simp)
    have fb0_0 : w2.cell? ⟨w.heap.size, 0, none⟩ = some (Value.int IntKind.i64 x.kind) := b0.out.cell 0 rfl
    have fb0_1 : w2.cell? ⟨w.heap.size, 1, none⟩ = some (Value.slice A1 x.way.length c1) := b0.out.cell 1 rfl
    have fb0_2 : w2.cell? ⟨w.heap.size, 2, none⟩ = some (Value.int IntKind.i64 x.value.kind) := b0.out.cell 2 rfl
    have fb0_3 : w2.cell? ⟨w.heap.size, 3, none⟩ = some (Value.int IntKind.i64 x.value.n) := b0.out.cell 3 rfl
    have fb0_4 : w2.cell? ⟨w.heap.size, 4, none⟩ = some (Value.string x.value.s) := b0.out.cell 4 rfl
    have fb0_5 : w2.cell? ⟨w.heap.size, 5, none⟩ = some (Value.slice A3 x.value.list.length c3) := b0.out.cell 5 rfl
    have fb0_6 : w2.cell? ⟨w.heap.size, 6, none⟩ = some (Value.slice A4 x.value.names.length c4) := b0.out.cell 6 rfl
    have fb0_z := b0.out.frozen
    have fb1_0 : w2.cell? ⟨w.heap.size + 1, 0, none⟩ = some (Value.int IntKind.i64 0) := b1.out.cell 0 rfl
    have fb1_1 : w2.cell? ⟨w.heap.size + 1, 1, none⟩ = some (Value.int IntKind.i64 0) := b1.out.cell 1 rfl
    have fb1_2 : w2.cell? ⟨w.heap.size + 1, 2, none⟩ = some (Value.string ⟨#[]⟩) := b1.out.cell 2 rfl
    have fb1_3 : w2.cell? ⟨w.heap.size + 1, 3, none⟩ = some (Value.slice none 0 0) := b1.out.cell 3 rfl
    have fb1_4 : w2.cell? ⟨w.heap.size + 1, 4, none⟩ = some (Value.slice none 0 0) := b1.out.cell 4 rfl
    have fb1_z := b1.out.frozen
    go_wp2_with fail
    refine bodyPost_retW (v := .agg #[Value.int IntKind.i64 0, Value.int IntKind.i64 0, Value.string ⟨#[]⟩, Value.slice none 0 0, Value.slice none 0 0]) (by simp [results, Tryd.results31, go_sem, fb0_0, fb0_1, fb0_2, fb0_3, fb0_4, fb0_5, fb0_6, fb0_z, fb1_0, fb1_1, fb1_2, fb1_3, fb1_4, fb1_z]) rfl ?_
    intro W hW
    clear fb0_0 fb0_1 fb0_2 fb0_3 fb0_4 fb0_5 fb0_6 fb0_z fb1_0 fb1_1 fb1_2 fb1_3 fb1_4 fb1_z
    have hz_ : w2.heap.size ≤ W.heap.size := by rw [hW]; simp
    have eF : Fr w2 W (fun k => k = w.heap.size + 1 ∨ w2.heap.size ≤ k) := by rw [hW]; (repeat (first | with_reducible refine Fr.setCell ?_ _ (fun _ => by simp <;> omega) _ | with_reducible refine Fr.alloc ?_ _ | with_reducible refine Fr.drew ?_)); exact Fr.refl _ _
    have z1_ := z1.out; have z2_ := z2.out
    have hB := Hd.mk (((Fr.of_below hB.out (fun k => k = w.heap.size + 1 ∨ w2.heap.size ≤ k)).then_ eF (fun k hk _ => hk)).below (fun k hk => by have := hB.out.size; omega))
    have b0 := Hd.mk (b0.out.fr eF (fun h => by have hlt_ := b0.out.lt; (try simp only at h); omega))
    have b1 := Hd.mk (show Blk W (w.heap.size + 1) #[Value.int IntKind.i64 0, Value.int IntKind.i64 0, Value.string ⟨#[]⟩, Value.slice none 0 0, Value.slice none 0 0] 40 by rw [hW]; exact (Blk.all b1.out [Value.int IntKind.i64 0, Value.int IntKind.i64 0, Value.string ⟨#[]⟩, Value.slice none 0 0, Value.slice none 0 0] rfl))
    clear hW eF
    have z3 := Hd.mk hz_; clear hz_
    exact ⟨[Value.int IntKind.i64 0, Value.int IntKind.i64 0, Value.string ⟨#[]⟩, Value.slice none 0 0, Value.slice none 0 0], rfl, by rw [HF.out]; exact ZJ (m + 1) _ _, hB.out⟩
  · have HOK := Hd.mk hb; clear hb
    have HKB := Hd.mk (opOk_kind HOK.out)
    obtain ⟨qk, hkq⟩ := Int.eq_ofNat_of_zero_le (show (0 : Int) ≤ x.kind by have := HKB.out.1; omega)
    rw [hkq] at b0
    have hq1 : 1 ≤ qk := by have := HKB.out.1; omega
    have hq4 : qk ≤ 4 := by have := HKB.out.2; omega
    have hq5 : qk < 5 := by omega
    have hq5i : (qk : Int) < 5 := by omega
    have hq0i : (0 : Int) ≤ (qk : Int) := by omega
    have HKQ := Hd.mk hkq; clear hkq
    have HTZ := Hd.mk (show tw.size ≤ 9223372036854775807 by rw [HTW.out]; have h1 := wayB_len x.way; have h2 := HLW.out; show (wayB x.way).length ≤ _; omega)
    have fb0_0 : w2.cell? ⟨w.heap.size, 0, none⟩ = some (Value.int IntKind.i64 (qk : Int)) := b0.out.cell 0 rfl
    have fb0_1 : w2.cell? ⟨w.heap.size, 1, none⟩ = some (Value.slice A1 x.way.length c1) := b0.out.cell 1 rfl
    have fb0_2 : w2.cell? ⟨w.heap.size, 2, none⟩ = some (Value.int IntKind.i64 x.value.kind) := b0.out.cell 2 rfl
    have fb0_3 : w2.cell? ⟨w.heap.size, 3, none⟩ = some (Value.int IntKind.i64 x.value.n) := b0.out.cell 3 rfl
    have fb0_4 : w2.cell? ⟨w.heap.size, 4, none⟩ = some (Value.string x.value.s) := b0.out.cell 4 rfl
    have fb0_5 : w2.cell? ⟨w.heap.size, 5, none⟩ = some (Value.slice A3 x.value.list.length c3) := b0.out.cell 5 rfl
    have fb0_6 : w2.cell? ⟨w.heap.size, 6, none⟩ = some (Value.slice A4 x.value.names.length c4) := b0.out.cell 6 rfl
    have fb0_z := b0.out.frozen
    have fb1_0 : w2.cell? ⟨w.heap.size + 1, 0, none⟩ = some (Value.int IntKind.i64 0) := b1.out.cell 0 rfl
    have fb1_1 : w2.cell? ⟨w.heap.size + 1, 1, none⟩ = some (Value.int IntKind.i64 0) := b1.out.cell 1 rfl
    have fb1_2 : w2.cell? ⟨w.heap.size + 1, 2, none⟩ = some (Value.string ⟨#[]⟩) := b1.out.cell 2 rfl
    have fb1_3 : w2.cell? ⟨w.heap.size + 1, 3, none⟩ = some (Value.slice none 0 0) := b1.out.cell 3 rfl
    have fb1_4 : w2.cell? ⟨w.heap.size + 1, 4, none⟩ = some (Value.slice none 0 0) := b1.out.cell 4 rfl
    have fb1_z := b1.out.frozen
    go_wp2_with fail
    clear fb0_0 fb0_1 fb0_2 fb0_3 fb0_4 fb0_5 fb0_6 fb0_z fb1_0 fb1_1 fb1_2 fb1_3 fb1_4 fb1_z
    obtain ⟨RR, hRR⟩ : ∃ RR : Act → World → Prop, RR = (fun a w' => ∃ (p : Nat) (SL SN : Nat → Prop) (DL DN : Option Addr) (dl dn : Nat) (u4 u5 u6 u7 u8 u9 u10 u11 u12 u13 u14 u15 u16 u17 u18 u19 u20 : Value), a = ⟨#[.agg #[Value.int IntKind.i64 x.kind, Value.slice A1 x.way.length c1, Value.int IntKind.i64 x.value.kind, Value.int IntKind.i64 x.value.n, Value.string x.value.s, Value.slice A3 x.value.list.length c3, Value.slice A4 x.value.names.length c4], .pointer (some ⟨w.heap.size, 0, none⟩), .pointer (some ⟨w.heap.size + 1, 0, none⟩), .pointer (some ⟨p, 0, none⟩), u4, u5, u6, u7, u8, u9, u10, u11, u12, u13, u14, u15, u16, u17, u18, u19, u20, undef, undef, undef, undef, undef, undef, undef, undef, undef, undef, undef, undef, undef], []⟩ ∧ Hd (Blk w' p #[Value.int IntKind.i64 5, Value.int IntKind.i64 0, Value.string ⟨#[]⟩, .slice DL 2 dl, .slice DN 2 dn] 40) ∧ Hd (Blk w' w.heap.size #[Value.int IntKind.i64 (qk : Int), Value.slice A1 x.way.length c1, Value.int IntKind.i64 x.value.kind, Value.int IntKind.i64 x.value.n, Value.string x.value.s, Value.slice A3 x.value.list.length c3, Value.slice A4 x.value.names.length c4] 49) ∧ Hd (Blk w' (w.heap.size + 1) #[Value.int IntKind.i64 0, Value.int IntKind.i64 0, Value.string ⟨#[]⟩, Value.slice none 0 0, Value.slice none 0 0] 40) ∧ Hd (w.heap.size + 2 ≤ p) ∧ Hd (∀ k, (SL k → w.heap.size + 2 ≤ k ∧ k < w'.heap.size ∧ k ≠ p ∧ ¬ SN k) ∧ (SN k → w.heap.size + 2 ≤ k ∧ k < w'.heap.size ∧ k ≠ p)) ∧ Hd ((tJ (m + 1)).R 40 w' SL (.slice DL 2 dl) [txt (kindNm (qk : Int)), txt tw]) ∧ Hd (str.R 9 w' SN (.slice DN 2 dn) [nmOp, nmPath]) ∧ Hd (Below w.heap.size w w')) := ⟨_, rfl⟩
    have HRR := Hd.mk hRR; clear hRR
    refine region_to RR ?_ ?_
    case refine_1 =>
      have fb0_0 : w2.cell? ⟨w.heap.size, 0, none⟩ = some (Value.int IntKind.i64 (qk : Int)) := b0.out.cell 0 rfl
      have fb0_1 : w2.cell? ⟨w.heap.size, 1, none⟩ = some (Value.slice A1 x.way.length c1) := b0.out.cell 1 rfl
      have fb0_2 : w2.cell? ⟨w.heap.size, 2, none⟩ = some (Value.int IntKind.i64 x.value.kind) := b0.out.cell 2 rfl
      have fb0_3 : w2.cell? ⟨w.heap.size, 3, none⟩ = some (Value.int IntKind.i64 x.value.n) := b0.out.cell 3 rfl
      have fb0_4 : w2.cell? ⟨w.heap.size, 4, none⟩ = some (Value.string x.value.s) := b0.out.cell 4 rfl
      have fb0_5 : w2.cell? ⟨w.heap.size, 5, none⟩ = some (Value.slice A3 x.value.list.length c3) := b0.out.cell 5 rfl
      have fb0_6 : w2.cell? ⟨w.heap.size, 6, none⟩ = some (Value.slice A4 x.value.names.length c4) := b0.out.cell 6 rfl
      have fb0_z := b0.out.frozen
      have fb1_0 : w2.cell? ⟨w.heap.size + 1, 0, none⟩ = some (Value.int IntKind.i64 0) := b1.out.cell 0 rfl
      have fb1_1 : w2.cell? ⟨w.heap.size + 1, 1, none⟩ = some (Value.int IntKind.i64 0) := b1.out.cell 1 rfl
      have fb1_2 : w2.cell? ⟨w.heap.size + 1, 2, none⟩ = some (Value.string ⟨#[]⟩) := b1.out.cell 2 rfl
      have fb1_3 : w2.cell? ⟨w.heap.size + 1, 3, none⟩ = some (Value.slice none 0 0) := b1.out.cell 3 rfl
      have fb1_4 : w2.cell? ⟨w.heap.size + 1, 4, none⟩ = some (Value.slice none 0 0) := b1.out.cell 4 rfl
      have fb1_z := b1.out.frozen
      have rfb0_0 := cell_regrown fb0_0
      have rfb0_1 := cell_regrown fb0_1
      have rfb0_2 := cell_regrown fb0_2
      have rfb0_3 := cell_regrown fb0_3
      have rfb0_4 := cell_regrown fb0_4
      have rfb0_5 := cell_regrown fb0_5
      have rfb0_6 := cell_regrown fb0_6
      have rfb1_0 := cell_regrown fb1_0
      have rfb1_1 := cell_regrown fb1_1
      have rfb1_2 := cell_regrown fb1_2
      have rfb1_3 := cell_regrown fb1_3
      have rfb1_4 := cell_regrown fb1_4
      refine region_mixT (.p 2 (.q 3 (.p 7 (.q 8 (.br3 0 1 13 (.br 1 13 (.q 4 (.n (.q 5 (.q 6 (.br 9 13 (.q 10 (.br 11 13 (.q 12 (.b 13 .fin)) (.b 11 (.q 12 .fin)))) (.b 9 (.q 10 (.b 11 (.q 12 .fin))))))))) (.b 1 (.q 4 (.n (.q 5 (.q 6 (.b 9 (.q 10 (.b 11 (.q 12 .fin)))))))))) (.q 4 (.n (.q 5 (.q 6 (.br3 0 9 13 (.br 9 13 (.q 10 (.br 11 13 (.q 12 (.b 13 .fin)) (.b 11 (.q 12 .fin)))) (.b 9 (.q 10 (.b 11 (.q 12 .fin))))) (.q 10 (.br3 0 11 13 (.br 11 13 (.q 12 (.b 13 .fin)) (.b 11 (.q 12 .fin))) (.br 0 13 (.q 12 (.b 13 .fin)) (.b 0 (.q 12 .fin))) (.br 0 11 (.b 11 (.q 12 .fin)) (.b 0 (.q 12 .fin))))) (.br 0 9 (.b 9 (.q 10 (.b 11 (.q 12 .fin)))) (.q 10 (.br 0 11 (.b 11 (.q 12 .fin)) (.b 0 (.q 12 .fin)))))))))) (.br 0 1 (.b 1 (.q 4 (.n (.q 5 (.q 6 (.b 9 (.q 10 (.b 11 (.q 12 .fin))))))))) (.q 4 (.n (.q 5 (.q 6 (.br 0 9 (.b 9 (.q 10 (.b 11 (.q 12 .fin)))) (.q 10 (.br 0 11 (.b 11 (.q 12 .fin)) (.b 0 (.q 12 .fin))))))))))))))) [14] (by kernel_rfl) (by kernel_rfl) (fun _ _ _ _ _ h => h) ?_
      refine genT ?_
      intro W3 hW
      have hS := Hd.mk (show Below w2.heap.size w2 W3 by rw [hW]; exact below_drew (Below.refl _ _))
      have hz_ : w2.heap.size ≤ W3.heap.size := by rw [hW]; simp
      have hE : Below w2.heap.size w2 W3 := by rw [hW]; (repeat (first | with_reducible refine below_alloc ?_ _ | with_reducible refine below_drew ?_)); exact Below.refl _ _
      have hB := Hd.mk (below_then hB.out hE)
      have b0 := Hd.mk (b0.out.below hE)
      have b1 := Hd.mk (b1.out.below hE)
      clear hW hE
      have z3 := Hd.mk hz_; clear hz_
      refine mixT_p rfl ?_
      go_big_quiet_want; go_big_quiet_op; go_big_quiet_on; refine wpQuiet_nil ?_
      refine mixT_q rfl ?_
      go_big_quiet_want; go_big_quiet_op; go_big_quiet_on; refine wpQuiet_nil ?_
      refine mixT_p rfl ?_
      go_big_quiet_want; go_big_quiet_op; go_big_quiet_on; refine wpQuiet_nil ?_
      refine mixT_q rfl ?_
      go_big_quiet_want; go_big_quiet_op; go_big_quiet_on; refine wpQuiet_nil ?_
      refine ⟨?_, ?_, ?_⟩
      · refine stepM_of rfl ?_ (by rfl)
        go_wp2_with fail
        refine ⟨cls_below (below_alloc hS.out _), ?_⟩
        refine genT ?_; intro W4 hW
        have hN0 := Hd.mk (show str.R 9 W4 (rng W3.heap.size (W3.heap.size + 1)) (.slice (some ⟨W3.heap.size, 0, none⟩) 2 2) [nmOp, nmPath] by rw [hW]; exact R_mono (fun k h => by have h : k = _ := h; simp only [rng]; omega) (R_strsN [nmOp, nmPath] (by decide) (by decide)))
        have hz_ : W3.heap.size + 1 ≤ W4.heap.size := by rw [hW]; simp
        have hE : Below W3.heap.size W3 W4 := by rw [hW]; (repeat (first | with_reducible refine below_alloc ?_ _ | with_reducible refine below_drew ?_)); exact Below.refl _ _
        have hB := Hd.mk (below_then hB.out hE)
        replace hS := Hd.mk (below_then hS.out hE)
        have b0 := Hd.mk (b0.out.below hE)
        have b1 := Hd.mk (b1.out.below hE)
        clear hW hE
        have z4 := Hd.mk hz_; clear hz_
        refine ⟨?_, ?_⟩
        · refine stepM_of rfl ?_ (by rfl)
          go_wp2_with fail
          apply calls_gen; intro W5 hW
          have hz_ : W4.heap.size ≤ W5.heap.size := by rw [hW]; simp
          have hE : Below W4.heap.size W4 W5 := by rw [hW]; (repeat (first | with_reducible refine below_alloc ?_ _ | with_reducible refine below_drew ?_)); exact Below.refl _ _
          have hB := Hd.mk (below_then hB.out hE)
          replace hS := Hd.mk (below_then hS.out hE)
          have b0 := Hd.mk (b0.out.below hE)
          have b1 := Hd.mk (b1.out.below hE)
          have hN0 := Hd.mk (R_below hN0.out hE)
          clear hW hE
          have z5 := Hd.mk hz_; clear hz_
          refine (spec_l4Names _).mono ?_
          rintro e w6 ⟨AK, rfl, hKN, hX⟩
          have b0 := Hd.mk (b0.out.below hX)
          have b1 := Hd.mk (b1.out.below hX)
          have hN0 := Hd.mk (R_below hN0.out hX)
          have hB := Hd.mk (below_then hB.out hX)
          replace hS := Hd.mk (below_then hS.out hX)
          have hz_ := hX.size
          clear hX
          have z6 := Hd.mk hz_; clear hz_
          obtain ⟨adk, rfl, xk⟩ := kind_at hKN qk hq1 hq4
          replace hKN := Hd.mk hKN; clear xk
          go_wp2_with fail
          refine ⟨cls_below hS.out, ?_⟩
          refine mixT_q rfl ?_
          go_big_quiet_want; go_big_quiet_op; go_big_quiet_on; refine wpQuiet_nil ?_
          obtain ⟨ad_, he_, xk⟩ := kind_at hKN.out qk hq1 hq4
          obtain rfl := Option.some.inj he_
          have rxk := cell_regrown xk
          clear xk hKN
          refine mixT_n (C' := fun w' => ∃ p : Regrown, w' = grow (redrawn w6 p.d) p.os) (cls_below (Below.refl _ _)) (fun w' h => cls_below (below_then hS.out (below_cls h))) ?_
          clear hS
          have hS := Hd.mk (Below.refl w6.heap.size w6)
          refine mixT_q rfl ?_
          go_big_quiet_want; go_big_quiet_op; go_big_quiet_on; refine wpQuiet_nil ?_
          refine mixT_q rfl ?_
          go_big_quiet_want; go_big_quiet_op; go_big_quiet_on; refine wpQuiet_nil ?_
          refine ⟨?_, ?_⟩
          · refine stepM_of rfl ?_ (by rfl)
            go_wp2_with fail
            apply calls_gen; intro W7 hW
            have hz_ : w6.heap.size ≤ W7.heap.size := by rw [hW]; simp
            have hE : Below w6.heap.size w6 W7 := by rw [hW]; (repeat (first | with_reducible refine below_alloc ?_ _ | with_reducible refine below_drew ?_)); exact Below.refl _ _
            have hB := Hd.mk (below_then hB.out hE)
            replace hS := Hd.mk (below_then hS.out hE)
            have b0 := Hd.mk (b0.out.below hE)
            have b1 := Hd.mk (b1.out.below hE)
            have hN0 := Hd.mk (R_below hN0.out hE)
            clear hW hE
            have z7 := Hd.mk hz_; clear hz_
            refine (spec_WayText _ _ x.way _ (C_below HRW.out hB.out) HLW.out).mono ?_
            rintro e w8 ⟨rfl, hX⟩
            have b0 := Hd.mk (b0.out.below hX)
            have b1 := Hd.mk (b1.out.below hX)
            have hN0 := Hd.mk (R_below hN0.out hX)
            have hB := Hd.mk (below_then hB.out hX)
            replace hS := Hd.mk (below_then hS.out hX)
            have hz_ := hX.size
            clear hX
            have z8 := Hd.mk hz_; clear hz_
            rw [← HTW.out]
            go_wp2_with fail
            refine ⟨cls_below hS.out, ?_⟩
            refine mixT_q rfl ?_
            go_big_quiet_want; go_big_quiet_op; go_big_quiet_on; refine wpQuiet_nil ?_
            refine ⟨?_, ?_⟩
            · refine stepM_of rfl ?_ (by rfl)
              go_wp2_with fail
              refine ⟨cls_below (below_alloc hS.out _), ?_⟩
              refine genT ?_; intro W9 hW
              have hL0 := Hd.mk (show (tJ (m + 1)).R 40 W9 (rng w8.heap.size (w8.heap.size + 1)) (.slice (some ⟨w8.heap.size, 0, none⟩) 2 2) [txt (kindNm (qk : Int)), txt tw] by rw [hW]; exact R_mono (fun k h => by have h : k = _ := h; simp only [rng]; omega) (R_txt2 _ _ (kindNm_size _) HTZ.out))
              have hz_ : w8.heap.size + 1 ≤ W9.heap.size := by rw [hW]; simp
              have hE : Below w8.heap.size w8 W9 := by rw [hW]; (repeat (first | with_reducible refine below_alloc ?_ _ | with_reducible refine below_drew ?_)); exact Below.refl _ _
              have hB := Hd.mk (below_then hB.out hE)
              replace hS := Hd.mk (below_then hS.out hE)
              have b0 := Hd.mk (b0.out.below hE)
              have b1 := Hd.mk (b1.out.below hE)
              have hN0 := Hd.mk (R_below hN0.out hE)
              clear hW hE
              have z9 := Hd.mk hz_; clear hz_
              refine mixT_q rfl ?_
              go_big_quiet_want; go_big_quiet_op; go_big_quiet_on; refine wpQuiet_nil ?_
              refine mixT_b rfl ?_ (by rfl)
              go_wp2_with fail
              refine ⟨cls_below (below_alloc hS.out _), ?_⟩
              refine genT ?_; intro W10 hW
              have hz_ : W9.heap.size + 1 ≤ W10.heap.size := by rw [hW]; simp
              have hE : Below W9.heap.size W9 W10 := by rw [hW]; (repeat (first | with_reducible refine below_alloc ?_ _ | with_reducible refine below_drew ?_)); exact Below.refl _ _
              have hB := Hd.mk (below_then hB.out hE)
              replace hS := Hd.mk (below_then hS.out hE)
              have b0 := Hd.mk (b0.out.below hE)
              have b1 := Hd.mk (b1.out.below hE)
              have b2 := Hd.mk (show Blk W10 (W9.heap.size) #[Value.int IntKind.i64 0, Value.int IntKind.i64 0, Value.string ⟨#[]⟩, Value.slice none 0 0, Value.slice none 0 0] 40 by rw [hW]; first | exact (Blk.new _ _ _) | (simpa using (Blk.new _ _ _)))
              have hN0 := Hd.mk (R_below hN0.out hE)
              have hL0 := Hd.mk (R_below hL0.out hE)
              clear hW hE
              have z10 := Hd.mk hz_; clear hz_
              refine mixT_fin ?_
              clear hS
              clear rfb0_0 rfb0_1 rfb0_2 rfb0_3 rfb0_4 rfb0_5 rfb0_6 rfb1_0 rfb1_1 rfb1_2 rfb1_3 rfb1_4
              clear fb0_0 fb0_1 fb0_2 fb0_3 fb0_4 fb0_5 fb0_6 fb0_z fb1_0 fb1_1 fb1_2 fb1_3 fb1_4 fb1_z
              have fb0_0 : W10.cell? ⟨w.heap.size, 0, none⟩ = some (Value.int IntKind.i64 (qk : Int)) := b0.out.cell 0 rfl
              have fb0_1 : W10.cell? ⟨w.heap.size, 1, none⟩ = some (Value.slice A1 x.way.length c1) := b0.out.cell 1 rfl
              have fb0_2 : W10.cell? ⟨w.heap.size, 2, none⟩ = some (Value.int IntKind.i64 x.value.kind) := b0.out.cell 2 rfl
              have fb0_3 : W10.cell? ⟨w.heap.size, 3, none⟩ = some (Value.int IntKind.i64 x.value.n) := b0.out.cell 3 rfl
              have fb0_4 : W10.cell? ⟨w.heap.size, 4, none⟩ = some (Value.string x.value.s) := b0.out.cell 4 rfl
              have fb0_5 : W10.cell? ⟨w.heap.size, 5, none⟩ = some (Value.slice A3 x.value.list.length c3) := b0.out.cell 5 rfl
              have fb0_6 : W10.cell? ⟨w.heap.size, 6, none⟩ = some (Value.slice A4 x.value.names.length c4) := b0.out.cell 6 rfl
              have fb0_z := b0.out.frozen
              have fb1_0 : W10.cell? ⟨w.heap.size + 1, 0, none⟩ = some (Value.int IntKind.i64 0) := b1.out.cell 0 rfl
              have fb1_1 : W10.cell? ⟨w.heap.size + 1, 1, none⟩ = some (Value.int IntKind.i64 0) := b1.out.cell 1 rfl
              have fb1_2 : W10.cell? ⟨w.heap.size + 1, 2, none⟩ = some (Value.string ⟨#[]⟩) := b1.out.cell 2 rfl
              have fb1_3 : W10.cell? ⟨w.heap.size + 1, 3, none⟩ = some (Value.slice none 0 0) := b1.out.cell 3 rfl
              have fb1_4 : W10.cell? ⟨w.heap.size + 1, 4, none⟩ = some (Value.slice none 0 0) := b1.out.cell 4 rfl
              have fb1_z := b1.out.frozen
              have fb2_0 : W10.cell? ⟨W9.heap.size, 0, none⟩ = some (Value.int IntKind.i64 0) := b2.out.cell 0 rfl
              have fb2_1 : W10.cell? ⟨W9.heap.size, 1, none⟩ = some (Value.int IntKind.i64 0) := b2.out.cell 1 rfl
              have fb2_2 : W10.cell? ⟨W9.heap.size, 2, none⟩ = some (Value.string ⟨#[]⟩) := b2.out.cell 2 rfl
              have fb2_3 : W10.cell? ⟨W9.heap.size, 3, none⟩ = some (Value.slice none 0 0) := b2.out.cell 3 rfl
              have fb2_4 : W10.cell? ⟨W9.heap.size, 4, none⟩ = some (Value.slice none 0 0) := b2.out.cell 4 rfl
              have fb2_z := b2.out.frozen
              refine tail_b rfl ?_ (by rfl)
              go_wp2_with fail
              refine mixQ_n ?_
              refine tail_nil ?_
              refine region_gen ?_; intro W hW
              clear fb0_0 fb0_1 fb0_2 fb0_3 fb0_4 fb0_5 fb0_6 fb0_z fb1_0 fb1_1 fb1_2 fb1_3 fb1_4 fb1_z fb2_0 fb2_1 fb2_2 fb2_3 fb2_4 fb2_z
              have hz_ : W10.heap.size ≤ W.heap.size := by rw [hW]; simp
              have eF : Fr W10 W (fun k => k = W9.heap.size ∨ W10.heap.size ≤ k) := by rw [hW]; (repeat (first | with_reducible refine Fr.setCell ?_ _ (fun _ => by simp <;> omega) _ | with_reducible refine Fr.alloc ?_ _ | with_reducible refine Fr.drew ?_)); exact Fr.refl _ _
              have z1_ := z1.out; have z2_ := z2.out; have z3_ := z3.out; have z4_ := z4.out; have z5_ := z5.out; have z6_ := z6.out; have z7_ := z7.out; have z8_ := z8.out; have z9_ := z9.out; have z10_ := z10.out
              have hB := Hd.mk (((Fr.of_below hB.out (fun k => k = W9.heap.size ∨ W10.heap.size ≤ k)).then_ eF (fun k hk _ => hk)).below (fun k hk => by have := hB.out.size; omega))
              have b0 := Hd.mk (b0.out.fr eF (fun h => by have hlt_ := b0.out.lt; (try simp only at h); omega))
              have b1 := Hd.mk (b1.out.fr eF (fun h => by have hlt_ := b1.out.lt; (try simp only at h); omega))
              have b2 := Hd.mk (show Blk W (W9.heap.size) #[Value.int IntKind.i64 5, Value.int IntKind.i64 0, Value.string ⟨#[]⟩, Value.slice (some ⟨w8.heap.size, 0, none⟩) 2 2, Value.slice (some ⟨W3.heap.size, 0, none⟩) 2 2] 40 by rw [hW]; exact (Blk.all b2.out [Value.int IntKind.i64 5, Value.int IntKind.i64 0, Value.string ⟨#[]⟩, Value.slice (some ⟨w8.heap.size, 0, none⟩) 2 2, Value.slice (some ⟨W3.heap.size, 0, none⟩) 2 2] rfl))
              have hN0 := Hd.mk (R_fr hN0.out eF (fun k hk hl h => by skip; (try simp only [rng] at hk); (try simp only at hk); (try simp only at h); omega))
              have hL0 := Hd.mk (R_fr hL0.out eF (fun k hk hl h => by skip; (try simp only [rng] at hk); (try simp only at hk); (try simp only at h); omega))
              clear hW eF
              have z11 := Hd.mk hz_; clear hz_
              have hBs := hB.out.size
              have z1_ := z1.out; have z2_ := z2.out; have z3_ := z3.out; have z4_ := z4.out; have z5_ := z5.out; have z6_ := z6.out; have z7_ := z7.out; have z8_ := z8.out; have z9_ := z9.out; have z10_ := z10.out; have z11_ := z11.out
              rw [HRR.out]
              exact ⟨W9.heap.size, _, _, _, _, 2, 2, _, _, _, _, _, _, _, _, _, _, _, _, _, _, _, _, _, rfl, b2, b0, b1, ⟨by omega⟩, ⟨fun k => ⟨fun hk => by have h1 := hk.1; have h2 := hk.2; refine ⟨by omega, by omega, by omega, fun hn => by have h3 := hn.1; have h4 := hn.2; omega⟩, fun hk => by have h1 := hk.1; have h2 := hk.2; refine ⟨by omega, by omega, by omega⟩⟩⟩, hL0, hN0, hB⟩
            · refine stepM_of rfl ?_ (by rfl)
              go_wp2_with fail
              refine ⟨cls_below (below_alloc hS.out _), ?_⟩
              refine genT ?_; intro W9 hW
              have hz_ : w8.heap.size + 1 ≤ W9.heap.size := by rw [hW]; simp
              have hE : Below w8.heap.size w8 W9 := by rw [hW]; (repeat (first | with_reducible refine below_alloc ?_ _ | with_reducible refine below_drew ?_)); exact Below.refl _ _
              have hB := Hd.mk (below_then hB.out hE)
              replace hS := Hd.mk (below_then hS.out hE)
              have b0 := Hd.mk (b0.out.below hE)
              have b1 := Hd.mk (b1.out.below hE)
              have b2 := Hd.mk (show Blk W9 (w8.heap.size) #[Value.int IntKind.i64 0, Value.int IntKind.i64 0, Value.string ⟨#[]⟩, Value.slice none 0 0, Value.slice none 0 0] 40 by rw [hW]; first | exact (Blk.new _ _ _) | (simpa using (Blk.new _ _ _)))
              have hN0 := Hd.mk (R_below hN0.out hE)
              clear hW hE
              have z9 := Hd.mk hz_; clear hz_
              refine mixT_b rfl ?_ (by rfl)
              go_wp2_with fail
              refine ⟨cls_below (below_alloc hS.out _), ?_⟩
              refine genT ?_; intro W10 hW
              have hL0 := Hd.mk (show (tJ (m + 1)).R 40 W10 (rng W9.heap.size (W9.heap.size + 1)) (.slice (some ⟨W9.heap.size, 0, none⟩) 2 2) [txt (kindNm (qk : Int)), txt tw] by rw [hW]; exact R_mono (fun k h => by have h : k = _ := h; simp only [rng]; omega) (R_txt2 _ _ (kindNm_size _) HTZ.out))
              have hz_ : W9.heap.size + 1 ≤ W10.heap.size := by rw [hW]; simp
              have hE : Below W9.heap.size W9 W10 := by rw [hW]; (repeat (first | with_reducible refine below_alloc ?_ _ | with_reducible refine below_drew ?_)); exact Below.refl _ _
              have hB := Hd.mk (below_then hB.out hE)
              replace hS := Hd.mk (below_then hS.out hE)
              have b0 := Hd.mk (b0.out.below hE)
              have b1 := Hd.mk (b1.out.below hE)
              have b2 := Hd.mk (b2.out.below hE)
              have hN0 := Hd.mk (R_below hN0.out hE)
              clear hW hE
              have z10 := Hd.mk hz_; clear hz_
              refine mixT_q rfl ?_
              go_big_quiet_want; go_big_quiet_op; go_big_quiet_on; refine wpQuiet_nil ?_
              refine mixT_fin ?_
              clear hS
              clear rfb0_0 rfb0_1 rfb0_2 rfb0_3 rfb0_4 rfb0_5 rfb0_6 rfb1_0 rfb1_1 rfb1_2 rfb1_3 rfb1_4
              clear fb0_0 fb0_1 fb0_2 fb0_3 fb0_4 fb0_5 fb0_6 fb0_z fb1_0 fb1_1 fb1_2 fb1_3 fb1_4 fb1_z
              have fb0_0 : W10.cell? ⟨w.heap.size, 0, none⟩ = some (Value.int IntKind.i64 (qk : Int)) := b0.out.cell 0 rfl
              have fb0_1 : W10.cell? ⟨w.heap.size, 1, none⟩ = some (Value.slice A1 x.way.length c1) := b0.out.cell 1 rfl
              have fb0_2 : W10.cell? ⟨w.heap.size, 2, none⟩ = some (Value.int IntKind.i64 x.value.kind) := b0.out.cell 2 rfl
              have fb0_3 : W10.cell? ⟨w.heap.size, 3, none⟩ = some (Value.int IntKind.i64 x.value.n) := b0.out.cell 3 rfl
              have fb0_4 : W10.cell? ⟨w.heap.size, 4, none⟩ = some (Value.string x.value.s) := b0.out.cell 4 rfl
              have fb0_5 : W10.cell? ⟨w.heap.size, 5, none⟩ = some (Value.slice A3 x.value.list.length c3) := b0.out.cell 5 rfl
              have fb0_6 : W10.cell? ⟨w.heap.size, 6, none⟩ = some (Value.slice A4 x.value.names.length c4) := b0.out.cell 6 rfl
              have fb0_z := b0.out.frozen
              have fb1_0 : W10.cell? ⟨w.heap.size + 1, 0, none⟩ = some (Value.int IntKind.i64 0) := b1.out.cell 0 rfl
              have fb1_1 : W10.cell? ⟨w.heap.size + 1, 1, none⟩ = some (Value.int IntKind.i64 0) := b1.out.cell 1 rfl
              have fb1_2 : W10.cell? ⟨w.heap.size + 1, 2, none⟩ = some (Value.string ⟨#[]⟩) := b1.out.cell 2 rfl
              have fb1_3 : W10.cell? ⟨w.heap.size + 1, 3, none⟩ = some (Value.slice none 0 0) := b1.out.cell 3 rfl
              have fb1_4 : W10.cell? ⟨w.heap.size + 1, 4, none⟩ = some (Value.slice none 0 0) := b1.out.cell 4 rfl
              have fb1_z := b1.out.frozen
              have fb2_0 : W10.cell? ⟨w8.heap.size, 0, none⟩ = some (Value.int IntKind.i64 0) := b2.out.cell 0 rfl
              have fb2_1 : W10.cell? ⟨w8.heap.size, 1, none⟩ = some (Value.int IntKind.i64 0) := b2.out.cell 1 rfl
              have fb2_2 : W10.cell? ⟨w8.heap.size, 2, none⟩ = some (Value.string ⟨#[]⟩) := b2.out.cell 2 rfl
              have fb2_3 : W10.cell? ⟨w8.heap.size, 3, none⟩ = some (Value.slice none 0 0) := b2.out.cell 3 rfl
              have fb2_4 : W10.cell? ⟨w8.heap.size, 4, none⟩ = some (Value.slice none 0 0) := b2.out.cell 4 rfl
              have fb2_z := b2.out.frozen
              refine tail_b rfl ?_ (by rfl)
              go_wp2_with fail
              refine mixQ_n ?_
              refine tail_nil ?_
              refine region_gen ?_; intro W hW
              clear fb0_0 fb0_1 fb0_2 fb0_3 fb0_4 fb0_5 fb0_6 fb0_z fb1_0 fb1_1 fb1_2 fb1_3 fb1_4 fb1_z fb2_0 fb2_1 fb2_2 fb2_3 fb2_4 fb2_z
              have hz_ : W10.heap.size ≤ W.heap.size := by rw [hW]; simp
              have eF : Fr W10 W (fun k => k = w8.heap.size ∨ W10.heap.size ≤ k) := by rw [hW]; (repeat (first | with_reducible refine Fr.setCell ?_ _ (fun _ => by simp <;> omega) _ | with_reducible refine Fr.alloc ?_ _ | with_reducible refine Fr.drew ?_)); exact Fr.refl _ _
              have z1_ := z1.out; have z2_ := z2.out; have z3_ := z3.out; have z4_ := z4.out; have z5_ := z5.out; have z6_ := z6.out; have z7_ := z7.out; have z8_ := z8.out; have z9_ := z9.out; have z10_ := z10.out
              have hB := Hd.mk (((Fr.of_below hB.out (fun k => k = w8.heap.size ∨ W10.heap.size ≤ k)).then_ eF (fun k hk _ => hk)).below (fun k hk => by have := hB.out.size; omega))
              have b0 := Hd.mk (b0.out.fr eF (fun h => by have hlt_ := b0.out.lt; (try simp only at h); omega))
              have b1 := Hd.mk (b1.out.fr eF (fun h => by have hlt_ := b1.out.lt; (try simp only at h); omega))
              have b2 := Hd.mk (show Blk W (w8.heap.size) #[Value.int IntKind.i64 5, Value.int IntKind.i64 0, Value.string ⟨#[]⟩, Value.slice (some ⟨W9.heap.size, 0, none⟩) 2 2, Value.slice (some ⟨W3.heap.size, 0, none⟩) 2 2] 40 by rw [hW]; exact (Blk.all b2.out [Value.int IntKind.i64 5, Value.int IntKind.i64 0, Value.string ⟨#[]⟩, Value.slice (some ⟨W9.heap.size, 0, none⟩) 2 2, Value.slice (some ⟨W3.heap.size, 0, none⟩) 2 2] rfl))
              have hN0 := Hd.mk (R_fr hN0.out eF (fun k hk hl h => by skip; (try simp only [rng] at hk); (try simp only at hk); (try simp only at h); omega))
              have hL0 := Hd.mk (R_fr hL0.out eF (fun k hk hl h => by skip; (try simp only [rng] at hk); (try simp only at hk); (try simp only at h); omega))
              clear hW eF
              have z11 := Hd.mk hz_; clear hz_
              have hBs := hB.out.size
              have z1_ := z1.out; have z2_ := z2.out; have z3_ := z3.out; have z4_ := z4.out; have z5_ := z5.out; have z6_ := z6.out; have z7_ := z7.out; have z8_ := z8.out; have z9_ := z9.out; have z10_ := z10.out; have z11_ := z11.out
              rw [HRR.out]
              exact ⟨w8.heap.size, _, _, _, _, 2, 2, _, _, _, _, _, _, _, _, _, _, _, _, _, _, _, _, _, rfl, b2, b0, b1, ⟨by omega⟩, ⟨fun k => ⟨fun hk => by have h1 := hk.1; have h2 := hk.2; refine ⟨by omega, by omega, by omega, fun hn => by have h3 := hn.1; have h4 := hn.2; omega⟩, fun hk => by have h1 := hk.1; have h2 := hk.2; refine ⟨by omega, by omega, by omega⟩⟩⟩, hL0, hN0, hB⟩
          · refine stepM_of rfl ?_ (by rfl)
            go_wp2_with fail
            refine ⟨cls_below (below_alloc hS.out _), ?_⟩
            refine genT ?_; intro W7 hW
            have hz_ : w6.heap.size + 1 ≤ W7.heap.size := by rw [hW]; simp
            have hE : Below w6.heap.size w6 W7 := by rw [hW]; (repeat (first | with_reducible refine below_alloc ?_ _ | with_reducible refine below_drew ?_)); exact Below.refl _ _
            have hB := Hd.mk (below_then hB.out hE)
            replace hS := Hd.mk (below_then hS.out hE)
            have b0 := Hd.mk (b0.out.below hE)
            have b1 := Hd.mk (b1.out.below hE)
            have b2 := Hd.mk (show Blk W7 (w6.heap.size) #[Value.int IntKind.i64 0, Value.int IntKind.i64 0, Value.string ⟨#[]⟩, Value.slice none 0 0, Value.slice none 0 0] 40 by rw [hW]; first | exact (Blk.new _ _ _) | (simpa using (Blk.new _ _ _)))
            have hN0 := Hd.mk (R_below hN0.out hE)
            clear hW hE
            have z7 := Hd.mk hz_; clear hz_
            refine mixT_b rfl ?_ (by rfl)
            go_wp2_with fail
            apply calls_gen; intro W8 hW
            have hz_ : W7.heap.size ≤ W8.heap.size := by rw [hW]; simp
            have hE : Below W7.heap.size W7 W8 := by rw [hW]; (repeat (first | with_reducible refine below_alloc ?_ _ | with_reducible refine below_drew ?_)); exact Below.refl _ _
            have hB := Hd.mk (below_then hB.out hE)
            replace hS := Hd.mk (below_then hS.out hE)
            have b0 := Hd.mk (b0.out.below hE)
            have b1 := Hd.mk (b1.out.below hE)
            have b2 := Hd.mk (b2.out.below hE)
            have hN0 := Hd.mk (R_below hN0.out hE)
            clear hW hE
            have z8 := Hd.mk hz_; clear hz_
            refine (spec_WayText _ _ x.way _ (C_below HRW.out hB.out) HLW.out).mono ?_
            rintro e w9 ⟨rfl, hX⟩
            have b0 := Hd.mk (b0.out.below hX)
            have b1 := Hd.mk (b1.out.below hX)
            have b2 := Hd.mk (b2.out.below hX)
            have hN0 := Hd.mk (R_below hN0.out hX)
            have hB := Hd.mk (below_then hB.out hX)
            replace hS := Hd.mk (below_then hS.out hX)
            have hz_ := hX.size
            clear hX
            have z9 := Hd.mk hz_; clear hz_
            rw [← HTW.out]
            go_wp2_with fail
            refine ⟨cls_below hS.out, ?_⟩
            refine mixT_q rfl ?_
            go_big_quiet_want; go_big_quiet_op; go_big_quiet_on; refine wpQuiet_nil ?_
            refine mixT_b rfl ?_ (by rfl)
            go_wp2_with fail
            refine ⟨cls_below (below_alloc hS.out _), ?_⟩
            refine genT ?_; intro W10 hW
            have hL0 := Hd.mk (show (tJ (m + 1)).R 40 W10 (rng w9.heap.size (w9.heap.size + 1)) (.slice (some ⟨w9.heap.size, 0, none⟩) 2 2) [txt (kindNm (qk : Int)), txt tw] by rw [hW]; exact R_mono (fun k h => by have h : k = _ := h; simp only [rng]; omega) (R_txt2 _ _ (kindNm_size _) HTZ.out))
            have hz_ : w9.heap.size + 1 ≤ W10.heap.size := by rw [hW]; simp
            have hE : Below w9.heap.size w9 W10 := by rw [hW]; (repeat (first | with_reducible refine below_alloc ?_ _ | with_reducible refine below_drew ?_)); exact Below.refl _ _
            have hB := Hd.mk (below_then hB.out hE)
            replace hS := Hd.mk (below_then hS.out hE)
            have b0 := Hd.mk (b0.out.below hE)
            have b1 := Hd.mk (b1.out.below hE)
            have b2 := Hd.mk (b2.out.below hE)
            have hN0 := Hd.mk (R_below hN0.out hE)
            clear hW hE
            have z10 := Hd.mk hz_; clear hz_
            refine mixT_q rfl ?_
            go_big_quiet_want; go_big_quiet_op; go_big_quiet_on; refine wpQuiet_nil ?_
            refine mixT_fin ?_
            clear hS
            clear rfb0_0 rfb0_1 rfb0_2 rfb0_3 rfb0_4 rfb0_5 rfb0_6 rfb1_0 rfb1_1 rfb1_2 rfb1_3 rfb1_4
            clear fb0_0 fb0_1 fb0_2 fb0_3 fb0_4 fb0_5 fb0_6 fb0_z fb1_0 fb1_1 fb1_2 fb1_3 fb1_4 fb1_z
            have fb0_0 : W10.cell? ⟨w.heap.size, 0, none⟩ = some (Value.int IntKind.i64 (qk : Int)) := b0.out.cell 0 rfl
            have fb0_1 : W10.cell? ⟨w.heap.size, 1, none⟩ = some (Value.slice A1 x.way.length c1) := b0.out.cell 1 rfl
            have fb0_2 : W10.cell? ⟨w.heap.size, 2, none⟩ = some (Value.int IntKind.i64 x.value.kind) := b0.out.cell 2 rfl
            have fb0_3 : W10.cell? ⟨w.heap.size, 3, none⟩ = some (Value.int IntKind.i64 x.value.n) := b0.out.cell 3 rfl
            have fb0_4 : W10.cell? ⟨w.heap.size, 4, none⟩ = some (Value.string x.value.s) := b0.out.cell 4 rfl
            have fb0_5 : W10.cell? ⟨w.heap.size, 5, none⟩ = some (Value.slice A3 x.value.list.length c3) := b0.out.cell 5 rfl
            have fb0_6 : W10.cell? ⟨w.heap.size, 6, none⟩ = some (Value.slice A4 x.value.names.length c4) := b0.out.cell 6 rfl
            have fb0_z := b0.out.frozen
            have fb1_0 : W10.cell? ⟨w.heap.size + 1, 0, none⟩ = some (Value.int IntKind.i64 0) := b1.out.cell 0 rfl
            have fb1_1 : W10.cell? ⟨w.heap.size + 1, 1, none⟩ = some (Value.int IntKind.i64 0) := b1.out.cell 1 rfl
            have fb1_2 : W10.cell? ⟨w.heap.size + 1, 2, none⟩ = some (Value.string ⟨#[]⟩) := b1.out.cell 2 rfl
            have fb1_3 : W10.cell? ⟨w.heap.size + 1, 3, none⟩ = some (Value.slice none 0 0) := b1.out.cell 3 rfl
            have fb1_4 : W10.cell? ⟨w.heap.size + 1, 4, none⟩ = some (Value.slice none 0 0) := b1.out.cell 4 rfl
            have fb1_z := b1.out.frozen
            have fb2_0 : W10.cell? ⟨w6.heap.size, 0, none⟩ = some (Value.int IntKind.i64 0) := b2.out.cell 0 rfl
            have fb2_1 : W10.cell? ⟨w6.heap.size, 1, none⟩ = some (Value.int IntKind.i64 0) := b2.out.cell 1 rfl
            have fb2_2 : W10.cell? ⟨w6.heap.size, 2, none⟩ = some (Value.string ⟨#[]⟩) := b2.out.cell 2 rfl
            have fb2_3 : W10.cell? ⟨w6.heap.size, 3, none⟩ = some (Value.slice none 0 0) := b2.out.cell 3 rfl
            have fb2_4 : W10.cell? ⟨w6.heap.size, 4, none⟩ = some (Value.slice none 0 0) := b2.out.cell 4 rfl
            have fb2_z := b2.out.frozen
            refine tail_b rfl ?_ (by rfl)
            go_wp2_with fail
            refine mixQ_n ?_
            refine tail_nil ?_
            refine region_gen ?_; intro W hW
            clear fb0_0 fb0_1 fb0_2 fb0_3 fb0_4 fb0_5 fb0_6 fb0_z fb1_0 fb1_1 fb1_2 fb1_3 fb1_4 fb1_z fb2_0 fb2_1 fb2_2 fb2_3 fb2_4 fb2_z
            have hz_ : W10.heap.size ≤ W.heap.size := by rw [hW]; simp
            have eF : Fr W10 W (fun k => k = w6.heap.size ∨ W10.heap.size ≤ k) := by rw [hW]; (repeat (first | with_reducible refine Fr.setCell ?_ _ (fun _ => by simp <;> omega) _ | with_reducible refine Fr.alloc ?_ _ | with_reducible refine Fr.drew ?_)); exact Fr.refl _ _
            have z1_ := z1.out; have z2_ := z2.out; have z3_ := z3.out; have z4_ := z4.out; have z5_ := z5.out; have z6_ := z6.out; have z7_ := z7.out; have z8_ := z8.out; have z9_ := z9.out; have z10_ := z10.out
            have hB := Hd.mk (((Fr.of_below hB.out (fun k => k = w6.heap.size ∨ W10.heap.size ≤ k)).then_ eF (fun k hk _ => hk)).below (fun k hk => by have := hB.out.size; omega))
            have b0 := Hd.mk (b0.out.fr eF (fun h => by have hlt_ := b0.out.lt; (try simp only at h); omega))
            have b1 := Hd.mk (b1.out.fr eF (fun h => by have hlt_ := b1.out.lt; (try simp only at h); omega))
            have b2 := Hd.mk (show Blk W (w6.heap.size) #[Value.int IntKind.i64 5, Value.int IntKind.i64 0, Value.string ⟨#[]⟩, Value.slice (some ⟨w9.heap.size, 0, none⟩) 2 2, Value.slice (some ⟨W3.heap.size, 0, none⟩) 2 2] 40 by rw [hW]; exact (Blk.all b2.out [Value.int IntKind.i64 5, Value.int IntKind.i64 0, Value.string ⟨#[]⟩, Value.slice (some ⟨w9.heap.size, 0, none⟩) 2 2, Value.slice (some ⟨W3.heap.size, 0, none⟩) 2 2] rfl))
            have hN0 := Hd.mk (R_fr hN0.out eF (fun k hk hl h => by skip; (try simp only [rng] at hk); (try simp only at hk); (try simp only at h); omega))
            have hL0 := Hd.mk (R_fr hL0.out eF (fun k hk hl h => by skip; (try simp only [rng] at hk); (try simp only at hk); (try simp only at h); omega))
            clear hW eF
            have z11 := Hd.mk hz_; clear hz_
            have hBs := hB.out.size
            have z1_ := z1.out; have z2_ := z2.out; have z3_ := z3.out; have z4_ := z4.out; have z5_ := z5.out; have z6_ := z6.out; have z7_ := z7.out; have z8_ := z8.out; have z9_ := z9.out; have z10_ := z10.out; have z11_ := z11.out
            rw [HRR.out]
            exact ⟨w6.heap.size, _, _, _, _, 2, 2, _, _, _, _, _, _, _, _, _, _, _, _, _, _, _, _, _, rfl, b2, b0, b1, ⟨by omega⟩, ⟨fun k => ⟨fun hk => by have h1 := hk.1; have h2 := hk.2; refine ⟨by omega, by omega, by omega, fun hn => by have h3 := hn.1; have h4 := hn.2; omega⟩, fun hk => by have h1 := hk.1; have h2 := hk.2; refine ⟨by omega, by omega, by omega⟩⟩⟩, hL0, hN0, hB⟩
        · refine stepM_of rfl ?_ (by rfl)
          go_wp2_with fail
          refine ⟨cls_below (below_alloc hS.out _), ?_⟩
          refine genT ?_; intro W5 hW
          have hz_ : W4.heap.size + 1 ≤ W5.heap.size := by rw [hW]; simp
          have hE : Below W4.heap.size W4 W5 := by rw [hW]; (repeat (first | with_reducible refine below_alloc ?_ _ | with_reducible refine below_drew ?_)); exact Below.refl _ _
          have hB := Hd.mk (below_then hB.out hE)
          replace hS := Hd.mk (below_then hS.out hE)
          have b0 := Hd.mk (b0.out.below hE)
          have b1 := Hd.mk (b1.out.below hE)
          have b2 := Hd.mk (show Blk W5 (W4.heap.size) #[Value.int IntKind.i64 0, Value.int IntKind.i64 0, Value.string ⟨#[]⟩, Value.slice none 0 0, Value.slice none 0 0] 40 by rw [hW]; first | exact (Blk.new _ _ _) | (simpa using (Blk.new _ _ _)))
          have hN0 := Hd.mk (R_below hN0.out hE)
          clear hW hE
          have z5 := Hd.mk hz_; clear hz_
          refine mixT_b rfl ?_ (by rfl)
          go_wp2_with fail
          apply calls_gen; intro W6 hW
          have hz_ : W5.heap.size ≤ W6.heap.size := by rw [hW]; simp
          have hE : Below W5.heap.size W5 W6 := by rw [hW]; (repeat (first | with_reducible refine below_alloc ?_ _ | with_reducible refine below_drew ?_)); exact Below.refl _ _
          have hB := Hd.mk (below_then hB.out hE)
          replace hS := Hd.mk (below_then hS.out hE)
          have b0 := Hd.mk (b0.out.below hE)
          have b1 := Hd.mk (b1.out.below hE)
          have b2 := Hd.mk (b2.out.below hE)
          have hN0 := Hd.mk (R_below hN0.out hE)
          clear hW hE
          have z6 := Hd.mk hz_; clear hz_
          refine (spec_l4Names _).mono ?_
          rintro e w7 ⟨AK, rfl, hKN, hX⟩
          have b0 := Hd.mk (b0.out.below hX)
          have b1 := Hd.mk (b1.out.below hX)
          have b2 := Hd.mk (b2.out.below hX)
          have hN0 := Hd.mk (R_below hN0.out hX)
          have hB := Hd.mk (below_then hB.out hX)
          replace hS := Hd.mk (below_then hS.out hX)
          have hz_ := hX.size
          clear hX
          have z7 := Hd.mk hz_; clear hz_
          obtain ⟨adk, rfl, xk⟩ := kind_at hKN qk hq1 hq4
          replace hKN := Hd.mk hKN; clear xk
          go_wp2_with fail
          refine ⟨cls_below hS.out, ?_⟩
          refine mixT_q rfl ?_
          go_big_quiet_want; go_big_quiet_op; go_big_quiet_on; refine wpQuiet_nil ?_
          obtain ⟨ad_, he_, xk⟩ := kind_at hKN.out qk hq1 hq4
          obtain rfl := Option.some.inj he_
          have rxk := cell_regrown xk
          clear xk hKN
          refine mixT_n (C' := fun w' => ∃ p : Regrown, w' = grow (redrawn w7 p.d) p.os) (cls_below (Below.refl _ _)) (fun w' h => cls_below (below_then hS.out (below_cls h))) ?_
          clear hS
          have hS := Hd.mk (Below.refl w7.heap.size w7)
          refine mixT_q rfl ?_
          go_big_quiet_want; go_big_quiet_op; go_big_quiet_on; refine wpQuiet_nil ?_
          refine mixT_q rfl ?_
          go_big_quiet_want; go_big_quiet_op; go_big_quiet_on; refine wpQuiet_nil ?_
          refine mixT_b rfl ?_ (by rfl)
          go_wp2_with fail
          apply calls_gen; intro W8 hW
          have hz_ : w7.heap.size ≤ W8.heap.size := by rw [hW]; simp
          have hE : Below w7.heap.size w7 W8 := by rw [hW]; (repeat (first | with_reducible refine below_alloc ?_ _ | with_reducible refine below_drew ?_)); exact Below.refl _ _
          have hB := Hd.mk (below_then hB.out hE)
          replace hS := Hd.mk (below_then hS.out hE)
          have b0 := Hd.mk (b0.out.below hE)
          have b1 := Hd.mk (b1.out.below hE)
          have b2 := Hd.mk (b2.out.below hE)
          have hN0 := Hd.mk (R_below hN0.out hE)
          clear hW hE
          have z8 := Hd.mk hz_; clear hz_
          refine (spec_WayText _ _ x.way _ (C_below HRW.out hB.out) HLW.out).mono ?_
          rintro e w9 ⟨rfl, hX⟩
          have b0 := Hd.mk (b0.out.below hX)
          have b1 := Hd.mk (b1.out.below hX)
          have b2 := Hd.mk (b2.out.below hX)
          have hN0 := Hd.mk (R_below hN0.out hX)
          have hB := Hd.mk (below_then hB.out hX)
          replace hS := Hd.mk (below_then hS.out hX)
          have hz_ := hX.size
          clear hX
          have z9 := Hd.mk hz_; clear hz_
          rw [← HTW.out]
          go_wp2_with fail
          refine ⟨cls_below hS.out, ?_⟩
          refine mixT_q rfl ?_
          go_big_quiet_want; go_big_quiet_op; go_big_quiet_on; refine wpQuiet_nil ?_
          refine mixT_b rfl ?_ (by rfl)
          go_wp2_with fail
          refine ⟨cls_below (below_alloc hS.out _), ?_⟩
          refine genT ?_; intro W10 hW
          have hL0 := Hd.mk (show (tJ (m + 1)).R 40 W10 (rng w9.heap.size (w9.heap.size + 1)) (.slice (some ⟨w9.heap.size, 0, none⟩) 2 2) [txt (kindNm (qk : Int)), txt tw] by rw [hW]; exact R_mono (fun k h => by have h : k = _ := h; simp only [rng]; omega) (R_txt2 _ _ (kindNm_size _) HTZ.out))
          have hz_ : w9.heap.size + 1 ≤ W10.heap.size := by rw [hW]; simp
          have hE : Below w9.heap.size w9 W10 := by rw [hW]; (repeat (first | with_reducible refine below_alloc ?_ _ | with_reducible refine below_drew ?_)); exact Below.refl _ _
          have hB := Hd.mk (below_then hB.out hE)
          replace hS := Hd.mk (below_then hS.out hE)
          have b0 := Hd.mk (b0.out.below hE)
          have b1 := Hd.mk (b1.out.below hE)
          have b2 := Hd.mk (b2.out.below hE)
          have hN0 := Hd.mk (R_below hN0.out hE)
          clear hW hE
          have z10 := Hd.mk hz_; clear hz_
          refine mixT_q rfl ?_
          go_big_quiet_want; go_big_quiet_op; go_big_quiet_on; refine wpQuiet_nil ?_
          refine mixT_fin ?_
          clear hS
          clear rfb0_0 rfb0_1 rfb0_2 rfb0_3 rfb0_4 rfb0_5 rfb0_6 rfb1_0 rfb1_1 rfb1_2 rfb1_3 rfb1_4
          clear fb0_0 fb0_1 fb0_2 fb0_3 fb0_4 fb0_5 fb0_6 fb0_z fb1_0 fb1_1 fb1_2 fb1_3 fb1_4 fb1_z
          have fb0_0 : W10.cell? ⟨w.heap.size, 0, none⟩ = some (Value.int IntKind.i64 (qk : Int)) := b0.out.cell 0 rfl
          have fb0_1 : W10.cell? ⟨w.heap.size, 1, none⟩ = some (Value.slice A1 x.way.length c1) := b0.out.cell 1 rfl
          have fb0_2 : W10.cell? ⟨w.heap.size, 2, none⟩ = some (Value.int IntKind.i64 x.value.kind) := b0.out.cell 2 rfl
          have fb0_3 : W10.cell? ⟨w.heap.size, 3, none⟩ = some (Value.int IntKind.i64 x.value.n) := b0.out.cell 3 rfl
          have fb0_4 : W10.cell? ⟨w.heap.size, 4, none⟩ = some (Value.string x.value.s) := b0.out.cell 4 rfl
          have fb0_5 : W10.cell? ⟨w.heap.size, 5, none⟩ = some (Value.slice A3 x.value.list.length c3) := b0.out.cell 5 rfl
          have fb0_6 : W10.cell? ⟨w.heap.size, 6, none⟩ = some (Value.slice A4 x.value.names.length c4) := b0.out.cell 6 rfl
          have fb0_z := b0.out.frozen
          have fb1_0 : W10.cell? ⟨w.heap.size + 1, 0, none⟩ = some (Value.int IntKind.i64 0) := b1.out.cell 0 rfl
          have fb1_1 : W10.cell? ⟨w.heap.size + 1, 1, none⟩ = some (Value.int IntKind.i64 0) := b1.out.cell 1 rfl
          have fb1_2 : W10.cell? ⟨w.heap.size + 1, 2, none⟩ = some (Value.string ⟨#[]⟩) := b1.out.cell 2 rfl
          have fb1_3 : W10.cell? ⟨w.heap.size + 1, 3, none⟩ = some (Value.slice none 0 0) := b1.out.cell 3 rfl
          have fb1_4 : W10.cell? ⟨w.heap.size + 1, 4, none⟩ = some (Value.slice none 0 0) := b1.out.cell 4 rfl
          have fb1_z := b1.out.frozen
          have fb2_0 : W10.cell? ⟨W4.heap.size, 0, none⟩ = some (Value.int IntKind.i64 0) := b2.out.cell 0 rfl
          have fb2_1 : W10.cell? ⟨W4.heap.size, 1, none⟩ = some (Value.int IntKind.i64 0) := b2.out.cell 1 rfl
          have fb2_2 : W10.cell? ⟨W4.heap.size, 2, none⟩ = some (Value.string ⟨#[]⟩) := b2.out.cell 2 rfl
          have fb2_3 : W10.cell? ⟨W4.heap.size, 3, none⟩ = some (Value.slice none 0 0) := b2.out.cell 3 rfl
          have fb2_4 : W10.cell? ⟨W4.heap.size, 4, none⟩ = some (Value.slice none 0 0) := b2.out.cell 4 rfl
          have fb2_z := b2.out.frozen
          refine tail_b rfl ?_ (by rfl)
          go_wp2_with fail
          refine mixQ_n ?_
          refine tail_nil ?_
          refine region_gen ?_; intro W hW
          clear fb0_0 fb0_1 fb0_2 fb0_3 fb0_4 fb0_5 fb0_6 fb0_z fb1_0 fb1_1 fb1_2 fb1_3 fb1_4 fb1_z fb2_0 fb2_1 fb2_2 fb2_3 fb2_4 fb2_z
          have hz_ : W10.heap.size ≤ W.heap.size := by rw [hW]; simp
          have eF : Fr W10 W (fun k => k = W4.heap.size ∨ W10.heap.size ≤ k) := by rw [hW]; (repeat (first | with_reducible refine Fr.setCell ?_ _ (fun _ => by simp <;> omega) _ | with_reducible refine Fr.alloc ?_ _ | with_reducible refine Fr.drew ?_)); exact Fr.refl _ _
          have z1_ := z1.out; have z2_ := z2.out; have z3_ := z3.out; have z4_ := z4.out; have z5_ := z5.out; have z6_ := z6.out; have z7_ := z7.out; have z8_ := z8.out; have z9_ := z9.out; have z10_ := z10.out
          have hB := Hd.mk (((Fr.of_below hB.out (fun k => k = W4.heap.size ∨ W10.heap.size ≤ k)).then_ eF (fun k hk _ => hk)).below (fun k hk => by have := hB.out.size; omega))
          have b0 := Hd.mk (b0.out.fr eF (fun h => by have hlt_ := b0.out.lt; (try simp only at h); omega))
          have b1 := Hd.mk (b1.out.fr eF (fun h => by have hlt_ := b1.out.lt; (try simp only at h); omega))
          have b2 := Hd.mk (show Blk W (W4.heap.size) #[Value.int IntKind.i64 5, Value.int IntKind.i64 0, Value.string ⟨#[]⟩, Value.slice (some ⟨w9.heap.size, 0, none⟩) 2 2, Value.slice (some ⟨W3.heap.size, 0, none⟩) 2 2] 40 by rw [hW]; exact (Blk.all b2.out [Value.int IntKind.i64 5, Value.int IntKind.i64 0, Value.string ⟨#[]⟩, Value.slice (some ⟨w9.heap.size, 0, none⟩) 2 2, Value.slice (some ⟨W3.heap.size, 0, none⟩) 2 2] rfl))
          have hN0 := Hd.mk (R_fr hN0.out eF (fun k hk hl h => by skip; (try simp only [rng] at hk); (try simp only at hk); (try simp only at h); omega))
          have hL0 := Hd.mk (R_fr hL0.out eF (fun k hk hl h => by skip; (try simp only [rng] at hk); (try simp only at hk); (try simp only at h); omega))
          clear hW eF
          have z11 := Hd.mk hz_; clear hz_
          have hBs := hB.out.size
          have z1_ := z1.out; have z2_ := z2.out; have z3_ := z3.out; have z4_ := z4.out; have z5_ := z5.out; have z6_ := z6.out; have z7_ := z7.out; have z8_ := z8.out; have z9_ := z9.out; have z10_ := z10.out; have z11_ := z11.out
          rw [HRR.out]
          exact ⟨W4.heap.size, _, _, _, _, 2, 2, _, _, _, _, _, _, _, _, _, _, _, _, _, _, _, _, _, rfl, b2, b0, b1, ⟨by omega⟩, ⟨fun k => ⟨fun hk => by have h1 := hk.1; have h2 := hk.2; refine ⟨by omega, by omega, by omega, fun hn => by have h3 := hn.1; have h4 := hn.2; omega⟩, fun hk => by have h1 := hk.1; have h2 := hk.2; refine ⟨by omega, by omega, by omega⟩⟩⟩, hL0, hN0, hB⟩
      · refine stepM_of rfl ?_ (by rfl)
        go_wp2_with fail
        apply calls_gen; intro W4 hW
        have hz_ : W3.heap.size ≤ W4.heap.size := by rw [hW]; simp
        have hE : Below W3.heap.size W3 W4 := by rw [hW]; (repeat (first | with_reducible refine below_alloc ?_ _ | with_reducible refine below_drew ?_)); exact Below.refl _ _
        have hB := Hd.mk (below_then hB.out hE)
        replace hS := Hd.mk (below_then hS.out hE)
        have b0 := Hd.mk (b0.out.below hE)
        have b1 := Hd.mk (b1.out.below hE)
        clear hW hE
        have z4 := Hd.mk hz_; clear hz_
        refine (spec_l4Names _).mono ?_
        rintro e w5 ⟨AK, rfl, hKN, hX⟩
        have b0 := Hd.mk (b0.out.below hX)
        have b1 := Hd.mk (b1.out.below hX)
        have hB := Hd.mk (below_then hB.out hX)
        replace hS := Hd.mk (below_then hS.out hX)
        have hz_ := hX.size
        clear hX
        have z5 := Hd.mk hz_; clear hz_
        obtain ⟨adk, rfl, xk⟩ := kind_at hKN qk hq1 hq4
        replace hKN := Hd.mk hKN; clear xk
        go_wp2_with fail
        refine ⟨cls_below hS.out, ?_⟩
        refine mixT_q rfl ?_
        go_big_quiet_want; go_big_quiet_op; go_big_quiet_on; refine wpQuiet_nil ?_
        obtain ⟨ad_, he_, xk⟩ := kind_at hKN.out qk hq1 hq4
        obtain rfl := Option.some.inj he_
        have rxk := cell_regrown xk
        clear xk hKN
        refine mixT_n (C' := fun w' => ∃ p : Regrown, w' = grow (redrawn w5 p.d) p.os) (cls_below (Below.refl _ _)) (fun w' h => cls_below (below_then hS.out (below_cls h))) ?_
        clear hS
        have hS := Hd.mk (Below.refl w5.heap.size w5)
        refine mixT_q rfl ?_
        go_big_quiet_want; go_big_quiet_op; go_big_quiet_on; refine wpQuiet_nil ?_
        refine mixT_q rfl ?_
        go_big_quiet_want; go_big_quiet_op; go_big_quiet_on; refine wpQuiet_nil ?_
        refine ⟨?_, ?_, ?_⟩
        · refine stepM_of rfl ?_ (by rfl)
          go_wp2_with fail
          refine ⟨cls_below (below_alloc hS.out _), ?_⟩
          refine genT ?_; intro W6 hW
          have hN0 := Hd.mk (show str.R 9 W6 (rng w5.heap.size (w5.heap.size + 1)) (.slice (some ⟨w5.heap.size, 0, none⟩) 2 2) [nmOp, nmPath] by rw [hW]; exact R_mono (fun k h => by have h : k = _ := h; simp only [rng]; omega) (R_strsN [nmOp, nmPath] (by decide) (by decide)))
          have hz_ : w5.heap.size + 1 ≤ W6.heap.size := by rw [hW]; simp
          have hE : Below w5.heap.size w5 W6 := by rw [hW]; (repeat (first | with_reducible refine below_alloc ?_ _ | with_reducible refine below_drew ?_)); exact Below.refl _ _
          have hB := Hd.mk (below_then hB.out hE)
          replace hS := Hd.mk (below_then hS.out hE)
          have b0 := Hd.mk (b0.out.below hE)
          have b1 := Hd.mk (b1.out.below hE)
          clear hW hE
          have z6 := Hd.mk hz_; clear hz_
          refine ⟨?_, ?_⟩
          · refine stepM_of rfl ?_ (by rfl)
            go_wp2_with fail
            apply calls_gen; intro W7 hW
            have hz_ : W6.heap.size ≤ W7.heap.size := by rw [hW]; simp
            have hE : Below W6.heap.size W6 W7 := by rw [hW]; (repeat (first | with_reducible refine below_alloc ?_ _ | with_reducible refine below_drew ?_)); exact Below.refl _ _
            have hB := Hd.mk (below_then hB.out hE)
            replace hS := Hd.mk (below_then hS.out hE)
            have b0 := Hd.mk (b0.out.below hE)
            have b1 := Hd.mk (b1.out.below hE)
            have hN0 := Hd.mk (R_below hN0.out hE)
            clear hW hE
            have z7 := Hd.mk hz_; clear hz_
            refine (spec_WayText _ _ x.way _ (C_below HRW.out hB.out) HLW.out).mono ?_
            rintro e w8 ⟨rfl, hX⟩
            have b0 := Hd.mk (b0.out.below hX)
            have b1 := Hd.mk (b1.out.below hX)
            have hN0 := Hd.mk (R_below hN0.out hX)
            have hB := Hd.mk (below_then hB.out hX)
            replace hS := Hd.mk (below_then hS.out hX)
            have hz_ := hX.size
            clear hX
            have z8 := Hd.mk hz_; clear hz_
            rw [← HTW.out]
            go_wp2_with fail
            refine ⟨cls_below hS.out, ?_⟩
            refine mixT_q rfl ?_
            go_big_quiet_want; go_big_quiet_op; go_big_quiet_on; refine wpQuiet_nil ?_
            refine ⟨?_, ?_⟩
            · refine stepM_of rfl ?_ (by rfl)
              go_wp2_with fail
              refine ⟨cls_below (below_alloc hS.out _), ?_⟩
              refine genT ?_; intro W9 hW
              have hL0 := Hd.mk (show (tJ (m + 1)).R 40 W9 (rng w8.heap.size (w8.heap.size + 1)) (.slice (some ⟨w8.heap.size, 0, none⟩) 2 2) [txt (kindNm (qk : Int)), txt tw] by rw [hW]; exact R_mono (fun k h => by have h : k = _ := h; simp only [rng]; omega) (R_txt2 _ _ (kindNm_size _) HTZ.out))
              have hz_ : w8.heap.size + 1 ≤ W9.heap.size := by rw [hW]; simp
              have hE : Below w8.heap.size w8 W9 := by rw [hW]; (repeat (first | with_reducible refine below_alloc ?_ _ | with_reducible refine below_drew ?_)); exact Below.refl _ _
              have hB := Hd.mk (below_then hB.out hE)
              replace hS := Hd.mk (below_then hS.out hE)
              have b0 := Hd.mk (b0.out.below hE)
              have b1 := Hd.mk (b1.out.below hE)
              have hN0 := Hd.mk (R_below hN0.out hE)
              clear hW hE
              have z9 := Hd.mk hz_; clear hz_
              refine mixT_q rfl ?_
              go_big_quiet_want; go_big_quiet_op; go_big_quiet_on; refine wpQuiet_nil ?_
              refine mixT_b rfl ?_ (by rfl)
              go_wp2_with fail
              refine ⟨cls_below (below_alloc hS.out _), ?_⟩
              refine genT ?_; intro W10 hW
              have hz_ : W9.heap.size + 1 ≤ W10.heap.size := by rw [hW]; simp
              have hE : Below W9.heap.size W9 W10 := by rw [hW]; (repeat (first | with_reducible refine below_alloc ?_ _ | with_reducible refine below_drew ?_)); exact Below.refl _ _
              have hB := Hd.mk (below_then hB.out hE)
              replace hS := Hd.mk (below_then hS.out hE)
              have b0 := Hd.mk (b0.out.below hE)
              have b1 := Hd.mk (b1.out.below hE)
              have b2 := Hd.mk (show Blk W10 (W9.heap.size) #[Value.int IntKind.i64 0, Value.int IntKind.i64 0, Value.string ⟨#[]⟩, Value.slice none 0 0, Value.slice none 0 0] 40 by rw [hW]; first | exact (Blk.new _ _ _) | (simpa using (Blk.new _ _ _)))
              have hN0 := Hd.mk (R_below hN0.out hE)
              have hL0 := Hd.mk (R_below hL0.out hE)
              clear hW hE
              have z10 := Hd.mk hz_; clear hz_
              refine mixT_fin ?_
              clear hS
              clear rfb0_0 rfb0_1 rfb0_2 rfb0_3 rfb0_4 rfb0_5 rfb0_6 rfb1_0 rfb1_1 rfb1_2 rfb1_3 rfb1_4
              clear fb0_0 fb0_1 fb0_2 fb0_3 fb0_4 fb0_5 fb0_6 fb0_z fb1_0 fb1_1 fb1_2 fb1_3 fb1_4 fb1_z
              have fb0_0 : W10.cell? ⟨w.heap.size, 0, none⟩ = some (Value.int IntKind.i64 (qk : Int)) := b0.out.cell 0 rfl
              have fb0_1 : W10.cell? ⟨w.heap.size, 1, none⟩ = some (Value.slice A1 x.way.length c1) := b0.out.cell 1 rfl
              have fb0_2 : W10.cell? ⟨w.heap.size, 2, none⟩ = some (Value.int IntKind.i64 x.value.kind) := b0.out.cell 2 rfl
              have fb0_3 : W10.cell? ⟨w.heap.size, 3, none⟩ = some (Value.int IntKind.i64 x.value.n) := b0.out.cell 3 rfl
              have fb0_4 : W10.cell? ⟨w.heap.size, 4, none⟩ = some (Value.string x.value.s) := b0.out.cell 4 rfl
              have fb0_5 : W10.cell? ⟨w.heap.size, 5, none⟩ = some (Value.slice A3 x.value.list.length c3) := b0.out.cell 5 rfl
              have fb0_6 : W10.cell? ⟨w.heap.size, 6, none⟩ = some (Value.slice A4 x.value.names.length c4) := b0.out.cell 6 rfl
              have fb0_z := b0.out.frozen
              have fb1_0 : W10.cell? ⟨w.heap.size + 1, 0, none⟩ = some (Value.int IntKind.i64 0) := b1.out.cell 0 rfl
              have fb1_1 : W10.cell? ⟨w.heap.size + 1, 1, none⟩ = some (Value.int IntKind.i64 0) := b1.out.cell 1 rfl
              have fb1_2 : W10.cell? ⟨w.heap.size + 1, 2, none⟩ = some (Value.string ⟨#[]⟩) := b1.out.cell 2 rfl
              have fb1_3 : W10.cell? ⟨w.heap.size + 1, 3, none⟩ = some (Value.slice none 0 0) := b1.out.cell 3 rfl
              have fb1_4 : W10.cell? ⟨w.heap.size + 1, 4, none⟩ = some (Value.slice none 0 0) := b1.out.cell 4 rfl
              have fb1_z := b1.out.frozen
              have fb2_0 : W10.cell? ⟨W9.heap.size, 0, none⟩ = some (Value.int IntKind.i64 0) := b2.out.cell 0 rfl
              have fb2_1 : W10.cell? ⟨W9.heap.size, 1, none⟩ = some (Value.int IntKind.i64 0) := b2.out.cell 1 rfl
              have fb2_2 : W10.cell? ⟨W9.heap.size, 2, none⟩ = some (Value.string ⟨#[]⟩) := b2.out.cell 2 rfl
              have fb2_3 : W10.cell? ⟨W9.heap.size, 3, none⟩ = some (Value.slice none 0 0) := b2.out.cell 3 rfl
              have fb2_4 : W10.cell? ⟨W9.heap.size, 4, none⟩ = some (Value.slice none 0 0) := b2.out.cell 4 rfl
              have fb2_z := b2.out.frozen
              refine tail_b rfl ?_ (by rfl)
              go_wp2_with fail
              refine mixQ_n ?_
              refine tail_nil ?_
              refine region_gen ?_; intro W hW
              clear fb0_0 fb0_1 fb0_2 fb0_3 fb0_4 fb0_5 fb0_6 fb0_z fb1_0 fb1_1 fb1_2 fb1_3 fb1_4 fb1_z fb2_0 fb2_1 fb2_2 fb2_3 fb2_4 fb2_z
              have hz_ : W10.heap.size ≤ W.heap.size := by rw [hW]; simp
              have eF : Fr W10 W (fun k => k = W9.heap.size ∨ W10.heap.size ≤ k) := by rw [hW]; (repeat (first | with_reducible refine Fr.setCell ?_ _ (fun _ => by simp <;> omega) _ | with_reducible refine Fr.alloc ?_ _ | with_reducible refine Fr.drew ?_)); exact Fr.refl _ _
              have z1_ := z1.out; have z2_ := z2.out; have z3_ := z3.out; have z4_ := z4.out; have z5_ := z5.out; have z6_ := z6.out; have z7_ := z7.out; have z8_ := z8.out; have z9_ := z9.out; have z10_ := z10.out
              have hB := Hd.mk (((Fr.of_below hB.out (fun k => k = W9.heap.size ∨ W10.heap.size ≤ k)).then_ eF (fun k hk _ => hk)).below (fun k hk => by have := hB.out.size; omega))
              have b0 := Hd.mk (b0.out.fr eF (fun h => by have hlt_ := b0.out.lt; (try simp only at h); omega))
              have b1 := Hd.mk (b1.out.fr eF (fun h => by have hlt_ := b1.out.lt; (try simp only at h); omega))
              have b2 := Hd.mk (show Blk W (W9.heap.size) #[Value.int IntKind.i64 5, Value.int IntKind.i64 0, Value.string ⟨#[]⟩, Value.slice (some ⟨w8.heap.size, 0, none⟩) 2 2, Value.slice (some ⟨w5.heap.size, 0, none⟩) 2 2] 40 by rw [hW]; exact (Blk.all b2.out [Value.int IntKind.i64 5, Value.int IntKind.i64 0, Value.string ⟨#[]⟩, Value.slice (some ⟨w8.heap.size, 0, none⟩) 2 2, Value.slice (some ⟨w5.heap.size, 0, none⟩) 2 2] rfl))
              have hN0 := Hd.mk (R_fr hN0.out eF (fun k hk hl h => by skip; (try simp only [rng] at hk); (try simp only at hk); (try simp only at h); omega))
              have hL0 := Hd.mk (R_fr hL0.out eF (fun k hk hl h => by skip; (try simp only [rng] at hk); (try simp only at hk); (try simp only at h); omega))
              clear hW eF
              have z11 := Hd.mk hz_; clear hz_
              have hBs := hB.out.size
              have z1_ := z1.out; have z2_ := z2.out; have z3_ := z3.out; have z4_ := z4.out; have z5_ := z5.out; have z6_ := z6.out; have z7_ := z7.out; have z8_ := z8.out; have z9_ := z9.out; have z10_ := z10.out; have z11_ := z11.out
              rw [HRR.out]
              exact ⟨W9.heap.size, _, _, _, _, 2, 2, _, _, _, _, _, _, _, _, _, _, _, _, _, _, _, _, _, rfl, b2, b0, b1, ⟨by omega⟩, ⟨fun k => ⟨fun hk => by have h1 := hk.1; have h2 := hk.2; refine ⟨by omega, by omega, by omega, fun hn => by have h3 := hn.1; have h4 := hn.2; omega⟩, fun hk => by have h1 := hk.1; have h2 := hk.2; refine ⟨by omega, by omega, by omega⟩⟩⟩, hL0, hN0, hB⟩
            · refine stepM_of rfl ?_ (by rfl)
              go_wp2_with fail
              refine ⟨cls_below (below_alloc hS.out _), ?_⟩
              refine genT ?_; intro W9 hW
              have hz_ : w8.heap.size + 1 ≤ W9.heap.size := by rw [hW]; simp
              have hE : Below w8.heap.size w8 W9 := by rw [hW]; (repeat (first | with_reducible refine below_alloc ?_ _ | with_reducible refine below_drew ?_)); exact Below.refl _ _
              have hB := Hd.mk (below_then hB.out hE)
              replace hS := Hd.mk (below_then hS.out hE)
              have b0 := Hd.mk (b0.out.below hE)
              have b1 := Hd.mk (b1.out.below hE)
              have b2 := Hd.mk (show Blk W9 (w8.heap.size) #[Value.int IntKind.i64 0, Value.int IntKind.i64 0, Value.string ⟨#[]⟩, Value.slice none 0 0, Value.slice none 0 0] 40 by rw [hW]; first | exact (Blk.new _ _ _) | (simpa using (Blk.new _ _ _)))
              have hN0 := Hd.mk (R_below hN0.out hE)
              clear hW hE
              have z9 := Hd.mk hz_; clear hz_
              refine mixT_b rfl ?_ (by rfl)
              go_wp2_with fail
              refine ⟨cls_below (below_alloc hS.out _), ?_⟩
              refine genT ?_; intro W10 hW
              have hL0 := Hd.mk (show (tJ (m + 1)).R 40 W10 (rng W9.heap.size (W9.heap.size + 1)) (.slice (some ⟨W9.heap.size, 0, none⟩) 2 2) [txt (kindNm (qk : Int)), txt tw] by rw [hW]; exact R_mono (fun k h => by have h : k = _ := h; simp only [rng]; omega) (R_txt2 _ _ (kindNm_size _) HTZ.out))
              have hz_ : W9.heap.size + 1 ≤ W10.heap.size := by rw [hW]; simp
              have hE : Below W9.heap.size W9 W10 := by rw [hW]; (repeat (first | with_reducible refine below_alloc ?_ _ | with_reducible refine below_drew ?_)); exact Below.refl _ _
              have hB := Hd.mk (below_then hB.out hE)
              replace hS := Hd.mk (below_then hS.out hE)
              have b0 := Hd.mk (b0.out.below hE)
              have b1 := Hd.mk (b1.out.below hE)
              have b2 := Hd.mk (b2.out.below hE)
              have hN0 := Hd.mk (R_below hN0.out hE)
              clear hW hE
              have z10 := Hd.mk hz_; clear hz_
              refine mixT_q rfl ?_
              go_big_quiet_want; go_big_quiet_op; go_big_quiet_on; refine wpQuiet_nil ?_
              refine mixT_fin ?_
              clear hS
              clear rfb0_0 rfb0_1 rfb0_2 rfb0_3 rfb0_4 rfb0_5 rfb0_6 rfb1_0 rfb1_1 rfb1_2 rfb1_3 rfb1_4
              clear fb0_0 fb0_1 fb0_2 fb0_3 fb0_4 fb0_5 fb0_6 fb0_z fb1_0 fb1_1 fb1_2 fb1_3 fb1_4 fb1_z
              have fb0_0 : W10.cell? ⟨w.heap.size, 0, none⟩ = some (Value.int IntKind.i64 (qk : Int)) := b0.out.cell 0 rfl
              have fb0_1 : W10.cell? ⟨w.heap.size, 1, none⟩ = some (Value.slice A1 x.way.length c1) := b0.out.cell 1 rfl
              have fb0_2 : W10.cell? ⟨w.heap.size, 2, none⟩ = some (Value.int IntKind.i64 x.value.kind) := b0.out.cell 2 rfl
              have fb0_3 : W10.cell? ⟨w.heap.size, 3, none⟩ = some (Value.int IntKind.i64 x.value.n) := b0.out.cell 3 rfl
              have fb0_4 : W10.cell? ⟨w.heap.size, 4, none⟩ = some (Value.string x.value.s) := b0.out.cell 4 rfl
              have fb0_5 : W10.cell? ⟨w.heap.size, 5, none⟩ = some (Value.slice A3 x.value.list.length c3) := b0.out.cell 5 rfl
              have fb0_6 : W10.cell? ⟨w.heap.size, 6, none⟩ = some (Value.slice A4 x.value.names.length c4) := b0.out.cell 6 rfl
              have fb0_z := b0.out.frozen
              have fb1_0 : W10.cell? ⟨w.heap.size + 1, 0, none⟩ = some (Value.int IntKind.i64 0) := b1.out.cell 0 rfl
              have fb1_1 : W10.cell? ⟨w.heap.size + 1, 1, none⟩ = some (Value.int IntKind.i64 0) := b1.out.cell 1 rfl
              have fb1_2 : W10.cell? ⟨w.heap.size + 1, 2, none⟩ = some (Value.string ⟨#[]⟩) := b1.out.cell 2 rfl
              have fb1_3 : W10.cell? ⟨w.heap.size + 1, 3, none⟩ = some (Value.slice none 0 0) := b1.out.cell 3 rfl
              have fb1_4 : W10.cell? ⟨w.heap.size + 1, 4, none⟩ = some (Value.slice none 0 0) := b1.out.cell 4 rfl
              have fb1_z := b1.out.frozen
              have fb2_0 : W10.cell? ⟨w8.heap.size, 0, none⟩ = some (Value.int IntKind.i64 0) := b2.out.cell 0 rfl
              have fb2_1 : W10.cell? ⟨w8.heap.size, 1, none⟩ = some (Value.int IntKind.i64 0) := b2.out.cell 1 rfl
              have fb2_2 : W10.cell? ⟨w8.heap.size, 2, none⟩ = some (Value.string ⟨#[]⟩) := b2.out.cell 2 rfl
              have fb2_3 : W10.cell? ⟨w8.heap.size, 3, none⟩ = some (Value.slice none 0 0) := b2.out.cell 3 rfl
              have fb2_4 : W10.cell? ⟨w8.heap.size, 4, none⟩ = some (Value.slice none 0 0) := b2.out.cell 4 rfl
              have fb2_z := b2.out.frozen
              refine tail_b rfl ?_ (by rfl)
              go_wp2_with fail
              refine mixQ_n ?_
              refine tail_nil ?_
              refine region_gen ?_; intro W hW
              clear fb0_0 fb0_1 fb0_2 fb0_3 fb0_4 fb0_5 fb0_6 fb0_z fb1_0 fb1_1 fb1_2 fb1_3 fb1_4 fb1_z fb2_0 fb2_1 fb2_2 fb2_3 fb2_4 fb2_z
              have hz_ : W10.heap.size ≤ W.heap.size := by rw [hW]; simp
              have eF : Fr W10 W (fun k => k = w8.heap.size ∨ W10.heap.size ≤ k) := by rw [hW]; (repeat (first | with_reducible refine Fr.setCell ?_ _ (fun _ => by simp <;> omega) _ | with_reducible refine Fr.alloc ?_ _ | with_reducible refine Fr.drew ?_)); exact Fr.refl _ _
              have z1_ := z1.out; have z2_ := z2.out; have z3_ := z3.out; have z4_ := z4.out; have z5_ := z5.out; have z6_ := z6.out; have z7_ := z7.out; have z8_ := z8.out; have z9_ := z9.out; have z10_ := z10.out
              have hB := Hd.mk (((Fr.of_below hB.out (fun k => k = w8.heap.size ∨ W10.heap.size ≤ k)).then_ eF (fun k hk _ => hk)).below (fun k hk => by have := hB.out.size; omega))
              have b0 := Hd.mk (b0.out.fr eF (fun h => by have hlt_ := b0.out.lt; (try simp only at h); omega))
              have b1 := Hd.mk (b1.out.fr eF (fun h => by have hlt_ := b1.out.lt; (try simp only at h); omega))
              have b2 := Hd.mk (show Blk W (w8.heap.size) #[Value.int IntKind.i64 5, Value.int IntKind.i64 0, Value.string ⟨#[]⟩, Value.slice (some ⟨W9.heap.size, 0, none⟩) 2 2, Value.slice (some ⟨w5.heap.size, 0, none⟩) 2 2] 40 by rw [hW]; exact (Blk.all b2.out [Value.int IntKind.i64 5, Value.int IntKind.i64 0, Value.string ⟨#[]⟩, Value.slice (some ⟨W9.heap.size, 0, none⟩) 2 2, Value.slice (some ⟨w5.heap.size, 0, none⟩) 2 2] rfl))
              have hN0 := Hd.mk (R_fr hN0.out eF (fun k hk hl h => by skip; (try simp only [rng] at hk); (try simp only at hk); (try simp only at h); omega))
              have hL0 := Hd.mk (R_fr hL0.out eF (fun k hk hl h => by skip; (try simp only [rng] at hk); (try simp only at hk); (try simp only at h); omega))
              clear hW eF
              have z11 := Hd.mk hz_; clear hz_
              have hBs := hB.out.size
              have z1_ := z1.out; have z2_ := z2.out; have z3_ := z3.out; have z4_ := z4.out; have z5_ := z5.out; have z6_ := z6.out; have z7_ := z7.out; have z8_ := z8.out; have z9_ := z9.out; have z10_ := z10.out; have z11_ := z11.out
              rw [HRR.out]
              exact ⟨w8.heap.size, _, _, _, _, 2, 2, _, _, _, _, _, _, _, _, _, _, _, _, _, _, _, _, _, rfl, b2, b0, b1, ⟨by omega⟩, ⟨fun k => ⟨fun hk => by have h1 := hk.1; have h2 := hk.2; refine ⟨by omega, by omega, by omega, fun hn => by have h3 := hn.1; have h4 := hn.2; omega⟩, fun hk => by have h1 := hk.1; have h2 := hk.2; refine ⟨by omega, by omega, by omega⟩⟩⟩, hL0, hN0, hB⟩
          · refine stepM_of rfl ?_ (by rfl)
            go_wp2_with fail
            refine ⟨cls_below (below_alloc hS.out _), ?_⟩
            refine genT ?_; intro W7 hW
            have hz_ : W6.heap.size + 1 ≤ W7.heap.size := by rw [hW]; simp
            have hE : Below W6.heap.size W6 W7 := by rw [hW]; (repeat (first | with_reducible refine below_alloc ?_ _ | with_reducible refine below_drew ?_)); exact Below.refl _ _
            have hB := Hd.mk (below_then hB.out hE)
            replace hS := Hd.mk (below_then hS.out hE)
            have b0 := Hd.mk (b0.out.below hE)
            have b1 := Hd.mk (b1.out.below hE)
            have b2 := Hd.mk (show Blk W7 (W6.heap.size) #[Value.int IntKind.i64 0, Value.int IntKind.i64 0, Value.string ⟨#[]⟩, Value.slice none 0 0, Value.slice none 0 0] 40 by rw [hW]; first | exact (Blk.new _ _ _) | (simpa using (Blk.new _ _ _)))
            have hN0 := Hd.mk (R_below hN0.out hE)
            clear hW hE
            have z7 := Hd.mk hz_; clear hz_
            refine mixT_b rfl ?_ (by rfl)
            go_wp2_with fail
            apply calls_gen; intro W8 hW
            have hz_ : W7.heap.size ≤ W8.heap.size := by rw [hW]; simp
            have hE : Below W7.heap.size W7 W8 := by rw [hW]; (repeat (first | with_reducible refine below_alloc ?_ _ | with_reducible refine below_drew ?_)); exact Below.refl _ _
            have hB := Hd.mk (below_then hB.out hE)
            replace hS := Hd.mk (below_then hS.out hE)
            have b0 := Hd.mk (b0.out.below hE)
            have b1 := Hd.mk (b1.out.below hE)
            have b2 := Hd.mk (b2.out.below hE)
            have hN0 := Hd.mk (R_below hN0.out hE)
            clear hW hE
            have z8 := Hd.mk hz_; clear hz_
            refine (spec_WayText _ _ x.way _ (C_below HRW.out hB.out) HLW.out).mono ?_
            rintro e w9 ⟨rfl, hX⟩
            have b0 := Hd.mk (b0.out.below hX)
            have b1 := Hd.mk (b1.out.below hX)
            have b2 := Hd.mk (b2.out.below hX)
            have hN0 := Hd.mk (R_below hN0.out hX)
            have hB := Hd.mk (below_then hB.out hX)
            replace hS := Hd.mk (below_then hS.out hX)
            have hz_ := hX.size
            clear hX
            have z9 := Hd.mk hz_; clear hz_
            rw [← HTW.out]
            go_wp2_with fail
            refine ⟨cls_below hS.out, ?_⟩
            refine mixT_q rfl ?_
            go_big_quiet_want; go_big_quiet_op; go_big_quiet_on; refine wpQuiet_nil ?_
            refine mixT_b rfl ?_ (by rfl)
            go_wp2_with fail
            refine ⟨cls_below (below_alloc hS.out _), ?_⟩
            refine genT ?_; intro W10 hW
            have hL0 := Hd.mk (show (tJ (m + 1)).R 40 W10 (rng w9.heap.size (w9.heap.size + 1)) (.slice (some ⟨w9.heap.size, 0, none⟩) 2 2) [txt (kindNm (qk : Int)), txt tw] by rw [hW]; exact R_mono (fun k h => by have h : k = _ := h; simp only [rng]; omega) (R_txt2 _ _ (kindNm_size _) HTZ.out))
            have hz_ : w9.heap.size + 1 ≤ W10.heap.size := by rw [hW]; simp
            have hE : Below w9.heap.size w9 W10 := by rw [hW]; (repeat (first | with_reducible refine below_alloc ?_ _ | with_reducible refine below_drew ?_)); exact Below.refl _ _
            have hB := Hd.mk (below_then hB.out hE)
            replace hS := Hd.mk (below_then hS.out hE)
            have b0 := Hd.mk (b0.out.below hE)
            have b1 := Hd.mk (b1.out.below hE)
            have b2 := Hd.mk (b2.out.below hE)
            have hN0 := Hd.mk (R_below hN0.out hE)
            clear hW hE
            have z10 := Hd.mk hz_; clear hz_
            refine mixT_q rfl ?_
            go_big_quiet_want; go_big_quiet_op; go_big_quiet_on; refine wpQuiet_nil ?_
            refine mixT_fin ?_
            clear hS
            clear rfb0_0 rfb0_1 rfb0_2 rfb0_3 rfb0_4 rfb0_5 rfb0_6 rfb1_0 rfb1_1 rfb1_2 rfb1_3 rfb1_4
            clear fb0_0 fb0_1 fb0_2 fb0_3 fb0_4 fb0_5 fb0_6 fb0_z fb1_0 fb1_1 fb1_2 fb1_3 fb1_4 fb1_z
            have fb0_0 : W10.cell? ⟨w.heap.size, 0, none⟩ = some (Value.int IntKind.i64 (qk : Int)) := b0.out.cell 0 rfl
            have fb0_1 : W10.cell? ⟨w.heap.size, 1, none⟩ = some (Value.slice A1 x.way.length c1) := b0.out.cell 1 rfl
            have fb0_2 : W10.cell? ⟨w.heap.size, 2, none⟩ = some (Value.int IntKind.i64 x.value.kind) := b0.out.cell 2 rfl
            have fb0_3 : W10.cell? ⟨w.heap.size, 3, none⟩ = some (Value.int IntKind.i64 x.value.n) := b0.out.cell 3 rfl
            have fb0_4 : W10.cell? ⟨w.heap.size, 4, none⟩ = some (Value.string x.value.s) := b0.out.cell 4 rfl
            have fb0_5 : W10.cell? ⟨w.heap.size, 5, none⟩ = some (Value.slice A3 x.value.list.length c3) := b0.out.cell 5 rfl
            have fb0_6 : W10.cell? ⟨w.heap.size, 6, none⟩ = some (Value.slice A4 x.value.names.length c4) := b0.out.cell 6 rfl
            have fb0_z := b0.out.frozen
            have fb1_0 : W10.cell? ⟨w.heap.size + 1, 0, none⟩ = some (Value.int IntKind.i64 0) := b1.out.cell 0 rfl
            have fb1_1 : W10.cell? ⟨w.heap.size + 1, 1, none⟩ = some (Value.int IntKind.i64 0) := b1.out.cell 1 rfl
            have fb1_2 : W10.cell? ⟨w.heap.size + 1, 2, none⟩ = some (Value.string ⟨#[]⟩) := b1.out.cell 2 rfl
            have fb1_3 : W10.cell? ⟨w.heap.size + 1, 3, none⟩ = some (Value.slice none 0 0) := b1.out.cell 3 rfl
            have fb1_4 : W10.cell? ⟨w.heap.size + 1, 4, none⟩ = some (Value.slice none 0 0) := b1.out.cell 4 rfl
            have fb1_z := b1.out.frozen
            have fb2_0 : W10.cell? ⟨W6.heap.size, 0, none⟩ = some (Value.int IntKind.i64 0) := b2.out.cell 0 rfl
            have fb2_1 : W10.cell? ⟨W6.heap.size, 1, none⟩ = some (Value.int IntKind.i64 0) := b2.out.cell 1 rfl
            have fb2_2 : W10.cell? ⟨W6.heap.size, 2, none⟩ = some (Value.string ⟨#[]⟩) := b2.out.cell 2 rfl
            have fb2_3 : W10.cell? ⟨W6.heap.size, 3, none⟩ = some (Value.slice none 0 0) := b2.out.cell 3 rfl
            have fb2_4 : W10.cell? ⟨W6.heap.size, 4, none⟩ = some (Value.slice none 0 0) := b2.out.cell 4 rfl
            have fb2_z := b2.out.frozen
            refine tail_b rfl ?_ (by rfl)
            go_wp2_with fail
            refine mixQ_n ?_
            refine tail_nil ?_
            refine region_gen ?_; intro W hW
            clear fb0_0 fb0_1 fb0_2 fb0_3 fb0_4 fb0_5 fb0_6 fb0_z fb1_0 fb1_1 fb1_2 fb1_3 fb1_4 fb1_z fb2_0 fb2_1 fb2_2 fb2_3 fb2_4 fb2_z
            have hz_ : W10.heap.size ≤ W.heap.size := by rw [hW]; simp
            have eF : Fr W10 W (fun k => k = W6.heap.size ∨ W10.heap.size ≤ k) := by rw [hW]; (repeat (first | with_reducible refine Fr.setCell ?_ _ (fun _ => by simp <;> omega) _ | with_reducible refine Fr.alloc ?_ _ | with_reducible refine Fr.drew ?_)); exact Fr.refl _ _
            have z1_ := z1.out; have z2_ := z2.out; have z3_ := z3.out; have z4_ := z4.out; have z5_ := z5.out; have z6_ := z6.out; have z7_ := z7.out; have z8_ := z8.out; have z9_ := z9.out; have z10_ := z10.out
            have hB := Hd.mk (((Fr.of_below hB.out (fun k => k = W6.heap.size ∨ W10.heap.size ≤ k)).then_ eF (fun k hk _ => hk)).below (fun k hk => by have := hB.out.size; omega))
            have b0 := Hd.mk (b0.out.fr eF (fun h => by have hlt_ := b0.out.lt; (try simp only at h); omega))
            have b1 := Hd.mk (b1.out.fr eF (fun h => by have hlt_ := b1.out.lt; (try simp only at h); omega))
            have b2 := Hd.mk (show Blk W (W6.heap.size) #[Value.int IntKind.i64 5, Value.int IntKind.i64 0, Value.string ⟨#[]⟩, Value.slice (some ⟨w9.heap.size, 0, none⟩) 2 2, Value.slice (some ⟨w5.heap.size, 0, none⟩) 2 2] 40 by rw [hW]; exact (Blk.all b2.out [Value.int IntKind.i64 5, Value.int IntKind.i64 0, Value.string ⟨#[]⟩, Value.slice (some ⟨w9.heap.size, 0, none⟩) 2 2, Value.slice (some ⟨w5.heap.size, 0, none⟩) 2 2] rfl))
            have hN0 := Hd.mk (R_fr hN0.out eF (fun k hk hl h => by skip; (try simp only [rng] at hk); (try simp only at hk); (try simp only at h); omega))
            have hL0 := Hd.mk (R_fr hL0.out eF (fun k hk hl h => by skip; (try simp only [rng] at hk); (try simp only at hk); (try simp only at h); omega))
            clear hW eF
            have z11 := Hd.mk hz_; clear hz_
            have hBs := hB.out.size
            have z1_ := z1.out; have z2_ := z2.out; have z3_ := z3.out; have z4_ := z4.out; have z5_ := z5.out; have z6_ := z6.out; have z7_ := z7.out; have z8_ := z8.out; have z9_ := z9.out; have z10_ := z10.out; have z11_ := z11.out
            rw [HRR.out]
            exact ⟨W6.heap.size, _, _, _, _, 2, 2, _, _, _, _, _, _, _, _, _, _, _, _, _, _, _, _, _, rfl, b2, b0, b1, ⟨by omega⟩, ⟨fun k => ⟨fun hk => by have h1 := hk.1; have h2 := hk.2; refine ⟨by omega, by omega, by omega, fun hn => by have h3 := hn.1; have h4 := hn.2; omega⟩, fun hk => by have h1 := hk.1; have h2 := hk.2; refine ⟨by omega, by omega, by omega⟩⟩⟩, hL0, hN0, hB⟩
        · refine stepM_of rfl ?_ (by rfl)
          go_wp2_with fail
          apply calls_gen; intro W6 hW
          have hz_ : w5.heap.size ≤ W6.heap.size := by rw [hW]; simp
          have hE : Below w5.heap.size w5 W6 := by rw [hW]; (repeat (first | with_reducible refine below_alloc ?_ _ | with_reducible refine below_drew ?_)); exact Below.refl _ _
          have hB := Hd.mk (below_then hB.out hE)
          replace hS := Hd.mk (below_then hS.out hE)
          have b0 := Hd.mk (b0.out.below hE)
          have b1 := Hd.mk (b1.out.below hE)
          clear hW hE
          have z6 := Hd.mk hz_; clear hz_
          refine (spec_WayText _ _ x.way _ (C_below HRW.out hB.out) HLW.out).mono ?_
          rintro e w7 ⟨rfl, hX⟩
          have b0 := Hd.mk (b0.out.below hX)
          have b1 := Hd.mk (b1.out.below hX)
          have hB := Hd.mk (below_then hB.out hX)
          replace hS := Hd.mk (below_then hS.out hX)
          have hz_ := hX.size
          clear hX
          have z7 := Hd.mk hz_; clear hz_
          rw [← HTW.out]
          go_wp2_with fail
          refine ⟨cls_below hS.out, ?_⟩
          refine mixT_q rfl ?_
          go_big_quiet_want; go_big_quiet_op; go_big_quiet_on; refine wpQuiet_nil ?_
          refine ⟨?_, ?_, ?_⟩
          · refine stepM_of rfl ?_ (by rfl)
            go_wp2_with fail
            refine ⟨cls_below (below_alloc hS.out _), ?_⟩
            refine genT ?_; intro W8 hW
            have hN0 := Hd.mk (show str.R 9 W8 (rng w7.heap.size (w7.heap.size + 1)) (.slice (some ⟨w7.heap.size, 0, none⟩) 2 2) [nmOp, nmPath] by rw [hW]; exact R_mono (fun k h => by have h : k = _ := h; simp only [rng]; omega) (R_strsN [nmOp, nmPath] (by decide) (by decide)))
            have hz_ : w7.heap.size + 1 ≤ W8.heap.size := by rw [hW]; simp
            have hE : Below w7.heap.size w7 W8 := by rw [hW]; (repeat (first | with_reducible refine below_alloc ?_ _ | with_reducible refine below_drew ?_)); exact Below.refl _ _
            have hB := Hd.mk (below_then hB.out hE)
            replace hS := Hd.mk (below_then hS.out hE)
            have b0 := Hd.mk (b0.out.below hE)
            have b1 := Hd.mk (b1.out.below hE)
            clear hW hE
            have z8 := Hd.mk hz_; clear hz_
            refine ⟨?_, ?_⟩
            · refine stepM_of rfl ?_ (by rfl)
              go_wp2_with fail
              refine ⟨cls_below (below_alloc hS.out _), ?_⟩
              refine genT ?_; intro W9 hW
              have hL0 := Hd.mk (show (tJ (m + 1)).R 40 W9 (rng W8.heap.size (W8.heap.size + 1)) (.slice (some ⟨W8.heap.size, 0, none⟩) 2 2) [txt (kindNm (qk : Int)), txt tw] by rw [hW]; exact R_mono (fun k h => by have h : k = _ := h; simp only [rng]; omega) (R_txt2 _ _ (kindNm_size _) HTZ.out))
              have hz_ : W8.heap.size + 1 ≤ W9.heap.size := by rw [hW]; simp
              have hE : Below W8.heap.size W8 W9 := by rw [hW]; (repeat (first | with_reducible refine below_alloc ?_ _ | with_reducible refine below_drew ?_)); exact Below.refl _ _
              have hB := Hd.mk (below_then hB.out hE)
              replace hS := Hd.mk (below_then hS.out hE)
              have b0 := Hd.mk (b0.out.below hE)
              have b1 := Hd.mk (b1.out.below hE)
              have hN0 := Hd.mk (R_below hN0.out hE)
              clear hW hE
              have z9 := Hd.mk hz_; clear hz_
              refine mixT_q rfl ?_
              go_big_quiet_want; go_big_quiet_op; go_big_quiet_on; refine wpQuiet_nil ?_
              refine mixT_b rfl ?_ (by rfl)
              go_wp2_with fail
              refine ⟨cls_below (below_alloc hS.out _), ?_⟩
              refine genT ?_; intro W10 hW
              have hz_ : W9.heap.size + 1 ≤ W10.heap.size := by rw [hW]; simp
              have hE : Below W9.heap.size W9 W10 := by rw [hW]; (repeat (first | with_reducible refine below_alloc ?_ _ | with_reducible refine below_drew ?_)); exact Below.refl _ _
              have hB := Hd.mk (below_then hB.out hE)
              replace hS := Hd.mk (below_then hS.out hE)
              have b0 := Hd.mk (b0.out.below hE)
              have b1 := Hd.mk (b1.out.below hE)
              have b2 := Hd.mk (show Blk W10 (W9.heap.size) #[Value.int IntKind.i64 0, Value.int IntKind.i64 0, Value.string ⟨#[]⟩, Value.slice none 0 0, Value.slice none 0 0] 40 by rw [hW]; first | exact (Blk.new _ _ _) | (simpa using (Blk.new _ _ _)))
              have hN0 := Hd.mk (R_below hN0.out hE)
              have hL0 := Hd.mk (R_below hL0.out hE)
              clear hW hE
              have z10 := Hd.mk hz_; clear hz_
              refine mixT_fin ?_
              clear hS
              clear rfb0_0 rfb0_1 rfb0_2 rfb0_3 rfb0_4 rfb0_5 rfb0_6 rfb1_0 rfb1_1 rfb1_2 rfb1_3 rfb1_4
              clear fb0_0 fb0_1 fb0_2 fb0_3 fb0_4 fb0_5 fb0_6 fb0_z fb1_0 fb1_1 fb1_2 fb1_3 fb1_4 fb1_z
              have fb0_0 : W10.cell? ⟨w.heap.size, 0, none⟩ = some (Value.int IntKind.i64 (qk : Int)) := b0.out.cell 0 rfl
              have fb0_1 : W10.cell? ⟨w.heap.size, 1, none⟩ = some (Value.slice A1 x.way.length c1) := b0.out.cell 1 rfl
              have fb0_2 : W10.cell? ⟨w.heap.size, 2, none⟩ = some (Value.int IntKind.i64 x.value.kind) := b0.out.cell 2 rfl
              have fb0_3 : W10.cell? ⟨w.heap.size, 3, none⟩ = some (Value.int IntKind.i64 x.value.n) := b0.out.cell 3 rfl
              have fb0_4 : W10.cell? ⟨w.heap.size, 4, none⟩ = some (Value.string x.value.s) := b0.out.cell 4 rfl
              have fb0_5 : W10.cell? ⟨w.heap.size, 5, none⟩ = some (Value.slice A3 x.value.list.length c3) := b0.out.cell 5 rfl
              have fb0_6 : W10.cell? ⟨w.heap.size, 6, none⟩ = some (Value.slice A4 x.value.names.length c4) := b0.out.cell 6 rfl
              have fb0_z := b0.out.frozen
              have fb1_0 : W10.cell? ⟨w.heap.size + 1, 0, none⟩ = some (Value.int IntKind.i64 0) := b1.out.cell 0 rfl
              have fb1_1 : W10.cell? ⟨w.heap.size + 1, 1, none⟩ = some (Value.int IntKind.i64 0) := b1.out.cell 1 rfl
              have fb1_2 : W10.cell? ⟨w.heap.size + 1, 2, none⟩ = some (Value.string ⟨#[]⟩) := b1.out.cell 2 rfl
              have fb1_3 : W10.cell? ⟨w.heap.size + 1, 3, none⟩ = some (Value.slice none 0 0) := b1.out.cell 3 rfl
              have fb1_4 : W10.cell? ⟨w.heap.size + 1, 4, none⟩ = some (Value.slice none 0 0) := b1.out.cell 4 rfl
              have fb1_z := b1.out.frozen
              have fb2_0 : W10.cell? ⟨W9.heap.size, 0, none⟩ = some (Value.int IntKind.i64 0) := b2.out.cell 0 rfl
              have fb2_1 : W10.cell? ⟨W9.heap.size, 1, none⟩ = some (Value.int IntKind.i64 0) := b2.out.cell 1 rfl
              have fb2_2 : W10.cell? ⟨W9.heap.size, 2, none⟩ = some (Value.string ⟨#[]⟩) := b2.out.cell 2 rfl
              have fb2_3 : W10.cell? ⟨W9.heap.size, 3, none⟩ = some (Value.slice none 0 0) := b2.out.cell 3 rfl
              have fb2_4 : W10.cell? ⟨W9.heap.size, 4, none⟩ = some (Value.slice none 0 0) := b2.out.cell 4 rfl
              have fb2_z := b2.out.frozen
              refine tail_b rfl ?_ (by rfl)
              go_wp2_with fail
              refine mixQ_n ?_
              refine tail_nil ?_
              refine region_gen ?_; intro W hW
              clear fb0_0 fb0_1 fb0_2 fb0_3 fb0_4 fb0_5 fb0_6 fb0_z fb1_0 fb1_1 fb1_2 fb1_3 fb1_4 fb1_z fb2_0 fb2_1 fb2_2 fb2_3 fb2_4 fb2_z
              have hz_ : W10.heap.size ≤ W.heap.size := by rw [hW]; simp
              have eF : Fr W10 W (fun k => k = W9.heap.size ∨ W10.heap.size ≤ k) := by rw [hW]; (repeat (first | with_reducible refine Fr.setCell ?_ _ (fun _ => by simp <;> omega) _ | with_reducible refine Fr.alloc ?_ _ | with_reducible refine Fr.drew ?_)); exact Fr.refl _ _
              have z1_ := z1.out; have z2_ := z2.out; have z3_ := z3.out; have z4_ := z4.out; have z5_ := z5.out; have z6_ := z6.out; have z7_ := z7.out; have z8_ := z8.out; have z9_ := z9.out; have z10_ := z10.out
              have hB := Hd.mk (((Fr.of_below hB.out (fun k => k = W9.heap.size ∨ W10.heap.size ≤ k)).then_ eF (fun k hk _ => hk)).below (fun k hk => by have := hB.out.size; omega))
              have b0 := Hd.mk (b0.out.fr eF (fun h => by have hlt_ := b0.out.lt; (try simp only at h); omega))
              have b1 := Hd.mk (b1.out.fr eF (fun h => by have hlt_ := b1.out.lt; (try simp only at h); omega))
              have b2 := Hd.mk (show Blk W (W9.heap.size) #[Value.int IntKind.i64 5, Value.int IntKind.i64 0, Value.string ⟨#[]⟩, Value.slice (some ⟨W8.heap.size, 0, none⟩) 2 2, Value.slice (some ⟨w7.heap.size, 0, none⟩) 2 2] 40 by rw [hW]; exact (Blk.all b2.out [Value.int IntKind.i64 5, Value.int IntKind.i64 0, Value.string ⟨#[]⟩, Value.slice (some ⟨W8.heap.size, 0, none⟩) 2 2, Value.slice (some ⟨w7.heap.size, 0, none⟩) 2 2] rfl))
              have hN0 := Hd.mk (R_fr hN0.out eF (fun k hk hl h => by skip; (try simp only [rng] at hk); (try simp only at hk); (try simp only at h); omega))
              have hL0 := Hd.mk (R_fr hL0.out eF (fun k hk hl h => by skip; (try simp only [rng] at hk); (try simp only at hk); (try simp only at h); omega))
              clear hW eF
              have z11 := Hd.mk hz_; clear hz_
              have hBs := hB.out.size
              have z1_ := z1.out; have z2_ := z2.out; have z3_ := z3.out; have z4_ := z4.out; have z5_ := z5.out; have z6_ := z6.out; have z7_ := z7.out; have z8_ := z8.out; have z9_ := z9.out; have z10_ := z10.out; have z11_ := z11.out
              rw [HRR.out]
              exact ⟨W9.heap.size, _, _, _, _, 2, 2, _, _, _, _, _, _, _, _, _, _, _, _, _, _, _, _, _, rfl, b2, b0, b1, ⟨by omega⟩, ⟨fun k => ⟨fun hk => by have h1 := hk.1; have h2 := hk.2; refine ⟨by omega, by omega, by omega, fun hn => by have h3 := hn.1; have h4 := hn.2; omega⟩, fun hk => by have h1 := hk.1; have h2 := hk.2; refine ⟨by omega, by omega, by omega⟩⟩⟩, hL0, hN0, hB⟩
            · refine stepM_of rfl ?_ (by rfl)
              go_wp2_with fail
              refine ⟨cls_below (below_alloc hS.out _), ?_⟩
              refine genT ?_; intro W9 hW
              have hz_ : W8.heap.size + 1 ≤ W9.heap.size := by rw [hW]; simp
              have hE : Below W8.heap.size W8 W9 := by rw [hW]; (repeat (first | with_reducible refine below_alloc ?_ _ | with_reducible refine below_drew ?_)); exact Below.refl _ _
              have hB := Hd.mk (below_then hB.out hE)
              replace hS := Hd.mk (below_then hS.out hE)
              have b0 := Hd.mk (b0.out.below hE)
              have b1 := Hd.mk (b1.out.below hE)
              have b2 := Hd.mk (show Blk W9 (W8.heap.size) #[Value.int IntKind.i64 0, Value.int IntKind.i64 0, Value.string ⟨#[]⟩, Value.slice none 0 0, Value.slice none 0 0] 40 by rw [hW]; first | exact (Blk.new _ _ _) | (simpa using (Blk.new _ _ _)))
              have hN0 := Hd.mk (R_below hN0.out hE)
              clear hW hE
              have z9 := Hd.mk hz_; clear hz_
              refine mixT_b rfl ?_ (by rfl)
              go_wp2_with fail
              refine ⟨cls_below (below_alloc hS.out _), ?_⟩
              refine genT ?_; intro W10 hW
              have hL0 := Hd.mk (show (tJ (m + 1)).R 40 W10 (rng W9.heap.size (W9.heap.size + 1)) (.slice (some ⟨W9.heap.size, 0, none⟩) 2 2) [txt (kindNm (qk : Int)), txt tw] by rw [hW]; exact R_mono (fun k h => by have h : k = _ := h; simp only [rng]; omega) (R_txt2 _ _ (kindNm_size _) HTZ.out))
              have hz_ : W9.heap.size + 1 ≤ W10.heap.size := by rw [hW]; simp
              have hE : Below W9.heap.size W9 W10 := by rw [hW]; (repeat (first | with_reducible refine below_alloc ?_ _ | with_reducible refine below_drew ?_)); exact Below.refl _ _
              have hB := Hd.mk (below_then hB.out hE)
              replace hS := Hd.mk (below_then hS.out hE)
              have b0 := Hd.mk (b0.out.below hE)
              have b1 := Hd.mk (b1.out.below hE)
              have b2 := Hd.mk (b2.out.below hE)
              have hN0 := Hd.mk (R_below hN0.out hE)
              clear hW hE
              have z10 := Hd.mk hz_; clear hz_
              refine mixT_q rfl ?_
              go_big_quiet_want; go_big_quiet_op; go_big_quiet_on; refine wpQuiet_nil ?_
              refine mixT_fin ?_
              clear hS
              clear rfb0_0 rfb0_1 rfb0_2 rfb0_3 rfb0_4 rfb0_5 rfb0_6 rfb1_0 rfb1_1 rfb1_2 rfb1_3 rfb1_4
              clear fb0_0 fb0_1 fb0_2 fb0_3 fb0_4 fb0_5 fb0_6 fb0_z fb1_0 fb1_1 fb1_2 fb1_3 fb1_4 fb1_z
              have fb0_0 : W10.cell? ⟨w.heap.size, 0, none⟩ = some (Value.int IntKind.i64 (qk : Int)) := b0.out.cell 0 rfl
              have fb0_1 : W10.cell? ⟨w.heap.size, 1, none⟩ = some (Value.slice A1 x.way.length c1) := b0.out.cell 1 rfl
              have fb0_2 : W10.cell? ⟨w.heap.size, 2, none⟩ = some (Value.int IntKind.i64 x.value.kind) := b0.out.cell 2 rfl
              have fb0_3 : W10.cell? ⟨w.heap.size, 3, none⟩ = some (Value.int IntKind.i64 x.value.n) := b0.out.cell 3 rfl
              have fb0_4 : W10.cell? ⟨w.heap.size, 4, none⟩ = some (Value.string x.value.s) := b0.out.cell 4 rfl
              have fb0_5 : W10.cell? ⟨w.heap.size, 5, none⟩ = some (Value.slice A3 x.value.list.length c3) := b0.out.cell 5 rfl
              have fb0_6 : W10.cell? ⟨w.heap.size, 6, none⟩ = some (Value.slice A4 x.value.names.length c4) := b0.out.cell 6 rfl
              have fb0_z := b0.out.frozen
              have fb1_0 : W10.cell? ⟨w.heap.size + 1, 0, none⟩ = some (Value.int IntKind.i64 0) := b1.out.cell 0 rfl
              have fb1_1 : W10.cell? ⟨w.heap.size + 1, 1, none⟩ = some (Value.int IntKind.i64 0) := b1.out.cell 1 rfl
              have fb1_2 : W10.cell? ⟨w.heap.size + 1, 2, none⟩ = some (Value.string ⟨#[]⟩) := b1.out.cell 2 rfl
              have fb1_3 : W10.cell? ⟨w.heap.size + 1, 3, none⟩ = some (Value.slice none 0 0) := b1.out.cell 3 rfl
              have fb1_4 : W10.cell? ⟨w.heap.size + 1, 4, none⟩ = some (Value.slice none 0 0) := b1.out.cell 4 rfl
              have fb1_z := b1.out.frozen
              have fb2_0 : W10.cell? ⟨W8.heap.size, 0, none⟩ = some (Value.int IntKind.i64 0) := b2.out.cell 0 rfl
              have fb2_1 : W10.cell? ⟨W8.heap.size, 1, none⟩ = some (Value.int IntKind.i64 0) := b2.out.cell 1 rfl
              have fb2_2 : W10.cell? ⟨W8.heap.size, 2, none⟩ = some (Value.string ⟨#[]⟩) := b2.out.cell 2 rfl
              have fb2_3 : W10.cell? ⟨W8.heap.size, 3, none⟩ = some (Value.slice none 0 0) := b2.out.cell 3 rfl
              have fb2_4 : W10.cell? ⟨W8.heap.size, 4, none⟩ = some (Value.slice none 0 0) := b2.out.cell 4 rfl
              have fb2_z := b2.out.frozen
              refine tail_b rfl ?_ (by rfl)
              go_wp2_with fail
              refine mixQ_n ?_
              refine tail_nil ?_
              refine region_gen ?_; intro W hW
              clear fb0_0 fb0_1 fb0_2 fb0_3 fb0_4 fb0_5 fb0_6 fb0_z fb1_0 fb1_1 fb1_2 fb1_3 fb1_4 fb1_z fb2_0 fb2_1 fb2_2 fb2_3 fb2_4 fb2_z
              have hz_ : W10.heap.size ≤ W.heap.size := by rw [hW]; simp
              have eF : Fr W10 W (fun k => k = W8.heap.size ∨ W10.heap.size ≤ k) := by rw [hW]; (repeat (first | with_reducible refine Fr.setCell ?_ _ (fun _ => by simp <;> omega) _ | with_reducible refine Fr.alloc ?_ _ | with_reducible refine Fr.drew ?_)); exact Fr.refl _ _
              have z1_ := z1.out; have z2_ := z2.out; have z3_ := z3.out; have z4_ := z4.out; have z5_ := z5.out; have z6_ := z6.out; have z7_ := z7.out; have z8_ := z8.out; have z9_ := z9.out; have z10_ := z10.out
              have hB := Hd.mk (((Fr.of_below hB.out (fun k => k = W8.heap.size ∨ W10.heap.size ≤ k)).then_ eF (fun k hk _ => hk)).below (fun k hk => by have := hB.out.size; omega))
              have b0 := Hd.mk (b0.out.fr eF (fun h => by have hlt_ := b0.out.lt; (try simp only at h); omega))
              have b1 := Hd.mk (b1.out.fr eF (fun h => by have hlt_ := b1.out.lt; (try simp only at h); omega))
              have b2 := Hd.mk (show Blk W (W8.heap.size) #[Value.int IntKind.i64 5, Value.int IntKind.i64 0, Value.string ⟨#[]⟩, Value.slice (some ⟨W9.heap.size, 0, none⟩) 2 2, Value.slice (some ⟨w7.heap.size, 0, none⟩) 2 2] 40 by rw [hW]; exact (Blk.all b2.out [Value.int IntKind.i64 5, Value.int IntKind.i64 0, Value.string ⟨#[]⟩, Value.slice (some ⟨W9.heap.size, 0, none⟩) 2 2, Value.slice (some ⟨w7.heap.size, 0, none⟩) 2 2] rfl))
              have hN0 := Hd.mk (R_fr hN0.out eF (fun k hk hl h => by skip; (try simp only [rng] at hk); (try simp only at hk); (try simp only at h); omega))
              have hL0 := Hd.mk (R_fr hL0.out eF (fun k hk hl h => by skip; (try simp only [rng] at hk); (try simp only at hk); (try simp only at h); omega))
              clear hW eF
              have z11 := Hd.mk hz_; clear hz_
              have hBs := hB.out.size
              have z1_ := z1.out; have z2_ := z2.out; have z3_ := z3.out; have z4_ := z4.out; have z5_ := z5.out; have z6_ := z6.out; have z7_ := z7.out; have z8_ := z8.out; have z9_ := z9.out; have z10_ := z10.out; have z11_ := z11.out
              rw [HRR.out]
              exact ⟨W8.heap.size, _, _, _, _, 2, 2, _, _, _, _, _, _, _, _, _, _, _, _, _, _, _, _, _, rfl, b2, b0, b1, ⟨by omega⟩, ⟨fun k => ⟨fun hk => by have h1 := hk.1; have h2 := hk.2; refine ⟨by omega, by omega, by omega, fun hn => by have h3 := hn.1; have h4 := hn.2; omega⟩, fun hk => by have h1 := hk.1; have h2 := hk.2; refine ⟨by omega, by omega, by omega⟩⟩⟩, hL0, hN0, hB⟩
          · refine stepM_of rfl ?_ (by rfl)
            go_wp2_with fail
            refine ⟨cls_below (below_alloc hS.out _), ?_⟩
            refine genT ?_; intro W8 hW
            have hL0 := Hd.mk (show (tJ (m + 1)).R 40 W8 (rng w7.heap.size (w7.heap.size + 1)) (.slice (some ⟨w7.heap.size, 0, none⟩) 2 2) [txt (kindNm (qk : Int)), txt tw] by rw [hW]; exact R_mono (fun k h => by have h : k = _ := h; simp only [rng]; omega) (R_txt2 _ _ (kindNm_size _) HTZ.out))
            have hz_ : w7.heap.size + 1 ≤ W8.heap.size := by rw [hW]; simp
            have hE : Below w7.heap.size w7 W8 := by rw [hW]; (repeat (first | with_reducible refine below_alloc ?_ _ | with_reducible refine below_drew ?_)); exact Below.refl _ _
            have hB := Hd.mk (below_then hB.out hE)
            replace hS := Hd.mk (below_then hS.out hE)
            have b0 := Hd.mk (b0.out.below hE)
            have b1 := Hd.mk (b1.out.below hE)
            clear hW hE
            have z8 := Hd.mk hz_; clear hz_
            refine ⟨?_, ?_⟩
            · refine stepM_of rfl ?_ (by rfl)
              go_wp2_with fail
              refine ⟨cls_below (below_alloc hS.out _), ?_⟩
              refine genT ?_; intro W9 hW
              have hN0 := Hd.mk (show str.R 9 W9 (rng W8.heap.size (W8.heap.size + 1)) (.slice (some ⟨W8.heap.size, 0, none⟩) 2 2) [nmOp, nmPath] by rw [hW]; exact R_mono (fun k h => by have h : k = _ := h; simp only [rng]; omega) (R_strsN [nmOp, nmPath] (by decide) (by decide)))
              have hz_ : W8.heap.size + 1 ≤ W9.heap.size := by rw [hW]; simp
              have hE : Below W8.heap.size W8 W9 := by rw [hW]; (repeat (first | with_reducible refine below_alloc ?_ _ | with_reducible refine below_drew ?_)); exact Below.refl _ _
              have hB := Hd.mk (below_then hB.out hE)
              replace hS := Hd.mk (below_then hS.out hE)
              have b0 := Hd.mk (b0.out.below hE)
              have b1 := Hd.mk (b1.out.below hE)
              have hL0 := Hd.mk (R_below hL0.out hE)
              clear hW hE
              have z9 := Hd.mk hz_; clear hz_
              refine mixT_q rfl ?_
              go_big_quiet_want; go_big_quiet_op; go_big_quiet_on; refine wpQuiet_nil ?_
              refine mixT_b rfl ?_ (by rfl)
              go_wp2_with fail
              refine ⟨cls_below (below_alloc hS.out _), ?_⟩
              refine genT ?_; intro W10 hW
              have hz_ : W9.heap.size + 1 ≤ W10.heap.size := by rw [hW]; simp
              have hE : Below W9.heap.size W9 W10 := by rw [hW]; (repeat (first | with_reducible refine below_alloc ?_ _ | with_reducible refine below_drew ?_)); exact Below.refl _ _
              have hB := Hd.mk (below_then hB.out hE)
              replace hS := Hd.mk (below_then hS.out hE)
              have b0 := Hd.mk (b0.out.below hE)
              have b1 := Hd.mk (b1.out.below hE)
              have b2 := Hd.mk (show Blk W10 (W9.heap.size) #[Value.int IntKind.i64 0, Value.int IntKind.i64 0, Value.string ⟨#[]⟩, Value.slice none 0 0, Value.slice none 0 0] 40 by rw [hW]; first | exact (Blk.new _ _ _) | (simpa using (Blk.new _ _ _)))
              have hL0 := Hd.mk (R_below hL0.out hE)
              have hN0 := Hd.mk (R_below hN0.out hE)
              clear hW hE
              have z10 := Hd.mk hz_; clear hz_
              refine mixT_fin ?_
              clear hS
              clear rfb0_0 rfb0_1 rfb0_2 rfb0_3 rfb0_4 rfb0_5 rfb0_6 rfb1_0 rfb1_1 rfb1_2 rfb1_3 rfb1_4
              clear fb0_0 fb0_1 fb0_2 fb0_3 fb0_4 fb0_5 fb0_6 fb0_z fb1_0 fb1_1 fb1_2 fb1_3 fb1_4 fb1_z
              have fb0_0 : W10.cell? ⟨w.heap.size, 0, none⟩ = some (Value.int IntKind.i64 (qk : Int)) := b0.out.cell 0 rfl
              have fb0_1 : W10.cell? ⟨w.heap.size, 1, none⟩ = some (Value.slice A1 x.way.length c1) := b0.out.cell 1 rfl
              have fb0_2 : W10.cell? ⟨w.heap.size, 2, none⟩ = some (Value.int IntKind.i64 x.value.kind) := b0.out.cell 2 rfl
              have fb0_3 : W10.cell? ⟨w.heap.size, 3, none⟩ = some (Value.int IntKind.i64 x.value.n) := b0.out.cell 3 rfl
              have fb0_4 : W10.cell? ⟨w.heap.size, 4, none⟩ = some (Value.string x.value.s) := b0.out.cell 4 rfl
              have fb0_5 : W10.cell? ⟨w.heap.size, 5, none⟩ = some (Value.slice A3 x.value.list.length c3) := b0.out.cell 5 rfl
              have fb0_6 : W10.cell? ⟨w.heap.size, 6, none⟩ = some (Value.slice A4 x.value.names.length c4) := b0.out.cell 6 rfl
              have fb0_z := b0.out.frozen
              have fb1_0 : W10.cell? ⟨w.heap.size + 1, 0, none⟩ = some (Value.int IntKind.i64 0) := b1.out.cell 0 rfl
              have fb1_1 : W10.cell? ⟨w.heap.size + 1, 1, none⟩ = some (Value.int IntKind.i64 0) := b1.out.cell 1 rfl
              have fb1_2 : W10.cell? ⟨w.heap.size + 1, 2, none⟩ = some (Value.string ⟨#[]⟩) := b1.out.cell 2 rfl
              have fb1_3 : W10.cell? ⟨w.heap.size + 1, 3, none⟩ = some (Value.slice none 0 0) := b1.out.cell 3 rfl
              have fb1_4 : W10.cell? ⟨w.heap.size + 1, 4, none⟩ = some (Value.slice none 0 0) := b1.out.cell 4 rfl
              have fb1_z := b1.out.frozen
              have fb2_0 : W10.cell? ⟨W9.heap.size, 0, none⟩ = some (Value.int IntKind.i64 0) := b2.out.cell 0 rfl
              have fb2_1 : W10.cell? ⟨W9.heap.size, 1, none⟩ = some (Value.int IntKind.i64 0) := b2.out.cell 1 rfl
              have fb2_2 : W10.cell? ⟨W9.heap.size, 2, none⟩ = some (Value.string ⟨#[]⟩) := b2.out.cell 2 rfl
              have fb2_3 : W10.cell? ⟨W9.heap.size, 3, none⟩ = some (Value.slice none 0 0) := b2.out.cell 3 rfl
              have fb2_4 : W10.cell? ⟨W9.heap.size, 4, none⟩ = some (Value.slice none 0 0) := b2.out.cell 4 rfl
              have fb2_z := b2.out.frozen
              refine tail_b rfl ?_ (by rfl)
              go_wp2_with fail
              refine mixQ_n ?_
              refine tail_nil ?_
              refine region_gen ?_; intro W hW
              clear fb0_0 fb0_1 fb0_2 fb0_3 fb0_4 fb0_5 fb0_6 fb0_z fb1_0 fb1_1 fb1_2 fb1_3 fb1_4 fb1_z fb2_0 fb2_1 fb2_2 fb2_3 fb2_4 fb2_z
              have hz_ : W10.heap.size ≤ W.heap.size := by rw [hW]; simp
              have eF : Fr W10 W (fun k => k = W9.heap.size ∨ W10.heap.size ≤ k) := by rw [hW]; (repeat (first | with_reducible refine Fr.setCell ?_ _ (fun _ => by simp <;> omega) _ | with_reducible refine Fr.alloc ?_ _ | with_reducible refine Fr.drew ?_)); exact Fr.refl _ _
              have z1_ := z1.out; have z2_ := z2.out; have z3_ := z3.out; have z4_ := z4.out; have z5_ := z5.out; have z6_ := z6.out; have z7_ := z7.out; have z8_ := z8.out; have z9_ := z9.out; have z10_ := z10.out
              have hB := Hd.mk (((Fr.of_below hB.out (fun k => k = W9.heap.size ∨ W10.heap.size ≤ k)).then_ eF (fun k hk _ => hk)).below (fun k hk => by have := hB.out.size; omega))
              have b0 := Hd.mk (b0.out.fr eF (fun h => by have hlt_ := b0.out.lt; (try simp only at h); omega))
              have b1 := Hd.mk (b1.out.fr eF (fun h => by have hlt_ := b1.out.lt; (try simp only at h); omega))
              have b2 := Hd.mk (show Blk W (W9.heap.size) #[Value.int IntKind.i64 5, Value.int IntKind.i64 0, Value.string ⟨#[]⟩, Value.slice (some ⟨w7.heap.size, 0, none⟩) 2 2, Value.slice (some ⟨W8.heap.size, 0, none⟩) 2 2] 40 by rw [hW]; exact (Blk.all b2.out [Value.int IntKind.i64 5, Value.int IntKind.i64 0, Value.string ⟨#[]⟩, Value.slice (some ⟨w7.heap.size, 0, none⟩) 2 2, Value.slice (some ⟨W8.heap.size, 0, none⟩) 2 2] rfl))
              have hL0 := Hd.mk (R_fr hL0.out eF (fun k hk hl h => by skip; (try simp only [rng] at hk); (try simp only at hk); (try simp only at h); omega))
              have hN0 := Hd.mk (R_fr hN0.out eF (fun k hk hl h => by skip; (try simp only [rng] at hk); (try simp only at hk); (try simp only at h); omega))
              clear hW eF
              have z11 := Hd.mk hz_; clear hz_
              have hBs := hB.out.size
              have z1_ := z1.out; have z2_ := z2.out; have z3_ := z3.out; have z4_ := z4.out; have z5_ := z5.out; have z6_ := z6.out; have z7_ := z7.out; have z8_ := z8.out; have z9_ := z9.out; have z10_ := z10.out; have z11_ := z11.out
              rw [HRR.out]
              exact ⟨W9.heap.size, _, _, _, _, 2, 2, _, _, _, _, _, _, _, _, _, _, _, _, _, _, _, _, _, rfl, b2, b0, b1, ⟨by omega⟩, ⟨fun k => ⟨fun hk => by have h1 := hk.1; have h2 := hk.2; refine ⟨by omega, by omega, by omega, fun hn => by have h3 := hn.1; have h4 := hn.2; omega⟩, fun hk => by have h1 := hk.1; have h2 := hk.2; refine ⟨by omega, by omega, by omega⟩⟩⟩, hL0, hN0, hB⟩
            · refine stepM_of rfl ?_ (by rfl)
              go_wp2_with fail
              refine ⟨cls_below (below_alloc hS.out _), ?_⟩
              refine genT ?_; intro W9 hW
              have hz_ : W8.heap.size + 1 ≤ W9.heap.size := by rw [hW]; simp
              have hE : Below W8.heap.size W8 W9 := by rw [hW]; (repeat (first | with_reducible refine below_alloc ?_ _ | with_reducible refine below_drew ?_)); exact Below.refl _ _
              have hB := Hd.mk (below_then hB.out hE)
              replace hS := Hd.mk (below_then hS.out hE)
              have b0 := Hd.mk (b0.out.below hE)
              have b1 := Hd.mk (b1.out.below hE)
              have b2 := Hd.mk (show Blk W9 (W8.heap.size) #[Value.int IntKind.i64 0, Value.int IntKind.i64 0, Value.string ⟨#[]⟩, Value.slice none 0 0, Value.slice none 0 0] 40 by rw [hW]; first | exact (Blk.new _ _ _) | (simpa using (Blk.new _ _ _)))
              have hL0 := Hd.mk (R_below hL0.out hE)
              clear hW hE
              have z9 := Hd.mk hz_; clear hz_
              refine mixT_b rfl ?_ (by rfl)
              go_wp2_with fail
              refine ⟨cls_below (below_alloc hS.out _), ?_⟩
              refine genT ?_; intro W10 hW
              have hN0 := Hd.mk (show str.R 9 W10 (rng W9.heap.size (W9.heap.size + 1)) (.slice (some ⟨W9.heap.size, 0, none⟩) 2 2) [nmOp, nmPath] by rw [hW]; exact R_mono (fun k h => by have h : k = _ := h; simp only [rng]; omega) (R_strsN [nmOp, nmPath] (by decide) (by decide)))
              have hz_ : W9.heap.size + 1 ≤ W10.heap.size := by rw [hW]; simp
              have hE : Below W9.heap.size W9 W10 := by rw [hW]; (repeat (first | with_reducible refine below_alloc ?_ _ | with_reducible refine below_drew ?_)); exact Below.refl _ _
              have hB := Hd.mk (below_then hB.out hE)
              replace hS := Hd.mk (below_then hS.out hE)
              have b0 := Hd.mk (b0.out.below hE)
              have b1 := Hd.mk (b1.out.below hE)
              have b2 := Hd.mk (b2.out.below hE)
              have hL0 := Hd.mk (R_below hL0.out hE)
              clear hW hE
              have z10 := Hd.mk hz_; clear hz_
              refine mixT_q rfl ?_
              go_big_quiet_want; go_big_quiet_op; go_big_quiet_on; refine wpQuiet_nil ?_
              refine mixT_fin ?_
              clear hS
              clear rfb0_0 rfb0_1 rfb0_2 rfb0_3 rfb0_4 rfb0_5 rfb0_6 rfb1_0 rfb1_1 rfb1_2 rfb1_3 rfb1_4
              clear fb0_0 fb0_1 fb0_2 fb0_3 fb0_4 fb0_5 fb0_6 fb0_z fb1_0 fb1_1 fb1_2 fb1_3 fb1_4 fb1_z
              have fb0_0 : W10.cell? ⟨w.heap.size, 0, none⟩ = some (Value.int IntKind.i64 (qk : Int)) := b0.out.cell 0 rfl
              have fb0_1 : W10.cell? ⟨w.heap.size, 1, none⟩ = some (Value.slice A1 x.way.length c1) := b0.out.cell 1 rfl
              have fb0_2 : W10.cell? ⟨w.heap.size, 2, none⟩ = some (Value.int IntKind.i64 x.value.kind) := b0.out.cell 2 rfl
              have fb0_3 : W10.cell? ⟨w.heap.size, 3, none⟩ = some (Value.int IntKind.i64 x.value.n) := b0.out.cell 3 rfl
              have fb0_4 : W10.cell? ⟨w.heap.size, 4, none⟩ = some (Value.string x.value.s) := b0.out.cell 4 rfl
              have fb0_5 : W10.cell? ⟨w.heap.size, 5, none⟩ = some (Value.slice A3 x.value.list.length c3) := b0.out.cell 5 rfl
              have fb0_6 : W10.cell? ⟨w.heap.size, 6, none⟩ = some (Value.slice A4 x.value.names.length c4) := b0.out.cell 6 rfl
              have fb0_z := b0.out.frozen
              have fb1_0 : W10.cell? ⟨w.heap.size + 1, 0, none⟩ = some (Value.int IntKind.i64 0) := b1.out.cell 0 rfl
              have fb1_1 : W10.cell? ⟨w.heap.size + 1, 1, none⟩ = some (Value.int IntKind.i64 0) := b1.out.cell 1 rfl
              have fb1_2 : W10.cell? ⟨w.heap.size + 1, 2, none⟩ = some (Value.string ⟨#[]⟩) := b1.out.cell 2 rfl
              have fb1_3 : W10.cell? ⟨w.heap.size + 1, 3, none⟩ = some (Value.slice none 0 0) := b1.out.cell 3 rfl
              have fb1_4 : W10.cell? ⟨w.heap.size + 1, 4, none⟩ = some (Value.slice none 0 0) := b1.out.cell 4 rfl
              have fb1_z := b1.out.frozen
              have fb2_0 : W10.cell? ⟨W8.heap.size, 0, none⟩ = some (Value.int IntKind.i64 0) := b2.out.cell 0 rfl
              have fb2_1 : W10.cell? ⟨W8.heap.size, 1, none⟩ = some (Value.int IntKind.i64 0) := b2.out.cell 1 rfl
              have fb2_2 : W10.cell? ⟨W8.heap.size, 2, none⟩ = some (Value.string ⟨#[]⟩) := b2.out.cell 2 rfl
              have fb2_3 : W10.cell? ⟨W8.heap.size, 3, none⟩ = some (Value.slice none 0 0) := b2.out.cell 3 rfl
              have fb2_4 : W10.cell? ⟨W8.heap.size, 4, none⟩ = some (Value.slice none 0 0) := b2.out.cell 4 rfl
              have fb2_z := b2.out.frozen
              refine tail_b rfl ?_ (by rfl)
              go_wp2_with fail
              refine mixQ_n ?_
              refine tail_nil ?_
              refine region_gen ?_; intro W hW
              clear fb0_0 fb0_1 fb0_2 fb0_3 fb0_4 fb0_5 fb0_6 fb0_z fb1_0 fb1_1 fb1_2 fb1_3 fb1_4 fb1_z fb2_0 fb2_1 fb2_2 fb2_3 fb2_4 fb2_z
              have hz_ : W10.heap.size ≤ W.heap.size := by rw [hW]; simp
              have eF : Fr W10 W (fun k => k = W8.heap.size ∨ W10.heap.size ≤ k) := by rw [hW]; (repeat (first | with_reducible refine Fr.setCell ?_ _ (fun _ => by simp <;> omega) _ | with_reducible refine Fr.alloc ?_ _ | with_reducible refine Fr.drew ?_)); exact Fr.refl _ _
              have z1_ := z1.out; have z2_ := z2.out; have z3_ := z3.out; have z4_ := z4.out; have z5_ := z5.out; have z6_ := z6.out; have z7_ := z7.out; have z8_ := z8.out; have z9_ := z9.out; have z10_ := z10.out
              have hB := Hd.mk (((Fr.of_below hB.out (fun k => k = W8.heap.size ∨ W10.heap.size ≤ k)).then_ eF (fun k hk _ => hk)).below (fun k hk => by have := hB.out.size; omega))
              have b0 := Hd.mk (b0.out.fr eF (fun h => by have hlt_ := b0.out.lt; (try simp only at h); omega))
              have b1 := Hd.mk (b1.out.fr eF (fun h => by have hlt_ := b1.out.lt; (try simp only at h); omega))
              have b2 := Hd.mk (show Blk W (W8.heap.size) #[Value.int IntKind.i64 5, Value.int IntKind.i64 0, Value.string ⟨#[]⟩, Value.slice (some ⟨w7.heap.size, 0, none⟩) 2 2, Value.slice (some ⟨W9.heap.size, 0, none⟩) 2 2] 40 by rw [hW]; exact (Blk.all b2.out [Value.int IntKind.i64 5, Value.int IntKind.i64 0, Value.string ⟨#[]⟩, Value.slice (some ⟨w7.heap.size, 0, none⟩) 2 2, Value.slice (some ⟨W9.heap.size, 0, none⟩) 2 2] rfl))
              have hL0 := Hd.mk (R_fr hL0.out eF (fun k hk hl h => by skip; (try simp only [rng] at hk); (try simp only at hk); (try simp only at h); omega))
              have hN0 := Hd.mk (R_fr hN0.out eF (fun k hk hl h => by skip; (try simp only [rng] at hk); (try simp only at hk); (try simp only at h); omega))
              clear hW eF
              have z11 := Hd.mk hz_; clear hz_
              have hBs := hB.out.size
              have z1_ := z1.out; have z2_ := z2.out; have z3_ := z3.out; have z4_ := z4.out; have z5_ := z5.out; have z6_ := z6.out; have z7_ := z7.out; have z8_ := z8.out; have z9_ := z9.out; have z10_ := z10.out; have z11_ := z11.out
              rw [HRR.out]
              exact ⟨W8.heap.size, _, _, _, _, 2, 2, _, _, _, _, _, _, _, _, _, _, _, _, _, _, _, _, _, rfl, b2, b0, b1, ⟨by omega⟩, ⟨fun k => ⟨fun hk => by have h1 := hk.1; have h2 := hk.2; refine ⟨by omega, by omega, by omega, fun hn => by have h3 := hn.1; have h4 := hn.2; omega⟩, fun hk => by have h1 := hk.1; have h2 := hk.2; refine ⟨by omega, by omega, by omega⟩⟩⟩, hL0, hN0, hB⟩
          · refine stepM_of rfl ?_ (by rfl)
            go_wp2_with fail
            refine ⟨cls_below (below_alloc hS.out _), ?_⟩
            refine genT ?_; intro W8 hW
            have hz_ : w7.heap.size + 1 ≤ W8.heap.size := by rw [hW]; simp
            have hE : Below w7.heap.size w7 W8 := by rw [hW]; (repeat (first | with_reducible refine below_alloc ?_ _ | with_reducible refine below_drew ?_)); exact Below.refl _ _
            have hB := Hd.mk (below_then hB.out hE)
            replace hS := Hd.mk (below_then hS.out hE)
            have b0 := Hd.mk (b0.out.below hE)
            have b1 := Hd.mk (b1.out.below hE)
            have b2 := Hd.mk (show Blk W8 (w7.heap.size) #[Value.int IntKind.i64 0, Value.int IntKind.i64 0, Value.string ⟨#[]⟩, Value.slice none 0 0, Value.slice none 0 0] 40 by rw [hW]; first | exact (Blk.new _ _ _) | (simpa using (Blk.new _ _ _)))
            clear hW hE
            have z8 := Hd.mk hz_; clear hz_
            refine ⟨?_, ?_⟩
            · refine stepM_of rfl ?_ (by rfl)
              go_wp2_with fail
              refine ⟨cls_below (below_alloc hS.out _), ?_⟩
              refine genT ?_; intro W9 hW
              have hN0 := Hd.mk (show str.R 9 W9 (rng W8.heap.size (W8.heap.size + 1)) (.slice (some ⟨W8.heap.size, 0, none⟩) 2 2) [nmOp, nmPath] by rw [hW]; exact R_mono (fun k h => by have h : k = _ := h; simp only [rng]; omega) (R_strsN [nmOp, nmPath] (by decide) (by decide)))
              have hz_ : W8.heap.size + 1 ≤ W9.heap.size := by rw [hW]; simp
              have hE : Below W8.heap.size W8 W9 := by rw [hW]; (repeat (first | with_reducible refine below_alloc ?_ _ | with_reducible refine below_drew ?_)); exact Below.refl _ _
              have hB := Hd.mk (below_then hB.out hE)
              replace hS := Hd.mk (below_then hS.out hE)
              have b0 := Hd.mk (b0.out.below hE)
              have b1 := Hd.mk (b1.out.below hE)
              have b2 := Hd.mk (b2.out.below hE)
              clear hW hE
              have z9 := Hd.mk hz_; clear hz_
              refine mixT_b rfl ?_ (by rfl)
              go_wp2_with fail
              refine ⟨cls_below (below_alloc hS.out _), ?_⟩
              refine genT ?_; intro W10 hW
              have hL0 := Hd.mk (show (tJ (m + 1)).R 40 W10 (rng W9.heap.size (W9.heap.size + 1)) (.slice (some ⟨W9.heap.size, 0, none⟩) 2 2) [txt (kindNm (qk : Int)), txt tw] by rw [hW]; exact R_mono (fun k h => by have h : k = _ := h; simp only [rng]; omega) (R_txt2 _ _ (kindNm_size _) HTZ.out))
              have hz_ : W9.heap.size + 1 ≤ W10.heap.size := by rw [hW]; simp
              have hE : Below W9.heap.size W9 W10 := by rw [hW]; (repeat (first | with_reducible refine below_alloc ?_ _ | with_reducible refine below_drew ?_)); exact Below.refl _ _
              have hB := Hd.mk (below_then hB.out hE)
              replace hS := Hd.mk (below_then hS.out hE)
              have b0 := Hd.mk (b0.out.below hE)
              have b1 := Hd.mk (b1.out.below hE)
              have b2 := Hd.mk (b2.out.below hE)
              have hN0 := Hd.mk (R_below hN0.out hE)
              clear hW hE
              have z10 := Hd.mk hz_; clear hz_
              refine mixT_q rfl ?_
              go_big_quiet_want; go_big_quiet_op; go_big_quiet_on; refine wpQuiet_nil ?_
              refine mixT_fin ?_
              clear hS
              clear rfb0_0 rfb0_1 rfb0_2 rfb0_3 rfb0_4 rfb0_5 rfb0_6 rfb1_0 rfb1_1 rfb1_2 rfb1_3 rfb1_4
              clear fb0_0 fb0_1 fb0_2 fb0_3 fb0_4 fb0_5 fb0_6 fb0_z fb1_0 fb1_1 fb1_2 fb1_3 fb1_4 fb1_z
              have fb0_0 : W10.cell? ⟨w.heap.size, 0, none⟩ = some (Value.int IntKind.i64 (qk : Int)) := b0.out.cell 0 rfl
              have fb0_1 : W10.cell? ⟨w.heap.size, 1, none⟩ = some (Value.slice A1 x.way.length c1) := b0.out.cell 1 rfl
              have fb0_2 : W10.cell? ⟨w.heap.size, 2, none⟩ = some (Value.int IntKind.i64 x.value.kind) := b0.out.cell 2 rfl
              have fb0_3 : W10.cell? ⟨w.heap.size, 3, none⟩ = some (Value.int IntKind.i64 x.value.n) := b0.out.cell 3 rfl
              have fb0_4 : W10.cell? ⟨w.heap.size, 4, none⟩ = some (Value.string x.value.s) := b0.out.cell 4 rfl
              have fb0_5 : W10.cell? ⟨w.heap.size, 5, none⟩ = some (Value.slice A3 x.value.list.length c3) := b0.out.cell 5 rfl
              have fb0_6 : W10.cell? ⟨w.heap.size, 6, none⟩ = some (Value.slice A4 x.value.names.length c4) := b0.out.cell 6 rfl
              have fb0_z := b0.out.frozen
              have fb1_0 : W10.cell? ⟨w.heap.size + 1, 0, none⟩ = some (Value.int IntKind.i64 0) := b1.out.cell 0 rfl
              have fb1_1 : W10.cell? ⟨w.heap.size + 1, 1, none⟩ = some (Value.int IntKind.i64 0) := b1.out.cell 1 rfl
              have fb1_2 : W10.cell? ⟨w.heap.size + 1, 2, none⟩ = some (Value.string ⟨#[]⟩) := b1.out.cell 2 rfl
              have fb1_3 : W10.cell? ⟨w.heap.size + 1, 3, none⟩ = some (Value.slice none 0 0) := b1.out.cell 3 rfl
              have fb1_4 : W10.cell? ⟨w.heap.size + 1, 4, none⟩ = some (Value.slice none 0 0) := b1.out.cell 4 rfl
              have fb1_z := b1.out.frozen
              have fb2_0 : W10.cell? ⟨w7.heap.size, 0, none⟩ = some (Value.int IntKind.i64 0) := b2.out.cell 0 rfl
              have fb2_1 : W10.cell? ⟨w7.heap.size, 1, none⟩ = some (Value.int IntKind.i64 0) := b2.out.cell 1 rfl
              have fb2_2 : W10.cell? ⟨w7.heap.size, 2, none⟩ = some (Value.string ⟨#[]⟩) := b2.out.cell 2 rfl
              have fb2_3 : W10.cell? ⟨w7.heap.size, 3, none⟩ = some (Value.slice none 0 0) := b2.out.cell 3 rfl
              have fb2_4 : W10.cell? ⟨w7.heap.size, 4, none⟩ = some (Value.slice none 0 0) := b2.out.cell 4 rfl
              have fb2_z := b2.out.frozen
              refine tail_b rfl ?_ (by rfl)
              go_wp2_with fail
              refine mixQ_n ?_
              refine tail_nil ?_
              refine region_gen ?_; intro W hW
              clear fb0_0 fb0_1 fb0_2 fb0_3 fb0_4 fb0_5 fb0_6 fb0_z fb1_0 fb1_1 fb1_2 fb1_3 fb1_4 fb1_z fb2_0 fb2_1 fb2_2 fb2_3 fb2_4 fb2_z
              have hz_ : W10.heap.size ≤ W.heap.size := by rw [hW]; simp
              have eF : Fr W10 W (fun k => k = w7.heap.size ∨ W10.heap.size ≤ k) := by rw [hW]; (repeat (first | with_reducible refine Fr.setCell ?_ _ (fun _ => by simp <;> omega) _ | with_reducible refine Fr.alloc ?_ _ | with_reducible refine Fr.drew ?_)); exact Fr.refl _ _
              have z1_ := z1.out; have z2_ := z2.out; have z3_ := z3.out; have z4_ := z4.out; have z5_ := z5.out; have z6_ := z6.out; have z7_ := z7.out; have z8_ := z8.out; have z9_ := z9.out; have z10_ := z10.out
              have hB := Hd.mk (((Fr.of_below hB.out (fun k => k = w7.heap.size ∨ W10.heap.size ≤ k)).then_ eF (fun k hk _ => hk)).below (fun k hk => by have := hB.out.size; omega))
              have b0 := Hd.mk (b0.out.fr eF (fun h => by have hlt_ := b0.out.lt; (try simp only at h); omega))
              have b1 := Hd.mk (b1.out.fr eF (fun h => by have hlt_ := b1.out.lt; (try simp only at h); omega))
              have b2 := Hd.mk (show Blk W (w7.heap.size) #[Value.int IntKind.i64 5, Value.int IntKind.i64 0, Value.string ⟨#[]⟩, Value.slice (some ⟨W9.heap.size, 0, none⟩) 2 2, Value.slice (some ⟨W8.heap.size, 0, none⟩) 2 2] 40 by rw [hW]; exact (Blk.all b2.out [Value.int IntKind.i64 5, Value.int IntKind.i64 0, Value.string ⟨#[]⟩, Value.slice (some ⟨W9.heap.size, 0, none⟩) 2 2, Value.slice (some ⟨W8.heap.size, 0, none⟩) 2 2] rfl))
              have hN0 := Hd.mk (R_fr hN0.out eF (fun k hk hl h => by skip; (try simp only [rng] at hk); (try simp only at hk); (try simp only at h); omega))
              have hL0 := Hd.mk (R_fr hL0.out eF (fun k hk hl h => by skip; (try simp only [rng] at hk); (try simp only at hk); (try simp only at h); omega))
              clear hW eF
              have z11 := Hd.mk hz_; clear hz_
              have hBs := hB.out.size
              have z1_ := z1.out; have z2_ := z2.out; have z3_ := z3.out; have z4_ := z4.out; have z5_ := z5.out; have z6_ := z6.out; have z7_ := z7.out; have z8_ := z8.out; have z9_ := z9.out; have z10_ := z10.out; have z11_ := z11.out
              rw [HRR.out]
              exact ⟨w7.heap.size, _, _, _, _, 2, 2, _, _, _, _, _, _, _, _, _, _, _, _, _, _, _, _, _, rfl, b2, b0, b1, ⟨by omega⟩, ⟨fun k => ⟨fun hk => by have h1 := hk.1; have h2 := hk.2; refine ⟨by omega, by omega, by omega, fun hn => by have h3 := hn.1; have h4 := hn.2; omega⟩, fun hk => by have h1 := hk.1; have h2 := hk.2; refine ⟨by omega, by omega, by omega⟩⟩⟩, hL0, hN0, hB⟩
            · refine stepM_of rfl ?_ (by rfl)
              go_wp2_with fail
              refine ⟨cls_below (below_alloc hS.out _), ?_⟩
              refine genT ?_; intro W9 hW
              have hL0 := Hd.mk (show (tJ (m + 1)).R 40 W9 (rng W8.heap.size (W8.heap.size + 1)) (.slice (some ⟨W8.heap.size, 0, none⟩) 2 2) [txt (kindNm (qk : Int)), txt tw] by rw [hW]; exact R_mono (fun k h => by have h : k = _ := h; simp only [rng]; omega) (R_txt2 _ _ (kindNm_size _) HTZ.out))
              have hz_ : W8.heap.size + 1 ≤ W9.heap.size := by rw [hW]; simp
              have hE : Below W8.heap.size W8 W9 := by rw [hW]; (repeat (first | with_reducible refine below_alloc ?_ _ | with_reducible refine below_drew ?_)); exact Below.refl _ _
              have hB := Hd.mk (below_then hB.out hE)
              replace hS := Hd.mk (below_then hS.out hE)
              have b0 := Hd.mk (b0.out.below hE)
              have b1 := Hd.mk (b1.out.below hE)
              have b2 := Hd.mk (b2.out.below hE)
              clear hW hE
              have z9 := Hd.mk hz_; clear hz_
              refine mixT_b rfl ?_ (by rfl)
              go_wp2_with fail
              refine ⟨cls_below (below_alloc hS.out _), ?_⟩
              refine genT ?_; intro W10 hW
              have hN0 := Hd.mk (show str.R 9 W10 (rng W9.heap.size (W9.heap.size + 1)) (.slice (some ⟨W9.heap.size, 0, none⟩) 2 2) [nmOp, nmPath] by rw [hW]; exact R_mono (fun k h => by have h : k = _ := h; simp only [rng]; omega) (R_strsN [nmOp, nmPath] (by decide) (by decide)))
              have hz_ : W9.heap.size + 1 ≤ W10.heap.size := by rw [hW]; simp
              have hE : Below W9.heap.size W9 W10 := by rw [hW]; (repeat (first | with_reducible refine below_alloc ?_ _ | with_reducible refine below_drew ?_)); exact Below.refl _ _
              have hB := Hd.mk (below_then hB.out hE)
              replace hS := Hd.mk (below_then hS.out hE)
              have b0 := Hd.mk (b0.out.below hE)
              have b1 := Hd.mk (b1.out.below hE)
              have b2 := Hd.mk (b2.out.below hE)
              have hL0 := Hd.mk (R_below hL0.out hE)
              clear hW hE
              have z10 := Hd.mk hz_; clear hz_
              refine mixT_q rfl ?_
              go_big_quiet_want; go_big_quiet_op; go_big_quiet_on; refine wpQuiet_nil ?_
              refine mixT_fin ?_
              clear hS
              clear rfb0_0 rfb0_1 rfb0_2 rfb0_3 rfb0_4 rfb0_5 rfb0_6 rfb1_0 rfb1_1 rfb1_2 rfb1_3 rfb1_4
              clear fb0_0 fb0_1 fb0_2 fb0_3 fb0_4 fb0_5 fb0_6 fb0_z fb1_0 fb1_1 fb1_2 fb1_3 fb1_4 fb1_z
              have fb0_0 : W10.cell? ⟨w.heap.size, 0, none⟩ = some (Value.int IntKind.i64 (qk : Int)) := b0.out.cell 0 rfl
              have fb0_1 : W10.cell? ⟨w.heap.size, 1, none⟩ = some (Value.slice A1 x.way.length c1) := b0.out.cell 1 rfl
              have fb0_2 : W10.cell? ⟨w.heap.size, 2, none⟩ = some (Value.int IntKind.i64 x.value.kind) := b0.out.cell 2 rfl
              have fb0_3 : W10.cell? ⟨w.heap.size, 3, none⟩ = some (Value.int IntKind.i64 x.value.n) := b0.out.cell 3 rfl
              have fb0_4 : W10.cell? ⟨w.heap.size, 4, none⟩ = some (Value.string x.value.s) := b0.out.cell 4 rfl
              have fb0_5 : W10.cell? ⟨w.heap.size, 5, none⟩ = some (Value.slice A3 x.value.list.length c3) := b0.out.cell 5 rfl
              have fb0_6 : W10.cell? ⟨w.heap.size, 6, none⟩ = some (Value.slice A4 x.value.names.length c4) := b0.out.cell 6 rfl
              have fb0_z := b0.out.frozen
              have fb1_0 : W10.cell? ⟨w.heap.size + 1, 0, none⟩ = some (Value.int IntKind.i64 0) := b1.out.cell 0 rfl
              have fb1_1 : W10.cell? ⟨w.heap.size + 1, 1, none⟩ = some (Value.int IntKind.i64 0) := b1.out.cell 1 rfl
              have fb1_2 : W10.cell? ⟨w.heap.size + 1, 2, none⟩ = some (Value.string ⟨#[]⟩) := b1.out.cell 2 rfl
              have fb1_3 : W10.cell? ⟨w.heap.size + 1, 3, none⟩ = some (Value.slice none 0 0) := b1.out.cell 3 rfl
              have fb1_4 : W10.cell? ⟨w.heap.size + 1, 4, none⟩ = some (Value.slice none 0 0) := b1.out.cell 4 rfl
              have fb1_z := b1.out.frozen
              have fb2_0 : W10.cell? ⟨w7.heap.size, 0, none⟩ = some (Value.int IntKind.i64 0) := b2.out.cell 0 rfl
              have fb2_1 : W10.cell? ⟨w7.heap.size, 1, none⟩ = some (Value.int IntKind.i64 0) := b2.out.cell 1 rfl
              have fb2_2 : W10.cell? ⟨w7.heap.size, 2, none⟩ = some (Value.string ⟨#[]⟩) := b2.out.cell 2 rfl
              have fb2_3 : W10.cell? ⟨w7.heap.size, 3, none⟩ = some (Value.slice none 0 0) := b2.out.cell 3 rfl
              have fb2_4 : W10.cell? ⟨w7.heap.size, 4, none⟩ = some (Value.slice none 0 0) := b2.out.cell 4 rfl
              have fb2_z := b2.out.frozen
              refine tail_b rfl ?_ (by rfl)
              go_wp2_with fail
              refine mixQ_n ?_
              refine tail_nil ?_
              refine region_gen ?_; intro W hW
              clear fb0_0 fb0_1 fb0_2 fb0_3 fb0_4 fb0_5 fb0_6 fb0_z fb1_0 fb1_1 fb1_2 fb1_3 fb1_4 fb1_z fb2_0 fb2_1 fb2_2 fb2_3 fb2_4 fb2_z
              have hz_ : W10.heap.size ≤ W.heap.size := by rw [hW]; simp
              have eF : Fr W10 W (fun k => k = w7.heap.size ∨ W10.heap.size ≤ k) := by rw [hW]; (repeat (first | with_reducible refine Fr.setCell ?_ _ (fun _ => by simp <;> omega) _ | with_reducible refine Fr.alloc ?_ _ | with_reducible refine Fr.drew ?_)); exact Fr.refl _ _
              have z1_ := z1.out; have z2_ := z2.out; have z3_ := z3.out; have z4_ := z4.out; have z5_ := z5.out; have z6_ := z6.out; have z7_ := z7.out; have z8_ := z8.out; have z9_ := z9.out; have z10_ := z10.out
              have hB := Hd.mk (((Fr.of_below hB.out (fun k => k = w7.heap.size ∨ W10.heap.size ≤ k)).then_ eF (fun k hk _ => hk)).below (fun k hk => by have := hB.out.size; omega))
              have b0 := Hd.mk (b0.out.fr eF (fun h => by have hlt_ := b0.out.lt; (try simp only at h); omega))
              have b1 := Hd.mk (b1.out.fr eF (fun h => by have hlt_ := b1.out.lt; (try simp only at h); omega))
              have b2 := Hd.mk (show Blk W (w7.heap.size) #[Value.int IntKind.i64 5, Value.int IntKind.i64 0, Value.string ⟨#[]⟩, Value.slice (some ⟨W8.heap.size, 0, none⟩) 2 2, Value.slice (some ⟨W9.heap.size, 0, none⟩) 2 2] 40 by rw [hW]; exact (Blk.all b2.out [Value.int IntKind.i64 5, Value.int IntKind.i64 0, Value.string ⟨#[]⟩, Value.slice (some ⟨W8.heap.size, 0, none⟩) 2 2, Value.slice (some ⟨W9.heap.size, 0, none⟩) 2 2] rfl))
              have hL0 := Hd.mk (R_fr hL0.out eF (fun k hk hl h => by skip; (try simp only [rng] at hk); (try simp only at hk); (try simp only at h); omega))
              have hN0 := Hd.mk (R_fr hN0.out eF (fun k hk hl h => by skip; (try simp only [rng] at hk); (try simp only at hk); (try simp only at h); omega))
              clear hW eF
              have z11 := Hd.mk hz_; clear hz_
              have hBs := hB.out.size
              have z1_ := z1.out; have z2_ := z2.out; have z3_ := z3.out; have z4_ := z4.out; have z5_ := z5.out; have z6_ := z6.out; have z7_ := z7.out; have z8_ := z8.out; have z9_ := z9.out; have z10_ := z10.out; have z11_ := z11.out
              rw [HRR.out]
              exact ⟨w7.heap.size, _, _, _, _, 2, 2, _, _, _, _, _, _, _, _, _, _, _, _, _, _, _, _, _, rfl, b2, b0, b1, ⟨by omega⟩, ⟨fun k => ⟨fun hk => by have h1 := hk.1; have h2 := hk.2; refine ⟨by omega, by omega, by omega, fun hn => by have h3 := hn.1; have h4 := hn.2; omega⟩, fun hk => by have h1 := hk.1; have h2 := hk.2; refine ⟨by omega, by omega, by omega⟩⟩⟩, hL0, hN0, hB⟩
        · refine stepM_of rfl ?_ (by rfl)
          go_wp2_with fail
          refine ⟨cls_below (below_alloc hS.out _), ?_⟩
          refine genT ?_; intro W6 hW
          have hz_ : w5.heap.size + 1 ≤ W6.heap.size := by rw [hW]; simp
          have hE : Below w5.heap.size w5 W6 := by rw [hW]; (repeat (first | with_reducible refine below_alloc ?_ _ | with_reducible refine below_drew ?_)); exact Below.refl _ _
          have hB := Hd.mk (below_then hB.out hE)
          replace hS := Hd.mk (below_then hS.out hE)
          have b0 := Hd.mk (b0.out.below hE)
          have b1 := Hd.mk (b1.out.below hE)
          have b2 := Hd.mk (show Blk W6 (w5.heap.size) #[Value.int IntKind.i64 0, Value.int IntKind.i64 0, Value.string ⟨#[]⟩, Value.slice none 0 0, Value.slice none 0 0] 40 by rw [hW]; first | exact (Blk.new _ _ _) | (simpa using (Blk.new _ _ _)))
          clear hW hE
          have z6 := Hd.mk hz_; clear hz_
          refine ⟨?_, ?_⟩
          · refine stepM_of rfl ?_ (by rfl)
            go_wp2_with fail
            refine ⟨cls_below (below_alloc hS.out _), ?_⟩
            refine genT ?_; intro W7 hW
            have hN0 := Hd.mk (show str.R 9 W7 (rng W6.heap.size (W6.heap.size + 1)) (.slice (some ⟨W6.heap.size, 0, none⟩) 2 2) [nmOp, nmPath] by rw [hW]; exact R_mono (fun k h => by have h : k = _ := h; simp only [rng]; omega) (R_strsN [nmOp, nmPath] (by decide) (by decide)))
            have hz_ : W6.heap.size + 1 ≤ W7.heap.size := by rw [hW]; simp
            have hE : Below W6.heap.size W6 W7 := by rw [hW]; (repeat (first | with_reducible refine below_alloc ?_ _ | with_reducible refine below_drew ?_)); exact Below.refl _ _
            have hB := Hd.mk (below_then hB.out hE)
            replace hS := Hd.mk (below_then hS.out hE)
            have b0 := Hd.mk (b0.out.below hE)
            have b1 := Hd.mk (b1.out.below hE)
            have b2 := Hd.mk (b2.out.below hE)
            clear hW hE
            have z7 := Hd.mk hz_; clear hz_
            refine mixT_b rfl ?_ (by rfl)
            go_wp2_with fail
            apply calls_gen; intro W8 hW
            have hz_ : W7.heap.size ≤ W8.heap.size := by rw [hW]; simp
            have hE : Below W7.heap.size W7 W8 := by rw [hW]; (repeat (first | with_reducible refine below_alloc ?_ _ | with_reducible refine below_drew ?_)); exact Below.refl _ _
            have hB := Hd.mk (below_then hB.out hE)
            replace hS := Hd.mk (below_then hS.out hE)
            have b0 := Hd.mk (b0.out.below hE)
            have b1 := Hd.mk (b1.out.below hE)
            have b2 := Hd.mk (b2.out.below hE)
            have hN0 := Hd.mk (R_below hN0.out hE)
            clear hW hE
            have z8 := Hd.mk hz_; clear hz_
            refine (spec_WayText _ _ x.way _ (C_below HRW.out hB.out) HLW.out).mono ?_
            rintro e w9 ⟨rfl, hX⟩
            have b0 := Hd.mk (b0.out.below hX)
            have b1 := Hd.mk (b1.out.below hX)
            have b2 := Hd.mk (b2.out.below hX)
            have hN0 := Hd.mk (R_below hN0.out hX)
            have hB := Hd.mk (below_then hB.out hX)
            replace hS := Hd.mk (below_then hS.out hX)
            have hz_ := hX.size
            clear hX
            have z9 := Hd.mk hz_; clear hz_
            rw [← HTW.out]
            go_wp2_with fail
            refine ⟨cls_below hS.out, ?_⟩
            refine mixT_q rfl ?_
            go_big_quiet_want; go_big_quiet_op; go_big_quiet_on; refine wpQuiet_nil ?_
            refine mixT_b rfl ?_ (by rfl)
            go_wp2_with fail
            refine ⟨cls_below (below_alloc hS.out _), ?_⟩
            refine genT ?_; intro W10 hW
            have hL0 := Hd.mk (show (tJ (m + 1)).R 40 W10 (rng w9.heap.size (w9.heap.size + 1)) (.slice (some ⟨w9.heap.size, 0, none⟩) 2 2) [txt (kindNm (qk : Int)), txt tw] by rw [hW]; exact R_mono (fun k h => by have h : k = _ := h; simp only [rng]; omega) (R_txt2 _ _ (kindNm_size _) HTZ.out))
            have hz_ : w9.heap.size + 1 ≤ W10.heap.size := by rw [hW]; simp
            have hE : Below w9.heap.size w9 W10 := by rw [hW]; (repeat (first | with_reducible refine below_alloc ?_ _ | with_reducible refine below_drew ?_)); exact Below.refl _ _
            have hB := Hd.mk (below_then hB.out hE)
            replace hS := Hd.mk (below_then hS.out hE)
            have b0 := Hd.mk (b0.out.below hE)
            have b1 := Hd.mk (b1.out.below hE)
            have b2 := Hd.mk (b2.out.below hE)
            have hN0 := Hd.mk (R_below hN0.out hE)
            clear hW hE
            have z10 := Hd.mk hz_; clear hz_
            refine mixT_q rfl ?_
            go_big_quiet_want; go_big_quiet_op; go_big_quiet_on; refine wpQuiet_nil ?_
            refine mixT_fin ?_
            clear hS
            clear rfb0_0 rfb0_1 rfb0_2 rfb0_3 rfb0_4 rfb0_5 rfb0_6 rfb1_0 rfb1_1 rfb1_2 rfb1_3 rfb1_4
            clear fb0_0 fb0_1 fb0_2 fb0_3 fb0_4 fb0_5 fb0_6 fb0_z fb1_0 fb1_1 fb1_2 fb1_3 fb1_4 fb1_z
            have fb0_0 : W10.cell? ⟨w.heap.size, 0, none⟩ = some (Value.int IntKind.i64 (qk : Int)) := b0.out.cell 0 rfl
            have fb0_1 : W10.cell? ⟨w.heap.size, 1, none⟩ = some (Value.slice A1 x.way.length c1) := b0.out.cell 1 rfl
            have fb0_2 : W10.cell? ⟨w.heap.size, 2, none⟩ = some (Value.int IntKind.i64 x.value.kind) := b0.out.cell 2 rfl
            have fb0_3 : W10.cell? ⟨w.heap.size, 3, none⟩ = some (Value.int IntKind.i64 x.value.n) := b0.out.cell 3 rfl
            have fb0_4 : W10.cell? ⟨w.heap.size, 4, none⟩ = some (Value.string x.value.s) := b0.out.cell 4 rfl
            have fb0_5 : W10.cell? ⟨w.heap.size, 5, none⟩ = some (Value.slice A3 x.value.list.length c3) := b0.out.cell 5 rfl
            have fb0_6 : W10.cell? ⟨w.heap.size, 6, none⟩ = some (Value.slice A4 x.value.names.length c4) := b0.out.cell 6 rfl
            have fb0_z := b0.out.frozen
            have fb1_0 : W10.cell? ⟨w.heap.size + 1, 0, none⟩ = some (Value.int IntKind.i64 0) := b1.out.cell 0 rfl
            have fb1_1 : W10.cell? ⟨w.heap.size + 1, 1, none⟩ = some (Value.int IntKind.i64 0) := b1.out.cell 1 rfl
            have fb1_2 : W10.cell? ⟨w.heap.size + 1, 2, none⟩ = some (Value.string ⟨#[]⟩) := b1.out.cell 2 rfl
            have fb1_3 : W10.cell? ⟨w.heap.size + 1, 3, none⟩ = some (Value.slice none 0 0) := b1.out.cell 3 rfl
            have fb1_4 : W10.cell? ⟨w.heap.size + 1, 4, none⟩ = some (Value.slice none 0 0) := b1.out.cell 4 rfl
            have fb1_z := b1.out.frozen
            have fb2_0 : W10.cell? ⟨w5.heap.size, 0, none⟩ = some (Value.int IntKind.i64 0) := b2.out.cell 0 rfl
            have fb2_1 : W10.cell? ⟨w5.heap.size, 1, none⟩ = some (Value.int IntKind.i64 0) := b2.out.cell 1 rfl
            have fb2_2 : W10.cell? ⟨w5.heap.size, 2, none⟩ = some (Value.string ⟨#[]⟩) := b2.out.cell 2 rfl
            have fb2_3 : W10.cell? ⟨w5.heap.size, 3, none⟩ = some (Value.slice none 0 0) := b2.out.cell 3 rfl
            have fb2_4 : W10.cell? ⟨w5.heap.size, 4, none⟩ = some (Value.slice none 0 0) := b2.out.cell 4 rfl
            have fb2_z := b2.out.frozen
            refine tail_b rfl ?_ (by rfl)
            go_wp2_with fail
            refine mixQ_n ?_
            refine tail_nil ?_
            refine region_gen ?_; intro W hW
            clear fb0_0 fb0_1 fb0_2 fb0_3 fb0_4 fb0_5 fb0_6 fb0_z fb1_0 fb1_1 fb1_2 fb1_3 fb1_4 fb1_z fb2_0 fb2_1 fb2_2 fb2_3 fb2_4 fb2_z
            have hz_ : W10.heap.size ≤ W.heap.size := by rw [hW]; simp
            have eF : Fr W10 W (fun k => k = w5.heap.size ∨ W10.heap.size ≤ k) := by rw [hW]; (repeat (first | with_reducible refine Fr.setCell ?_ _ (fun _ => by simp <;> omega) _ | with_reducible refine Fr.alloc ?_ _ | with_reducible refine Fr.drew ?_)); exact Fr.refl _ _
            have z1_ := z1.out; have z2_ := z2.out; have z3_ := z3.out; have z4_ := z4.out; have z5_ := z5.out; have z6_ := z6.out; have z7_ := z7.out; have z8_ := z8.out; have z9_ := z9.out; have z10_ := z10.out
            have hB := Hd.mk (((Fr.of_below hB.out (fun k => k = w5.heap.size ∨ W10.heap.size ≤ k)).then_ eF (fun k hk _ => hk)).below (fun k hk => by have := hB.out.size; omega))
            have b0 := Hd.mk (b0.out.fr eF (fun h => by have hlt_ := b0.out.lt; (try simp only at h); omega))
            have b1 := Hd.mk (b1.out.fr eF (fun h => by have hlt_ := b1.out.lt; (try simp only at h); omega))
            have b2 := Hd.mk (show Blk W (w5.heap.size) #[Value.int IntKind.i64 5, Value.int IntKind.i64 0, Value.string ⟨#[]⟩, Value.slice (some ⟨w9.heap.size, 0, none⟩) 2 2, Value.slice (some ⟨W6.heap.size, 0, none⟩) 2 2] 40 by rw [hW]; exact (Blk.all b2.out [Value.int IntKind.i64 5, Value.int IntKind.i64 0, Value.string ⟨#[]⟩, Value.slice (some ⟨w9.heap.size, 0, none⟩) 2 2, Value.slice (some ⟨W6.heap.size, 0, none⟩) 2 2] rfl))
            have hN0 := Hd.mk (R_fr hN0.out eF (fun k hk hl h => by skip; (try simp only [rng] at hk); (try simp only at hk); (try simp only at h); omega))
            have hL0 := Hd.mk (R_fr hL0.out eF (fun k hk hl h => by skip; (try simp only [rng] at hk); (try simp only at hk); (try simp only at h); omega))
            clear hW eF
            have z11 := Hd.mk hz_; clear hz_
            have hBs := hB.out.size
            have z1_ := z1.out; have z2_ := z2.out; have z3_ := z3.out; have z4_ := z4.out; have z5_ := z5.out; have z6_ := z6.out; have z7_ := z7.out; have z8_ := z8.out; have z9_ := z9.out; have z10_ := z10.out; have z11_ := z11.out
            rw [HRR.out]
            exact ⟨w5.heap.size, _, _, _, _, 2, 2, _, _, _, _, _, _, _, _, _, _, _, _, _, _, _, _, _, rfl, b2, b0, b1, ⟨by omega⟩, ⟨fun k => ⟨fun hk => by have h1 := hk.1; have h2 := hk.2; refine ⟨by omega, by omega, by omega, fun hn => by have h3 := hn.1; have h4 := hn.2; omega⟩, fun hk => by have h1 := hk.1; have h2 := hk.2; refine ⟨by omega, by omega, by omega⟩⟩⟩, hL0, hN0, hB⟩
          · refine stepM_of rfl ?_ (by rfl)
            go_wp2_with fail
            apply calls_gen; intro W7 hW
            have hz_ : W6.heap.size ≤ W7.heap.size := by rw [hW]; simp
            have hE : Below W6.heap.size W6 W7 := by rw [hW]; (repeat (first | with_reducible refine below_alloc ?_ _ | with_reducible refine below_drew ?_)); exact Below.refl _ _
            have hB := Hd.mk (below_then hB.out hE)
            replace hS := Hd.mk (below_then hS.out hE)
            have b0 := Hd.mk (b0.out.below hE)
            have b1 := Hd.mk (b1.out.below hE)
            have b2 := Hd.mk (b2.out.below hE)
            clear hW hE
            have z7 := Hd.mk hz_; clear hz_
            refine (spec_WayText _ _ x.way _ (C_below HRW.out hB.out) HLW.out).mono ?_
            rintro e w8 ⟨rfl, hX⟩
            have b0 := Hd.mk (b0.out.below hX)
            have b1 := Hd.mk (b1.out.below hX)
            have b2 := Hd.mk (b2.out.below hX)
            have hB := Hd.mk (below_then hB.out hX)
            replace hS := Hd.mk (below_then hS.out hX)
            have hz_ := hX.size
            clear hX
            have z8 := Hd.mk hz_; clear hz_
            rw [← HTW.out]
            go_wp2_with fail
            refine ⟨cls_below hS.out, ?_⟩
            refine mixT_q rfl ?_
            go_big_quiet_want; go_big_quiet_op; go_big_quiet_on; refine wpQuiet_nil ?_
            refine ⟨?_, ?_⟩
            · refine stepM_of rfl ?_ (by rfl)
              go_wp2_with fail
              refine ⟨cls_below (below_alloc hS.out _), ?_⟩
              refine genT ?_; intro W9 hW
              have hN0 := Hd.mk (show str.R 9 W9 (rng w8.heap.size (w8.heap.size + 1)) (.slice (some ⟨w8.heap.size, 0, none⟩) 2 2) [nmOp, nmPath] by rw [hW]; exact R_mono (fun k h => by have h : k = _ := h; simp only [rng]; omega) (R_strsN [nmOp, nmPath] (by decide) (by decide)))
              have hz_ : w8.heap.size + 1 ≤ W9.heap.size := by rw [hW]; simp
              have hE : Below w8.heap.size w8 W9 := by rw [hW]; (repeat (first | with_reducible refine below_alloc ?_ _ | with_reducible refine below_drew ?_)); exact Below.refl _ _
              have hB := Hd.mk (below_then hB.out hE)
              replace hS := Hd.mk (below_then hS.out hE)
              have b0 := Hd.mk (b0.out.below hE)
              have b1 := Hd.mk (b1.out.below hE)
              have b2 := Hd.mk (b2.out.below hE)
              clear hW hE
              have z9 := Hd.mk hz_; clear hz_
              refine mixT_b rfl ?_ (by rfl)
              go_wp2_with fail
              refine ⟨cls_below (below_alloc hS.out _), ?_⟩
              refine genT ?_; intro W10 hW
              have hL0 := Hd.mk (show (tJ (m + 1)).R 40 W10 (rng W9.heap.size (W9.heap.size + 1)) (.slice (some ⟨W9.heap.size, 0, none⟩) 2 2) [txt (kindNm (qk : Int)), txt tw] by rw [hW]; exact R_mono (fun k h => by have h : k = _ := h; simp only [rng]; omega) (R_txt2 _ _ (kindNm_size _) HTZ.out))
              have hz_ : W9.heap.size + 1 ≤ W10.heap.size := by rw [hW]; simp
              have hE : Below W9.heap.size W9 W10 := by rw [hW]; (repeat (first | with_reducible refine below_alloc ?_ _ | with_reducible refine below_drew ?_)); exact Below.refl _ _
              have hB := Hd.mk (below_then hB.out hE)
              replace hS := Hd.mk (below_then hS.out hE)
              have b0 := Hd.mk (b0.out.below hE)
              have b1 := Hd.mk (b1.out.below hE)
              have b2 := Hd.mk (b2.out.below hE)
              have hN0 := Hd.mk (R_below hN0.out hE)
              clear hW hE
              have z10 := Hd.mk hz_; clear hz_
              refine mixT_q rfl ?_
              go_big_quiet_want; go_big_quiet_op; go_big_quiet_on; refine wpQuiet_nil ?_
              refine mixT_fin ?_
              clear hS
              clear rfb0_0 rfb0_1 rfb0_2 rfb0_3 rfb0_4 rfb0_5 rfb0_6 rfb1_0 rfb1_1 rfb1_2 rfb1_3 rfb1_4
              clear fb0_0 fb0_1 fb0_2 fb0_3 fb0_4 fb0_5 fb0_6 fb0_z fb1_0 fb1_1 fb1_2 fb1_3 fb1_4 fb1_z
              have fb0_0 : W10.cell? ⟨w.heap.size, 0, none⟩ = some (Value.int IntKind.i64 (qk : Int)) := b0.out.cell 0 rfl
              have fb0_1 : W10.cell? ⟨w.heap.size, 1, none⟩ = some (Value.slice A1 x.way.length c1) := b0.out.cell 1 rfl
              have fb0_2 : W10.cell? ⟨w.heap.size, 2, none⟩ = some (Value.int IntKind.i64 x.value.kind) := b0.out.cell 2 rfl
              have fb0_3 : W10.cell? ⟨w.heap.size, 3, none⟩ = some (Value.int IntKind.i64 x.value.n) := b0.out.cell 3 rfl
              have fb0_4 : W10.cell? ⟨w.heap.size, 4, none⟩ = some (Value.string x.value.s) := b0.out.cell 4 rfl
              have fb0_5 : W10.cell? ⟨w.heap.size, 5, none⟩ = some (Value.slice A3 x.value.list.length c3) := b0.out.cell 5 rfl
              have fb0_6 : W10.cell? ⟨w.heap.size, 6, none⟩ = some (Value.slice A4 x.value.names.length c4) := b0.out.cell 6 rfl
              have fb0_z := b0.out.frozen
              have fb1_0 : W10.cell? ⟨w.heap.size + 1, 0, none⟩ = some (Value.int IntKind.i64 0) := b1.out.cell 0 rfl
              have fb1_1 : W10.cell? ⟨w.heap.size + 1, 1, none⟩ = some (Value.int IntKind.i64 0) := b1.out.cell 1 rfl
              have fb1_2 : W10.cell? ⟨w.heap.size + 1, 2, none⟩ = some (Value.string ⟨#[]⟩) := b1.out.cell 2 rfl
              have fb1_3 : W10.cell? ⟨w.heap.size + 1, 3, none⟩ = some (Value.slice none 0 0) := b1.out.cell 3 rfl
              have fb1_4 : W10.cell? ⟨w.heap.size + 1, 4, none⟩ = some (Value.slice none 0 0) := b1.out.cell 4 rfl
              have fb1_z := b1.out.frozen
              have fb2_0 : W10.cell? ⟨w5.heap.size, 0, none⟩ = some (Value.int IntKind.i64 0) := b2.out.cell 0 rfl
              have fb2_1 : W10.cell? ⟨w5.heap.size, 1, none⟩ = some (Value.int IntKind.i64 0) := b2.out.cell 1 rfl
              have fb2_2 : W10.cell? ⟨w5.heap.size, 2, none⟩ = some (Value.string ⟨#[]⟩) := b2.out.cell 2 rfl
              have fb2_3 : W10.cell? ⟨w5.heap.size, 3, none⟩ = some (Value.slice none 0 0) := b2.out.cell 3 rfl
              have fb2_4 : W10.cell? ⟨w5.heap.size, 4, none⟩ = some (Value.slice none 0 0) := b2.out.cell 4 rfl
              have fb2_z := b2.out.frozen
              refine tail_b rfl ?_ (by rfl)
              go_wp2_with fail
              refine mixQ_n ?_
              refine tail_nil ?_
              refine region_gen ?_; intro W hW
              clear fb0_0 fb0_1 fb0_2 fb0_3 fb0_4 fb0_5 fb0_6 fb0_z fb1_0 fb1_1 fb1_2 fb1_3 fb1_4 fb1_z fb2_0 fb2_1 fb2_2 fb2_3 fb2_4 fb2_z
              have hz_ : W10.heap.size ≤ W.heap.size := by rw [hW]; simp
              have eF : Fr W10 W (fun k => k = w5.heap.size ∨ W10.heap.size ≤ k) := by rw [hW]; (repeat (first | with_reducible refine Fr.setCell ?_ _ (fun _ => by simp <;> omega) _ | with_reducible refine Fr.alloc ?_ _ | with_reducible refine Fr.drew ?_)); exact Fr.refl _ _
              have z1_ := z1.out; have z2_ := z2.out; have z3_ := z3.out; have z4_ := z4.out; have z5_ := z5.out; have z6_ := z6.out; have z7_ := z7.out; have z8_ := z8.out; have z9_ := z9.out; have z10_ := z10.out
              have hB := Hd.mk (((Fr.of_below hB.out (fun k => k = w5.heap.size ∨ W10.heap.size ≤ k)).then_ eF (fun k hk _ => hk)).below (fun k hk => by have := hB.out.size; omega))
              have b0 := Hd.mk (b0.out.fr eF (fun h => by have hlt_ := b0.out.lt; (try simp only at h); omega))
              have b1 := Hd.mk (b1.out.fr eF (fun h => by have hlt_ := b1.out.lt; (try simp only at h); omega))
              have b2 := Hd.mk (show Blk W (w5.heap.size) #[Value.int IntKind.i64 5, Value.int IntKind.i64 0, Value.string ⟨#[]⟩, Value.slice (some ⟨W9.heap.size, 0, none⟩) 2 2, Value.slice (some ⟨w8.heap.size, 0, none⟩) 2 2] 40 by rw [hW]; exact (Blk.all b2.out [Value.int IntKind.i64 5, Value.int IntKind.i64 0, Value.string ⟨#[]⟩, Value.slice (some ⟨W9.heap.size, 0, none⟩) 2 2, Value.slice (some ⟨w8.heap.size, 0, none⟩) 2 2] rfl))
              have hN0 := Hd.mk (R_fr hN0.out eF (fun k hk hl h => by skip; (try simp only [rng] at hk); (try simp only at hk); (try simp only at h); omega))
              have hL0 := Hd.mk (R_fr hL0.out eF (fun k hk hl h => by skip; (try simp only [rng] at hk); (try simp only at hk); (try simp only at h); omega))
              clear hW eF
              have z11 := Hd.mk hz_; clear hz_
              have hBs := hB.out.size
              have z1_ := z1.out; have z2_ := z2.out; have z3_ := z3.out; have z4_ := z4.out; have z5_ := z5.out; have z6_ := z6.out; have z7_ := z7.out; have z8_ := z8.out; have z9_ := z9.out; have z10_ := z10.out; have z11_ := z11.out
              rw [HRR.out]
              exact ⟨w5.heap.size, _, _, _, _, 2, 2, _, _, _, _, _, _, _, _, _, _, _, _, _, _, _, _, _, rfl, b2, b0, b1, ⟨by omega⟩, ⟨fun k => ⟨fun hk => by have h1 := hk.1; have h2 := hk.2; refine ⟨by omega, by omega, by omega, fun hn => by have h3 := hn.1; have h4 := hn.2; omega⟩, fun hk => by have h1 := hk.1; have h2 := hk.2; refine ⟨by omega, by omega, by omega⟩⟩⟩, hL0, hN0, hB⟩
            · refine stepM_of rfl ?_ (by rfl)
              go_wp2_with fail
              refine ⟨cls_below (below_alloc hS.out _), ?_⟩
              refine genT ?_; intro W9 hW
              have hL0 := Hd.mk (show (tJ (m + 1)).R 40 W9 (rng w8.heap.size (w8.heap.size + 1)) (.slice (some ⟨w8.heap.size, 0, none⟩) 2 2) [txt (kindNm (qk : Int)), txt tw] by rw [hW]; exact R_mono (fun k h => by have h : k = _ := h; simp only [rng]; omega) (R_txt2 _ _ (kindNm_size _) HTZ.out))
              have hz_ : w8.heap.size + 1 ≤ W9.heap.size := by rw [hW]; simp
              have hE : Below w8.heap.size w8 W9 := by rw [hW]; (repeat (first | with_reducible refine below_alloc ?_ _ | with_reducible refine below_drew ?_)); exact Below.refl _ _
              have hB := Hd.mk (below_then hB.out hE)
              replace hS := Hd.mk (below_then hS.out hE)
              have b0 := Hd.mk (b0.out.below hE)
              have b1 := Hd.mk (b1.out.below hE)
              have b2 := Hd.mk (b2.out.below hE)
              clear hW hE
              have z9 := Hd.mk hz_; clear hz_
              refine mixT_b rfl ?_ (by rfl)
              go_wp2_with fail
              refine ⟨cls_below (below_alloc hS.out _), ?_⟩
              refine genT ?_; intro W10 hW
              have hN0 := Hd.mk (show str.R 9 W10 (rng W9.heap.size (W9.heap.size + 1)) (.slice (some ⟨W9.heap.size, 0, none⟩) 2 2) [nmOp, nmPath] by rw [hW]; exact R_mono (fun k h => by have h : k = _ := h; simp only [rng]; omega) (R_strsN [nmOp, nmPath] (by decide) (by decide)))
              have hz_ : W9.heap.size + 1 ≤ W10.heap.size := by rw [hW]; simp
              have hE : Below W9.heap.size W9 W10 := by rw [hW]; (repeat (first | with_reducible refine below_alloc ?_ _ | with_reducible refine below_drew ?_)); exact Below.refl _ _
              have hB := Hd.mk (below_then hB.out hE)
              replace hS := Hd.mk (below_then hS.out hE)
              have b0 := Hd.mk (b0.out.below hE)
              have b1 := Hd.mk (b1.out.below hE)
              have b2 := Hd.mk (b2.out.below hE)
              have hL0 := Hd.mk (R_below hL0.out hE)
              clear hW hE
              have z10 := Hd.mk hz_; clear hz_
              refine mixT_q rfl ?_
              go_big_quiet_want; go_big_quiet_op; go_big_quiet_on; refine wpQuiet_nil ?_
              refine mixT_fin ?_
              clear hS
              clear rfb0_0 rfb0_1 rfb0_2 rfb0_3 rfb0_4 rfb0_5 rfb0_6 rfb1_0 rfb1_1 rfb1_2 rfb1_3 rfb1_4
              clear fb0_0 fb0_1 fb0_2 fb0_3 fb0_4 fb0_5 fb0_6 fb0_z fb1_0 fb1_1 fb1_2 fb1_3 fb1_4 fb1_z
              have fb0_0 : W10.cell? ⟨w.heap.size, 0, none⟩ = some (Value.int IntKind.i64 (qk : Int)) := b0.out.cell 0 rfl
              have fb0_1 : W10.cell? ⟨w.heap.size, 1, none⟩ = some (Value.slice A1 x.way.length c1) := b0.out.cell 1 rfl
              have fb0_2 : W10.cell? ⟨w.heap.size, 2, none⟩ = some (Value.int IntKind.i64 x.value.kind) := b0.out.cell 2 rfl
              have fb0_3 : W10.cell? ⟨w.heap.size, 3, none⟩ = some (Value.int IntKind.i64 x.value.n) := b0.out.cell 3 rfl
              have fb0_4 : W10.cell? ⟨w.heap.size, 4, none⟩ = some (Value.string x.value.s) := b0.out.cell 4 rfl
              have fb0_5 : W10.cell? ⟨w.heap.size, 5, none⟩ = some (Value.slice A3 x.value.list.length c3) := b0.out.cell 5 rfl
              have fb0_6 : W10.cell? ⟨w.heap.size, 6, none⟩ = some (Value.slice A4 x.value.names.length c4) := b0.out.cell 6 rfl
              have fb0_z := b0.out.frozen
              have fb1_0 : W10.cell? ⟨w.heap.size + 1, 0, none⟩ = some (Value.int IntKind.i64 0) := b1.out.cell 0 rfl
              have fb1_1 : W10.cell? ⟨w.heap.size + 1, 1, none⟩ = some (Value.int IntKind.i64 0) := b1.out.cell 1 rfl
              have fb1_2 : W10.cell? ⟨w.heap.size + 1, 2, none⟩ = some (Value.string ⟨#[]⟩) := b1.out.cell 2 rfl
              have fb1_3 : W10.cell? ⟨w.heap.size + 1, 3, none⟩ = some (Value.slice none 0 0) := b1.out.cell 3 rfl
              have fb1_4 : W10.cell? ⟨w.heap.size + 1, 4, none⟩ = some (Value.slice none 0 0) := b1.out.cell 4 rfl
              have fb1_z := b1.out.frozen
              have fb2_0 : W10.cell? ⟨w5.heap.size, 0, none⟩ = some (Value.int IntKind.i64 0) := b2.out.cell 0 rfl
              have fb2_1 : W10.cell? ⟨w5.heap.size, 1, none⟩ = some (Value.int IntKind.i64 0) := b2.out.cell 1 rfl
              have fb2_2 : W10.cell? ⟨w5.heap.size, 2, none⟩ = some (Value.string ⟨#[]⟩) := b2.out.cell 2 rfl
              have fb2_3 : W10.cell? ⟨w5.heap.size, 3, none⟩ = some (Value.slice none 0 0) := b2.out.cell 3 rfl
              have fb2_4 : W10.cell? ⟨w5.heap.size, 4, none⟩ = some (Value.slice none 0 0) := b2.out.cell 4 rfl
              have fb2_z := b2.out.frozen
              refine tail_b rfl ?_ (by rfl)
              go_wp2_with fail
              refine mixQ_n ?_
              refine tail_nil ?_
              refine region_gen ?_; intro W hW
              clear fb0_0 fb0_1 fb0_2 fb0_3 fb0_4 fb0_5 fb0_6 fb0_z fb1_0 fb1_1 fb1_2 fb1_3 fb1_4 fb1_z fb2_0 fb2_1 fb2_2 fb2_3 fb2_4 fb2_z
              have hz_ : W10.heap.size ≤ W.heap.size := by rw [hW]; simp
              have eF : Fr W10 W (fun k => k = w5.heap.size ∨ W10.heap.size ≤ k) := by rw [hW]; (repeat (first | with_reducible refine Fr.setCell ?_ _ (fun _ => by simp <;> omega) _ | with_reducible refine Fr.alloc ?_ _ | with_reducible refine Fr.drew ?_)); exact Fr.refl _ _
              have z1_ := z1.out; have z2_ := z2.out; have z3_ := z3.out; have z4_ := z4.out; have z5_ := z5.out; have z6_ := z6.out; have z7_ := z7.out; have z8_ := z8.out; have z9_ := z9.out; have z10_ := z10.out
              have hB := Hd.mk (((Fr.of_below hB.out (fun k => k = w5.heap.size ∨ W10.heap.size ≤ k)).then_ eF (fun k hk _ => hk)).below (fun k hk => by have := hB.out.size; omega))
              have b0 := Hd.mk (b0.out.fr eF (fun h => by have hlt_ := b0.out.lt; (try simp only at h); omega))
              have b1 := Hd.mk (b1.out.fr eF (fun h => by have hlt_ := b1.out.lt; (try simp only at h); omega))
              have b2 := Hd.mk (show Blk W (w5.heap.size) #[Value.int IntKind.i64 5, Value.int IntKind.i64 0, Value.string ⟨#[]⟩, Value.slice (some ⟨w8.heap.size, 0, none⟩) 2 2, Value.slice (some ⟨W9.heap.size, 0, none⟩) 2 2] 40 by rw [hW]; exact (Blk.all b2.out [Value.int IntKind.i64 5, Value.int IntKind.i64 0, Value.string ⟨#[]⟩, Value.slice (some ⟨w8.heap.size, 0, none⟩) 2 2, Value.slice (some ⟨W9.heap.size, 0, none⟩) 2 2] rfl))
              have hL0 := Hd.mk (R_fr hL0.out eF (fun k hk hl h => by skip; (try simp only [rng] at hk); (try simp only at hk); (try simp only at h); omega))
              have hN0 := Hd.mk (R_fr hN0.out eF (fun k hk hl h => by skip; (try simp only [rng] at hk); (try simp only at hk); (try simp only at h); omega))
              clear hW eF
              have z11 := Hd.mk hz_; clear hz_
              have hBs := hB.out.size
              have z1_ := z1.out; have z2_ := z2.out; have z3_ := z3.out; have z4_ := z4.out; have z5_ := z5.out; have z6_ := z6.out; have z7_ := z7.out; have z8_ := z8.out; have z9_ := z9.out; have z10_ := z10.out; have z11_ := z11.out
              rw [HRR.out]
              exact ⟨w5.heap.size, _, _, _, _, 2, 2, _, _, _, _, _, _, _, _, _, _, _, _, _, _, _, _, _, rfl, b2, b0, b1, ⟨by omega⟩, ⟨fun k => ⟨fun hk => by have h1 := hk.1; have h2 := hk.2; refine ⟨by omega, by omega, by omega, fun hn => by have h3 := hn.1; have h4 := hn.2; omega⟩, fun hk => by have h1 := hk.1; have h2 := hk.2; refine ⟨by omega, by omega, by omega⟩⟩⟩, hL0, hN0, hB⟩
      · refine stepM_of rfl ?_ (by rfl)
        go_wp2_with fail
        refine ⟨cls_below (below_alloc hS.out _), ?_⟩
        refine genT ?_; intro W4 hW
        have hz_ : W3.heap.size + 1 ≤ W4.heap.size := by rw [hW]; simp
        have hE : Below W3.heap.size W3 W4 := by rw [hW]; (repeat (first | with_reducible refine below_alloc ?_ _ | with_reducible refine below_drew ?_)); exact Below.refl _ _
        have hB := Hd.mk (below_then hB.out hE)
        replace hS := Hd.mk (below_then hS.out hE)
        have b0 := Hd.mk (b0.out.below hE)
        have b1 := Hd.mk (b1.out.below hE)
        have b2 := Hd.mk (show Blk W4 (W3.heap.size) #[Value.int IntKind.i64 0, Value.int IntKind.i64 0, Value.string ⟨#[]⟩, Value.slice none 0 0, Value.slice none 0 0] 40 by rw [hW]; first | exact (Blk.new _ _ _) | (simpa using (Blk.new _ _ _)))
        clear hW hE
        have z4 := Hd.mk hz_; clear hz_
        refine ⟨?_, ?_⟩
        · refine stepM_of rfl ?_ (by rfl)
          go_wp2_with fail
          refine ⟨cls_below (below_alloc hS.out _), ?_⟩
          refine genT ?_; intro W5 hW
          have hN0 := Hd.mk (show str.R 9 W5 (rng W4.heap.size (W4.heap.size + 1)) (.slice (some ⟨W4.heap.size, 0, none⟩) 2 2) [nmOp, nmPath] by rw [hW]; exact R_mono (fun k h => by have h : k = _ := h; simp only [rng]; omega) (R_strsN [nmOp, nmPath] (by decide) (by decide)))
          have hz_ : W4.heap.size + 1 ≤ W5.heap.size := by rw [hW]; simp
          have hE : Below W4.heap.size W4 W5 := by rw [hW]; (repeat (first | with_reducible refine below_alloc ?_ _ | with_reducible refine below_drew ?_)); exact Below.refl _ _
          have hB := Hd.mk (below_then hB.out hE)
          replace hS := Hd.mk (below_then hS.out hE)
          have b0 := Hd.mk (b0.out.below hE)
          have b1 := Hd.mk (b1.out.below hE)
          have b2 := Hd.mk (b2.out.below hE)
          clear hW hE
          have z5 := Hd.mk hz_; clear hz_
          refine mixT_b rfl ?_ (by rfl)
          go_wp2_with fail
          apply calls_gen; intro W6 hW
          have hz_ : W5.heap.size ≤ W6.heap.size := by rw [hW]; simp
          have hE : Below W5.heap.size W5 W6 := by rw [hW]; (repeat (first | with_reducible refine below_alloc ?_ _ | with_reducible refine below_drew ?_)); exact Below.refl _ _
          have hB := Hd.mk (below_then hB.out hE)
          replace hS := Hd.mk (below_then hS.out hE)
          have b0 := Hd.mk (b0.out.below hE)
          have b1 := Hd.mk (b1.out.below hE)
          have b2 := Hd.mk (b2.out.below hE)
          have hN0 := Hd.mk (R_below hN0.out hE)
          clear hW hE
          have z6 := Hd.mk hz_; clear hz_
          refine (spec_l4Names _).mono ?_
          rintro e w7 ⟨AK, rfl, hKN, hX⟩
          have b0 := Hd.mk (b0.out.below hX)
          have b1 := Hd.mk (b1.out.below hX)
          have b2 := Hd.mk (b2.out.below hX)
          have hN0 := Hd.mk (R_below hN0.out hX)
          have hB := Hd.mk (below_then hB.out hX)
          replace hS := Hd.mk (below_then hS.out hX)
          have hz_ := hX.size
          clear hX
          have z7 := Hd.mk hz_; clear hz_
          obtain ⟨adk, rfl, xk⟩ := kind_at hKN qk hq1 hq4
          replace hKN := Hd.mk hKN; clear xk
          go_wp2_with fail
          refine ⟨cls_below hS.out, ?_⟩
          refine mixT_q rfl ?_
          go_big_quiet_want; go_big_quiet_op; go_big_quiet_on; refine wpQuiet_nil ?_
          obtain ⟨ad_, he_, xk⟩ := kind_at hKN.out qk hq1 hq4
          obtain rfl := Option.some.inj he_
          have rxk := cell_regrown xk
          clear xk hKN
          refine mixT_n (C' := fun w' => ∃ p : Regrown, w' = grow (redrawn w7 p.d) p.os) (cls_below (Below.refl _ _)) (fun w' h => cls_below (below_then hS.out (below_cls h))) ?_
          clear hS
          have hS := Hd.mk (Below.refl w7.heap.size w7)
          refine mixT_q rfl ?_
          go_big_quiet_want; go_big_quiet_op; go_big_quiet_on; refine wpQuiet_nil ?_
          refine mixT_q rfl ?_
          go_big_quiet_want; go_big_quiet_op; go_big_quiet_on; refine wpQuiet_nil ?_
          refine mixT_b rfl ?_ (by rfl)
          go_wp2_with fail
          apply calls_gen; intro W8 hW
          have hz_ : w7.heap.size ≤ W8.heap.size := by rw [hW]; simp
          have hE : Below w7.heap.size w7 W8 := by rw [hW]; (repeat (first | with_reducible refine below_alloc ?_ _ | with_reducible refine below_drew ?_)); exact Below.refl _ _
          have hB := Hd.mk (below_then hB.out hE)
          replace hS := Hd.mk (below_then hS.out hE)
          have b0 := Hd.mk (b0.out.below hE)
          have b1 := Hd.mk (b1.out.below hE)
          have b2 := Hd.mk (b2.out.below hE)
          have hN0 := Hd.mk (R_below hN0.out hE)
          clear hW hE
          have z8 := Hd.mk hz_; clear hz_
          refine (spec_WayText _ _ x.way _ (C_below HRW.out hB.out) HLW.out).mono ?_
          rintro e w9 ⟨rfl, hX⟩
          have b0 := Hd.mk (b0.out.below hX)
          have b1 := Hd.mk (b1.out.below hX)
          have b2 := Hd.mk (b2.out.below hX)
          have hN0 := Hd.mk (R_below hN0.out hX)
          have hB := Hd.mk (below_then hB.out hX)
          replace hS := Hd.mk (below_then hS.out hX)
          have hz_ := hX.size
          clear hX
          have z9 := Hd.mk hz_; clear hz_
          rw [← HTW.out]
          go_wp2_with fail
          refine ⟨cls_below hS.out, ?_⟩
          refine mixT_q rfl ?_
          go_big_quiet_want; go_big_quiet_op; go_big_quiet_on; refine wpQuiet_nil ?_
          refine mixT_b rfl ?_ (by rfl)
          go_wp2_with fail
          refine ⟨cls_below (below_alloc hS.out _), ?_⟩
          refine genT ?_; intro W10 hW
          have hL0 := Hd.mk (show (tJ (m + 1)).R 40 W10 (rng w9.heap.size (w9.heap.size + 1)) (.slice (some ⟨w9.heap.size, 0, none⟩) 2 2) [txt (kindNm (qk : Int)), txt tw] by rw [hW]; exact R_mono (fun k h => by have h : k = _ := h; simp only [rng]; omega) (R_txt2 _ _ (kindNm_size _) HTZ.out))
          have hz_ : w9.heap.size + 1 ≤ W10.heap.size := by rw [hW]; simp
          have hE : Below w9.heap.size w9 W10 := by rw [hW]; (repeat (first | with_reducible refine below_alloc ?_ _ | with_reducible refine below_drew ?_)); exact Below.refl _ _
          have hB := Hd.mk (below_then hB.out hE)
          replace hS := Hd.mk (below_then hS.out hE)
          have b0 := Hd.mk (b0.out.below hE)
          have b1 := Hd.mk (b1.out.below hE)
          have b2 := Hd.mk (b2.out.below hE)
          have hN0 := Hd.mk (R_below hN0.out hE)
          clear hW hE
          have z10 := Hd.mk hz_; clear hz_
          refine mixT_q rfl ?_
          go_big_quiet_want; go_big_quiet_op; go_big_quiet_on; refine wpQuiet_nil ?_
          refine mixT_fin ?_
          clear hS
          clear rfb0_0 rfb0_1 rfb0_2 rfb0_3 rfb0_4 rfb0_5 rfb0_6 rfb1_0 rfb1_1 rfb1_2 rfb1_3 rfb1_4
          clear fb0_0 fb0_1 fb0_2 fb0_3 fb0_4 fb0_5 fb0_6 fb0_z fb1_0 fb1_1 fb1_2 fb1_3 fb1_4 fb1_z
          have fb0_0 : W10.cell? ⟨w.heap.size, 0, none⟩ = some (Value.int IntKind.i64 (qk : Int)) := b0.out.cell 0 rfl
          have fb0_1 : W10.cell? ⟨w.heap.size, 1, none⟩ = some (Value.slice A1 x.way.length c1) := b0.out.cell 1 rfl
          have fb0_2 : W10.cell? ⟨w.heap.size, 2, none⟩ = some (Value.int IntKind.i64 x.value.kind) := b0.out.cell 2 rfl
          have fb0_3 : W10.cell? ⟨w.heap.size, 3, none⟩ = some (Value.int IntKind.i64 x.value.n) := b0.out.cell 3 rfl
          have fb0_4 : W10.cell? ⟨w.heap.size, 4, none⟩ = some (Value.string x.value.s) := b0.out.cell 4 rfl
          have fb0_5 : W10.cell? ⟨w.heap.size, 5, none⟩ = some (Value.slice A3 x.value.list.length c3) := b0.out.cell 5 rfl
          have fb0_6 : W10.cell? ⟨w.heap.size, 6, none⟩ = some (Value.slice A4 x.value.names.length c4) := b0.out.cell 6 rfl
          have fb0_z := b0.out.frozen
          have fb1_0 : W10.cell? ⟨w.heap.size + 1, 0, none⟩ = some (Value.int IntKind.i64 0) := b1.out.cell 0 rfl
          have fb1_1 : W10.cell? ⟨w.heap.size + 1, 1, none⟩ = some (Value.int IntKind.i64 0) := b1.out.cell 1 rfl
          have fb1_2 : W10.cell? ⟨w.heap.size + 1, 2, none⟩ = some (Value.string ⟨#[]⟩) := b1.out.cell 2 rfl
          have fb1_3 : W10.cell? ⟨w.heap.size + 1, 3, none⟩ = some (Value.slice none 0 0) := b1.out.cell 3 rfl
          have fb1_4 : W10.cell? ⟨w.heap.size + 1, 4, none⟩ = some (Value.slice none 0 0) := b1.out.cell 4 rfl
          have fb1_z := b1.out.frozen
          have fb2_0 : W10.cell? ⟨W3.heap.size, 0, none⟩ = some (Value.int IntKind.i64 0) := b2.out.cell 0 rfl
          have fb2_1 : W10.cell? ⟨W3.heap.size, 1, none⟩ = some (Value.int IntKind.i64 0) := b2.out.cell 1 rfl
          have fb2_2 : W10.cell? ⟨W3.heap.size, 2, none⟩ = some (Value.string ⟨#[]⟩) := b2.out.cell 2 rfl
          have fb2_3 : W10.cell? ⟨W3.heap.size, 3, none⟩ = some (Value.slice none 0 0) := b2.out.cell 3 rfl
          have fb2_4 : W10.cell? ⟨W3.heap.size, 4, none⟩ = some (Value.slice none 0 0) := b2.out.cell 4 rfl
          have fb2_z := b2.out.frozen
          refine tail_b rfl ?_ (by rfl)
          go_wp2_with fail
          refine mixQ_n ?_
          refine tail_nil ?_
          refine region_gen ?_; intro W hW
          clear fb0_0 fb0_1 fb0_2 fb0_3 fb0_4 fb0_5 fb0_6 fb0_z fb1_0 fb1_1 fb1_2 fb1_3 fb1_4 fb1_z fb2_0 fb2_1 fb2_2 fb2_3 fb2_4 fb2_z
          have hz_ : W10.heap.size ≤ W.heap.size := by rw [hW]; simp
          have eF : Fr W10 W (fun k => k = W3.heap.size ∨ W10.heap.size ≤ k) := by rw [hW]; (repeat (first | with_reducible refine Fr.setCell ?_ _ (fun _ => by simp <;> omega) _ | with_reducible refine Fr.alloc ?_ _ | with_reducible refine Fr.drew ?_)); exact Fr.refl _ _
          have z1_ := z1.out; have z2_ := z2.out; have z3_ := z3.out; have z4_ := z4.out; have z5_ := z5.out; have z6_ := z6.out; have z7_ := z7.out; have z8_ := z8.out; have z9_ := z9.out; have z10_ := z10.out
          have hB := Hd.mk (((Fr.of_below hB.out (fun k => k = W3.heap.size ∨ W10.heap.size ≤ k)).then_ eF (fun k hk _ => hk)).below (fun k hk => by have := hB.out.size; omega))
          have b0 := Hd.mk (b0.out.fr eF (fun h => by have hlt_ := b0.out.lt; (try simp only at h); omega))
          have b1 := Hd.mk (b1.out.fr eF (fun h => by have hlt_ := b1.out.lt; (try simp only at h); omega))
          have b2 := Hd.mk (show Blk W (W3.heap.size) #[Value.int IntKind.i64 5, Value.int IntKind.i64 0, Value.string ⟨#[]⟩, Value.slice (some ⟨w9.heap.size, 0, none⟩) 2 2, Value.slice (some ⟨W4.heap.size, 0, none⟩) 2 2] 40 by rw [hW]; exact (Blk.all b2.out [Value.int IntKind.i64 5, Value.int IntKind.i64 0, Value.string ⟨#[]⟩, Value.slice (some ⟨w9.heap.size, 0, none⟩) 2 2, Value.slice (some ⟨W4.heap.size, 0, none⟩) 2 2] rfl))
          have hN0 := Hd.mk (R_fr hN0.out eF (fun k hk hl h => by skip; (try simp only [rng] at hk); (try simp only at hk); (try simp only at h); omega))
          have hL0 := Hd.mk (R_fr hL0.out eF (fun k hk hl h => by skip; (try simp only [rng] at hk); (try simp only at hk); (try simp only at h); omega))
          clear hW eF
          have z11 := Hd.mk hz_; clear hz_
          have hBs := hB.out.size
          have z1_ := z1.out; have z2_ := z2.out; have z3_ := z3.out; have z4_ := z4.out; have z5_ := z5.out; have z6_ := z6.out; have z7_ := z7.out; have z8_ := z8.out; have z9_ := z9.out; have z10_ := z10.out; have z11_ := z11.out
          rw [HRR.out]
          exact ⟨W3.heap.size, _, _, _, _, 2, 2, _, _, _, _, _, _, _, _, _, _, _, _, _, _, _, _, _, rfl, b2, b0, b1, ⟨by omega⟩, ⟨fun k => ⟨fun hk => by have h1 := hk.1; have h2 := hk.2; refine ⟨by omega, by omega, by omega, fun hn => by have h3 := hn.1; have h4 := hn.2; omega⟩, fun hk => by have h1 := hk.1; have h2 := hk.2; refine ⟨by omega, by omega, by omega⟩⟩⟩, hL0, hN0, hB⟩
        · refine stepM_of rfl ?_ (by rfl)
          go_wp2_with fail
          apply calls_gen; intro W5 hW
          have hz_ : W4.heap.size ≤ W5.heap.size := by rw [hW]; simp
          have hE : Below W4.heap.size W4 W5 := by rw [hW]; (repeat (first | with_reducible refine below_alloc ?_ _ | with_reducible refine below_drew ?_)); exact Below.refl _ _
          have hB := Hd.mk (below_then hB.out hE)
          replace hS := Hd.mk (below_then hS.out hE)
          have b0 := Hd.mk (b0.out.below hE)
          have b1 := Hd.mk (b1.out.below hE)
          have b2 := Hd.mk (b2.out.below hE)
          clear hW hE
          have z5 := Hd.mk hz_; clear hz_
          refine (spec_l4Names _).mono ?_
          rintro e w6 ⟨AK, rfl, hKN, hX⟩
          have b0 := Hd.mk (b0.out.below hX)
          have b1 := Hd.mk (b1.out.below hX)
          have b2 := Hd.mk (b2.out.below hX)
          have hB := Hd.mk (below_then hB.out hX)
          replace hS := Hd.mk (below_then hS.out hX)
          have hz_ := hX.size
          clear hX
          have z6 := Hd.mk hz_; clear hz_
          obtain ⟨adk, rfl, xk⟩ := kind_at hKN qk hq1 hq4
          replace hKN := Hd.mk hKN; clear xk
          go_wp2_with fail
          refine ⟨cls_below hS.out, ?_⟩
          refine mixT_q rfl ?_
          go_big_quiet_want; go_big_quiet_op; go_big_quiet_on; refine wpQuiet_nil ?_
          obtain ⟨ad_, he_, xk⟩ := kind_at hKN.out qk hq1 hq4
          obtain rfl := Option.some.inj he_
          have rxk := cell_regrown xk
          clear xk hKN
          refine mixT_n (C' := fun w' => ∃ p : Regrown, w' = grow (redrawn w6 p.d) p.os) (cls_below (Below.refl _ _)) (fun w' h => cls_below (below_then hS.out (below_cls h))) ?_
          clear hS
          have hS := Hd.mk (Below.refl w6.heap.size w6)
          refine mixT_q rfl ?_
          go_big_quiet_want; go_big_quiet_op; go_big_quiet_on; refine wpQuiet_nil ?_
          refine mixT_q rfl ?_
          go_big_quiet_want; go_big_quiet_op; go_big_quiet_on; refine wpQuiet_nil ?_
          refine ⟨?_, ?_⟩
          · refine stepM_of rfl ?_ (by rfl)
            go_wp2_with fail
            refine ⟨cls_below (below_alloc hS.out _), ?_⟩
            refine genT ?_; intro W7 hW
            have hN0 := Hd.mk (show str.R 9 W7 (rng w6.heap.size (w6.heap.size + 1)) (.slice (some ⟨w6.heap.size, 0, none⟩) 2 2) [nmOp, nmPath] by rw [hW]; exact R_mono (fun k h => by have h : k = _ := h; simp only [rng]; omega) (R_strsN [nmOp, nmPath] (by decide) (by decide)))
            have hz_ : w6.heap.size + 1 ≤ W7.heap.size := by rw [hW]; simp
            have hE : Below w6.heap.size w6 W7 := by rw [hW]; (repeat (first | with_reducible refine below_alloc ?_ _ | with_reducible refine below_drew ?_)); exact Below.refl _ _
            have hB := Hd.mk (below_then hB.out hE)
            replace hS := Hd.mk (below_then hS.out hE)
            have b0 := Hd.mk (b0.out.below hE)
            have b1 := Hd.mk (b1.out.below hE)
            have b2 := Hd.mk (b2.out.below hE)
            clear hW hE
            have z7 := Hd.mk hz_; clear hz_
            refine mixT_b rfl ?_ (by rfl)
            go_wp2_with fail
            apply calls_gen; intro W8 hW
            have hz_ : W7.heap.size ≤ W8.heap.size := by rw [hW]; simp
            have hE : Below W7.heap.size W7 W8 := by rw [hW]; (repeat (first | with_reducible refine below_alloc ?_ _ | with_reducible refine below_drew ?_)); exact Below.refl _ _
            have hB := Hd.mk (below_then hB.out hE)
            replace hS := Hd.mk (below_then hS.out hE)
            have b0 := Hd.mk (b0.out.below hE)
            have b1 := Hd.mk (b1.out.below hE)
            have b2 := Hd.mk (b2.out.below hE)
            have hN0 := Hd.mk (R_below hN0.out hE)
            clear hW hE
            have z8 := Hd.mk hz_; clear hz_
            refine (spec_WayText _ _ x.way _ (C_below HRW.out hB.out) HLW.out).mono ?_
            rintro e w9 ⟨rfl, hX⟩
            have b0 := Hd.mk (b0.out.below hX)
            have b1 := Hd.mk (b1.out.below hX)
            have b2 := Hd.mk (b2.out.below hX)
            have hN0 := Hd.mk (R_below hN0.out hX)
            have hB := Hd.mk (below_then hB.out hX)
            replace hS := Hd.mk (below_then hS.out hX)
            have hz_ := hX.size
            clear hX
            have z9 := Hd.mk hz_; clear hz_
            rw [← HTW.out]
            go_wp2_with fail
            refine ⟨cls_below hS.out, ?_⟩
            refine mixT_q rfl ?_
            go_big_quiet_want; go_big_quiet_op; go_big_quiet_on; refine wpQuiet_nil ?_
            refine mixT_b rfl ?_ (by rfl)
            go_wp2_with fail
            refine ⟨cls_below (below_alloc hS.out _), ?_⟩
            refine genT ?_; intro W10 hW
            have hL0 := Hd.mk (show (tJ (m + 1)).R 40 W10 (rng w9.heap.size (w9.heap.size + 1)) (.slice (some ⟨w9.heap.size, 0, none⟩) 2 2) [txt (kindNm (qk : Int)), txt tw] by rw [hW]; exact R_mono (fun k h => by have h : k = _ := h; simp only [rng]; omega) (R_txt2 _ _ (kindNm_size _) HTZ.out))
            have hz_ : w9.heap.size + 1 ≤ W10.heap.size := by rw [hW]; simp
            have hE : Below w9.heap.size w9 W10 := by rw [hW]; (repeat (first | with_reducible refine below_alloc ?_ _ | with_reducible refine below_drew ?_)); exact Below.refl _ _
            have hB := Hd.mk (below_then hB.out hE)
            replace hS := Hd.mk (below_then hS.out hE)
            have b0 := Hd.mk (b0.out.below hE)
            have b1 := Hd.mk (b1.out.below hE)
            have b2 := Hd.mk (b2.out.below hE)
            have hN0 := Hd.mk (R_below hN0.out hE)
            clear hW hE
            have z10 := Hd.mk hz_; clear hz_
            refine mixT_q rfl ?_
            go_big_quiet_want; go_big_quiet_op; go_big_quiet_on; refine wpQuiet_nil ?_
            refine mixT_fin ?_
            clear hS
            clear rfb0_0 rfb0_1 rfb0_2 rfb0_3 rfb0_4 rfb0_5 rfb0_6 rfb1_0 rfb1_1 rfb1_2 rfb1_3 rfb1_4
            clear fb0_0 fb0_1 fb0_2 fb0_3 fb0_4 fb0_5 fb0_6 fb0_z fb1_0 fb1_1 fb1_2 fb1_3 fb1_4 fb1_z
            have fb0_0 : W10.cell? ⟨w.heap.size, 0, none⟩ = some (Value.int IntKind.i64 (qk : Int)) := b0.out.cell 0 rfl
            have fb0_1 : W10.cell? ⟨w.heap.size, 1, none⟩ = some (Value.slice A1 x.way.length c1) := b0.out.cell 1 rfl
            have fb0_2 : W10.cell? ⟨w.heap.size, 2, none⟩ = some (Value.int IntKind.i64 x.value.kind) := b0.out.cell 2 rfl
            have fb0_3 : W10.cell? ⟨w.heap.size, 3, none⟩ = some (Value.int IntKind.i64 x.value.n) := b0.out.cell 3 rfl
            have fb0_4 : W10.cell? ⟨w.heap.size, 4, none⟩ = some (Value.string x.value.s) := b0.out.cell 4 rfl
            have fb0_5 : W10.cell? ⟨w.heap.size, 5, none⟩ = some (Value.slice A3 x.value.list.length c3) := b0.out.cell 5 rfl
            have fb0_6 : W10.cell? ⟨w.heap.size, 6, none⟩ = some (Value.slice A4 x.value.names.length c4) := b0.out.cell 6 rfl
            have fb0_z := b0.out.frozen
            have fb1_0 : W10.cell? ⟨w.heap.size + 1, 0, none⟩ = some (Value.int IntKind.i64 0) := b1.out.cell 0 rfl
            have fb1_1 : W10.cell? ⟨w.heap.size + 1, 1, none⟩ = some (Value.int IntKind.i64 0) := b1.out.cell 1 rfl
            have fb1_2 : W10.cell? ⟨w.heap.size + 1, 2, none⟩ = some (Value.string ⟨#[]⟩) := b1.out.cell 2 rfl
            have fb1_3 : W10.cell? ⟨w.heap.size + 1, 3, none⟩ = some (Value.slice none 0 0) := b1.out.cell 3 rfl
            have fb1_4 : W10.cell? ⟨w.heap.size + 1, 4, none⟩ = some (Value.slice none 0 0) := b1.out.cell 4 rfl
            have fb1_z := b1.out.frozen
            have fb2_0 : W10.cell? ⟨W3.heap.size, 0, none⟩ = some (Value.int IntKind.i64 0) := b2.out.cell 0 rfl
            have fb2_1 : W10.cell? ⟨W3.heap.size, 1, none⟩ = some (Value.int IntKind.i64 0) := b2.out.cell 1 rfl
            have fb2_2 : W10.cell? ⟨W3.heap.size, 2, none⟩ = some (Value.string ⟨#[]⟩) := b2.out.cell 2 rfl
            have fb2_3 : W10.cell? ⟨W3.heap.size, 3, none⟩ = some (Value.slice none 0 0) := b2.out.cell 3 rfl
            have fb2_4 : W10.cell? ⟨W3.heap.size, 4, none⟩ = some (Value.slice none 0 0) := b2.out.cell 4 rfl
            have fb2_z := b2.out.frozen
            refine tail_b rfl ?_ (by rfl)
            go_wp2_with fail
            refine mixQ_n ?_
            refine tail_nil ?_
            refine region_gen ?_; intro W hW
            clear fb0_0 fb0_1 fb0_2 fb0_3 fb0_4 fb0_5 fb0_6 fb0_z fb1_0 fb1_1 fb1_2 fb1_3 fb1_4 fb1_z fb2_0 fb2_1 fb2_2 fb2_3 fb2_4 fb2_z
            have hz_ : W10.heap.size ≤ W.heap.size := by rw [hW]; simp
            have eF : Fr W10 W (fun k => k = W3.heap.size ∨ W10.heap.size ≤ k) := by rw [hW]; (repeat (first | with_reducible refine Fr.setCell ?_ _ (fun _ => by simp <;> omega) _ | with_reducible refine Fr.alloc ?_ _ | with_reducible refine Fr.drew ?_)); exact Fr.refl _ _
            have z1_ := z1.out; have z2_ := z2.out; have z3_ := z3.out; have z4_ := z4.out; have z5_ := z5.out; have z6_ := z6.out; have z7_ := z7.out; have z8_ := z8.out; have z9_ := z9.out; have z10_ := z10.out
            have hB := Hd.mk (((Fr.of_below hB.out (fun k => k = W3.heap.size ∨ W10.heap.size ≤ k)).then_ eF (fun k hk _ => hk)).below (fun k hk => by have := hB.out.size; omega))
            have b0 := Hd.mk (b0.out.fr eF (fun h => by have hlt_ := b0.out.lt; (try simp only at h); omega))
            have b1 := Hd.mk (b1.out.fr eF (fun h => by have hlt_ := b1.out.lt; (try simp only at h); omega))
            have b2 := Hd.mk (show Blk W (W3.heap.size) #[Value.int IntKind.i64 5, Value.int IntKind.i64 0, Value.string ⟨#[]⟩, Value.slice (some ⟨w9.heap.size, 0, none⟩) 2 2, Value.slice (some ⟨w6.heap.size, 0, none⟩) 2 2] 40 by rw [hW]; exact (Blk.all b2.out [Value.int IntKind.i64 5, Value.int IntKind.i64 0, Value.string ⟨#[]⟩, Value.slice (some ⟨w9.heap.size, 0, none⟩) 2 2, Value.slice (some ⟨w6.heap.size, 0, none⟩) 2 2] rfl))
            have hN0 := Hd.mk (R_fr hN0.out eF (fun k hk hl h => by skip; (try simp only [rng] at hk); (try simp only at hk); (try simp only at h); omega))
            have hL0 := Hd.mk (R_fr hL0.out eF (fun k hk hl h => by skip; (try simp only [rng] at hk); (try simp only at hk); (try simp only at h); omega))
            clear hW eF
            have z11 := Hd.mk hz_; clear hz_
            have hBs := hB.out.size
            have z1_ := z1.out; have z2_ := z2.out; have z3_ := z3.out; have z4_ := z4.out; have z5_ := z5.out; have z6_ := z6.out; have z7_ := z7.out; have z8_ := z8.out; have z9_ := z9.out; have z10_ := z10.out; have z11_ := z11.out
            rw [HRR.out]
            exact ⟨W3.heap.size, _, _, _, _, 2, 2, _, _, _, _, _, _, _, _, _, _, _, _, _, _, _, _, _, rfl, b2, b0, b1, ⟨by omega⟩, ⟨fun k => ⟨fun hk => by have h1 := hk.1; have h2 := hk.2; refine ⟨by omega, by omega, by omega, fun hn => by have h3 := hn.1; have h4 := hn.2; omega⟩, fun hk => by have h1 := hk.1; have h2 := hk.2; refine ⟨by omega, by omega, by omega⟩⟩⟩, hL0, hN0, hB⟩
          · refine stepM_of rfl ?_ (by rfl)
            go_wp2_with fail
            apply calls_gen; intro W7 hW
            have hz_ : w6.heap.size ≤ W7.heap.size := by rw [hW]; simp
            have hE : Below w6.heap.size w6 W7 := by rw [hW]; (repeat (first | with_reducible refine below_alloc ?_ _ | with_reducible refine below_drew ?_)); exact Below.refl _ _
            have hB := Hd.mk (below_then hB.out hE)
            replace hS := Hd.mk (below_then hS.out hE)
            have b0 := Hd.mk (b0.out.below hE)
            have b1 := Hd.mk (b1.out.below hE)
            have b2 := Hd.mk (b2.out.below hE)
            clear hW hE
            have z7 := Hd.mk hz_; clear hz_
            refine (spec_WayText _ _ x.way _ (C_below HRW.out hB.out) HLW.out).mono ?_
            rintro e w8 ⟨rfl, hX⟩
            have b0 := Hd.mk (b0.out.below hX)
            have b1 := Hd.mk (b1.out.below hX)
            have b2 := Hd.mk (b2.out.below hX)
            have hB := Hd.mk (below_then hB.out hX)
            replace hS := Hd.mk (below_then hS.out hX)
            have hz_ := hX.size
            clear hX
            have z8 := Hd.mk hz_; clear hz_
            rw [← HTW.out]
            go_wp2_with fail
            refine ⟨cls_below hS.out, ?_⟩
            refine mixT_q rfl ?_
            go_big_quiet_want; go_big_quiet_op; go_big_quiet_on; refine wpQuiet_nil ?_
            refine ⟨?_, ?_⟩
            · refine stepM_of rfl ?_ (by rfl)
              go_wp2_with fail
              refine ⟨cls_below (below_alloc hS.out _), ?_⟩
              refine genT ?_; intro W9 hW
              have hN0 := Hd.mk (show str.R 9 W9 (rng w8.heap.size (w8.heap.size + 1)) (.slice (some ⟨w8.heap.size, 0, none⟩) 2 2) [nmOp, nmPath] by rw [hW]; exact R_mono (fun k h => by have h : k = _ := h; simp only [rng]; omega) (R_strsN [nmOp, nmPath] (by decide) (by decide)))
              have hz_ : w8.heap.size + 1 ≤ W9.heap.size := by rw [hW]; simp
              have hE : Below w8.heap.size w8 W9 := by rw [hW]; (repeat (first | with_reducible refine below_alloc ?_ _ | with_reducible refine below_drew ?_)); exact Below.refl _ _
              have hB := Hd.mk (below_then hB.out hE)
              replace hS := Hd.mk (below_then hS.out hE)
              have b0 := Hd.mk (b0.out.below hE)
              have b1 := Hd.mk (b1.out.below hE)
              have b2 := Hd.mk (b2.out.below hE)
              clear hW hE
              have z9 := Hd.mk hz_; clear hz_
              refine mixT_b rfl ?_ (by rfl)
              go_wp2_with fail
              refine ⟨cls_below (below_alloc hS.out _), ?_⟩
              refine genT ?_; intro W10 hW
              have hL0 := Hd.mk (show (tJ (m + 1)).R 40 W10 (rng W9.heap.size (W9.heap.size + 1)) (.slice (some ⟨W9.heap.size, 0, none⟩) 2 2) [txt (kindNm (qk : Int)), txt tw] by rw [hW]; exact R_mono (fun k h => by have h : k = _ := h; simp only [rng]; omega) (R_txt2 _ _ (kindNm_size _) HTZ.out))
              have hz_ : W9.heap.size + 1 ≤ W10.heap.size := by rw [hW]; simp
              have hE : Below W9.heap.size W9 W10 := by rw [hW]; (repeat (first | with_reducible refine below_alloc ?_ _ | with_reducible refine below_drew ?_)); exact Below.refl _ _
              have hB := Hd.mk (below_then hB.out hE)
              replace hS := Hd.mk (below_then hS.out hE)
              have b0 := Hd.mk (b0.out.below hE)
              have b1 := Hd.mk (b1.out.below hE)
              have b2 := Hd.mk (b2.out.below hE)
              have hN0 := Hd.mk (R_below hN0.out hE)
              clear hW hE
              have z10 := Hd.mk hz_; clear hz_
              refine mixT_q rfl ?_
              go_big_quiet_want; go_big_quiet_op; go_big_quiet_on; refine wpQuiet_nil ?_
              refine mixT_fin ?_
              clear hS
              clear rfb0_0 rfb0_1 rfb0_2 rfb0_3 rfb0_4 rfb0_5 rfb0_6 rfb1_0 rfb1_1 rfb1_2 rfb1_3 rfb1_4
              clear fb0_0 fb0_1 fb0_2 fb0_3 fb0_4 fb0_5 fb0_6 fb0_z fb1_0 fb1_1 fb1_2 fb1_3 fb1_4 fb1_z
              have fb0_0 : W10.cell? ⟨w.heap.size, 0, none⟩ = some (Value.int IntKind.i64 (qk : Int)) := b0.out.cell 0 rfl
              have fb0_1 : W10.cell? ⟨w.heap.size, 1, none⟩ = some (Value.slice A1 x.way.length c1) := b0.out.cell 1 rfl
              have fb0_2 : W10.cell? ⟨w.heap.size, 2, none⟩ = some (Value.int IntKind.i64 x.value.kind) := b0.out.cell 2 rfl
              have fb0_3 : W10.cell? ⟨w.heap.size, 3, none⟩ = some (Value.int IntKind.i64 x.value.n) := b0.out.cell 3 rfl
              have fb0_4 : W10.cell? ⟨w.heap.size, 4, none⟩ = some (Value.string x.value.s) := b0.out.cell 4 rfl
              have fb0_5 : W10.cell? ⟨w.heap.size, 5, none⟩ = some (Value.slice A3 x.value.list.length c3) := b0.out.cell 5 rfl
              have fb0_6 : W10.cell? ⟨w.heap.size, 6, none⟩ = some (Value.slice A4 x.value.names.length c4) := b0.out.cell 6 rfl
              have fb0_z := b0.out.frozen
              have fb1_0 : W10.cell? ⟨w.heap.size + 1, 0, none⟩ = some (Value.int IntKind.i64 0) := b1.out.cell 0 rfl
              have fb1_1 : W10.cell? ⟨w.heap.size + 1, 1, none⟩ = some (Value.int IntKind.i64 0) := b1.out.cell 1 rfl
              have fb1_2 : W10.cell? ⟨w.heap.size + 1, 2, none⟩ = some (Value.string ⟨#[]⟩) := b1.out.cell 2 rfl
              have fb1_3 : W10.cell? ⟨w.heap.size + 1, 3, none⟩ = some (Value.slice none 0 0) := b1.out.cell 3 rfl
              have fb1_4 : W10.cell? ⟨w.heap.size + 1, 4, none⟩ = some (Value.slice none 0 0) := b1.out.cell 4 rfl
              have fb1_z := b1.out.frozen
              have fb2_0 : W10.cell? ⟨W3.heap.size, 0, none⟩ = some (Value.int IntKind.i64 0) := b2.out.cell 0 rfl
              have fb2_1 : W10.cell? ⟨W3.heap.size, 1, none⟩ = some (Value.int IntKind.i64 0) := b2.out.cell 1 rfl
              have fb2_2 : W10.cell? ⟨W3.heap.size, 2, none⟩ = some (Value.string ⟨#[]⟩) := b2.out.cell 2 rfl
              have fb2_3 : W10.cell? ⟨W3.heap.size, 3, none⟩ = some (Value.slice none 0 0) := b2.out.cell 3 rfl
              have fb2_4 : W10.cell? ⟨W3.heap.size, 4, none⟩ = some (Value.slice none 0 0) := b2.out.cell 4 rfl
              have fb2_z := b2.out.frozen
              refine tail_b rfl ?_ (by rfl)
              go_wp2_with fail
              refine mixQ_n ?_
              refine tail_nil ?_
              refine region_gen ?_; intro W hW
              clear fb0_0 fb0_1 fb0_2 fb0_3 fb0_4 fb0_5 fb0_6 fb0_z fb1_0 fb1_1 fb1_2 fb1_3 fb1_4 fb1_z fb2_0 fb2_1 fb2_2 fb2_3 fb2_4 fb2_z
              have hz_ : W10.heap.size ≤ W.heap.size := by rw [hW]; simp
              have eF : Fr W10 W (fun k => k = W3.heap.size ∨ W10.heap.size ≤ k) := by rw [hW]; (repeat (first | with_reducible refine Fr.setCell ?_ _ (fun _ => by simp <;> omega) _ | with_reducible refine Fr.alloc ?_ _ | with_reducible refine Fr.drew ?_)); exact Fr.refl _ _
              have z1_ := z1.out; have z2_ := z2.out; have z3_ := z3.out; have z4_ := z4.out; have z5_ := z5.out; have z6_ := z6.out; have z7_ := z7.out; have z8_ := z8.out; have z9_ := z9.out; have z10_ := z10.out
              have hB := Hd.mk (((Fr.of_below hB.out (fun k => k = W3.heap.size ∨ W10.heap.size ≤ k)).then_ eF (fun k hk _ => hk)).below (fun k hk => by have := hB.out.size; omega))
              have b0 := Hd.mk (b0.out.fr eF (fun h => by have hlt_ := b0.out.lt; (try simp only at h); omega))
              have b1 := Hd.mk (b1.out.fr eF (fun h => by have hlt_ := b1.out.lt; (try simp only at h); omega))
              have b2 := Hd.mk (show Blk W (W3.heap.size) #[Value.int IntKind.i64 5, Value.int IntKind.i64 0, Value.string ⟨#[]⟩, Value.slice (some ⟨W9.heap.size, 0, none⟩) 2 2, Value.slice (some ⟨w8.heap.size, 0, none⟩) 2 2] 40 by rw [hW]; exact (Blk.all b2.out [Value.int IntKind.i64 5, Value.int IntKind.i64 0, Value.string ⟨#[]⟩, Value.slice (some ⟨W9.heap.size, 0, none⟩) 2 2, Value.slice (some ⟨w8.heap.size, 0, none⟩) 2 2] rfl))
              have hN0 := Hd.mk (R_fr hN0.out eF (fun k hk hl h => by skip; (try simp only [rng] at hk); (try simp only at hk); (try simp only at h); omega))
              have hL0 := Hd.mk (R_fr hL0.out eF (fun k hk hl h => by skip; (try simp only [rng] at hk); (try simp only at hk); (try simp only at h); omega))
              clear hW eF
              have z11 := Hd.mk hz_; clear hz_
              have hBs := hB.out.size
              have z1_ := z1.out; have z2_ := z2.out; have z3_ := z3.out; have z4_ := z4.out; have z5_ := z5.out; have z6_ := z6.out; have z7_ := z7.out; have z8_ := z8.out; have z9_ := z9.out; have z10_ := z10.out; have z11_ := z11.out
              rw [HRR.out]
              exact ⟨W3.heap.size, _, _, _, _, 2, 2, _, _, _, _, _, _, _, _, _, _, _, _, _, _, _, _, _, rfl, b2, b0, b1, ⟨by omega⟩, ⟨fun k => ⟨fun hk => by have h1 := hk.1; have h2 := hk.2; refine ⟨by omega, by omega, by omega, fun hn => by have h3 := hn.1; have h4 := hn.2; omega⟩, fun hk => by have h1 := hk.1; have h2 := hk.2; refine ⟨by omega, by omega, by omega⟩⟩⟩, hL0, hN0, hB⟩
            · refine stepM_of rfl ?_ (by rfl)
              go_wp2_with fail
              refine ⟨cls_below (below_alloc hS.out _), ?_⟩
              refine genT ?_; intro W9 hW
              have hL0 := Hd.mk (show (tJ (m + 1)).R 40 W9 (rng w8.heap.size (w8.heap.size + 1)) (.slice (some ⟨w8.heap.size, 0, none⟩) 2 2) [txt (kindNm (qk : Int)), txt tw] by rw [hW]; exact R_mono (fun k h => by have h : k = _ := h; simp only [rng]; omega) (R_txt2 _ _ (kindNm_size _) HTZ.out))
              have hz_ : w8.heap.size + 1 ≤ W9.heap.size := by rw [hW]; simp
              have hE : Below w8.heap.size w8 W9 := by rw [hW]; (repeat (first | with_reducible refine below_alloc ?_ _ | with_reducible refine below_drew ?_)); exact Below.refl _ _
              have hB := Hd.mk (below_then hB.out hE)
              replace hS := Hd.mk (below_then hS.out hE)
              have b0 := Hd.mk (b0.out.below hE)
              have b1 := Hd.mk (b1.out.below hE)
              have b2 := Hd.mk (b2.out.below hE)
              clear hW hE
              have z9 := Hd.mk hz_; clear hz_
              refine mixT_b rfl ?_ (by rfl)
              go_wp2_with fail
              refine ⟨cls_below (below_alloc hS.out _), ?_⟩
              refine genT ?_; intro W10 hW
              have hN0 := Hd.mk (show str.R 9 W10 (rng W9.heap.size (W9.heap.size + 1)) (.slice (some ⟨W9.heap.size, 0, none⟩) 2 2) [nmOp, nmPath] by rw [hW]; exact R_mono (fun k h => by have h : k = _ := h; simp only [rng]; omega) (R_strsN [nmOp, nmPath] (by decide) (by decide)))
              have hz_ : W9.heap.size + 1 ≤ W10.heap.size := by rw [hW]; simp
              have hE : Below W9.heap.size W9 W10 := by rw [hW]; (repeat (first | with_reducible refine below_alloc ?_ _ | with_reducible refine below_drew ?_)); exact Below.refl _ _
              have hB := Hd.mk (below_then hB.out hE)
              replace hS := Hd.mk (below_then hS.out hE)
              have b0 := Hd.mk (b0.out.below hE)
              have b1 := Hd.mk (b1.out.below hE)
              have b2 := Hd.mk (b2.out.below hE)
              have hL0 := Hd.mk (R_below hL0.out hE)
              clear hW hE
              have z10 := Hd.mk hz_; clear hz_
              refine mixT_q rfl ?_
              go_big_quiet_want; go_big_quiet_op; go_big_quiet_on; refine wpQuiet_nil ?_
              refine mixT_fin ?_
              clear hS
              clear rfb0_0 rfb0_1 rfb0_2 rfb0_3 rfb0_4 rfb0_5 rfb0_6 rfb1_0 rfb1_1 rfb1_2 rfb1_3 rfb1_4
              clear fb0_0 fb0_1 fb0_2 fb0_3 fb0_4 fb0_5 fb0_6 fb0_z fb1_0 fb1_1 fb1_2 fb1_3 fb1_4 fb1_z
              have fb0_0 : W10.cell? ⟨w.heap.size, 0, none⟩ = some (Value.int IntKind.i64 (qk : Int)) := b0.out.cell 0 rfl
              have fb0_1 : W10.cell? ⟨w.heap.size, 1, none⟩ = some (Value.slice A1 x.way.length c1) := b0.out.cell 1 rfl
              have fb0_2 : W10.cell? ⟨w.heap.size, 2, none⟩ = some (Value.int IntKind.i64 x.value.kind) := b0.out.cell 2 rfl
              have fb0_3 : W10.cell? ⟨w.heap.size, 3, none⟩ = some (Value.int IntKind.i64 x.value.n) := b0.out.cell 3 rfl
              have fb0_4 : W10.cell? ⟨w.heap.size, 4, none⟩ = some (Value.string x.value.s) := b0.out.cell 4 rfl
              have fb0_5 : W10.cell? ⟨w.heap.size, 5, none⟩ = some (Value.slice A3 x.value.list.length c3) := b0.out.cell 5 rfl
              have fb0_6 : W10.cell? ⟨w.heap.size, 6, none⟩ = some (Value.slice A4 x.value.names.length c4) := b0.out.cell 6 rfl
              have fb0_z := b0.out.frozen
              have fb1_0 : W10.cell? ⟨w.heap.size + 1, 0, none⟩ = some (Value.int IntKind.i64 0) := b1.out.cell 0 rfl
              have fb1_1 : W10.cell? ⟨w.heap.size + 1, 1, none⟩ = some (Value.int IntKind.i64 0) := b1.out.cell 1 rfl
              have fb1_2 : W10.cell? ⟨w.heap.size + 1, 2, none⟩ = some (Value.string ⟨#[]⟩) := b1.out.cell 2 rfl
              have fb1_3 : W10.cell? ⟨w.heap.size + 1, 3, none⟩ = some (Value.slice none 0 0) := b1.out.cell 3 rfl
              have fb1_4 : W10.cell? ⟨w.heap.size + 1, 4, none⟩ = some (Value.slice none 0 0) := b1.out.cell 4 rfl
              have fb1_z := b1.out.frozen
              have fb2_0 : W10.cell? ⟨W3.heap.size, 0, none⟩ = some (Value.int IntKind.i64 0) := b2.out.cell 0 rfl
              have fb2_1 : W10.cell? ⟨W3.heap.size, 1, none⟩ = some (Value.int IntKind.i64 0) := b2.out.cell 1 rfl
              have fb2_2 : W10.cell? ⟨W3.heap.size, 2, none⟩ = some (Value.string ⟨#[]⟩) := b2.out.cell 2 rfl
              have fb2_3 : W10.cell? ⟨W3.heap.size, 3, none⟩ = some (Value.slice none 0 0) := b2.out.cell 3 rfl
              have fb2_4 : W10.cell? ⟨W3.heap.size, 4, none⟩ = some (Value.slice none 0 0) := b2.out.cell 4 rfl
              have fb2_z := b2.out.frozen
              refine tail_b rfl ?_ (by rfl)
              go_wp2_with fail
              refine mixQ_n ?_
              refine tail_nil ?_
              refine region_gen ?_; intro W hW
              clear fb0_0 fb0_1 fb0_2 fb0_3 fb0_4 fb0_5 fb0_6 fb0_z fb1_0 fb1_1 fb1_2 fb1_3 fb1_4 fb1_z fb2_0 fb2_1 fb2_2 fb2_3 fb2_4 fb2_z
              have hz_ : W10.heap.size ≤ W.heap.size := by rw [hW]; simp
              have eF : Fr W10 W (fun k => k = W3.heap.size ∨ W10.heap.size ≤ k) := by rw [hW]; (repeat (first | with_reducible refine Fr.setCell ?_ _ (fun _ => by simp <;> omega) _ | with_reducible refine Fr.alloc ?_ _ | with_reducible refine Fr.drew ?_)); exact Fr.refl _ _
              have z1_ := z1.out; have z2_ := z2.out; have z3_ := z3.out; have z4_ := z4.out; have z5_ := z5.out; have z6_ := z6.out; have z7_ := z7.out; have z8_ := z8.out; have z9_ := z9.out; have z10_ := z10.out
              have hB := Hd.mk (((Fr.of_below hB.out (fun k => k = W3.heap.size ∨ W10.heap.size ≤ k)).then_ eF (fun k hk _ => hk)).below (fun k hk => by have := hB.out.size; omega))
              have b0 := Hd.mk (b0.out.fr eF (fun h => by have hlt_ := b0.out.lt; (try simp only at h); omega))
              have b1 := Hd.mk (b1.out.fr eF (fun h => by have hlt_ := b1.out.lt; (try simp only at h); omega))
              have b2 := Hd.mk (show Blk W (W3.heap.size) #[Value.int IntKind.i64 5, Value.int IntKind.i64 0, Value.string ⟨#[]⟩, Value.slice (some ⟨w8.heap.size, 0, none⟩) 2 2, Value.slice (some ⟨W9.heap.size, 0, none⟩) 2 2] 40 by rw [hW]; exact (Blk.all b2.out [Value.int IntKind.i64 5, Value.int IntKind.i64 0, Value.string ⟨#[]⟩, Value.slice (some ⟨w8.heap.size, 0, none⟩) 2 2, Value.slice (some ⟨W9.heap.size, 0, none⟩) 2 2] rfl))
              have hL0 := Hd.mk (R_fr hL0.out eF (fun k hk hl h => by skip; (try simp only [rng] at hk); (try simp only at hk); (try simp only at h); omega))
              have hN0 := Hd.mk (R_fr hN0.out eF (fun k hk hl h => by skip; (try simp only [rng] at hk); (try simp only at hk); (try simp only at h); omega))
              clear hW eF
              have z11 := Hd.mk hz_; clear hz_
              have hBs := hB.out.size
              have z1_ := z1.out; have z2_ := z2.out; have z3_ := z3.out; have z4_ := z4.out; have z5_ := z5.out; have z6_ := z6.out; have z7_ := z7.out; have z8_ := z8.out; have z9_ := z9.out; have z10_ := z10.out; have z11_ := z11.out
              rw [HRR.out]
              exact ⟨W3.heap.size, _, _, _, _, 2, 2, _, _, _, _, _, _, _, _, _, _, _, _, _, _, _, _, _, rfl, b2, b0, b1, ⟨by omega⟩, ⟨fun k => ⟨fun hk => by have h1 := hk.1; have h2 := hk.2; refine ⟨by omega, by omega, by omega, fun hn => by have h3 := hn.1; have h4 := hn.2; omega⟩, fun hk => by have h1 := hk.1; have h2 := hk.2; refine ⟨by omega, by omega, by omega⟩⟩⟩, hL0, hN0, hB⟩
    case refine_2 =>
      rw [HRR.out]
      clear HRR
      rintro a w1 ⟨p, SL, SN, DL, DN, dl, dn, u4, u5, u6, u7, u8, u9, u10, u11, u12, u13, u14, u15, u16, u17, u18, u19, u20, rfl, bo, b0, b1, hp, hSS, hL, hN, hB1⟩
      replace hB := hB1; clear hB1
      have hlt := Hd.mk bo.out.lt
      have z0 := Hd.mk (show w.heap.size + 3 ≤ w1.heap.size by have := hp.out; have := hlt.out; omega)
      obtain ⟨SJ, hSJ, hJ⟩ : ∃ SJ : Nat → Prop, Hd (∀ k, SJ k → w.heap.size + 2 ≤ k ∧ k < w1.heap.size ∧ k ≠ p) ∧ Hd ((tJ (m + 2)).O w1 SJ (opRaw0 x) [Value.int IntKind.i64 5, Value.int IntKind.i64 0, Value.string ⟨#[]⟩, .slice DL 2 dl, .slice DN 2 dn]) := by
        have hR0 : opRaw0 x = ⟨5, 0, ⟨#[]⟩, [txt (kindNm (qk : Int)), txt tw], [nmOp, nmPath]⟩ := by unfold opRaw0; rw [HKQ.out, HTW.out]
        refine ⟨fun k => SL k ∨ SN k, ⟨fun k h => ?_⟩, ⟨?_⟩⟩
        · rcases h with h | h
          · have h1 := (hSS.out k).1 h; exact ⟨h1.1, h1.2.1, h1.2.2.1⟩
          · exact (hSS.out k).2 h
        · rw [hR0]
          exact tJ_O.2 ⟨_, _, SL, SN, rfl, Nat.zero_le _, hL.out, hN.out, fun _ h => .inl h, fun _ h => .inr h, fun k h h2 => ((hSS.out k).1 h).2.2.2 h2⟩
      clear hL hN hSS
      have hpne : ¬ p = w.heap.size + 1 := by have := hp.out; omega
      by_cases hk2 : (qk : Int) = 2
      · have hk3 : ((qk : Int) != 2) = false := by rw [hk2]; rfl
        have HRW0 := Hd.mk (show opRaw0 x = opRaw x by unfold opRaw; rw [if_pos]; rw [HKQ.out]; exact hk2)
        rw [HRW0.out] at hJ
        clear hk2
        have fbo_0 : w1.cell? ⟨p, 0, none⟩ = some (Value.int IntKind.i64 5) := bo.out.cell 0 rfl
        have fbo_1 : w1.cell? ⟨p, 1, none⟩ = some (Value.int IntKind.i64 0) := bo.out.cell 1 rfl
        have fbo_2 : w1.cell? ⟨p, 2, none⟩ = some (Value.string ⟨#[]⟩) := bo.out.cell 2 rfl
        have fbo_3 : w1.cell? ⟨p, 3, none⟩ = some (.slice DL 2 dl) := bo.out.cell 3 rfl
        have fbo_4 : w1.cell? ⟨p, 4, none⟩ = some (.slice DN 2 dn) := bo.out.cell 4 rfl
        have fbo_z := bo.out.frozen
        have fb0_0 : w1.cell? ⟨w.heap.size, 0, none⟩ = some (Value.int IntKind.i64 (qk : Int)) := b0.out.cell 0 rfl
        have fb0_1 : w1.cell? ⟨w.heap.size, 1, none⟩ = some (Value.slice A1 x.way.length c1) := b0.out.cell 1 rfl
        have fb0_2 : w1.cell? ⟨w.heap.size, 2, none⟩ = some (Value.int IntKind.i64 x.value.kind) := b0.out.cell 2 rfl
        have fb0_3 : w1.cell? ⟨w.heap.size, 3, none⟩ = some (Value.int IntKind.i64 x.value.n) := b0.out.cell 3 rfl
        have fb0_4 : w1.cell? ⟨w.heap.size, 4, none⟩ = some (Value.string x.value.s) := b0.out.cell 4 rfl
        have fb0_5 : w1.cell? ⟨w.heap.size, 5, none⟩ = some (Value.slice A3 x.value.list.length c3) := b0.out.cell 5 rfl
        have fb0_6 : w1.cell? ⟨w.heap.size, 6, none⟩ = some (Value.slice A4 x.value.names.length c4) := b0.out.cell 6 rfl
        have fb0_z := b0.out.frozen
        have fb1_0 : w1.cell? ⟨w.heap.size + 1, 0, none⟩ = some (Value.int IntKind.i64 0) := b1.out.cell 0 rfl
        have fb1_1 : w1.cell? ⟨w.heap.size + 1, 1, none⟩ = some (Value.int IntKind.i64 0) := b1.out.cell 1 rfl
        have fb1_2 : w1.cell? ⟨w.heap.size + 1, 2, none⟩ = some (Value.string ⟨#[]⟩) := b1.out.cell 2 rfl
        have fb1_3 : w1.cell? ⟨w.heap.size + 1, 3, none⟩ = some (Value.slice none 0 0) := b1.out.cell 3 rfl
        have fb1_4 : w1.cell? ⟨w.heap.size + 1, 4, none⟩ = some (Value.slice none 0 0) := b1.out.cell 4 rfl
        have fb1_z := b1.out.frozen
        go_wp2_with fail
        clear fbo_0 fbo_1 fbo_2 fbo_3 fbo_4 fbo_z fb0_0 fb0_1 fb0_2 fb0_3 fb0_4 fb0_5 fb0_6 fb0_z fb1_0 fb1_1 fb1_2 fb1_3 fb1_4 fb1_z
        apply calls_gen; intro W4 hW
        have hz_ : w1.heap.size ≤ W4.heap.size := by rw [hW]; simp
        have hE : Below w1.heap.size w1 W4 := by rw [hW]; (repeat (first | with_reducible refine below_alloc ?_ _ | with_reducible refine below_drew ?_)); exact Below.refl _ _
        have hB := Hd.mk (below_then hB.out hE)
        have bo := Hd.mk (bo.out.below hE)
        have b0 := Hd.mk (b0.out.below hE)
        have b1 := Hd.mk (b1.out.below hE)
        have hJ := Hd.mk (Ty.O_below hJ.out hE)
        clear hW hE
        have z1 := Hd.mk hz_; clear hz_
        refine (spec_JsonOk (opRaw x) [Value.int IntKind.i64 5, Value.int IntKind.i64 0, Value.string ⟨#[]⟩, .slice DL 2 dl, .slice DN 2 dn] _ (Ty.O_K _ hJ.out)).mono ?_
        rintro e w5 ⟨rfl, hX⟩
        have bo := Hd.mk (bo.out.below hX)
        have b0 := Hd.mk (b0.out.below hX)
        have b1 := Hd.mk (b1.out.below hX)
        have hJ := Hd.mk (Ty.O_below hJ.out hX)
        have hB := Hd.mk (below_then hB.out hX)
        have hz_ := hX.size
        clear hX
        have z2 := Hd.mk hz_; clear hz_
        cases hb2 : jsonOk (opRaw x)
        · have HF := Hd.mk (show opJ x = J.null by unfold opJ; rw [HOK.out, hb2]; simp)
          have fbo_0 : w5.cell? ⟨p, 0, none⟩ = some (Value.int IntKind.i64 5) := bo.out.cell 0 rfl
          have fbo_1 : w5.cell? ⟨p, 1, none⟩ = some (Value.int IntKind.i64 0) := bo.out.cell 1 rfl
          have fbo_2 : w5.cell? ⟨p, 2, none⟩ = some (Value.string ⟨#[]⟩) := bo.out.cell 2 rfl
          have fbo_3 : w5.cell? ⟨p, 3, none⟩ = some (.slice DL 2 dl) := bo.out.cell 3 rfl
          have fbo_4 : w5.cell? ⟨p, 4, none⟩ = some (.slice DN 2 dn) := bo.out.cell 4 rfl
          have fbo_z := bo.out.frozen
          have fb0_0 : w5.cell? ⟨w.heap.size, 0, none⟩ = some (Value.int IntKind.i64 (qk : Int)) := b0.out.cell 0 rfl
          have fb0_1 : w5.cell? ⟨w.heap.size, 1, none⟩ = some (Value.slice A1 x.way.length c1) := b0.out.cell 1 rfl
          have fb0_2 : w5.cell? ⟨w.heap.size, 2, none⟩ = some (Value.int IntKind.i64 x.value.kind) := b0.out.cell 2 rfl
          have fb0_3 : w5.cell? ⟨w.heap.size, 3, none⟩ = some (Value.int IntKind.i64 x.value.n) := b0.out.cell 3 rfl
          have fb0_4 : w5.cell? ⟨w.heap.size, 4, none⟩ = some (Value.string x.value.s) := b0.out.cell 4 rfl
          have fb0_5 : w5.cell? ⟨w.heap.size, 5, none⟩ = some (Value.slice A3 x.value.list.length c3) := b0.out.cell 5 rfl
          have fb0_6 : w5.cell? ⟨w.heap.size, 6, none⟩ = some (Value.slice A4 x.value.names.length c4) := b0.out.cell 6 rfl
          have fb0_z := b0.out.frozen
          have fb1_0 : w5.cell? ⟨w.heap.size + 1, 0, none⟩ = some (Value.int IntKind.i64 0) := b1.out.cell 0 rfl
          have fb1_1 : w5.cell? ⟨w.heap.size + 1, 1, none⟩ = some (Value.int IntKind.i64 0) := b1.out.cell 1 rfl
          have fb1_2 : w5.cell? ⟨w.heap.size + 1, 2, none⟩ = some (Value.string ⟨#[]⟩) := b1.out.cell 2 rfl
          have fb1_3 : w5.cell? ⟨w.heap.size + 1, 3, none⟩ = some (Value.slice none 0 0) := b1.out.cell 3 rfl
          have fb1_4 : w5.cell? ⟨w.heap.size + 1, 4, none⟩ = some (Value.slice none 0 0) := b1.out.cell 4 rfl
          have fb1_z := b1.out.frozen
          go_wp2_with fail
          refine bodyPost_retW (v := .agg #[Value.int IntKind.i64 0, Value.int IntKind.i64 0, Value.string ⟨#[]⟩, Value.slice none 0 0, Value.slice none 0 0]) (by simp [results, Tryd.results31, go_sem, fbo_0, fbo_1, fbo_2, fbo_3, fbo_4, fbo_z, fb0_0, fb0_1, fb0_2, fb0_3, fb0_4, fb0_5, fb0_6, fb0_z, fb1_0, fb1_1, fb1_2, fb1_3, fb1_4, fb1_z]) rfl ?_
          intro W hW
          clear fbo_0 fbo_1 fbo_2 fbo_3 fbo_4 fbo_z fb0_0 fb0_1 fb0_2 fb0_3 fb0_4 fb0_5 fb0_6 fb0_z fb1_0 fb1_1 fb1_2 fb1_3 fb1_4 fb1_z
          have hz_ : w5.heap.size ≤ W.heap.size := by rw [hW]; simp
          have eF : Fr w5 W (fun k => k = w.heap.size + 1 ∨ w5.heap.size ≤ k) := by rw [hW]; (repeat (first | with_reducible refine Fr.setCell ?_ _ (fun _ => by simp <;> omega) _ | with_reducible refine Fr.alloc ?_ _ | with_reducible refine Fr.drew ?_)); exact Fr.refl _ _
          have z0_ := z0.out; have hp_ := hp.out; have z1_ := z1.out; have z2_ := z2.out
          have hB := Hd.mk (((Fr.of_below hB.out (fun k => k = w.heap.size + 1 ∨ w5.heap.size ≤ k)).then_ eF (fun k hk _ => hk)).below (fun k hk => by have := hB.out.size; omega))
          have bo := Hd.mk (bo.out.fr eF (fun h => by have hlt_ := bo.out.lt; (try simp only at h); omega))
          have b0 := Hd.mk (b0.out.fr eF (fun h => by have hlt_ := b0.out.lt; (try simp only at h); omega))
          have b1 := Hd.mk (show Blk W (w.heap.size + 1) #[Value.int IntKind.i64 0, Value.int IntKind.i64 0, Value.string ⟨#[]⟩, Value.slice none 0 0, Value.slice none 0 0] 40 by rw [hW]; exact (Blk.all b1.out [Value.int IntKind.i64 0, Value.int IntKind.i64 0, Value.string ⟨#[]⟩, Value.slice none 0 0, Value.slice none 0 0] rfl))
          have hJ := Hd.mk (Ty.O_fr hJ.out eF (fun k hk hl h => by have q_ := hSJ.out k hk; (try simp only [rng] at hk); (try simp only at hk); (try simp only at h); omega))
          clear hW eF
          have z3 := Hd.mk hz_; clear hz_
          exact ⟨[Value.int IntKind.i64 0, Value.int IntKind.i64 0, Value.string ⟨#[]⟩, Value.slice none 0 0, Value.slice none 0 0], rfl, by rw [HF.out]; exact ZJ (m + 1) _ _, hB.out⟩
        · have HF := Hd.mk (show opJ x = opRaw x by unfold opJ; rw [HOK.out, hb2]; simp)
          have fbo_0 : w5.cell? ⟨p, 0, none⟩ = some (Value.int IntKind.i64 5) := bo.out.cell 0 rfl
          have fbo_1 : w5.cell? ⟨p, 1, none⟩ = some (Value.int IntKind.i64 0) := bo.out.cell 1 rfl
          have fbo_2 : w5.cell? ⟨p, 2, none⟩ = some (Value.string ⟨#[]⟩) := bo.out.cell 2 rfl
          have fbo_3 : w5.cell? ⟨p, 3, none⟩ = some (.slice DL 2 dl) := bo.out.cell 3 rfl
          have fbo_4 : w5.cell? ⟨p, 4, none⟩ = some (.slice DN 2 dn) := bo.out.cell 4 rfl
          have fbo_z := bo.out.frozen
          have fb0_0 : w5.cell? ⟨w.heap.size, 0, none⟩ = some (Value.int IntKind.i64 (qk : Int)) := b0.out.cell 0 rfl
          have fb0_1 : w5.cell? ⟨w.heap.size, 1, none⟩ = some (Value.slice A1 x.way.length c1) := b0.out.cell 1 rfl
          have fb0_2 : w5.cell? ⟨w.heap.size, 2, none⟩ = some (Value.int IntKind.i64 x.value.kind) := b0.out.cell 2 rfl
          have fb0_3 : w5.cell? ⟨w.heap.size, 3, none⟩ = some (Value.int IntKind.i64 x.value.n) := b0.out.cell 3 rfl
          have fb0_4 : w5.cell? ⟨w.heap.size, 4, none⟩ = some (Value.string x.value.s) := b0.out.cell 4 rfl
          have fb0_5 : w5.cell? ⟨w.heap.size, 5, none⟩ = some (Value.slice A3 x.value.list.length c3) := b0.out.cell 5 rfl
          have fb0_6 : w5.cell? ⟨w.heap.size, 6, none⟩ = some (Value.slice A4 x.value.names.length c4) := b0.out.cell 6 rfl
          have fb0_z := b0.out.frozen
          have fb1_0 : w5.cell? ⟨w.heap.size + 1, 0, none⟩ = some (Value.int IntKind.i64 0) := b1.out.cell 0 rfl
          have fb1_1 : w5.cell? ⟨w.heap.size + 1, 1, none⟩ = some (Value.int IntKind.i64 0) := b1.out.cell 1 rfl
          have fb1_2 : w5.cell? ⟨w.heap.size + 1, 2, none⟩ = some (Value.string ⟨#[]⟩) := b1.out.cell 2 rfl
          have fb1_3 : w5.cell? ⟨w.heap.size + 1, 3, none⟩ = some (Value.slice none 0 0) := b1.out.cell 3 rfl
          have fb1_4 : w5.cell? ⟨w.heap.size + 1, 4, none⟩ = some (Value.slice none 0 0) := b1.out.cell 4 rfl
          have fb1_z := b1.out.frozen
          go_wp2_with fail
          refine bodyPost_retW (v := .agg #[Value.int IntKind.i64 5, Value.int IntKind.i64 0, Value.string ⟨#[]⟩, .slice DL 2 dl, .slice DN 2 dn]) (by simp [results, Tryd.results31, go_sem, fbo_0, fbo_1, fbo_2, fbo_3, fbo_4, fbo_z, fb0_0, fb0_1, fb0_2, fb0_3, fb0_4, fb0_5, fb0_6, fb0_z, fb1_0, fb1_1, fb1_2, fb1_3, fb1_4, fb1_z]) rfl ?_
          intro W hW
          clear fbo_0 fbo_1 fbo_2 fbo_3 fbo_4 fbo_z fb0_0 fb0_1 fb0_2 fb0_3 fb0_4 fb0_5 fb0_6 fb0_z fb1_0 fb1_1 fb1_2 fb1_3 fb1_4 fb1_z
          have hz_ : w5.heap.size ≤ W.heap.size := by rw [hW]; simp
          have eF : Fr w5 W (fun k => k = w.heap.size + 1 ∨ w5.heap.size ≤ k) := by rw [hW]; (repeat (first | with_reducible refine Fr.setCell ?_ _ (fun _ => by simp <;> omega) _ | with_reducible refine Fr.alloc ?_ _ | with_reducible refine Fr.drew ?_)); exact Fr.refl _ _
          have z0_ := z0.out; have hp_ := hp.out; have z1_ := z1.out; have z2_ := z2.out
          have hB := Hd.mk (((Fr.of_below hB.out (fun k => k = w.heap.size + 1 ∨ w5.heap.size ≤ k)).then_ eF (fun k hk _ => hk)).below (fun k hk => by have := hB.out.size; omega))
          have bo := Hd.mk (bo.out.fr eF (fun h => by have hlt_ := bo.out.lt; (try simp only at h); omega))
          have b0 := Hd.mk (b0.out.fr eF (fun h => by have hlt_ := b0.out.lt; (try simp only at h); omega))
          have b1 := Hd.mk (show Blk W (w.heap.size + 1) #[Value.int IntKind.i64 5, Value.int IntKind.i64 0, Value.string ⟨#[]⟩, .slice DL 2 dl, .slice DN 2 dn] 40 by rw [hW]; exact (Blk.all b1.out [Value.int IntKind.i64 5, Value.int IntKind.i64 0, Value.string ⟨#[]⟩, .slice DL 2 dl, .slice DN 2 dn] rfl))
          have hJ := Hd.mk (Ty.O_fr hJ.out eF (fun k hk hl h => by have q_ := hSJ.out k hk; (try simp only [rng] at hk); (try simp only at hk); (try simp only at h); omega))
          clear hW eF
          have z3 := Hd.mk hz_; clear hz_
          exact ⟨[Value.int IntKind.i64 5, Value.int IntKind.i64 0, Value.string ⟨#[]⟩, .slice DL 2 dl, .slice DN 2 dn], rfl, by rw [HF.out]; exact Ty.O_mono _ (fun k hk => by have q_ := hSJ.out k hk; omega) hJ.out, hB.out⟩
      · have hk3 : ((qk : Int) != 2) = true := by simpa using hk2
        have fbo_0 : w1.cell? ⟨p, 0, none⟩ = some (Value.int IntKind.i64 5) := bo.out.cell 0 rfl
        have fbo_1 : w1.cell? ⟨p, 1, none⟩ = some (Value.int IntKind.i64 0) := bo.out.cell 1 rfl
        have fbo_2 : w1.cell? ⟨p, 2, none⟩ = some (Value.string ⟨#[]⟩) := bo.out.cell 2 rfl
        have fbo_3 : w1.cell? ⟨p, 3, none⟩ = some (.slice DL 2 dl) := bo.out.cell 3 rfl
        have fbo_4 : w1.cell? ⟨p, 4, none⟩ = some (.slice DN 2 dn) := bo.out.cell 4 rfl
        have fbo_z := bo.out.frozen
        have fb0_0 : w1.cell? ⟨w.heap.size, 0, none⟩ = some (Value.int IntKind.i64 (qk : Int)) := b0.out.cell 0 rfl
        have fb0_1 : w1.cell? ⟨w.heap.size, 1, none⟩ = some (Value.slice A1 x.way.length c1) := b0.out.cell 1 rfl
        have fb0_2 : w1.cell? ⟨w.heap.size, 2, none⟩ = some (Value.int IntKind.i64 x.value.kind) := b0.out.cell 2 rfl
        have fb0_3 : w1.cell? ⟨w.heap.size, 3, none⟩ = some (Value.int IntKind.i64 x.value.n) := b0.out.cell 3 rfl
        have fb0_4 : w1.cell? ⟨w.heap.size, 4, none⟩ = some (Value.string x.value.s) := b0.out.cell 4 rfl
        have fb0_5 : w1.cell? ⟨w.heap.size, 5, none⟩ = some (Value.slice A3 x.value.list.length c3) := b0.out.cell 5 rfl
        have fb0_6 : w1.cell? ⟨w.heap.size, 6, none⟩ = some (Value.slice A4 x.value.names.length c4) := b0.out.cell 6 rfl
        have fb0_z := b0.out.frozen
        have fb1_0 : w1.cell? ⟨w.heap.size + 1, 0, none⟩ = some (Value.int IntKind.i64 0) := b1.out.cell 0 rfl
        have fb1_1 : w1.cell? ⟨w.heap.size + 1, 1, none⟩ = some (Value.int IntKind.i64 0) := b1.out.cell 1 rfl
        have fb1_2 : w1.cell? ⟨w.heap.size + 1, 2, none⟩ = some (Value.string ⟨#[]⟩) := b1.out.cell 2 rfl
        have fb1_3 : w1.cell? ⟨w.heap.size + 1, 3, none⟩ = some (Value.slice none 0 0) := b1.out.cell 3 rfl
        have fb1_4 : w1.cell? ⟨w.heap.size + 1, 4, none⟩ = some (Value.slice none 0 0) := b1.out.cell 4 rfl
        have fb1_z := b1.out.frozen
        go_wp2_with fail
        clear fbo_0 fbo_1 fbo_2 fbo_3 fbo_4 fbo_z fb0_0 fb0_1 fb0_2 fb0_3 fb0_4 fb0_5 fb0_6 fb0_z fb1_0 fb1_1 fb1_2 fb1_3 fb1_4 fb1_z
        have fbo_0 : w1.cell? ⟨p, 0, none⟩ = some (Value.int IntKind.i64 5) := bo.out.cell 0 rfl
        have fbo_1 : w1.cell? ⟨p, 1, none⟩ = some (Value.int IntKind.i64 0) := bo.out.cell 1 rfl
        have fbo_2 : w1.cell? ⟨p, 2, none⟩ = some (Value.string ⟨#[]⟩) := bo.out.cell 2 rfl
        have fbo_3 : w1.cell? ⟨p, 3, none⟩ = some (.slice DL 2 dl) := bo.out.cell 3 rfl
        have fbo_4 : w1.cell? ⟨p, 4, none⟩ = some (.slice DN 2 dn) := bo.out.cell 4 rfl
        have fbo_z := bo.out.frozen
        have fb0_0 : w1.cell? ⟨w.heap.size, 0, none⟩ = some (Value.int IntKind.i64 (qk : Int)) := b0.out.cell 0 rfl
        have fb0_1 : w1.cell? ⟨w.heap.size, 1, none⟩ = some (Value.slice A1 x.way.length c1) := b0.out.cell 1 rfl
        have fb0_2 : w1.cell? ⟨w.heap.size, 2, none⟩ = some (Value.int IntKind.i64 x.value.kind) := b0.out.cell 2 rfl
        have fb0_3 : w1.cell? ⟨w.heap.size, 3, none⟩ = some (Value.int IntKind.i64 x.value.n) := b0.out.cell 3 rfl
        have fb0_4 : w1.cell? ⟨w.heap.size, 4, none⟩ = some (Value.string x.value.s) := b0.out.cell 4 rfl
        have fb0_5 : w1.cell? ⟨w.heap.size, 5, none⟩ = some (Value.slice A3 x.value.list.length c3) := b0.out.cell 5 rfl
        have fb0_6 : w1.cell? ⟨w.heap.size, 6, none⟩ = some (Value.slice A4 x.value.names.length c4) := b0.out.cell 6 rfl
        have fb0_z := b0.out.frozen
        have fb1_0 : w1.cell? ⟨w.heap.size + 1, 0, none⟩ = some (Value.int IntKind.i64 0) := b1.out.cell 0 rfl
        have fb1_1 : w1.cell? ⟨w.heap.size + 1, 1, none⟩ = some (Value.int IntKind.i64 0) := b1.out.cell 1 rfl
        have fb1_2 : w1.cell? ⟨w.heap.size + 1, 2, none⟩ = some (Value.string ⟨#[]⟩) := b1.out.cell 2 rfl
        have fb1_3 : w1.cell? ⟨w.heap.size + 1, 3, none⟩ = some (Value.slice none 0 0) := b1.out.cell 3 rfl
        have fb1_4 : w1.cell? ⟨w.heap.size + 1, 4, none⟩ = some (Value.slice none 0 0) := b1.out.cell 4 rfl
        have fb1_z := b1.out.frozen
        have rfbo_0 := cell_regrown fbo_0
        have rfbo_1 := cell_regrown fbo_1
        have rfbo_2 := cell_regrown fbo_2
        have rfbo_3 := cell_regrown fbo_3
        have rfbo_4 := cell_regrown fbo_4
        have rfb0_0 := cell_regrown fb0_0
        have rfb0_1 := cell_regrown fb0_1
        have rfb0_2 := cell_regrown fb0_2
        have rfb0_3 := cell_regrown fb0_3
        have rfb0_4 := cell_regrown fb0_4
        have rfb0_5 := cell_regrown fb0_5
        have rfb0_6 := cell_regrown fb0_6
        have rfb1_0 := cell_regrown fb1_0
        have rfb1_1 := cell_regrown fb1_1
        have rfb1_2 := cell_regrown fb1_2
        have rfb1_3 := cell_regrown fb1_3
        have rfb1_4 := cell_regrown fb1_4
        refine region_mixT (.q 0 (.p 1 (.q 2 (.b 3 (.b 4 .fin))))) [5] (by kernel_rfl) (by kernel_rfl) (fun _ _ _ _ _ h => h) ?_
        refine genT ?_
        intro W4 hW
        have hS := Hd.mk (show Below w1.heap.size w1 W4 by rw [hW]; exact below_drew (Below.refl _ _))
        have hz_ : w1.heap.size ≤ W4.heap.size := by rw [hW]; simp
        have hE : Below w1.heap.size w1 W4 := by rw [hW]; (repeat (first | with_reducible refine below_alloc ?_ _ | with_reducible refine below_drew ?_)); exact Below.refl _ _
        have hB := Hd.mk (below_then hB.out hE)
        have bo := Hd.mk (bo.out.below hE)
        have b0 := Hd.mk (b0.out.below hE)
        have b1 := Hd.mk (b1.out.below hE)
        have hJ := Hd.mk (Ty.O_below hJ.out hE)
        clear hW hE
        have z1 := Hd.mk hz_; clear hz_
        refine mixT_q rfl ?_
        go_big_quiet_want; go_big_quiet_op; go_big_quiet_on; refine wpQuiet_nil ?_
        refine mixT_p rfl ?_
        go_big_quiet_want; go_big_quiet_op; go_big_quiet_on; refine wpQuiet_nil ?_
        refine mixT_q rfl ?_
        go_big_quiet_want; go_big_quiet_op; go_big_quiet_on; refine wpQuiet_nil ?_
        refine mixT_b rfl ?_ (by rfl)
        go_wp2_with fail
        apply calls_gen; intro W5 hW
        have hz_ : W4.heap.size ≤ W5.heap.size := by rw [hW]; simp
        have hE : Below W4.heap.size W4 W5 := by rw [hW]; (repeat (first | with_reducible refine below_alloc ?_ _ | with_reducible refine below_drew ?_)); exact Below.refl _ _
        have hB := Hd.mk (below_then hB.out hE)
        replace hS := Hd.mk (below_then hS.out hE)
        have bo := Hd.mk (bo.out.below hE)
        have b0 := Hd.mk (b0.out.below hE)
        have b1 := Hd.mk (b1.out.below hE)
        have hJ := Hd.mk (Ty.O_below hJ.out hE)
        clear hW hE
        have z2 := Hd.mk hz_; clear hz_
        refine (spec_l1Copy x.value _ _ (Ty.K_below _ hB.out HKJ.out) HLJ.out).mono ?_
        rintro e w6 ⟨cv, rfl, hV, hX⟩
        have bo := Hd.mk (bo.out.below hX)
        have b0 := Hd.mk (b0.out.below hX)
        have b1 := Hd.mk (b1.out.below hX)
        have hJ := Hd.mk (Ty.O_below hJ.out hX)
        have hB := Hd.mk (below_then hB.out hX)
        replace hS := Hd.mk (below_then hS.out hX)
        have hz_ := hX.size
        clear hX
        have z3 := Hd.mk hz_; clear hz_
        replace hV := Hd.mk (Ty.O_bound _ hV)
        go_wp2_with fail
        refine ⟨cls_below hS.out, ?_⟩
        refine mixT_b rfl ?_ (by rfl)
        go_wp2_with fail
        apply calls_gen; intro W7 hW
        have hz_ : w6.heap.size ≤ W7.heap.size := by rw [hW]; simp
        have hE : Below w6.heap.size w6 W7 := by rw [hW]; (repeat (first | with_reducible refine below_alloc ?_ _ | with_reducible refine below_drew ?_)); exact Below.refl _ _
        have hB := Hd.mk (below_then hB.out hE)
        replace hS := Hd.mk (below_then hS.out hE)
        have bo := Hd.mk (bo.out.below hE)
        have b0 := Hd.mk (b0.out.below hE)
        have b1 := Hd.mk (b1.out.below hE)
        have hJ := Hd.mk (Ty.O_below hJ.out hE)
        have hV := Hd.mk (Ty.O_below hV.out hE)
        clear hW hE
        have z4 := Hd.mk hz_; clear hz_
        have z0_ := z0.out; have hp_ := hp.out; have z1_ := z1.out; have z2_ := z2.out; have z3_ := z3.out; have z4_ := z4.out
        refine (spec_l1Put (opRaw0 x) x.value nmValue _ _ _ hJ.out hV.out (fun k h1 h2 => by have q_ := hSJ.out k h1; have q2_ := h2.1; have q3_ := h2.2; omega) (by decide) rfl (show 2 ≤ 100000 by decide)).mono ?_
        rintro e w8 ⟨cy, rfl, hY, hX⟩
        have bo := Hd.mk (bo.out.below hX)
        have b0 := Hd.mk (b0.out.below hX)
        have b1 := Hd.mk (b1.out.below hX)
        have hB := Hd.mk (below_then hB.out hX)
        replace hS := Hd.mk (below_then hS.out hX)
        have hz_ := hX.size
        clear hX
        have z5 := Hd.mk hz_; clear hz_
        clear hJ hV
        rw [put_value x (by rw [HKQ.out]; exact hk2)] at hY
        obtain ⟨jr, hjr⟩ : ∃ z, z = opRaw x := ⟨_, rfl⟩
        rw [← hjr] at hY
        have HJR := Hd.mk hjr; clear hjr
        obtain ⟨SY, hSY, hY⟩ : ∃ SY : Nat → Prop, Hd (∀ k, SY k → w.heap.size + 2 ≤ k ∧ k ≠ p) ∧ Hd ((tJ (m + 2)).O w8 SY jr cy) := ⟨_, ⟨fun k h => by have hp_ := hp.out; have hlt_ := hlt.out; rcases h with h | h | h; (refine ⟨by omega, by omega⟩); (have q_ := hSJ.out k h; exact ⟨q_.1, q_.2.2⟩); (have q_ := h.1; have q2_ := h.2; refine ⟨by omega, by omega⟩)⟩, ⟨hY⟩⟩
        obtain ⟨v3, v4, _, _, rfl, _, h3_, h4_, _⟩ := tJ_O.1 hY.out
        obtain ⟨A5, c5, rfl, _, _⟩ := R_C h3_
        obtain ⟨A6, c6, rfl, _, _⟩ := R_C h4_
        clear h3_ h4_
        go_wp2_with fail
        refine ⟨cls_below hS.out, ?_⟩
        refine mixT_fin ?_
        clear hS
        clear rfbo_0 rfbo_1 rfbo_2 rfbo_3 rfbo_4 rfb0_0 rfb0_1 rfb0_2 rfb0_3 rfb0_4 rfb0_5 rfb0_6 rfb1_0 rfb1_1 rfb1_2 rfb1_3 rfb1_4
        clear fbo_0 fbo_1 fbo_2 fbo_3 fbo_4 fbo_z fb0_0 fb0_1 fb0_2 fb0_3 fb0_4 fb0_5 fb0_6 fb0_z fb1_0 fb1_1 fb1_2 fb1_3 fb1_4 fb1_z
        have fbo_0 : w8.cell? ⟨p, 0, none⟩ = some (Value.int IntKind.i64 5) := bo.out.cell 0 rfl
        have fbo_1 : w8.cell? ⟨p, 1, none⟩ = some (Value.int IntKind.i64 0) := bo.out.cell 1 rfl
        have fbo_2 : w8.cell? ⟨p, 2, none⟩ = some (Value.string ⟨#[]⟩) := bo.out.cell 2 rfl
        have fbo_3 : w8.cell? ⟨p, 3, none⟩ = some (.slice DL 2 dl) := bo.out.cell 3 rfl
        have fbo_4 : w8.cell? ⟨p, 4, none⟩ = some (.slice DN 2 dn) := bo.out.cell 4 rfl
        have fbo_z := bo.out.frozen
        have fb0_0 : w8.cell? ⟨w.heap.size, 0, none⟩ = some (Value.int IntKind.i64 (qk : Int)) := b0.out.cell 0 rfl
        have fb0_1 : w8.cell? ⟨w.heap.size, 1, none⟩ = some (Value.slice A1 x.way.length c1) := b0.out.cell 1 rfl
        have fb0_2 : w8.cell? ⟨w.heap.size, 2, none⟩ = some (Value.int IntKind.i64 x.value.kind) := b0.out.cell 2 rfl
        have fb0_3 : w8.cell? ⟨w.heap.size, 3, none⟩ = some (Value.int IntKind.i64 x.value.n) := b0.out.cell 3 rfl
        have fb0_4 : w8.cell? ⟨w.heap.size, 4, none⟩ = some (Value.string x.value.s) := b0.out.cell 4 rfl
        have fb0_5 : w8.cell? ⟨w.heap.size, 5, none⟩ = some (Value.slice A3 x.value.list.length c3) := b0.out.cell 5 rfl
        have fb0_6 : w8.cell? ⟨w.heap.size, 6, none⟩ = some (Value.slice A4 x.value.names.length c4) := b0.out.cell 6 rfl
        have fb0_z := b0.out.frozen
        have fb1_0 : w8.cell? ⟨w.heap.size + 1, 0, none⟩ = some (Value.int IntKind.i64 0) := b1.out.cell 0 rfl
        have fb1_1 : w8.cell? ⟨w.heap.size + 1, 1, none⟩ = some (Value.int IntKind.i64 0) := b1.out.cell 1 rfl
        have fb1_2 : w8.cell? ⟨w.heap.size + 1, 2, none⟩ = some (Value.string ⟨#[]⟩) := b1.out.cell 2 rfl
        have fb1_3 : w8.cell? ⟨w.heap.size + 1, 3, none⟩ = some (Value.slice none 0 0) := b1.out.cell 3 rfl
        have fb1_4 : w8.cell? ⟨w.heap.size + 1, 4, none⟩ = some (Value.slice none 0 0) := b1.out.cell 4 rfl
        have fb1_z := b1.out.frozen
        refine tail_b rfl ?_ (by rfl)
        go_wp2_with fail
        refine mixQ_n ?_
        refine tail_nil ?_
        go_wp2_with fail
        clear fbo_0 fbo_1 fbo_2 fbo_3 fbo_4 fbo_z fb0_0 fb0_1 fb0_2 fb0_3 fb0_4 fb0_5 fb0_6 fb0_z fb1_0 fb1_1 fb1_2 fb1_3 fb1_4 fb1_z
        apply calls_gen; intro W9 hW
        have hz_ : w8.heap.size ≤ W9.heap.size := by rw [hW]; simp
        have eF : Fr w8 W9 (fun k => k = p ∨ w8.heap.size ≤ k) := by rw [hW]; (repeat (first | with_reducible refine Fr.setCell ?_ _ (fun _ => by simp <;> omega) _ | with_reducible refine Fr.alloc ?_ _ | with_reducible refine Fr.drew ?_)); exact Fr.refl _ _
        have z0_ := z0.out; have hp_ := hp.out; have z1_ := z1.out; have z2_ := z2.out; have z3_ := z3.out; have z4_ := z4.out; have z5_ := z5.out
        have hB := Hd.mk (((Fr.of_below hB.out (fun k => k = p ∨ w8.heap.size ≤ k)).then_ eF (fun k hk _ => hk)).below (fun k hk => by have := hB.out.size; omega))
        have bo := Hd.mk (show Blk W9 (p) #[Value.int IntKind.i64 jr.kind, Value.int IntKind.i64 jr.n, Value.string jr.s, Value.slice A5 jr.list.length c5, Value.slice A6 jr.names.length c6] 40 by rw [hW]; exact (Blk.all bo.out [Value.int IntKind.i64 jr.kind, Value.int IntKind.i64 jr.n, Value.string jr.s, Value.slice A5 jr.list.length c5, Value.slice A6 jr.names.length c6] rfl))
        have b0 := Hd.mk (b0.out.fr eF (fun h => by have hlt_ := b0.out.lt; (try simp only at h); omega))
        have b1 := Hd.mk (b1.out.fr eF (fun h => by have hlt_ := b1.out.lt; (try simp only at h); omega))
        have hY := Hd.mk (Ty.O_fr hY.out eF (fun k hk hl h => by have q_ := hSY.out k hk; have hp_ := hp.out; (try simp only [rng] at hk); (try simp only at hk); (try simp only at h); omega))
        clear hW eF
        have z6 := Hd.mk hz_; clear hz_
        refine (spec_JsonOk jr [Value.int IntKind.i64 jr.kind, Value.int IntKind.i64 jr.n, Value.string jr.s, Value.slice A5 jr.list.length c5, Value.slice A6 jr.names.length c6] _ (Ty.O_K _ hY.out)).mono ?_
        rintro e w10 ⟨rfl, hX⟩
        have bo := Hd.mk (bo.out.below hX)
        have b0 := Hd.mk (b0.out.below hX)
        have b1 := Hd.mk (b1.out.below hX)
        have hY := Hd.mk (Ty.O_below hY.out hX)
        have hB := Hd.mk (below_then hB.out hX)
        have hz_ := hX.size
        clear hX
        have z7 := Hd.mk hz_; clear hz_
        cases hb2 : jsonOk jr
        · have HF := Hd.mk (show opJ x = J.null by unfold opJ; rw [HOK.out, ← HJR.out, hb2]; simp)
          have fbo_0 : w10.cell? ⟨p, 0, none⟩ = some (Value.int IntKind.i64 jr.kind) := bo.out.cell 0 rfl
          have fbo_1 : w10.cell? ⟨p, 1, none⟩ = some (Value.int IntKind.i64 jr.n) := bo.out.cell 1 rfl
          have fbo_2 : w10.cell? ⟨p, 2, none⟩ = some (Value.string jr.s) := bo.out.cell 2 rfl
          have fbo_3 : w10.cell? ⟨p, 3, none⟩ = some (Value.slice A5 jr.list.length c5) := bo.out.cell 3 rfl
          have fbo_4 : w10.cell? ⟨p, 4, none⟩ = some (Value.slice A6 jr.names.length c6) := bo.out.cell 4 rfl
          have fbo_z := bo.out.frozen
          have fb0_0 : w10.cell? ⟨w.heap.size, 0, none⟩ = some (Value.int IntKind.i64 (qk : Int)) := b0.out.cell 0 rfl
          have fb0_1 : w10.cell? ⟨w.heap.size, 1, none⟩ = some (Value.slice A1 x.way.length c1) := b0.out.cell 1 rfl
          have fb0_2 : w10.cell? ⟨w.heap.size, 2, none⟩ = some (Value.int IntKind.i64 x.value.kind) := b0.out.cell 2 rfl
          have fb0_3 : w10.cell? ⟨w.heap.size, 3, none⟩ = some (Value.int IntKind.i64 x.value.n) := b0.out.cell 3 rfl
          have fb0_4 : w10.cell? ⟨w.heap.size, 4, none⟩ = some (Value.string x.value.s) := b0.out.cell 4 rfl
          have fb0_5 : w10.cell? ⟨w.heap.size, 5, none⟩ = some (Value.slice A3 x.value.list.length c3) := b0.out.cell 5 rfl
          have fb0_6 : w10.cell? ⟨w.heap.size, 6, none⟩ = some (Value.slice A4 x.value.names.length c4) := b0.out.cell 6 rfl
          have fb0_z := b0.out.frozen
          have fb1_0 : w10.cell? ⟨w.heap.size + 1, 0, none⟩ = some (Value.int IntKind.i64 0) := b1.out.cell 0 rfl
          have fb1_1 : w10.cell? ⟨w.heap.size + 1, 1, none⟩ = some (Value.int IntKind.i64 0) := b1.out.cell 1 rfl
          have fb1_2 : w10.cell? ⟨w.heap.size + 1, 2, none⟩ = some (Value.string ⟨#[]⟩) := b1.out.cell 2 rfl
          have fb1_3 : w10.cell? ⟨w.heap.size + 1, 3, none⟩ = some (Value.slice none 0 0) := b1.out.cell 3 rfl
          have fb1_4 : w10.cell? ⟨w.heap.size + 1, 4, none⟩ = some (Value.slice none 0 0) := b1.out.cell 4 rfl
          have fb1_z := b1.out.frozen
          go_wp2_with fail
          refine bodyPost_retW (v := .agg #[Value.int IntKind.i64 0, Value.int IntKind.i64 0, Value.string ⟨#[]⟩, Value.slice none 0 0, Value.slice none 0 0]) (by simp [results, Tryd.results31, go_sem, fbo_0, fbo_1, fbo_2, fbo_3, fbo_4, fbo_z, fb0_0, fb0_1, fb0_2, fb0_3, fb0_4, fb0_5, fb0_6, fb0_z, fb1_0, fb1_1, fb1_2, fb1_3, fb1_4, fb1_z]) rfl ?_
          intro W hW
          clear fbo_0 fbo_1 fbo_2 fbo_3 fbo_4 fbo_z fb0_0 fb0_1 fb0_2 fb0_3 fb0_4 fb0_5 fb0_6 fb0_z fb1_0 fb1_1 fb1_2 fb1_3 fb1_4 fb1_z
          have hz_ : w10.heap.size ≤ W.heap.size := by rw [hW]; simp
          have eF : Fr w10 W (fun k => k = w.heap.size + 1 ∨ w10.heap.size ≤ k) := by rw [hW]; (repeat (first | with_reducible refine Fr.setCell ?_ _ (fun _ => by simp <;> omega) _ | with_reducible refine Fr.alloc ?_ _ | with_reducible refine Fr.drew ?_)); exact Fr.refl _ _
          have z0_ := z0.out; have hp_ := hp.out; have z1_ := z1.out; have z2_ := z2.out; have z3_ := z3.out; have z4_ := z4.out; have z5_ := z5.out; have z6_ := z6.out; have z7_ := z7.out
          have hB := Hd.mk (((Fr.of_below hB.out (fun k => k = w.heap.size + 1 ∨ w10.heap.size ≤ k)).then_ eF (fun k hk _ => hk)).below (fun k hk => by have := hB.out.size; omega))
          have bo := Hd.mk (bo.out.fr eF (fun h => by have hlt_ := bo.out.lt; (try simp only at h); omega))
          have b0 := Hd.mk (b0.out.fr eF (fun h => by have hlt_ := b0.out.lt; (try simp only at h); omega))
          have b1 := Hd.mk (show Blk W (w.heap.size + 1) #[Value.int IntKind.i64 0, Value.int IntKind.i64 0, Value.string ⟨#[]⟩, Value.slice none 0 0, Value.slice none 0 0] 40 by rw [hW]; exact (Blk.all b1.out [Value.int IntKind.i64 0, Value.int IntKind.i64 0, Value.string ⟨#[]⟩, Value.slice none 0 0, Value.slice none 0 0] rfl))
          have hY := Hd.mk (Ty.O_fr hY.out eF (fun k hk hl h => by have q_ := hSY.out k hk; have hp_ := hp.out; (try simp only [rng] at hk); (try simp only at hk); (try simp only at h); omega))
          clear hW eF
          have z8 := Hd.mk hz_; clear hz_
          exact ⟨[Value.int IntKind.i64 0, Value.int IntKind.i64 0, Value.string ⟨#[]⟩, Value.slice none 0 0, Value.slice none 0 0], rfl, by rw [HF.out]; exact ZJ (m + 1) _ _, hB.out⟩
        · have HF := Hd.mk (show opJ x = jr by unfold opJ; rw [HOK.out, ← HJR.out, hb2]; simp)
          have fbo_0 : w10.cell? ⟨p, 0, none⟩ = some (Value.int IntKind.i64 jr.kind) := bo.out.cell 0 rfl
          have fbo_1 : w10.cell? ⟨p, 1, none⟩ = some (Value.int IntKind.i64 jr.n) := bo.out.cell 1 rfl
          have fbo_2 : w10.cell? ⟨p, 2, none⟩ = some (Value.string jr.s) := bo.out.cell 2 rfl
          have fbo_3 : w10.cell? ⟨p, 3, none⟩ = some (Value.slice A5 jr.list.length c5) := bo.out.cell 3 rfl
          have fbo_4 : w10.cell? ⟨p, 4, none⟩ = some (Value.slice A6 jr.names.length c6) := bo.out.cell 4 rfl
          have fbo_z := bo.out.frozen
          have fb0_0 : w10.cell? ⟨w.heap.size, 0, none⟩ = some (Value.int IntKind.i64 (qk : Int)) := b0.out.cell 0 rfl
          have fb0_1 : w10.cell? ⟨w.heap.size, 1, none⟩ = some (Value.slice A1 x.way.length c1) := b0.out.cell 1 rfl
          have fb0_2 : w10.cell? ⟨w.heap.size, 2, none⟩ = some (Value.int IntKind.i64 x.value.kind) := b0.out.cell 2 rfl
          have fb0_3 : w10.cell? ⟨w.heap.size, 3, none⟩ = some (Value.int IntKind.i64 x.value.n) := b0.out.cell 3 rfl
          have fb0_4 : w10.cell? ⟨w.heap.size, 4, none⟩ = some (Value.string x.value.s) := b0.out.cell 4 rfl
          have fb0_5 : w10.cell? ⟨w.heap.size, 5, none⟩ = some (Value.slice A3 x.value.list.length c3) := b0.out.cell 5 rfl
          have fb0_6 : w10.cell? ⟨w.heap.size, 6, none⟩ = some (Value.slice A4 x.value.names.length c4) := b0.out.cell 6 rfl
          have fb0_z := b0.out.frozen
          have fb1_0 : w10.cell? ⟨w.heap.size + 1, 0, none⟩ = some (Value.int IntKind.i64 0) := b1.out.cell 0 rfl
          have fb1_1 : w10.cell? ⟨w.heap.size + 1, 1, none⟩ = some (Value.int IntKind.i64 0) := b1.out.cell 1 rfl
          have fb1_2 : w10.cell? ⟨w.heap.size + 1, 2, none⟩ = some (Value.string ⟨#[]⟩) := b1.out.cell 2 rfl
          have fb1_3 : w10.cell? ⟨w.heap.size + 1, 3, none⟩ = some (Value.slice none 0 0) := b1.out.cell 3 rfl
          have fb1_4 : w10.cell? ⟨w.heap.size + 1, 4, none⟩ = some (Value.slice none 0 0) := b1.out.cell 4 rfl
          have fb1_z := b1.out.frozen
          go_wp2_with fail
          refine bodyPost_retW (v := .agg #[Value.int IntKind.i64 jr.kind, Value.int IntKind.i64 jr.n, Value.string jr.s, Value.slice A5 jr.list.length c5, Value.slice A6 jr.names.length c6]) (by simp [results, Tryd.results31, go_sem, fbo_0, fbo_1, fbo_2, fbo_3, fbo_4, fbo_z, fb0_0, fb0_1, fb0_2, fb0_3, fb0_4, fb0_5, fb0_6, fb0_z, fb1_0, fb1_1, fb1_2, fb1_3, fb1_4, fb1_z]) rfl ?_
          intro W hW
          clear fbo_0 fbo_1 fbo_2 fbo_3 fbo_4 fbo_z fb0_0 fb0_1 fb0_2 fb0_3 fb0_4 fb0_5 fb0_6 fb0_z fb1_0 fb1_1 fb1_2 fb1_3 fb1_4 fb1_z
          have hz_ : w10.heap.size ≤ W.heap.size := by rw [hW]; simp
          have eF : Fr w10 W (fun k => k = w.heap.size + 1 ∨ w10.heap.size ≤ k) := by rw [hW]; (repeat (first | with_reducible refine Fr.setCell ?_ _ (fun _ => by simp <;> omega) _ | with_reducible refine Fr.alloc ?_ _ | with_reducible refine Fr.drew ?_)); exact Fr.refl _ _
          have z0_ := z0.out; have hp_ := hp.out; have z1_ := z1.out; have z2_ := z2.out; have z3_ := z3.out; have z4_ := z4.out; have z5_ := z5.out; have z6_ := z6.out; have z7_ := z7.out
          have hB := Hd.mk (((Fr.of_below hB.out (fun k => k = w.heap.size + 1 ∨ w10.heap.size ≤ k)).then_ eF (fun k hk _ => hk)).below (fun k hk => by have := hB.out.size; omega))
          have bo := Hd.mk (bo.out.fr eF (fun h => by have hlt_ := bo.out.lt; (try simp only at h); omega))
          have b0 := Hd.mk (b0.out.fr eF (fun h => by have hlt_ := b0.out.lt; (try simp only at h); omega))
          have b1 := Hd.mk (show Blk W (w.heap.size + 1) #[Value.int IntKind.i64 jr.kind, Value.int IntKind.i64 jr.n, Value.string jr.s, Value.slice A5 jr.list.length c5, Value.slice A6 jr.names.length c6] 40 by rw [hW]; exact (Blk.all b1.out [Value.int IntKind.i64 jr.kind, Value.int IntKind.i64 jr.n, Value.string jr.s, Value.slice A5 jr.list.length c5, Value.slice A6 jr.names.length c6] rfl))
          have hY := Hd.mk (Ty.O_fr hY.out eF (fun k hk hl h => by have q_ := hSY.out k hk; have hp_ := hp.out; (try simp only [rng] at hk); (try simp only at hk); (try simp only at h); omega))
          clear hW eF
          have z8 := Hd.mk hz_; clear hz_
          exact ⟨[Value.int IntKind.i64 jr.kind, Value.int IntKind.i64 jr.n, Value.string jr.s, Value.slice A5 jr.list.length c5, Value.slice A6 jr.names.length c6], rfl, by rw [HF.out]; exact Ty.O_mono _ (fun k hk => by have q_ := hSY.out k hk; omega) hY.out, hB.out⟩
end Go.Proofs.YtkgefjjgjjmklaaDoor.X
