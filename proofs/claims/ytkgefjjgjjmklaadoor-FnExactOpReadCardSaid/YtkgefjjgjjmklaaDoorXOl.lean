/- What is proved here: OpJson of the program. Conditions: none. -/
import Derived.Test.YtkgefjjgjjmklaaDoorXOm
import Derived.Lib.AtoiErrMem
import Derived.Lib.AppendIntMem
namespace Go.Proofs.YtkgefjjgjjmklaaDoor.X
open Go.RowKit Go.Sort
set_option linter.unusedVariables false
set_option linter.unusedSimpArgs false
open Ty
theorem raw1_O {m : Nat} {w : World} {SL SN : Nat → Prop} {L : List J} {N : List ByteArray} {vL vN : Value} (hL : (tJ (m + 1)).R 40 w SL vL L) (hN : str.R 9 w SN vN N) (hd : ∀ k, SL k → ¬ SN k) :
    (tJ (m + 2)).O w (fun k => SL k ∨ SN k) ⟨5, 0, ⟨#[]⟩, L, N⟩ [.int .i64 5, .int .i64 0, .string ⟨#[]⟩, vL, vN] :=
  tJ_O.2 ⟨_, _, SL, SN, rfl, Nat.zero_le _, hL, hN, fun _ h => .inl h, fun _ h => .inr h, hd⟩
theorem kindNm_le (k : Int) : (kindNm k).size ≤ 10 := by
  unfold kindNm
  rw [List.getD_eq_getElem?_getD]
  cases h : kindL[(k - 1).toNat]? with
  | none => decide
  | some s =>
    have : ∀ s ∈ kindL, s.size ≤ 10 := by decide
    exact this s (List.mem_of_getElem? h)
theorem bulk_opJ (m : Nat) (o : JOp) : bulkJ (m + 2) (opJ o) ≤ 100 + 2 * bulkOp (m + 1) o := by
  have h1 := kindNm_le o.kind
  have h2 : ((⟨(wayB o.way).toArray⟩ : ByteArray)).size ≤ 2 * bulkStringS o.way := wayB_len o.way
  have e1 : nmOp.size = 2 := rfl
  have e2 : nmPath.size = 4 := rfl
  have e3 : nmValue.size = 5 := rfl
  have ht : ∀ s : ByteArray, bulkJ (m + 1) (txt s) = s.size := fun s => by
    show s.size + (0 + 0) + (0 + 0) = _
    omega
  have h0 : ∀ L N, bulkJ (m + 2) ⟨5, 0, ⟨#[]⟩, L, N⟩ = L.length + bulkL (bulkJ (m + 1)) L + (N.length + bulkL ByteArray.size N) := fun L N => by
    show 0 + (L.length + bulkL (bulkJ (m + 1)) L) + (N.length + bulkL ByteArray.size N) = _
    omega
  unfold bulkOp
  unfold opJ
  split
  · unfold opRaw
    split
    · unfold opRaw0
      rw [h0]
      simp only [bulkL, ht, List.length_cons, List.length_nil, e1, e2]
      omega
    · rw [h0]
      simp only [bulkL, ht, List.length_cons, List.length_nil, e1, e2, e3]
      omega
  · show 0 + (0 + 0) + (0 + 0) ≤ _
    omega
set_option maxHeartbeats 4000000 in
set_option maxRecDepth 100000 in
theorem impl_OpJson {m : Nat} (x : JOp) (cs : List Value) (w : World) (hk : (tOp (m + 1)).K w x cs) (hlw : bulkStringS x.way ≤ 1048576) (hlj : bulkJ (m + 1) x.value ≤ 4194304) (hM : EnvM w) :
    Calls Tryd.prog 33 #[.agg cs.toArray] w fun e w' => ∃ cs', e = .returned (.agg cs'.toArray) ∧ (tJ (m + 2)).O w' (fun k => w.heap.size ≤ k) (opJ x) cs' ∧ Below w.heap.size w w' := by
  have HK := Hd.mk hk; have HM := Hd.mk hM; clear hM
  obtain ⟨A1, c1, _, rfl, ⟨hc1, hr1⟩, hj⟩ := tOp_K.1 hk
  have HKJ := Hd.mk hj
  obtain ⟨A3, c3, A4, c4, rfl, hsj, ⟨hc3, hr3⟩, hc4, hr4⟩ := tJ_K.1 hj
  have hm := hr1.1
  have HRW := Hd.mk hr1; clear hr1 hr3 hr4 hk hj
  have HLW := Hd.mk hlw
  have HLJ := Hd.mk hlj; clear hlw hlj
  obtain ⟨tw, htw⟩ : ∃ t : ByteArray, t = ⟨(wayB x.way).toArray⟩ := ⟨_, rfl⟩
  have HTW := Hd.mk htw; clear htw
  have hB := Hd.mk (Below.refl w.heap.size w)
  go_enter Tryd.func33, Tryd.ntmps33
  go_wp2_with fail
  apply calls_gen; intro W1 hW
  have hz_ : w.heap.size + 2 ≤ W1.heap.size := by rw [hW]; simp
  have hE : Below w.heap.size w W1 := by rw [hW]; (repeat (first | with_reducible refine below_alloc ?_ _ | with_reducible refine below_drew ?_)); exact Below.refl _ _
  have hB := Hd.mk (below_then hB.out hE)
  have b0 := Hd.mk (show Blk W1 (w.heap.size) #[Value.int IntKind.i64 x.kind, Value.slice A1 x.way.length c1, Value.int IntKind.i64 x.value.kind, Value.int IntKind.i64 x.value.n, Value.string x.value.s, Value.slice A3 x.value.list.length c3, Value.slice A4 x.value.names.length c4] 49 by rw [hW]; first | exact ((Blk.new _ _ _).alloc _) | (simpa using ((Blk.new _ _ _).alloc _)))
  have b1 := Hd.mk (show Blk W1 (w.heap.size + 1) #[Value.int IntKind.i64 0, Value.int IntKind.i64 0, Value.string ⟨#[]⟩, Value.slice none 0 0, Value.slice none 0 0] 40 by rw [hW]; first | exact (Blk.new1 _ _ _ _) | (simpa using (Blk.new1 _ _ _ _)))
  clear hW hE
  have z1 := Hd.mk hz_; clear hz_
  refine (impl_OpOk x _ _ (Ty.K_below _ hB.out HK.out)).mono ?_
  rintro e w2 ⟨rfl, hX⟩
  have b0 := Hd.mk (b0.out.below hX)
  have b1 := Hd.mk (b1.out.below hX)
  have hB := Hd.mk (below_then hB.out hX)
  have hz_ := hX.size
  clear hX
  have z2 := Hd.mk hz_; clear hz_
  cases hb : opOk x
  · have HF := Hd.mk (show opJ x = J.null by unfold opJ; rw [hb]; simp)
    have fb0_0 : w2.cell? ⟨w.heap.size, 0, none⟩ = some (Value.int IntKind.i64 x.kind) := b0.out.cell 0 rfl
    have fb0_1 : w2.cell? ⟨w.heap.size, 1, none⟩ = some (Value.slice A1 x.way.length c1) := b0.out.cell 1 rfl
    have fb0_2 : w2.cell? ⟨w.heap.size, 2, none⟩ = some (Value.int IntKind.i64 x.value.kind) := b0.out.cell 2 rfl
    have fb0_3 : w2.cell? ⟨w.heap.size, 3, none⟩ = some (Value.int IntKind.i64 x.value.n) := b0.out.cell 3 rfl
    have fb0_4 : w2.cell? ⟨w.heap.size, 4, none⟩ = some (Value.string x.value.s) := b0.out.cell 4 rfl
    have fb0_5 : w2.cell? ⟨w.heap.size, 5, none⟩ = some (Value.slice A3 x.value.list.length c3) := b0.out.cell 5 rfl
    have fb0_6 : w2.cell? ⟨w.heap.size, 6, none⟩ = some (Value.slice A4 x.value.names.length c4) := b0.out.cell 6 rfl
    have fb0_z := b0.out.frozen
    have fb1_0 : w2.cell? ⟨w.heap.size + 1, 0, none⟩ = some (Value.int IntKind.i64 0) := b1.out.cell 0 rfl
    have fb1_1 : w2.cell? ⟨w.heap.size + 1, 1, none⟩ = some (Value.int IntKind.i64 0) := b1.out.cell 1 rfl
    have fb1_2 : w2.cell? ⟨w.heap.size + 1, 2, none⟩ = some (Value.string ⟨#[]⟩) := b1.out.cell 2 rfl
    have fb1_3 : w2.cell? ⟨w.heap.size + 1, 3, none⟩ = some (Value.slice none 0 0) := b1.out.cell 3 rfl
    have fb1_4 : w2.cell? ⟨w.heap.size + 1, 4, none⟩ = some (Value.slice none 0 0) := b1.out.cell 4 rfl
    have fb1_z := b1.out.frozen
    go_wp2_with fail
    refine bodyPost_retW (v := .agg #[Value.int IntKind.i64 0, Value.int IntKind.i64 0, Value.string ⟨#[]⟩, Value.slice none 0 0, Value.slice none 0 0]) (by simp [results, Tryd.results33, go_sem, fb0_0, fb0_1, fb0_2, fb0_3, fb0_4, fb0_5, fb0_6, fb0_z, fb1_0, fb1_1, fb1_2, fb1_3, fb1_4, fb1_z]) rfl ?_
    intro W hW
    clear fb0_0 fb0_1 fb0_2 fb0_3 fb0_4 fb0_5 fb0_6 fb0_z fb1_0 fb1_1 fb1_2 fb1_3 fb1_4 fb1_z
    have hz_ : w2.heap.size ≤ W.heap.size := by rw [hW]; simp
    have eF : Fr w2 W (fun k => k = w.heap.size + 1 ∨ w2.heap.size ≤ k) := by rw [hW]; (repeat (first | with_reducible refine Fr.setCell ?_ _ (fun _ => by simp <;> omega) _ | with_reducible refine Fr.alloc ?_ _ | with_reducible refine Fr.drew ?_)); exact Fr.refl _ _
    have z1_ := z1.out; have z2_ := z2.out
    have hB := Hd.mk (((Fr.of_below hB.out (fun k => k = w.heap.size + 1 ∨ w2.heap.size ≤ k)).then_ eF (fun k hk _ => hk)).below (fun k hk => by have := hB.out.size; omega))
    have b0 := Hd.mk (b0.out.fr eF (fun h => by have hlt_ := b0.out.lt; (try simp only at h); omega))
    have b1 := Hd.mk (show Blk W (w.heap.size + 1) #[Value.int IntKind.i64 0, Value.int IntKind.i64 0, Value.string ⟨#[]⟩, Value.slice none 0 0, Value.slice none 0 0] 40 by rw [hW]; exact (Blk.all b1.out [Value.int IntKind.i64 0, Value.int IntKind.i64 0, Value.string ⟨#[]⟩, Value.slice none 0 0, Value.slice none 0 0] rfl))
    clear hW eF
    have z3 := Hd.mk hz_; clear hz_
    exact ⟨[Value.int IntKind.i64 0, Value.int IntKind.i64 0, Value.string ⟨#[]⟩, Value.slice none 0 0, Value.slice none 0 0], rfl, by rw [HF.out]; exact ZJ (m + 1) _ _, hB.out⟩
  · have HOK := Hd.mk hb; clear hb
    have HKB := Hd.mk (opOk_kind HOK.out)
    obtain ⟨qi, hkq⟩ := Int.eq_ofNat_of_zero_le (show (0 : Int) ≤ x.kind - 1 by have := HKB.out.1; omega)
    replace hkq : x.kind = ((qi + 1 : Nat) : Int) := by omega
    have hq4 : qi < 4 := by have := HKB.out.2; omega
    have HKQ := Hd.mk hkq
    obtain ⟨qk, hqk⟩ : ∃ z : Int, z = x.kind := ⟨_, rfl⟩
    have HQK := Hd.mk hqk
    rw [← hqk] at b0 hkq
    have hq4i : (qi : Int) < 4 := by omega
    have hq0i : (0 : Int) ≤ (qi : Int) := by omega
    have hwq : IntKind.i64.wrap (qk - 1) = (qi : Int) := by rw [IntKind.wrap_i64]; omega
    clear hkq hqk
    have HTZ := Hd.mk (show tw.size ≤ 9223372036854775807 by rw [HTW.out]; have h1 := wayB_len x.way; have h2 := HLW.out; show (wayB x.way).length ≤ _; omega)
    have fb0_0 : w2.cell? ⟨w.heap.size, 0, none⟩ = some (Value.int IntKind.i64 qk) := b0.out.cell 0 rfl
    have fb0_1 : w2.cell? ⟨w.heap.size, 1, none⟩ = some (Value.slice A1 x.way.length c1) := b0.out.cell 1 rfl
    have fb0_2 : w2.cell? ⟨w.heap.size, 2, none⟩ = some (Value.int IntKind.i64 x.value.kind) := b0.out.cell 2 rfl
    have fb0_3 : w2.cell? ⟨w.heap.size, 3, none⟩ = some (Value.int IntKind.i64 x.value.n) := b0.out.cell 3 rfl
    have fb0_4 : w2.cell? ⟨w.heap.size, 4, none⟩ = some (Value.string x.value.s) := b0.out.cell 4 rfl
    have fb0_5 : w2.cell? ⟨w.heap.size, 5, none⟩ = some (Value.slice A3 x.value.list.length c3) := b0.out.cell 5 rfl
    have fb0_6 : w2.cell? ⟨w.heap.size, 6, none⟩ = some (Value.slice A4 x.value.names.length c4) := b0.out.cell 6 rfl
    have fb0_z := b0.out.frozen
    have fb1_0 : w2.cell? ⟨w.heap.size + 1, 0, none⟩ = some (Value.int IntKind.i64 0) := b1.out.cell 0 rfl
    have fb1_1 : w2.cell? ⟨w.heap.size + 1, 1, none⟩ = some (Value.int IntKind.i64 0) := b1.out.cell 1 rfl
    have fb1_2 : w2.cell? ⟨w.heap.size + 1, 2, none⟩ = some (Value.string ⟨#[]⟩) := b1.out.cell 2 rfl
    have fb1_3 : w2.cell? ⟨w.heap.size + 1, 3, none⟩ = some (Value.slice none 0 0) := b1.out.cell 3 rfl
    have fb1_4 : w2.cell? ⟨w.heap.size + 1, 4, none⟩ = some (Value.slice none 0 0) := b1.out.cell 4 rfl
    have fb1_z := b1.out.frozen
    go_wp2_with fail
    clear fb0_0 fb0_1 fb0_2 fb0_3 fb0_4 fb0_5 fb0_6 fb0_z fb1_0 fb1_1 fb1_2 fb1_3 fb1_4 fb1_z
    apply wp_gen; intro W3 hW
    have hN := Hd.mk (show str.R 9 W3 (rng w2.heap.size (w2.heap.size + 1)) (.slice (some ⟨w2.heap.size, 0, none⟩) 2 2) [nmOp, nmPath] by rw [hW]; exact R_mono (fun k h => by have h : k = _ := h; simp only [rng]; omega) (R_below (R_strsN [nmOp, nmPath] (by decide) (by decide)) (below_alloc (Below.refl _ _) _)))
    have hz_ : w2.heap.size + 2 ≤ W3.heap.size := by rw [hW]; simp
    have hE : Below w2.heap.size w2 W3 := by rw [hW]; (repeat (first | with_reducible refine below_alloc ?_ _ | with_reducible refine below_drew ?_)); exact Below.refl _ _
    have hB := Hd.mk (below_then hB.out hE)
    have b0 := Hd.mk (b0.out.below hE)
    have b1 := Hd.mk (b1.out.below hE)
    have b2 := Hd.mk (show Blk W3 (w2.heap.size + 1) #[Value.int IntKind.i64 5, Value.int IntKind.i64 0, Value.string ⟨#[]⟩, Value.slice none 0 0, Value.slice (some ⟨w2.heap.size, 0, none⟩) 2 2] 40 by rw [hW]; first | exact (Blk.new1 _ _ _ _) | (simpa using (Blk.new1 _ _ _ _)))
    clear hW hE
    have z3 := Hd.mk hz_; clear hz_
    have fb0_0 : W3.cell? ⟨w.heap.size, 0, none⟩ = some (Value.int IntKind.i64 qk) := b0.out.cell 0 rfl
    have fb0_1 : W3.cell? ⟨w.heap.size, 1, none⟩ = some (Value.slice A1 x.way.length c1) := b0.out.cell 1 rfl
    have fb0_2 : W3.cell? ⟨w.heap.size, 2, none⟩ = some (Value.int IntKind.i64 x.value.kind) := b0.out.cell 2 rfl
    have fb0_3 : W3.cell? ⟨w.heap.size, 3, none⟩ = some (Value.int IntKind.i64 x.value.n) := b0.out.cell 3 rfl
    have fb0_4 : W3.cell? ⟨w.heap.size, 4, none⟩ = some (Value.string x.value.s) := b0.out.cell 4 rfl
    have fb0_5 : W3.cell? ⟨w.heap.size, 5, none⟩ = some (Value.slice A3 x.value.list.length c3) := b0.out.cell 5 rfl
    have fb0_6 : W3.cell? ⟨w.heap.size, 6, none⟩ = some (Value.slice A4 x.value.names.length c4) := b0.out.cell 6 rfl
    have fb0_z := b0.out.frozen
    have fb1_0 : W3.cell? ⟨w.heap.size + 1, 0, none⟩ = some (Value.int IntKind.i64 0) := b1.out.cell 0 rfl
    have fb1_1 : W3.cell? ⟨w.heap.size + 1, 1, none⟩ = some (Value.int IntKind.i64 0) := b1.out.cell 1 rfl
    have fb1_2 : W3.cell? ⟨w.heap.size + 1, 2, none⟩ = some (Value.string ⟨#[]⟩) := b1.out.cell 2 rfl
    have fb1_3 : W3.cell? ⟨w.heap.size + 1, 3, none⟩ = some (Value.slice none 0 0) := b1.out.cell 3 rfl
    have fb1_4 : W3.cell? ⟨w.heap.size + 1, 4, none⟩ = some (Value.slice none 0 0) := b1.out.cell 4 rfl
    have fb1_z := b1.out.frozen
    have fb2_0 : W3.cell? ⟨w2.heap.size + 1, 0, none⟩ = some (Value.int IntKind.i64 5) := b2.out.cell 0 rfl
    have fb2_1 : W3.cell? ⟨w2.heap.size + 1, 1, none⟩ = some (Value.int IntKind.i64 0) := b2.out.cell 1 rfl
    have fb2_2 : W3.cell? ⟨w2.heap.size + 1, 2, none⟩ = some (Value.string ⟨#[]⟩) := b2.out.cell 2 rfl
    have fb2_3 : W3.cell? ⟨w2.heap.size + 1, 3, none⟩ = some (Value.slice none 0 0) := b2.out.cell 3 rfl
    have fb2_4 : W3.cell? ⟨w2.heap.size + 1, 4, none⟩ = some (Value.slice (some ⟨w2.heap.size, 0, none⟩) 2 2) := b2.out.cell 4 rfl
    have fb2_z := b2.out.frozen
    have rfb0_0 := cell_regrown fb0_0
    have rfb0_1 := cell_regrown fb0_1
    have rfb0_2 := cell_regrown fb0_2
    have rfb0_3 := cell_regrown fb0_3
    have rfb0_4 := cell_regrown fb0_4
    have rfb0_5 := cell_regrown fb0_5
    have rfb0_6 := cell_regrown fb0_6
    have rfb1_0 := cell_regrown fb1_0
    have rfb1_1 := cell_regrown fb1_1
    have rfb1_2 := cell_regrown fb1_2
    have rfb1_3 := cell_regrown fb1_3
    have rfb1_4 := cell_regrown fb1_4
    have rfb2_0 := cell_regrown fb2_0
    have rfb2_1 := cell_regrown fb2_1
    have rfb2_2 := cell_regrown fb2_2
    have rfb2_3 := cell_regrown fb2_3
    have rfb2_4 := cell_regrown fb2_4
    refine region_mixT (.p 1 (.q 2 (.p 3 (.p 7 (.q 8 (.b 0 (.q 4 (.n (.q 5 (.q 6 (.b 9 (.q 10 (.b 11 (.p 12 .fin)))))))))))))) [13] (by kernel_rfl) (by kernel_rfl) (fun _ _ _ _ _ h => h) ?_
    refine genT ?_
    intro W4 hW
    have hS := Hd.mk (show Below W3.heap.size W3 W4 by rw [hW]; exact below_drew (Below.refl _ _))
    have hz_ : W3.heap.size ≤ W4.heap.size := by rw [hW]; simp
    have hE : Below W3.heap.size W3 W4 := by rw [hW]; (repeat (first | with_reducible refine below_alloc ?_ _ | with_reducible refine below_drew ?_)); exact Below.refl _ _
    have hB := Hd.mk (below_then hB.out hE)
    have b0 := Hd.mk (b0.out.below hE)
    have b1 := Hd.mk (b1.out.below hE)
    have b2 := Hd.mk (b2.out.below hE)
    have hN := Hd.mk (R_below hN.out hE)
    clear hW hE
    have z4 := Hd.mk hz_; clear hz_
    refine mixT_p rfl ?_
    go_big_quiet_want; go_big_quiet_op; go_big_quiet_on; refine wpQuiet_nil ?_
    refine mixT_q rfl ?_
    go_big_quiet_want; go_big_quiet_op; go_big_quiet_on; refine wpQuiet_nil ?_
    refine mixT_p rfl ?_
    go_big_quiet_want; go_big_quiet_op; go_big_quiet_on; refine wpQuiet_nil ?_
    refine mixT_p rfl ?_
    go_big_quiet_want; go_big_quiet_op; go_big_quiet_on; refine wpQuiet_nil ?_
    refine mixT_q rfl ?_
    go_big_quiet_want; go_big_quiet_op; go_big_quiet_on; refine wpQuiet_nil ?_
    refine mixT_b rfl ?_ (by rfl)
    go_wp2_with fail
    apply calls_gen; intro W5 hW
    have hz_ : W4.heap.size ≤ W5.heap.size := by rw [hW]; simp
    have hE : Below W4.heap.size W4 W5 := by rw [hW]; (repeat (first | with_reducible refine below_alloc ?_ _ | with_reducible refine below_drew ?_)); exact Below.refl _ _
    have hB := Hd.mk (below_then hB.out hE)
    replace hS := Hd.mk (below_then hS.out hE)
    have b0 := Hd.mk (b0.out.below hE)
    have b1 := Hd.mk (b1.out.below hE)
    have b2 := Hd.mk (b2.out.below hE)
    have hN := Hd.mk (R_below hN.out hE)
    clear hW hE
    have z5 := Hd.mk hz_; clear hz_
    refine (impl_opNames _).mono ?_
    rintro e w6 ⟨AK, rfl, hKN, hX⟩
    have b0 := Hd.mk (b0.out.below hX)
    have b1 := Hd.mk (b1.out.below hX)
    have b2 := Hd.mk (b2.out.below hX)
    have hN := Hd.mk (R_below hN.out hX)
    have hB := Hd.mk (below_then hB.out hX)
    replace hS := Hd.mk (below_then hS.out hX)
    have hz_ := hX.size
    clear hX
    have z6 := Hd.mk hz_; clear hz_
    obtain ⟨adk, rfl, xk⟩ := kindL_at hKN qi hq4
    replace hKN := Hd.mk hKN; clear xk
    go_wp2_with fail
    refine ⟨cls_below hS.out, ?_⟩
    refine mixT_q rfl ?_
    go_big_quiet_want; go_big_quiet_op; go_big_quiet_on; refine wpQuiet_nil ?_
    obtain ⟨ad_, he_, xk⟩ := kindL_at hKN.out qi hq4
    obtain rfl := Option.some.inj he_
    have rxk := cell_regrown xk
    clear xk hKN
    refine mixT_n (C' := fun w' => ∃ p : Regrown, w' = grow (redrawn w6 p.d) p.os) (cls_below (Below.refl _ _)) (fun w' h => cls_below (below_then hS.out (below_cls h))) ?_
    clear hS
    have hS := Hd.mk (Below.refl w6.heap.size w6)
    refine mixT_q rfl ?_
    go_big_quiet_want; go_big_quiet_op; go_big_quiet_on; refine wpQuiet_nil ?_
    refine mixT_q rfl ?_
    go_big_quiet_want; go_big_quiet_op; go_big_quiet_on; refine wpQuiet_nil ?_
    refine mixT_b rfl ?_ (by rfl)
    go_wp2_with fail
    apply calls_gen; intro W7 hW
    have hz_ : w6.heap.size ≤ W7.heap.size := by rw [hW]; simp
    have hE : Below w6.heap.size w6 W7 := by rw [hW]; (repeat (first | with_reducible refine below_alloc ?_ _ | with_reducible refine below_drew ?_)); exact Below.refl _ _
    have hB := Hd.mk (below_then hB.out hE)
    replace hS := Hd.mk (below_then hS.out hE)
    have b0 := Hd.mk (b0.out.below hE)
    have b1 := Hd.mk (b1.out.below hE)
    have b2 := Hd.mk (b2.out.below hE)
    have hN := Hd.mk (R_below hN.out hE)
    clear hW hE
    have z7 := Hd.mk hz_; clear hz_
    refine (impl_WayText _ _ x.way _ (C_below HRW.out hB.out) HLW.out (HM.out.below hB.out)).mono ?_
    rintro e w8 ⟨rfl, hX⟩
    have b0 := Hd.mk (b0.out.below hX)
    have b1 := Hd.mk (b1.out.below hX)
    have b2 := Hd.mk (b2.out.below hX)
    have hN := Hd.mk (R_below hN.out hX)
    have hB := Hd.mk (below_then hB.out hX)
    replace hS := Hd.mk (below_then hS.out hX)
    have hz_ := hX.size
    clear hX
    have z8 := Hd.mk hz_; clear hz_
    rw [← HTW.out]
    go_wp2_with fail
    refine ⟨cls_below hS.out, ?_⟩
    refine mixT_q rfl ?_
    go_big_quiet_want; go_big_quiet_op; go_big_quiet_on; refine wpQuiet_nil ?_
    refine mixT_b rfl ?_ (by rfl)
    go_wp2_with fail
    refine ⟨cls_below (below_alloc hS.out _), ?_⟩
    refine genT ?_; intro W9 hW
    have hL := Hd.mk (show (tJ (m + 1)).R 40 W9 (rng w8.heap.size (w8.heap.size + 1)) (.slice (some ⟨w8.heap.size, 0, none⟩) 2 2) [txt (kindNm x.kind), txt tw] by rw [hW]; exact R_mono (S := fun k => k = w8.heap.size) (fun k h => by have h : k = _ := h; simp only [rng]; omega) (by have h_ := R_txt2 (m := m) (W0 := w8) (kindNm x.kind) tw (kindNm_size _) HTZ.out; rw [HKQ.out] at h_ ⊢; exact h_))
    have hz_ : w8.heap.size + 1 ≤ W9.heap.size := by rw [hW]; simp
    have hE : Below w8.heap.size w8 W9 := by rw [hW]; (repeat (first | with_reducible refine below_alloc ?_ _ | with_reducible refine below_drew ?_)); exact Below.refl _ _
    have hB := Hd.mk (below_then hB.out hE)
    replace hS := Hd.mk (below_then hS.out hE)
    have b0 := Hd.mk (b0.out.below hE)
    have b1 := Hd.mk (b1.out.below hE)
    have b2 := Hd.mk (b2.out.below hE)
    have hN := Hd.mk (R_below hN.out hE)
    clear hW hE
    have z9 := Hd.mk hz_; clear hz_
    refine mixT_p rfl ?_
    go_big_quiet_want; go_big_quiet_op; go_big_quiet_on; refine wpQuiet_nil ?_
    refine mixT_fin ?_
    clear hS
    clear rfb0_0 rfb0_1 rfb0_2 rfb0_3 rfb0_4 rfb0_5 rfb0_6 rfb1_0 rfb1_1 rfb1_2 rfb1_3 rfb1_4 rfb2_0 rfb2_1 rfb2_2 rfb2_3 rfb2_4
    clear fb0_0 fb0_1 fb0_2 fb0_3 fb0_4 fb0_5 fb0_6 fb0_z fb1_0 fb1_1 fb1_2 fb1_3 fb1_4 fb1_z fb2_0 fb2_1 fb2_2 fb2_3 fb2_4 fb2_z
    have fb0_0 : W9.cell? ⟨w.heap.size, 0, none⟩ = some (Value.int IntKind.i64 qk) := b0.out.cell 0 rfl
    have fb0_1 : W9.cell? ⟨w.heap.size, 1, none⟩ = some (Value.slice A1 x.way.length c1) := b0.out.cell 1 rfl
    have fb0_2 : W9.cell? ⟨w.heap.size, 2, none⟩ = some (Value.int IntKind.i64 x.value.kind) := b0.out.cell 2 rfl
    have fb0_3 : W9.cell? ⟨w.heap.size, 3, none⟩ = some (Value.int IntKind.i64 x.value.n) := b0.out.cell 3 rfl
    have fb0_4 : W9.cell? ⟨w.heap.size, 4, none⟩ = some (Value.string x.value.s) := b0.out.cell 4 rfl
    have fb0_5 : W9.cell? ⟨w.heap.size, 5, none⟩ = some (Value.slice A3 x.value.list.length c3) := b0.out.cell 5 rfl
    have fb0_6 : W9.cell? ⟨w.heap.size, 6, none⟩ = some (Value.slice A4 x.value.names.length c4) := b0.out.cell 6 rfl
    have fb0_z := b0.out.frozen
    have fb1_0 : W9.cell? ⟨w.heap.size + 1, 0, none⟩ = some (Value.int IntKind.i64 0) := b1.out.cell 0 rfl
    have fb1_1 : W9.cell? ⟨w.heap.size + 1, 1, none⟩ = some (Value.int IntKind.i64 0) := b1.out.cell 1 rfl
    have fb1_2 : W9.cell? ⟨w.heap.size + 1, 2, none⟩ = some (Value.string ⟨#[]⟩) := b1.out.cell 2 rfl
    have fb1_3 : W9.cell? ⟨w.heap.size + 1, 3, none⟩ = some (Value.slice none 0 0) := b1.out.cell 3 rfl
    have fb1_4 : W9.cell? ⟨w.heap.size + 1, 4, none⟩ = some (Value.slice none 0 0) := b1.out.cell 4 rfl
    have fb1_z := b1.out.frozen
    have fb2_0 : W9.cell? ⟨w2.heap.size + 1, 0, none⟩ = some (Value.int IntKind.i64 5) := b2.out.cell 0 rfl
    have fb2_1 : W9.cell? ⟨w2.heap.size + 1, 1, none⟩ = some (Value.int IntKind.i64 0) := b2.out.cell 1 rfl
    have fb2_2 : W9.cell? ⟨w2.heap.size + 1, 2, none⟩ = some (Value.string ⟨#[]⟩) := b2.out.cell 2 rfl
    have fb2_3 : W9.cell? ⟨w2.heap.size + 1, 3, none⟩ = some (Value.slice none 0 0) := b2.out.cell 3 rfl
    have fb2_4 : W9.cell? ⟨w2.heap.size + 1, 4, none⟩ = some (Value.slice (some ⟨w2.heap.size, 0, none⟩) 2 2) := b2.out.cell 4 rfl
    have fb2_z := b2.out.frozen
    refine tail_b rfl ?_ (by rfl)
    go_wp2_with fail
    refine mixQ_n ?_
    refine tail_nil ?_
    by_cases hk2 : qk = 2
    · go_wp2_with fail
      clear fb0_0 fb0_1 fb0_2 fb0_3 fb0_4 fb0_5 fb0_6 fb0_z fb1_0 fb1_1 fb1_2 fb1_3 fb1_4 fb1_z fb2_0 fb2_1 fb2_2 fb2_3 fb2_4 fb2_z
      apply calls_gen; intro W10 hW
      have hz_ : W9.heap.size ≤ W10.heap.size := by rw [hW]; simp
      have eF : Fr W9 W10 (fun k => k = w2.heap.size + 1 ∨ W9.heap.size ≤ k) := by rw [hW]; (repeat (first | with_reducible refine Fr.setCell ?_ _ (fun _ => by simp <;> omega) _ | with_reducible refine Fr.alloc ?_ _ | with_reducible refine Fr.drew ?_)); exact Fr.refl _ _
      have z1_ := z1.out; have z2_ := z2.out; have z3_ := z3.out; have z4_ := z4.out; have z5_ := z5.out; have z6_ := z6.out; have z7_ := z7.out; have z8_ := z8.out; have z9_ := z9.out
      have hB := Hd.mk (((Fr.of_below hB.out (fun k => k = w2.heap.size + 1 ∨ W9.heap.size ≤ k)).then_ eF (fun k hk _ => hk)).below (fun k hk => by have := hB.out.size; omega))
      have b0 := Hd.mk (b0.out.fr eF (fun h => by have hlt_ := b0.out.lt; (try simp only at h); omega))
      have b1 := Hd.mk (b1.out.fr eF (fun h => by have hlt_ := b1.out.lt; (try simp only at h); omega))
      have b2 := Hd.mk (show Blk W10 (w2.heap.size + 1) #[Value.int IntKind.i64 5, Value.int IntKind.i64 0, Value.string ⟨#[]⟩, Value.slice (some ⟨w8.heap.size, 0, none⟩) 2 2, Value.slice (some ⟨w2.heap.size, 0, none⟩) 2 2] 40 by rw [hW]; exact (b2.out.set 3 (Value.slice (some ⟨w8.heap.size, 0, none⟩) 2 2)))
      have hN := Hd.mk (R_fr hN.out eF (fun k hk hl h => by skip; (try simp only [rng] at hk); (try simp only at hk); (try simp only at h); omega))
      have hL := Hd.mk (R_fr hL.out eF (fun k hk hl h => by skip; (try simp only [rng] at hk); (try simp only at hk); (try simp only at h); omega))
      clear hW eF
      have z10 := Hd.mk hz_; clear hz_
      have HJR := Hd.mk (show opRaw x = opRaw0 x by unfold opRaw; rw [if_pos]; rw [← HQK.out]; exact hk2)
      have hBs := hB.out.size
      have z1_ := z1.out; have z2_ := z2.out; have z3_ := z3.out; have z4_ := z4.out; have z5_ := z5.out; have z6_ := z6.out; have z7_ := z7.out; have z8_ := z8.out; have z9_ := z9.out; have z10_ := z10.out
      obtain ⟨SJ, hSJ, hJ⟩ : ∃ SJ : Nat → Prop, Hd (∀ k, SJ k → w.heap.size + 2 ≤ k ∧ k ≠ w.heap.size + 1) ∧ Hd ((tJ (m + 2)).O W10 SJ (opRaw0 x) [Value.int IntKind.i64 5, Value.int IntKind.i64 0, Value.string ⟨#[]⟩, Value.slice (some ⟨w8.heap.size, 0, none⟩) 2 2, Value.slice (some ⟨w2.heap.size, 0, none⟩) 2 2]) :=
        ⟨_, ⟨fun k h => by have q_ : rng _ _ k ∨ rng _ _ k := h; simp only [rng] at q_; refine ⟨by omega, by omega⟩⟩, ⟨raw0_O HTW.out hL.out hN.out (fun k h1 h2 => by have q1 := h1.1; have q2 := h1.2; have q3 := h2.1; have q4 := h2.2; omega)⟩⟩
      clear hL hN
      refine (impl_orNull (opRaw0 x) [Value.int IntKind.i64 5, Value.int IntKind.i64 0, Value.string ⟨#[]⟩, Value.slice (some ⟨w8.heap.size, 0, none⟩) 2 2, Value.slice (some ⟨w2.heap.size, 0, none⟩) 2 2] _ (Ty.O_K _ hJ.out)).mono ?_
      rintro e w11 ⟨rfl, hX⟩
      have b0 := Hd.mk (b0.out.below hX)
      have b1 := Hd.mk (b1.out.below hX)
      have b2 := Hd.mk (b2.out.below hX)
      have hJ := Hd.mk (Ty.O_below hJ.out hX)
      have hB := Hd.mk (below_then hB.out hX)
      have hz_ := hX.size
      clear hX
      have z11 := Hd.mk hz_; clear hz_
      cases hb2 : jsonOk (opRaw0 x)
      · have HF := Hd.mk (show opJ x = J.null by unfold opJ; rw [HOK.out, HJR.out, hb2]; simp)
        simp only [pick, nullA, if_true, if_false, Bool.false_eq_true]
        have fb0_0 : w11.cell? ⟨w.heap.size, 0, none⟩ = some (Value.int IntKind.i64 qk) := b0.out.cell 0 rfl
        have fb0_1 : w11.cell? ⟨w.heap.size, 1, none⟩ = some (Value.slice A1 x.way.length c1) := b0.out.cell 1 rfl
        have fb0_2 : w11.cell? ⟨w.heap.size, 2, none⟩ = some (Value.int IntKind.i64 x.value.kind) := b0.out.cell 2 rfl
        have fb0_3 : w11.cell? ⟨w.heap.size, 3, none⟩ = some (Value.int IntKind.i64 x.value.n) := b0.out.cell 3 rfl
        have fb0_4 : w11.cell? ⟨w.heap.size, 4, none⟩ = some (Value.string x.value.s) := b0.out.cell 4 rfl
        have fb0_5 : w11.cell? ⟨w.heap.size, 5, none⟩ = some (Value.slice A3 x.value.list.length c3) := b0.out.cell 5 rfl
        have fb0_6 : w11.cell? ⟨w.heap.size, 6, none⟩ = some (Value.slice A4 x.value.names.length c4) := b0.out.cell 6 rfl
        have fb0_z := b0.out.frozen
        have fb1_0 : w11.cell? ⟨w.heap.size + 1, 0, none⟩ = some (Value.int IntKind.i64 0) := b1.out.cell 0 rfl
        have fb1_1 : w11.cell? ⟨w.heap.size + 1, 1, none⟩ = some (Value.int IntKind.i64 0) := b1.out.cell 1 rfl
        have fb1_2 : w11.cell? ⟨w.heap.size + 1, 2, none⟩ = some (Value.string ⟨#[]⟩) := b1.out.cell 2 rfl
        have fb1_3 : w11.cell? ⟨w.heap.size + 1, 3, none⟩ = some (Value.slice none 0 0) := b1.out.cell 3 rfl
        have fb1_4 : w11.cell? ⟨w.heap.size + 1, 4, none⟩ = some (Value.slice none 0 0) := b1.out.cell 4 rfl
        have fb1_z := b1.out.frozen
        have fb2_0 : w11.cell? ⟨w2.heap.size + 1, 0, none⟩ = some (Value.int IntKind.i64 5) := b2.out.cell 0 rfl
        have fb2_1 : w11.cell? ⟨w2.heap.size + 1, 1, none⟩ = some (Value.int IntKind.i64 0) := b2.out.cell 1 rfl
        have fb2_2 : w11.cell? ⟨w2.heap.size + 1, 2, none⟩ = some (Value.string ⟨#[]⟩) := b2.out.cell 2 rfl
        have fb2_3 : w11.cell? ⟨w2.heap.size + 1, 3, none⟩ = some (Value.slice (some ⟨w8.heap.size, 0, none⟩) 2 2) := b2.out.cell 3 rfl
        have fb2_4 : w11.cell? ⟨w2.heap.size + 1, 4, none⟩ = some (Value.slice (some ⟨w2.heap.size, 0, none⟩) 2 2) := b2.out.cell 4 rfl
        have fb2_z := b2.out.frozen
        go_wp2_with fail
        refine bodyPost_retW (v := .agg #[Value.int IntKind.i64 0, Value.int IntKind.i64 0, Value.string ⟨#[]⟩, Value.slice none 0 0, Value.slice none 0 0]) (by simp [results, Tryd.results33, go_sem, fb0_0, fb0_1, fb0_2, fb0_3, fb0_4, fb0_5, fb0_6, fb0_z, fb1_0, fb1_1, fb1_2, fb1_3, fb1_4, fb1_z, fb2_0, fb2_1, fb2_2, fb2_3, fb2_4, fb2_z]) rfl ?_
        intro W hW
        clear fb0_0 fb0_1 fb0_2 fb0_3 fb0_4 fb0_5 fb0_6 fb0_z fb1_0 fb1_1 fb1_2 fb1_3 fb1_4 fb1_z fb2_0 fb2_1 fb2_2 fb2_3 fb2_4 fb2_z
        have hz_ : w11.heap.size ≤ W.heap.size := by rw [hW]; simp
        have eF : Fr w11 W (fun k => k = w.heap.size + 1 ∨ w11.heap.size ≤ k) := by rw [hW]; (repeat (first | with_reducible refine Fr.setCell ?_ _ (fun _ => by simp <;> omega) _ | with_reducible refine Fr.alloc ?_ _ | with_reducible refine Fr.drew ?_)); exact Fr.refl _ _
        have z1_ := z1.out; have z2_ := z2.out; have z3_ := z3.out; have z4_ := z4.out; have z5_ := z5.out; have z6_ := z6.out; have z7_ := z7.out; have z8_ := z8.out; have z9_ := z9.out; have z10_ := z10.out; have z11_ := z11.out
        have hB := Hd.mk (((Fr.of_below hB.out (fun k => k = w.heap.size + 1 ∨ w11.heap.size ≤ k)).then_ eF (fun k hk _ => hk)).below (fun k hk => by have := hB.out.size; omega))
        have b0 := Hd.mk (b0.out.fr eF (fun h => by have hlt_ := b0.out.lt; (try simp only at h); omega))
        have b1 := Hd.mk (show Blk W (w.heap.size + 1) #[Value.int IntKind.i64 0, Value.int IntKind.i64 0, Value.string ⟨#[]⟩, Value.slice none 0 0, Value.slice none 0 0] 40 by rw [hW]; exact (Blk.all b1.out [Value.int IntKind.i64 0, Value.int IntKind.i64 0, Value.string ⟨#[]⟩, Value.slice none 0 0, Value.slice none 0 0] rfl))
        have b2 := Hd.mk (b2.out.fr eF (fun h => by have hlt_ := b2.out.lt; (try simp only at h); omega))
        have hJ := Hd.mk (Ty.O_fr hJ.out eF (fun k hk hl h => by have q_ := hSJ.out k hk; (try simp only [rng] at hk); (try simp only at hk); (try simp only at h); omega))
        clear hW eF
        have z12 := Hd.mk hz_; clear hz_
        exact ⟨[Value.int IntKind.i64 0, Value.int IntKind.i64 0, Value.string ⟨#[]⟩, Value.slice none 0 0, Value.slice none 0 0], rfl, by rw [HF.out]; exact ZJ (m + 1) _ _, hB.out⟩
      · have HF := Hd.mk (show opJ x = (opRaw0 x) by unfold opJ; rw [HOK.out, HJR.out, hb2]; simp)
        simp only [pick, nullA, if_true, if_false, Bool.false_eq_true]
        have fb0_0 : w11.cell? ⟨w.heap.size, 0, none⟩ = some (Value.int IntKind.i64 qk) := b0.out.cell 0 rfl
        have fb0_1 : w11.cell? ⟨w.heap.size, 1, none⟩ = some (Value.slice A1 x.way.length c1) := b0.out.cell 1 rfl
        have fb0_2 : w11.cell? ⟨w.heap.size, 2, none⟩ = some (Value.int IntKind.i64 x.value.kind) := b0.out.cell 2 rfl
        have fb0_3 : w11.cell? ⟨w.heap.size, 3, none⟩ = some (Value.int IntKind.i64 x.value.n) := b0.out.cell 3 rfl
        have fb0_4 : w11.cell? ⟨w.heap.size, 4, none⟩ = some (Value.string x.value.s) := b0.out.cell 4 rfl
        have fb0_5 : w11.cell? ⟨w.heap.size, 5, none⟩ = some (Value.slice A3 x.value.list.length c3) := b0.out.cell 5 rfl
        have fb0_6 : w11.cell? ⟨w.heap.size, 6, none⟩ = some (Value.slice A4 x.value.names.length c4) := b0.out.cell 6 rfl
        have fb0_z := b0.out.frozen
        have fb1_0 : w11.cell? ⟨w.heap.size + 1, 0, none⟩ = some (Value.int IntKind.i64 0) := b1.out.cell 0 rfl
        have fb1_1 : w11.cell? ⟨w.heap.size + 1, 1, none⟩ = some (Value.int IntKind.i64 0) := b1.out.cell 1 rfl
        have fb1_2 : w11.cell? ⟨w.heap.size + 1, 2, none⟩ = some (Value.string ⟨#[]⟩) := b1.out.cell 2 rfl
        have fb1_3 : w11.cell? ⟨w.heap.size + 1, 3, none⟩ = some (Value.slice none 0 0) := b1.out.cell 3 rfl
        have fb1_4 : w11.cell? ⟨w.heap.size + 1, 4, none⟩ = some (Value.slice none 0 0) := b1.out.cell 4 rfl
        have fb1_z := b1.out.frozen
        have fb2_0 : w11.cell? ⟨w2.heap.size + 1, 0, none⟩ = some (Value.int IntKind.i64 5) := b2.out.cell 0 rfl
        have fb2_1 : w11.cell? ⟨w2.heap.size + 1, 1, none⟩ = some (Value.int IntKind.i64 0) := b2.out.cell 1 rfl
        have fb2_2 : w11.cell? ⟨w2.heap.size + 1, 2, none⟩ = some (Value.string ⟨#[]⟩) := b2.out.cell 2 rfl
        have fb2_3 : w11.cell? ⟨w2.heap.size + 1, 3, none⟩ = some (Value.slice (some ⟨w8.heap.size, 0, none⟩) 2 2) := b2.out.cell 3 rfl
        have fb2_4 : w11.cell? ⟨w2.heap.size + 1, 4, none⟩ = some (Value.slice (some ⟨w2.heap.size, 0, none⟩) 2 2) := b2.out.cell 4 rfl
        have fb2_z := b2.out.frozen
        go_wp2_with fail
        refine bodyPost_retW (v := .agg #[Value.int IntKind.i64 5, Value.int IntKind.i64 0, Value.string ⟨#[]⟩, Value.slice (some ⟨w8.heap.size, 0, none⟩) 2 2, Value.slice (some ⟨w2.heap.size, 0, none⟩) 2 2]) (by simp [results, Tryd.results33, go_sem, fb0_0, fb0_1, fb0_2, fb0_3, fb0_4, fb0_5, fb0_6, fb0_z, fb1_0, fb1_1, fb1_2, fb1_3, fb1_4, fb1_z, fb2_0, fb2_1, fb2_2, fb2_3, fb2_4, fb2_z]) rfl ?_
        intro W hW
        clear fb0_0 fb0_1 fb0_2 fb0_3 fb0_4 fb0_5 fb0_6 fb0_z fb1_0 fb1_1 fb1_2 fb1_3 fb1_4 fb1_z fb2_0 fb2_1 fb2_2 fb2_3 fb2_4 fb2_z
        have hz_ : w11.heap.size ≤ W.heap.size := by rw [hW]; simp
        have eF : Fr w11 W (fun k => k = w.heap.size + 1 ∨ w11.heap.size ≤ k) := by rw [hW]; (repeat (first | with_reducible refine Fr.setCell ?_ _ (fun _ => by simp <;> omega) _ | with_reducible refine Fr.alloc ?_ _ | with_reducible refine Fr.drew ?_)); exact Fr.refl _ _
        have z1_ := z1.out; have z2_ := z2.out; have z3_ := z3.out; have z4_ := z4.out; have z5_ := z5.out; have z6_ := z6.out; have z7_ := z7.out; have z8_ := z8.out; have z9_ := z9.out; have z10_ := z10.out; have z11_ := z11.out
        have hB := Hd.mk (((Fr.of_below hB.out (fun k => k = w.heap.size + 1 ∨ w11.heap.size ≤ k)).then_ eF (fun k hk _ => hk)).below (fun k hk => by have := hB.out.size; omega))
        have b0 := Hd.mk (b0.out.fr eF (fun h => by have hlt_ := b0.out.lt; (try simp only at h); omega))
        have b1 := Hd.mk (show Blk W (w.heap.size + 1) #[Value.int IntKind.i64 5, Value.int IntKind.i64 0, Value.string ⟨#[]⟩, Value.slice (some ⟨w8.heap.size, 0, none⟩) 2 2, Value.slice (some ⟨w2.heap.size, 0, none⟩) 2 2] 40 by rw [hW]; exact (Blk.all b1.out [Value.int IntKind.i64 5, Value.int IntKind.i64 0, Value.string ⟨#[]⟩, Value.slice (some ⟨w8.heap.size, 0, none⟩) 2 2, Value.slice (some ⟨w2.heap.size, 0, none⟩) 2 2] rfl))
        have b2 := Hd.mk (b2.out.fr eF (fun h => by have hlt_ := b2.out.lt; (try simp only at h); omega))
        have hJ := Hd.mk (Ty.O_fr hJ.out eF (fun k hk hl h => by have q_ := hSJ.out k hk; (try simp only [rng] at hk); (try simp only at hk); (try simp only at h); omega))
        clear hW eF
        have z12 := Hd.mk hz_; clear hz_
        exact ⟨[Value.int IntKind.i64 5, Value.int IntKind.i64 0, Value.string ⟨#[]⟩, Value.slice (some ⟨w8.heap.size, 0, none⟩) 2 2, Value.slice (some ⟨w2.heap.size, 0, none⟩) 2 2], rfl, by rw [HF.out]; exact Ty.O_mono _ (fun k hk => by have q_ := hSJ.out k hk; omega) hJ.out, hB.out⟩
    · have hk3 : (qk != 2) = true := by simpa using hk2
      go_wp2_with fail
      clear fb0_0 fb0_1 fb0_2 fb0_3 fb0_4 fb0_5 fb0_6 fb0_z fb1_0 fb1_1 fb1_2 fb1_3 fb1_4 fb1_z fb2_0 fb2_1 fb2_2 fb2_3 fb2_4 fb2_z
      apply wp_gen; intro W10 hW
      have hz_ : W9.heap.size ≤ W10.heap.size := by rw [hW]; simp
      have eF : Fr W9 W10 (fun k => k = w2.heap.size + 1 ∨ W9.heap.size ≤ k) := by rw [hW]; (repeat (first | with_reducible refine Fr.setCell ?_ _ (fun _ => by simp <;> omega) _ | with_reducible refine Fr.alloc ?_ _ | with_reducible refine Fr.drew ?_)); exact Fr.refl _ _
      have z1_ := z1.out; have z2_ := z2.out; have z3_ := z3.out; have z4_ := z4.out; have z5_ := z5.out; have z6_ := z6.out; have z7_ := z7.out; have z8_ := z8.out; have z9_ := z9.out
      have hB := Hd.mk (((Fr.of_below hB.out (fun k => k = w2.heap.size + 1 ∨ W9.heap.size ≤ k)).then_ eF (fun k hk _ => hk)).below (fun k hk => by have := hB.out.size; omega))
      have b0 := Hd.mk (b0.out.fr eF (fun h => by have hlt_ := b0.out.lt; (try simp only at h); omega))
      have b1 := Hd.mk (b1.out.fr eF (fun h => by have hlt_ := b1.out.lt; (try simp only at h); omega))
      have b2 := Hd.mk (show Blk W10 (w2.heap.size + 1) #[Value.int IntKind.i64 5, Value.int IntKind.i64 0, Value.string ⟨#[]⟩, Value.slice (some ⟨w8.heap.size, 0, none⟩) 2 2, Value.slice (some ⟨w2.heap.size, 0, none⟩) 2 2] 40 by rw [hW]; exact (b2.out.set 3 (Value.slice (some ⟨w8.heap.size, 0, none⟩) 2 2)))
      have hN := Hd.mk (R_fr hN.out eF (fun k hk hl h => by skip; (try simp only [rng] at hk); (try simp only at hk); (try simp only at h); omega))
      have hL := Hd.mk (R_fr hL.out eF (fun k hk hl h => by skip; (try simp only [rng] at hk); (try simp only at hk); (try simp only at h); omega))
      clear hW eF
      have z10 := Hd.mk hz_; clear hz_
      have fb0_0 : W10.cell? ⟨w.heap.size, 0, none⟩ = some (Value.int IntKind.i64 qk) := b0.out.cell 0 rfl
      have fb0_1 : W10.cell? ⟨w.heap.size, 1, none⟩ = some (Value.slice A1 x.way.length c1) := b0.out.cell 1 rfl
      have fb0_2 : W10.cell? ⟨w.heap.size, 2, none⟩ = some (Value.int IntKind.i64 x.value.kind) := b0.out.cell 2 rfl
      have fb0_3 : W10.cell? ⟨w.heap.size, 3, none⟩ = some (Value.int IntKind.i64 x.value.n) := b0.out.cell 3 rfl
      have fb0_4 : W10.cell? ⟨w.heap.size, 4, none⟩ = some (Value.string x.value.s) := b0.out.cell 4 rfl
      have fb0_5 : W10.cell? ⟨w.heap.size, 5, none⟩ = some (Value.slice A3 x.value.list.length c3) := b0.out.cell 5 rfl
      have fb0_6 : W10.cell? ⟨w.heap.size, 6, none⟩ = some (Value.slice A4 x.value.names.length c4) := b0.out.cell 6 rfl
      have fb0_z := b0.out.frozen
      have fb1_0 : W10.cell? ⟨w.heap.size + 1, 0, none⟩ = some (Value.int IntKind.i64 0) := b1.out.cell 0 rfl
      have fb1_1 : W10.cell? ⟨w.heap.size + 1, 1, none⟩ = some (Value.int IntKind.i64 0) := b1.out.cell 1 rfl
      have fb1_2 : W10.cell? ⟨w.heap.size + 1, 2, none⟩ = some (Value.string ⟨#[]⟩) := b1.out.cell 2 rfl
      have fb1_3 : W10.cell? ⟨w.heap.size + 1, 3, none⟩ = some (Value.slice none 0 0) := b1.out.cell 3 rfl
      have fb1_4 : W10.cell? ⟨w.heap.size + 1, 4, none⟩ = some (Value.slice none 0 0) := b1.out.cell 4 rfl
      have fb1_z := b1.out.frozen
      have fb2_0 : W10.cell? ⟨w2.heap.size + 1, 0, none⟩ = some (Value.int IntKind.i64 5) := b2.out.cell 0 rfl
      have fb2_1 : W10.cell? ⟨w2.heap.size + 1, 1, none⟩ = some (Value.int IntKind.i64 0) := b2.out.cell 1 rfl
      have fb2_2 : W10.cell? ⟨w2.heap.size + 1, 2, none⟩ = some (Value.string ⟨#[]⟩) := b2.out.cell 2 rfl
      have fb2_3 : W10.cell? ⟨w2.heap.size + 1, 3, none⟩ = some (Value.slice (some ⟨w8.heap.size, 0, none⟩) 2 2) := b2.out.cell 3 rfl
      have fb2_4 : W10.cell? ⟨w2.heap.size + 1, 4, none⟩ = some (Value.slice (some ⟨w2.heap.size, 0, none⟩) 2 2) := b2.out.cell 4 rfl
      have fb2_z := b2.out.frozen
      have rfb0_0 := cell_regrown fb0_0
      have rfb0_1 := cell_regrown fb0_1
      have rfb0_2 := cell_regrown fb0_2
      have rfb0_3 := cell_regrown fb0_3
      have rfb0_4 := cell_regrown fb0_4
      have rfb0_5 := cell_regrown fb0_5
      have rfb0_6 := cell_regrown fb0_6
      have rfb1_0 := cell_regrown fb1_0
      have rfb1_1 := cell_regrown fb1_1
      have rfb1_2 := cell_regrown fb1_2
      have rfb1_3 := cell_regrown fb1_3
      have rfb1_4 := cell_regrown fb1_4
      have rfb2_0 := cell_regrown fb2_0
      have rfb2_1 := cell_regrown fb2_1
      have rfb2_2 := cell_regrown fb2_2
      have rfb2_3 := cell_regrown fb2_3
      have rfb2_4 := cell_regrown fb2_4
      refine region_mixT (.p 0 (.q 1 (.p 4 (.q 5 (.p 6 (.q 7 (.b 2 (.b 3 (.p 11 (.b 8 (.b 9 (.b 10 .fin)))))))))))) [12, 13, 14] (by kernel_rfl) (by kernel_rfl) (fun _ _ _ _ _ h => h) ?_
      refine genT ?_
      intro W11 hW
      have hS := Hd.mk (show Below W10.heap.size W10 W11 by rw [hW]; exact below_drew (Below.refl _ _))
      have hz_ : W10.heap.size ≤ W11.heap.size := by rw [hW]; simp
      have hE : Below W10.heap.size W10 W11 := by rw [hW]; (repeat (first | with_reducible refine below_alloc ?_ _ | with_reducible refine below_drew ?_)); exact Below.refl _ _
      have hB := Hd.mk (below_then hB.out hE)
      have b0 := Hd.mk (b0.out.below hE)
      have b1 := Hd.mk (b1.out.below hE)
      have b2 := Hd.mk (b2.out.below hE)
      have hN := Hd.mk (R_below hN.out hE)
      have hL := Hd.mk (R_below hL.out hE)
      clear hW hE
      have z11 := Hd.mk hz_; clear hz_
      refine mixT_p rfl ?_
      go_big_quiet_want; go_big_quiet_op; go_big_quiet_on; refine wpQuiet_nil ?_
      refine mixT_q rfl ?_
      go_big_quiet_want; go_big_quiet_op; go_big_quiet_on; refine wpQuiet_nil ?_
      refine mixT_p rfl ?_
      go_big_quiet_want; go_big_quiet_op; go_big_quiet_on; refine wpQuiet_nil ?_
      refine mixT_q rfl ?_
      go_big_quiet_want; go_big_quiet_op; go_big_quiet_on; refine wpQuiet_nil ?_
      refine mixT_p rfl ?_
      go_big_quiet_want; go_big_quiet_op; go_big_quiet_on; refine wpQuiet_nil ?_
      refine mixT_q rfl ?_
      go_big_quiet_want; go_big_quiet_op; go_big_quiet_on; refine wpQuiet_nil ?_
      refine mixT_b rfl ?_ (by rfl)
      go_wp2_with fail
      refine ⟨cls_below (below_alloc hS.out _), ?_⟩
      refine genT ?_; intro W12 hW
      have hz_ : W11.heap.size + 1 ≤ W12.heap.size := by rw [hW]; simp
      have hE : Below W11.heap.size W11 W12 := by rw [hW]; (repeat (first | with_reducible refine below_alloc ?_ _ | with_reducible refine below_drew ?_)); exact Below.refl _ _
      have hB := Hd.mk (below_then hB.out hE)
      replace hS := Hd.mk (below_then hS.out hE)
      have b0 := Hd.mk (b0.out.below hE)
      have b1 := Hd.mk (b1.out.below hE)
      have b2 := Hd.mk (b2.out.below hE)
      have be := Hd.mk (show Blk W12 (W11.heap.size) #[Value.string nmValue] 9 by rw [hW]; first | exact (Blk.new _ _ _) | (simpa using (Blk.new _ _ _)))
      have hN := Hd.mk (R_below hN.out hE)
      have hL := Hd.mk (R_below hL.out hE)
      clear hW hE
      have z12 := Hd.mk hz_; clear hz_
      refine mixT_b rfl ?_ (by rfl)
      have xe_ := be.out.cell 0 rfl
      go_wp2_with (at_builtin; refine append_full str rfl _ _ 22 9 (.string ByteArray.empty) 16 rfl Tryd.underlying22 info_str rfl (by decide) (by decide) (S := rng w2.heap.size (w2.heap.size + 1)) (S' := fun k => (w2.heap.size ≤ k ∧ k < w2.heap.size + 1) ∨ W12.heap.size ≤ k) (xs := [nmOp, nmPath]) (ys := [nmValue]) w2.heap.size (fun _ _ => False) ⟨W11.heap.size, 0, none⟩ 1 1 [.string nmValue] rfl rfl hN.out rfl (by decide) rfl (fun j u hu => by obtain ⟨rfl, rfl⟩ := one_at hu; rw [add0]; exact be.out.cell 0 rfl) (fun u hu => by obtain rfl := List.mem_singleton.1 hu; rfl) (fun i y hy => by obtain ⟨rfl, rfl⟩ := one_at hy; exact ⟨rfl, by decide⟩) (fun i j k h => h.elim) (fun i k h => h.elim) (fun k h => .inl h) (fun i k h => h.elim) (fun k h => .inr h) (by decide) (fun v1 w1n hv hX => ?_); obtain ⟨A6, c6, hve, _, _⟩ := R_C hv; subst hve; clear xe_)
      clear hN
      clear be
      have hN := Hd.mk (R_bound hv); clear hv
      have b0 := Hd.mk (b0.out.below hX)
      have b1 := Hd.mk (b1.out.below hX)
      have b2 := Hd.mk (b2.out.below hX)
      have hL := Hd.mk (R_below hL.out hX)
      have hB := Hd.mk (below_then hB.out hX)
      replace hS := Hd.mk (below_then hS.out hX)
      have hz_ := hX.size
      clear hX
      have z13 := Hd.mk hz_; clear hz_
      refine ⟨cls_below hS.out, ?_⟩
      refine mixT_p rfl ?_
      go_big_quiet_want; go_big_quiet_op; go_big_quiet_on; refine wpQuiet_nil ?_
      refine mixT_b rfl ?_ (by rfl)
      go_wp2_with fail
      apply calls_gen; intro W13 hW
      have hz_ : w1n.heap.size ≤ W13.heap.size := by rw [hW]; simp
      have hE : Below w1n.heap.size w1n W13 := by rw [hW]; (repeat (first | with_reducible refine below_alloc ?_ _ | with_reducible refine below_drew ?_)); exact Below.refl _ _
      have hB := Hd.mk (below_then hB.out hE)
      replace hS := Hd.mk (below_then hS.out hE)
      have b0 := Hd.mk (b0.out.below hE)
      have b1 := Hd.mk (b1.out.below hE)
      have b2 := Hd.mk (b2.out.below hE)
      have hL := Hd.mk (R_below hL.out hE)
      have hN := Hd.mk (R_below hN.out hE)
      clear hW hE
      have z14 := Hd.mk hz_; clear hz_
      refine (impl_copyJson x.value _ _ (Ty.K_below _ hB.out HKJ.out) HLJ.out).mono ?_
      rintro e w14 ⟨cv, rfl, hV, hX⟩
      have b0 := Hd.mk (b0.out.below hX)
      have b1 := Hd.mk (b1.out.below hX)
      have b2 := Hd.mk (b2.out.below hX)
      have hL := Hd.mk (R_below hL.out hX)
      have hN := Hd.mk (R_below hN.out hX)
      have hB := Hd.mk (below_then hB.out hX)
      replace hS := Hd.mk (below_then hS.out hX)
      have hz_ := hX.size
      clear hX
      have z15 := Hd.mk hz_; clear hz_
      have hV2 := hV
      obtain ⟨v3, v4, _, _, rfl, _, h3_, h4_, _⟩ := tJ_O.1 hV2
      obtain ⟨A7, c7, rfl, _, _⟩ := R_C h3_
      obtain ⟨A8, c8, rfl, _, _⟩ := R_C h4_
      clear h3_ h4_ hV2
      replace hV := Hd.mk (Ty.O_bound _ hV)
      go_wp2_with fail
      refine ⟨cls_below hS.out, ?_⟩
      refine mixT_b rfl ?_ (by rfl)
      go_wp2_with fail
      refine ⟨cls_below (below_alloc hS.out _), ?_⟩
      refine genT ?_; intro W15 hW
      have hz_ : w14.heap.size + 1 ≤ W15.heap.size := by rw [hW]; simp
      have hE : Below w14.heap.size w14 W15 := by rw [hW]; (repeat (first | with_reducible refine below_alloc ?_ _ | with_reducible refine below_drew ?_)); exact Below.refl _ _
      have hB := Hd.mk (below_then hB.out hE)
      replace hS := Hd.mk (below_then hS.out hE)
      have b0 := Hd.mk (b0.out.below hE)
      have b1 := Hd.mk (b1.out.below hE)
      have b2 := Hd.mk (b2.out.below hE)
      have bf := Hd.mk (show Blk W15 (w14.heap.size) #[Value.int IntKind.i64 x.value.kind, Value.int IntKind.i64 x.value.n, Value.string x.value.s, Value.slice A7 x.value.list.length c7, Value.slice A8 x.value.names.length c8] 40 by rw [hW]; first | exact (Blk.new _ _ _) | (simpa using (Blk.new _ _ _)))
      have hL := Hd.mk (R_below hL.out hE)
      have hN := Hd.mk (R_below hN.out hE)
      have hV := Hd.mk (Ty.O_below hV.out hE)
      clear hW hE
      have z16 := Hd.mk hz_; clear hz_
      refine mixT_b rfl ?_ (by rfl)
      have z1_ := z1.out; have z2_ := z2.out; have z3_ := z3.out; have z4_ := z4.out; have z5_ := z5.out; have z6_ := z6.out; have z7_ := z7.out; have z8_ := z8.out; have z9_ := z9.out; have z10_ := z10.out; have z11_ := z11.out; have z12_ := z12.out; have z13_ := z13.out; have z14_ := z14.out; have z15_ := z15.out; have z16_ := z16.out
      go_wp2_with (at_builtin; refine append_full (tJ (m + 1)) rfl _ _ 38 40 (.agg #[.int .i64 0, .int .i64 0, .string ByteArray.empty, .slice none 0 0, .slice none 0 0]) 80 rfl Tryd.underlying38 info_JsonS rfl (show 0 < 5 by decide) (by decide) (S := rng w8.heap.size (w8.heap.size + 1)) (S' := fun k => (w8.heap.size ≤ k ∧ k < w8.heap.size + 1) ∨ (W13.heap.size ≤ k ∧ k < w14.heap.size) ∨ W15.heap.size ≤ k) (xs := [txt (kindNm x.kind), txt tw]) (ys := [x.value]) w8.heap.size (fun i k => i = 0 ∧ (W13.heap.size ≤ k ∧ k < w14.heap.size)) ⟨w14.heap.size, 0, none⟩ 1 1 [Value.int IntKind.i64 x.value.kind, Value.int IntKind.i64 x.value.n, Value.string x.value.s, Value.slice A7 x.value.list.length c7, Value.slice A8 x.value.names.length c8] rfl rfl hL.out rfl (by decide) rfl (fun j u hu => by rw [add0]; exact bf.out.cell j (by simpa using hu)) (Ty.K_one _ (Ty.O_K _ hV.out)) (fun i y hy => by obtain ⟨rfl, rfl⟩ := one_at hy; exact Ty.O_mono _ (fun k hk => ⟨rfl, hk⟩) hV.out) (fun i j k h1 h2 => by rw [h1.1, h2.1]) (fun i k h1 h2 => by have q1 := h1.2.1; have q2 := h2.2; omega) (fun k h => .inl h) (fun i k h => .inr (.inl h.2)) (fun k h => .inr (.inr h)) (show (2 + 1) * 80 ≤ 140737488355328 by decide) (fun v1 w1l hv hX => ?_); obtain ⟨A5, c5, hve, _, _⟩ := R_C hv; subst hve)
      clear hL hV
      clear bf
      have hL := Hd.mk (R_bound hv); clear hv
      have b0 := Hd.mk (b0.out.below hX)
      have b1 := Hd.mk (b1.out.below hX)
      have b2 := Hd.mk (b2.out.below hX)
      have hN := Hd.mk (R_below hN.out hX)
      have hB := Hd.mk (below_then hB.out hX)
      replace hS := Hd.mk (below_then hS.out hX)
      have hz_ := hX.size
      clear hX
      have z17 := Hd.mk hz_; clear hz_
      refine ⟨cls_below hS.out, ?_⟩
      refine mixT_fin ?_
      clear hS
      clear rfb0_0 rfb0_1 rfb0_2 rfb0_3 rfb0_4 rfb0_5 rfb0_6 rfb1_0 rfb1_1 rfb1_2 rfb1_3 rfb1_4 rfb2_0 rfb2_1 rfb2_2 rfb2_3 rfb2_4
      clear fb0_0 fb0_1 fb0_2 fb0_3 fb0_4 fb0_5 fb0_6 fb0_z fb1_0 fb1_1 fb1_2 fb1_3 fb1_4 fb1_z fb2_0 fb2_1 fb2_2 fb2_3 fb2_4 fb2_z
      have fb0_0 : w1l.cell? ⟨w.heap.size, 0, none⟩ = some (Value.int IntKind.i64 qk) := b0.out.cell 0 rfl
      have fb0_1 : w1l.cell? ⟨w.heap.size, 1, none⟩ = some (Value.slice A1 x.way.length c1) := b0.out.cell 1 rfl
      have fb0_2 : w1l.cell? ⟨w.heap.size, 2, none⟩ = some (Value.int IntKind.i64 x.value.kind) := b0.out.cell 2 rfl
      have fb0_3 : w1l.cell? ⟨w.heap.size, 3, none⟩ = some (Value.int IntKind.i64 x.value.n) := b0.out.cell 3 rfl
      have fb0_4 : w1l.cell? ⟨w.heap.size, 4, none⟩ = some (Value.string x.value.s) := b0.out.cell 4 rfl
      have fb0_5 : w1l.cell? ⟨w.heap.size, 5, none⟩ = some (Value.slice A3 x.value.list.length c3) := b0.out.cell 5 rfl
      have fb0_6 : w1l.cell? ⟨w.heap.size, 6, none⟩ = some (Value.slice A4 x.value.names.length c4) := b0.out.cell 6 rfl
      have fb0_z := b0.out.frozen
      have fb1_0 : w1l.cell? ⟨w.heap.size + 1, 0, none⟩ = some (Value.int IntKind.i64 0) := b1.out.cell 0 rfl
      have fb1_1 : w1l.cell? ⟨w.heap.size + 1, 1, none⟩ = some (Value.int IntKind.i64 0) := b1.out.cell 1 rfl
      have fb1_2 : w1l.cell? ⟨w.heap.size + 1, 2, none⟩ = some (Value.string ⟨#[]⟩) := b1.out.cell 2 rfl
      have fb1_3 : w1l.cell? ⟨w.heap.size + 1, 3, none⟩ = some (Value.slice none 0 0) := b1.out.cell 3 rfl
      have fb1_4 : w1l.cell? ⟨w.heap.size + 1, 4, none⟩ = some (Value.slice none 0 0) := b1.out.cell 4 rfl
      have fb1_z := b1.out.frozen
      have fb2_0 : w1l.cell? ⟨w2.heap.size + 1, 0, none⟩ = some (Value.int IntKind.i64 5) := b2.out.cell 0 rfl
      have fb2_1 : w1l.cell? ⟨w2.heap.size + 1, 1, none⟩ = some (Value.int IntKind.i64 0) := b2.out.cell 1 rfl
      have fb2_2 : w1l.cell? ⟨w2.heap.size + 1, 2, none⟩ = some (Value.string ⟨#[]⟩) := b2.out.cell 2 rfl
      have fb2_3 : w1l.cell? ⟨w2.heap.size + 1, 3, none⟩ = some (Value.slice (some ⟨w8.heap.size, 0, none⟩) 2 2) := b2.out.cell 3 rfl
      have fb2_4 : w1l.cell? ⟨w2.heap.size + 1, 4, none⟩ = some (Value.slice (some ⟨w2.heap.size, 0, none⟩) 2 2) := b2.out.cell 4 rfl
      have fb2_z := b2.out.frozen
      refine tail_b rfl ?_ (by rfl)
      go_wp2_with fail
      refine mixQ_n ?_
      refine tail_b rfl ?_ (by rfl)
      go_wp2_with fail
      refine mixQ_n ?_
      refine tail_b rfl ?_ (by rfl)
      go_wp2_with fail
      refine mixQ_n ?_
      refine tail_nil ?_
      go_wp2_with fail
      clear fb0_0 fb0_1 fb0_2 fb0_3 fb0_4 fb0_5 fb0_6 fb0_z fb1_0 fb1_1 fb1_2 fb1_3 fb1_4 fb1_z fb2_0 fb2_1 fb2_2 fb2_3 fb2_4 fb2_z
      apply calls_gen; intro W16 hW
      have hz_ : w1l.heap.size ≤ W16.heap.size := by rw [hW]; simp
      have eF : Fr w1l W16 (fun k => k = w2.heap.size + 1 ∨ w1l.heap.size ≤ k) := by rw [hW]; (repeat (first | with_reducible refine Fr.setCell ?_ _ (fun _ => by simp <;> omega) _ | with_reducible refine Fr.alloc ?_ _ | with_reducible refine Fr.drew ?_)); exact Fr.refl _ _
      have z1_ := z1.out; have z2_ := z2.out; have z3_ := z3.out; have z4_ := z4.out; have z5_ := z5.out; have z6_ := z6.out; have z7_ := z7.out; have z8_ := z8.out; have z9_ := z9.out; have z10_ := z10.out; have z11_ := z11.out; have z12_ := z12.out; have z13_ := z13.out; have z14_ := z14.out; have z15_ := z15.out; have z16_ := z16.out; have z17_ := z17.out
      have hB := Hd.mk (((Fr.of_below hB.out (fun k => k = w2.heap.size + 1 ∨ w1l.heap.size ≤ k)).then_ eF (fun k hk _ => hk)).below (fun k hk => by have := hB.out.size; omega))
      have b0 := Hd.mk (b0.out.fr eF (fun h => by have hlt_ := b0.out.lt; (try simp only at h); omega))
      have b1 := Hd.mk (b1.out.fr eF (fun h => by have hlt_ := b1.out.lt; (try simp only at h); omega))
      have b2 := Hd.mk (show Blk W16 (w2.heap.size + 1) #[Value.int IntKind.i64 5, Value.int IntKind.i64 0, Value.string ⟨#[]⟩, Value.slice A5 3 c5, Value.slice A6 3 c6] 40 by rw [hW]; exact ((b2.out.set 4 (Value.slice A6 3 c6)).set 3 (Value.slice A5 3 c5)))
      have hN := Hd.mk (R_fr hN.out eF (fun k hk hl h => by have q_ := hk.1; have q2_ := hk.2; (try simp only [rng] at hk); (try simp only at hk); (try simp only at h); omega))
      have hL := Hd.mk (R_fr hL.out eF (fun k hk hl h => by have q_ := hk.1; have q2_ := hk.2; (try simp only [rng] at hk); (try simp only at hk); (try simp only at h); omega))
      clear hW eF
      have z18 := Hd.mk hz_; clear hz_
      have HJR := Hd.mk (show opRaw x = ⟨5, 0, ⟨#[]⟩, [txt (kindNm x.kind), txt tw, x.value], [nmOp, nmPath, nmValue]⟩ by unfold opRaw; rw [if_neg (by rw [← HQK.out]; exact hk2), HTW.out])
      have hBs := hB.out.size
      have z1_ := z1.out; have z2_ := z2.out; have z3_ := z3.out; have z4_ := z4.out; have z5_ := z5.out; have z6_ := z6.out; have z7_ := z7.out; have z8_ := z8.out; have z9_ := z9.out; have z10_ := z10.out; have z11_ := z11.out; have z12_ := z12.out; have z13_ := z13.out; have z14_ := z14.out; have z15_ := z15.out; have z16_ := z16.out; have z17_ := z17.out; have z18_ := z18.out
      obtain ⟨SJ, hSJ, hJ⟩ : ∃ SJ : Nat → Prop, Hd (∀ k, SJ k → w.heap.size + 2 ≤ k ∧ k ≠ w.heap.size + 1) ∧ Hd ((tJ (m + 2)).O W16 SJ ⟨5, 0, ⟨#[]⟩, [txt (kindNm x.kind), txt tw, x.value], [nmOp, nmPath, nmValue]⟩ [Value.int IntKind.i64 5, Value.int IntKind.i64 0, Value.string ⟨#[]⟩, Value.slice A5 3 c5, Value.slice A6 3 c6]) :=
        ⟨_, ⟨fun k h => by
          rcases h with h | h
          · have q1 := h.1; have q2 := h.2
            refine ⟨by omega, by omega⟩
          · have q1 := h.1; have q2 := h.2
            refine ⟨by omega, by omega⟩⟩, ⟨raw1_O hL.out hN.out (fun k h1 h2 => by
          have q1 := h1.1; have q2 := h1.2; have q3 := h2.1; have q4 := h2.2
          omega)⟩⟩
      clear hL hN
      refine (impl_orNull ⟨5, 0, ⟨#[]⟩, [txt (kindNm x.kind), txt tw, x.value], [nmOp, nmPath, nmValue]⟩ [Value.int IntKind.i64 5, Value.int IntKind.i64 0, Value.string ⟨#[]⟩, Value.slice A5 3 c5, Value.slice A6 3 c6] _ (Ty.O_K _ hJ.out)).mono ?_
      rintro e w17 ⟨rfl, hX⟩
      have b0 := Hd.mk (b0.out.below hX)
      have b1 := Hd.mk (b1.out.below hX)
      have b2 := Hd.mk (b2.out.below hX)
      have hJ := Hd.mk (Ty.O_below hJ.out hX)
      have hB := Hd.mk (below_then hB.out hX)
      have hz_ := hX.size
      clear hX
      have z19 := Hd.mk hz_; clear hz_
      cases hb2 : jsonOk (⟨5, 0, ⟨#[]⟩, [txt (kindNm x.kind), txt tw, x.value], [nmOp, nmPath, nmValue]⟩ : J)
      · have HF := Hd.mk (show opJ x = J.null by unfold opJ; rw [HOK.out, HJR.out, hb2]; simp)
        simp only [pick, nullA, if_true, if_false, Bool.false_eq_true]
        have fb0_0 : w17.cell? ⟨w.heap.size, 0, none⟩ = some (Value.int IntKind.i64 qk) := b0.out.cell 0 rfl
        have fb0_1 : w17.cell? ⟨w.heap.size, 1, none⟩ = some (Value.slice A1 x.way.length c1) := b0.out.cell 1 rfl
        have fb0_2 : w17.cell? ⟨w.heap.size, 2, none⟩ = some (Value.int IntKind.i64 x.value.kind) := b0.out.cell 2 rfl
        have fb0_3 : w17.cell? ⟨w.heap.size, 3, none⟩ = some (Value.int IntKind.i64 x.value.n) := b0.out.cell 3 rfl
        have fb0_4 : w17.cell? ⟨w.heap.size, 4, none⟩ = some (Value.string x.value.s) := b0.out.cell 4 rfl
        have fb0_5 : w17.cell? ⟨w.heap.size, 5, none⟩ = some (Value.slice A3 x.value.list.length c3) := b0.out.cell 5 rfl
        have fb0_6 : w17.cell? ⟨w.heap.size, 6, none⟩ = some (Value.slice A4 x.value.names.length c4) := b0.out.cell 6 rfl
        have fb0_z := b0.out.frozen
        have fb1_0 : w17.cell? ⟨w.heap.size + 1, 0, none⟩ = some (Value.int IntKind.i64 0) := b1.out.cell 0 rfl
        have fb1_1 : w17.cell? ⟨w.heap.size + 1, 1, none⟩ = some (Value.int IntKind.i64 0) := b1.out.cell 1 rfl
        have fb1_2 : w17.cell? ⟨w.heap.size + 1, 2, none⟩ = some (Value.string ⟨#[]⟩) := b1.out.cell 2 rfl
        have fb1_3 : w17.cell? ⟨w.heap.size + 1, 3, none⟩ = some (Value.slice none 0 0) := b1.out.cell 3 rfl
        have fb1_4 : w17.cell? ⟨w.heap.size + 1, 4, none⟩ = some (Value.slice none 0 0) := b1.out.cell 4 rfl
        have fb1_z := b1.out.frozen
        have fb2_0 : w17.cell? ⟨w2.heap.size + 1, 0, none⟩ = some (Value.int IntKind.i64 5) := b2.out.cell 0 rfl
        have fb2_1 : w17.cell? ⟨w2.heap.size + 1, 1, none⟩ = some (Value.int IntKind.i64 0) := b2.out.cell 1 rfl
        have fb2_2 : w17.cell? ⟨w2.heap.size + 1, 2, none⟩ = some (Value.string ⟨#[]⟩) := b2.out.cell 2 rfl
        have fb2_3 : w17.cell? ⟨w2.heap.size + 1, 3, none⟩ = some (Value.slice A5 3 c5) := b2.out.cell 3 rfl
        have fb2_4 : w17.cell? ⟨w2.heap.size + 1, 4, none⟩ = some (Value.slice A6 3 c6) := b2.out.cell 4 rfl
        have fb2_z := b2.out.frozen
        go_wp2_with fail
        refine bodyPost_retW (v := .agg #[Value.int IntKind.i64 0, Value.int IntKind.i64 0, Value.string ⟨#[]⟩, Value.slice none 0 0, Value.slice none 0 0]) (by simp [results, Tryd.results33, go_sem, fb0_0, fb0_1, fb0_2, fb0_3, fb0_4, fb0_5, fb0_6, fb0_z, fb1_0, fb1_1, fb1_2, fb1_3, fb1_4, fb1_z, fb2_0, fb2_1, fb2_2, fb2_3, fb2_4, fb2_z]) rfl ?_
        intro W hW
        clear fb0_0 fb0_1 fb0_2 fb0_3 fb0_4 fb0_5 fb0_6 fb0_z fb1_0 fb1_1 fb1_2 fb1_3 fb1_4 fb1_z fb2_0 fb2_1 fb2_2 fb2_3 fb2_4 fb2_z
        have hz_ : w17.heap.size ≤ W.heap.size := by rw [hW]; simp
        have eF : Fr w17 W (fun k => k = w.heap.size + 1 ∨ w17.heap.size ≤ k) := by rw [hW]; (repeat (first | with_reducible refine Fr.setCell ?_ _ (fun _ => by simp <;> omega) _ | with_reducible refine Fr.alloc ?_ _ | with_reducible refine Fr.drew ?_)); exact Fr.refl _ _
        have z1_ := z1.out; have z2_ := z2.out; have z3_ := z3.out; have z4_ := z4.out; have z5_ := z5.out; have z6_ := z6.out; have z7_ := z7.out; have z8_ := z8.out; have z9_ := z9.out; have z10_ := z10.out; have z11_ := z11.out; have z12_ := z12.out; have z13_ := z13.out; have z14_ := z14.out; have z15_ := z15.out; have z16_ := z16.out; have z17_ := z17.out; have z18_ := z18.out; have z19_ := z19.out
        have hB := Hd.mk (((Fr.of_below hB.out (fun k => k = w.heap.size + 1 ∨ w17.heap.size ≤ k)).then_ eF (fun k hk _ => hk)).below (fun k hk => by have := hB.out.size; omega))
        have b0 := Hd.mk (b0.out.fr eF (fun h => by have hlt_ := b0.out.lt; (try simp only at h); omega))
        have b1 := Hd.mk (show Blk W (w.heap.size + 1) #[Value.int IntKind.i64 0, Value.int IntKind.i64 0, Value.string ⟨#[]⟩, Value.slice none 0 0, Value.slice none 0 0] 40 by rw [hW]; exact (Blk.all b1.out [Value.int IntKind.i64 0, Value.int IntKind.i64 0, Value.string ⟨#[]⟩, Value.slice none 0 0, Value.slice none 0 0] rfl))
        have b2 := Hd.mk (b2.out.fr eF (fun h => by have hlt_ := b2.out.lt; (try simp only at h); omega))
        have hJ := Hd.mk (Ty.O_fr hJ.out eF (fun k hk hl h => by have q_ := hSJ.out k hk; (try simp only [rng] at hk); (try simp only at hk); (try simp only at h); omega))
        clear hW eF
        have z20 := Hd.mk hz_; clear hz_
        exact ⟨[Value.int IntKind.i64 0, Value.int IntKind.i64 0, Value.string ⟨#[]⟩, Value.slice none 0 0, Value.slice none 0 0], rfl, by rw [HF.out]; exact ZJ (m + 1) _ _, hB.out⟩
      · have HF := Hd.mk (show opJ x = (⟨5, 0, ⟨#[]⟩, [txt (kindNm x.kind), txt tw, x.value], [nmOp, nmPath, nmValue]⟩ : J) by unfold opJ; rw [HOK.out, HJR.out, hb2]; simp)
        simp only [pick, nullA, if_true, if_false, Bool.false_eq_true]
        have fb0_0 : w17.cell? ⟨w.heap.size, 0, none⟩ = some (Value.int IntKind.i64 qk) := b0.out.cell 0 rfl
        have fb0_1 : w17.cell? ⟨w.heap.size, 1, none⟩ = some (Value.slice A1 x.way.length c1) := b0.out.cell 1 rfl
        have fb0_2 : w17.cell? ⟨w.heap.size, 2, none⟩ = some (Value.int IntKind.i64 x.value.kind) := b0.out.cell 2 rfl
        have fb0_3 : w17.cell? ⟨w.heap.size, 3, none⟩ = some (Value.int IntKind.i64 x.value.n) := b0.out.cell 3 rfl
        have fb0_4 : w17.cell? ⟨w.heap.size, 4, none⟩ = some (Value.string x.value.s) := b0.out.cell 4 rfl
        have fb0_5 : w17.cell? ⟨w.heap.size, 5, none⟩ = some (Value.slice A3 x.value.list.length c3) := b0.out.cell 5 rfl
        have fb0_6 : w17.cell? ⟨w.heap.size, 6, none⟩ = some (Value.slice A4 x.value.names.length c4) := b0.out.cell 6 rfl
        have fb0_z := b0.out.frozen
        have fb1_0 : w17.cell? ⟨w.heap.size + 1, 0, none⟩ = some (Value.int IntKind.i64 0) := b1.out.cell 0 rfl
        have fb1_1 : w17.cell? ⟨w.heap.size + 1, 1, none⟩ = some (Value.int IntKind.i64 0) := b1.out.cell 1 rfl
        have fb1_2 : w17.cell? ⟨w.heap.size + 1, 2, none⟩ = some (Value.string ⟨#[]⟩) := b1.out.cell 2 rfl
        have fb1_3 : w17.cell? ⟨w.heap.size + 1, 3, none⟩ = some (Value.slice none 0 0) := b1.out.cell 3 rfl
        have fb1_4 : w17.cell? ⟨w.heap.size + 1, 4, none⟩ = some (Value.slice none 0 0) := b1.out.cell 4 rfl
        have fb1_z := b1.out.frozen
        have fb2_0 : w17.cell? ⟨w2.heap.size + 1, 0, none⟩ = some (Value.int IntKind.i64 5) := b2.out.cell 0 rfl
        have fb2_1 : w17.cell? ⟨w2.heap.size + 1, 1, none⟩ = some (Value.int IntKind.i64 0) := b2.out.cell 1 rfl
        have fb2_2 : w17.cell? ⟨w2.heap.size + 1, 2, none⟩ = some (Value.string ⟨#[]⟩) := b2.out.cell 2 rfl
        have fb2_3 : w17.cell? ⟨w2.heap.size + 1, 3, none⟩ = some (Value.slice A5 3 c5) := b2.out.cell 3 rfl
        have fb2_4 : w17.cell? ⟨w2.heap.size + 1, 4, none⟩ = some (Value.slice A6 3 c6) := b2.out.cell 4 rfl
        have fb2_z := b2.out.frozen
        go_wp2_with fail
        refine bodyPost_retW (v := .agg #[Value.int IntKind.i64 5, Value.int IntKind.i64 0, Value.string ⟨#[]⟩, Value.slice A5 3 c5, Value.slice A6 3 c6]) (by simp [results, Tryd.results33, go_sem, fb0_0, fb0_1, fb0_2, fb0_3, fb0_4, fb0_5, fb0_6, fb0_z, fb1_0, fb1_1, fb1_2, fb1_3, fb1_4, fb1_z, fb2_0, fb2_1, fb2_2, fb2_3, fb2_4, fb2_z]) rfl ?_
        intro W hW
        clear fb0_0 fb0_1 fb0_2 fb0_3 fb0_4 fb0_5 fb0_6 fb0_z fb1_0 fb1_1 fb1_2 fb1_3 fb1_4 fb1_z fb2_0 fb2_1 fb2_2 fb2_3 fb2_4 fb2_z
        have hz_ : w17.heap.size ≤ W.heap.size := by rw [hW]; simp
        have eF : Fr w17 W (fun k => k = w.heap.size + 1 ∨ w17.heap.size ≤ k) := by rw [hW]; (repeat (first | with_reducible refine Fr.setCell ?_ _ (fun _ => by simp <;> omega) _ | with_reducible refine Fr.alloc ?_ _ | with_reducible refine Fr.drew ?_)); exact Fr.refl _ _
        have z1_ := z1.out; have z2_ := z2.out; have z3_ := z3.out; have z4_ := z4.out; have z5_ := z5.out; have z6_ := z6.out; have z7_ := z7.out; have z8_ := z8.out; have z9_ := z9.out; have z10_ := z10.out; have z11_ := z11.out; have z12_ := z12.out; have z13_ := z13.out; have z14_ := z14.out; have z15_ := z15.out; have z16_ := z16.out; have z17_ := z17.out; have z18_ := z18.out; have z19_ := z19.out
        have hB := Hd.mk (((Fr.of_below hB.out (fun k => k = w.heap.size + 1 ∨ w17.heap.size ≤ k)).then_ eF (fun k hk _ => hk)).below (fun k hk => by have := hB.out.size; omega))
        have b0 := Hd.mk (b0.out.fr eF (fun h => by have hlt_ := b0.out.lt; (try simp only at h); omega))
        have b1 := Hd.mk (show Blk W (w.heap.size + 1) #[Value.int IntKind.i64 5, Value.int IntKind.i64 0, Value.string ⟨#[]⟩, Value.slice A5 3 c5, Value.slice A6 3 c6] 40 by rw [hW]; exact (Blk.all b1.out [Value.int IntKind.i64 5, Value.int IntKind.i64 0, Value.string ⟨#[]⟩, Value.slice A5 3 c5, Value.slice A6 3 c6] rfl))
        have b2 := Hd.mk (b2.out.fr eF (fun h => by have hlt_ := b2.out.lt; (try simp only at h); omega))
        have hJ := Hd.mk (Ty.O_fr hJ.out eF (fun k hk hl h => by have q_ := hSJ.out k hk; (try simp only [rng] at hk); (try simp only at hk); (try simp only at h); omega))
        clear hW eF
        have z20 := Hd.mk hz_; clear hz_
        exact ⟨[Value.int IntKind.i64 5, Value.int IntKind.i64 0, Value.string ⟨#[]⟩, Value.slice A5 3 c5, Value.slice A6 3 c6], rfl, by rw [HF.out]; exact Ty.O_mono _ (fun k hk => by have q_ := hSJ.out k hk; omega) hJ.out, hB.out⟩
end Go.Proofs.YtkgefjjgjjmklaaDoor.X
