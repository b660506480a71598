/- What is proved here: contracts of copies of stores. Conditions: none. -/
import Derived.Test.YtnpogfhfjofbmaaXW
import Derived.Test.YtnpogfhfjofbmaaXY
namespace Go.Proofs.Ytnpogfhfjofbmaa.X
open Go.RowKit Go.Sort
set_option linter.unusedVariables false
set_option linter.unusedSimpArgs false
open Ty
set_option maxRecDepth 100000 in
theorem spec_l6Rows (A : Option Addr) (c : Nat) (l : List Row) (w : World) (hr : tRow.C w A l) (hl : bulkRowS l ≤ 4194304) :
    Calls Try.prog 155 #[.slice A l.length c] w fun e w' => ∃ v, e = .returned v ∧ tRow.R 41 w' (fun k => w.heap.size ≤ k) v (l) ∧ Below w.heap.size w w' := by
  have hm := hr.1
  have hL : l.length ≤ 4194304 := by simp only [bulkRowS] at hl; omega
  have HL := Hd.mk hl; clear hl
  have HC := Hd.mk hr; clear hr
  have HR := Hd.mk (R_empty tRow 41 w)
  go_enter Try.func155, Try.ntmps155
  go_wp2_with fail
  go_loopw [3, 4] (fun o i wr => ∃ k : Nat, ∃ vv : Value, k ≤ l.length ∧ i = .int .i64 k ∧ vv = o ∧ Hd (tRow.R 41 wr (fun k => w.heap.size ≤ k) vv (l.take k)) ∧ Hd (Below w.heap.size w wr)) (fun _ i _ => l.length - (intOf i).toNat)
  case atStart => exact ⟨0, _, Nat.zero_le _, rfl, rfl, ⟨HR.out⟩, ⟨below_alloc (Below.refl _ _) _⟩⟩
  case round =>
    obtain ⟨k, vv, hk, rfl, rfl, HK, HB⟩ := hrel
    by_cases hlt : k < l.length
    · obtain ⟨ad, A1, c1, rfl, x0, x1, hc1, hr1⟩ := C_row_at HC.out HB.out k hlt
      have hb := Nat.le_trans (bulkL_mem bulkRow (List.getElem_mem hlt)) (Nat.le_trans (Nat.le_add_left _ _) HL.out)
      have HK1 := Hd.mk hr1; clear hr1
      go_wp2_with fail
      apply calls_gen; intro W hW
      have hE : Below wr.heap.size wr W := by rw [hW]; (repeat (first | with_reducible refine below_alloc ?_ _ | with_reducible refine below_drew ?_)); exact Below.refl _ _
      clear hW
      refine (spec_l6Copy l[k] _ W (tRow_K.2 ⟨A1, c1, rfl, hc1, C_below HK1.out hE⟩) hb).mono ?_
      rintro e w1 ⟨cs', rfl, hO, hX⟩
      obtain ⟨v1, rfl, hv1⟩ := tRow_O.1 hO
      obtain ⟨D1, d1, rfl, _, _⟩ := R_C hv1
      have HO := Hd.mk hO; clear hO hv1
      have HS := Hd.mk hE.size
      have hE1 := below_then hE hX
      have HR1 := Hd.mk (R_below (R_bound HK.out) hE1)
      have HB1 := Hd.mk (below_then HB.out hE1)
      clear hE hX hE1
      go_wp2_with (at_builtin; refine append_one tRow rfl _ _ 68 41 (.agg #[.int .i64 0, .slice none 0 0]) 32 rfl Try.underlying68 info_RowS rfl (by decide) (by decide) (S := fun k => w.heap.size ≤ k ∧ k < wr.heap.size) (T := fun k => W.heap.size ≤ k) (S' := fun k => w.heap.size ≤ k) (v := vv) (xs := l.take k) l[k] [Value.int IntKind.i64 l[k].id, Value.slice D1 l[k].cells.length d1] rfl rfl HR1.out HO.out (fun k h1 hl h2 => by have := HS.out; have := h2.2; omega) (fun k h => h.1) (fun k h => by have := HS.out; have := HB.out.size; omega) (fun k h => by have := HB1.out.size; omega) (by simp; omega) (fun v2 w2 hv2 hf2 => ?_))
      have HV := Hd.mk hv2
      have HB2 := Hd.mk (((Fr.of_below HB1.out (fun k => w.heap.size ≤ k)).then_ (hf2.mono (S' := fun k => w.heap.size ≤ k) (fun k _ h => h.1)) (fun k h _ => h)).below (fun k h => h))
      clear hv2 hf2
      go_wp2_with fail
      go_roundw
      case rel => exact ⟨k + 1, _, by omega, by go_num, rfl, ⟨by rw [List.take_succ_eq_append_getElem hlt]; exact HV.out⟩, HB2⟩
      case measure => simp [intOf]; omega
    · obtain rfl : k = l.length := by omega
      go_wp2_with fail
      go_ret
      have := HK.out
      rw [List.take_length] at this
      exact ⟨_, rfl, this, HB.out⟩
set_option maxHeartbeats 4000000 in
set_option maxRecDepth 100000 in
theorem impl_copyStore (x : Store) (cs : List Value) (w : World) (hk : tStore.K w x cs) (hl : bulkStore x ≤ 4194304) :
    Calls Try.prog 86 #[.agg cs.toArray] w fun e w' => ∃ cs', e = .returned (.agg cs'.toArray) ∧ tStore.O w' (fun k => w.heap.size ≤ k) x cs' ∧ Below w.heap.size w w' := by
  obtain ⟨A2, c2, A1, c1, rfl, ⟨hc2, hr2⟩, hc1, hr1⟩ := tStore_K.1 hk
  have hm1 := hr1.1
  have HR1 := Hd.mk hr1; clear hr1
  have HR2 := Hd.mk hr2; clear hr2 hk
  replace hl : x.cols.length + bulkRowSS x.tabs ≤ 4194304 := hl
  have hlN : x.cols.length ≤ 4194304 := by omega
  have hlL : x.tabs.length ≤ 4194304 := by simp only [bulkRowSS] at hl; omega
  have HLL := Hd.mk (show bulkRowSS x.tabs ≤ 4194304 by omega); clear hl
  have hB := Hd.mk (Below.refl w.heap.size w)
  go_enter Try.func86, Try.ntmps86
  go_wp2_with fail
  apply wp_gen; intro W1 hW
  have hz_ : w.heap.size + 2 ≤ W1.heap.size := by rw [hW]; simp
  have hE : Below w.heap.size w W1 := by rw [hW]; (repeat (first | with_reducible refine below_alloc ?_ _ | with_reducible refine below_drew ?_)); exact Below.refl _ _
  have hB := Hd.mk (below_then hB.out hE)
  have b0 := Hd.mk (show Blk W1 (w.heap.size) #[Value.slice A2 x.cols.length c2, Value.int IntKind.i64 x.ver, Value.slice A1 x.tabs.length c1] 37 by rw [hW]; first | exact ((Blk.new _ _ _).alloc _) | (simpa using ((Blk.new _ _ _).alloc _)))
  have b1 := Hd.mk (show Blk W1 (w.heap.size + 1) #[Value.slice none 0 0, Value.int IntKind.i64 0, Value.slice none 0 0] 37 by rw [hW]; first | exact (Blk.new1 _ _ _ _) | (simpa using (Blk.new1 _ _ _ _)))
  clear hW hE
  have z1 := Hd.mk hz_; clear hz_
  obtain ⟨RR, hRR⟩ : ∃ RR : Act → World → Prop, RR = (fun a w' => ∃ (p : Nat) (SN : Nat → Prop) (D : Option Addr) (d : Nat) (u6 u7 u8 u9 u10 u11 u12 u13 : Value), a = ⟨#[.agg #[Value.slice A2 x.cols.length c2, Value.int IntKind.i64 x.ver, Value.slice A1 x.tabs.length c1], .pointer (some ⟨w.heap.size, 0, none⟩), .pointer (some ⟨w.heap.size + 1, 0, none⟩), .pointer (some ⟨p, 0, none⟩), undef, undef, u6, u7, u8, u9, u10, u11, u12, u13, undef, undef, undef, undef, undef, undef, undef, undef, undef, undef, undef, undef, undef, undef, undef, undef], []⟩ ∧ Hd (Blk w' p #[.slice D x.cols.length d, .int .i64 x.ver, .slice none 0 0] 37) ∧ Hd (Blk w' w.heap.size #[Value.slice A2 x.cols.length c2, Value.int IntKind.i64 x.ver, Value.slice A1 x.tabs.length c1] 37) ∧ Hd (Blk w' (w.heap.size + 1) #[Value.slice none 0 0, Value.int IntKind.i64 0, Value.slice none 0 0] 37) ∧ Hd (w.heap.size + 2 ≤ p) ∧ Hd (∀ k, SN k → w.heap.size + 2 ≤ k ∧ k < w'.heap.size ∧ k ≠ p) ∧ Hd (int.R 3 w' SN (.slice D x.cols.length d) x.cols) ∧ Hd (Below w.heap.size w w')) := ⟨_, rfl⟩
  have HRR := Hd.mk hRR; clear hRR
  refine region_to RR ?_ ?_
  case refine_1 =>
    have fb0_0 : W1.cell? ⟨w.heap.size, 0, none⟩ = some (Value.slice A2 x.cols.length c2) := b0.out.cell 0 rfl
    have fb0_1 : W1.cell? ⟨w.heap.size, 1, none⟩ = some (Value.int IntKind.i64 x.ver) := b0.out.cell 1 rfl
    have fb0_2 : W1.cell? ⟨w.heap.size, 2, none⟩ = some (Value.slice A1 x.tabs.length c1) := b0.out.cell 2 rfl
    have fb0_z := b0.out.frozen
    have fb1_0 : W1.cell? ⟨w.heap.size + 1, 0, none⟩ = some (Value.slice none 0 0) := b1.out.cell 0 rfl
    have fb1_1 : W1.cell? ⟨w.heap.size + 1, 1, none⟩ = some (Value.int IntKind.i64 0) := b1.out.cell 1 rfl
    have fb1_2 : W1.cell? ⟨w.heap.size + 1, 2, none⟩ = some (Value.slice none 0 0) := b1.out.cell 2 rfl
    have fb1_z := b1.out.frozen
    have rfb0_0 := cell_regrown fb0_0
    have rfb0_1 := cell_regrown fb0_1
    have rfb0_2 := cell_regrown fb0_2
    have rfb1_0 := cell_regrown fb1_0
    have rfb1_1 := cell_regrown fb1_1
    have rfb1_2 := cell_regrown fb1_2
    refine region_mixT (.q 0 (.q 1 (.q 2 (.q 5 (.q 6 (.br 3 8 (.q 4 (.q 7 (.b 8 .fin))) (.b 3 (.q 4 (.q 7 .fin))))))))) [9] (by kernel_rfl) (by kernel_rfl) (fun _ _ _ _ _ h => h) ?_
    refine genT ?_
    intro W2 hW
    have hS := Hd.mk (show Below W1.heap.size W1 W2 by rw [hW]; exact below_drew (Below.refl _ _))
    have hz_ : W1.heap.size ≤ W2.heap.size := by rw [hW]; simp
    have hE : Below W1.heap.size W1 W2 := by rw [hW]; (repeat (first | with_reducible refine below_alloc ?_ _ | with_reducible refine below_drew ?_)); exact Below.refl _ _
    have hB := Hd.mk (below_then hB.out hE)
    have b0 := Hd.mk (b0.out.below hE)
    have b1 := Hd.mk (b1.out.below hE)
    clear hW hE
    have z2 := Hd.mk hz_; clear hz_
    refine mixT_q rfl ?_
    go_big_quiet_want; go_big_quiet_op; go_big_quiet_on; refine wpQuiet_nil ?_
    refine mixT_q rfl ?_
    go_big_quiet_want; go_big_quiet_op; go_big_quiet_on; refine wpQuiet_nil ?_
    refine mixT_q rfl ?_
    go_big_quiet_want; go_big_quiet_op; go_big_quiet_on; refine wpQuiet_nil ?_
    refine mixT_q rfl ?_
    go_big_quiet_want; go_big_quiet_op; go_big_quiet_on; refine wpQuiet_nil ?_
    refine mixT_q rfl ?_
    go_big_quiet_want; go_big_quiet_op; go_big_quiet_on; refine wpQuiet_nil ?_
    refine ⟨?_, ?_⟩
    · refine stepM_of rfl ?_ (by rfl)
      go_wp2_with fail
      apply calls_gen; intro W3 hW
      have hz_ : W2.heap.size ≤ W3.heap.size := by rw [hW]; simp
      have hE : Below W2.heap.size W2 W3 := by rw [hW]; (repeat (first | with_reducible refine below_alloc ?_ _ | with_reducible refine below_drew ?_)); exact Below.refl _ _
      have hB := Hd.mk (below_then hB.out hE)
      replace hS := Hd.mk (below_then hS.out hE)
      have b0 := Hd.mk (b0.out.below hE)
      have b1 := Hd.mk (b1.out.below hE)
      clear hW hE
      have z3 := Hd.mk hz_; clear hz_
      refine (impl_copyInts _ _ x.cols _ (C_below HR2.out hB.out) hlN).mono ?_
      rintro e w4 ⟨v1, rfl, hO, hX⟩
      have b0 := Hd.mk (b0.out.below hX)
      have b1 := Hd.mk (b1.out.below hX)
      have hB := Hd.mk (below_then hB.out hX)
      replace hS := Hd.mk (below_then hS.out hX)
      have hz_ := hX.size
      clear hX
      have z4 := Hd.mk hz_; clear hz_
      obtain ⟨D1, d1, rfl, _, _⟩ := R_C hO
      replace hO := Hd.mk (show int.R 3 w4 (rng W3.heap.size w4.heap.size) _ x.cols from R_bound hO)
      go_wp2_with fail
      refine ⟨cls_below hS.out, ?_⟩
      refine mixT_q rfl ?_
      go_big_quiet_want; go_big_quiet_op; go_big_quiet_on; refine wpQuiet_nil ?_
      refine mixT_q rfl ?_
      go_big_quiet_want; go_big_quiet_op; go_big_quiet_on; refine wpQuiet_nil ?_
      refine mixT_b rfl ?_ (by rfl)
      go_wp2_with fail
      refine ⟨cls_below (below_alloc hS.out _), ?_⟩
      refine genT ?_; intro W5 hW
      have hz_ : w4.heap.size + 1 ≤ W5.heap.size := by rw [hW]; simp
      have hE : Below w4.heap.size w4 W5 := by rw [hW]; (repeat (first | with_reducible refine below_alloc ?_ _ | with_reducible refine below_drew ?_)); exact Below.refl _ _
      have hB := Hd.mk (below_then hB.out hE)
      replace hS := Hd.mk (below_then hS.out hE)
      have b0 := Hd.mk (b0.out.below hE)
      have b1 := Hd.mk (b1.out.below hE)
      have b2 := Hd.mk (show Blk W5 (w4.heap.size) #[Value.slice none 0 0, Value.int IntKind.i64 0, Value.slice none 0 0] 37 by rw [hW]; first | exact (Blk.new _ _ _) | (simpa using (Blk.new _ _ _)))
      have hO := Hd.mk (R_below hO.out hE)
      clear hW hE
      have z5 := Hd.mk hz_; clear hz_
      refine mixT_fin ?_
      clear hS
      clear rfb0_0 rfb0_1 rfb0_2 rfb1_0 rfb1_1 rfb1_2
      clear fb0_0 fb0_1 fb0_2 fb0_z fb1_0 fb1_1 fb1_2 fb1_z
      have fb0_0 : W5.cell? ⟨w.heap.size, 0, none⟩ = some (Value.slice A2 x.cols.length c2) := b0.out.cell 0 rfl
      have fb0_1 : W5.cell? ⟨w.heap.size, 1, none⟩ = some (Value.int IntKind.i64 x.ver) := b0.out.cell 1 rfl
      have fb0_2 : W5.cell? ⟨w.heap.size, 2, none⟩ = some (Value.slice A1 x.tabs.length c1) := b0.out.cell 2 rfl
      have fb0_z := b0.out.frozen
      have fb1_0 : W5.cell? ⟨w.heap.size + 1, 0, none⟩ = some (Value.slice none 0 0) := b1.out.cell 0 rfl
      have fb1_1 : W5.cell? ⟨w.heap.size + 1, 1, none⟩ = some (Value.int IntKind.i64 0) := b1.out.cell 1 rfl
      have fb1_2 : W5.cell? ⟨w.heap.size + 1, 2, none⟩ = some (Value.slice none 0 0) := b1.out.cell 2 rfl
      have fb1_z := b1.out.frozen
      have fb2_0 : W5.cell? ⟨w4.heap.size, 0, none⟩ = some (Value.slice none 0 0) := b2.out.cell 0 rfl
      have fb2_1 : W5.cell? ⟨w4.heap.size, 1, none⟩ = some (Value.int IntKind.i64 0) := b2.out.cell 1 rfl
      have fb2_2 : W5.cell? ⟨w4.heap.size, 2, none⟩ = some (Value.slice none 0 0) := b2.out.cell 2 rfl
      have fb2_z := b2.out.frozen
      refine tail_b rfl ?_ (by rfl)
      go_wp2_with fail
      refine mixQ_n ?_
      refine tail_nil ?_
      refine region_gen ?_; intro W hW
      clear fb0_0 fb0_1 fb0_2 fb0_z fb1_0 fb1_1 fb1_2 fb1_z fb2_0 fb2_1 fb2_2 fb2_z
      have hz_ : W5.heap.size ≤ W.heap.size := by rw [hW]; simp
      have eF : Fr W5 W (fun k => k = w4.heap.size ∨ W5.heap.size ≤ k) := by rw [hW]; (repeat (first | with_reducible refine Fr.setCell ?_ _ (fun _ => by simp <;> omega) _ | with_reducible refine Fr.alloc ?_ _ | with_reducible refine Fr.drew ?_)); exact Fr.refl _ _
      have z1_ := z1.out; have z2_ := z2.out; have z3_ := z3.out; have z4_ := z4.out; have z5_ := z5.out
      have hB := Hd.mk (((Fr.of_below hB.out (fun k => k = w4.heap.size ∨ W5.heap.size ≤ k)).then_ eF (fun k hk _ => hk)).below (fun k hk => by have := hB.out.size; omega))
      have b0 := Hd.mk (b0.out.fr eF (fun h => by have hlt_ := b0.out.lt; (try simp only at h); omega))
      have b1 := Hd.mk (b1.out.fr eF (fun h => by have hlt_ := b1.out.lt; (try simp only at h); omega))
      have b2 := Hd.mk (show Blk W (w4.heap.size) #[Value.slice D1 x.cols.length d1, Value.int IntKind.i64 x.ver, Value.slice none 0 0] 37 by rw [hW]; exact (Blk.all b2.out [Value.slice D1 x.cols.length d1, Value.int IntKind.i64 x.ver, Value.slice none 0 0] rfl))
      have hO := Hd.mk (R_fr hO.out eF (fun k hk hl h => by skip; (try simp only [rng] at hk); (try simp only at hk); (try simp only at h); omega))
      clear hW eF
      have z6 := Hd.mk hz_; clear hz_
      have hBs := hB.out.size
      have z1_ := z1.out; have z2_ := z2.out; have z3_ := z3.out; have z4_ := z4.out; have z5_ := z5.out; have z6_ := z6.out
      rw [HRR.out]
      exact ⟨w4.heap.size, _, D1, d1, _, _, _, _, _, _, _, _, rfl, b2, b0, b1, ⟨by omega⟩, ⟨fun k hk => by have h1 := hk.1; have h2 := hk.2; refine ⟨by omega, by omega, by omega⟩⟩, hO, hB⟩
    · refine stepM_of rfl ?_ (by rfl)
      go_wp2_with fail
      refine ⟨cls_below (below_alloc hS.out _), ?_⟩
      refine genT ?_; intro W3 hW
      have hz_ : W2.heap.size + 1 ≤ W3.heap.size := by rw [hW]; simp
      have hE : Below W2.heap.size W2 W3 := by rw [hW]; (repeat (first | with_reducible refine below_alloc ?_ _ | with_reducible refine below_drew ?_)); exact Below.refl _ _
      have hB := Hd.mk (below_then hB.out hE)
      replace hS := Hd.mk (below_then hS.out hE)
      have b0 := Hd.mk (b0.out.below hE)
      have b1 := Hd.mk (b1.out.below hE)
      have b2 := Hd.mk (show Blk W3 (W2.heap.size) #[Value.slice none 0 0, Value.int IntKind.i64 0, Value.slice none 0 0] 37 by rw [hW]; first | exact (Blk.new _ _ _) | (simpa using (Blk.new _ _ _)))
      clear hW hE
      have z3 := Hd.mk hz_; clear hz_
      refine mixT_b rfl ?_ (by rfl)
      go_wp2_with fail
      apply calls_gen; intro W4 hW
      have hz_ : W3.heap.size ≤ W4.heap.size := by rw [hW]; simp
      have hE : Below W3.heap.size W3 W4 := by rw [hW]; (repeat (first | with_reducible refine below_alloc ?_ _ | with_reducible refine below_drew ?_)); exact Below.refl _ _
      have hB := Hd.mk (below_then hB.out hE)
      replace hS := Hd.mk (below_then hS.out hE)
      have b0 := Hd.mk (b0.out.below hE)
      have b1 := Hd.mk (b1.out.below hE)
      have b2 := Hd.mk (b2.out.below hE)
      clear hW hE
      have z4 := Hd.mk hz_; clear hz_
      refine (impl_copyInts _ _ x.cols _ (C_below HR2.out hB.out) hlN).mono ?_
      rintro e w5 ⟨v1, rfl, hO, hX⟩
      have b0 := Hd.mk (b0.out.below hX)
      have b1 := Hd.mk (b1.out.below hX)
      have b2 := Hd.mk (b2.out.below hX)
      have hB := Hd.mk (below_then hB.out hX)
      replace hS := Hd.mk (below_then hS.out hX)
      have hz_ := hX.size
      clear hX
      have z5 := Hd.mk hz_; clear hz_
      obtain ⟨D1, d1, rfl, _, _⟩ := R_C hO
      replace hO := Hd.mk (show int.R 3 w5 (rng W4.heap.size w5.heap.size) _ x.cols from R_bound hO)
      go_wp2_with fail
      refine ⟨cls_below hS.out, ?_⟩
      refine mixT_q rfl ?_
      go_big_quiet_want; go_big_quiet_op; go_big_quiet_on; refine wpQuiet_nil ?_
      refine mixT_q rfl ?_
      go_big_quiet_want; go_big_quiet_op; go_big_quiet_on; refine wpQuiet_nil ?_
      refine mixT_fin ?_
      clear hS
      clear rfb0_0 rfb0_1 rfb0_2 rfb1_0 rfb1_1 rfb1_2
      clear fb0_0 fb0_1 fb0_2 fb0_z fb1_0 fb1_1 fb1_2 fb1_z
      have fb0_0 : w5.cell? ⟨w.heap.size, 0, none⟩ = some (Value.slice A2 x.cols.length c2) := b0.out.cell 0 rfl
      have fb0_1 : w5.cell? ⟨w.heap.size, 1, none⟩ = some (Value.int IntKind.i64 x.ver) := b0.out.cell 1 rfl
      have fb0_2 : w5.cell? ⟨w.heap.size, 2, none⟩ = some (Value.slice A1 x.tabs.length c1) := b0.out.cell 2 rfl
      have fb0_z := b0.out.frozen
      have fb1_0 : w5.cell? ⟨w.heap.size + 1, 0, none⟩ = some (Value.slice none 0 0) := b1.out.cell 0 rfl
      have fb1_1 : w5.cell? ⟨w.heap.size + 1, 1, none⟩ = some (Value.int IntKind.i64 0) := b1.out.cell 1 rfl
      have fb1_2 : w5.cell? ⟨w.heap.size + 1, 2, none⟩ = some (Value.slice none 0 0) := b1.out.cell 2 rfl
      have fb1_z := b1.out.frozen
      have fb2_0 : w5.cell? ⟨W2.heap.size, 0, none⟩ = some (Value.slice none 0 0) := b2.out.cell 0 rfl
      have fb2_1 : w5.cell? ⟨W2.heap.size, 1, none⟩ = some (Value.int IntKind.i64 0) := b2.out.cell 1 rfl
      have fb2_2 : w5.cell? ⟨W2.heap.size, 2, none⟩ = some (Value.slice none 0 0) := b2.out.cell 2 rfl
      have fb2_z := b2.out.frozen
      refine tail_b rfl ?_ (by rfl)
      go_wp2_with fail
      refine mixQ_n ?_
      refine tail_nil ?_
      refine region_gen ?_; intro W hW
      clear fb0_0 fb0_1 fb0_2 fb0_z fb1_0 fb1_1 fb1_2 fb1_z fb2_0 fb2_1 fb2_2 fb2_z
      have hz_ : w5.heap.size ≤ W.heap.size := by rw [hW]; simp
      have eF : Fr w5 W (fun k => k = W2.heap.size ∨ w5.heap.size ≤ k) := by rw [hW]; (repeat (first | with_reducible refine Fr.setCell ?_ _ (fun _ => by simp <;> omega) _ | with_reducible refine Fr.alloc ?_ _ | with_reducible refine Fr.drew ?_)); exact Fr.refl _ _
      have z1_ := z1.out; have z2_ := z2.out; have z3_ := z3.out; have z4_ := z4.out; have z5_ := z5.out
      have hB := Hd.mk (((Fr.of_below hB.out (fun k => k = W2.heap.size ∨ w5.heap.size ≤ k)).then_ eF (fun k hk _ => hk)).below (fun k hk => by have := hB.out.size; omega))
      have b0 := Hd.mk (b0.out.fr eF (fun h => by have hlt_ := b0.out.lt; (try simp only at h); omega))
      have b1 := Hd.mk (b1.out.fr eF (fun h => by have hlt_ := b1.out.lt; (try simp only at h); omega))
      have b2 := Hd.mk (show Blk W (W2.heap.size) #[Value.slice D1 x.cols.length d1, Value.int IntKind.i64 x.ver, Value.slice none 0 0] 37 by rw [hW]; exact (Blk.all b2.out [Value.slice D1 x.cols.length d1, Value.int IntKind.i64 x.ver, Value.slice none 0 0] rfl))
      have hO := Hd.mk (R_fr hO.out eF (fun k hk hl h => by skip; (try simp only [rng] at hk); (try simp only at hk); (try simp only at h); omega))
      clear hW eF
      have z6 := Hd.mk hz_; clear hz_
      have hBs := hB.out.size
      have z1_ := z1.out; have z2_ := z2.out; have z3_ := z3.out; have z4_ := z4.out; have z5_ := z5.out; have z6_ := z6.out
      rw [HRR.out]
      exact ⟨W2.heap.size, _, D1, d1, _, _, _, _, _, _, _, _, rfl, b2, b0, b1, ⟨by omega⟩, ⟨fun k hk => by have h1 := hk.1; have h2 := hk.2; refine ⟨by omega, by omega, by omega⟩⟩, hO, hB⟩
  case refine_2 =>
    rw [HRR.out]
    clear HRR
    rintro a w1 ⟨p, SN, D, d, u6, u7, u8, u9, u10, u11, u12, u13, rfl, bo, b0, b1, hp, hN, hO, hB1⟩
    replace hB := hB1; clear hB1
    have hlt := Hd.mk bo.out.lt
    have fbo_0 : w1.cell? ⟨p, 0, none⟩ = some (Value.slice D x.cols.length d) := bo.out.cell 0 rfl
    have fbo_1 : w1.cell? ⟨p, 1, none⟩ = some (Value.int IntKind.i64 x.ver) := bo.out.cell 1 rfl
    have fbo_2 : w1.cell? ⟨p, 2, none⟩ = some (Value.slice none 0 0) := bo.out.cell 2 rfl
    have fbo_z := bo.out.frozen
    have fb0_0 : w1.cell? ⟨w.heap.size, 0, none⟩ = some (Value.slice A2 x.cols.length c2) := b0.out.cell 0 rfl
    have fb0_1 : w1.cell? ⟨w.heap.size, 1, none⟩ = some (Value.int IntKind.i64 x.ver) := b0.out.cell 1 rfl
    have fb0_2 : w1.cell? ⟨w.heap.size, 2, none⟩ = some (Value.slice A1 x.tabs.length c1) := b0.out.cell 2 rfl
    have fb0_z := b0.out.frozen
    have fb1_0 : w1.cell? ⟨w.heap.size + 1, 0, none⟩ = some (Value.slice none 0 0) := b1.out.cell 0 rfl
    have fb1_1 : w1.cell? ⟨w.heap.size + 1, 1, none⟩ = some (Value.int IntKind.i64 0) := b1.out.cell 1 rfl
    have fb1_2 : w1.cell? ⟨w.heap.size + 1, 2, none⟩ = some (Value.slice none 0 0) := b1.out.cell 2 rfl
    have fb1_z := b1.out.frozen
    go_wp2_with fail
    clear fbo_0 fbo_1 fbo_2 fbo_z fb0_0 fb0_1 fb0_2 fb0_z fb1_0 fb1_1 fb1_2 fb1_z
    go_loopw [17] (fun i wr => ∃ k : Nat, ∃ vL : Value, k ≤ x.tabs.length ∧ i = .int .i64 k ∧ Hd (Blk wr p #[.slice D x.cols.length d, .int .i64 x.ver, vL] 37) ∧ Hd (Blk wr w.heap.size #[Value.slice A2 x.cols.length c2, Value.int IntKind.i64 x.ver, Value.slice A1 x.tabs.length c1] 37) ∧ Hd (Blk wr (w.heap.size + 1) #[Value.slice none 0 0, Value.int IntKind.i64 0, Value.slice none 0 0] 37) ∧ Hd (tRows.R 68 wr (fun k => w.heap.size + 2 ≤ k ∧ k ≠ p ∧ ¬ SN k) vL (x.tabs.take k)) ∧ Hd (int.R 3 wr SN (.slice D x.cols.length d) x.cols) ∧ Hd (Below w.heap.size w wr) ∧ Hd (w1.heap.size ≤ wr.heap.size)) (fun i _ => x.tabs.length - (intOf i).toNat)
    case atStart => exact ⟨0, .slice none 0 0, Nat.zero_le _, rfl, bo, b0, b1, ⟨R_nil⟩, hO, hB, ⟨Nat.le_refl _⟩⟩
    case round =>
      clear bo b0 b1 hO hB
      obtain ⟨k, vL, hk, rfl, bo, b0, b1, hL, hO, hB, hsz1⟩ := hrel
      by_cases hlt2 : k < x.tabs.length
      · obtain ⟨ad, A3, c3, rfl, x0, hc3, hr3⟩ := C_rows_at HR1.out hB.out k hlt2
        have hbk := Nat.le_trans (bulkL_mem bulkRowS (List.getElem_mem hlt2)) (Nat.le_trans (Nat.le_add_left _ _) HLL.out)
        obtain ⟨AL, cL, hvL, hcL, _⟩ := R_C hL.out
        have htk : (x.tabs.take k).length = k := by rw [List.length_take]; omega
        rw [htk] at hvL
        subst hvL
        clear htk
        have HK := Hd.mk hr3; clear hr3
        have hlt := Hd.mk (show p < wr.heap.size from bo.out.lt)
        have hzp := hp.out
        have hzl := hlt.out
        have hsb := hB.out.size
        have fbo_0 : wr.cell? ⟨p, 0, none⟩ = some (Value.slice D x.cols.length d) := bo.out.cell 0 rfl
        have fbo_1 : wr.cell? ⟨p, 1, none⟩ = some (Value.int IntKind.i64 x.ver) := bo.out.cell 1 rfl
        have fbo_2 : wr.cell? ⟨p, 2, none⟩ = some (Value.slice AL k cL) := bo.out.cell 2 rfl
        have fbo_z := bo.out.frozen
        have fb0_0 : wr.cell? ⟨w.heap.size, 0, none⟩ = some (Value.slice A2 x.cols.length c2) := b0.out.cell 0 rfl
        have fb0_1 : wr.cell? ⟨w.heap.size, 1, none⟩ = some (Value.int IntKind.i64 x.ver) := b0.out.cell 1 rfl
        have fb0_2 : wr.cell? ⟨w.heap.size, 2, none⟩ = some (Value.slice (some ad) x.tabs.length c1) := b0.out.cell 2 rfl
        have fb0_z := b0.out.frozen
        have fb1_0 : wr.cell? ⟨w.heap.size + 1, 0, none⟩ = some (Value.slice none 0 0) := b1.out.cell 0 rfl
        have fb1_1 : wr.cell? ⟨w.heap.size + 1, 1, none⟩ = some (Value.int IntKind.i64 0) := b1.out.cell 1 rfl
        have fb1_2 : wr.cell? ⟨w.heap.size + 1, 2, none⟩ = some (Value.slice none 0 0) := b1.out.cell 2 rfl
        have fb1_z := b1.out.frozen
        go_wp2_with fail
        clear fbo_0 fbo_1 fbo_2 fbo_z fb0_0 fb0_1 fb0_2 fb0_z fb1_0 fb1_1 fb1_2 fb1_z
        clear x0
        have hBW := Hd.mk (Below.refl wr.heap.size wr)
        have fbo_0 : wr.cell? ⟨p, 0, none⟩ = some (Value.slice D x.cols.length d) := bo.out.cell 0 rfl
        have fbo_1 : wr.cell? ⟨p, 1, none⟩ = some (Value.int IntKind.i64 x.ver) := bo.out.cell 1 rfl
        have fbo_2 : wr.cell? ⟨p, 2, none⟩ = some (Value.slice AL k cL) := bo.out.cell 2 rfl
        have fbo_z := bo.out.frozen
        have fb0_0 : wr.cell? ⟨w.heap.size, 0, none⟩ = some (Value.slice A2 x.cols.length c2) := b0.out.cell 0 rfl
        have fb0_1 : wr.cell? ⟨w.heap.size, 1, none⟩ = some (Value.int IntKind.i64 x.ver) := b0.out.cell 1 rfl
        have fb0_2 : wr.cell? ⟨w.heap.size, 2, none⟩ = some (Value.slice (some ad) x.tabs.length c1) := b0.out.cell 2 rfl
        have fb0_z := b0.out.frozen
        have fb1_0 : wr.cell? ⟨w.heap.size + 1, 0, none⟩ = some (Value.slice none 0 0) := b1.out.cell 0 rfl
        have fb1_1 : wr.cell? ⟨w.heap.size + 1, 1, none⟩ = some (Value.int IntKind.i64 0) := b1.out.cell 1 rfl
        have fb1_2 : wr.cell? ⟨w.heap.size + 1, 2, none⟩ = some (Value.slice none 0 0) := b1.out.cell 2 rfl
        have fb1_z := b1.out.frozen
        have rfbo_0 := cell_regrown fbo_0
        have rfbo_1 := cell_regrown fbo_1
        have rfbo_2 := cell_regrown fbo_2
        have rfb0_0 := cell_regrown fb0_0
        have rfb0_1 := cell_regrown fb0_1
        have rfb0_2 := cell_regrown fb0_2
        have rfb1_0 := cell_regrown fb1_0
        have rfb1_1 := cell_regrown fb1_1
        have rfb1_2 := cell_regrown fb1_2
        refine region_mixT (.q 0 (.q 1 (.q 2 (.b 3 (.b 4 .fin))))) [5, 6, 7] (by kernel_rfl) (by kernel_rfl) (fun _ _ _ _ _ h => h) ?_
        refine genT ?_
        intro W3 hW
        have hS := Hd.mk (show Below wr.heap.size wr W3 by rw [hW]; exact below_drew (Below.refl _ _))
        have hz_ : wr.heap.size ≤ W3.heap.size := by rw [hW]; simp
        have hE : Below wr.heap.size wr W3 := by rw [hW]; (repeat (first | with_reducible refine below_alloc ?_ _ | with_reducible refine below_drew ?_)); exact Below.refl _ _
        have hB := Hd.mk (below_then hB.out hE)
        have hBW := Hd.mk (below_then hBW.out hE)
        have bo := Hd.mk (bo.out.below hE)
        have b0 := Hd.mk (b0.out.below hE)
        have b1 := Hd.mk (b1.out.below hE)
        clear hW hE
        have z1 := Hd.mk hz_; clear hz_
        refine mixT_q rfl ?_
        go_big_quiet_want; go_big_quiet_op; go_big_quiet_on; refine wpQuiet_nil ?_
        refine mixT_q rfl ?_
        go_big_quiet_want; go_big_quiet_op; go_big_quiet_on; refine wpQuiet_nil ?_
        refine mixT_q rfl ?_
        go_big_quiet_want; go_big_quiet_op; go_big_quiet_on; refine wpQuiet_nil ?_
        refine mixT_b rfl ?_ (by rfl)
        go_wp2_with fail
        apply calls_gen; intro W4 hW
        have hz_ : W3.heap.size ≤ W4.heap.size := by rw [hW]; simp
        have hE : Below W3.heap.size W3 W4 := by rw [hW]; (repeat (first | with_reducible refine below_alloc ?_ _ | with_reducible refine below_drew ?_)); exact Below.refl _ _
        have hB := Hd.mk (below_then hB.out hE)
        have hBW := Hd.mk (below_then hBW.out hE)
        replace hS := Hd.mk (below_then hS.out hE)
        have bo := Hd.mk (bo.out.below hE)
        have b0 := Hd.mk (b0.out.below hE)
        have b1 := Hd.mk (b1.out.below hE)
        clear hW hE
        have z2 := Hd.mk hz_; clear hz_
        have hWs := Hd.mk (show wr.heap.size ≤ W4.heap.size by have z1_ := z1.out; have z2_ := z2.out; omega)
        refine (impl_copyRows _ _ x.tabs[k] _ (C_below HK.out hBW.out) hbk).mono ?_
        rintro e w5 ⟨v3, rfl, hO3, hX⟩
        have bo := Hd.mk (bo.out.below hX)
        have b0 := Hd.mk (b0.out.below hX)
        have b1 := Hd.mk (b1.out.below hX)
        have hB := Hd.mk (below_then hB.out hX)
        replace hS := Hd.mk (below_then hS.out hX)
        have hz_ := hX.size
        have hBW := Hd.mk (below_then hBW.out hX)
        have z3 := Hd.mk hz_; clear hz_
        obtain ⟨D3, d3, rfl, _, _⟩ := R_C hO3
        have HO3 := Hd.mk hO3; clear hO3 hX
        go_wp2_with fail
        refine ⟨cls_below hS.out, ?_⟩
        refine mixT_b rfl ?_ (by rfl)
        go_wp2_with fail
        refine ⟨cls_below (below_alloc hS.out _), ?_⟩
        refine mixT_fin ?_
        clear hS
        clear rfbo_0 rfbo_1 rfbo_2 rfb0_0 rfb0_1 rfb0_2 rfb1_0 rfb1_1 rfb1_2
        clear fbo_0 fbo_1 fbo_2 fbo_z fb0_0 fb0_1 fb0_2 fb0_z fb1_0 fb1_1 fb1_2 fb1_z
        have fbo_0 : w5.cell? ⟨p, 0, none⟩ = some (Value.slice D x.cols.length d) := bo.out.cell 0 rfl
        have fbo_1 : w5.cell? ⟨p, 1, none⟩ = some (Value.int IntKind.i64 x.ver) := bo.out.cell 1 rfl
        have fbo_2 : w5.cell? ⟨p, 2, none⟩ = some (Value.slice AL k cL) := bo.out.cell 2 rfl
        have fbo_z := bo.out.frozen
        have fb0_0 : w5.cell? ⟨w.heap.size, 0, none⟩ = some (Value.slice A2 x.cols.length c2) := b0.out.cell 0 rfl
        have fb0_1 : w5.cell? ⟨w.heap.size, 1, none⟩ = some (Value.int IntKind.i64 x.ver) := b0.out.cell 1 rfl
        have fb0_2 : w5.cell? ⟨w.heap.size, 2, none⟩ = some (Value.slice (some ad) x.tabs.length c1) := b0.out.cell 2 rfl
        have fb0_z := b0.out.frozen
        have fb1_0 : w5.cell? ⟨w.heap.size + 1, 0, none⟩ = some (Value.slice none 0 0) := b1.out.cell 0 rfl
        have fb1_1 : w5.cell? ⟨w.heap.size + 1, 1, none⟩ = some (Value.int IntKind.i64 0) := b1.out.cell 1 rfl
        have fb1_2 : w5.cell? ⟨w.heap.size + 1, 2, none⟩ = some (Value.slice none 0 0) := b1.out.cell 2 rfl
        have fb1_z := b1.out.frozen
        refine tail_b rfl ?_ (by rfl)
        have hLb := Hd.mk (R_below (R_bound hL.out) hBW.out)
        have hOb := Hd.mk (R_below (R_bound hO.out) hBW.out)
        have hsW := hWs.out
        go_wp2_with (at_builtin; refine append_one tRows rfl _ _ 35 68 (.slice none 0 0) 24 rfl Try.underlying35 info_RowSS_ rfl (by decide) (by decide) (S := fun k => (fun k => w.heap.size + 2 ≤ k ∧ k ≠ p ∧ ¬ SN k) k ∧ k < wr.heap.size) (T := fun k => W4.heap.size ≤ k) (S' := (fun k => w.heap.size + 2 ≤ k ∧ k ≠ p ∧ ¬ SN k)) (v := .slice AL k cL) (xs := x.tabs.take k) x.tabs[k] [Value.slice D3 x.tabs[k].length d3] rfl rfl hLb.out (sl_O.2 ⟨_, rfl, HO3.out⟩) (fun k h1 hl h2 => by have := h2.2; omega) (fun k h => h.1) (fun k h => ⟨by omega, by omega, fun h3 => by have := (hN.out k h3).2.1; have := hsz1.out; omega⟩) (fun k h => ⟨by have z1_ := z1.out; have z2_ := z2.out; have z3_ := z3.out; omega, by have z1_ := z1.out; have z2_ := z2.out; have z3_ := z3.out; omega, fun h3 => by have z1_ := z1.out; have z2_ := z2.out; have z3_ := z3.out; have := (hN.out k h3).2.1; have := hsz1.out; omega⟩) (by simp; omega) (fun v5 w6 hv5 hX => ?_); obtain ⟨D5, d5, hv5e, _, _⟩ := R_C hv5; subst hv5e)
        have z1_ := z1.out; have z2_ := z2.out; have z3_ := z3.out
        have bo := Hd.mk (bo.out.fr (S := _) hX (fun h => by have h1 := h.1.1; have h2 := h.1.2.1; have h3 := h.2; omega))
        have b0 := Hd.mk (b0.out.fr (S := _) hX (fun h => by have h1 := h.1.1; have h2 := h.1.2.1; have h3 := h.2; omega))
        have b1 := Hd.mk (b1.out.fr (S := _) hX (fun h => by have h1 := h.1.1; have h2 := h.1.2.1; have h3 := h.2; omega))
        have hO6 := Hd.mk (R_fr hOb.out hX (fun k hk _ h => h.1.2.2 hk.1))
        have hB := Hd.mk (below_frS hB.out hX (fun k h => by have := h.1.1; omega))
        have hw5 := Hd.mk (show w1.heap.size ≤ w6.heap.size by have := hX.size; have := hsz1.out; omega)
        clear hX hOb
        have hL5 := Hd.mk hv5; clear hv5 hLb
        have fbo_0 : w6.cell? ⟨p, 0, none⟩ = some (Value.slice D x.cols.length d) := bo.out.cell 0 rfl
        have fbo_1 : w6.cell? ⟨p, 1, none⟩ = some (Value.int IntKind.i64 x.ver) := bo.out.cell 1 rfl
        have fbo_2 : w6.cell? ⟨p, 2, none⟩ = some (Value.slice AL k cL) := bo.out.cell 2 rfl
        have fbo_z := bo.out.frozen
        have fb0_0 : w6.cell? ⟨w.heap.size, 0, none⟩ = some (Value.slice A2 x.cols.length c2) := b0.out.cell 0 rfl
        have fb0_1 : w6.cell? ⟨w.heap.size, 1, none⟩ = some (Value.int IntKind.i64 x.ver) := b0.out.cell 1 rfl
        have fb0_2 : w6.cell? ⟨w.heap.size, 2, none⟩ = some (Value.slice (some ad) x.tabs.length c1) := b0.out.cell 2 rfl
        have fb0_z := b0.out.frozen
        have fb1_0 : w6.cell? ⟨w.heap.size + 1, 0, none⟩ = some (Value.slice none 0 0) := b1.out.cell 0 rfl
        have fb1_1 : w6.cell? ⟨w.heap.size + 1, 1, none⟩ = some (Value.int IntKind.i64 0) := b1.out.cell 1 rfl
        have fb1_2 : w6.cell? ⟨w.heap.size + 1, 2, none⟩ = some (Value.slice none 0 0) := b1.out.cell 2 rfl
        have fb1_z := b1.out.frozen
        refine mixQ_n ?_
        refine tail_b rfl ?_ (by rfl)
        go_wp2_with fail
        refine mixQ_n ?_
        refine tail_b rfl ?_ (by rfl)
        go_wp2_with fail
        refine mixQ_n ?_
        refine tail_nil ?_
        go_wp2_with fail
        clear fbo_0 fbo_1 fbo_2 fbo_z fb0_0 fb0_1 fb0_2 fb0_z fb1_0 fb1_1 fb1_2 fb1_z
        go_roundw
        case rel =>
          refine ⟨k + 1, _, by omega, by go_num, ⟨bo.out.set 2 _⟩, ⟨b0.out.other _ (by simp only; omega) _⟩, ⟨b1.out.other _ (by simp only; omega) _⟩, ⟨?_⟩, ⟨?_⟩, ⟨?_⟩, ⟨?_⟩⟩
          · rw [List.take_succ_eq_append_getElem hlt2]
            have h5 := hL5.out
            exact R_setCell (by simpa using h5) (fun h => h.2.1 rfl) _
          · exact R_mono (fun k h => h.1) (R_setCell hO6.out (fun h => (hN.out _ h.1).2.2 rfl) _)
          · exact ((Fr.of_below hB.out (fun k => k = p)).setCell ⟨p, 2, none⟩ (fun _ => rfl) _).below (fun k h => by omega)
          · simp; exact hw5.out
        case measure => simp [intOf]; omega
      · obtain rfl : k = x.tabs.length := by omega
        obtain ⟨AL, cL, hvL, hcL, _⟩ := R_C hL.out
        subst hvL
        have hzp := hp.out
        have hzl := bo.out.lt
        have hsb := hB.out.size
        have fbo_0 : wr.cell? ⟨p, 0, none⟩ = some (Value.slice D x.cols.length d) := bo.out.cell 0 rfl
        have fbo_1 : wr.cell? ⟨p, 1, none⟩ = some (Value.int IntKind.i64 x.ver) := bo.out.cell 1 rfl
        have fbo_2 : wr.cell? ⟨p, 2, none⟩ = some (Value.slice AL (x.tabs.take x.tabs.length).length cL) := bo.out.cell 2 rfl
        have fbo_z := bo.out.frozen
        have fb0_0 : wr.cell? ⟨w.heap.size, 0, none⟩ = some (Value.slice A2 x.cols.length c2) := b0.out.cell 0 rfl
        have fb0_1 : wr.cell? ⟨w.heap.size, 1, none⟩ = some (Value.int IntKind.i64 x.ver) := b0.out.cell 1 rfl
        have fb0_2 : wr.cell? ⟨w.heap.size, 2, none⟩ = some (Value.slice A1 x.tabs.length c1) := b0.out.cell 2 rfl
        have fb0_z := b0.out.frozen
        have fb1_0 : wr.cell? ⟨w.heap.size + 1, 0, none⟩ = some (Value.slice none 0 0) := b1.out.cell 0 rfl
        have fb1_1 : wr.cell? ⟨w.heap.size + 1, 1, none⟩ = some (Value.int IntKind.i64 0) := b1.out.cell 1 rfl
        have fb1_2 : wr.cell? ⟨w.heap.size + 1, 2, none⟩ = some (Value.slice none 0 0) := b1.out.cell 2 rfl
        have fb1_z := b1.out.frozen
        go_wp2_with fail
        refine bodyPost_retW (v := .agg #[Value.slice D x.cols.length d, Value.int IntKind.i64 x.ver, Value.slice AL x.tabs.length cL]) (by simp [results, Try.results86, go_sem, fbo_0, fbo_1, fbo_2, fbo_z, fb0_0, fb0_1, fb0_2, fb0_z, fb1_0, fb1_1, fb1_2, fb1_z]) rfl ?_
        intro W hW
        clear fbo_0 fbo_1 fbo_2 fbo_z fb0_0 fb0_1 fb0_2 fb0_z fb1_0 fb1_1 fb1_2 fb1_z
        have eF : Fr wr W (fun k => k = w.heap.size + 1) := by rw [hW]; (repeat (first | with_reducible refine Fr.setCell ?_ _ (fun _ => by simp) _)); exact Fr.refl _ _
        have hLf := R_fr hL.out eF (fun k hk _ h => by have := hk.1; (try simp only at h); omega)
        rw [List.take_length] at hLf
        have hOf := R_fr hO.out eF (fun k hk _ h => by have := (hN.out k hk).1; (try simp only at h); omega)
        skip
        refine ⟨[Value.slice D x.cols.length d, Value.int IntKind.i64 x.ver, Value.slice AL x.tabs.length cL], rfl, tStore_O.2 ⟨_, _, SN, (fun k => w.heap.size + 2 ≤ k ∧ k ≠ p ∧ ¬ SN k), rfl, hOf, by simpa using hLf, fun k h => by have := (hN.out k h).1; omega, fun k h => by have := h.1; omega, fun k h h2 => h2.2.2 h⟩, ((Fr.of_below hB.out (fun k => k = w.heap.size + 1)).then_ eF (fun k h _ => h)).below (fun k h => by omega)⟩
set_option maxHeartbeats 4000000 in
set_option maxRecDepth 100000 in
theorem spec_l7Copy (x : Store) (cs : List Value) (w : World) (hk : tStore.K w x cs) (hl : bulkStore x ≤ 4194304) :
    Calls Try.prog 81 #[.agg cs.toArray] w fun e w' => ∃ cs', e = .returned (.agg cs'.toArray) ∧ tStore.O w' (fun k => w.heap.size ≤ k) x cs' ∧ Below w.heap.size w w' := by
  obtain ⟨A2, c2, A1, c1, rfl, ⟨hc2, hr2⟩, hc1, hr1⟩ := tStore_K.1 hk
  have hm1 := hr1.1
  have HR1 := Hd.mk hr1; clear hr1
  have HR2 := Hd.mk hr2; clear hr2 hk
  replace hl : x.cols.length + bulkRowSS x.tabs ≤ 4194304 := hl
  have hlN : x.cols.length ≤ 4194304 := by omega
  have hlL : x.tabs.length ≤ 4194304 := by simp only [bulkRowSS] at hl; omega
  have HLL := Hd.mk (show bulkRowSS x.tabs ≤ 4194304 by omega); clear hl
  have hB := Hd.mk (Below.refl w.heap.size w)
  go_enter Try.func81, Try.ntmps81
  go_wp2_with fail
  apply wp_gen; intro W1 hW
  have hz_ : w.heap.size + 2 ≤ W1.heap.size := by rw [hW]; simp
  have hE : Below w.heap.size w W1 := by rw [hW]; (repeat (first | with_reducible refine below_alloc ?_ _ | with_reducible refine below_drew ?_)); exact Below.refl _ _
  have hB := Hd.mk (below_then hB.out hE)
  have b0 := Hd.mk (show Blk W1 (w.heap.size) #[Value.slice A2 x.cols.length c2, Value.int IntKind.i64 x.ver, Value.slice A1 x.tabs.length c1] 37 by rw [hW]; first | exact ((Blk.new _ _ _).alloc _) | (simpa using ((Blk.new _ _ _).alloc _)))
  have b1 := Hd.mk (show Blk W1 (w.heap.size + 1) #[Value.slice none 0 0, Value.int IntKind.i64 0, Value.slice none 0 0] 37 by rw [hW]; first | exact (Blk.new1 _ _ _ _) | (simpa using (Blk.new1 _ _ _ _)))
  clear hW hE
  have z1 := Hd.mk hz_; clear hz_
  obtain ⟨RR, hRR⟩ : ∃ RR : Act → World → Prop, RR = (fun a w' => ∃ (p : Nat) (SN : Nat → Prop) (D : Option Addr) (d : Nat) (u5 u6 u7 u8 u9 u10 : Value), a = ⟨#[.agg #[Value.slice A2 x.cols.length c2, Value.int IntKind.i64 x.ver, Value.slice A1 x.tabs.length c1], .pointer (some ⟨w.heap.size, 0, none⟩), .pointer (some ⟨w.heap.size + 1, 0, none⟩), .pointer (some ⟨p, 0, none⟩), undef, u5, u6, u7, u8, u9, u10, undef, undef, undef, undef, undef, undef, undef, undef, undef, undef, undef, undef, undef, undef, undef, undef, undef, undef, undef], []⟩ ∧ Hd (Blk w' p #[.slice D x.cols.length d, .int .i64 x.ver, .slice none 0 0] 37) ∧ Hd (Blk w' w.heap.size #[Value.slice A2 x.cols.length c2, Value.int IntKind.i64 x.ver, Value.slice A1 x.tabs.length c1] 37) ∧ Hd (Blk w' (w.heap.size + 1) #[Value.slice none 0 0, Value.int IntKind.i64 0, Value.slice none 0 0] 37) ∧ Hd (w.heap.size + 2 ≤ p) ∧ Hd (∀ k, SN k → w.heap.size + 2 ≤ k ∧ k < w'.heap.size ∧ k ≠ p) ∧ Hd (int.R 3 w' SN (.slice D x.cols.length d) x.cols) ∧ Hd (Below w.heap.size w w')) := ⟨_, rfl⟩
  have HRR := Hd.mk hRR; clear hRR
  refine region_to RR ?_ ?_
  case refine_1 =>
    have fb0_0 : W1.cell? ⟨w.heap.size, 0, none⟩ = some (Value.slice A2 x.cols.length c2) := b0.out.cell 0 rfl
    have fb0_1 : W1.cell? ⟨w.heap.size, 1, none⟩ = some (Value.int IntKind.i64 x.ver) := b0.out.cell 1 rfl
    have fb0_2 : W1.cell? ⟨w.heap.size, 2, none⟩ = some (Value.slice A1 x.tabs.length c1) := b0.out.cell 2 rfl
    have fb0_z := b0.out.frozen
    have fb1_0 : W1.cell? ⟨w.heap.size + 1, 0, none⟩ = some (Value.slice none 0 0) := b1.out.cell 0 rfl
    have fb1_1 : W1.cell? ⟨w.heap.size + 1, 1, none⟩ = some (Value.int IntKind.i64 0) := b1.out.cell 1 rfl
    have fb1_2 : W1.cell? ⟨w.heap.size + 1, 2, none⟩ = some (Value.slice none 0 0) := b1.out.cell 2 rfl
    have fb1_z := b1.out.frozen
    have rfb0_0 := cell_regrown fb0_0
    have rfb0_1 := cell_regrown fb0_1
    have rfb0_2 := cell_regrown fb0_2
    have rfb1_0 := cell_regrown fb1_0
    have rfb1_1 := cell_regrown fb1_1
    have rfb1_2 := cell_regrown fb1_2
    refine region_mixT (.q 0 (.q 1 (.q 3 (.q 4 (.br 2 6 (.q 5 (.b 6 .fin)) (.b 2 (.q 5 .fin))))))) [7] (by kernel_rfl) (by kernel_rfl) (fun _ _ _ _ _ h => h) ?_
    refine genT ?_
    intro W2 hW
    have hS := Hd.mk (show Below W1.heap.size W1 W2 by rw [hW]; exact below_drew (Below.refl _ _))
    have hz_ : W1.heap.size ≤ W2.heap.size := by rw [hW]; simp
    have hE : Below W1.heap.size W1 W2 := by rw [hW]; (repeat (first | with_reducible refine below_alloc ?_ _ | with_reducible refine below_drew ?_)); exact Below.refl _ _
    have hB := Hd.mk (below_then hB.out hE)
    have b0 := Hd.mk (b0.out.below hE)
    have b1 := Hd.mk (b1.out.below hE)
    clear hW hE
    have z2 := Hd.mk hz_; clear hz_
    refine mixT_q rfl ?_
    go_big_quiet_want; go_big_quiet_op; go_big_quiet_on; refine wpQuiet_nil ?_
    refine mixT_q rfl ?_
    go_big_quiet_want; go_big_quiet_op; go_big_quiet_on; refine wpQuiet_nil ?_
    refine mixT_q rfl ?_
    go_big_quiet_want; go_big_quiet_op; go_big_quiet_on; refine wpQuiet_nil ?_
    refine mixT_q rfl ?_
    go_big_quiet_want; go_big_quiet_op; go_big_quiet_on; refine wpQuiet_nil ?_
    refine ⟨?_, ?_⟩
    · refine stepM_of rfl ?_ (by rfl)
      go_wp2_with fail
      apply calls_gen; intro W3 hW
      have hz_ : W2.heap.size ≤ W3.heap.size := by rw [hW]; simp
      have hE : Below W2.heap.size W2 W3 := by rw [hW]; (repeat (first | with_reducible refine below_alloc ?_ _ | with_reducible refine below_drew ?_)); exact Below.refl _ _
      have hB := Hd.mk (below_then hB.out hE)
      replace hS := Hd.mk (below_then hS.out hE)
      have b0 := Hd.mk (b0.out.below hE)
      have b1 := Hd.mk (b1.out.below hE)
      clear hW hE
      have z3 := Hd.mk hz_; clear hz_
      refine (spec_l7Schema _ _ x.cols _ (C_below HR2.out hB.out) hlN).mono ?_
      rintro e w4 ⟨v1, rfl, hO, hX⟩
      have b0 := Hd.mk (b0.out.below hX)
      have b1 := Hd.mk (b1.out.below hX)
      have hB := Hd.mk (below_then hB.out hX)
      replace hS := Hd.mk (below_then hS.out hX)
      have hz_ := hX.size
      clear hX
      have z4 := Hd.mk hz_; clear hz_
      obtain ⟨D1, d1, rfl, _, _⟩ := R_C hO
      replace hO := Hd.mk (show int.R 3 w4 (rng W3.heap.size w4.heap.size) _ x.cols from R_bound hO)
      go_wp2_with fail
      refine ⟨cls_below hS.out, ?_⟩
      refine mixT_q rfl ?_
      go_big_quiet_want; go_big_quiet_op; go_big_quiet_on; refine wpQuiet_nil ?_
      refine mixT_b rfl ?_ (by rfl)
      go_wp2_with fail
      refine ⟨cls_below (below_alloc hS.out _), ?_⟩
      refine genT ?_; intro W5 hW
      have hz_ : w4.heap.size + 1 ≤ W5.heap.size := by rw [hW]; simp
      have hE : Below w4.heap.size w4 W5 := by rw [hW]; (repeat (first | with_reducible refine below_alloc ?_ _ | with_reducible refine below_drew ?_)); exact Below.refl _ _
      have hB := Hd.mk (below_then hB.out hE)
      replace hS := Hd.mk (below_then hS.out hE)
      have b0 := Hd.mk (b0.out.below hE)
      have b1 := Hd.mk (b1.out.below hE)
      have b2 := Hd.mk (show Blk W5 (w4.heap.size) #[Value.slice none 0 0, Value.int IntKind.i64 0, Value.slice none 0 0] 37 by rw [hW]; first | exact (Blk.new _ _ _) | (simpa using (Blk.new _ _ _)))
      have hO := Hd.mk (R_below hO.out hE)
      clear hW hE
      have z5 := Hd.mk hz_; clear hz_
      refine mixT_fin ?_
      clear hS
      clear rfb0_0 rfb0_1 rfb0_2 rfb1_0 rfb1_1 rfb1_2
      clear fb0_0 fb0_1 fb0_2 fb0_z fb1_0 fb1_1 fb1_2 fb1_z
      have fb0_0 : W5.cell? ⟨w.heap.size, 0, none⟩ = some (Value.slice A2 x.cols.length c2) := b0.out.cell 0 rfl
      have fb0_1 : W5.cell? ⟨w.heap.size, 1, none⟩ = some (Value.int IntKind.i64 x.ver) := b0.out.cell 1 rfl
      have fb0_2 : W5.cell? ⟨w.heap.size, 2, none⟩ = some (Value.slice A1 x.tabs.length c1) := b0.out.cell 2 rfl
      have fb0_z := b0.out.frozen
      have fb1_0 : W5.cell? ⟨w.heap.size + 1, 0, none⟩ = some (Value.slice none 0 0) := b1.out.cell 0 rfl
      have fb1_1 : W5.cell? ⟨w.heap.size + 1, 1, none⟩ = some (Value.int IntKind.i64 0) := b1.out.cell 1 rfl
      have fb1_2 : W5.cell? ⟨w.heap.size + 1, 2, none⟩ = some (Value.slice none 0 0) := b1.out.cell 2 rfl
      have fb1_z := b1.out.frozen
      have fb2_0 : W5.cell? ⟨w4.heap.size, 0, none⟩ = some (Value.slice none 0 0) := b2.out.cell 0 rfl
      have fb2_1 : W5.cell? ⟨w4.heap.size, 1, none⟩ = some (Value.int IntKind.i64 0) := b2.out.cell 1 rfl
      have fb2_2 : W5.cell? ⟨w4.heap.size, 2, none⟩ = some (Value.slice none 0 0) := b2.out.cell 2 rfl
      have fb2_z := b2.out.frozen
      refine tail_b rfl ?_ (by rfl)
      go_wp2_with fail
      refine mixQ_n ?_
      refine tail_nil ?_
      refine region_gen ?_; intro W hW
      clear fb0_0 fb0_1 fb0_2 fb0_z fb1_0 fb1_1 fb1_2 fb1_z fb2_0 fb2_1 fb2_2 fb2_z
      have hz_ : W5.heap.size ≤ W.heap.size := by rw [hW]; simp
      have eF : Fr W5 W (fun k => k = w4.heap.size ∨ W5.heap.size ≤ k) := by rw [hW]; (repeat (first | with_reducible refine Fr.setCell ?_ _ (fun _ => by simp <;> omega) _ | with_reducible refine Fr.alloc ?_ _ | with_reducible refine Fr.drew ?_)); exact Fr.refl _ _
      have z1_ := z1.out; have z2_ := z2.out; have z3_ := z3.out; have z4_ := z4.out; have z5_ := z5.out
      have hB := Hd.mk (((Fr.of_below hB.out (fun k => k = w4.heap.size ∨ W5.heap.size ≤ k)).then_ eF (fun k hk _ => hk)).below (fun k hk => by have := hB.out.size; omega))
      have b0 := Hd.mk (b0.out.fr eF (fun h => by have hlt_ := b0.out.lt; (try simp only at h); omega))
      have b1 := Hd.mk (b1.out.fr eF (fun h => by have hlt_ := b1.out.lt; (try simp only at h); omega))
      have b2 := Hd.mk (show Blk W (w4.heap.size) #[Value.slice D1 x.cols.length d1, Value.int IntKind.i64 x.ver, Value.slice none 0 0] 37 by rw [hW]; exact (Blk.all b2.out [Value.slice D1 x.cols.length d1, Value.int IntKind.i64 x.ver, Value.slice none 0 0] rfl))
      have hO := Hd.mk (R_fr hO.out eF (fun k hk hl h => by skip; (try simp only [rng] at hk); (try simp only at hk); (try simp only at h); omega))
      clear hW eF
      have z6 := Hd.mk hz_; clear hz_
      have hBs := hB.out.size
      have z1_ := z1.out; have z2_ := z2.out; have z3_ := z3.out; have z4_ := z4.out; have z5_ := z5.out; have z6_ := z6.out
      rw [HRR.out]
      exact ⟨w4.heap.size, _, D1, d1, _, _, _, _, _, _, rfl, b2, b0, b1, ⟨by omega⟩, ⟨fun k hk => by have h1 := hk.1; have h2 := hk.2; refine ⟨by omega, by omega, by omega⟩⟩, hO, hB⟩
    · refine stepM_of rfl ?_ (by rfl)
      go_wp2_with fail
      refine ⟨cls_below (below_alloc hS.out _), ?_⟩
      refine genT ?_; intro W3 hW
      have hz_ : W2.heap.size + 1 ≤ W3.heap.size := by rw [hW]; simp
      have hE : Below W2.heap.size W2 W3 := by rw [hW]; (repeat (first | with_reducible refine below_alloc ?_ _ | with_reducible refine below_drew ?_)); exact Below.refl _ _
      have hB := Hd.mk (below_then hB.out hE)
      replace hS := Hd.mk (below_then hS.out hE)
      have b0 := Hd.mk (b0.out.below hE)
      have b1 := Hd.mk (b1.out.below hE)
      have b2 := Hd.mk (show Blk W3 (W2.heap.size) #[Value.slice none 0 0, Value.int IntKind.i64 0, Value.slice none 0 0] 37 by rw [hW]; first | exact (Blk.new _ _ _) | (simpa using (Blk.new _ _ _)))
      clear hW hE
      have z3 := Hd.mk hz_; clear hz_
      refine mixT_b rfl ?_ (by rfl)
      go_wp2_with fail
      apply calls_gen; intro W4 hW
      have hz_ : W3.heap.size ≤ W4.heap.size := by rw [hW]; simp
      have hE : Below W3.heap.size W3 W4 := by rw [hW]; (repeat (first | with_reducible refine below_alloc ?_ _ | with_reducible refine below_drew ?_)); exact Below.refl _ _
      have hB := Hd.mk (below_then hB.out hE)
      replace hS := Hd.mk (below_then hS.out hE)
      have b0 := Hd.mk (b0.out.below hE)
      have b1 := Hd.mk (b1.out.below hE)
      have b2 := Hd.mk (b2.out.below hE)
      clear hW hE
      have z4 := Hd.mk hz_; clear hz_
      refine (spec_l7Schema _ _ x.cols _ (C_below HR2.out hB.out) hlN).mono ?_
      rintro e w5 ⟨v1, rfl, hO, hX⟩
      have b0 := Hd.mk (b0.out.below hX)
      have b1 := Hd.mk (b1.out.below hX)
      have b2 := Hd.mk (b2.out.below hX)
      have hB := Hd.mk (below_then hB.out hX)
      replace hS := Hd.mk (below_then hS.out hX)
      have hz_ := hX.size
      clear hX
      have z5 := Hd.mk hz_; clear hz_
      obtain ⟨D1, d1, rfl, _, _⟩ := R_C hO
      replace hO := Hd.mk (show int.R 3 w5 (rng W4.heap.size w5.heap.size) _ x.cols from R_bound hO)
      go_wp2_with fail
      refine ⟨cls_below hS.out, ?_⟩
      refine mixT_q rfl ?_
      go_big_quiet_want; go_big_quiet_op; go_big_quiet_on; refine wpQuiet_nil ?_
      refine mixT_fin ?_
      clear hS
      clear rfb0_0 rfb0_1 rfb0_2 rfb1_0 rfb1_1 rfb1_2
      clear fb0_0 fb0_1 fb0_2 fb0_z fb1_0 fb1_1 fb1_2 fb1_z
      have fb0_0 : w5.cell? ⟨w.heap.size, 0, none⟩ = some (Value.slice A2 x.cols.length c2) := b0.out.cell 0 rfl
      have fb0_1 : w5.cell? ⟨w.heap.size, 1, none⟩ = some (Value.int IntKind.i64 x.ver) := b0.out.cell 1 rfl
      have fb0_2 : w5.cell? ⟨w.heap.size, 2, none⟩ = some (Value.slice A1 x.tabs.length c1) := b0.out.cell 2 rfl
      have fb0_z := b0.out.frozen
      have fb1_0 : w5.cell? ⟨w.heap.size + 1, 0, none⟩ = some (Value.slice none 0 0) := b1.out.cell 0 rfl
      have fb1_1 : w5.cell? ⟨w.heap.size + 1, 1, none⟩ = some (Value.int IntKind.i64 0) := b1.out.cell 1 rfl
      have fb1_2 : w5.cell? ⟨w.heap.size + 1, 2, none⟩ = some (Value.slice none 0 0) := b1.out.cell 2 rfl
      have fb1_z := b1.out.frozen
      have fb2_0 : w5.cell? ⟨W2.heap.size, 0, none⟩ = some (Value.slice none 0 0) := b2.out.cell 0 rfl
      have fb2_1 : w5.cell? ⟨W2.heap.size, 1, none⟩ = some (Value.int IntKind.i64 0) := b2.out.cell 1 rfl
      have fb2_2 : w5.cell? ⟨W2.heap.size, 2, none⟩ = some (Value.slice none 0 0) := b2.out.cell 2 rfl
      have fb2_z := b2.out.frozen
      refine tail_b rfl ?_ (by rfl)
      go_wp2_with fail
      refine mixQ_n ?_
      refine tail_nil ?_
      refine region_gen ?_; intro W hW
      clear fb0_0 fb0_1 fb0_2 fb0_z fb1_0 fb1_1 fb1_2 fb1_z fb2_0 fb2_1 fb2_2 fb2_z
      have hz_ : w5.heap.size ≤ W.heap.size := by rw [hW]; simp
      have eF : Fr w5 W (fun k => k = W2.heap.size ∨ w5.heap.size ≤ k) := by rw [hW]; (repeat (first | with_reducible refine Fr.setCell ?_ _ (fun _ => by simp <;> omega) _ | with_reducible refine Fr.alloc ?_ _ | with_reducible refine Fr.drew ?_)); exact Fr.refl _ _
      have z1_ := z1.out; have z2_ := z2.out; have z3_ := z3.out; have z4_ := z4.out; have z5_ := z5.out
      have hB := Hd.mk (((Fr.of_below hB.out (fun k => k = W2.heap.size ∨ w5.heap.size ≤ k)).then_ eF (fun k hk _ => hk)).below (fun k hk => by have := hB.out.size; omega))
      have b0 := Hd.mk (b0.out.fr eF (fun h => by have hlt_ := b0.out.lt; (try simp only at h); omega))
      have b1 := Hd.mk (b1.out.fr eF (fun h => by have hlt_ := b1.out.lt; (try simp only at h); omega))
      have b2 := Hd.mk (show Blk W (W2.heap.size) #[Value.slice D1 x.cols.length d1, Value.int IntKind.i64 x.ver, Value.slice none 0 0] 37 by rw [hW]; exact (Blk.all b2.out [Value.slice D1 x.cols.length d1, Value.int IntKind.i64 x.ver, Value.slice none 0 0] rfl))
      have hO := Hd.mk (R_fr hO.out eF (fun k hk hl h => by skip; (try simp only [rng] at hk); (try simp only at hk); (try simp only at h); omega))
      clear hW eF
      have z6 := Hd.mk hz_; clear hz_
      have hBs := hB.out.size
      have z1_ := z1.out; have z2_ := z2.out; have z3_ := z3.out; have z4_ := z4.out; have z5_ := z5.out; have z6_ := z6.out
      rw [HRR.out]
      exact ⟨W2.heap.size, _, D1, d1, _, _, _, _, _, _, rfl, b2, b0, b1, ⟨by omega⟩, ⟨fun k hk => by have h1 := hk.1; have h2 := hk.2; refine ⟨by omega, by omega, by omega⟩⟩, hO, hB⟩
  case refine_2 =>
    rw [HRR.out]
    clear HRR
    rintro a w1 ⟨p, SN, D, d, u5, u6, u7, u8, u9, u10, rfl, bo, b0, b1, hp, hN, hO, hB1⟩
    replace hB := hB1; clear hB1
    have hlt := Hd.mk bo.out.lt
    have fbo_0 : w1.cell? ⟨p, 0, none⟩ = some (Value.slice D x.cols.length d) := bo.out.cell 0 rfl
    have fbo_1 : w1.cell? ⟨p, 1, none⟩ = some (Value.int IntKind.i64 x.ver) := bo.out.cell 1 rfl
    have fbo_2 : w1.cell? ⟨p, 2, none⟩ = some (Value.slice none 0 0) := bo.out.cell 2 rfl
    have fbo_z := bo.out.frozen
    have fb0_0 : w1.cell? ⟨w.heap.size, 0, none⟩ = some (Value.slice A2 x.cols.length c2) := b0.out.cell 0 rfl
    have fb0_1 : w1.cell? ⟨w.heap.size, 1, none⟩ = some (Value.int IntKind.i64 x.ver) := b0.out.cell 1 rfl
    have fb0_2 : w1.cell? ⟨w.heap.size, 2, none⟩ = some (Value.slice A1 x.tabs.length c1) := b0.out.cell 2 rfl
    have fb0_z := b0.out.frozen
    have fb1_0 : w1.cell? ⟨w.heap.size + 1, 0, none⟩ = some (Value.slice none 0 0) := b1.out.cell 0 rfl
    have fb1_1 : w1.cell? ⟨w.heap.size + 1, 1, none⟩ = some (Value.int IntKind.i64 0) := b1.out.cell 1 rfl
    have fb1_2 : w1.cell? ⟨w.heap.size + 1, 2, none⟩ = some (Value.slice none 0 0) := b1.out.cell 2 rfl
    have fb1_z := b1.out.frozen
    go_wp2_with fail
    clear fbo_0 fbo_1 fbo_2 fbo_z fb0_0 fb0_1 fb0_2 fb0_z fb1_0 fb1_1 fb1_2 fb1_z
    go_loopw [4] (fun i wr => ∃ k : Nat, ∃ vL : Value, k ≤ x.tabs.length ∧ i = .int .i64 k ∧ Hd (Blk wr p #[.slice D x.cols.length d, .int .i64 x.ver, vL] 37) ∧ Hd (Blk wr w.heap.size #[Value.slice A2 x.cols.length c2, Value.int IntKind.i64 x.ver, Value.slice A1 x.tabs.length c1] 37) ∧ Hd (Blk wr (w.heap.size + 1) #[Value.slice none 0 0, Value.int IntKind.i64 0, Value.slice none 0 0] 37) ∧ Hd (tRows.R 68 wr (fun k => w.heap.size + 2 ≤ k ∧ k ≠ p ∧ ¬ SN k) vL (x.tabs.take k)) ∧ Hd (int.R 3 wr SN (.slice D x.cols.length d) x.cols) ∧ Hd (Below w.heap.size w wr) ∧ Hd (w1.heap.size ≤ wr.heap.size)) (fun i _ => x.tabs.length - (intOf i).toNat)
    case atStart => exact ⟨0, .slice none 0 0, Nat.zero_le _, rfl, bo, b0, b1, ⟨R_nil⟩, hO, hB, ⟨Nat.le_refl _⟩⟩
    case round =>
      clear bo b0 b1 hO hB
      obtain ⟨k, vL, hk, rfl, bo, b0, b1, hL, hO, hB, hsz1⟩ := hrel
      by_cases hlt2 : k < x.tabs.length
      · obtain ⟨ad, A3, c3, rfl, x0, hc3, hr3⟩ := C_rows_at HR1.out hB.out k hlt2
        have hbk := Nat.le_trans (bulkL_mem bulkRowS (List.getElem_mem hlt2)) (Nat.le_trans (Nat.le_add_left _ _) HLL.out)
        obtain ⟨AL, cL, hvL, hcL, _⟩ := R_C hL.out
        have htk : (x.tabs.take k).length = k := by rw [List.length_take]; omega
        rw [htk] at hvL
        subst hvL
        clear htk
        have HK := Hd.mk hr3; clear hr3
        have hlt := Hd.mk (show p < wr.heap.size from bo.out.lt)
        have hzp := hp.out
        have hzl := hlt.out
        have hsb := hB.out.size
        have fbo_0 : wr.cell? ⟨p, 0, none⟩ = some (Value.slice D x.cols.length d) := bo.out.cell 0 rfl
        have fbo_1 : wr.cell? ⟨p, 1, none⟩ = some (Value.int IntKind.i64 x.ver) := bo.out.cell 1 rfl
        have fbo_2 : wr.cell? ⟨p, 2, none⟩ = some (Value.slice AL k cL) := bo.out.cell 2 rfl
        have fbo_z := bo.out.frozen
        have fb0_0 : wr.cell? ⟨w.heap.size, 0, none⟩ = some (Value.slice A2 x.cols.length c2) := b0.out.cell 0 rfl
        have fb0_1 : wr.cell? ⟨w.heap.size, 1, none⟩ = some (Value.int IntKind.i64 x.ver) := b0.out.cell 1 rfl
        have fb0_2 : wr.cell? ⟨w.heap.size, 2, none⟩ = some (Value.slice (some ad) x.tabs.length c1) := b0.out.cell 2 rfl
        have fb0_z := b0.out.frozen
        have fb1_0 : wr.cell? ⟨w.heap.size + 1, 0, none⟩ = some (Value.slice none 0 0) := b1.out.cell 0 rfl
        have fb1_1 : wr.cell? ⟨w.heap.size + 1, 1, none⟩ = some (Value.int IntKind.i64 0) := b1.out.cell 1 rfl
        have fb1_2 : wr.cell? ⟨w.heap.size + 1, 2, none⟩ = some (Value.slice none 0 0) := b1.out.cell 2 rfl
        have fb1_z := b1.out.frozen
        go_wp2_with fail
        clear fbo_0 fbo_1 fbo_2 fbo_z fb0_0 fb0_1 fb0_2 fb0_z fb1_0 fb1_1 fb1_2 fb1_z
        have y_0 := cell_regrown x0
        have hBW := Hd.mk (Below.refl wr.heap.size wr)
        have fbo_0 : wr.cell? ⟨p, 0, none⟩ = some (Value.slice D x.cols.length d) := bo.out.cell 0 rfl
        have fbo_1 : wr.cell? ⟨p, 1, none⟩ = some (Value.int IntKind.i64 x.ver) := bo.out.cell 1 rfl
        have fbo_2 : wr.cell? ⟨p, 2, none⟩ = some (Value.slice AL k cL) := bo.out.cell 2 rfl
        have fbo_z := bo.out.frozen
        have fb0_0 : wr.cell? ⟨w.heap.size, 0, none⟩ = some (Value.slice A2 x.cols.length c2) := b0.out.cell 0 rfl
        have fb0_1 : wr.cell? ⟨w.heap.size, 1, none⟩ = some (Value.int IntKind.i64 x.ver) := b0.out.cell 1 rfl
        have fb0_2 : wr.cell? ⟨w.heap.size, 2, none⟩ = some (Value.slice (some ad) x.tabs.length c1) := b0.out.cell 2 rfl
        have fb0_z := b0.out.frozen
        have fb1_0 : wr.cell? ⟨w.heap.size + 1, 0, none⟩ = some (Value.slice none 0 0) := b1.out.cell 0 rfl
        have fb1_1 : wr.cell? ⟨w.heap.size + 1, 1, none⟩ = some (Value.int IntKind.i64 0) := b1.out.cell 1 rfl
        have fb1_2 : wr.cell? ⟨w.heap.size + 1, 2, none⟩ = some (Value.slice none 0 0) := b1.out.cell 2 rfl
        have fb1_z := b1.out.frozen
        have rfbo_0 := cell_regrown fbo_0
        have rfbo_1 := cell_regrown fbo_1
        have rfbo_2 := cell_regrown fbo_2
        have rfb0_0 := cell_regrown fb0_0
        have rfb0_1 := cell_regrown fb0_1
        have rfb0_2 := cell_regrown fb0_2
        have rfb1_0 := cell_regrown fb1_0
        have rfb1_1 := cell_regrown fb1_1
        have rfb1_2 := cell_regrown fb1_2
        refine region_mixT (.q 0 (.q 1 (.q 2 (.q 3 (.q 4 (.q 5 (.q 6 (.b 7 (.b 8 .fin))))))))) [9, 10, 11] (by kernel_rfl) (by kernel_rfl) (fun _ _ _ _ _ h => h) ?_
        refine genT ?_
        intro W3 hW
        have hS := Hd.mk (show Below wr.heap.size wr W3 by rw [hW]; exact below_drew (Below.refl _ _))
        have hz_ : wr.heap.size ≤ W3.heap.size := by rw [hW]; simp
        have hE : Below wr.heap.size wr W3 := by rw [hW]; (repeat (first | with_reducible refine below_alloc ?_ _ | with_reducible refine below_drew ?_)); exact Below.refl _ _
        have hB := Hd.mk (below_then hB.out hE)
        have hBW := Hd.mk (below_then hBW.out hE)
        have bo := Hd.mk (bo.out.below hE)
        have b0 := Hd.mk (b0.out.below hE)
        have b1 := Hd.mk (b1.out.below hE)
        clear hW hE
        have z1 := Hd.mk hz_; clear hz_
        refine mixT_q rfl ?_
        go_big_quiet_want; go_big_quiet_op; go_big_quiet_on; refine wpQuiet_nil ?_
        refine mixT_q rfl ?_
        go_big_quiet_want; go_big_quiet_op; go_big_quiet_on; refine wpQuiet_nil ?_
        refine mixT_q rfl ?_
        go_big_quiet_want; go_big_quiet_op; go_big_quiet_on; refine wpQuiet_nil ?_
        refine mixT_q rfl ?_
        go_big_quiet_want; go_big_quiet_op; go_big_quiet_on; refine wpQuiet_nil ?_
        refine mixT_q rfl ?_
        go_big_quiet_want; go_big_quiet_op; go_big_quiet_on; refine wpQuiet_nil ?_
        refine mixT_q rfl ?_
        go_big_quiet_want; go_big_quiet_op; go_big_quiet_on; refine wpQuiet_nil ?_
        refine mixT_q rfl ?_
        go_big_quiet_want; go_big_quiet_op; go_big_quiet_on; refine wpQuiet_nil ?_
        refine mixT_b rfl ?_ (by rfl)
        go_wp2_with fail
        apply calls_gen; intro W4 hW
        have hz_ : W3.heap.size ≤ W4.heap.size := by rw [hW]; simp
        have hE : Below W3.heap.size W3 W4 := by rw [hW]; (repeat (first | with_reducible refine below_alloc ?_ _ | with_reducible refine below_drew ?_)); exact Below.refl _ _
        have hB := Hd.mk (below_then hB.out hE)
        have hBW := Hd.mk (below_then hBW.out hE)
        replace hS := Hd.mk (below_then hS.out hE)
        have bo := Hd.mk (bo.out.below hE)
        have b0 := Hd.mk (b0.out.below hE)
        have b1 := Hd.mk (b1.out.below hE)
        clear hW hE
        have z2 := Hd.mk hz_; clear hz_
        have hWs := Hd.mk (show wr.heap.size ≤ W4.heap.size by have z1_ := z1.out; have z2_ := z2.out; omega)
        refine (spec_l6Rows _ _ x.tabs[k] _ (C_below HK.out hBW.out) hbk).mono ?_
        rintro e w5 ⟨v3, rfl, hO3, hX⟩
        have bo := Hd.mk (bo.out.below hX)
        have b0 := Hd.mk (b0.out.below hX)
        have b1 := Hd.mk (b1.out.below hX)
        have hB := Hd.mk (below_then hB.out hX)
        replace hS := Hd.mk (below_then hS.out hX)
        have hz_ := hX.size
        have hBW := Hd.mk (below_then hBW.out hX)
        have z3 := Hd.mk hz_; clear hz_
        obtain ⟨D3, d3, rfl, _, _⟩ := R_C hO3
        have HO3 := Hd.mk hO3; clear hO3 hX
        go_wp2_with fail
        refine ⟨cls_below hS.out, ?_⟩
        refine mixT_b rfl ?_ (by rfl)
        go_wp2_with fail
        refine ⟨cls_below (below_alloc hS.out _), ?_⟩
        refine mixT_fin ?_
        clear hS
        clear rfbo_0 rfbo_1 rfbo_2 rfb0_0 rfb0_1 rfb0_2 rfb1_0 rfb1_1 rfb1_2
        clear fbo_0 fbo_1 fbo_2 fbo_z fb0_0 fb0_1 fb0_2 fb0_z fb1_0 fb1_1 fb1_2 fb1_z
        have fbo_0 : w5.cell? ⟨p, 0, none⟩ = some (Value.slice D x.cols.length d) := bo.out.cell 0 rfl
        have fbo_1 : w5.cell? ⟨p, 1, none⟩ = some (Value.int IntKind.i64 x.ver) := bo.out.cell 1 rfl
        have fbo_2 : w5.cell? ⟨p, 2, none⟩ = some (Value.slice AL k cL) := bo.out.cell 2 rfl
        have fbo_z := bo.out.frozen
        have fb0_0 : w5.cell? ⟨w.heap.size, 0, none⟩ = some (Value.slice A2 x.cols.length c2) := b0.out.cell 0 rfl
        have fb0_1 : w5.cell? ⟨w.heap.size, 1, none⟩ = some (Value.int IntKind.i64 x.ver) := b0.out.cell 1 rfl
        have fb0_2 : w5.cell? ⟨w.heap.size, 2, none⟩ = some (Value.slice (some ad) x.tabs.length c1) := b0.out.cell 2 rfl
        have fb0_z := b0.out.frozen
        have fb1_0 : w5.cell? ⟨w.heap.size + 1, 0, none⟩ = some (Value.slice none 0 0) := b1.out.cell 0 rfl
        have fb1_1 : w5.cell? ⟨w.heap.size + 1, 1, none⟩ = some (Value.int IntKind.i64 0) := b1.out.cell 1 rfl
        have fb1_2 : w5.cell? ⟨w.heap.size + 1, 2, none⟩ = some (Value.slice none 0 0) := b1.out.cell 2 rfl
        have fb1_z := b1.out.frozen
        refine tail_b rfl ?_ (by rfl)
        have hLb := Hd.mk (R_below (R_bound hL.out) hBW.out)
        have hOb := Hd.mk (R_below (R_bound hO.out) hBW.out)
        have hsW := hWs.out
        go_wp2_with (at_builtin; refine append_one tRows rfl _ _ 35 68 (.slice none 0 0) 24 rfl Try.underlying35 info_RowSS_ rfl (by decide) (by decide) (S := fun k => (fun k => w.heap.size + 2 ≤ k ∧ k ≠ p ∧ ¬ SN k) k ∧ k < wr.heap.size) (T := fun k => W4.heap.size ≤ k) (S' := (fun k => w.heap.size + 2 ≤ k ∧ k ≠ p ∧ ¬ SN k)) (v := .slice AL k cL) (xs := x.tabs.take k) x.tabs[k] [Value.slice D3 x.tabs[k].length d3] rfl rfl hLb.out (sl_O.2 ⟨_, rfl, HO3.out⟩) (fun k h1 hl h2 => by have := h2.2; omega) (fun k h => h.1) (fun k h => ⟨by omega, by omega, fun h3 => by have := (hN.out k h3).2.1; have := hsz1.out; omega⟩) (fun k h => ⟨by have z1_ := z1.out; have z2_ := z2.out; have z3_ := z3.out; omega, by have z1_ := z1.out; have z2_ := z2.out; have z3_ := z3.out; omega, fun h3 => by have z1_ := z1.out; have z2_ := z2.out; have z3_ := z3.out; have := (hN.out k h3).2.1; have := hsz1.out; omega⟩) (by simp; omega) (fun v5 w6 hv5 hX => ?_); obtain ⟨D5, d5, hv5e, _, _⟩ := R_C hv5; subst hv5e)
        have z1_ := z1.out; have z2_ := z2.out; have z3_ := z3.out
        have bo := Hd.mk (bo.out.fr (S := _) hX (fun h => by have h1 := h.1.1; have h2 := h.1.2.1; have h3 := h.2; omega))
        have b0 := Hd.mk (b0.out.fr (S := _) hX (fun h => by have h1 := h.1.1; have h2 := h.1.2.1; have h3 := h.2; omega))
        have b1 := Hd.mk (b1.out.fr (S := _) hX (fun h => by have h1 := h.1.1; have h2 := h.1.2.1; have h3 := h.2; omega))
        have hO6 := Hd.mk (R_fr hOb.out hX (fun k hk _ h => h.1.2.2 hk.1))
        have hB := Hd.mk (below_frS hB.out hX (fun k h => by have := h.1.1; omega))
        have hw5 := Hd.mk (show w1.heap.size ≤ w6.heap.size by have := hX.size; have := hsz1.out; omega)
        clear hX hOb
        have hL5 := Hd.mk hv5; clear hv5 hLb
        have fbo_0 : w6.cell? ⟨p, 0, none⟩ = some (Value.slice D x.cols.length d) := bo.out.cell 0 rfl
        have fbo_1 : w6.cell? ⟨p, 1, none⟩ = some (Value.int IntKind.i64 x.ver) := bo.out.cell 1 rfl
        have fbo_2 : w6.cell? ⟨p, 2, none⟩ = some (Value.slice AL k cL) := bo.out.cell 2 rfl
        have fbo_z := bo.out.frozen
        have fb0_0 : w6.cell? ⟨w.heap.size, 0, none⟩ = some (Value.slice A2 x.cols.length c2) := b0.out.cell 0 rfl
        have fb0_1 : w6.cell? ⟨w.heap.size, 1, none⟩ = some (Value.int IntKind.i64 x.ver) := b0.out.cell 1 rfl
        have fb0_2 : w6.cell? ⟨w.heap.size, 2, none⟩ = some (Value.slice (some ad) x.tabs.length c1) := b0.out.cell 2 rfl
        have fb0_z := b0.out.frozen
        have fb1_0 : w6.cell? ⟨w.heap.size + 1, 0, none⟩ = some (Value.slice none 0 0) := b1.out.cell 0 rfl
        have fb1_1 : w6.cell? ⟨w.heap.size + 1, 1, none⟩ = some (Value.int IntKind.i64 0) := b1.out.cell 1 rfl
        have fb1_2 : w6.cell? ⟨w.heap.size + 1, 2, none⟩ = some (Value.slice none 0 0) := b1.out.cell 2 rfl
        have fb1_z := b1.out.frozen
        refine mixQ_n ?_
        refine tail_b rfl ?_ (by rfl)
        go_wp2_with fail
        refine mixQ_n ?_
        refine tail_b rfl ?_ (by rfl)
        go_wp2_with fail
        refine mixQ_n ?_
        refine tail_nil ?_
        go_wp2_with fail
        clear fbo_0 fbo_1 fbo_2 fbo_z fb0_0 fb0_1 fb0_2 fb0_z fb1_0 fb1_1 fb1_2 fb1_z
        go_roundw
        case rel =>
          refine ⟨k + 1, _, by omega, by go_num, ⟨bo.out.set 2 _⟩, ⟨b0.out.other _ (by simp only; omega) _⟩, ⟨b1.out.other _ (by simp only; omega) _⟩, ⟨?_⟩, ⟨?_⟩, ⟨?_⟩, ⟨?_⟩⟩
          · rw [List.take_succ_eq_append_getElem hlt2]
            have h5 := hL5.out
            exact R_setCell (by simpa using h5) (fun h => h.2.1 rfl) _
          · exact R_mono (fun k h => h.1) (R_setCell hO6.out (fun h => (hN.out _ h.1).2.2 rfl) _)
          · exact ((Fr.of_below hB.out (fun k => k = p)).setCell ⟨p, 2, none⟩ (fun _ => rfl) _).below (fun k h => by omega)
          · simp; exact hw5.out
        case measure => simp [intOf]; omega
      · obtain rfl : k = x.tabs.length := by omega
        obtain ⟨AL, cL, hvL, hcL, _⟩ := R_C hL.out
        subst hvL
        have hzp := hp.out
        have hzl := bo.out.lt
        have hsb := hB.out.size
        have fbo_0 : wr.cell? ⟨p, 0, none⟩ = some (Value.slice D x.cols.length d) := bo.out.cell 0 rfl
        have fbo_1 : wr.cell? ⟨p, 1, none⟩ = some (Value.int IntKind.i64 x.ver) := bo.out.cell 1 rfl
        have fbo_2 : wr.cell? ⟨p, 2, none⟩ = some (Value.slice AL (x.tabs.take x.tabs.length).length cL) := bo.out.cell 2 rfl
        have fbo_z := bo.out.frozen
        have fb0_0 : wr.cell? ⟨w.heap.size, 0, none⟩ = some (Value.slice A2 x.cols.length c2) := b0.out.cell 0 rfl
        have fb0_1 : wr.cell? ⟨w.heap.size, 1, none⟩ = some (Value.int IntKind.i64 x.ver) := b0.out.cell 1 rfl
        have fb0_2 : wr.cell? ⟨w.heap.size, 2, none⟩ = some (Value.slice A1 x.tabs.length c1) := b0.out.cell 2 rfl
        have fb0_z := b0.out.frozen
        have fb1_0 : wr.cell? ⟨w.heap.size + 1, 0, none⟩ = some (Value.slice none 0 0) := b1.out.cell 0 rfl
        have fb1_1 : wr.cell? ⟨w.heap.size + 1, 1, none⟩ = some (Value.int IntKind.i64 0) := b1.out.cell 1 rfl
        have fb1_2 : wr.cell? ⟨w.heap.size + 1, 2, none⟩ = some (Value.slice none 0 0) := b1.out.cell 2 rfl
        have fb1_z := b1.out.frozen
        go_wp2_with fail
        refine bodyPost_retW (v := .agg #[Value.slice D x.cols.length d, Value.int IntKind.i64 x.ver, Value.slice AL x.tabs.length cL]) (by simp [results, Try.results81, go_sem, fbo_0, fbo_1, fbo_2, fbo_z, fb0_0, fb0_1, fb0_2, fb0_z, fb1_0, fb1_1, fb1_2, fb1_z]) rfl ?_
        intro W hW
        clear fbo_0 fbo_1 fbo_2 fbo_z fb0_0 fb0_1 fb0_2 fb0_z fb1_0 fb1_1 fb1_2 fb1_z
        have eF : Fr wr W (fun k => k = w.heap.size + 1) := by rw [hW]; (repeat (first | with_reducible refine Fr.setCell ?_ _ (fun _ => by simp) _)); exact Fr.refl _ _
        have hLf := R_fr hL.out eF (fun k hk _ h => by have := hk.1; (try simp only at h); omega)
        rw [List.take_length] at hLf
        have hOf := R_fr hO.out eF (fun k hk _ h => by have := (hN.out k hk).1; (try simp only at h); omega)
        skip
        refine ⟨[Value.slice D x.cols.length d, Value.int IntKind.i64 x.ver, Value.slice AL x.tabs.length cL], rfl, tStore_O.2 ⟨_, _, SN, (fun k => w.heap.size + 2 ≤ k ∧ k ≠ p ∧ ¬ SN k), rfl, hOf, by simpa using hLf, fun k h => by have := (hN.out k h).1; omega, fun k h => by have := h.1; omega, fun k h h2 => h2.2.2 h⟩, ((Fr.of_below hB.out (fun k => k = w.heap.size + 1)).then_ eF (fun k h _ => h)).below (fun k h => by omega)⟩
end Go.Proofs.Ytnpogfhfjofbmaa.X
