/- What is proved here: the law FnSchema answers true. Conditions: none. -/
import Derived.Test.YtnpogfhfjofbmaaXTp
import Derived.Test.YtnpogfhfjofbmaaXDd
import Derived.Test.YtnpogfhfjofbmaaXFd
namespace Go.Proofs.Ytnpogfhfjofbmaa.X
open Go.RowKit Go.Sort
set_option linter.unusedVariables false
set_option linter.unusedSimpArgs false
open Ty
theorem ids_lt {l : List Int} {t : Int} {rs : List Row} (h : rowsOk l t rs = true) (i : Nat) : ∀ (j : Nat) (hij : i < j) (hj : j < rs.length), rs[i].id < rs[j].id := by
  have hs : ∀ k (hk : k < rs.length), rowsStep l t rs k = true := by
    intro k hk
    unfold rowsOk at h
    rw [Bool.and_eq_true] at h
    exact List.all_eq_true.1 h.1 k (List.mem_range.2 hk)
  have hd : ∀ (d : Nat) (hj : i + 1 + d < rs.length), (rs[i]'(by omega)).id < rs[i + 1 + d].id := by
    intro d
    induction d with
    | zero =>
      intro hj
      have h1 := hs (i + 1 + 0) hj
      rw [rowsStep_at hj, Bool.and_eq_true] at h1
      have h2 := h1.2
      simp only [Nat.add_zero, Nat.add_sub_cancel, Bool.or_eq_true, decide_eq_true_eq] at h2
      rcases h2 with h2 | h2
      · simp at h2
      · rw [List.getD_eq_getElem?_getD, List.getElem?_eq_getElem (by omega)] at h2
        exact h2
    | succ d ih =>
      intro hj
      have h1 := hs (i + 1 + (d + 1)) hj
      rw [rowsStep_at hj, Bool.and_eq_true] at h1
      have h2 := h1.2
      simp only [Bool.or_eq_true, decide_eq_true_eq] at h2
      have h3 := ih (by omega)
      rcases h2 with h2 | h2
      · simp at h2
      · rw [List.getD_eq_getElem?_getD, List.getElem?_eq_getElem (by omega)] at h2
        simp only [show i + 1 + (d + 1) - 1 = i + 1 + d by omega, Option.getD_some] at h2
        omega
  intro j hij hj
  obtain ⟨d, rfl⟩ : ∃ d, j = i + 1 + d := ⟨j - (i + 1), by omega⟩
  exact hd d hj
theorem rows_each {l : List Int} {t : Int} {rs : List Row} (h : rowsOk l t rs = true) (i : Nat) (hi : i < rs.length) : rowOk l t rs[i] = true ∧ rowAt rs rs[i].id = (i : Int) := by
  constructor
  · unfold rowsOk at h
    rw [Bool.and_eq_true] at h
    have h1 := List.all_eq_true.1 h.1 i (List.mem_range.2 hi)
    rw [rowsStep_at hi, Bool.and_eq_true] at h1
    exact h1.1
  · refine idxF_found _ rs i hi ?_ (by simp)
    rw [List.all_eq_true]
    intro x hx
    obtain ⟨j, hj, rfl⟩ := List.mem_take_iff_getElem.1 hx
    have h2 := ids_lt h j i (by omega) hi
    have h3 : rs[j].id ≠ rs[i].id := by omega
    simpa using h3
theorem rows_rest {l : List Int} {t : Int} {rs : List Row} (h : rowsOk l t rs = true) : schemaOk l = true ∧ (rs.length : Int) ≤ 24 := by
  unfold rowsOk at h
  simp only [Bool.and_eq_true, decide_eq_true_eq] at h
  exact ⟨h.2.1, h.2.2.2⟩
set_option maxHeartbeats 16000000 in
set_option maxRecDepth 100000 in
theorem laws_FnSchema {w : World} (A0 : Option Addr) (c0 : Nat) (bs : List Int) (hv0 : bs.length ≤ c0) (hk0 : u8.C w A0 bs) :
    Calls Try.prog 5 #[.slice A0 bs.length c0] w fun e w' => e = .returned (.bool true) ∧ Below w.heap.size w w' := by
  have hm := hk0.1
  have HBS := Hd.mk hk0; clear hk0
  have hB := Hd.mk (Below.refl w.heap.size w)
  go_enter Try.func5, Try.ntmps5
  go_wp2_with fail
  refine (laws_big _ _ bs w hm).mono ?_
  rintro e w1 ⟨rfl, rfl⟩
  by_cases hbig : (1048576 : Int) < bs.length
  · have hbb : decide ((1048576 : Int) < bs.length) = true := decide_eq_true hbig
    rw [hbb]
    go_wp2_with fail
    go_ret
    exact ⟨rfl, Below.refl _ _⟩
  have hbb : decide ((1048576 : Int) < bs.length) = false := decide_eq_false hbig
  rw [hbb]
  have hbs : bs.length ≤ 1048576 := by omega
  clear hbig hbb
  go_wp2_with fail
  refine (spec_DrawRowsOk _ _ bs _ (C_below HBS.out hB.out) hbs).mono ?_
  rintro e w1 ⟨A1, c1, l, t, A2, c2, rs, rfl, hc1, hC1, hc2, hC2, hX⟩
  have hB := Hd.mk (below_then hB.out hX)
  have hz_ := hX.size
  clear hX
  have z1 := Hd.mk hz_; clear hz_
  have HC1 := Hd.mk hC1; have HC2 := Hd.mk hC2
  have hm1 := hC1.1
  have hm2 := hC2.1
  clear hC1 hC2
  have h1B := Hd.mk (Below.refl w1.heap.size w1)
  obtain ⟨ok, hok⟩ : ∃ z, z = rowsOk l t rs := ⟨_, rfl⟩
  have HOK := Hd.mk hok; clear hok
  go_wp2_with fail
  apply calls_gen; intro W2 hW
  have hz_ : w1.heap.size + 1 ≤ W2.heap.size := by rw [hW]; simp
  have hE : Below w1.heap.size w1 W2 := by rw [hW]; (repeat (first | with_reducible refine below_alloc ?_ _ | with_reducible refine below_drew ?_)); exact Below.refl _ _
  have hB := Hd.mk (below_then hB.out hE)
  have h1B := Hd.mk (below_then h1B.out hE)
  have b0 := Hd.mk (show Blk W2 (w1.heap.size) #[Value.slice A1 l.length c1] 34 by rw [hW]; first | exact (Blk.new _ _ _) | (simpa using (Blk.new _ _ _)))
  clear hW hE
  have z2 := Hd.mk hz_; clear hz_
  refine (impl_RowsOk _ _ l t _ _ rs _ (C_below HC1.out h1B.out) (C_below HC2.out h1B.out)).mono ?_
  rintro e w3 ⟨rfl, hX⟩
  have b0 := Hd.mk (b0.out.below hX)
  have hB := Hd.mk (below_then hB.out hX)
  have hz_ := hX.size
  have h1B := Hd.mk (below_then h1B.out hX)
  clear hX
  have z3 := Hd.mk hz_; clear hz_
  rw [← HOK.out]
  have fb0_0 : w3.cell? ⟨w1.heap.size, 0, none⟩ = some (Value.slice A1 l.length c1) := b0.out.cell 0 rfl
  have fb0_z := b0.out.frozen
  go_wp2_with fail
  clear fb0_0 fb0_z
  apply calls_gen; intro W4 hW
  have hz_ : w3.heap.size ≤ W4.heap.size := by rw [hW]; simp
  have hE : Below w3.heap.size w3 W4 := by rw [hW]; (repeat (first | with_reducible refine below_alloc ?_ _ | with_reducible refine below_drew ?_)); exact Below.refl _ _
  have hB := Hd.mk (below_then hB.out hE)
  have h1B := Hd.mk (below_then h1B.out hE)
  have b0 := Hd.mk (b0.out.below hE)
  clear hW hE
  have z4 := Hd.mk hz_; clear hz_
  refine (spec_RowsOk _ _ l t _ _ rs _ (C_below HC1.out h1B.out) (C_below HC2.out h1B.out)).mono ?_
  rintro e w5 ⟨rfl, hX⟩
  have b0 := Hd.mk (b0.out.below hX)
  have hB := Hd.mk (below_then hB.out hX)
  have hz_ := hX.size
  have h1B := Hd.mk (below_then h1B.out hX)
  clear hX
  have z5 := Hd.mk hz_; clear hz_
  rw [← HOK.out]
  have hoo : (ok != ok) = false := by cases ok <;> rfl
  have fb0_0 : w5.cell? ⟨w1.heap.size, 0, none⟩ = some (Value.slice A1 l.length c1) := b0.out.cell 0 rfl
  have fb0_z := b0.out.frozen
  go_wp2_with fail
  clear fb0_0 fb0_z
  apply calls_gen; intro W6 hW
  have hz_ : w5.heap.size ≤ W6.heap.size := by rw [hW]; simp
  have hE : Below w5.heap.size w5 W6 := by rw [hW]; (repeat (first | with_reducible refine below_alloc ?_ _ | with_reducible refine below_drew ?_)); exact Below.refl _ _
  have hB := Hd.mk (below_then hB.out hE)
  have h1B := Hd.mk (below_then h1B.out hE)
  have b0 := Hd.mk (b0.out.below hE)
  clear hW hE
  have z6 := Hd.mk hz_; clear hz_
  refine (spec_DrawRowOk _ _ bs _ (C_below HBS.out hB.out) hbs).mono ?_
  rintro e w7 ⟨A3, c3, q, u, r, cs, rfl, hc3, hC3, hK3, hX⟩
  have b0 := Hd.mk (b0.out.below hX)
  have hB := Hd.mk (below_then hB.out hX)
  have hz_ := hX.size
  have h1B := Hd.mk (below_then h1B.out hX)
  clear hX
  have z7 := Hd.mk hz_; clear hz_
  obtain ⟨A4, c4, rfl, hc4, _⟩ := tRow_K.1 hK3
  have HC3 := Hd.mk hC3; have HK3 := Hd.mk hK3; clear hC3 hK3
  have h2B := Hd.mk (Below.refl w7.heap.size w7)
  obtain ⟨rk, hrk⟩ : ∃ z, z = rowOk q u r := ⟨_, rfl⟩
  have HRK := Hd.mk hrk; clear hrk
  have fb0_0 : w7.cell? ⟨w1.heap.size, 0, none⟩ = some (Value.slice A1 l.length c1) := b0.out.cell 0 rfl
  have fb0_z := b0.out.frozen
  go_wp2_with fail
  clear fb0_0 fb0_z
  apply wp_gen; intro WB hW
  have hz_ : w7.heap.size + 2 ≤ WB.heap.size := by rw [hW]; simp
  have hE : Below w7.heap.size w7 WB := by rw [hW]; (repeat (first | with_reducible refine below_alloc ?_ _ | with_reducible refine below_drew ?_)); exact Below.refl _ _
  have hB := Hd.mk (below_then hB.out hE)
  have h1B := Hd.mk (below_then h1B.out hE)
  have h2B := Hd.mk (below_then h2B.out hE)
  have b0 := Hd.mk (b0.out.below hE)
  have b1 := Hd.mk (show Blk WB (w7.heap.size) #[Value.slice A3 q.length c3] 34 by rw [hW]; first | exact ((Blk.new _ _ _).alloc _) | (simpa using ((Blk.new _ _ _).alloc _)))
  have b2 := Hd.mk (show Blk WB (w7.heap.size + 1) #[Value.int IntKind.i64 r.id, Value.slice A4 r.cells.length c4] 41 by rw [hW]; first | exact (Blk.new1 _ _ _ _) | (simpa using (Blk.new1 _ _ _ _)))
  clear hW hE
  have z8 := Hd.mk hz_; clear hz_
  have fb0_0 : WB.cell? ⟨w1.heap.size, 0, none⟩ = some (Value.slice A1 l.length c1) := b0.out.cell 0 rfl
  have fb0_z := b0.out.frozen
  have fb1_0 : WB.cell? ⟨w7.heap.size, 0, none⟩ = some (Value.slice A3 q.length c3) := b1.out.cell 0 rfl
  have fb1_z := b1.out.frozen
  have fb2_0 : WB.cell? ⟨w7.heap.size + 1, 0, none⟩ = some (Value.int IntKind.i64 r.id) := b2.out.cell 0 rfl
  have fb2_1 : WB.cell? ⟨w7.heap.size + 1, 1, none⟩ = some (Value.slice A4 r.cells.length c4) := b2.out.cell 1 rfl
  have fb2_z := b2.out.frozen
  have rfb0_0 := cell_regrown fb0_0
  have rfb1_0 := cell_regrown fb1_0
  have rfb2_0 := cell_regrown fb2_0
  have rfb2_1 := cell_regrown fb2_1
  refine region_mix [(true, 0), (true, 1), (true, 2), (true, 4), (true, 5), (true, 6), (false, 3), (false, 7), (true, 8)] (by kernel_rfl) (by kernel_rfl) (fun _ _ _ _ _ h => h) ?_
  (repeat (first | (refine mix_z rfl (by rfl) ?_; go_big_quiet_skip; refine wpQuiet_nil ?_) | (refine mix_q rfl ?_; first | (go_big_quiet_skip; refine wpQuiet_nil ?_) | (go_big_quiet_want; go_big_quiet_op; go_big_quiet_on; refine wpQuiet_nil ?_))))
  have hS := Hd.mk (Below.refl WB.heap.size WB)
  refine mix_b rfl ?_ (by rfl)
  go_wp2_with fail
  clear fb0_0 fb0_z fb1_0 fb1_z fb2_0 fb2_1 fb2_z
  apply calls_gen; intro W8 hW
  have hz_ : WB.heap.size ≤ W8.heap.size := by rw [hW]; simp
  have hE : Below WB.heap.size WB W8 := by rw [hW]; (repeat (first | with_reducible refine below_alloc ?_ _ | with_reducible refine below_drew ?_)); exact Below.refl _ _
  have hB := Hd.mk (below_then hB.out hE)
  have h1B := Hd.mk (below_then h1B.out hE)
  have h2B := Hd.mk (below_then h2B.out hE)
  replace hS := Hd.mk (below_then hS.out hE)
  have b0 := Hd.mk (b0.out.below hE)
  have b1 := Hd.mk (b1.out.below hE)
  have b2 := Hd.mk (b2.out.below hE)
  clear hW hE
  have z9 := Hd.mk hz_; clear hz_
  refine (impl_RowOk _ _ q u r _ _ (C_below HC3.out h2B.out) (tRow.K_below h2B.out HK3.out)).mono ?_
  rintro e w9 ⟨rfl, hX⟩
  have b0 := Hd.mk (b0.out.below hX)
  have b1 := Hd.mk (b1.out.below hX)
  have b2 := Hd.mk (b2.out.below hX)
  have hB := Hd.mk (below_then hB.out hX)
  replace hS := Hd.mk (below_then hS.out hX)
  have hz_ := hX.size
  have h1B := Hd.mk (below_then h1B.out hX)
  have h2B := Hd.mk (below_then h2B.out hX)
  clear hX
  have z10 := Hd.mk hz_; clear hz_
  rw [← HRK.out]
  go_wp2_with fail
  refine ⟨cls_below hS.out, ?_⟩
  (repeat (first | (refine mix_z rfl (by rfl) ?_; go_big_quiet_skip; refine wpQuiet_nil ?_) | (refine mix_q rfl ?_; first | (go_big_quiet_skip; refine wpQuiet_nil ?_) | (go_big_quiet_want; go_big_quiet_op; go_big_quiet_on; refine wpQuiet_nil ?_))))
  refine mix_b rfl ?_ (by rfl)
  go_wp2_with fail
  apply calls_gen; intro W10 hW
  have hz_ : w9.heap.size ≤ W10.heap.size := by rw [hW]; simp
  have hE : Below w9.heap.size w9 W10 := by rw [hW]; (repeat (first | with_reducible refine below_alloc ?_ _ | with_reducible refine below_drew ?_)); exact Below.refl _ _
  have hB := Hd.mk (below_then hB.out hE)
  have h1B := Hd.mk (below_then h1B.out hE)
  have h2B := Hd.mk (below_then h2B.out hE)
  replace hS := Hd.mk (below_then hS.out hE)
  have b0 := Hd.mk (b0.out.below hE)
  have b1 := Hd.mk (b1.out.below hE)
  have b2 := Hd.mk (b2.out.below hE)
  clear hW hE
  have z11 := Hd.mk hz_; clear hz_
  refine (spec_RowOk _ _ q u r _ _ (C_below HC3.out h2B.out) (tRow.K_below h2B.out HK3.out)).mono ?_
  rintro e w11 ⟨rfl, hX⟩
  have b0 := Hd.mk (b0.out.below hX)
  have b1 := Hd.mk (b1.out.below hX)
  have b2 := Hd.mk (b2.out.below hX)
  have hB := Hd.mk (below_then hB.out hX)
  replace hS := Hd.mk (below_then hS.out hX)
  have hz_ := hX.size
  have h1B := Hd.mk (below_then h1B.out hX)
  have h2B := Hd.mk (below_then h2B.out hX)
  clear hX
  have z12 := Hd.mk hz_; clear hz_
  rw [← HRK.out]
  have hrr : (rk != rk) = false := by cases rk <;> rfl
  go_wp2_with fail
  refine ⟨cls_below hS.out, ?_⟩
  (repeat (first | (refine mix_z rfl (by rfl) ?_; go_big_quiet_skip; refine wpQuiet_nil ?_) | (refine mix_q rfl ?_; first | (go_big_quiet_skip; refine wpQuiet_nil ?_) | (go_big_quiet_want; go_big_quiet_op; go_big_quiet_on; refine wpQuiet_nil ?_))))
  refine mix_nil ?_
  clear hS rfb0_0 rfb1_0 rfb2_0 rfb2_1
  clear b1 b2
  clear HC3 HK3 h2B HRK
  have fb0_0 : w11.cell? ⟨w1.heap.size, 0, none⟩ = some (Value.slice A1 l.length c1) := b0.out.cell 0 rfl
  have fb0_z := b0.out.frozen
  go_wp2_with fail
  clear fb0_0 fb0_z
  go_loopw [10] (fun i wr => ∃ k : Nat, k ≤ rs.length ∧ i = .int .i64 k ∧ Hd (Blk wr w1.heap.size #[Value.slice A1 l.length c1] 34) ∧ Hd (Below w1.heap.size w1 wr) ∧ Hd (Below w.heap.size w wr) ∧ Hd (w11.heap.size ≤ wr.heap.size)) (fun i _ => rs.length - (intOf i).toNat)
  case atStart => exact ⟨0, Nat.zero_le _, rfl, b0, h1B, hB, ⟨Nat.le_refl _⟩⟩
  case round =>
    clear b0 h1B hB
    obtain ⟨k, hk, rfl, b0, h1B, hB, hzw⟩ := hrel
    have hk0 : (0 : Int) ≤ (k : Int) := by omega
    cases ok
    · by_cases hlt : k < rs.length
      · have hdl : decide ((k : Int) < (rs.length : Int)) = true := decide_eq_true (by omega)
        have fb0_0 : wr.cell? ⟨w1.heap.size, 0, none⟩ = some (Value.slice A1 l.length c1) := b0.out.cell 0 rfl
        have fb0_z := b0.out.frozen
        go_wp2_with fail
        clear fb0_0 fb0_z
        go_ret
        exact ⟨by rfl, hB.out⟩
      · have hdl : decide ((k : Int) < (rs.length : Int)) = false := decide_eq_false (by omega)
        have fb0_0 : wr.cell? ⟨w1.heap.size, 0, none⟩ = some (Value.slice A1 l.length c1) := b0.out.cell 0 rfl
        have fb0_z := b0.out.frozen
        go_wp2_with fail
        clear fb0_0 fb0_z
        go_ret
        exact ⟨by rfl, hB.out⟩
    · by_cases hlt : k < rs.length
      · have hdl : decide ((k : Int) < (rs.length : Int)) = true := decide_eq_true (by omega)
        obtain ⟨hro, hra⟩ := rows_each HOK.out.symm k hlt
        have HRO := Hd.mk hro; have HRA := Hd.mk hra; clear hro hra
        obtain ⟨ad, AL, cL, had, x0, x1, hcL, hrL⟩ := C_row_at HC2.out h1B.out k hlt
        obtain rfl := had
        have HKl := Hd.mk (tRow_K.2 ⟨AL, cL, rfl, hcL, hrL⟩ : tRow.K wr rs[k] _); clear hrL
        have h3B := Hd.mk (Below.refl wr.heap.size wr)
        have fb0_0 : wr.cell? ⟨w1.heap.size, 0, none⟩ = some (Value.slice A1 l.length c1) := b0.out.cell 0 rfl
        have fb0_z := b0.out.frozen
        go_wp2_with fail
        clear fb0_0 fb0_z
        have fb0_0 : wr.cell? ⟨w1.heap.size, 0, none⟩ = some (Value.slice A1 l.length c1) := b0.out.cell 0 rfl
        have fb0_z := b0.out.frozen
        have rfb0_0 := cell_regrown fb0_0
        have rx0 := cell_regrown x0
        have rx1 := cell_regrown x1
        refine region_mix [(true, 0), (true, 1), (true, 2), (true, 3), (true, 4), (true, 5), (false, 6), (true, 7), (true, 8), (true, 9), (true, 10), (true, 11), (true, 12), (true, 13), (true, 14), (true, 16), (false, 15), (true, 17), (true, 18)] (by kernel_rfl) (by kernel_rfl) (fun _ _ _ _ _ h => h) ?_
        (repeat (first | (refine mix_z rfl (by rfl) ?_; go_big_quiet_skip; refine wpQuiet_nil ?_) | (refine mix_q rfl ?_; first | (go_big_quiet_skip; refine wpQuiet_nil ?_) | (go_big_quiet_want; go_big_quiet_op; go_big_quiet_on; refine wpQuiet_nil ?_))))
        have hS := Hd.mk (Below.refl wr.heap.size wr)
        refine mix_b rfl ?_ (by rfl)
        go_wp2_with fail
        clear fb0_0 fb0_z
        apply calls_gen; intro W12 hW
        have hz_ : wr.heap.size ≤ W12.heap.size := by rw [hW]; simp
        have hE : Below wr.heap.size wr W12 := by rw [hW]; (repeat (first | with_reducible refine below_alloc ?_ _ | with_reducible refine below_drew ?_)); exact Below.refl _ _
        have hB := Hd.mk (below_then hB.out hE)
        have h1B := Hd.mk (below_then h1B.out hE)
        have h3B := Hd.mk (below_then h3B.out hE)
        replace hS := Hd.mk (below_then hS.out hE)
        have b0 := Hd.mk (b0.out.below hE)
        clear hW hE
        have z13 := Hd.mk hz_; clear hz_
        clear x0 x1
        refine (impl_RowOk _ _ l t rs[k] _ _ (C_below HC1.out h1B.out) (tRow.K_below h3B.out HKl.out)).mono ?_
        rintro e w13 ⟨rfl, hX⟩
        have b0 := Hd.mk (b0.out.below hX)
        have hB := Hd.mk (below_then hB.out hX)
        replace hS := Hd.mk (below_then hS.out hX)
        have hz_ := hX.size
        have h1B := Hd.mk (below_then h1B.out hX)
        have h3B := Hd.mk (below_then h3B.out hX)
        clear hX
        have z14 := Hd.mk hz_; clear hz_
        rw [HRO.out]
        go_wp2_with fail
        refine ⟨cls_below hS.out, ?_⟩
        (repeat (first | (refine mix_z rfl (by rfl) ?_; go_big_quiet_skip; refine wpQuiet_nil ?_) | (refine mix_q rfl ?_; first | (go_big_quiet_skip; refine wpQuiet_nil ?_) | (go_big_quiet_want; go_big_quiet_op; go_big_quiet_on; refine wpQuiet_nil ?_))))
        refine mix_b rfl ?_ (by rfl)
        go_wp2_with fail
        apply calls_gen; intro W14 hW
        have hz_ : w13.heap.size ≤ W14.heap.size := by rw [hW]; simp
        have hE : Below w13.heap.size w13 W14 := by rw [hW]; (repeat (first | with_reducible refine below_alloc ?_ _ | with_reducible refine below_drew ?_)); exact Below.refl _ _
        have hB := Hd.mk (below_then hB.out hE)
        have h1B := Hd.mk (below_then h1B.out hE)
        have h3B := Hd.mk (below_then h3B.out hE)
        replace hS := Hd.mk (below_then hS.out hE)
        have b0 := Hd.mk (b0.out.below hE)
        clear hW hE
        have z15 := Hd.mk hz_; clear hz_
        refine (impl_RowAt _ _ rs rs[k].id _ (C_below HC2.out h1B.out)).mono ?_
        rintro e w15 ⟨rfl, hX⟩
        have b0 := Hd.mk (b0.out.below hX)
        have hB := Hd.mk (below_then hB.out hX)
        replace hS := Hd.mk (below_then hS.out hX)
        have hz_ := hX.size
        have h1B := Hd.mk (below_then h1B.out hX)
        have h3B := Hd.mk (below_then h3B.out hX)
        clear hX
        have z16 := Hd.mk hz_; clear hz_
        rw [HRA.out]
        go_wp2_with fail
        refine ⟨cls_below hS.out, ?_⟩
        (repeat (first | (refine mix_z rfl (by rfl) ?_; go_big_quiet_skip; refine wpQuiet_nil ?_) | (refine mix_q rfl ?_; first | (go_big_quiet_skip; refine wpQuiet_nil ?_) | (go_big_quiet_want; go_big_quiet_op; go_big_quiet_on; refine wpQuiet_nil ?_))))
        refine mix_nil ?_
        clear hS rfb0_0 rx0 rx1
        go_wp2_with fail
        go_roundw
        case rel => exact ⟨k + 1, by omega, by go_num, b0, h1B, hB, ⟨by have z1_ := z1.out; have z2_ := z2.out; have z3_ := z3.out; have z4_ := z4.out; have z5_ := z5.out; have z6_ := z6.out; have z7_ := z7.out; have z8_ := z8.out; have z9_ := z9.out; have z10_ := z10.out; have z11_ := z11.out; have z12_ := z12.out; have hzw_ := hzw.out; have z13_ := z13.out; have z14_ := z14.out; have z15_ := z15.out; have z16_ := z16.out; show w11.heap.size ≤ w15.heap.size; omega⟩⟩
        case measure => simp [intOf]; omega
      · have hdl : decide ((k : Int) < (rs.length : Int)) = false := decide_eq_false (by omega)
        obtain ⟨hso, h24⟩ := rows_rest HOK.out.symm
        have HSO := Hd.mk hso; clear hso
        have hd24 : decide ((rs.length : Int) ≤ 24) = true := decide_eq_true h24
        have fb0_0 : wr.cell? ⟨w1.heap.size, 0, none⟩ = some (Value.slice A1 l.length c1) := b0.out.cell 0 rfl
        have fb0_z := b0.out.frozen
        go_wp2_with fail
        clear fb0_0 fb0_z
        apply calls_gen; intro W12 hW
        have hz_ : wr.heap.size ≤ W12.heap.size := by rw [hW]; simp
        have hE : Below wr.heap.size wr W12 := by rw [hW]; (repeat (first | with_reducible refine below_alloc ?_ _ | with_reducible refine below_drew ?_)); exact Below.refl _ _
        have hB := Hd.mk (below_then hB.out hE)
        have h1B := Hd.mk (below_then h1B.out hE)
        have b0 := Hd.mk (b0.out.below hE)
        clear hW hE
        have z13 := Hd.mk hz_; clear hz_
        refine (impl_SchemaOk _ _ l _ (C_below HC1.out h1B.out)).mono ?_
        rintro e w13 ⟨rfl, hX⟩
        have b0 := Hd.mk (b0.out.below hX)
        have hB := Hd.mk (below_then hB.out hX)
        have hz_ := hX.size
        have h1B := Hd.mk (below_then h1B.out hX)
        clear hX
        have z14 := Hd.mk hz_; clear hz_
        rw [HSO.out]
        go_wp2_with fail
        go_ret
        exact ⟨by rfl, hB.out⟩
end Go.Proofs.Ytnpogfhfjofbmaa.X
