/- What is proved here: the law FnTable answers true. Conditions: none. -/
import Derived.Test.YtnpogfhfjofbmaaXTp
import Derived.Test.YtnpogfhfjofbmaaXFa
namespace Go.Proofs.Ytnpogfhfjofbmaa.X
open Go.RowKit Go.Sort
set_option linter.unusedVariables false
set_option linter.unusedSimpArgs false
open Ty
set_option maxHeartbeats 16000000 in
set_option maxRecDepth 100000 in
theorem laws_FnTable {w : World} (A0 : Option Addr) (c0 : Nat) (bs : List Int) (hv0 : bs.length ≤ c0) (hk0 : u8.C w A0 bs) :
    Calls Try.prog 6 #[.slice A0 bs.length c0] w fun e w' => e = .returned (.bool true) ∧ Below w.heap.size w w' := by
  have hm := hk0.1
  have HBS := Hd.mk hk0; clear hk0
  have hB := Hd.mk (Below.refl w.heap.size w)
  go_enter Try.func6, Try.ntmps6
  go_wp2_with fail
  refine (laws_big _ _ bs w hm).mono ?_
  rintro e w1 ⟨rfl, rfl⟩
  by_cases hbig : (1048576 : Int) < bs.length
  · have hbb : decide ((1048576 : Int) < bs.length) = true := decide_eq_true hbig
    rw [hbb]
    go_wp2_with fail
    go_ret
    exact ⟨rfl, Below.refl _ _⟩
  have hbb : decide ((1048576 : Int) < bs.length) = false := decide_eq_false hbig
  rw [hbb]
  have hbs : bs.length ≤ 1048576 := by omega
  clear hbig hbb
  go_wp2_with fail
  refine (spec_DrawRowPut _ _ bs _ (C_below HBS.out hB.out) hbs).mono ?_
  rintro e w1 ⟨A1, c1, l, r, cs, rfl, hc1, hC1, hK1, hP, hr2, hX⟩
  have hB := Hd.mk (below_then hB.out hX)
  have hz_ := hX.size
  clear hX
  have z1 := Hd.mk hz_; clear hz_
  obtain ⟨A2, c2, rfl, hc2, _⟩ := tRow_K.1 hK1
  have HC1 := Hd.mk hC1; have HK1 := Hd.mk hK1; clear hC1 hK1
  have hl10 := hP.1
  have hbl := rowsP_bulk (by omega) hP; clear hP
  replace hr2 := Hd.mk hr2
  have h1B := Hd.mk (Below.refl w1.heap.size w1)
  obtain ⟨out, hout⟩ : ∃ z, z = rowPut l r := ⟨_, rfl⟩
  have HOUT := Hd.mk hout; clear hout
  obtain ⟨q, hq, hqr, hqe⟩ := put_has l r
  rw [← HOUT.out] at hqr
  have HQ := Hd.mk (show ∃ h : q < out.length, out[q] = r by rw [HOUT.out]; exact ⟨hq, hqe⟩)
  have HQR := Hd.mk hqr
  clear hq hqe hqr
  have HKEEP := Hd.mk (fun i (hi : i < l.length) (hne : l[i].id ≠ r.id) => put_keeps l r i hi hne)
  rw [← HOUT.out] at HKEEP
  go_wp2_with fail
  apply calls_gen; intro W2 hW
  have hz_ : w1.heap.size + 1 ≤ W2.heap.size := by rw [hW]; simp
  have hE : Below w1.heap.size w1 W2 := by rw [hW]; (repeat (first | with_reducible refine below_alloc ?_ _ | with_reducible refine below_drew ?_)); exact Below.refl _ _
  have hB := Hd.mk (below_then hB.out hE)
  have h1B := Hd.mk (below_then h1B.out hE)
  have b0 := Hd.mk (show Blk W2 (w1.heap.size) #[Value.int IntKind.i64 r.id, Value.slice A2 r.cells.length c2] 41 by rw [hW]; first | exact (Blk.new _ _ _) | (simpa using (Blk.new _ _ _)))
  clear hW hE
  have z2 := Hd.mk hz_; clear hz_
  refine (impl_RowPut _ _ l r _ _ (C_below HC1.out h1B.out) (tRow.K_below h1B.out HK1.out) (by omega) (by have := hr2.out; omega)).mono ?_
  rintro e w3 ⟨v, rfl, hO, hX⟩
  have b0 := Hd.mk (b0.out.below hX)
  have hB := Hd.mk (below_then hB.out hX)
  have hz_ := hX.size
  have h1B := Hd.mk (below_then h1B.out hX)
  clear hX
  have z3 := Hd.mk hz_; clear hz_
  rw [← HOUT.out] at hO
  obtain ⟨AO, cO, hvO, hcO, _⟩ := R_C hO
  subst hvO
  replace hO := Hd.mk (show tRow.R 41 w3 (rng W2.heap.size w3.heap.size) _ out from R_bound hO)
  have hmO := (R_Cv hO.out).1
  have fb0_0 : w3.cell? ⟨w1.heap.size, 0, none⟩ = some (Value.int IntKind.i64 r.id) := b0.out.cell 0 rfl
  have fb0_1 : w3.cell? ⟨w1.heap.size, 1, none⟩ = some (Value.slice A2 r.cells.length c2) := b0.out.cell 1 rfl
  have fb0_z := b0.out.frozen
  go_wp2_with fail
  clear fb0_0 fb0_1 fb0_z
  apply calls_gen; intro W4 hW
  have hz_ : w3.heap.size ≤ W4.heap.size := by rw [hW]; simp
  have hE : Below w3.heap.size w3 W4 := by rw [hW]; (repeat (first | with_reducible refine below_alloc ?_ _ | with_reducible refine below_drew ?_)); exact Below.refl _ _
  have hB := Hd.mk (below_then hB.out hE)
  have h1B := Hd.mk (below_then h1B.out hE)
  have b0 := Hd.mk (b0.out.below hE)
  have hO := Hd.mk (R_below hO.out hE)
  clear hW hE
  have z4 := Hd.mk hz_; clear hz_
  refine (spec_RowPut _ _ l r _ _ (C_below HC1.out h1B.out) (tRow.K_below h1B.out HK1.out) (by omega) (by have := hr2.out; omega)).mono ?_
  rintro e w5 ⟨v, rfl, hO2, hX⟩
  have b0 := Hd.mk (b0.out.below hX)
  have hO := Hd.mk (R_below hO.out hX)
  have hB := Hd.mk (below_then hB.out hX)
  have hz_ := hX.size
  have h1B := Hd.mk (below_then h1B.out hX)
  clear hX
  have z5 := Hd.mk hz_; clear hz_
  rw [← HOUT.out] at hO2
  obtain ⟨AQ, cQ, hvQ, hcQ, _⟩ := R_C hO2
  subst hvQ
  clear hO2
  have fb0_0 : w5.cell? ⟨w1.heap.size, 0, none⟩ = some (Value.int IntKind.i64 r.id) := b0.out.cell 0 rfl
  have fb0_1 : w5.cell? ⟨w1.heap.size, 1, none⟩ = some (Value.slice A2 r.cells.length c2) := b0.out.cell 1 rfl
  have fb0_z := b0.out.frozen
  go_wp2_with fail
  clear fb0_0 fb0_1 fb0_z
  apply calls_gen; intro W6 hW
  have hz_ : w5.heap.size ≤ W6.heap.size := by rw [hW]; simp
  have hE : Below w5.heap.size w5 W6 := by rw [hW]; (repeat (first | with_reducible refine below_alloc ?_ _ | with_reducible refine below_drew ?_)); exact Below.refl _ _
  have hB := Hd.mk (below_then hB.out hE)
  have h1B := Hd.mk (below_then h1B.out hE)
  have b0 := Hd.mk (b0.out.below hE)
  have hO := Hd.mk (R_below hO.out hE)
  clear hW hE
  have z6 := Hd.mk hz_; clear hz_
  refine (impl_RowAt _ _ out r.id _ (R_Cv hO.out)).mono ?_
  rintro e w7 ⟨rfl, hX⟩
  have b0 := Hd.mk (b0.out.below hX)
  have hO := Hd.mk (R_below hO.out hX)
  have hB := Hd.mk (below_then hB.out hX)
  have hz_ := hX.size
  have h1B := Hd.mk (below_then h1B.out hX)
  clear hX
  have z7 := Hd.mk hz_; clear hz_
  rw [HQR.out]
  obtain ⟨hq, hqe⟩ := HQ.out
  have HQE := Hd.mk hqe; clear hqe HQ
  have hq0 : (0 : Int) ≤ (q : Int) := by omega
  have hq1 : decide ((q : Int) < 0) = false := decide_eq_false (by omega)
  have fb0_0 : w7.cell? ⟨w1.heap.size, 0, none⟩ = some (Value.int IntKind.i64 r.id) := b0.out.cell 0 rfl
  have fb0_1 : w7.cell? ⟨w1.heap.size, 1, none⟩ = some (Value.slice A2 r.cells.length c2) := b0.out.cell 1 rfl
  have fb0_z := b0.out.frozen
  go_wp2_with fail
  clear fb0_0 fb0_1 fb0_z
  obtain ⟨ad, Az, cz, rfl, k0, k1, hcz, hrz⟩ := C_row_at (R_Cv hO.out) (Below.refl _ _) q hq
  have HKz := Hd.mk (tRow_K.2 ⟨Az, cz, rfl, hcz, hrz⟩ : tRow.K w7 out[q] _); clear hrz
  have h2B := Hd.mk (Below.refl w7.heap.size w7)
  have fb0_0 : w7.cell? ⟨w1.heap.size, 0, none⟩ = some (Value.int IntKind.i64 r.id) := b0.out.cell 0 rfl
  have fb0_1 : w7.cell? ⟨w1.heap.size, 1, none⟩ = some (Value.slice A2 r.cells.length c2) := b0.out.cell 1 rfl
  have fb0_z := b0.out.frozen
  have rfb0_0 := cell_regrown fb0_0
  have rfb0_1 := cell_regrown fb0_1
  have rk0 := cell_regrown k0
  have rk1 := cell_regrown k1
  refine region_mix [(true, 0), (true, 1), (true, 2), (true, 3), (true, 4), (true, 5), (true, 6), (true, 7), (false, 8), (true, 9), (true, 10)] (by kernel_rfl) (by kernel_rfl) (fun _ _ _ _ _ h => h) ?_
  (repeat (first | (refine mix_z rfl (by rfl) ?_; go_big_quiet_skip; refine wpQuiet_nil ?_) | (refine mix_q rfl ?_; first | (go_big_quiet_skip; refine wpQuiet_nil ?_) | (go_big_quiet_want; go_big_quiet_op; go_big_quiet_on; refine wpQuiet_nil ?_))))
  have hS := Hd.mk (Below.refl w7.heap.size w7)
  refine mix_b rfl ?_ (by rfl)
  go_wp2_with fail
  clear fb0_0 fb0_1 fb0_z
  apply calls_gen; intro W8 hW
  have hz_ : w7.heap.size ≤ W8.heap.size := by rw [hW]; simp
  have hE : Below w7.heap.size w7 W8 := by rw [hW]; (repeat (first | with_reducible refine below_alloc ?_ _ | with_reducible refine below_drew ?_)); exact Below.refl _ _
  have hB := Hd.mk (below_then hB.out hE)
  have h1B := Hd.mk (below_then h1B.out hE)
  have h2B := Hd.mk (below_then h2B.out hE)
  replace hS := Hd.mk (below_then hS.out hE)
  have b0 := Hd.mk (b0.out.below hE)
  have hO := Hd.mk (R_below hO.out hE)
  clear hW hE
  have z8 := Hd.mk hz_; clear hz_
  clear k0 k1
  refine (impl_RowSame out[q] r _ _ _ (tRow.K_below h2B.out HKz.out) (tRow.K_below h1B.out HK1.out)).mono ?_
  rintro e w9 ⟨rfl, hX⟩
  have b0 := Hd.mk (b0.out.below hX)
  have hO := Hd.mk (R_below hO.out hX)
  have hB := Hd.mk (below_then hB.out hX)
  replace hS := Hd.mk (below_then hS.out hX)
  have hz_ := hX.size
  have h1B := Hd.mk (below_then h1B.out hX)
  have h2B := Hd.mk (below_then h2B.out hX)
  clear hX
  have z9 := Hd.mk hz_; clear hz_
  rw [HQE.out, eqv_self]
  go_wp2_with fail
  refine ⟨cls_below hS.out, ?_⟩
  (repeat (first | (refine mix_z rfl (by rfl) ?_; go_big_quiet_skip; refine wpQuiet_nil ?_) | (refine mix_q rfl ?_; first | (go_big_quiet_skip; refine wpQuiet_nil ?_) | (go_big_quiet_want; go_big_quiet_op; go_big_quiet_on; refine wpQuiet_nil ?_))))
  refine mix_nil ?_
  clear hS rfb0_0 rfb0_1 rk0 rk1
  clear HKz HQE
  skip
  have fb0_0 : w9.cell? ⟨w1.heap.size, 0, none⟩ = some (Value.int IntKind.i64 r.id) := b0.out.cell 0 rfl
  have fb0_1 : w9.cell? ⟨w1.heap.size, 1, none⟩ = some (Value.slice A2 r.cells.length c2) := b0.out.cell 1 rfl
  have fb0_z := b0.out.frozen
  go_wp2_with fail
  clear fb0_0 fb0_1 fb0_z
  go_loopw [7] (fun i wr => ∃ k : Nat, k ≤ l.length ∧ i = .int .i64 k ∧ Hd (Blk wr w1.heap.size #[Value.int IntKind.i64 r.id, Value.slice A2 r.cells.length c2] 41) ∧ Hd (tRow.R 41 wr (rng W2.heap.size w3.heap.size) (.slice (some ad) out.length cO) out) ∧ Hd (Below w1.heap.size w1 wr) ∧ Hd (Below w.heap.size w wr) ∧ Hd (w9.heap.size ≤ wr.heap.size)) (fun i _ => l.length - (intOf i).toNat)
  case atStart => exact ⟨0, Nat.zero_le _, rfl, b0, hO, h1B, hB, ⟨Nat.le_refl _⟩⟩
  case round =>
    clear b0 hO h1B hB
    obtain ⟨k, hk, rfl, b0, hO, h1B, hB, hzw⟩ := hrel
    by_cases hlt : k < l.length
    · obtain ⟨adL, AL, cL, had, x0, x1, hcL, hrL⟩ := C_row_at HC1.out h1B.out k hlt
      obtain rfl := had
      have hk0 : (0 : Int) ≤ (k : Int) := by omega
      have HKl := Hd.mk (tRow_K.2 ⟨AL, cL, rfl, hcL, hrL⟩ : tRow.K wr l[k] _); clear hrL
      have h3B := Hd.mk (Below.refl wr.heap.size wr)
      have HX0 := Hd.mk x0; have HX1 := Hd.mk x1
      have fb0_0 : wr.cell? ⟨w1.heap.size, 0, none⟩ = some (Value.int IntKind.i64 r.id) := b0.out.cell 0 rfl
      have fb0_1 : wr.cell? ⟨w1.heap.size, 1, none⟩ = some (Value.slice A2 r.cells.length c2) := b0.out.cell 1 rfl
      have fb0_z := b0.out.frozen
      go_wp2_with fail
      clear fb0_0 fb0_1 fb0_z
      clear x0 x1
      apply calls_gen; intro W10 hW
      have hz_ : wr.heap.size ≤ W10.heap.size := by rw [hW]; simp
      have hE : Below wr.heap.size wr W10 := by rw [hW]; (repeat (first | with_reducible refine below_alloc ?_ _ | with_reducible refine below_drew ?_)); exact Below.refl _ _
      have hB := Hd.mk (below_then hB.out hE)
      have h1B := Hd.mk (below_then h1B.out hE)
      have h3B := Hd.mk (below_then h3B.out hE)
      have b0 := Hd.mk (b0.out.below hE)
      have hO := Hd.mk (R_below hO.out hE)
      clear hW hE
      have z10 := Hd.mk hz_; clear hz_
      refine (impl_RowAt _ _ out l[k].id _ (R_Cv hO.out)).mono ?_
      rintro e w11 ⟨rfl, hX⟩
      have b0 := Hd.mk (b0.out.below hX)
      have hO := Hd.mk (R_below hO.out hX)
      have hB := Hd.mk (below_then hB.out hX)
      have hz_ := hX.size
      have h1B := Hd.mk (below_then h1B.out hX)
      have h3B := Hd.mk (below_then h3B.out hX)
      clear hX
      have z11 := Hd.mk hz_; clear hz_
      by_cases hne : l[k].id = r.id
      · have hdn : decide (l[k].id = r.id) = true := decide_eq_true hne
        have hbn : (l[k].id != r.id) = false := by simpa using hne
        have HNE := Hd.mk hne; clear hne
        have x0 := cell_below h3B.out HX0.out
        have x1 := cell_below h3B.out HX1.out
        have fb0_0 : w11.cell? ⟨w1.heap.size, 0, none⟩ = some (Value.int IntKind.i64 r.id) := b0.out.cell 0 rfl
        have fb0_1 : w11.cell? ⟨w1.heap.size, 1, none⟩ = some (Value.slice A2 r.cells.length c2) := b0.out.cell 1 rfl
        have fb0_z := b0.out.frozen
        go_wp2_with fail
        clear fb0_0 fb0_1 fb0_z
        have fb0_0 : w11.cell? ⟨w1.heap.size, 0, none⟩ = some (Value.int IntKind.i64 r.id) := b0.out.cell 0 rfl
        have fb0_1 : w11.cell? ⟨w1.heap.size, 1, none⟩ = some (Value.slice A2 r.cells.length c2) := b0.out.cell 1 rfl
        have fb0_z := b0.out.frozen
        have rfb0_0 := cell_regrown fb0_0
        have rfb0_1 := cell_regrown fb0_1
        have rx0 := cell_regrown x0
        refine region_mix [(true, 0), (true, 1), (true, 2), (true, 3), (true, 4), (true, 5), (true, 6), (true, 7), (true, 8), (true, 9), (true, 10), (true, 11), (true, 12), (true, 13), (true, 14), (true, 15), (true, 16), (true, 17), (true, 19), (false, 18), (true, 20), (true, 21), (true, 22), (true, 23), (true, 24), (true, 25), (true, 26), (true, 27), (true, 28), (true, 29), (false, 30), (true, 31), (true, 32), (true, 33), (true, 34)] (by kernel_rfl) (by kernel_rfl) (fun _ _ _ _ _ h => h) ?_
        (repeat (first | (refine mix_z rfl (by rfl) ?_; go_big_quiet_skip; refine wpQuiet_nil ?_) | (refine mix_q rfl ?_; first | (go_big_quiet_skip; refine wpQuiet_nil ?_) | (go_big_quiet_want; go_big_quiet_op; go_big_quiet_on; refine wpQuiet_nil ?_))))
        refine mix_nil ?_
        clear fb0_0 fb0_1 fb0_z
        have hB := Hd.mk (below_drew hB.out)
        have h1B := Hd.mk (below_drew h1B.out)
        replace b0 := Hd.mk b0.out.drew
        replace hO := Hd.mk (R_below hO.out (below_drew (Below.refl _ _)))
        clear x0 x1
        go_wp2_with fail
        go_roundw
        case rel => exact ⟨k + 1, by omega, by go_num, b0, hO, h1B, hB, ⟨by have z1_ := z1.out; have z2_ := z2.out; have z3_ := z3.out; have z4_ := z4.out; have z5_ := z5.out; have z6_ := z6.out; have z7_ := z7.out; have z8_ := z8.out; have z9_ := z9.out; have hzw_ := hzw.out; have z10_ := z10.out; have z11_ := z11.out; show w9.heap.size ≤ w11.heap.size; omega⟩⟩
        case measure => simp [intOf]; omega
      · obtain ⟨j, hj, hje, hjk⟩ := HKEEP.out k hlt hne
        have hbn : (l[k].id != r.id) = true := by simpa using hne
        have hdn : decide (l[k].id = r.id) = false := decide_eq_false hne
        clear hne
        rw [hje]
        have HJK := Hd.mk hjk; clear hjk hje
        have hj0 : (0 : Int) ≤ (j : Int) := by omega
        have hj1 : decide ((j : Int) < 0) = false := decide_eq_false (by omega)
        have x0 := cell_below h3B.out HX0.out
        have x1 := cell_below h3B.out HX1.out
        have fb0_0 : w11.cell? ⟨w1.heap.size, 0, none⟩ = some (Value.int IntKind.i64 r.id) := b0.out.cell 0 rfl
        have fb0_1 : w11.cell? ⟨w1.heap.size, 1, none⟩ = some (Value.slice A2 r.cells.length c2) := b0.out.cell 1 rfl
        have fb0_z := b0.out.frozen
        go_wp2_with fail
        clear fb0_0 fb0_1 fb0_z
        obtain ⟨adO, Az, cz, had, y0, y1, hcz, hrz⟩ := C_row_at (R_Cv hO.out) (Below.refl _ _) j hj
        obtain rfl : ad = adO := by injection had
        have HKz := Hd.mk (tRow_K.2 ⟨Az, cz, rfl, hcz, hrz⟩ : tRow.K w11 out[j] _); clear hrz had
        have h4B := Hd.mk (Below.refl w11.heap.size w11)
        have fb0_0 : w11.cell? ⟨w1.heap.size, 0, none⟩ = some (Value.int IntKind.i64 r.id) := b0.out.cell 0 rfl
        have fb0_1 : w11.cell? ⟨w1.heap.size, 1, none⟩ = some (Value.slice A2 r.cells.length c2) := b0.out.cell 1 rfl
        have fb0_z := b0.out.frozen
        have rfb0_0 := cell_regrown fb0_0
        have rfb0_1 := cell_regrown fb0_1
        have rx0 := cell_regrown x0
        have rx1 := cell_regrown x1
        have ry0 := cell_regrown y0
        have ry1 := cell_regrown y1
        refine region_mix [(true, 0), (true, 1), (true, 2), (true, 3), (true, 4), (true, 5), (true, 6), (true, 7), (true, 8), (true, 9), (true, 10), (true, 11), (true, 12), (true, 13), (true, 14), (true, 15), (true, 16), (true, 17), (true, 19), (false, 18), (true, 20), (true, 21), (true, 22), (true, 23), (true, 24), (true, 25), (true, 26), (true, 27), (true, 28), (true, 29), (false, 30), (true, 31), (true, 32), (true, 33), (true, 34)] (by kernel_rfl) (by kernel_rfl) (fun _ _ _ _ _ h => h) ?_
        (repeat (first | (refine mix_z rfl (by rfl) ?_; go_big_quiet_skip; refine wpQuiet_nil ?_) | (refine mix_q rfl ?_; first | (go_big_quiet_skip; refine wpQuiet_nil ?_) | (go_big_quiet_want; go_big_quiet_op; go_big_quiet_on; refine wpQuiet_nil ?_))))
        have hS := Hd.mk (Below.refl w11.heap.size w11)
        refine mix_b rfl ?_ (by rfl)
        go_wp2_with fail
        clear fb0_0 fb0_1 fb0_z
        apply calls_gen; intro W12 hW
        have hz_ : w11.heap.size ≤ W12.heap.size := by rw [hW]; simp
        have hE : Below w11.heap.size w11 W12 := by rw [hW]; (repeat (first | with_reducible refine below_alloc ?_ _ | with_reducible refine below_drew ?_)); exact Below.refl _ _
        have hB := Hd.mk (below_then hB.out hE)
        have h1B := Hd.mk (below_then h1B.out hE)
        have h3B := Hd.mk (below_then h3B.out hE)
        have h4B := Hd.mk (below_then h4B.out hE)
        replace hS := Hd.mk (below_then hS.out hE)
        have b0 := Hd.mk (b0.out.below hE)
        have hO := Hd.mk (R_below hO.out hE)
        clear hW hE
        have z12 := Hd.mk hz_; clear hz_
        clear x0 x1 y0 y1
        refine (impl_RowAt _ _ l l[k].id _ (C_below HC1.out h1B.out)).mono ?_
        rintro e w13 ⟨rfl, hX⟩
        have b0 := Hd.mk (b0.out.below hX)
        have hO := Hd.mk (R_below hO.out hX)
        have hB := Hd.mk (below_then hB.out hX)
        replace hS := Hd.mk (below_then hS.out hX)
        have hz_ := hX.size
        have h1B := Hd.mk (below_then h1B.out hX)
        have h3B := Hd.mk (below_then h3B.out hX)
        have h4B := Hd.mk (below_then h4B.out hX)
        clear hX
        have z13 := Hd.mk hz_; clear hz_
        by_cases hka : rowAt l l[k].id = (k : Int)
        · have HE := Hd.mk (HJK.out hka)
          rw [hka]
          clear hka
          go_wp2_with fail
          refine ⟨cls_below hS.out, ?_⟩
          (repeat (first | (refine mix_z rfl (by rfl) ?_; go_big_quiet_skip; refine wpQuiet_nil ?_) | (refine mix_q rfl ?_; first | (go_big_quiet_skip; refine wpQuiet_nil ?_) | (go_big_quiet_want; go_big_quiet_op; go_big_quiet_on; refine wpQuiet_nil ?_))))
          refine mix_b rfl ?_ (by rfl)
          go_wp2_with fail
          apply calls_gen; intro W14 hW
          have hz_ : w13.heap.size ≤ W14.heap.size := by rw [hW]; simp
          have hE : Below w13.heap.size w13 W14 := by rw [hW]; (repeat (first | with_reducible refine below_alloc ?_ _ | with_reducible refine below_drew ?_)); exact Below.refl _ _
          have hB := Hd.mk (below_then hB.out hE)
          have h1B := Hd.mk (below_then h1B.out hE)
          have h3B := Hd.mk (below_then h3B.out hE)
          have h4B := Hd.mk (below_then h4B.out hE)
          replace hS := Hd.mk (below_then hS.out hE)
          have b0 := Hd.mk (b0.out.below hE)
          have hO := Hd.mk (R_below hO.out hE)
          clear hW hE
          have z14 := Hd.mk hz_; clear hz_
          refine (impl_RowSame out[j] l[k] _ _ _ (tRow.K_below h4B.out HKz.out) (tRow.K_below h3B.out HKl.out)).mono ?_
          rintro e w15 ⟨rfl, hX⟩
          have b0 := Hd.mk (b0.out.below hX)
          have hO := Hd.mk (R_below hO.out hX)
          have hB := Hd.mk (below_then hB.out hX)
          replace hS := Hd.mk (below_then hS.out hX)
          have hz_ := hX.size
          have h1B := Hd.mk (below_then h1B.out hX)
          have h3B := Hd.mk (below_then h3B.out hX)
          have h4B := Hd.mk (below_then h4B.out hX)
          clear hX
          have z15 := Hd.mk hz_; clear hz_
          rw [HE.out, eqv_self]
          go_wp2_with fail
          refine ⟨cls_below hS.out, ?_⟩
          (repeat (first | (refine mix_z rfl (by rfl) ?_; go_big_quiet_skip; refine wpQuiet_nil ?_) | (refine mix_q rfl ?_; first | (go_big_quiet_skip; refine wpQuiet_nil ?_) | (go_big_quiet_want; go_big_quiet_op; go_big_quiet_on; refine wpQuiet_nil ?_))))
          refine mix_nil ?_
          clear hS rfb0_0 rfb0_1 rx0 rx1 ry0 ry1
          go_wp2_with fail
          go_roundw
          case rel => exact ⟨k + 1, by omega, by go_num, b0, hO, h1B, hB, ⟨by have z1_ := z1.out; have z2_ := z2.out; have z3_ := z3.out; have z4_ := z4.out; have z5_ := z5.out; have z6_ := z6.out; have z7_ := z7.out; have z8_ := z8.out; have z9_ := z9.out; have hzw_ := hzw.out; have z10_ := z10.out; have z11_ := z11.out; have z12_ := z12.out; have z13_ := z13.out; have z14_ := z14.out; have z15_ := z15.out; show w9.heap.size ≤ w15.heap.size; omega⟩⟩
          case measure => simp [intOf]; omega
        · have hkb : decide (rowAt l l[k].id = (k : Int)) = false := decide_eq_false hka
          have hkc : (rowAt l l[k].id == (k : Int)) = false := by simpa using hka
          clear hka
          go_wp2_with fail
          refine ⟨cls_below hS.out, ?_⟩
          (repeat (first | (refine mix_z rfl (by rfl) ?_; go_big_quiet_skip; refine wpQuiet_nil ?_) | (refine mix_q rfl ?_; first | (go_big_quiet_skip; refine wpQuiet_nil ?_) | (go_big_quiet_want; go_big_quiet_op; go_big_quiet_on; refine wpQuiet_nil ?_))))
          refine mix_nil ?_
          clear hS rfb0_0 rfb0_1 rx0 rx1 ry0 ry1
          go_wp2_with fail
          go_roundw
          case rel => exact ⟨k + 1, by omega, by go_num, b0, hO, h1B, hB, ⟨by have z1_ := z1.out; have z2_ := z2.out; have z3_ := z3.out; have z4_ := z4.out; have z5_ := z5.out; have z6_ := z6.out; have z7_ := z7.out; have z8_ := z8.out; have z9_ := z9.out; have hzw_ := hzw.out; have z10_ := z10.out; have z11_ := z11.out; have z12_ := z12.out; have z13_ := z13.out; show w9.heap.size ≤ w13.heap.size; omega⟩⟩
          case measure => simp [intOf]; omega
    · obtain rfl : k = l.length := by omega
      clear hO b0 h1B
      go_wp2_with fail
      apply calls_gen; intro W10 hW
      have hz_ : wr.heap.size ≤ W10.heap.size := by rw [hW]; simp
      have hE : Below wr.heap.size wr W10 := by rw [hW]; (repeat (first | with_reducible refine below_alloc ?_ _ | with_reducible refine below_drew ?_)); exact Below.refl _ _
      have hB := Hd.mk (below_then hB.out hE)
      clear hW hE
      have z10 := Hd.mk hz_; clear hz_
      refine (spec_DrawRowDrop _ _ bs _ (C_below HBS.out hB.out) hbs).mono ?_
      rintro e w11 ⟨A5, c5, l5, n5, rfl, hc5, hC5, hP5, hI5, hX⟩
      have hB := Hd.mk (below_then hB.out hX)
      have hz_ := hX.size
      clear hX
      have z11 := Hd.mk hz_; clear hz_
      have HC5 := Hd.mk hC5; clear hC5
      have hm5 := HC5.out.1
      have hbl5 := rowsP_bulk (by omega) hP5; clear hP5
      have HI5 := Hd.mk (drop_gone l5 n5 hI5); clear hI5
      have h5B := Hd.mk (Below.refl w11.heap.size w11)
      obtain ⟨less, hless⟩ : ∃ z, z = rowDrop l5 n5 := ⟨_, rfl⟩
      rw [← hless] at HI5
      have HLS := Hd.mk hless; clear hless
      go_wp2_with fail
      apply calls_gen; intro W12 hW
      have hz_ : w11.heap.size ≤ W12.heap.size := by rw [hW]; simp
      have hE : Below w11.heap.size w11 W12 := by rw [hW]; (repeat (first | with_reducible refine below_alloc ?_ _ | with_reducible refine below_drew ?_)); exact Below.refl _ _
      have hB := Hd.mk (below_then hB.out hE)
      have h5B := Hd.mk (below_then h5B.out hE)
      clear hW hE
      have z12 := Hd.mk hz_; clear hz_
      refine (impl_RowDrop _ _ l5 n5 _ (C_below HC5.out h5B.out) (by omega)).mono ?_
      rintro e w13 ⟨v, rfl, hL, hX⟩
      have hB := Hd.mk (below_then hB.out hX)
      have hz_ := hX.size
      have h5B := Hd.mk (below_then h5B.out hX)
      clear hX
      have z13 := Hd.mk hz_; clear hz_
      rw [← HLS.out] at hL
      obtain ⟨A6, c6, hv6, hc6, _⟩ := R_C hL
      subst hv6
      replace hL := Hd.mk hL
      have hm6 := (R_Cv hL.out).1
      replace hL := Hd.mk (show tRow.R 41 w13 (rng W12.heap.size w13.heap.size) _ less from R_bound hL.out)
      go_wp2_with fail
      apply calls_gen; intro W14 hW
      have hz_ : w13.heap.size ≤ W14.heap.size := by rw [hW]; simp
      have hE : Below w13.heap.size w13 W14 := by rw [hW]; (repeat (first | with_reducible refine below_alloc ?_ _ | with_reducible refine below_drew ?_)); exact Below.refl _ _
      have hB := Hd.mk (below_then hB.out hE)
      have h5B := Hd.mk (below_then h5B.out hE)
      have hL := Hd.mk (R_below hL.out hE)
      clear hW hE
      have z14 := Hd.mk hz_; clear hz_
      refine (spec_DrawRowAt _ _ bs _ (C_below HBS.out hB.out) hbs).mono ?_
      rintro e w15 ⟨A7, c7, l7, n7, rfl, hc7, hC7, hP7, hI7, hX⟩
      have hL := Hd.mk (R_below hL.out hX)
      have hB := Hd.mk (below_then hB.out hX)
      have hz_ := hX.size
      have h5B := Hd.mk (below_then h5B.out hX)
      clear hX
      have z15 := Hd.mk hz_; clear hz_
      have HC7 := Hd.mk hC7; clear hC7 hP7 hI7
      have hm7 := HC7.out.1
      have h7B := Hd.mk (Below.refl w15.heap.size w15)
      go_wp2_with fail
      apply calls_gen; intro W16 hW
      have hz_ : w15.heap.size ≤ W16.heap.size := by rw [hW]; simp
      have hE : Below w15.heap.size w15 W16 := by rw [hW]; (repeat (first | with_reducible refine below_alloc ?_ _ | with_reducible refine below_drew ?_)); exact Below.refl _ _
      have hB := Hd.mk (below_then hB.out hE)
      have h5B := Hd.mk (below_then h5B.out hE)
      have h7B := Hd.mk (below_then h7B.out hE)
      have hL := Hd.mk (R_below hL.out hE)
      clear hW hE
      have z16 := Hd.mk hz_; clear hz_
      refine (spec_DrawRowSame _ _ bs _ (C_below HBS.out hB.out) hbs).mono ?_
      rintro e w17 ⟨x, y, csx, csy, rfl, hKx, hKy, hx2, hy2, hX⟩
      have hL := Hd.mk (R_below hL.out hX)
      have hB := Hd.mk (below_then hB.out hX)
      have hz_ := hX.size
      have h5B := Hd.mk (below_then h5B.out hX)
      have h7B := Hd.mk (below_then h7B.out hX)
      clear hX
      have z17 := Hd.mk hz_; clear hz_
      obtain ⟨A8, c8, rfl, hc8, _⟩ := tRow_K.1 hKx
      obtain ⟨A9, c9, rfl, hc9, _⟩ := tRow_K.1 hKy
      have HKx := Hd.mk hKx; have HKy := Hd.mk hKy; clear hKx hKy
      clear hx2 hy2
      have h8B := Hd.mk (Below.refl w17.heap.size w17)
      go_wp2_with fail
      apply wp_gen; intro WB hW
      have hz_ : w17.heap.size + 2 ≤ WB.heap.size := by rw [hW]; simp
      have hE : Below w17.heap.size w17 WB := by rw [hW]; (repeat (first | with_reducible refine below_alloc ?_ _ | with_reducible refine below_drew ?_)); exact Below.refl _ _
      have hB := Hd.mk (below_then hB.out hE)
      have h5B := Hd.mk (below_then h5B.out hE)
      have h7B := Hd.mk (below_then h7B.out hE)
      have h8B := Hd.mk (below_then h8B.out hE)
      have bx := Hd.mk (show Blk WB (w17.heap.size) #[Value.int IntKind.i64 x.id, Value.slice A8 x.cells.length c8] 41 by rw [hW]; first | exact ((Blk.new _ _ _).alloc _) | (simpa using ((Blk.new _ _ _).alloc _)))
      have b9 := Hd.mk (show Blk WB (w17.heap.size + 1) #[Value.int IntKind.i64 y.id, Value.slice A9 y.cells.length c9] 41 by rw [hW]; first | exact (Blk.new1 _ _ _ _) | (simpa using (Blk.new1 _ _ _ _)))
      have hL := Hd.mk (R_below hL.out hE)
      clear hW hE
      have z18 := Hd.mk hz_; clear hz_
      have fbx_0 : WB.cell? ⟨w17.heap.size, 0, none⟩ = some (Value.int IntKind.i64 x.id) := bx.out.cell 0 rfl
      have fbx_1 : WB.cell? ⟨w17.heap.size, 1, none⟩ = some (Value.slice A8 x.cells.length c8) := bx.out.cell 1 rfl
      have fbx_z := bx.out.frozen
      have fb9_0 : WB.cell? ⟨w17.heap.size + 1, 0, none⟩ = some (Value.int IntKind.i64 y.id) := b9.out.cell 0 rfl
      have fb9_1 : WB.cell? ⟨w17.heap.size + 1, 1, none⟩ = some (Value.slice A9 y.cells.length c9) := b9.out.cell 1 rfl
      have fb9_z := b9.out.frozen
      have rfbx_0 := cell_regrown fbx_0
      have rfbx_1 := cell_regrown fbx_1
      have rfb9_0 := cell_regrown fb9_0
      have rfb9_1 := cell_regrown fb9_1
      refine region_mix [(true, 0), (true, 1), (false, 2), (true, 3), (true, 4), (true, 5), (true, 6), (true, 7), (true, 8), (false, 9), (true, 10), (true, 11), (true, 12), (true, 13), (true, 14), (true, 15), (true, 17), (true, 18), (false, 16), (false, 19), (true, 20), (true, 21), (true, 22), (true, 23), (true, 24), (true, 26), (true, 27), (false, 25), (false, 28), (true, 29), (true, 30), (true, 31)] (by kernel_rfl) (by kernel_rfl) (fun _ _ _ _ _ h => h) ?_
      (repeat (first | (refine mix_z rfl (by rfl) ?_; go_big_quiet_skip; refine wpQuiet_nil ?_) | (refine mix_q rfl ?_; first | (go_big_quiet_skip; refine wpQuiet_nil ?_) | (go_big_quiet_want; go_big_quiet_op; go_big_quiet_on; refine wpQuiet_nil ?_))))
      have hS := Hd.mk (Below.refl WB.heap.size WB)
      refine mix_b rfl ?_ (by rfl)
      go_wp2_with fail
      clear fbx_0 fbx_1 fbx_z fb9_0 fb9_1 fb9_z
      apply calls_gen; intro W18 hW
      have hz_ : WB.heap.size ≤ W18.heap.size := by rw [hW]; simp
      have hE : Below WB.heap.size WB W18 := by rw [hW]; (repeat (first | with_reducible refine below_alloc ?_ _ | with_reducible refine below_drew ?_)); exact Below.refl _ _
      have hB := Hd.mk (below_then hB.out hE)
      have h5B := Hd.mk (below_then h5B.out hE)
      have h7B := Hd.mk (below_then h7B.out hE)
      have h8B := Hd.mk (below_then h8B.out hE)
      replace hS := Hd.mk (below_then hS.out hE)
      have bx := Hd.mk (bx.out.below hE)
      have b9 := Hd.mk (b9.out.below hE)
      have hL := Hd.mk (R_below hL.out hE)
      clear hW hE
      have z19 := Hd.mk hz_; clear hz_
      refine (impl_RowAt _ _ less n5 _ (R_Cv hL.out)).mono ?_
      rintro e w19 ⟨rfl, hX⟩
      have bx := Hd.mk (bx.out.below hX)
      have b9 := Hd.mk (b9.out.below hX)
      have hL := Hd.mk (R_below hL.out hX)
      have hB := Hd.mk (below_then hB.out hX)
      replace hS := Hd.mk (below_then hS.out hX)
      have hz_ := hX.size
      have h5B := Hd.mk (below_then h5B.out hX)
      have h7B := Hd.mk (below_then h7B.out hX)
      have h8B := Hd.mk (below_then h8B.out hX)
      clear hX
      have z20 := Hd.mk hz_; clear hz_
      rw [HI5.out]
      go_wp2_with fail
      refine ⟨cls_below hS.out, ?_⟩
      (repeat (first | (refine mix_z rfl (by rfl) ?_; go_big_quiet_skip; refine wpQuiet_nil ?_) | (refine mix_q rfl ?_; first | (go_big_quiet_skip; refine wpQuiet_nil ?_) | (go_big_quiet_want; go_big_quiet_op; go_big_quiet_on; refine wpQuiet_nil ?_))))
      refine mix_b rfl ?_ (by rfl)
      go_wp2_with fail
      apply calls_gen; intro W20 hW
      have hz_ : w19.heap.size ≤ W20.heap.size := by rw [hW]; simp
      have hE : Below w19.heap.size w19 W20 := by rw [hW]; (repeat (first | with_reducible refine below_alloc ?_ _ | with_reducible refine below_drew ?_)); exact Below.refl _ _
      have hB := Hd.mk (below_then hB.out hE)
      have h5B := Hd.mk (below_then h5B.out hE)
      have h7B := Hd.mk (below_then h7B.out hE)
      have h8B := Hd.mk (below_then h8B.out hE)
      replace hS := Hd.mk (below_then hS.out hE)
      have bx := Hd.mk (bx.out.below hE)
      have b9 := Hd.mk (b9.out.below hE)
      have hL := Hd.mk (R_below hL.out hE)
      clear hW hE
      have z21 := Hd.mk hz_; clear hz_
      refine (spec_RowDrop _ _ l5 n5 _ (C_below HC5.out h5B.out) (by omega)).mono ?_
      rintro e w21 ⟨v, rfl, hL2, hX⟩
      have bx := Hd.mk (bx.out.below hX)
      have b9 := Hd.mk (b9.out.below hX)
      have hL := Hd.mk (R_below hL.out hX)
      have hB := Hd.mk (below_then hB.out hX)
      replace hS := Hd.mk (below_then hS.out hX)
      have hz_ := hX.size
      have h5B := Hd.mk (below_then h5B.out hX)
      have h7B := Hd.mk (below_then h7B.out hX)
      have h8B := Hd.mk (below_then h8B.out hX)
      clear hX
      have z22 := Hd.mk hz_; clear hz_
      rw [← HLS.out] at hL2
      obtain ⟨A10, c10, hv10, hc10, _⟩ := R_C hL2
      subst hv10
      clear hL2
      go_wp2_with fail
      refine ⟨cls_below hS.out, ?_⟩
      (repeat (first | (refine mix_z rfl (by rfl) ?_; go_big_quiet_skip; refine wpQuiet_nil ?_) | (refine mix_q rfl ?_; first | (go_big_quiet_skip; refine wpQuiet_nil ?_) | (go_big_quiet_want; go_big_quiet_op; go_big_quiet_on; refine wpQuiet_nil ?_))))
      refine mix_b rfl ?_ (by rfl)
      go_wp2_with fail
      apply calls_gen; intro W22 hW
      have hz_ : w21.heap.size ≤ W22.heap.size := by rw [hW]; simp
      have hE : Below w21.heap.size w21 W22 := by rw [hW]; (repeat (first | with_reducible refine below_alloc ?_ _ | with_reducible refine below_drew ?_)); exact Below.refl _ _
      have hB := Hd.mk (below_then hB.out hE)
      have h5B := Hd.mk (below_then h5B.out hE)
      have h7B := Hd.mk (below_then h7B.out hE)
      have h8B := Hd.mk (below_then h8B.out hE)
      replace hS := Hd.mk (below_then hS.out hE)
      have bx := Hd.mk (bx.out.below hE)
      have b9 := Hd.mk (b9.out.below hE)
      have hL := Hd.mk (R_below hL.out hE)
      clear hW hE
      have z23 := Hd.mk hz_; clear hz_
      refine (impl_RowAt _ _ l7 n7 _ (C_below HC7.out h7B.out)).mono ?_
      rintro e w23 ⟨rfl, hX⟩
      have bx := Hd.mk (bx.out.below hX)
      have b9 := Hd.mk (b9.out.below hX)
      have hL := Hd.mk (R_below hL.out hX)
      have hB := Hd.mk (below_then hB.out hX)
      replace hS := Hd.mk (below_then hS.out hX)
      have hz_ := hX.size
      have h5B := Hd.mk (below_then h5B.out hX)
      have h7B := Hd.mk (below_then h7B.out hX)
      have h8B := Hd.mk (below_then h8B.out hX)
      clear hX
      have z24 := Hd.mk hz_; clear hz_
      go_wp2_with fail
      refine ⟨cls_below hS.out, ?_⟩
      (repeat (first | (refine mix_z rfl (by rfl) ?_; go_big_quiet_skip; refine wpQuiet_nil ?_) | (refine mix_q rfl ?_; first | (go_big_quiet_skip; refine wpQuiet_nil ?_) | (go_big_quiet_want; go_big_quiet_op; go_big_quiet_on; refine wpQuiet_nil ?_))))
      refine mix_b rfl ?_ (by rfl)
      go_wp2_with fail
      apply calls_gen; intro W24 hW
      have hz_ : w23.heap.size ≤ W24.heap.size := by rw [hW]; simp
      have hE : Below w23.heap.size w23 W24 := by rw [hW]; (repeat (first | with_reducible refine below_alloc ?_ _ | with_reducible refine below_drew ?_)); exact Below.refl _ _
      have hB := Hd.mk (below_then hB.out hE)
      have h5B := Hd.mk (below_then h5B.out hE)
      have h7B := Hd.mk (below_then h7B.out hE)
      have h8B := Hd.mk (below_then h8B.out hE)
      replace hS := Hd.mk (below_then hS.out hE)
      have bx := Hd.mk (bx.out.below hE)
      have b9 := Hd.mk (b9.out.below hE)
      have hL := Hd.mk (R_below hL.out hE)
      clear hW hE
      have z25 := Hd.mk hz_; clear hz_
      refine (spec_RowAt _ _ l7 n7 _ (C_below HC7.out h7B.out)).mono ?_
      rintro e w25 ⟨rfl, hX⟩
      have bx := Hd.mk (bx.out.below hX)
      have b9 := Hd.mk (b9.out.below hX)
      have hL := Hd.mk (R_below hL.out hX)
      have hB := Hd.mk (below_then hB.out hX)
      replace hS := Hd.mk (below_then hS.out hX)
      have hz_ := hX.size
      have h5B := Hd.mk (below_then h5B.out hX)
      have h7B := Hd.mk (below_then h7B.out hX)
      have h8B := Hd.mk (below_then h8B.out hX)
      clear hX
      have z26 := Hd.mk hz_; clear hz_
      go_wp2_with fail
      refine ⟨cls_below hS.out, ?_⟩
      (repeat (first | (refine mix_z rfl (by rfl) ?_; go_big_quiet_skip; refine wpQuiet_nil ?_) | (refine mix_q rfl ?_; first | (go_big_quiet_skip; refine wpQuiet_nil ?_) | (go_big_quiet_want; go_big_quiet_op; go_big_quiet_on; refine wpQuiet_nil ?_))))
      refine mix_b rfl ?_ (by rfl)
      go_wp2_with fail
      apply calls_gen; intro W26 hW
      have hz_ : w25.heap.size ≤ W26.heap.size := by rw [hW]; simp
      have hE : Below w25.heap.size w25 W26 := by rw [hW]; (repeat (first | with_reducible refine below_alloc ?_ _ | with_reducible refine below_drew ?_)); exact Below.refl _ _
      have hB := Hd.mk (below_then hB.out hE)
      have h5B := Hd.mk (below_then h5B.out hE)
      have h7B := Hd.mk (below_then h7B.out hE)
      have h8B := Hd.mk (below_then h8B.out hE)
      replace hS := Hd.mk (below_then hS.out hE)
      have bx := Hd.mk (bx.out.below hE)
      have b9 := Hd.mk (b9.out.below hE)
      have hL := Hd.mk (R_below hL.out hE)
      clear hW hE
      have z27 := Hd.mk hz_; clear hz_
      refine (impl_RowSame x y _ _ _ (tRow.K_below h8B.out HKx.out) (tRow.K_below h8B.out HKy.out)).mono ?_
      rintro e w27 ⟨rfl, hX⟩
      have bx := Hd.mk (bx.out.below hX)
      have b9 := Hd.mk (b9.out.below hX)
      have hL := Hd.mk (R_below hL.out hX)
      have hB := Hd.mk (below_then hB.out hX)
      replace hS := Hd.mk (below_then hS.out hX)
      have hz_ := hX.size
      have h5B := Hd.mk (below_then h5B.out hX)
      have h7B := Hd.mk (below_then h7B.out hX)
      have h8B := Hd.mk (below_then h8B.out hX)
      clear hX
      have z28 := Hd.mk hz_; clear hz_
      go_wp2_with fail
      refine ⟨cls_below hS.out, ?_⟩
      (repeat (first | (refine mix_z rfl (by rfl) ?_; go_big_quiet_skip; refine wpQuiet_nil ?_) | (refine mix_q rfl ?_; first | (go_big_quiet_skip; refine wpQuiet_nil ?_) | (go_big_quiet_want; go_big_quiet_op; go_big_quiet_on; refine wpQuiet_nil ?_))))
      refine mix_b rfl ?_ (by rfl)
      go_wp2_with fail
      apply calls_gen; intro W28 hW
      have hz_ : w27.heap.size ≤ W28.heap.size := by rw [hW]; simp
      have hE : Below w27.heap.size w27 W28 := by rw [hW]; (repeat (first | with_reducible refine below_alloc ?_ _ | with_reducible refine below_drew ?_)); exact Below.refl _ _
      have hB := Hd.mk (below_then hB.out hE)
      have h5B := Hd.mk (below_then h5B.out hE)
      have h7B := Hd.mk (below_then h7B.out hE)
      have h8B := Hd.mk (below_then h8B.out hE)
      replace hS := Hd.mk (below_then hS.out hE)
      have bx := Hd.mk (bx.out.below hE)
      have b9 := Hd.mk (b9.out.below hE)
      have hL := Hd.mk (R_below hL.out hE)
      clear hW hE
      have z29 := Hd.mk hz_; clear hz_
      refine (spec_RowSame x y _ _ _ (tRow.K_below h8B.out HKx.out) (tRow.K_below h8B.out HKy.out)).mono ?_
      rintro e w29 ⟨rfl, hX⟩
      have bx := Hd.mk (bx.out.below hX)
      have b9 := Hd.mk (b9.out.below hX)
      have hL := Hd.mk (R_below hL.out hX)
      have hB := Hd.mk (below_then hB.out hX)
      replace hS := Hd.mk (below_then hS.out hX)
      have hz_ := hX.size
      have h5B := Hd.mk (below_then h5B.out hX)
      have h7B := Hd.mk (below_then h7B.out hX)
      have h8B := Hd.mk (below_then h8B.out hX)
      clear hX
      have z30 := Hd.mk hz_; clear hz_
      go_wp2_with fail
      refine ⟨cls_below hS.out, ?_⟩
      (repeat (first | (refine mix_z rfl (by rfl) ?_; go_big_quiet_skip; refine wpQuiet_nil ?_) | (refine mix_q rfl ?_; first | (go_big_quiet_skip; refine wpQuiet_nil ?_) | (go_big_quiet_want; go_big_quiet_op; go_big_quiet_on; refine wpQuiet_nil ?_))))
      refine mix_nil ?_
      clear hS rfbx_0 rfbx_1 rfb9_0 rfb9_1
      go_wp2_with fail
      go_ret
      exact ⟨by rfl, hB.out⟩
end Go.Proofs.Ytnpogfhfjofbmaa.X
