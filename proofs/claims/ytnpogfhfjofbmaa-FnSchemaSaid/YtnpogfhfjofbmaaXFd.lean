/- What is proved here: contracts of RowsOk. Conditions: none. -/
import Derived.Test.YtnpogfhfjofbmaaXFb
namespace Go.Proofs.Ytnpogfhfjofbmaa.X
open Go.RowKit Go.Sort
set_option linter.unusedVariables false
set_option linter.unusedSimpArgs false
open Ty
def rowsStep (l : List Int) (t : Int) (rs : List Row) (k : Nat) : Bool := rowOk l t (rs.getD k ⟨0, []⟩) && (k == 0 || decide ((rs.getD (k - 1) ⟨0, []⟩).id < (rs.getD k ⟨0, []⟩).id))
def rowsOk (l : List Int) (t : Int) (rs : List Row) : Bool := (List.range rs.length).all (rowsStep l t rs) && (schemaOk l && (hasTab l t && decide ((rs.length : Int) ≤ 24)))
theorem all_range (p : Nat → Bool) (k : Nat) (h : (List.range k).all p = true) : (List.range (k + 1)).all p = p k := by
  rw [List.range_succ, List.all_append, h]; simp
theorem rowsStep_at {l : List Int} {t : Int} {rs : List Row} {k : Nat} (hk : k < rs.length) : rowsStep l t rs k = (rowOk l t rs[k] && (k == 0 || decide ((rs.getD (k - 1) ⟨0, []⟩).id < rs[k].id))) := by
  unfold rowsStep
  rw [show rs.getD k ⟨0, []⟩ = rs[k] by simp [List.getD_eq_getElem?_getD, hk]]
theorem rowsOk_no {l : List Int} {t : Int} {rs : List Row} {k : Nat} (hk : k < rs.length) (h : rowsStep l t rs k = false) : rowsOk l t rs = false := by
  have : (List.range rs.length).all (rowsStep l t rs) = false := by
    rw [List.all_eq_false]
    exact ⟨k, List.mem_range.2 hk, by simp [h]⟩
  rw [rowsOk, this]; rfl
set_option maxRecDepth 100000 in
theorem impl_RowsOk (A : Option Addr) (c : Nat) (l : List Int) (t : Int) (A1 : Option Addr) (c1 : Nat) (rs : List Row) (w : World) (hr : int.C w A l) (hk : tRow.C w A1 rs) :
    Calls Try.prog 33 #[.agg #[.slice A l.length c], .int .i64 t, .slice A1 rs.length c1] w fun e w' => e = .returned (.bool (rowsOk l t rs)) ∧ Below w.heap.size w w' := by
  have hm := hr.1
  have hm1 := hk.1
  have HC := Hd.mk hr; clear hr
  have HC1 := Hd.mk hk; clear hk
  have hB := Hd.mk (below_alloc (Below.refl w.heap.size w) (Obj.cells #[Value.slice A l.length c] 34))
  have b0 := Blk.new w #[Value.slice A l.length c] 34
  go_enter Try.func33, Try.ntmps33
  go_wp2_with fail
  go_loopw [11] (fun i wr => ∃ k : Nat, k ≤ rs.length ∧ i = .int .i64 k ∧ Hd ((List.range k).all (rowsStep l t rs) = true) ∧ Hd (Below w.heap.size w wr) ∧ Blk wr w.heap.size #[Value.slice A l.length c] 34) (fun i _ => rs.length - (intOf i).toNat)
  case atStart => exact ⟨0, Nat.zero_le _, rfl, ⟨rfl⟩, hB, b0⟩
  case round =>
    clear hB b0
    obtain ⟨k, hk, rfl, HA, hB, b0⟩ := hrel
    by_cases hlt : k < rs.length
    · obtain ⟨ad, A2, c2, rfl, x0, x1, hc2, hr2⟩ := C_row_at HC1.out hB.out k hlt
      have HK := Hd.mk (tRow_K.2 ⟨A2, c2, rfl, hc2, hr2⟩ : tRow.K wr rs[k] _); clear hr2
      have HP := Hd.mk (show ∀ j, k = j + 1 → ∃ hj : j < rs.length, wr.cell? (ad.add (j * 2)) = some (.int .i64 rs[j].id) from fun j e => by
        obtain ⟨ad', _, _, e', h, _⟩ := C_row_at HC1.out hB.out j (by omega)
        injection e' with e'; subst e'
        exact ⟨by omega, h⟩)
      go_wp2_with fail
      have eS := below_alloc (Below.refl wr.heap.size wr) (Obj.cells #[Value.int IntKind.i64 rs[k].id, Value.slice A2 rs[k].cells.length c2] 41)
      have b1 := Blk.new wr #[Value.int IntKind.i64 rs[k].id, Value.slice A2 rs[k].cells.length c2] 41
      generalize wr.alloc (Obj.cells #[Value.int IntKind.i64 rs[k].id, Value.slice A2 rs[k].cells.length c2] 41) = W at eS b1 ⊢
      have f0 : W.cell? ⟨w.heap.size, 0, none⟩ = some (Value.slice A l.length c) := (b0.below eS).cell 0 rfl
      have f1 : W.cell? ⟨wr.heap.size, 0, none⟩ = some (Value.int IntKind.i64 rs[k].id) := b1.cell 0 rfl
      have f2 : W.cell? ⟨wr.heap.size, 1, none⟩ = some (Value.slice A2 rs[k].cells.length c2) := b1.cell 1 rfl
      have y0 := cell_regrown f0
      have y1 := cell_regrown f1
      have y2 := cell_regrown f2
      refine region_mix [(true, 0), (true, 1), (true, 2), (false, 3), (true, 4), (true, 5), (true, 6), (true, 7), (true, 8), (true, 9), (true, 10), (true, 11), (true, 12), (true, 13), (true, 14), (true, 15), (true, 16), (true, 17), (true, 18), (true, 19)] (by kernel_rfl) (by kernel_rfl) (fun _ _ _ _ _ h => h) ?_
      (repeat (first | (refine mix_z rfl (by rfl) ?_; go_big_quiet_skip; refine wpQuiet_nil ?_) | (refine mix_q rfl ?_; first | (go_big_quiet_skip; refine wpQuiet_nil ?_) | (go_big_quiet_want; go_big_quiet_op; go_big_quiet_on; refine wpQuiet_nil ?_))))
      refine mix_b rfl ?_ (by rfl)
      go_wp2_with fail
      apply calls_gen; intro W1 hW
      have hS : Below W.heap.size W W1 := by rw [hW]; exact below_drew (Below.refl _ _)
      clear hW
      have hS0 := below_then eS hS
      refine (impl_RowOk A c l t rs[k] _ _ (C_below HC.out (below_then hB.out hS0)) (tRow.K_below hS0 HK.out)).mono ?_
      rintro e w1 ⟨rfl, hX⟩
      have hS1 := Hd.mk (below_then hS hX)
      have hB1 := Hd.mk (below_then hB.out (below_then hS0 hX))
      have b01 := b0.below (below_then hS0 hX)
      clear hX hS hS0
      have HA2 := Hd.mk (all_range (rowsStep l t rs) k HA.out)
      cases h1 : rowOk l t rs[k]
      · have HE := Hd.mk (show rowsOk l t rs = false from rowsOk_no hlt (by rw [rowsStep_at hlt, h1]; rfl))
        go_wp2_with fail
        refine ⟨cls_below hS1.out, ?_⟩
        (repeat (first | (refine mix_z rfl (by rfl) ?_; go_big_quiet_skip; refine wpQuiet_nil ?_) | (refine mix_q rfl ?_; first | (go_big_quiet_skip; refine wpQuiet_nil ?_) | (go_big_quiet_want; go_big_quiet_op; go_big_quiet_on; refine wpQuiet_nil ?_))))
        refine mix_nil ?_
        go_wp2_with fail
        go_ret
        exact ⟨by rw [HE.out]; rfl, hB1.out⟩
      have HE := Hd.mk (show rowsStep l t rs k = (k == 0 || decide ((rs.getD (k - 1) ⟨0, []⟩).id < rs[k].id)) by rw [rowsStep_at hlt, h1]; rfl)
      clear h1
      cases k with
      | zero =>
        go_wp2_with fail
        refine ⟨cls_below hS1.out, ?_⟩
        (repeat (first | (refine mix_z rfl (by rfl) ?_; go_big_quiet_skip; refine wpQuiet_nil ?_) | (refine mix_q rfl ?_; first | (go_big_quiet_skip; refine wpQuiet_nil ?_) | (go_big_quiet_want; go_big_quiet_op; go_big_quiet_on; refine wpQuiet_nil ?_))))
        refine mix_nil ?_
        clear y0 y1 y2
        go_wp2_with fail
        go_roundw
        case rel => exact ⟨1, by omega, by go_num, ⟨by rw [HA2.out, HE.out]; rfl⟩, hB1, b01⟩
        case measure => simp [intOf]; omega
      | succ j =>
        obtain ⟨hj, hx⟩ := HP.out j rfl
        have y3 := cell_regrown (cell_below eS hx)
        have HE2 := Hd.mk (show rowsStep l t rs (j + 1) = decide (rs[j].id < rs[j + 1].id) by
          rw [HE.out]; simp [List.getD_eq_getElem?_getD, hj])
        by_cases h2 : rs[j + 1].id ≤ rs[j].id
        · have HN := Hd.mk (show rowsOk l t rs = false from rowsOk_no hlt (by rw [HE2.out]; simp; omega))
          go_wp2_with fail
          refine ⟨cls_below hS1.out, ?_⟩
          (repeat (first | (refine mix_z rfl (by rfl) ?_; go_big_quiet_skip; refine wpQuiet_nil ?_) | (refine mix_q rfl ?_; first | (go_big_quiet_skip; refine wpQuiet_nil ?_) | (go_big_quiet_want; go_big_quiet_op; go_big_quiet_on; refine wpQuiet_nil ?_))))
          refine mix_nil ?_
          go_wp2_with fail
          go_ret
          exact ⟨by rw [HN.out]; rfl, hB1.out⟩
        · have HN := Hd.mk (show rowsStep l t rs (j + 1) = true by rw [HE2.out]; simp; omega)
          go_wp2_with fail
          refine ⟨cls_below hS1.out, ?_⟩
          (repeat (first | (refine mix_z rfl (by rfl) ?_; go_big_quiet_skip; refine wpQuiet_nil ?_) | (refine mix_q rfl ?_; first | (go_big_quiet_skip; refine wpQuiet_nil ?_) | (go_big_quiet_want; go_big_quiet_op; go_big_quiet_on; refine wpQuiet_nil ?_))))
          refine mix_nil ?_
          clear y0 y1 y2 y3
          go_wp2_with fail
          go_roundw
          case rel => exact ⟨j + 1 + 1, by omega, by go_num, ⟨by rw [HA2.out, HN.out]⟩, hB1, b01⟩
          case measure => simp [intOf]; omega
    · obtain rfl : k = rs.length := by omega
      have HR := Hd.mk (show rowsOk l t rs = (schemaOk l && (hasTab l t && decide ((rs.length : Int) ≤ 24))) by rw [rowsOk, HA.out]; rfl)
      have f0 : wr.cell? ⟨w.heap.size, 0, none⟩ = some (Value.slice A l.length c) := b0.cell 0 rfl
      go_wp2_with fail
      refine (impl_SchemaOk A c l _ (C_below HC.out hB.out)).mono ?_
      rintro e w1 ⟨rfl, hX⟩
      replace b0 := b0.below hX
      replace hB := Hd.mk (below_then hB.out hX)
      clear hX f0
      have f0 : w1.cell? ⟨w.heap.size, 0, none⟩ = some (Value.slice A l.length c) := b0.cell 0 rfl
      cases h1 : schemaOk l
      · have HE2 := Hd.mk (show rowsOk l t rs = false by rw [HR.out, h1]; rfl)
        go_wp2_with fail
        go_ret
        exact ⟨by rw [HE2.out]; rfl, hB.out⟩
      replace HR := Hd.mk (show rowsOk l t rs = (hasTab l t && decide ((rs.length : Int) ≤ 24)) by rw [HR.out, h1]; rfl)
      clear h1
      go_wp2_with fail
      refine (impl_hasTable A c l t _ hm).mono ?_
      rintro e w2 ⟨rfl, hX⟩
      replace hB := Hd.mk (below_then hB.out hX)
      clear hX f0
      cases h1 : hasTab l t
      · have HE2 := Hd.mk (show rowsOk l t rs = false by rw [HR.out, show hasTab l t = false from h1]; rfl)
        go_wp2_with fail
        go_ret
        exact ⟨by rw [HE2.out]; rfl, hB.out⟩
      replace HR := Hd.mk (show rowsOk l t rs = decide ((rs.length : Int) ≤ 24) by rw [HR.out, show hasTab l t = true from h1]; rfl)
      clear h1
      go_wp2_with fail
      go_ret
      exact ⟨by rw [HR.out]; rfl, hB.out⟩
set_option maxRecDepth 100000 in
theorem spec_RowsOk (A : Option Addr) (c : Nat) (l : List Int) (t : Int) (A1 : Option Addr) (c1 : Nat) (rs : List Row) (w : World) (hr : int.C w A l) (hk : tRow.C w A1 rs) :
    Calls Try.prog 34 #[.agg #[.slice A l.length c], .int .i64 t, .slice A1 rs.length c1] w fun e w' => e = .returned (.bool (rowsOk l t rs)) ∧ Below w.heap.size w w' := by
  have hm := hr.1
  have hm1 := hk.1
  have HC := Hd.mk hr; clear hr
  have HC1 := Hd.mk hk; clear hk
  have hB := Hd.mk (below_alloc (Below.refl w.heap.size w) (Obj.cells #[Value.slice A l.length c] 34))
  have b0 := Blk.new w #[Value.slice A l.length c] 34
  go_enter Try.func34, Try.ntmps34
  go_wp2_with fail
  go_loopw [7] (fun i wr => ∃ k : Nat, k ≤ rs.length ∧ i = .int .i64 k ∧ Hd ((List.range k).all (rowsStep l t rs) = true) ∧ Hd (Below w.heap.size w wr) ∧ Blk wr w.heap.size #[Value.slice A l.length c] 34) (fun i _ => rs.length - (intOf i).toNat)
  case atStart => exact ⟨0, Nat.zero_le _, rfl, ⟨rfl⟩, hB, b0⟩
  case round =>
    clear hB b0
    obtain ⟨k, hk, rfl, HA, hB, b0⟩ := hrel
    by_cases hlt : k < rs.length
    · obtain ⟨ad, A2, c2, rfl, x0, x1, hc2, hr2⟩ := C_row_at HC1.out hB.out k hlt
      have HK := Hd.mk (tRow_K.2 ⟨A2, c2, rfl, hc2, hr2⟩ : tRow.K wr rs[k] _); clear hr2
      have HP := Hd.mk (show ∀ j, k = j + 1 → ∃ hj : j < rs.length, wr.cell? (ad.add (j * 2)) = some (.int .i64 rs[j].id) from fun j e => by
        obtain ⟨ad', _, _, e', h, _⟩ := C_row_at HC1.out hB.out j (by omega)
        injection e' with e'; subst e'
        exact ⟨by omega, h⟩)
      go_wp2_with fail
      have eS := Below.refl wr.heap.size wr
      have f0 : wr.cell? ⟨w.heap.size, 0, none⟩ = some (Value.slice A l.length c) := b0.cell 0 rfl
      have y0 := cell_regrown f0
      have y1 := cell_regrown x0
      have y2 := cell_regrown x1
      refine region_mix [(true, 0), (true, 1), (true, 2), (true, 3), (true, 4), (true, 5), (false, 6), (true, 7), (true, 8), (true, 9), (true, 10), (true, 11), (true, 12), (true, 13), (true, 14), (true, 15), (true, 16), (true, 17), (true, 18), (true, 19), (true, 20), (true, 21), (true, 22), (true, 23), (true, 24), (true, 25)] (by kernel_rfl) (by kernel_rfl) (fun _ _ _ _ _ h => h) ?_
      (repeat (first | (refine mix_z rfl (by rfl) ?_; go_big_quiet_skip; refine wpQuiet_nil ?_) | (refine mix_q rfl ?_; first | (go_big_quiet_skip; refine wpQuiet_nil ?_) | (go_big_quiet_want; go_big_quiet_op; go_big_quiet_on; refine wpQuiet_nil ?_))))
      refine mix_b rfl ?_ (by rfl)
      go_wp2_with fail
      apply calls_gen; intro W1 hW
      have hS : Below wr.heap.size wr W1 := by rw [hW]; exact below_drew (Below.refl _ _)
      clear hW
      have hS0 := below_then eS hS
      refine (spec_RowOk A c l t rs[k] _ _ (C_below HC.out (below_then hB.out hS0)) (tRow.K_below hS0 HK.out)).mono ?_
      rintro e w1 ⟨rfl, hX⟩
      have hS1 := Hd.mk (below_then hS hX)
      have hB1 := Hd.mk (below_then hB.out (below_then hS0 hX))
      have b01 := b0.below (below_then hS0 hX)
      clear hX hS hS0
      have HA2 := Hd.mk (all_range (rowsStep l t rs) k HA.out)
      cases h1 : rowOk l t rs[k]
      · have HE := Hd.mk (show rowsOk l t rs = false from rowsOk_no hlt (by rw [rowsStep_at hlt, h1]; rfl))
        go_wp2_with fail
        refine ⟨cls_below hS1.out, ?_⟩
        (repeat (first | (refine mix_z rfl (by rfl) ?_; go_big_quiet_skip; refine wpQuiet_nil ?_) | (refine mix_q rfl ?_; first | (go_big_quiet_skip; refine wpQuiet_nil ?_) | (go_big_quiet_want; go_big_quiet_op; go_big_quiet_on; refine wpQuiet_nil ?_))))
        refine mix_nil ?_
        go_wp2_with fail
        go_ret
        exact ⟨by rw [HE.out]; rfl, hB1.out⟩
      have HE := Hd.mk (show rowsStep l t rs k = (k == 0 || decide ((rs.getD (k - 1) ⟨0, []⟩).id < rs[k].id)) by rw [rowsStep_at hlt, h1]; rfl)
      clear h1
      cases k with
      | zero =>
        go_wp2_with fail
        refine ⟨cls_below hS1.out, ?_⟩
        (repeat (first | (refine mix_z rfl (by rfl) ?_; go_big_quiet_skip; refine wpQuiet_nil ?_) | (refine mix_q rfl ?_; first | (go_big_quiet_skip; refine wpQuiet_nil ?_) | (go_big_quiet_want; go_big_quiet_op; go_big_quiet_on; refine wpQuiet_nil ?_))))
        refine mix_nil ?_
        clear y0 y1 y2
        go_wp2_with fail
        go_roundw
        case rel => exact ⟨1, by omega, by go_num, ⟨by rw [HA2.out, HE.out]; rfl⟩, hB1, b01⟩
        case measure => simp [intOf]; omega
      | succ j =>
        obtain ⟨hj, hx⟩ := HP.out j rfl
        have y3 := cell_regrown (cell_below eS hx)
        have HE2 := Hd.mk (show rowsStep l t rs (j + 1) = decide (rs[j].id < rs[j + 1].id) by
          rw [HE.out]; simp [List.getD_eq_getElem?_getD, hj])
        by_cases h2 : rs[j + 1].id ≤ rs[j].id
        · have HN := Hd.mk (show rowsOk l t rs = false from rowsOk_no hlt (by rw [HE2.out]; simp; omega))
          go_wp2_with fail
          refine ⟨cls_below hS1.out, ?_⟩
          (repeat (first | (refine mix_z rfl (by rfl) ?_; go_big_quiet_skip; refine wpQuiet_nil ?_) | (refine mix_q rfl ?_; first | (go_big_quiet_skip; refine wpQuiet_nil ?_) | (go_big_quiet_want; go_big_quiet_op; go_big_quiet_on; refine wpQuiet_nil ?_))))
          refine mix_nil ?_
          go_wp2_with fail
          go_ret
          exact ⟨by rw [HN.out]; rfl, hB1.out⟩
        · have HN := Hd.mk (show rowsStep l t rs (j + 1) = true by rw [HE2.out]; simp; omega)
          go_wp2_with fail
          refine ⟨cls_below hS1.out, ?_⟩
          (repeat (first | (refine mix_z rfl (by rfl) ?_; go_big_quiet_skip; refine wpQuiet_nil ?_) | (refine mix_q rfl ?_; first | (go_big_quiet_skip; refine wpQuiet_nil ?_) | (go_big_quiet_want; go_big_quiet_op; go_big_quiet_on; refine wpQuiet_nil ?_))))
          refine mix_nil ?_
          clear y0 y1 y2 y3
          go_wp2_with fail
          go_roundw
          case rel => exact ⟨j + 1 + 1, by omega, by go_num, ⟨by rw [HA2.out, HN.out]⟩, hB1, b01⟩
          case measure => simp [intOf]; omega
    · obtain rfl : k = rs.length := by omega
      have HR := Hd.mk (show rowsOk l t rs = (schemaOk l && (hasTab l t && decide ((rs.length : Int) ≤ 24))) by rw [rowsOk, HA.out]; rfl)
      have f0 : wr.cell? ⟨w.heap.size, 0, none⟩ = some (Value.slice A l.length c) := b0.cell 0 rfl
      go_wp2_with fail
      refine (spec_SchemaOk A c l _ (C_below HC.out hB.out)).mono ?_
      rintro e w1 ⟨rfl, hX⟩
      replace b0 := b0.below hX
      replace hB := Hd.mk (below_then hB.out hX)
      clear hX f0
      have f0 : w1.cell? ⟨w.heap.size, 0, none⟩ = some (Value.slice A l.length c) := b0.cell 0 rfl
      cases h1 : schemaOk l
      · have HE2 := Hd.mk (show rowsOk l t rs = false by rw [HR.out, h1]; rfl)
        go_wp2_with fail
        go_ret
        exact ⟨by rw [HE2.out]; rfl, hB.out⟩
      replace HR := Hd.mk (show rowsOk l t rs = (hasTab l t && decide ((rs.length : Int) ≤ 24)) by rw [HR.out, h1]; rfl)
      clear h1
      go_wp2_with fail
      refine (spec_l1In _ _ _ _).mono ?_
      rintro e w2 ⟨rfl, rfl⟩
      cases h1 : inB t 0 ((l.length : Int) - 1)
      · have HE2 := Hd.mk (show rowsOk l t rs = false by rw [HR.out, show hasTab l t = false from h1]; rfl)
        go_wp2_with fail
        go_ret
        exact ⟨by rw [HE2.out]; rfl, hB.out⟩
      replace HR := Hd.mk (show rowsOk l t rs = decide ((rs.length : Int) ≤ 24) by rw [HR.out, show hasTab l t = true from h1]; rfl)
      clear h1
      go_wp2_with fail
      go_ret
      exact ⟨by rw [HR.out]; rfl, hB.out⟩
end Go.Proofs.Ytnpogfhfjofbmaa.X
