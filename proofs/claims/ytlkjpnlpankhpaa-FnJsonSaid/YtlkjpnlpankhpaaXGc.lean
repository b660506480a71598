/- What is proved here: contracts of JsonOk and JsonSize, and of the reference's test of a value's names. Conditions: none. -/
import Derived.Test.YtlkjpnlpankhpaaXGb
namespace Go.Proofs.Ytlkjpnlpankhpaa.X
open Go.RowKit Go.Sort
set_option linter.unusedVariables false
set_option linter.unusedSimpArgs false
open Ty
def jsonOk (x : J) : Bool := decide (sizeN 6 x ≤ 400)
def jsonSize (x : J) : Int := if sizeN 6 x ≤ 400 then sizeN 6 x else 0
set_option maxRecDepth 100000 in
theorem impl_JsonOk {m : Nat} (x : J) (cs : List Value) (w : World) (hk : (tJ (m + 1)).K w x cs) :
    Calls Try.prog 11 #[.agg cs.toArray] w fun e w' => e = .returned (.bool (jsonOk x)) ∧ Below w.heap.size w w' := by
  have HK := Hd.mk hk
  obtain ⟨A1, c1, A2, c2, rfl, hs, ⟨hc1, hr1⟩, hc2, hr2⟩ := tJ_K.1 hk
  clear hk hr1 hr2
  have hb := sizeN_bound 6 x
  have hb1 := hb.1
  have hb2 := hb.2
  clear hb
  go_enter Try.func11, Try.ntmps11
  go_wp2_with fail
  apply calls_gen; intro W hW
  have hX : Below w.heap.size w W := by rw [hW]; exact below_alloc (Below.refl _ _) _
  clear hW
  refine (sizeIn_all (m + 1) x _ 6 W (by omega) ((tJ (m + 1)).K_below hX HK.out)).mono ?_
  rintro e w1 ⟨rfl, hX1⟩
  have hB := Hd.mk (below_then hX hX1); clear hX hX1
  by_cases h : sizeN 6 x ≤ 400
  · have HE := Hd.mk (show jsonOk x = true by simp [jsonOk, h])
    go_wp2_with fail
    go_ret
    exact ⟨by first | (rw [HE.out]; rfl) | rfl, hB.out⟩
  · have HE := Hd.mk (show jsonOk x = false by simp [jsonOk, h])
    go_wp2_with fail
    go_ret
    exact ⟨by first | (rw [HE.out]; rfl) | rfl, hB.out⟩
set_option maxRecDepth 100000 in
theorem impl_JsonSize {m : Nat} (x : J) (cs : List Value) (w : World) (hk : (tJ (m + 1)).K w x cs) :
    Calls Try.prog 13 #[.agg cs.toArray] w fun e w' => e = .returned (.int .i64 (jsonSize x)) ∧ Below w.heap.size w w' := by
  have HK := Hd.mk hk
  obtain ⟨A1, c1, A2, c2, rfl, hs, ⟨hc1, hr1⟩, hc2, hr2⟩ := tJ_K.1 hk
  clear hk hr1 hr2
  have hb := sizeN_bound 6 x
  have hb1 := hb.1
  have hb2 := hb.2
  clear hb
  go_enter Try.func13, Try.ntmps13
  go_wp2_with fail
  apply calls_gen; intro W hW
  have hX : Below w.heap.size w W := by rw [hW]; exact below_alloc (Below.refl _ _) _
  clear hW
  refine (sizeIn_all (m + 1) x _ 6 W (by omega) ((tJ (m + 1)).K_below hX HK.out)).mono ?_
  rintro e w1 ⟨rfl, hX1⟩
  have hB := Hd.mk (below_then hX hX1); clear hX hX1
  by_cases h : sizeN 6 x ≤ 400
  · have HE := Hd.mk (show jsonSize x = sizeN 6 x by simp [jsonSize, h])
    go_wp2_with fail
    go_ret
    exact ⟨by first | (rw [HE.out]; rfl) | rfl, hB.out⟩
  · have HE := Hd.mk (show jsonSize x = 0 by simp [jsonSize, h])
    go_wp2_with fail
    go_ret
    exact ⟨by first | (rw [HE.out]; rfl) | rfl, hB.out⟩
def namesOkB (x : J) : Bool := if x.kind == 5 then namesB x.names && ((x.names.length : Int) == x.list.length) else ((x.names.length : Int) == 0)
set_option maxRecDepth 100000 in
theorem spec_l1Names {m : Nat} (x : J) (cs : List Value) (w : World) (hk : (tJ (m + 1)).K w x cs) :
    Calls Try.prog 77 #[.agg cs.toArray] w fun e w' => e = .returned (.bool (namesOkB x)) ∧ Below w.heap.size w w' := by
  obtain ⟨A1, c1, A2, c2, rfl, hs, ⟨hc1, hr1⟩, hc2, hr2⟩ := tJ_K.1 hk
  clear hk
  have hm1 := hr1.1
  have hm2 := hr2.1
  have HC := Hd.mk hr2; clear hr1 hr2
  have hB := Hd.mk (below_alloc (Below.refl w.heap.size w) (Obj.cells #[Value.int IntKind.i64 x.kind, Value.int IntKind.i64 x.n, Value.string x.s, Value.slice A1 x.list.length c1, Value.slice A2 x.names.length c2] 27))
  have b0 := Blk.new w #[Value.int IntKind.i64 x.kind, Value.int IntKind.i64 x.n, Value.string x.s, Value.slice A1 x.list.length c1, Value.slice A2 x.names.length c2] 27
  go_enter Try.func77, Try.ntmps77
  cases h5 : (x.kind != 5)
  case true =>
    have HE := Hd.mk (show namesOkB x = ((x.names.length : Int) == 0) by
      have : (x.kind == 5) = false := by simpa using h5
      rw [namesOkB, this]; rfl)
    go_wp2_with fail
    go_ret
    exact ⟨by rw [HE.out]; rfl, hB.out⟩
  have HE := Hd.mk (show namesOkB x = (namesB x.names && ((x.names.length : Int) == x.list.length)) by
    have : (x.kind == 5) = true := by simpa using h5
    rw [namesOkB, this]; rfl)
  go_wp2_with fail
  go_loopw [3] (fun i wr => ∃ k : Nat, k ≤ x.names.length ∧ i = .int .i64 k ∧ Hd ((List.range k).all (nameStep x.names) = true) ∧ Hd (Below w.heap.size w wr) ∧ Blk wr w.heap.size #[Value.int IntKind.i64 x.kind, Value.int IntKind.i64 x.n, Value.string x.s, Value.slice A1 x.list.length c1, Value.slice A2 x.names.length c2] 27) (fun i _ => x.names.length - (intOf i).toNat)
  case atStart => exact ⟨0, Nat.zero_le _, rfl, ⟨rfl⟩, hB, b0⟩
  case round =>
    clear hB b0
    obtain ⟨k, hk, rfl, HA, hB, b0⟩ := hrel
    have f4 : wr.cell? ⟨w.heap.size, 4, none⟩ = some (Value.slice A2 x.names.length c2) := b0.cell 4 rfl
    have f3 : wr.cell? ⟨w.heap.size, 3, none⟩ = some (Value.slice A1 x.list.length c1) := b0.cell 3 rfl
    by_cases hlt : k < x.names.length
    · obtain ⟨ad, rfl, hx, hsz⟩ := C_str_at HC.out hB.out k hlt
      have HP := Hd.mk (show ∀ j, k = j + 1 → ∃ hj : j < x.names.length, wr.cell? (ad.add j) = some (.string x.names[j]) from fun j e => by
        obtain ⟨ad', e', h, _⟩ := C_str_at HC.out hB.out j (by omega)
        injection e' with e'; subst e'
        exact ⟨by omega, h⟩)
      have HA2 := Hd.mk (all_range_ (nameStep x.names) k HA.out)
      have y4 := cell_regrown f4
      have y0 := cell_regrown hx
      go_wp2_with fail
      refine region_mix [(true, 0), (true, 1), (true, 2), (true, 3), (true, 4), (false, 5), (true, 6), (true, 7), (true, 8), (true, 9), (true, 10), (true, 11), (true, 12), (true, 13), (true, 14), (true, 15), (true, 16), (true, 17), (true, 18), (true, 19), (true, 20), (true, 21), (true, 22), (true, 23), (true, 24)] (by kernel_rfl) (by kernel_rfl) (fun _ _ _ _ _ h => h) ?_
      (repeat (first | (refine mix_z rfl (by rfl) ?_; go_big_quiet_skip; refine wpQuiet_nil ?_) | (refine mix_q rfl ?_; first | (go_big_quiet_skip; refine wpQuiet_nil ?_) | (go_big_quiet_want; go_big_quiet_op; go_big_quiet_on; refine wpQuiet_nil ?_))))
      refine mix_b rfl ?_ (by rfl)
      go_wp2_with fail
      apply calls_gen; intro W1 hW
      have hS : Below wr.heap.size wr W1 := by rw [hW]; exact below_drew (Below.refl _ _)
      clear hW
      refine (spec_l1Text _ _ hsz).mono ?_
      rintro e w1 ⟨rfl, rfl⟩
      have hS1 := Hd.mk hS
      have hB1 := Hd.mk (below_then hB.out hS)
      have b01 := b0.below hS
      clear hS
      cases hb : textB x.names[k]
      · have HN := Hd.mk (show namesOkB x = false by rw [HE.out, namesB_no hlt (by rw [nameStep_at hlt, hb]; rfl)]; rfl)
        go_wp2_with fail
        refine ⟨cls_below hS1.out, ?_⟩
        (repeat (first | (refine mix_z rfl (by rfl) ?_; go_big_quiet_skip; refine wpQuiet_nil ?_) | (refine mix_q rfl ?_; first | (go_big_quiet_skip; refine wpQuiet_nil ?_) | (go_big_quiet_want; go_big_quiet_op; go_big_quiet_on; refine wpQuiet_nil ?_))))
        refine mix_nil ?_
        go_wp2_with fail
        go_ret
        exact ⟨by rw [HN.out]; rfl, hB1.out⟩
      have HE1 := Hd.mk (show nameStep x.names k = (k == 0 || ltB (x.names.getD (k - 1) ByteArray.empty) x.names[k]) by rw [nameStep_at hlt, hb]; rfl)
      clear hb
      cases k with
      | zero =>
        go_wp2_with fail
        refine ⟨cls_below hS1.out, ?_⟩
        (repeat (first | (refine mix_z rfl (by rfl) ?_; go_big_quiet_skip; refine wpQuiet_nil ?_) | (refine mix_q rfl ?_; first | (go_big_quiet_skip; refine wpQuiet_nil ?_) | (go_big_quiet_want; go_big_quiet_op; go_big_quiet_on; refine wpQuiet_nil ?_))))
        refine mix_nil ?_
        clear y4 y0
        go_wp2_with fail
        go_roundw
        case rel => exact ⟨1, by omega, by go_num, ⟨by rw [HA2.out, HE1.out]; rfl⟩, hB1, b01⟩
        case measure => simp [intOf]; omega
      | succ j =>
        obtain ⟨hj, hx2⟩ := HP.out j rfl
        have y3 := cell_regrown hx2
        have y5 := cell_regrown (show wr.cell? ⟨ad.block, ad.off + (j + 1), none⟩ = some (.string x.names[j + 1]) by have := hx; unfold Addr.add at this; simpa using this)
        have HE2 := Hd.mk (show nameStep x.names (j + 1) = ltB x.names[j] x.names[j + 1] by rw [HE1.out]; simp [List.getD_eq_getElem?_getD, hj])
        have hge := run_geq x.names[j] x.names[j + 1]
        cases h2 : ltB x.names[j] x.names[j + 1]
        all_goals rw [h2] at hge
        · have HN := Hd.mk (show namesOkB x = false by rw [HE.out, namesB_no hlt (by rw [HE2.out, h2])]; rfl)
          clear h2
          go_wp2_with fail
          refine ⟨cls_below hS1.out, ?_⟩
          (repeat (first | (refine mix_z rfl (by rfl) ?_; go_big_quiet_skip; refine wpQuiet_nil ?_) | (refine mix_q rfl ?_; first | (go_big_quiet_skip; refine wpQuiet_nil ?_) | (go_big_quiet_want; go_big_quiet_op; go_big_quiet_on; refine wpQuiet_nil ?_))))
          refine mix_nil ?_
          go_wp2_with fail
          go_ret
          exact ⟨by rw [HN.out]; rfl, hB1.out⟩
        · have HN := Hd.mk (show nameStep x.names (j + 1) = true by rw [HE2.out, h2])
          clear h2
          go_wp2_with fail
          refine ⟨cls_below hS1.out, ?_⟩
          (repeat (first | (refine mix_z rfl (by rfl) ?_; go_big_quiet_skip; refine wpQuiet_nil ?_) | (refine mix_q rfl ?_; first | (go_big_quiet_skip; refine wpQuiet_nil ?_) | (go_big_quiet_want; go_big_quiet_op; go_big_quiet_on; refine wpQuiet_nil ?_))))
          refine mix_nil ?_
          clear y4 y0 y3 y5
          go_wp2_with fail
          go_roundw
          case rel => exact ⟨j + 1 + 1, by omega, by go_num, ⟨by rw [HA2.out, HN.out]⟩, hB1, b01⟩
          case measure => simp [intOf]; omega
    · obtain rfl : k = x.names.length := by omega
      have HN := Hd.mk (show namesOkB x = ((x.names.length : Int) == x.list.length) by rw [HE.out, namesB, HA.out]; rfl)
      go_wp2_with fail
      go_ret
      exact ⟨by rw [HN.out]; rfl, hB.out⟩
end Go.Proofs.Ytlkjpnlpankhpaa.X
