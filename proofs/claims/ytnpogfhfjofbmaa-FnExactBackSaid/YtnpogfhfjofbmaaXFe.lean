/- What is proved here: contracts of StoreOk. Conditions: none. -/
import Derived.Test.YtnpogfhfjofbmaaXFd
namespace Go.Proofs.Ytnpogfhfjofbmaa.X
open Go.RowKit Go.Sort
set_option linter.unusedVariables false
set_option linter.unusedSimpArgs false
open Ty
def storeOk (s : Store) : Bool := schemaOk s.cols && (inB s.ver 0 100000 && (!((s.tabs.length : Int) != s.cols.length) && (List.range s.tabs.length).all (fun k => rowsOk s.cols k (s.tabs.getD k []))))
theorem impl_isVersion (n : Int) (w : World) : Calls Try.prog 148 #[.int .i64 n] w fun e w' => e = .returned (.bool (inB n 0 100000)) ∧ w = w' := by
  go_enter Try.func148, Try.ntmps148
  go_wp2_with (go_at_call 123; refine (impl_within _ _ _ _).mono ?_; rintro e w' ⟨rfl, rfl⟩)
  go_ret; exact ⟨rfl, rfl⟩
set_option maxRecDepth 100000 in
theorem impl_StoreOk (x : Store) (cs : List Value) (w : World) (hk : tStore.K w x cs) :
    Calls Try.prog 68 #[.agg cs.toArray] w fun e w' => e = .returned (.bool (storeOk x)) ∧ Below w.heap.size w w' := by
  obtain ⟨A1, c1, A2, c2, rfl, ⟨hc1, hr1⟩, hc2, hr2⟩ := tStore_K.1 hk
  have hm1 := hr1.1
  have hm2 := hr2.1
  have HC1 := Hd.mk hr1; clear hr1 hk
  have HC2 := Hd.mk hr2; clear hr2
  have hB := Hd.mk (below_alloc (Below.refl w.heap.size w) (Obj.cells #[Value.slice A1 x.cols.length c1, Value.int IntKind.i64 x.ver, Value.slice A2 x.tabs.length c2] 37))
  have b0 := Blk.new w #[Value.slice A1 x.cols.length c1, Value.int IntKind.i64 x.ver, Value.slice A2 x.tabs.length c2] 37
  go_enter Try.func68, Try.ntmps68
  go_wp2_with fail
  generalize w.alloc (Obj.cells #[Value.slice A1 x.cols.length c1, Value.int IntKind.i64 x.ver, Value.slice A2 x.tabs.length c2] 37) = W0 at hB b0 ⊢
  refine (impl_SchemaOk _ _ x.cols _ (C_below HC1.out hB.out)).mono ?_
  rintro e w1 ⟨rfl, hX⟩
  replace b0 := b0.below hX
  replace hB := Hd.mk (below_then hB.out hX)
  clear hX
  have f0 : w1.cell? ⟨w.heap.size, 0, none⟩ = some (Value.slice A1 x.cols.length c1) := b0.cell 0 rfl
  have f1 : w1.cell? ⟨w.heap.size, 1, none⟩ = some (Value.int IntKind.i64 x.ver) := b0.cell 1 rfl
  have f2 : w1.cell? ⟨w.heap.size, 2, none⟩ = some (Value.slice A2 x.tabs.length c2) := b0.cell 2 rfl
  cases h1 : schemaOk x.cols
  · have HE := Hd.mk (show storeOk x = false by rw [storeOk, h1]; rfl)
    go_wp2_with fail
    go_ret
    exact ⟨by rw [HE.out]; rfl, hB.out⟩
  have HR := Hd.mk (show storeOk x = (inB x.ver 0 100000 && (!((x.tabs.length : Int) != x.cols.length) && (List.range x.tabs.length).all (fun k => rowsOk x.cols k (x.tabs.getD k [])))) by rw [storeOk, h1]; rfl)
  clear h1
  go_wp2_with fail
  refine (impl_isVersion _ _).mono ?_
  rintro e w2 ⟨rfl, rfl⟩
  cases h1 : inB x.ver 0 100000
  · have HE := Hd.mk (show storeOk x = false by rw [HR.out, h1]; rfl)
    go_wp2_with fail
    go_ret
    exact ⟨by rw [HE.out]; rfl, hB.out⟩
  replace HR := Hd.mk (show storeOk x = (!((x.tabs.length : Int) != x.cols.length) && (List.range x.tabs.length).all (fun k => rowsOk x.cols k (x.tabs.getD k []))) by rw [HR.out, h1]; rfl)
  clear h1
  cases h1 : ((x.tabs.length : Int) != x.cols.length)
  case true =>
    have HE := Hd.mk (show storeOk x = false by rw [HR.out, h1]; rfl)
    go_wp2_with fail
    go_ret
    exact ⟨by rw [HE.out]; rfl, hB.out⟩
  replace HR := Hd.mk (show storeOk x = (List.range x.tabs.length).all (fun k => rowsOk x.cols k (x.tabs.getD k [])) by rw [HR.out, h1]; rfl)
  go_wp2_with fail
  clear f0 f1 f2
  go_loopw [28] (fun i wr => ∃ k : Nat, k ≤ x.tabs.length ∧ i = .int .i64 k ∧ Hd ((List.range k).all (fun k => rowsOk x.cols k (x.tabs.getD k [])) = true) ∧ Hd (Below w.heap.size w wr) ∧ Blk wr w.heap.size #[Value.slice A1 x.cols.length c1, Value.int IntKind.i64 x.ver, Value.slice A2 x.tabs.length c2] 37) (fun i _ => x.tabs.length - (intOf i).toNat)
  case atStart => exact ⟨0, Nat.zero_le _, rfl, ⟨rfl⟩, hB, b0⟩
  case round =>
    clear hB b0
    obtain ⟨k, hk, rfl, HA, hB, b0⟩ := hrel
    have f0 : wr.cell? ⟨w.heap.size, 0, none⟩ = some (Value.slice A1 x.cols.length c1) := b0.cell 0 rfl
    have f2 : wr.cell? ⟨w.heap.size, 2, none⟩ = some (Value.slice A2 x.tabs.length c2) := b0.cell 2 rfl
    by_cases hlt : k < x.tabs.length
    · obtain ⟨ad, A3, c3, rfl, x0, hc3, hr3⟩ := C_rows_at HC2.out hB.out k hlt
      have HK := Hd.mk hr3; clear hr3
      have HA2 := Hd.mk (all_range (fun k => rowsOk x.cols k (x.tabs.getD k [])) k HA.out)
      have HG := Hd.mk (show x.tabs.getD k [] = x.tabs[k] by simp [List.getD_eq_getElem?_getD, hlt])
      go_wp2_with fail
      refine (impl_RowsOk _ _ x.cols k _ _ x.tabs[k] _ (C_below HC1.out hB.out) HK.out).mono ?_
      rintro e w3 ⟨rfl, hX⟩
      have b1 := b0.below (hX)
      have hB1 := Hd.mk (below_then hB.out (hX))
      skip
      clear hX
      cases h2 : rowsOk x.cols k x.tabs[k]
      · have HE := Hd.mk (show storeOk x = false by
          rw [HR.out, List.all_eq_false]
          exact ⟨k, List.mem_range.2 hlt, by show ¬ rowsOk x.cols k (x.tabs.getD k []) = true; rw [HG.out, h2]; simp⟩)
        go_wp2_with fail
        go_ret
        exact ⟨by rw [HE.out]; rfl, hB1.out⟩
      · have HE := Hd.mk (show rowsOk x.cols k (x.tabs.getD k []) = true by rw [HG.out, h2])
        go_wp2_with fail
        clear f0 f2
        go_roundw
        case rel => exact ⟨k + 1, by omega, by go_num, ⟨by rw [HA2.out]; exact HE.out⟩, hB1, b1⟩
        case measure => simp [intOf]; omega
    · obtain rfl : k = x.tabs.length := by omega
      go_wp2_with fail
      go_ret
      exact ⟨by rw [HR.out, HA.out]; rfl, hB.out⟩
set_option maxRecDepth 100000 in
theorem spec_StoreOk (x : Store) (cs : List Value) (w : World) (hk : tStore.K w x cs) :
    Calls Try.prog 69 #[.agg cs.toArray] w fun e w' => e = .returned (.bool (storeOk x)) ∧ Below w.heap.size w w' := by
  obtain ⟨A1, c1, A2, c2, rfl, ⟨hc1, hr1⟩, hc2, hr2⟩ := tStore_K.1 hk
  have hm1 := hr1.1
  have hm2 := hr2.1
  have HC1 := Hd.mk hr1; clear hr1 hk
  have HC2 := Hd.mk hr2; clear hr2
  have hB := Hd.mk (below_alloc (Below.refl w.heap.size w) (Obj.cells #[Value.slice A1 x.cols.length c1, Value.int IntKind.i64 x.ver, Value.slice A2 x.tabs.length c2] 37))
  have b0 := Blk.new w #[Value.slice A1 x.cols.length c1, Value.int IntKind.i64 x.ver, Value.slice A2 x.tabs.length c2] 37
  go_enter Try.func69, Try.ntmps69
  go_wp2_with fail
  generalize w.alloc (Obj.cells #[Value.slice A1 x.cols.length c1, Value.int IntKind.i64 x.ver, Value.slice A2 x.tabs.length c2] 37) = W0 at hB b0 ⊢
  refine (spec_SchemaOk _ _ x.cols _ (C_below HC1.out hB.out)).mono ?_
  rintro e w1 ⟨rfl, hX⟩
  replace b0 := b0.below hX
  replace hB := Hd.mk (below_then hB.out hX)
  clear hX
  have f0 : w1.cell? ⟨w.heap.size, 0, none⟩ = some (Value.slice A1 x.cols.length c1) := b0.cell 0 rfl
  have f1 : w1.cell? ⟨w.heap.size, 1, none⟩ = some (Value.int IntKind.i64 x.ver) := b0.cell 1 rfl
  have f2 : w1.cell? ⟨w.heap.size, 2, none⟩ = some (Value.slice A2 x.tabs.length c2) := b0.cell 2 rfl
  cases h1 : schemaOk x.cols
  · have HE := Hd.mk (show storeOk x = false by rw [storeOk, h1]; rfl)
    go_wp2_with fail
    go_ret
    exact ⟨by rw [HE.out]; rfl, hB.out⟩
  have HR := Hd.mk (show storeOk x = (inB x.ver 0 100000 && (!((x.tabs.length : Int) != x.cols.length) && (List.range x.tabs.length).all (fun k => rowsOk x.cols k (x.tabs.getD k [])))) by rw [storeOk, h1]; rfl)
  clear h1
  go_wp2_with fail
  refine (spec_l1In _ _ _ _).mono ?_
  rintro e w2 ⟨rfl, rfl⟩
  cases h1 : inB x.ver 0 100000
  · have HE := Hd.mk (show storeOk x = false by rw [HR.out, h1]; rfl)
    go_wp2_with fail
    go_ret
    exact ⟨by rw [HE.out]; rfl, hB.out⟩
  replace HR := Hd.mk (show storeOk x = (!((x.tabs.length : Int) != x.cols.length) && (List.range x.tabs.length).all (fun k => rowsOk x.cols k (x.tabs.getD k []))) by rw [HR.out, h1]; rfl)
  clear h1
  cases h1 : ((x.tabs.length : Int) != x.cols.length)
  case true =>
    have HE := Hd.mk (show storeOk x = false by rw [HR.out, h1]; rfl)
    go_wp2_with fail
    go_ret
    exact ⟨by rw [HE.out]; rfl, hB.out⟩
  replace HR := Hd.mk (show storeOk x = (List.range x.tabs.length).all (fun k => rowsOk x.cols k (x.tabs.getD k [])) by rw [HR.out, h1]; rfl)
  go_wp2_with fail
  clear f0 f1 f2
  go_loopw [3] (fun i wr => ∃ k : Nat, k ≤ x.tabs.length ∧ i = .int .i64 k ∧ Hd ((List.range k).all (fun k => rowsOk x.cols k (x.tabs.getD k [])) = true) ∧ Hd (Below w.heap.size w wr) ∧ Blk wr w.heap.size #[Value.slice A1 x.cols.length c1, Value.int IntKind.i64 x.ver, Value.slice A2 x.tabs.length c2] 37) (fun i _ => x.tabs.length - (intOf i).toNat)
  case atStart => exact ⟨0, Nat.zero_le _, rfl, ⟨rfl⟩, hB, b0⟩
  case round =>
    clear hB b0
    obtain ⟨k, hk, rfl, HA, hB, b0⟩ := hrel
    have f0 : wr.cell? ⟨w.heap.size, 0, none⟩ = some (Value.slice A1 x.cols.length c1) := b0.cell 0 rfl
    have f2 : wr.cell? ⟨w.heap.size, 2, none⟩ = some (Value.slice A2 x.tabs.length c2) := b0.cell 2 rfl
    by_cases hlt : k < x.tabs.length
    · obtain ⟨ad, A3, c3, rfl, x0, hc3, hr3⟩ := C_rows_at HC2.out hB.out k hlt
      have HK := Hd.mk hr3; clear hr3
      have HA2 := Hd.mk (all_range (fun k => rowsOk x.cols k (x.tabs.getD k [])) k HA.out)
      have HG := Hd.mk (show x.tabs.getD k [] = x.tabs[k] by simp [List.getD_eq_getElem?_getD, hlt])
      have y0 := cell_regrown f0
      have y2 := cell_regrown f2
      have y3 := cell_regrown x0
      go_wp2_with fail
      refine region_mix [(true, 0), (true, 1), (true, 2), (true, 3), (true, 4), (true, 5), (true, 6), (true, 7), (false, 8), (true, 9)] (by kernel_rfl) (by kernel_rfl) (fun _ _ _ _ _ h => h) ?_
      (repeat (first | (refine mix_z rfl (by rfl) ?_; go_big_quiet_skip; refine wpQuiet_nil ?_) | (refine mix_q rfl ?_; first | (go_big_quiet_skip; refine wpQuiet_nil ?_) | (go_big_quiet_want; go_big_quiet_op; go_big_quiet_on; refine wpQuiet_nil ?_))))
      refine mix_b rfl ?_ (by rfl)
      go_wp2_with fail
      apply calls_gen; intro W1 hW
      have hS : Below wr.heap.size wr W1 := by rw [hW]; exact below_drew (Below.refl _ _)
      clear hW
      refine (spec_RowsOk _ _ x.cols k _ _ x.tabs[k] _ (C_below HC1.out (below_then hB.out hS)) (C_below HK.out hS)).mono ?_
      rintro e w3 ⟨rfl, hX⟩
      have b1 := b0.below (below_then hS hX)
      have hB1 := Hd.mk (below_then hB.out (below_then hS hX))
      have hS1 := Hd.mk (below_then hS hX)
      clear hX
      cases h2 : rowsOk x.cols k x.tabs[k]
      · have HE := Hd.mk (show storeOk x = false by
          rw [HR.out, List.all_eq_false]
          exact ⟨k, List.mem_range.2 hlt, by show ¬ rowsOk x.cols k (x.tabs.getD k []) = true; rw [HG.out, h2]; simp⟩)
        go_wp2_with fail
        refine ⟨cls_below hS1.out, ?_⟩
        (repeat (first | (refine mix_z rfl (by rfl) ?_; go_big_quiet_skip; refine wpQuiet_nil ?_) | (refine mix_q rfl ?_; first | (go_big_quiet_skip; refine wpQuiet_nil ?_) | (go_big_quiet_want; go_big_quiet_op; go_big_quiet_on; refine wpQuiet_nil ?_))))
        refine mix_nil ?_
        go_wp2_with fail
        go_ret
        exact ⟨by rw [HE.out]; rfl, hB1.out⟩
      · have HE := Hd.mk (show rowsOk x.cols k (x.tabs.getD k []) = true by rw [HG.out, h2])
        go_wp2_with fail
        refine ⟨cls_below hS1.out, ?_⟩
        (repeat (first | (refine mix_z rfl (by rfl) ?_; go_big_quiet_skip; refine wpQuiet_nil ?_) | (refine mix_q rfl ?_; first | (go_big_quiet_skip; refine wpQuiet_nil ?_) | (go_big_quiet_want; go_big_quiet_op; go_big_quiet_on; refine wpQuiet_nil ?_))))
        refine mix_nil ?_
        go_wp2_with fail
        clear f0 f2
        go_roundw
        case rel => exact ⟨k + 1, by omega, by go_num, ⟨by rw [HA2.out]; exact HE.out⟩, hB1, b1⟩
        case measure => simp [intOf]; omega
    · obtain rfl : k = x.tabs.length := by omega
      go_wp2_with fail
      go_ret
      exact ⟨by rw [HR.out, HA.out]; rfl, hB.out⟩
end Go.Proofs.Ytnpogfhfjofbmaa.X
