/- What is proved here: contracts of RowOk. Conditions: none. -/
import Derived.Test.YtnpogfhfjofbmaaXF
namespace Go.Proofs.Ytnpogfhfjofbmaa.X
open Go.RowKit Go.Sort
set_option linter.unusedVariables false
set_option linter.unusedSimpArgs false
open Ty
def hasTab (cols : List Int) (t : Int) : Bool := inB t 0 (cols.length - 1)
def isNumB (n : Int) : Bool := inB n (-1000000000) 1000000000
def rowOk (cols : List Int) (t : Int) (r : Row) : Bool := r.cells.all isNumB && (schemaOk cols && (hasTab cols t && ((r.cells.length : Int) == cols.getD t.toNat 0 && inB r.id 1 999)))
theorem hasTab_at {cols : List Int} {t : Int} (h : hasTab cols t = true) : ∃ k : Nat, t = k ∧ k < cols.length := by
  obtain ⟨h1, h2⟩ := inB_iff.1 h
  exact ⟨t.toNat, by omega, by omega⟩
theorem rowOk_at {cols : List Int} {k : Nat} (hk : k < cols.length) (r : Row) : rowOk cols k r = (r.cells.all isNumB && (schemaOk cols && (hasTab cols k && ((r.cells.length : Int) == cols[k] && inB r.id 1 999)))) := by
  unfold rowOk
  rw [Int.toNat_natCast, List.getD_eq_getElem?_getD, List.getElem?_eq_getElem hk]; rfl
set_option maxRecDepth 100000 in
theorem impl_hasTable (A : Option Addr) (c : Nat) (l : List Int) (t : Int) (w : World) (hm : l.length ≤ 9223372036854775807) :
    Calls Try.prog 118 #[.agg #[.slice A l.length c], .int .i64 t] w fun e w' => e = .returned (.bool (hasTab l t)) ∧ Below w.heap.size w w' := by
  go_enter Try.func118, Try.ntmps118
  go_wp2_with (go_at_call 123; refine (impl_within _ _ _ _).mono ?_; rintro e w' ⟨rfl, rfl⟩)
  go_ret
  exact ⟨rfl, by exact below_alloc (Below.refl _ _) _⟩
set_option maxRecDepth 100000 in
theorem impl_RowOk (A : Option Addr) (c : Nat) (l : List Int) (t : Int) (r : Row) (cs : List Value) (w : World) (hr : int.C w A l) (hk : tRow.K w r cs) :
    Calls Try.prog 36 #[.agg #[.slice A l.length c], .int .i64 t, .agg cs.toArray] w fun e w' => e = .returned (.bool (rowOk l t r)) ∧ Below w.heap.size w w' := by
  obtain ⟨A1, c1, rfl, hc1, hr1⟩ := tRow_K.1 hk
  have hm := hr.1
  have hm1 := hr1.1
  have HC := Hd.mk hr; clear hr hk
  have HC1 := Hd.mk hr1; clear hr1
  have hB := Hd.mk (below_alloc (below_alloc (Below.refl w.heap.size w) (Obj.cells #[Value.slice A l.length c] 34)) (Obj.cells #[Value.int IntKind.i64 r.id, Value.slice A1 r.cells.length c1] 41))
  go_enter Try.func36, Try.ntmps36
  go_wp2_with fail
  go_loop [12] (fun i => ∃ k : Nat, k ≤ r.cells.length ∧ i = .int .i64 k ∧ Hd ((r.cells.take k).all isNumB = true)) (fun i => r.cells.length - (intOf i).toNat)
  case atStart => exact ⟨0, Nat.zero_le _, rfl, ⟨by simp⟩⟩
  case round =>
    obtain ⟨k, hk, rfl, HA⟩ := hrel
    by_cases hlt : k < r.cells.length
    · obtain ⟨ad, rfl, hx⟩ := C_int_at HC1.out hB.out k hlt
      have HA2 := Hd.mk (all_take isNumB r.cells k hlt HA.out)
      cases hb : inB r.cells[k] (-1000000000) 1000000000
      all_goals
        have Hb := Hd.mk (show isNumB r.cells[k] = _ from hb)
        have Hb2 := Hd.mk hb; clear hb
        go_wp2_with (go_at_call 122; refine (impl_isNum _ _).mono ?_; rintro e w' ⟨rfl, rfl⟩; rw [Hb2.out])
      · go_ret
        refine ⟨?_, by exact hB.out⟩
        rw [rowOk, all_false _ r.cells (k+1) (by rw [HA2.out]; exact Hb.out)]; rfl
      · go_round
        case rel => exact ⟨k+1, by omega, by go_num, ⟨by rw [HA2.out]; exact Hb.out⟩⟩
        case measure => simp [intOf]; omega
    · obtain rfl : k = r.cells.length := by omega
      go_wp2_with fail
      have HN := Hd.mk (show r.cells.all isNumB = true by have := HA.out; rwa [List.take_length] at this)
      have b0 : Blk ((w.alloc (Obj.cells #[Value.slice A l.length c] 34)).alloc (Obj.cells #[Value.int IntKind.i64 r.id, Value.slice A1 r.cells.length c1] 41)) w.heap.size #[Value.slice A l.length c] 34 := (Blk.new w _ _).alloc _
      have b1 : Blk ((w.alloc (Obj.cells #[Value.slice A l.length c] 34)).alloc (Obj.cells #[Value.int IntKind.i64 r.id, Value.slice A1 r.cells.length c1] 41)) (w.heap.size + 1) #[Value.int IntKind.i64 r.id, Value.slice A1 r.cells.length c1] 41 := by simpa using Blk.new (w.alloc _) _ _
      generalize (w.alloc (Obj.cells #[Value.slice A l.length c] 34)).alloc (Obj.cells #[Value.int IntKind.i64 r.id, Value.slice A1 r.cells.length c1] 41) = W at hB b0 b1 ⊢
      have f0 : W.cell? ⟨w.heap.size, 0, none⟩ = some (Value.slice A l.length c) := b0.cell 0 rfl
      have f1 : W.cell? ⟨w.heap.size + 1, 0, none⟩ = some (Value.int IntKind.i64 r.id) := b1.cell 0 rfl
      have f2 : W.cell? ⟨w.heap.size + 1, 1, none⟩ = some (Value.slice A1 r.cells.length c1) := b1.cell 1 rfl
      have k0 := cell_regrown f0
      have k1 := cell_regrown f1
      have k2 := cell_regrown f2
      have HX : hasTab l t = true → ∃ k : Nat, ∃ ad, ∃ hk : k < l.length, t = k ∧ A = some ad ∧ W.cell? (ad.add k) = some (.int .i64 l[k]) := fun h => by
        obtain ⟨k, e, hk⟩ := hasTab_at h
        obtain ⟨ad, e2, h2⟩ := C_int_at HC.out hB.out k hk
        exact ⟨k, ad, hk, e, e2, h2⟩
      refine region_mix [(true, 0), (false, 1), (true, 2), (true, 3), (true, 4), (false, 5), (true, 6), (true, 7), (true, 8), (true, 9), (true, 10), (true, 11), (true, 12), (true, 13), (true, 14), (true, 15), (true, 16), (true, 17), (true, 18), (true, 19), (true, 20), (false, 21), (true, 22), (true, 23)] (by kernel_rfl) (by kernel_rfl) (fun _ _ _ _ _ h => h) ?_
      (repeat (first | (refine mix_z rfl (by rfl) ?_; go_big_quiet_skip; refine wpQuiet_nil ?_) | (refine mix_q rfl ?_; first | (go_big_quiet_skip; refine wpQuiet_nil ?_) | (go_big_quiet_want; go_big_quiet_op; go_big_quiet_on; refine wpQuiet_nil ?_))))
      refine mix_b rfl ?_ (by rfl)
      go_wp2_with fail
      apply calls_gen; intro W1 hW
      have hS : Below W.heap.size W W1 := by rw [hW]; exact below_drew (Below.refl _ _)
      clear hW
      refine (impl_SchemaOk A c l _ (C_below HC.out (below_then hB.out hS))).mono ?_
      rintro e w1 ⟨rfl, hX⟩
      have hS1 := Hd.mk (below_then hS hX); clear hX hS
      cases hb1 : schemaOk l
      · have HE := Hd.mk (show rowOk l t r = false by rw [rowOk, hb1]; simp)
        clear hb1
        go_wp2_with fail
        refine ⟨cls_below hS1.out, ?_⟩
        (repeat (first | (refine mix_z rfl (by rfl) ?_; go_big_quiet_skip; refine wpQuiet_nil ?_) | (refine mix_q rfl ?_; first | (go_big_quiet_skip; refine wpQuiet_nil ?_) | (go_big_quiet_want; go_big_quiet_op; go_big_quiet_on; refine wpQuiet_nil ?_))))
        refine mix_nil ?_
        go_wp2_with fail
        go_ret
        exact ⟨by rw [HE.out]; rfl, below_then hB.out hS1.out⟩
      have HE := Hd.mk (show rowOk l t r = (hasTab l t && ((r.cells.length : Int) == l.getD t.toNat 0 && inB r.id 1 999)) by rw [rowOk, hb1, HN.out]; simp)
      clear hb1
      go_wp2_with fail
      refine ⟨cls_below hS1.out, ?_⟩
      (repeat (first | (refine mix_z rfl (by rfl) ?_; go_big_quiet_skip; refine wpQuiet_nil ?_) | (refine mix_q rfl ?_; first | (go_big_quiet_skip; refine wpQuiet_nil ?_) | (go_big_quiet_want; go_big_quiet_op; go_big_quiet_on; refine wpQuiet_nil ?_))))
      refine mix_b rfl ?_ (by rfl)
      go_wp2_with fail
      refine (impl_hasTable A c l t _ hm).mono ?_
      rintro e w2 ⟨rfl, hX⟩
      have hS2 := Hd.mk (below_then hS1.out hX); clear hX
      cases hb2 : hasTab l t
      · have HE2 := Hd.mk (show rowOk l t r = false by rw [HE.out, hb2]; simp)
        clear hb2
        go_wp2_with fail
        refine ⟨cls_below hS2.out, ?_⟩
        (repeat (first | (refine mix_z rfl (by rfl) ?_; go_big_quiet_skip; refine wpQuiet_nil ?_) | (refine mix_q rfl ?_; first | (go_big_quiet_skip; refine wpQuiet_nil ?_) | (go_big_quiet_want; go_big_quiet_op; go_big_quiet_on; refine wpQuiet_nil ?_))))
        refine mix_nil ?_
        go_wp2_with fail
        go_ret
        exact ⟨by rw [HE2.out]; rfl, below_then hB.out hS2.out⟩
      obtain ⟨k, ad, hk, rfl, rfl, hx⟩ := HX hb2
      have k3 := cell_regrown hx
      have HE2 := Hd.mk (show rowOk l k r = ((r.cells.length : Int) == l[k] && inB r.id 1 999) by
        rw [HE.out, hb2, Int.toNat_natCast, List.getD_eq_getElem?_getD, List.getElem?_eq_getElem hk]; simp)
      clear hb2
      cases hb3 : ((r.cells.length : Int) == l[k])
      · have HE3 := Hd.mk (show rowOk l k r = false by rw [HE2.out, hb3]; simp)
        go_wp2_with fail
        refine ⟨cls_below hS2.out, ?_⟩
        (repeat (first | (refine mix_z rfl (by rfl) ?_; go_big_quiet_skip; refine wpQuiet_nil ?_) | (refine mix_q rfl ?_; first | (go_big_quiet_skip; refine wpQuiet_nil ?_) | (go_big_quiet_want; go_big_quiet_op; go_big_quiet_on; refine wpQuiet_nil ?_))))
        refine mix_nil ?_
        go_wp2_with fail
        go_ret
        exact ⟨by rw [HE3.out]; rfl, below_then hB.out hS2.out⟩
      have HE3 := Hd.mk (show rowOk l k r = inB r.id 1 999 by rw [HE2.out, hb3]; simp)
      go_wp2_with fail
      refine ⟨cls_below hS2.out, ?_⟩
      (repeat (first | (refine mix_z rfl (by rfl) ?_; go_big_quiet_skip; refine wpQuiet_nil ?_) | (refine mix_q rfl ?_; first | (go_big_quiet_skip; refine wpQuiet_nil ?_) | (go_big_quiet_want; go_big_quiet_op; go_big_quiet_on; refine wpQuiet_nil ?_))))
      refine mix_b rfl ?_ (by rfl)
      go_wp2_with fail
      refine (impl_within _ _ _ _).mono ?_
      rintro e w3 ⟨rfl, rfl⟩
      go_wp2_with fail
      refine ⟨cls_below hS2.out, ?_⟩
      (repeat (first | (refine mix_z rfl (by rfl) ?_; go_big_quiet_skip; refine wpQuiet_nil ?_) | (refine mix_q rfl ?_; first | (go_big_quiet_skip; refine wpQuiet_nil ?_) | (go_big_quiet_want; go_big_quiet_op; go_big_quiet_on; refine wpQuiet_nil ?_))))
      refine mix_nil ?_
      go_wp2_with fail
      go_ret
      exact ⟨by rw [HE3.out]; rfl, below_then hB.out hS2.out⟩
set_option maxRecDepth 100000 in
theorem spec_RowOk (A : Option Addr) (c : Nat) (l : List Int) (t : Int) (r : Row) (cs : List Value) (w : World) (hr : int.C w A l) (hk : tRow.K w r cs) :
    Calls Try.prog 37 #[.agg #[.slice A l.length c], .int .i64 t, .agg cs.toArray] w fun e w' => e = .returned (.bool (rowOk l t r)) ∧ Below w.heap.size w w' := by
  obtain ⟨A1, c1, rfl, hc1, hr1⟩ := tRow_K.1 hk
  have hm := hr.1
  have hm1 := hr1.1
  have HC := Hd.mk hr; clear hr hk
  have HC1 := Hd.mk hr1; clear hr1
  have hB := Hd.mk (below_alloc (below_alloc (Below.refl w.heap.size w) (Obj.cells #[Value.slice A l.length c] 34)) (Obj.cells #[Value.int IntKind.i64 r.id, Value.slice A1 r.cells.length c1] 41))
  have b0 : Blk ((w.alloc (Obj.cells #[Value.slice A l.length c] 34)).alloc (Obj.cells #[Value.int IntKind.i64 r.id, Value.slice A1 r.cells.length c1] 41)) w.heap.size #[Value.slice A l.length c] 34 := (Blk.new w _ _).alloc _
  have b1 : Blk ((w.alloc (Obj.cells #[Value.slice A l.length c] 34)).alloc (Obj.cells #[Value.int IntKind.i64 r.id, Value.slice A1 r.cells.length c1] 41)) (w.heap.size + 1) #[Value.int IntKind.i64 r.id, Value.slice A1 r.cells.length c1] 41 := by simpa using Blk.new (w.alloc _) _ _
  go_enter Try.func37, Try.ntmps37
  go_wp2_with fail
  generalize (w.alloc (Obj.cells #[Value.slice A l.length c] 34)).alloc (Obj.cells #[Value.int IntKind.i64 r.id, Value.slice A1 r.cells.length c1] 41) = W at hB b0 b1 ⊢
  have f0 : W.cell? ⟨w.heap.size, 0, none⟩ = some (Value.slice A l.length c) := b0.cell 0 rfl
  have f1 : W.cell? ⟨w.heap.size + 1, 0, none⟩ = some (Value.int IntKind.i64 r.id) := b1.cell 0 rfl
  have f2 : W.cell? ⟨w.heap.size + 1, 1, none⟩ = some (Value.slice A1 r.cells.length c1) := b1.cell 1 rfl
  have k0 := cell_regrown f0
  have k1 := cell_regrown f1
  have k2 := cell_regrown f2
  have HX : hasTab l t = true → ∃ k : Nat, ∃ ad, ∃ hk : k < l.length, t = k ∧ A = some ad ∧ W.cell? (ad.add k) = some (.int .i64 l[k]) := fun h => by
    obtain ⟨k, e, hk⟩ := hasTab_at h
    obtain ⟨ad, e2, h2⟩ := C_int_at HC.out hB.out k hk
    exact ⟨k, ad, hk, e, e2, h2⟩
  refine region_mix [(true, 0), (false, 1), (true, 2), (true, 3), (true, 4), (true, 5), (true, 6), (true, 7), (true, 8), (false, 9), (true, 10), (true, 11), (true, 12), (true, 13), (true, 14), (false, 15), (true, 16), (true, 17), (true, 18), (true, 19), (true, 20), (true, 21), (true, 22), (true, 23), (true, 24), (true, 25), (true, 26), (true, 27), (true, 28)] (by kernel_rfl) (by kernel_rfl) (fun _ _ _ _ _ h => h) ?_
  (repeat (first | (refine mix_z rfl (by rfl) ?_; go_big_quiet_skip; refine wpQuiet_nil ?_) | (refine mix_q rfl ?_; first | (go_big_quiet_skip; refine wpQuiet_nil ?_) | (go_big_quiet_want; go_big_quiet_op; go_big_quiet_on; refine wpQuiet_nil ?_))))
  refine mix_b rfl ?_ (by rfl)
  go_wp2_with fail
  apply calls_gen; intro W1 hW
  have hS : Below W.heap.size W W1 := by rw [hW]; exact below_drew (Below.refl _ _)
  clear hW
  refine (spec_SchemaOk A c l _ (C_below HC.out (below_then hB.out hS))).mono ?_
  rintro e w1 ⟨rfl, hX⟩
  have hS1 := Hd.mk (below_then hS hX); clear hX hS
  cases hb1 : schemaOk l
  · have HE := Hd.mk (show rowOk l t r = false by rw [rowOk, hb1]; simp)
    clear hb1
    go_wp2_with fail
    refine ⟨cls_below hS1.out, ?_⟩
    (repeat (first | (refine mix_z rfl (by rfl) ?_; go_big_quiet_skip; refine wpQuiet_nil ?_) | (refine mix_q rfl ?_; first | (go_big_quiet_skip; refine wpQuiet_nil ?_) | (go_big_quiet_want; go_big_quiet_op; go_big_quiet_on; refine wpQuiet_nil ?_))))
    refine mix_nil ?_
    go_wp2_with fail
    go_ret
    exact ⟨by rw [HE.out]; rfl, below_then hB.out hS1.out⟩
  have HE := Hd.mk (show rowOk l t r = (r.cells.all isNumB && (hasTab l t && ((r.cells.length : Int) == l.getD t.toNat 0 && inB r.id 1 999))) by rw [rowOk, hb1]; simp)
  clear hb1
  go_wp2_with fail
  refine ⟨cls_below hS1.out, ?_⟩
  (repeat (first | (refine mix_z rfl (by rfl) ?_; go_big_quiet_skip; refine wpQuiet_nil ?_) | (refine mix_q rfl ?_; first | (go_big_quiet_skip; refine wpQuiet_nil ?_) | (go_big_quiet_want; go_big_quiet_op; go_big_quiet_on; refine wpQuiet_nil ?_))))
  refine mix_b rfl ?_ (by rfl)
  go_wp2_with fail
  refine (spec_l1In _ _ _ _).mono ?_
  rintro e w2 ⟨rfl, rfl⟩
  cases hb2 : inB t 0 ((l.length : Int) - 1)
  · have HE2 := Hd.mk (show rowOk l t r = false by rw [HE.out, show hasTab l t = false from hb2]; simp)
    clear hb2
    go_wp2_with fail
    refine ⟨cls_below hS1.out, ?_⟩
    (repeat (first | (refine mix_z rfl (by rfl) ?_; go_big_quiet_skip; refine wpQuiet_nil ?_) | (refine mix_q rfl ?_; first | (go_big_quiet_skip; refine wpQuiet_nil ?_) | (go_big_quiet_want; go_big_quiet_op; go_big_quiet_on; refine wpQuiet_nil ?_))))
    refine mix_nil ?_
    go_wp2_with fail
    go_ret
    exact ⟨by rw [HE2.out]; rfl, below_then hB.out hS1.out⟩
  obtain ⟨k, ad, hk, rfl, rfl, hx⟩ := HX hb2
  have k3 := cell_regrown hx
  have HE2 := Hd.mk (show rowOk l k r = (r.cells.all isNumB && ((r.cells.length : Int) == l[k] && inB r.id 1 999)) by
    rw [HE.out, show hasTab l k = true from hb2, Int.toNat_natCast, List.getD_eq_getElem?_getD, List.getElem?_eq_getElem hk]; simp)
  clear hb2
  go_wp2_with fail
  refine ⟨cls_below hS1.out, ?_⟩
  (repeat (first | (refine mix_z rfl (by rfl) ?_; go_big_quiet_skip; refine wpQuiet_nil ?_) | (refine mix_q rfl ?_; first | (go_big_quiet_skip; refine wpQuiet_nil ?_) | (go_big_quiet_want; go_big_quiet_op; go_big_quiet_on; refine wpQuiet_nil ?_))))
  refine mix_b rfl ?_ (by rfl)
  go_wp2_with fail
  refine (spec_l1In _ _ _ _).mono ?_
  rintro e w3 ⟨rfl, rfl⟩
  cases hb4 : inB r.id 1 999
  · have HE3 := Hd.mk (show rowOk l k r = false by rw [HE2.out, hb4]; simp)
    clear hb4
    go_wp2_with fail
    refine ⟨cls_below hS1.out, ?_⟩
    (repeat (first | (refine mix_z rfl (by rfl) ?_; go_big_quiet_skip; refine wpQuiet_nil ?_) | (refine mix_q rfl ?_; first | (go_big_quiet_skip; refine wpQuiet_nil ?_) | (go_big_quiet_want; go_big_quiet_op; go_big_quiet_on; refine wpQuiet_nil ?_))))
    refine mix_nil ?_
    go_wp2_with fail
    go_ret
    exact ⟨by rw [HE3.out]; rfl, below_then hB.out hS1.out⟩
  have HE3 := Hd.mk (show rowOk l k r = (r.cells.all isNumB && ((r.cells.length : Int) == l[k])) by rw [HE2.out, hb4]; simp)
  clear hb4
  cases hb5 : ((r.cells.length : Int) != l[k])
  case true =>
    have HE4 := Hd.mk (show rowOk l k r = false by
      rw [HE3.out]
      have : ((r.cells.length : Int) == l[k]) = false := by simpa using hb5
      rw [this]; simp)
    go_wp2_with fail
    refine ⟨cls_below hS1.out, ?_⟩
    (repeat (first | (refine mix_z rfl (by rfl) ?_; go_big_quiet_skip; refine wpQuiet_nil ?_) | (refine mix_q rfl ?_; first | (go_big_quiet_skip; refine wpQuiet_nil ?_) | (go_big_quiet_want; go_big_quiet_op; go_big_quiet_on; refine wpQuiet_nil ?_))))
    refine mix_nil ?_
    go_wp2_with fail
    go_ret
    exact ⟨by rw [HE4.out]; rfl, below_then hB.out hS1.out⟩
  have HE4 := Hd.mk (show rowOk l k r = r.cells.all isNumB by
      rw [HE3.out]
      have : ((r.cells.length : Int) == l[k]) = true := by simpa using hb5
      rw [this]; simp)
  go_wp2_with fail
  refine ⟨cls_below hS1.out, ?_⟩
  (repeat (first | (refine mix_z rfl (by rfl) ?_; go_big_quiet_skip; refine wpQuiet_nil ?_) | (refine mix_q rfl ?_; first | (go_big_quiet_skip; refine wpQuiet_nil ?_) | (go_big_quiet_want; go_big_quiet_op; go_big_quiet_on; refine wpQuiet_nil ?_))))
  refine mix_nil ?_
  clear k0 k1 k2 k3 f0 f1 f2 hb5
  replace b0 := b0.below hS1.out
  replace b1 := b1.below hS1.out
  replace hB := Hd.mk (below_then hB.out hS1.out)
  have f0 : w1.cell? ⟨w.heap.size, 0, none⟩ = some (Value.slice (some ad) l.length c) := b0.cell 0 rfl
  have f1 : w1.cell? ⟨w.heap.size + 1, 0, none⟩ = some (Value.int IntKind.i64 r.id) := b1.cell 0 rfl
  have f2 : w1.cell? ⟨w.heap.size + 1, 1, none⟩ = some (Value.slice A1 r.cells.length c1) := b1.cell 1 rfl
  clear HX HE HE2 HE3
  go_wp2_with fail
  go_loop [7] (fun i => ∃ j : Nat, j ≤ r.cells.length ∧ i = .int .i64 j ∧ Hd ((r.cells.take j).all isNumB = true)) (fun i => r.cells.length - (intOf i).toNat)
  case atStart => exact ⟨0, Nat.zero_le _, rfl, ⟨by simp⟩⟩
  case round =>
    obtain ⟨j, hj, rfl, HA⟩ := hrel
    by_cases hlt : j < r.cells.length
    · obtain ⟨ad1, rfl, hx1⟩ := C_int_at HC1.out hB.out j hlt
      have HA2 := Hd.mk (all_take isNumB r.cells j hlt HA.out)
      cases hb : inB r.cells[j] (-1000000000) 1000000000
      all_goals
        have Hb := Hd.mk (show isNumB r.cells[j] = _ from hb)
        have Hb2 := Hd.mk hb; clear hb
        go_wp2_with (go_at_call 120; refine (spec_l1In _ _ _ _).mono ?_; rintro e w' ⟨rfl, rfl⟩; rw [Hb2.out])
      · go_ret
        refine ⟨?_, by exact hB.out⟩
        rw [HE4.out, all_false _ r.cells (j+1) (by rw [HA2.out]; exact Hb.out)]; rfl
      · go_round
        case rel => exact ⟨j+1, by omega, by go_num, ⟨by rw [HA2.out]; exact Hb.out⟩⟩
        case measure => simp [intOf]; omega
    · obtain rfl : j = r.cells.length := by omega
      go_wp2_with fail
      go_ret
      have := HA.out
      rw [List.take_length] at this
      exact ⟨by rw [HE4.out, this]; rfl, hB.out⟩
end Go.Proofs.Ytnpogfhfjofbmaa.X
