/- What is proved here: contracts of OpOk. Conditions: none. -/
import Derived.Test.YtkgefjjgjjmklaaDoorXGf
namespace Go.Proofs.YtkgefjjgjjmklaaDoor.X
open Go.RowKit Go.Sort
set_option linter.unusedVariables false
set_option linter.unusedSimpArgs false
open Ty
noncomputable def opOk (o : JOp) : Bool := o.way.all textB && (inB o.kind 1 4 && (decide ((o.way.length : Int) ≤ 6) && (jsonOk o.value && (o.kind != 2 || eqv o.value J.null))))
theorem null_K {m : Nat} {w : World} : (tJ (m + 1)).K w J.null [.int .i64 0, .int .i64 0, .string ByteArray.empty, .slice none 0 0, .slice none 0 0] :=
  tJ_K.2 ⟨none, 0, none, 0, rfl, Nat.zero_le _, ⟨Nat.le_refl _, C_nil _⟩, Nat.le_refl _, C_nil _⟩
theorem bytes_nil {s : ByteArray} : (s.toList == []) = true ↔ s = ByteArray.empty := by
  have : (s.toList == ByteArray.empty.toList) = true ↔ s = ByteArray.empty := bytes_eq
  simpa using this
set_option maxRecDepth 100000 in
theorem impl_isZero {m : Nat} (x : J) (cs : List Value) (w : World) (hk : (tJ (m + 1)).K w x cs) :
    Calls Tryd.prog 106 #[.agg cs.toArray] w fun e w' => e = .returned (.bool (eqv x J.null)) ∧ Below w.heap.size w w' := by
  obtain ⟨A1, c1, A2, c2, rfl, hs, ⟨hc1, hr1⟩, hc2, hr2⟩ := tJ_K.1 hk
  clear hk
  have hm1 := hr1.1
  have hm2 := hr2.1
  clear hr1 hr2
  have hB := Hd.mk (below_alloc (Below.refl w.heap.size w) (Obj.cells #[Value.int IntKind.i64 x.kind, Value.int IntKind.i64 x.n, Value.string x.s, Value.slice A1 x.list.length c1, Value.slice A2 x.names.length c2] 40))
  go_enter Tryd.func106, Tryd.ntmps106
  cases h0 : (x.kind == 0)
  · have HN := Hd.mk (eqv_no (a := x) (b := J.null) (fun h => by rw [h] at h0; simp [J.null] at h0))
    go_wp2_with fail
    go_ret
    exact ⟨by rw [HN.out]; rfl, by exact hB.out⟩
  cases h1 : (x.n == 0)
  · have HN := Hd.mk (eqv_no (a := x) (b := J.null) (fun h => by rw [h] at h1; simp [J.null] at h1))
    go_wp2_with fail
    go_ret
    exact ⟨by rw [HN.out]; rfl, by exact hB.out⟩
  cases h2 : (x.s.toList == [])
  · have HN := Hd.mk (eqv_no (a := x) (b := J.null) (fun h => by rw [h] at h2; simp [J.null] at h2))
    go_wp2_with fail
    go_ret
    exact ⟨by rw [HN.out]; rfl, by exact hB.out⟩
  cases h3 : ((x.list.length : Int) == 0)
  · have HN := Hd.mk (eqv_no (a := x) (b := J.null) (fun h => by rw [h] at h3; simp [J.null] at h3))
    go_wp2_with fail
    go_ret
    exact ⟨by rw [HN.out]; rfl, by exact hB.out⟩
  cases h4 : ((x.names.length : Int) == 0)
  · have HN := Hd.mk (eqv_no (a := x) (b := J.null) (fun h => by rw [h] at h4; simp [J.null] at h4))
    go_wp2_with fail
    go_ret
    exact ⟨by rw [HN.out]; rfl, by exact hB.out⟩
  have HN := Hd.mk (eqv_iff.2 (show x = J.null from J_ext (by simpa [J.null] using h0) (by simpa [J.null] using h1) (bytes_nil.1 h2) (List.eq_nil_of_length_eq_zero (by have := beq_iff_eq.1 h3; omega)) (List.eq_nil_of_length_eq_zero (by have := beq_iff_eq.1 h4; omega))))
  go_wp2_with fail
  go_ret
  exact ⟨by rw [HN.out]; rfl, by exact hB.out⟩
set_option maxRecDepth 100000 in
theorem impl_OpOk {m : Nat} (x : JOp) (cs : List Value) (w : World) (hk : (tOp (m + 1)).K w x cs) :
    Calls Tryd.prog 72 #[.agg cs.toArray] w fun e w' => e = .returned (.bool (opOk x)) ∧ Below w.heap.size w w' := by
  obtain ⟨A1, c1, _, rfl, ⟨hc1, hr1⟩, hj⟩ := tOp_K.1 hk
  have HJ := hj
  obtain ⟨A2, c2, A3, c3, rfl, hs, ⟨hc2, hr2⟩, hc3, hr3⟩ := tJ_K.1 hj
  clear hk hj
  have hm1 := hr1.1
  have HR := Hd.mk hr1; clear hr1 hr2 hr3
  replace HJ := Hd.mk HJ
  have hB := Hd.mk (below_alloc (Below.refl w.heap.size w) (Obj.cells #[Value.int IntKind.i64 x.kind, Value.slice A1 x.way.length c1, Value.int IntKind.i64 x.value.kind, Value.int IntKind.i64 x.value.n, Value.string x.value.s, Value.slice A2 x.value.list.length c2, Value.slice A3 x.value.names.length c3] 49))
  have b0 := Blk.new w #[Value.int IntKind.i64 x.kind, Value.slice A1 x.way.length c1, Value.int IntKind.i64 x.value.kind, Value.int IntKind.i64 x.value.n, Value.string x.value.s, Value.slice A2 x.value.list.length c2, Value.slice A3 x.value.names.length c3] 49
  go_enter Tryd.func72, Tryd.ntmps72
  go_wp2_with fail
  go_loopw [8] (fun i wr => ∃ k : Nat, k ≤ x.way.length ∧ i = .int .i64 k ∧ Hd ((x.way.take k).all textB = true) ∧ Hd (Below w.heap.size w wr) ∧ Blk wr w.heap.size #[Value.int IntKind.i64 x.kind, Value.slice A1 x.way.length c1, Value.int IntKind.i64 x.value.kind, Value.int IntKind.i64 x.value.n, Value.string x.value.s, Value.slice A2 x.value.list.length c2, Value.slice A3 x.value.names.length c3] 49) (fun i _ => x.way.length - (intOf i).toNat)
  case atStart => exact ⟨0, Nat.zero_le _, rfl, ⟨rfl⟩, hB, b0⟩
  case round =>
    clear hB b0
    obtain ⟨k, hk, rfl, HA, hB, b0⟩ := hrel
    have f0 : wr.cell? ⟨w.heap.size, 0, none⟩ = some (Value.int IntKind.i64 x.kind) := b0.cell 0 rfl
    have f1 : wr.cell? ⟨w.heap.size, 1, none⟩ = some (Value.slice A1 x.way.length c1) := b0.cell 1 rfl
    have f2 : wr.cell? ⟨w.heap.size, 2, none⟩ = some (Value.int IntKind.i64 x.value.kind) := b0.cell 2 rfl
    have f3 : wr.cell? ⟨w.heap.size, 3, none⟩ = some (Value.int IntKind.i64 x.value.n) := b0.cell 3 rfl
    have f4 : wr.cell? ⟨w.heap.size, 4, none⟩ = some (Value.string x.value.s) := b0.cell 4 rfl
    have f5 : wr.cell? ⟨w.heap.size, 5, none⟩ = some (Value.slice A2 x.value.list.length c2) := b0.cell 5 rfl
    have f6 : wr.cell? ⟨w.heap.size, 6, none⟩ = some (Value.slice A3 x.value.names.length c3) := b0.cell 6 rfl
    by_cases hlt : k < x.way.length
    · obtain ⟨ad, rfl, hx, hsz⟩ := C_str_at HR.out hB.out k hlt
      have HA2 := Hd.mk (all_take textB x.way k hlt HA.out)
      go_wp2_with fail
      refine (impl_textOk _ _ hsz).mono ?_
      rintro e w9 ⟨rfl, rfl⟩
      cases hb : textB x.way[k]
      · have HN := Hd.mk (show opOk x = false by rw [opOk, all_false textB x.way (k + 1) (by rw [HA2.out]; exact hb)]; rfl)
        go_wp2_with fail
        go_ret
        exact ⟨by rw [HN.out]; rfl, hB.out⟩
      · have HN := Hd.mk hb
        go_wp2_with fail
        clear f0 f1 f2 f3 f4 f5 f6
        go_roundw
        case rel => exact ⟨k + 1, by omega, by go_num, ⟨by rw [HA2.out]; exact HN.out⟩, hB, b0⟩
        case measure => simp [intOf]; omega
    · obtain rfl : k = x.way.length := by omega
      have HW := Hd.mk (show x.way.all textB = true by have := HA.out; rwa [List.take_length] at this)
      go_wp2_with fail
      refine (impl_within _ _ _ _).mono ?_
      rintro e w2 ⟨rfl, rfl⟩
      have HE := Hd.mk (show opOk x = (inB x.kind 1 4 && (decide ((x.way.length : Int) ≤ 6) && (jsonOk x.value && (x.kind != 2 || eqv x.value J.null)))) by rw [opOk, HW.out]; rfl)
      cases h1 : inB x.kind 1 4
      · have HN := Hd.mk (show opOk x = false by rw [HE.out, h1]; rfl)
        go_wp2_with fail
        go_ret
        exact ⟨by rw [HN.out]; rfl, by exact hB.out⟩
      replace HE := Hd.mk (show opOk x = (decide ((x.way.length : Int) ≤ 6) && (jsonOk x.value && (x.kind != 2 || eqv x.value J.null))) by rw [HE.out, h1]; rfl)
      clear h1
      by_cases h2 : (x.way.length : Int) ≤ 6
      rotate_left
      · have HN := Hd.mk (show opOk x = false by rw [HE.out, decide_eq_false h2]; rfl)
        go_wp2_with fail
        go_ret
        exact ⟨by rw [HN.out]; rfl, by exact hB.out⟩
      replace HE := Hd.mk (show opOk x = (jsonOk x.value && (x.kind != 2 || eqv x.value J.null)) by rw [HE.out, decide_eq_true h2]; rfl)
      go_wp2_with fail
      refine (impl_JsonOk x.value _ _ ((tJ (m + 1)).K_below hB.out HJ.out)).mono ?_
      rintro e w3 ⟨rfl, hX⟩
      clear f0 f1 f2 f3 f4 f5 f6
      replace b0 := b0.below hX
      replace hB := Hd.mk (below_then hB.out hX)
      clear hX
      have f0 : w3.cell? ⟨w.heap.size, 0, none⟩ = some (Value.int IntKind.i64 x.kind) := b0.cell 0 rfl
      have f1 : w3.cell? ⟨w.heap.size, 1, none⟩ = some (Value.slice A1 x.way.length c1) := b0.cell 1 rfl
      have f2 : w3.cell? ⟨w.heap.size, 2, none⟩ = some (Value.int IntKind.i64 x.value.kind) := b0.cell 2 rfl
      have f3 : w3.cell? ⟨w.heap.size, 3, none⟩ = some (Value.int IntKind.i64 x.value.n) := b0.cell 3 rfl
      have f4 : w3.cell? ⟨w.heap.size, 4, none⟩ = some (Value.string x.value.s) := b0.cell 4 rfl
      have f5 : w3.cell? ⟨w.heap.size, 5, none⟩ = some (Value.slice A2 x.value.list.length c2) := b0.cell 5 rfl
      have f6 : w3.cell? ⟨w.heap.size, 6, none⟩ = some (Value.slice A3 x.value.names.length c3) := b0.cell 6 rfl
      cases h1 : jsonOk x.value
      · have HN := Hd.mk (show opOk x = false by rw [HE.out, h1]; rfl)
        go_wp2_with fail
        go_ret
        exact ⟨by rw [HN.out]; rfl, by exact hB.out⟩
      replace HE := Hd.mk (show opOk x = (x.kind != 2 || eqv x.value J.null) by rw [HE.out, h1]; rfl)
      clear h1
      cases h3 : (x.kind != 2)
      case true =>
        have HN := Hd.mk (show opOk x = true by rw [HE.out, h3]; rfl)
        go_wp2_with fail
        go_ret
        exact ⟨by rw [HN.out]; rfl, hB.out⟩
      replace HE := Hd.mk (show opOk x = eqv x.value J.null by rw [HE.out, h3]; rfl)
      go_wp2_with fail
      refine (impl_isZero x.value _ _ ((tJ (m + 1)).K_below hB.out HJ.out)).mono ?_
      rintro e w4 ⟨rfl, hX⟩
      replace hB := Hd.mk (below_then hB.out hX)
      clear hX
      go_wp2_with fail
      go_ret
      exact ⟨by rw [HE.out]; rfl, hB.out⟩
set_option maxRecDepth 100000 in
theorem spec_OpOk {m : Nat} (x : JOp) (cs : List Value) (w : World) (hk : (tOp (m + 1)).K w x cs) :
    Calls Tryd.prog 68 #[.agg cs.toArray] w fun e w' => e = .returned (.bool (opOk x)) ∧ Below w.heap.size w w' := by
  obtain ⟨A1, c1, _, rfl, ⟨hc1, hr1⟩, hj⟩ := tOp_K.1 hk
  have HJ := hj
  obtain ⟨A2, c2, A3, c3, rfl, hs, ⟨hc2, hr2⟩, hc3, hr3⟩ := tJ_K.1 hj
  clear hk hj
  have hm1 := hr1.1
  have HR := Hd.mk hr1; clear hr1 hr2 hr3
  replace HJ := Hd.mk HJ
  have hB := Hd.mk (below_alloc (Below.refl w.heap.size w) (Obj.cells #[Value.int IntKind.i64 x.kind, Value.slice A1 x.way.length c1, Value.int IntKind.i64 x.value.kind, Value.int IntKind.i64 x.value.n, Value.string x.value.s, Value.slice A2 x.value.list.length c2, Value.slice A3 x.value.names.length c3] 49))
  have b0 := Blk.new w #[Value.int IntKind.i64 x.kind, Value.slice A1 x.way.length c1, Value.int IntKind.i64 x.value.kind, Value.int IntKind.i64 x.value.n, Value.string x.value.s, Value.slice A2 x.value.list.length c2, Value.slice A3 x.value.names.length c3] 49
  go_enter Tryd.func68, Tryd.ntmps68
  go_wp2_with fail
  generalize w.alloc (Obj.cells #[Value.int IntKind.i64 x.kind, Value.slice A1 x.way.length c1, Value.int IntKind.i64 x.value.kind, Value.int IntKind.i64 x.value.n, Value.string x.value.s, Value.slice A2 x.value.list.length c2, Value.slice A3 x.value.names.length c3] 49) = W0 at hB b0 ⊢
  have f0 : W0.cell? ⟨w.heap.size, 0, none⟩ = some (Value.int IntKind.i64 x.kind) := b0.cell 0 rfl
  have f1 : W0.cell? ⟨w.heap.size, 1, none⟩ = some (Value.slice A1 x.way.length c1) := b0.cell 1 rfl
  have f2 : W0.cell? ⟨w.heap.size, 2, none⟩ = some (Value.int IntKind.i64 x.value.kind) := b0.cell 2 rfl
  have f3 : W0.cell? ⟨w.heap.size, 3, none⟩ = some (Value.int IntKind.i64 x.value.n) := b0.cell 3 rfl
  have f4 : W0.cell? ⟨w.heap.size, 4, none⟩ = some (Value.string x.value.s) := b0.cell 4 rfl
  have f5 : W0.cell? ⟨w.heap.size, 5, none⟩ = some (Value.slice A2 x.value.list.length c2) := b0.cell 5 rfl
  have f6 : W0.cell? ⟨w.heap.size, 6, none⟩ = some (Value.slice A3 x.value.names.length c3) := b0.cell 6 rfl
  refine (spec_l1In _ _ _ _).mono ?_
  rintro e w2 ⟨rfl, rfl⟩
  have HE := Hd.mk (show opOk x = (inB x.kind 1 4 && (decide ((x.way.length : Int) ≤ 6) && (jsonOk x.value && (x.way.all textB && (x.kind != 2 || eqv x.value J.null))))) by
    rw [opOk]
    cases x.way.all textB <;> cases inB x.kind 1 4 <;> cases decide ((x.way.length : Int) ≤ 6) <;> cases jsonOk x.value <;> rfl)
  cases h1 : inB x.kind 1 4
  · have HN := Hd.mk (show opOk x = false by rw [HE.out, h1]; rfl)
    go_wp2_with fail
    go_ret
    exact ⟨by rw [HN.out]; rfl, by exact hB.out⟩
  replace HE := Hd.mk (show opOk x = (decide ((x.way.length : Int) ≤ 6) && (jsonOk x.value && (x.way.all textB && (x.kind != 2 || eqv x.value J.null)))) by rw [HE.out, h1]; rfl)
  clear h1
  by_cases h2 : (x.way.length : Int) ≤ 6
  rotate_left
  · have HN := Hd.mk (show opOk x = false by rw [HE.out, decide_eq_false h2]; rfl)
    go_wp2_with fail
    go_ret
    exact ⟨by rw [HN.out]; rfl, by exact hB.out⟩
  replace HE := Hd.mk (show opOk x = (jsonOk x.value && (x.way.all textB && (x.kind != 2 || eqv x.value J.null))) by rw [HE.out, decide_eq_true h2]; rfl)
  go_wp2_with fail
  refine (spec_JsonOk x.value _ _ ((tJ (m + 1)).K_below hB.out HJ.out)).mono ?_
  rintro e w3 ⟨rfl, hX⟩
  clear f0 f1 f2 f3 f4 f5 f6
  replace b0 := b0.below hX
  replace hB := Hd.mk (below_then hB.out hX)
  clear hX
  have f0 : w3.cell? ⟨w.heap.size, 0, none⟩ = some (Value.int IntKind.i64 x.kind) := b0.cell 0 rfl
  have f1 : w3.cell? ⟨w.heap.size, 1, none⟩ = some (Value.slice A1 x.way.length c1) := b0.cell 1 rfl
  have f2 : w3.cell? ⟨w.heap.size, 2, none⟩ = some (Value.int IntKind.i64 x.value.kind) := b0.cell 2 rfl
  have f3 : w3.cell? ⟨w.heap.size, 3, none⟩ = some (Value.int IntKind.i64 x.value.n) := b0.cell 3 rfl
  have f4 : w3.cell? ⟨w.heap.size, 4, none⟩ = some (Value.string x.value.s) := b0.cell 4 rfl
  have f5 : w3.cell? ⟨w.heap.size, 5, none⟩ = some (Value.slice A2 x.value.list.length c2) := b0.cell 5 rfl
  have f6 : w3.cell? ⟨w.heap.size, 6, none⟩ = some (Value.slice A3 x.value.names.length c3) := b0.cell 6 rfl
  cases h1 : jsonOk x.value
  · have HN := Hd.mk (show opOk x = false by rw [HE.out, h1]; rfl)
    go_wp2_with fail
    go_ret
    exact ⟨by rw [HN.out]; rfl, by exact hB.out⟩
  replace HE := Hd.mk (show opOk x = (x.way.all textB && (x.kind != 2 || eqv x.value J.null)) by rw [HE.out, h1]; rfl)
  clear h1
  go_wp2_with fail
  clear f0 f1 f2 f3 f4 f5 f6
  go_loopw [3] (fun i wr => ∃ k : Nat, k ≤ x.way.length ∧ i = .int .i64 k ∧ Hd ((x.way.take k).all textB = true) ∧ Hd (Below w.heap.size w wr) ∧ Blk wr w.heap.size #[Value.int IntKind.i64 x.kind, Value.slice A1 x.way.length c1, Value.int IntKind.i64 x.value.kind, Value.int IntKind.i64 x.value.n, Value.string x.value.s, Value.slice A2 x.value.list.length c2, Value.slice A3 x.value.names.length c3] 49) (fun i _ => x.way.length - (intOf i).toNat)
  case atStart => exact ⟨0, Nat.zero_le _, rfl, ⟨rfl⟩, hB, b0⟩
  case round =>
    clear hB b0
    obtain ⟨k, hk, rfl, HA, hB, b0⟩ := hrel
    have f0 : wr.cell? ⟨w.heap.size, 0, none⟩ = some (Value.int IntKind.i64 x.kind) := b0.cell 0 rfl
    have f1 : wr.cell? ⟨w.heap.size, 1, none⟩ = some (Value.slice A1 x.way.length c1) := b0.cell 1 rfl
    have f2 : wr.cell? ⟨w.heap.size, 2, none⟩ = some (Value.int IntKind.i64 x.value.kind) := b0.cell 2 rfl
    have f3 : wr.cell? ⟨w.heap.size, 3, none⟩ = some (Value.int IntKind.i64 x.value.n) := b0.cell 3 rfl
    have f4 : wr.cell? ⟨w.heap.size, 4, none⟩ = some (Value.string x.value.s) := b0.cell 4 rfl
    have f5 : wr.cell? ⟨w.heap.size, 5, none⟩ = some (Value.slice A2 x.value.list.length c2) := b0.cell 5 rfl
    have f6 : wr.cell? ⟨w.heap.size, 6, none⟩ = some (Value.slice A3 x.value.names.length c3) := b0.cell 6 rfl
    by_cases hlt : k < x.way.length
    · obtain ⟨ad, rfl, hx, hsz⟩ := C_str_at HR.out hB.out k hlt
      have HA2 := Hd.mk (all_take textB x.way k hlt HA.out)
      go_wp2_with fail
      refine (spec_l1Text _ _ hsz).mono ?_
      rintro e w9 ⟨rfl, rfl⟩
      cases hb : textB x.way[k]
      · have HN := Hd.mk (show opOk x = false by rw [HE.out, all_false textB x.way (k + 1) (by rw [HA2.out]; exact hb)]; rfl)
        go_wp2_with fail
        go_ret
        exact ⟨by rw [HN.out]; rfl, hB.out⟩
      · have HN := Hd.mk hb
        go_wp2_with fail
        clear f0 f1 f2 f3 f4 f5 f6
        go_roundw
        case rel => exact ⟨k + 1, by omega, by go_num, ⟨by rw [HA2.out]; exact HN.out⟩, hB, b0⟩
        case measure => simp [intOf]; omega
    · obtain rfl : k = x.way.length := by omega
      have HW := Hd.mk (show x.way.all textB = true by have := HA.out; rwa [List.take_length] at this)
      have HE2 := Hd.mk (show opOk x = (x.kind != 2 || eqv x.value J.null) by rw [HE.out, HW.out]; rfl)
      cases h3 : (x.kind != 2)
      case true =>
        have HN := Hd.mk (show opOk x = true by rw [HE2.out, h3]; rfl)
        go_wp2_with fail
        go_ret
        exact ⟨by rw [HN.out]; rfl, hB.out⟩
      have HE3 := Hd.mk (show opOk x = eqv x.value J.null by rw [HE2.out, h3]; rfl)
      go_wp2_with fail
      refine (same_all (m + 1) x.value J.null _ _ _ ((tJ (m + 1)).K_below hB.out HJ.out) null_K).mono ?_
      rintro e w4 ⟨rfl, hX⟩
      replace hB := Hd.mk (below_then hB.out hX)
      clear hX
      go_wp2_with fail
      go_ret
      exact ⟨by rw [HE3.out]; rfl, hB.out⟩
end Go.Proofs.YtkgefjjgjjmklaaDoor.X
