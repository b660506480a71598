/- What is proved here: contracts of the program's functions over rows and schemas. Conditions: none. -/
import Derived.Test.YtnpogfhfjofbmaaXB
import Derived.StillTailTactics
import Derived.Deep.RegionWith
namespace Go.Proofs.Ytnpogfhfjofbmaa.X
open Go.RowKit Go.Sort
set_option linter.unusedVariables false
set_option linter.unusedSimpArgs false
open Ty
set_option maxRecDepth 100000 in
theorem slices_Equal_int (A A2 : Option Addr) (c c2 : Nat) (l l2 : List Int) (w : World) (hr : int.C w A l) (hr2 : int.C w A2 l2) :
    Calls Try.prog 132 #[.slice A l.length c, .slice A2 l2.length c2] w fun e w' => e = .returned (.bool (eqv l l2)) ∧ Below w.heap.size w w' := by
  have hm := hr.1
  have hm2 := hr2.1
  go_enter Try.func132, Try.ntmps132
  by_cases hlen : l.length = l2.length
  · have hd : ((l.length : Int) != l2.length) = false := by simp [hlen]
    have HL := Hd.mk hlen
    have HC := Hd.mk hr
    have HC2 := Hd.mk hr2
    clear hr hr2 hlen
    go_wp2
    go_loopw [13] (fun i wr => ∃ k : Nat, k ≤ l.length ∧ i = .int .i64 k ∧ Hd (l.take k = l2.take k) ∧ Hd (Below w.heap.size w wr)) (fun i _ => l.length - (intOf i).toNat)
    case atStart => exact ⟨0, Nat.zero_le _, rfl, ⟨rfl⟩, ⟨Below.refl _ _⟩⟩
    case round =>
      obtain ⟨k, hk, rfl, HK, HB⟩ := hrel
      by_cases hlt : k < l.length
      · obtain ⟨ad, rfl, hx⟩ := C_int_at HC.out HB.out k hlt
        have hlt2 : k < l2.length := by have := HL.out; omega
        obtain ⟨ad2, rfl, hx2⟩ := C_int_at HC2.out HB.out k hlt2
        cases hb : (l[k] != l2[k])
        · go_wp2
          go_quiet (fail)
          go_wp2
          go_roundw
          case rel => 
            refine ⟨k + 1, by omega, by go_num, ⟨?_⟩, ⟨?_⟩⟩
            · have hb : l[k] = l2[k] := by simpa using hb
              rw [List.take_succ_eq_append_getElem hlt, List.take_succ_eq_append_getElem hlt2, HK.out, hb]
            · exact below_drewN HB.out _
          case measure => simp [intOf]; omega
        · have HN := Hd.mk (eqv_at k hlt hlt2 (by simpa using hb))
          go_wp2
          go_quiet (fail)
          go_wp2
          go_ret
          exact ⟨by rw [HN.out]; rfl, below_drewN HB.out _⟩
      · obtain rfl : k = l.length := by omega
        go_wp2
        go_ret
        have h1 := HK.out
        rw [List.take_length, HL.out, List.take_length] at h1
        exact ⟨by rw [eqv_iff.2 h1]; rfl, HB.out⟩
  · have hd : ((l.length : Int) != l2.length) = true := by simp; omega
    have HN := Hd.mk (eqv_len hlen)
    go_wp2
    go_ret
    exact ⟨by rw [HN.out]; rfl, Below.refl _ _⟩
theorem eqv_row {x y : Row} : eqv x y = ((x.id == y.id) && eqv x.cells y.cells) := by
  by_cases h : x = y
  · subst h; simp [eqv_self]
  · rw [eqv_no h]
    cases h1 : (x.id == y.id)
    · rfl
    · rw [eqv_no (fun h2 => h (by cases x; cases y; exact Row.mk.injEq .. ▸ ⟨by simpa using h1, h2⟩))]; rfl
set_option maxRecDepth 100000 in
theorem impl_RowSame (x y : Row) (cs cs2 : List Value) (w : World) (hk : tRow.K w x cs) (hk2 : tRow.K w y cs2) :
    Calls Try.prog 43 #[.agg cs.toArray, .agg cs2.toArray] w fun e w' => e = .returned (.bool (eqv x y)) ∧ Below w.heap.size w w' := by
  obtain ⟨A1, c1, rfl, hc1, hr1⟩ := tRow_K.1 hk
  obtain ⟨Ab1, cb1, rfl, hcb1, hrb1⟩ := tRow_K.1 hk2
  have HR1 := Hd.mk hr1; clear hr1
  have HRb1 := Hd.mk hrb1; clear hrb1
  clear hk hk2
  rw [eqv_row]
  go_enter Try.func43, Try.ntmps43
  cases hb0 : (x.id == y.id)
  · go_wp2_with fail
    go_ret
    exact ⟨rfl, by exact below_alloc (below_alloc (Below.refl _ _) _) _⟩
  · go_wp2_with fail
    apply calls_gen; intro W0 hW
    have hB : Below w.heap.size w W0 := by rw [hW]; exact below_alloc (below_alloc (Below.refl _ _) _) _
    clear hW
    refine (slices_Equal_int _ _ _ _ x.cells y.cells _ (C_below HR1.out hB) (C_below HRb1.out hB)).mono ?_
    rintro e w1 ⟨rfl, hB1⟩
    go_wp2_with fail
    go_ret
    exact ⟨by simp, below_then hB hB1⟩
set_option maxRecDepth 100000 in
theorem spec_RowSame (x y : Row) (cs cs2 : List Value) (w : World) (hk : tRow.K w x cs) (hk2 : tRow.K w y cs2) :
    Calls Try.prog 50 #[.agg cs.toArray, .agg cs2.toArray] w fun e w' => e = .returned (.bool (eqv x y)) ∧ Below w.heap.size w w' := by
  obtain ⟨A1, c1, rfl, hc1, hr1⟩ := tRow_K.1 hk
  obtain ⟨Ab1, cb1, rfl, hcb1, hrb1⟩ := tRow_K.1 hk2
  have hm1 := hr1.1
  have hm2 := hrb1.1
  have HR1 := Hd.mk hr1; clear hr1
  have HRb1 := Hd.mk hrb1; clear hrb1
  clear hk hk2
  rw [eqv_row]
  go_enter Try.func50, Try.ntmps50
  cases hb0 : (x.id != y.id)
  case true =>
    have HN := Hd.mk (show (x.id == y.id) = false by simpa using hb0)
    go_wp2_with fail
    go_ret
    exact ⟨by rw [HN.out]; rfl, by exact below_alloc (below_alloc (Below.refl _ _) _) _⟩
  have hb1 : (x.id == y.id) = true := by simpa using hb0
  rw [hb1]
  by_cases hlen : x.cells.length = y.cells.length
  · have hd : ((x.cells.length : Int) != y.cells.length) = false := by simp [hlen]
    have HL := Hd.mk hlen
    clear hlen
    have b0 : Blk ((w.alloc (Obj.cells #[Value.int IntKind.i64 x.id, Value.slice A1 x.cells.length c1] 41)).alloc (Obj.cells #[Value.int IntKind.i64 y.id, Value.slice Ab1 y.cells.length cb1] 41)) w.heap.size #[Value.int IntKind.i64 x.id, Value.slice A1 x.cells.length c1] 41 := (Blk.new w _ _).alloc _
    have b1 : Blk ((w.alloc (Obj.cells #[Value.int IntKind.i64 x.id, Value.slice A1 x.cells.length c1] 41)).alloc (Obj.cells #[Value.int IntKind.i64 y.id, Value.slice Ab1 y.cells.length cb1] 41)) (w.heap.size + 1) #[Value.int IntKind.i64 y.id, Value.slice Ab1 y.cells.length cb1] 41 := by simpa using Blk.new (w.alloc _) _ _
    go_wp2_with fail
    go_loopw [5] (fun i wr => ∃ k : Nat, k ≤ x.cells.length ∧ i = .int .i64 k ∧ Hd (x.cells.take k = y.cells.take k) ∧ Hd (Below w.heap.size w wr) ∧ Blk wr w.heap.size #[Value.int IntKind.i64 x.id, Value.slice A1 x.cells.length c1] 41 ∧ Blk wr (w.heap.size + 1) #[Value.int IntKind.i64 y.id, Value.slice Ab1 y.cells.length cb1] 41) (fun i _ => x.cells.length - (intOf i).toNat)
    case atStart => exact ⟨0, Nat.zero_le _, rfl, ⟨rfl⟩, ⟨by exact below_alloc (below_alloc (Below.refl _ _) _) _⟩, b0, b1⟩
    case round =>
      clear b0 b1
      obtain ⟨k, hk, rfl, HK, HB, b0, b1⟩ := hrel
      have f1 : wr.cell? ⟨w.heap.size, 1, none⟩ = some (Value.slice A1 x.cells.length c1) := b0.cell 1 rfl
      have f2 : wr.cell? ⟨w.heap.size + 1, 1, none⟩ = some (Value.slice Ab1 y.cells.length cb1) := b1.cell 1 rfl
      by_cases hlt : k < x.cells.length
      · obtain ⟨ad, rfl, hx⟩ := C_int_at HR1.out HB.out k hlt
        have hlt2 : k < y.cells.length := by have := HL.out; omega
        obtain ⟨ad2, rfl, hx2⟩ := C_int_at HRb1.out HB.out k hlt2
        cases hb : (x.cells[k] != y.cells[k])
        · go_wp2_with fail
          go_quiet (fail)
          go_wp2_with fail
          go_roundw
          case rel => 
            refine ⟨k + 1, by omega, by go_num, ⟨?_⟩, ⟨?_⟩, b0.drewN _, b1.drewN _⟩
            · have hb : x.cells[k] = y.cells[k] := by simpa using hb
              rw [List.take_succ_eq_append_getElem hlt, List.take_succ_eq_append_getElem hlt2, HK.out, hb]
            · exact below_drewN HB.out _
          case measure => simp [intOf]; omega
        · have HN := Hd.mk (eqv_at k hlt hlt2 (by simpa using hb))
          go_wp2_with fail
          go_quiet (fail)
          go_wp2_with fail
          go_ret
          exact ⟨by rw [HN.out]; rfl, below_drewN HB.out _⟩
      · obtain rfl : k = x.cells.length := by omega
        go_wp2_with fail
        go_ret
        have h1 := HK.out
        rw [List.take_length, HL.out, List.take_length] at h1
        exact ⟨by rw [eqv_iff.2 h1]; rfl, HB.out⟩
  · have hd : ((x.cells.length : Int) != y.cells.length) = true := by simp; omega
    have HN := Hd.mk (eqv_len hlen)
    go_wp2_with fail
    go_ret
    exact ⟨by rw [HN.out]; rfl, by exact below_alloc (below_alloc (Below.refl _ _) _) _⟩
end Go.Proofs.Ytnpogfhfjofbmaa.X
