/- What is proved here: contracts of MutOk. Conditions: none. -/
import Derived.Test.YtchjcllpnpibeaaXFb
namespace Go.Proofs.Ytchjcllpnpibeaa.X
open Go.RowKit Go.Sort
set_option linter.unusedVariables false
set_option linter.unusedSimpArgs false
open Ty
def mutOk (cols : List Int) (m : Mut) : Bool := if m.kind == 3 then (schemaOk cols && (hasTab cols m.table && (inB m.row.id 1 999 && ((m.row.cells.length : Int) == 0)))) else (inB m.kind 1 2 && rowOk cols m.table m.row)
set_option maxRecDepth 100000 in
theorem impl_MutOk (A : Option Addr) (c : Nat) (l : List Int) (m : Mut) (cs : List Value) (w : World) (hr : int.C w A l) (hk : tMut.K w m cs) :
    Calls Try.prog 51 #[.agg #[.slice A l.length c], .agg cs.toArray] w fun e w' => e = .returned (.bool (mutOk l m)) ∧ Below w.heap.size w w' := by
  obtain ⟨A1, c1, rfl, hc1, hr1⟩ := tMut_K.1 hk
  have hm := hr.1
  have hm1 := hr1.1
  have HC := Hd.mk hr; clear hr hk
  have HK := Hd.mk (tRow_K.2 ⟨A1, c1, rfl, hc1, hr1⟩ : tRow.K w m.row [.int .i64 m.row.id, .slice A1 m.row.cells.length c1]); clear hr1
  have hB := Hd.mk (below_alloc (below_alloc (Below.refl w.heap.size w) (Obj.cells #[Value.slice A l.length c] 28)) (Obj.cells #[Value.int IntKind.i64 m.kind, Value.int IntKind.i64 m.table, Value.int IntKind.i64 m.row.id, Value.slice A1 m.row.cells.length c1] 53))
  have b0 : Blk ((w.alloc (Obj.cells #[Value.slice A l.length c] 28)).alloc (Obj.cells #[Value.int IntKind.i64 m.kind, Value.int IntKind.i64 m.table, Value.int IntKind.i64 m.row.id, Value.slice A1 m.row.cells.length c1] 53)) w.heap.size #[Value.slice A l.length c] 28 := (Blk.new w _ _).alloc _
  have b1 : Blk ((w.alloc (Obj.cells #[Value.slice A l.length c] 28)).alloc (Obj.cells #[Value.int IntKind.i64 m.kind, Value.int IntKind.i64 m.table, Value.int IntKind.i64 m.row.id, Value.slice A1 m.row.cells.length c1] 53)) (w.heap.size + 1) #[Value.int IntKind.i64 m.kind, Value.int IntKind.i64 m.table, Value.int IntKind.i64 m.row.id, Value.slice A1 m.row.cells.length c1] 53 := by simpa using Blk.new (w.alloc _) _ _
  go_enter Try.func51, Try.ntmps51
  cases h3 : (m.kind == 3)
  case true =>
    have HE := Hd.mk (show mutOk l m = (schemaOk l && (hasTab l m.table && (inB m.row.id 1 999 && ((m.row.cells.length : Int) == 0)))) by rw [mutOk, h3]; rfl)
    go_wp2_with fail
    apply calls_gen; intro W hW
    replace b0 : Blk W w.heap.size #[Value.slice A l.length c] 28 := by rw [hW]; exact b0
    replace b1 : Blk W (w.heap.size + 1) #[Value.int IntKind.i64 m.kind, Value.int IntKind.i64 m.table, Value.int IntKind.i64 m.row.id, Value.slice A1 m.row.cells.length c1] 53 := by rw [hW]; exact b1
    replace hB : Hd (Below w.heap.size w W) := by rw [hW]; exact hB
    clear hW
    refine (impl_SchemaOk A c l _ (C_below HC.out hB.out)).mono ?_
    rintro e w1 ⟨rfl, hX⟩
    replace b0 := b0.below hX
    replace b1 := b1.below hX
    replace hB := Hd.mk (below_then hB.out hX)
    clear hX
    have f0 : w1.cell? ⟨w.heap.size, 0, none⟩ = some (Value.slice A l.length c) := b0.cell 0 rfl
    have f1 : w1.cell? ⟨w.heap.size + 1, 1, none⟩ = some (Value.int IntKind.i64 m.table) := b1.cell 1 rfl
    have f2 : w1.cell? ⟨w.heap.size + 1, 2, none⟩ = some (Value.int IntKind.i64 m.row.id) := b1.cell 2 rfl
    have f3 : w1.cell? ⟨w.heap.size + 1, 3, none⟩ = some (Value.slice A1 m.row.cells.length c1) := b1.cell 3 rfl
    cases h1 : schemaOk l
    · have HE2 := Hd.mk (show mutOk l m = false by rw [HE.out, h1]; rfl)
      go_wp2_with fail
      go_ret
      exact ⟨by rw [HE2.out]; rfl, hB.out⟩
    replace HE := Hd.mk (show mutOk l m = (hasTab l m.table && (inB m.row.id 1 999 && ((m.row.cells.length : Int) == 0))) by rw [HE.out, h1]; rfl)
    clear h1
    go_wp2_with fail
    refine (impl_hasTable A c l m.table _ hm).mono ?_
    rintro e w2 ⟨rfl, hX⟩
    replace b0 := b0.below hX
    replace b1 := b1.below hX
    replace hB := Hd.mk (below_then hB.out hX)
    clear hX f0 f1 f2 f3
    have f2 : w2.cell? ⟨w.heap.size + 1, 2, none⟩ = some (Value.int IntKind.i64 m.row.id) := b1.cell 2 rfl
    have f3 : w2.cell? ⟨w.heap.size + 1, 3, none⟩ = some (Value.slice A1 m.row.cells.length c1) := b1.cell 3 rfl
    cases h1 : hasTab l m.table
    · have HE2 := Hd.mk (show mutOk l m = false by rw [HE.out, show hasTab l m.table = false from h1]; rfl)
      go_wp2_with fail
      go_ret
      exact ⟨by rw [HE2.out]; rfl, hB.out⟩
    replace HE := Hd.mk (show mutOk l m = (inB m.row.id 1 999 && ((m.row.cells.length : Int) == 0)) by rw [HE.out, show hasTab l m.table = true from h1]; rfl)
    clear h1
    go_wp2_with fail
    refine (impl_within _ _ _ _).mono ?_
    rintro e w3 ⟨rfl, rfl⟩
    cases h1 : inB m.row.id 1 999
    · have HE2 := Hd.mk (show mutOk l m = false by rw [HE.out, h1]; rfl)
      go_wp2_with fail
      go_ret
      exact ⟨by rw [HE2.out]; rfl, hB.out⟩
    replace HE := Hd.mk (show mutOk l m = ((m.row.cells.length : Int) == 0) by rw [HE.out, h1]; rfl)
    clear h1
    go_wp2_with fail
    go_ret
    exact ⟨by rw [HE.out]; rfl, hB.out⟩
  case false =>
    have HE := Hd.mk (show mutOk l m = (inB m.kind 1 2 && rowOk l m.table m.row) by rw [mutOk, h3]; rfl)
    go_wp2_with fail
    refine (impl_within _ _ _ _).mono ?_
    rintro e w3 ⟨rfl, rfl⟩
    cases h1 : inB m.kind 1 2
    · have HE2 := Hd.mk (show mutOk l m = false by rw [HE.out, h1]; rfl)
      go_wp2_with fail
      go_ret
      exact ⟨by rw [HE2.out]; rfl, hB.out⟩
    replace HE := Hd.mk (show mutOk l m = rowOk l m.table m.row by rw [HE.out, h1]; rfl)
    clear h1
    go_wp2_with fail
    refine (impl_RowOk A c l _ m.row _ _ (C_below HC.out hB.out) (tRow.K_below hB.out HK.out)).mono ?_
    rintro e w4 ⟨rfl, hX⟩
    have hB2 := below_then hB.out hX
    clear hX
    go_wp2_with fail
    go_ret
    exact ⟨by rw [HE.out]; rfl, hB2⟩
set_option maxRecDepth 100000 in
theorem spec_MutOk (A : Option Addr) (c : Nat) (l : List Int) (m : Mut) (cs : List Value) (w : World) (hr : int.C w A l) (hk : tMut.K w m cs) :
    Calls Try.prog 49 #[.agg #[.slice A l.length c], .agg cs.toArray] w fun e w' => e = .returned (.bool (mutOk l m)) ∧ Below w.heap.size w w' := by
  obtain ⟨A1, c1, rfl, hc1, hr1⟩ := tMut_K.1 hk
  have hm := hr.1
  have hm1 := hr1.1
  have HC := Hd.mk hr; clear hr hk
  have HK := Hd.mk (tRow_K.2 ⟨A1, c1, rfl, hc1, hr1⟩ : tRow.K w m.row [.int .i64 m.row.id, .slice A1 m.row.cells.length c1]); clear hr1
  have hB := Hd.mk (below_alloc (below_alloc (Below.refl w.heap.size w) (Obj.cells #[Value.slice A l.length c] 28)) (Obj.cells #[Value.int IntKind.i64 m.kind, Value.int IntKind.i64 m.table, Value.int IntKind.i64 m.row.id, Value.slice A1 m.row.cells.length c1] 53))
  have b0 : Blk ((w.alloc (Obj.cells #[Value.slice A l.length c] 28)).alloc (Obj.cells #[Value.int IntKind.i64 m.kind, Value.int IntKind.i64 m.table, Value.int IntKind.i64 m.row.id, Value.slice A1 m.row.cells.length c1] 53)) w.heap.size #[Value.slice A l.length c] 28 := (Blk.new w _ _).alloc _
  have b1 : Blk ((w.alloc (Obj.cells #[Value.slice A l.length c] 28)).alloc (Obj.cells #[Value.int IntKind.i64 m.kind, Value.int IntKind.i64 m.table, Value.int IntKind.i64 m.row.id, Value.slice A1 m.row.cells.length c1] 53)) (w.heap.size + 1) #[Value.int IntKind.i64 m.kind, Value.int IntKind.i64 m.table, Value.int IntKind.i64 m.row.id, Value.slice A1 m.row.cells.length c1] 53 := by simpa using Blk.new (w.alloc _) _ _
  go_enter Try.func49, Try.ntmps49
  cases h3 : (m.kind == 3)
  case true =>
    have HE := Hd.mk (show mutOk l m = (schemaOk l && (hasTab l m.table && (inB m.row.id 1 999 && ((m.row.cells.length : Int) == 0)))) by rw [mutOk, h3]; rfl)
    go_wp2_with fail
    apply calls_gen; intro W hW
    replace b0 : Blk W w.heap.size #[Value.slice A l.length c] 28 := by rw [hW]; exact b0
    replace b1 : Blk W (w.heap.size + 1) #[Value.int IntKind.i64 m.kind, Value.int IntKind.i64 m.table, Value.int IntKind.i64 m.row.id, Value.slice A1 m.row.cells.length c1] 53 := by rw [hW]; exact b1
    replace hB : Hd (Below w.heap.size w W) := by rw [hW]; exact hB
    clear hW
    refine (spec_SchemaOk A c l _ (C_below HC.out hB.out)).mono ?_
    rintro e w1 ⟨rfl, hX⟩
    replace b0 := b0.below hX
    replace b1 := b1.below hX
    replace hB := Hd.mk (below_then hB.out hX)
    clear hX
    have f0 : w1.cell? ⟨w.heap.size, 0, none⟩ = some (Value.slice A l.length c) := b0.cell 0 rfl
    have f1 : w1.cell? ⟨w.heap.size + 1, 1, none⟩ = some (Value.int IntKind.i64 m.table) := b1.cell 1 rfl
    have f2 : w1.cell? ⟨w.heap.size + 1, 2, none⟩ = some (Value.int IntKind.i64 m.row.id) := b1.cell 2 rfl
    have f3 : w1.cell? ⟨w.heap.size + 1, 3, none⟩ = some (Value.slice A1 m.row.cells.length c1) := b1.cell 3 rfl
    cases h1 : schemaOk l
    · have HE2 := Hd.mk (show mutOk l m = false by rw [HE.out, h1]; rfl)
      go_wp2_with fail
      go_ret
      exact ⟨by rw [HE2.out]; rfl, hB.out⟩
    replace HE := Hd.mk (show mutOk l m = (hasTab l m.table && (inB m.row.id 1 999 && ((m.row.cells.length : Int) == 0))) by rw [HE.out, h1]; rfl)
    clear h1
    go_wp2_with fail
    refine (spec_l1In _ _ _ _).mono ?_
    rintro e w2 ⟨rfl, rfl⟩
    cases h1 : inB m.table 0 ((l.length : Int) - 1)
    · have HE2 := Hd.mk (show mutOk l m = false by rw [HE.out, show hasTab l m.table = false from h1]; rfl)
      go_wp2_with fail
      go_ret
      exact ⟨by rw [HE2.out]; rfl, hB.out⟩
    replace HE := Hd.mk (show mutOk l m = (inB m.row.id 1 999 && ((m.row.cells.length : Int) == 0)) by rw [HE.out, show hasTab l m.table = true from h1]; rfl)
    clear h1
    go_wp2_with fail
    refine (spec_l1In _ _ _ _).mono ?_
    rintro e w3 ⟨rfl, rfl⟩
    cases h1 : inB m.row.id 1 999
    · have HE2 := Hd.mk (show mutOk l m = false by rw [HE.out, h1]; rfl)
      go_wp2_with fail
      go_ret
      exact ⟨by rw [HE2.out]; rfl, hB.out⟩
    replace HE := Hd.mk (show mutOk l m = ((m.row.cells.length : Int) == 0) by rw [HE.out, h1]; rfl)
    clear h1
    go_wp2_with fail
    go_ret
    exact ⟨by rw [HE.out]; rfl, hB.out⟩
  case false =>
    have HE := Hd.mk (show mutOk l m = (inB m.kind 1 2 && rowOk l m.table m.row) by rw [mutOk, h3]; rfl)
    go_wp2_with fail
    refine (spec_l1In _ _ _ _).mono ?_
    rintro e w3 ⟨rfl, rfl⟩
    cases h1 : inB m.kind 1 2
    · have HE2 := Hd.mk (show mutOk l m = false by rw [HE.out, h1]; rfl)
      go_wp2_with fail
      go_ret
      exact ⟨by rw [HE2.out]; rfl, hB.out⟩
    replace HE := Hd.mk (show mutOk l m = rowOk l m.table m.row by rw [HE.out, h1]; rfl)
    clear h1
    go_wp2_with fail
    refine (spec_RowOk A c l _ m.row _ _ (C_below HC.out hB.out) (tRow.K_below hB.out HK.out)).mono ?_
    rintro e w4 ⟨rfl, hX⟩
    have hB2 := below_then hB.out hX
    clear hX
    go_wp2_with fail
    go_ret
    exact ⟨by rw [HE.out]; rfl, hB2⟩
end Go.Proofs.Ytchjcllpnpibeaa.X
