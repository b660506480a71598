/- What is proved here: contracts of the laws' own functions over rows, stores, changes. Conditions: none. -/
import Derived.Test.YtnpogfhfjofbmaaXA
import Derived.Test.YtnpogfhfjofbmaaX1
import Derived.Test.YtnpogfhfjofbmaaXD
namespace Go.Proofs.Ytnpogfhfjofbmaa.X
open Go.RowKit Go.Sort
set_option linter.unusedVariables false
set_option linter.unusedSimpArgs false
open Ty
def bulkL {α : Type} (b : α → Nat) : List α → Nat
  | [] => 0
  | x :: l => b x + bulkL b l
theorem bulkL_append {α : Type} (b : α → Nat) (l m : List α) : bulkL b (l ++ m) = bulkL b l + bulkL b m := by
  induction l with
  | nil => simp [bulkL]
  | cons x l ih => simp only [List.cons_append, bulkL, ih]; omega
theorem bulkL_take {α : Type} (b : α → Nat) (l : List α) (k : Nat) (hk : k < l.length) : bulkL b (l.take (k + 1)) = bulkL b (l.take k) + b l[k] := by
  rw [List.take_succ_eq_append_getElem hk, bulkL_append]
  simp [bulkL]
theorem bulkL_take_le {α : Type} (b : α → Nat) (l : List α) (k : Nat) : bulkL b (l.take k) ≤ bulkL b l := by
  have := bulkL_append b (l.take k) (l.drop k)
  rw [List.take_append_drop] at this
  omega
theorem bulkL_mem {α : Type} (b : α → Nat) {l : List α} {x : α} (h : x ∈ l) : b x ≤ bulkL b l := by
  induction l with
  | nil => cases h
  | cons y l ih =>
    simp only [bulkL]
    rcases List.mem_cons.1 h with rfl | h
    · omega
    · have := ih h; omega
theorem szR_sub {left : Int} {a b : Nat} (h : 0 ≤ left - (a : Int)) : szR (left - (a : Int)) b = szR left (a + b) := by
  unfold szR
  split <;> split <;> omega
def bulkRow (r : Row) : Nat := r.cells.length
def bulkRowS (l : List Row) : Nat := l.length + bulkL bulkRow l
def bulkRowSS (l : List (List Row)) : Nat := l.length + bulkL bulkRowS l
def bulkMut (m : Mut) : Nat := bulkRow m.row
def bulkMutS (l : List Mut) : Nat := l.length + bulkL bulkMut l
def bulkChange (c : Change) : Nat := bulkRow c.old + bulkRow c.new
def bulkStore (s : Store) : Nat := s.cols.length + bulkRowSS s.tabs
theorem bodyPost_retW {P : Program} {fn : Func} {R : Ending → World → Prop} {a : Act} {w : World} {v : Value}
    (hr : (results fn a.tmps).run P w = .ok v w) (hd : a.defers = []) (hR : ∀ W, W = w → R (.returned v) W) : bodyPost P fn R .ret a w := bodyPost_ret hr hd (hR w rfl)
set_option maxRecDepth 100000 in
theorem laws_szRow (x : Row) (cs : List Value) (left : Int) (w : World) (hk : tRow.K w x cs) (h0 : 0 ≤ left) (h1 : left ≤ 1048576) :
    Calls Try.prog 79 #[.agg cs.toArray, .int .i64 left] w fun e w' => e = .returned (.int .i64 (szR left (bulkRow x))) ∧ Below w.heap.size w w' := by
  obtain ⟨A1, c1, rfl, hc1, hr1⟩ := tRow_K.1 hk
  go_enter Try.func79, Try.ntmps79
  have hm1 := hr1.1
  have HR1 := Hd.mk hr1; clear hr1
  go_wp2_with fail
  have b := Blk.new w #[Value.int IntKind.i64 x.id, Value.slice A1 x.cells.length c1] 29
  have hB := below_alloc (Below.refl w.heap.size w) (Obj.cells #[Value.int IntKind.i64 x.id, Value.slice A1 x.cells.length c1] 29)
  generalize w.alloc (Obj.cells #[Value.int IntKind.i64 x.id, Value.slice A1 x.cells.length c1] 29) = W0 at b hB ⊢
  have f0 : W0.cell? ⟨w.heap.size, 0, none⟩ = some (Value.int IntKind.i64 x.id) := b.cell 0 rfl
  have f1 : W0.cell? ⟨w.heap.size, 1, none⟩ = some (Value.slice A1 x.cells.length c1) := b.cell 1 rfl
  clear b
  refine (laws_szIntS _ _ _ _ _ h0 h1 hm1).mono ?_
  rintro e w1 ⟨rfl, rfl⟩
  by_cases hz0 : szR left (x.cells.length) < 0
  · have HN := Hd.mk (show szR left (bulkRow x) = -1 by have h3 := szR_lt.1 hz0; unfold szR; rw [if_neg (by simp only [bulkRow] at h3 ⊢; omega)])
    go_wp2_with fail
    go_ret
    exact ⟨by rw [HN.out]; rfl, hB⟩
  have HZ := Hd.mk (Int.not_lt.1 hz0)
  have hy0 := (szR_le HZ.out h1).2.1
  have hx0 := (szR_le HZ.out h1).2.2.1
  clear hz0
  go_wp2_with fail
  go_ret
  exact ⟨rfl, hB⟩
set_option maxRecDepth 100000 in
theorem laws_szRowS (A : Option Addr) (c : Nat) (l : List Row) (left : Int) (w : World) (hr : tRow.C w A l) (h0 : 0 ≤ left) (h1 : left ≤ 1048576) :
    Calls Try.prog 152 #[.slice A l.length c, .int .i64 left] w fun e w' => e = .returned (.int .i64 (szR left (bulkRowS l))) ∧ Below w.heap.size w w' := by
  have hm := hr.1
  have HC := Hd.mk hr; clear hr
  go_enter Try.func152, Try.ntmps152
  by_cases hz : left - (l.length : Int) < 0
  · have HN := Hd.mk (show szR left (bulkRowS l) = -1 by unfold szR; rw [if_neg (by simp only [bulkRowS]; omega)])
    go_wp2
    go_ret
    exact ⟨by rw [HN.out]; rfl, Below.refl _ _⟩
  · go_wp2
    go_loopw [1, 5] (fun v i wr => ∃ k : Nat, k ≤ l.length ∧ i = .int .i64 k ∧ v = .int .i64 (szR left (l.length + bulkL bulkRow (l.take k))) ∧ Hd (0 ≤ szR left (l.length + bulkL bulkRow (l.take k))) ∧ Hd (Below w.heap.size w wr)) (fun _ i _ => l.length - (intOf i).toNat)
    case atStart => exact ⟨0, Nat.zero_le _, rfl, by simp [bulkL, szR]; omega, ⟨by simp [bulkL, szR]; omega⟩, ⟨Below.refl _ _⟩⟩
    case round =>
      obtain ⟨k, hk, rfl, rfl, HZ, HB⟩ := hrel
      by_cases hlt : k < l.length
      · obtain ⟨ad, cs0, rfl, hK0, e0, e1⟩ := C_at HC.out HB.out k hlt
        obtain ⟨A1, c1, rfl, hc1, hr1⟩ := tRow_K.1 hK0
        have x0 : wr.cell? (ad.add (k * 2)) = some _ := e0 _ rfl
        have x1 : wr.cell? ⟨(ad.add (k * 2)).block, (ad.add (k * 2)).off + 1, none⟩ = some _ := e1 0 _ rfl
        have HK := Hd.mk hK0
        clear hK0 e0 e1
        clear hr1
        have hz0 := (szR_le HZ.out h1).2.1
        have hz1 := (szR_le HZ.out h1).2.2.1
        go_wp2_with fail
        refine (laws_szRow l[k] _ _ _ HK.out hz0 hz1).mono ?_
        rintro e w1 ⟨rfl, hB1⟩
        have hB2 := below_then HB.out hB1
        rw [szR_add HZ.out, Nat.add_assoc, ← bulkL_take bulkRow l k hlt]
        by_cases hz2 : szR left (l.length + bulkL bulkRow (l.take (k + 1))) < 0
        · have HN := Hd.mk (show szR left (bulkRowS l) = -1 by
            have h3 := szR_lt.1 hz2
            have h4 := bulkL_take_le bulkRow l (k + 1)
            unfold szR; rw [if_neg (by simp only [bulkRowS]; omega)])
          go_wp2_with fail
          go_ret
          exact ⟨by rw [HN.out]; rfl, hB2⟩
        · have HZ2 := Hd.mk (Int.not_lt.1 hz2)
          go_wp2_with fail
          go_roundw
          case rel => exact ⟨k + 1, by omega, by go_num, rfl, HZ2, ⟨hB2⟩⟩
          case measure => simp [intOf]; omega
      · obtain rfl : k = l.length := by omega
        go_wp2_with fail
        go_ret
        exact ⟨by simp [bulkRowS], HB.out⟩
set_option maxRecDepth 100000 in
theorem laws_szRowSS (A : Option Addr) (c : Nat) (l : List (List Row)) (left : Int) (w : World) (hr : tRows.C w A l) (h0 : 0 ≤ left) (h1 : left ≤ 1048576) :
    Calls Try.prog 78 #[.slice A l.length c, .int .i64 left] w fun e w' => e = .returned (.int .i64 (szR left (bulkRowSS l))) ∧ Below w.heap.size w w' := by
  have hm := hr.1
  have HC := Hd.mk hr; clear hr
  go_enter Try.func78, Try.ntmps78
  by_cases hz : left - (l.length : Int) < 0
  · have HN := Hd.mk (show szR left (bulkRowSS l) = -1 by unfold szR; rw [if_neg (by simp only [bulkRowSS]; omega)])
    go_wp2
    go_ret
    exact ⟨by rw [HN.out]; rfl, Below.refl _ _⟩
  · go_wp2
    go_loopw [1, 5] (fun v i wr => ∃ k : Nat, k ≤ l.length ∧ i = .int .i64 k ∧ v = .int .i64 (szR left (l.length + bulkL bulkRowS (l.take k))) ∧ Hd (0 ≤ szR left (l.length + bulkL bulkRowS (l.take k))) ∧ Hd (Below w.heap.size w wr)) (fun _ i _ => l.length - (intOf i).toNat)
    case atStart => exact ⟨0, Nat.zero_le _, rfl, by simp [bulkL, szR]; omega, ⟨by simp [bulkL, szR]; omega⟩, ⟨Below.refl _ _⟩⟩
    case round =>
      obtain ⟨k, hk, rfl, rfl, HZ, HB⟩ := hrel
      by_cases hlt : k < l.length
      · obtain ⟨ad, A1, c1, rfl, x0, hc1, hr1⟩ := C_rows_at HC.out HB.out k hlt
        have HK := Hd.mk hr1; clear hr1
        have hz0 := (szR_le HZ.out h1).2.1
        have hz1 := (szR_le HZ.out h1).2.2.1
        go_wp2_with fail
        refine (laws_szRowS _ _ l[k] _ _ HK.out hz0 hz1).mono ?_
        rintro e w1 ⟨rfl, hB1⟩
        have hB2 := below_then HB.out hB1
        rw [szR_add HZ.out, Nat.add_assoc, ← bulkL_take bulkRowS l k hlt]
        by_cases hz2 : szR left (l.length + bulkL bulkRowS (l.take (k + 1))) < 0
        · have HN := Hd.mk (show szR left (bulkRowSS l) = -1 by
            have h3 := szR_lt.1 hz2
            have h4 := bulkL_take_le bulkRowS l (k + 1)
            unfold szR; rw [if_neg (by simp only [bulkRowSS]; omega)])
          go_wp2_with fail
          go_ret
          exact ⟨by rw [HN.out]; rfl, hB2⟩
        · have HZ2 := Hd.mk (Int.not_lt.1 hz2)
          go_wp2_with fail
          go_roundw
          case rel => exact ⟨k + 1, by omega, by go_num, rfl, HZ2, ⟨hB2⟩⟩
          case measure => simp [intOf]; omega
      · obtain rfl : k = l.length := by omega
        go_wp2_with fail
        go_ret
        exact ⟨by simp [bulkRowSS], HB.out⟩
set_option maxRecDepth 100000 in
theorem laws_szStore (x : Store) (cs : List Value) (left : Int) (w : World) (hk : tStore.K w x cs) (h0 : 0 ≤ left) (h1 : left ≤ 1048576) :
    Calls Try.prog 11 #[.agg cs.toArray, .int .i64 left] w fun e w' => e = .returned (.int .i64 (szR left (bulkStore x))) ∧ Below w.heap.size w w' := by
  obtain ⟨A1, c1, A2, c2, rfl, ⟨hc1, hr1⟩, hc2, hr2⟩ := tStore_K.1 hk
  go_enter Try.func11, Try.ntmps11
  have hm1 := hr1.1
  have HR1 := Hd.mk hr1; clear hr1
  have hm2 := hr2.1
  have HR2 := Hd.mk hr2; clear hr2
  go_wp2_with fail
  have b := Blk.new w #[Value.slice A1 x.cols.length c1, Value.int IntKind.i64 x.ver, Value.slice A2 x.tabs.length c2] 27
  have hB := below_alloc (Below.refl w.heap.size w) (Obj.cells #[Value.slice A1 x.cols.length c1, Value.int IntKind.i64 x.ver, Value.slice A2 x.tabs.length c2] 27)
  generalize w.alloc (Obj.cells #[Value.slice A1 x.cols.length c1, Value.int IntKind.i64 x.ver, Value.slice A2 x.tabs.length c2] 27) = W0 at b hB ⊢
  have f0 : W0.cell? ⟨w.heap.size, 0, none⟩ = some (Value.slice A1 x.cols.length c1) := b.cell 0 rfl
  have f1 : W0.cell? ⟨w.heap.size, 1, none⟩ = some (Value.int IntKind.i64 x.ver) := b.cell 1 rfl
  have f2 : W0.cell? ⟨w.heap.size, 2, none⟩ = some (Value.slice A2 x.tabs.length c2) := b.cell 2 rfl
  clear b
  refine (laws_szSchema _ _ _ _ _ h0 h1 hm1).mono ?_
  rintro e w1 ⟨rfl, hB1⟩
  replace f0 := cell_below hB1 f0
  replace f1 := cell_below hB1 f1
  replace f2 := cell_below hB1 f2
  replace hB := below_then hB hB1
  clear hB1
  by_cases hz0 : szR left (x.cols.length) < 0
  · have HN := Hd.mk (show szR left (bulkStore x) = -1 by have h3 := szR_lt.1 hz0; unfold szR; rw [if_neg (by simp only [bulkStore] at h3 ⊢; omega)])
    go_wp2_with fail
    go_ret
    exact ⟨by rw [HN.out]; rfl, hB⟩
  have HZ := Hd.mk (Int.not_lt.1 hz0)
  have hy0 := (szR_le HZ.out h1).2.1
  have hx0 := (szR_le HZ.out h1).2.2.1
  clear hz0
  go_wp2_with fail
  refine (laws_szRowSS _ _ x.tabs _ _ (C_below HR2.out hB) hy0 hx0).mono ?_
  rintro e w2 ⟨rfl, hB1⟩
  replace f0 := cell_below hB1 f0
  replace f1 := cell_below hB1 f1
  replace f2 := cell_below hB1 f2
  replace hB := below_then hB hB1
  clear hB1
  rw [szR_add HZ.out]
  by_cases hz1 : szR left (x.cols.length + bulkRowSS x.tabs) < 0
  · have HN := Hd.mk (show szR left (bulkStore x) = -1 by have h3 := szR_lt.1 hz1; unfold szR; rw [if_neg (by simp only [bulkStore] at h3 ⊢; omega)])
    go_wp2_with fail
    go_ret
    exact ⟨by rw [HN.out]; rfl, hB⟩
  have HZ := Hd.mk (Int.not_lt.1 hz1)
  have hy1 := (szR_le HZ.out h1).2.1
  have hx1 := (szR_le HZ.out h1).2.2.1
  clear hz1
  go_wp2_with fail
  go_ret
  exact ⟨rfl, hB⟩
set_option maxRecDepth 100000 in
theorem laws_szChange (x : Change) (cs : List Value) (left : Int) (w : World) (hk : tChange.K w x cs) (h0 : 0 ≤ left) (h1 : left ≤ 1048576) :
    Calls Try.prog 12 #[.agg cs.toArray, .int .i64 left] w fun e w' => e = .returned (.int .i64 (szR left (bulkChange x))) ∧ Below w.heap.size w w' := by
  obtain ⟨A1, c1, A2, c2, rfl, ⟨hc1, hr1⟩, hc2, hr2⟩ := tChange_K.1 hk
  go_enter Try.func12, Try.ntmps12
  have hm1 := hr1.1
  have HR1 := Hd.mk hr1; clear hr1
  have hm2 := hr2.1
  have HR2 := Hd.mk hr2; clear hr2
  go_wp2_with fail
  have b := Blk.new w #[Value.int IntKind.i64 x.table, Value.bool x.had, Value.bool x.has, Value.int IntKind.i64 x.old.id, Value.slice A1 x.old.cells.length c1, Value.int IntKind.i64 x.new.id, Value.slice A2 x.new.cells.length c2] 31
  have hB := below_alloc (Below.refl w.heap.size w) (Obj.cells #[Value.int IntKind.i64 x.table, Value.bool x.had, Value.bool x.has, Value.int IntKind.i64 x.old.id, Value.slice A1 x.old.cells.length c1, Value.int IntKind.i64 x.new.id, Value.slice A2 x.new.cells.length c2] 31)
  generalize w.alloc (Obj.cells #[Value.int IntKind.i64 x.table, Value.bool x.had, Value.bool x.has, Value.int IntKind.i64 x.old.id, Value.slice A1 x.old.cells.length c1, Value.int IntKind.i64 x.new.id, Value.slice A2 x.new.cells.length c2] 31) = W0 at b hB ⊢
  have f0 : W0.cell? ⟨w.heap.size, 0, none⟩ = some (Value.int IntKind.i64 x.table) := b.cell 0 rfl
  have f1 : W0.cell? ⟨w.heap.size, 1, none⟩ = some (Value.bool x.had) := b.cell 1 rfl
  have f2 : W0.cell? ⟨w.heap.size, 2, none⟩ = some (Value.bool x.has) := b.cell 2 rfl
  have f3 : W0.cell? ⟨w.heap.size, 3, none⟩ = some (Value.int IntKind.i64 x.old.id) := b.cell 3 rfl
  have f4 : W0.cell? ⟨w.heap.size, 4, none⟩ = some (Value.slice A1 x.old.cells.length c1) := b.cell 4 rfl
  have f5 : W0.cell? ⟨w.heap.size, 5, none⟩ = some (Value.int IntKind.i64 x.new.id) := b.cell 5 rfl
  have f6 : W0.cell? ⟨w.heap.size, 6, none⟩ = some (Value.slice A2 x.new.cells.length c2) := b.cell 6 rfl
  clear b
  refine (laws_szRow x.old _ _ _ (tRow_K.2 ⟨_, _, rfl, hc1, (C_below HR1.out hB)⟩) h0 h1).mono ?_
  rintro e w1 ⟨rfl, hB1⟩
  replace f0 := cell_below hB1 f0
  replace f1 := cell_below hB1 f1
  replace f2 := cell_below hB1 f2
  replace f3 := cell_below hB1 f3
  replace f4 := cell_below hB1 f4
  replace f5 := cell_below hB1 f5
  replace f6 := cell_below hB1 f6
  replace hB := below_then hB hB1
  clear hB1
  by_cases hz0 : szR left (bulkRow x.old) < 0
  · have HN := Hd.mk (show szR left (bulkChange x) = -1 by have h3 := szR_lt.1 hz0; unfold szR; rw [if_neg (by simp only [bulkChange] at h3 ⊢; omega)])
    go_wp2_with fail
    go_ret
    exact ⟨by rw [HN.out]; rfl, hB⟩
  have HZ := Hd.mk (Int.not_lt.1 hz0)
  have hy0 := (szR_le HZ.out h1).2.1
  have hx0 := (szR_le HZ.out h1).2.2.1
  clear hz0
  go_wp2_with fail
  refine (laws_szRow x.new _ _ _ (tRow_K.2 ⟨_, _, rfl, hc2, (C_below HR2.out hB)⟩) hy0 hx0).mono ?_
  rintro e w2 ⟨rfl, hB1⟩
  replace f0 := cell_below hB1 f0
  replace f1 := cell_below hB1 f1
  replace f2 := cell_below hB1 f2
  replace f3 := cell_below hB1 f3
  replace f4 := cell_below hB1 f4
  replace f5 := cell_below hB1 f5
  replace f6 := cell_below hB1 f6
  replace hB := below_then hB hB1
  clear hB1
  rw [szR_add HZ.out]
  by_cases hz1 : szR left (bulkRow x.old + bulkRow x.new) < 0
  · have HN := Hd.mk (show szR left (bulkChange x) = -1 by have h3 := szR_lt.1 hz1; unfold szR; rw [if_neg (by simp only [bulkChange] at h3 ⊢; omega)])
    go_wp2_with fail
    go_ret
    exact ⟨by rw [HN.out]; rfl, hB⟩
  have HZ := Hd.mk (Int.not_lt.1 hz1)
  have hy1 := (szR_le HZ.out h1).2.1
  have hx1 := (szR_le HZ.out h1).2.2.1
  clear hz1
  go_wp2_with fail
  go_ret
  exact ⟨rfl, hB⟩
set_option maxRecDepth 100000 in
theorem laws_toRow (x : Row) (cs : List Value) (w : World) (hk : tRow.K w x cs) (hl : bulkRow x ≤ 1048576) :
    Calls Try.prog 84 #[.agg cs.toArray] w fun e w' => ∃ cs', e = .returned (.agg cs'.toArray) ∧ tRow.O w' (fun k => w.heap.size ≤ k) x cs' ∧ Below w.heap.size w w' := by
  obtain ⟨A1, c1, rfl, hc1, hr1⟩ := tRow_K.1 hk
  simp only [bulkRow] at hl
  have HR1 := Hd.mk hr1; clear hr1
  have HL := Hd.mk hl; clear hl hk
  go_enter Try.func84, Try.ntmps84
  go_wp2_with fail
  apply calls_gen; intro W0 hW0
  have hB : Below w.heap.size w W0 := by rw [hW0]; exact below_alloc (below_alloc (below_alloc (Below.refl _ _) _) _) _
  have b0 : Blk W0 w.heap.size #[Value.int IntKind.i64 x.id, Value.slice A1 x.cells.length c1] 29 := by rw [hW0]; exact ((Blk.new w _ _).alloc _).alloc _
  have b1 : Blk W0 (w.heap.size + 1) #[Value.int IntKind.i64 0, Value.slice none 0 0] 41 := by rw [hW0]; exact (Blk.new1 w _ _ _).alloc _
  have b2 : Blk W0 (w.heap.size + 1 + 1) #[Value.int IntKind.i64 x.id, Value.slice none 0 0] 41 := by rw [hW0]; exact Blk.new2 w _ _ _ _
  have s0 : Hd (w.heap.size + 3 ≤ W0.heap.size) := ⟨by rw [hW0]; simp⟩
  clear hW0
  refine (laws_toIntS _ _ x.cells _ (C_below HR1.out hB) (by have := HL.out; omega)).mono ?_
  rintro e w1 ⟨v0, rfl, hR0, hB1⟩
  have t0 : Hd (W0.heap.size ≤ w1.heap.size) := ⟨hB1.size⟩
  replace hR0 := R_bound hR0
  replace b0 := b0.below hB1
  replace b1 := b1.below hB1
  replace b2 := b2.below hB1
  replace hB := below_then hB hB1
  obtain ⟨D0, d0, rfl, _, _⟩ := R_C hR0
  have H0 := Hd.mk hR0; clear hR0
  have p0 : w1.cell? ⟨w.heap.size, 0, none⟩ = some (Value.int IntKind.i64 x.id) := b0.cell 0 rfl
  have q0 : w1.cell? ⟨w.heap.size + 1, 0, none⟩ = some (Value.int IntKind.i64 0) := b1.cell 0 rfl
  have r0 : w1.cell? ⟨w.heap.size + 1 + 1, 0, none⟩ = some (Value.int IntKind.i64 x.id) := b2.cell 0 rfl
  have p1 : w1.cell? ⟨w.heap.size, 1, none⟩ = some (Value.slice A1 x.cells.length c1) := b0.cell 1 rfl
  have q1 : w1.cell? ⟨w.heap.size + 1, 1, none⟩ = some (Value.slice none 0 0) := b1.cell 1 rfl
  have r1 : w1.cell? ⟨w.heap.size + 1 + 1, 1, none⟩ = some (Value.slice none 0 0) := b2.cell 1 rfl
  have pf := b0.frozen
  have qf := b1.frozen
  have rf := b2.frozen
  clear hB1
  go_wp2_with fail
  refine bodyPost_retW (v := .agg #[Value.int IntKind.i64 x.id, Value.slice D0 x.cells.length d0]) (by simp [results, Try.results84, go_sem, q0, q1]) rfl ?_
  intro W hW
  have eF : Fr w1 W (fun k => w.heap.size ≤ k ∧ k < w.heap.size + 3) := by rw [hW]; repeat (first | refine Fr.setCell ?_ _ (fun _ => by constructor <;> (try simp only) <;> omega) _ | exact Fr.refl _ _)
  clear hW
  have hs0 := s0.out
  have ht0 := t0.out
  have hR0 := R_fr H0.out eF (fun k hk hl h => by have := hk.1; have := h.2; omega)
  refine ⟨[Value.int IntKind.i64 x.id, Value.slice D0 x.cells.length d0], rfl, ?_, ((Fr.of_below hB (fun k => w.heap.size ≤ k ∧ k < w.heap.size + 3)).then_ eF (fun k hk _ => hk)).below (fun k hk => hk.1)⟩
  exact tRow_O.2 ⟨_, rfl, R_mono (fun k hk => by have := hk.1; omega) hR0⟩
set_option maxRecDepth 100000 in
theorem laws_toRowS (A : Option Addr) (c : Nat) (l : List Row) (w : World) (hr : tRow.C w A l) (hl : bulkRowS l ≤ 1048576) :
    Calls Try.prog 157 #[.slice A l.length c] w fun e w' => ∃ v, e = .returned v ∧ tRow.R 41 w' (fun k => w.heap.size ≤ k) v l ∧ Below w.heap.size w w' := by
  have hl0 : l.length ≤ 1048576 := by simp only [bulkRowS] at hl; omega
  have hmk := make_eq (P := Try.prog) 68 41 (.agg #[.int .i64 0, .slice none 0 0]) 2 32 Try.underlying68 info_RowS l.length (by omega) (by omega)
  have HL := Hd.mk hl
  go_enter Try.func157, Try.ntmps157
  go_wp2
  have hR := R_made (d := tRow) (e := 41) (W := w) (z := (.agg #[.int .i64 0, .slice none 0 0])) (S := fun k => w.heap.size ≤ k) ⟨0, []⟩ l.length (by decide) (by omega) rfl (fun _ _ _ => tRow_O.2 ⟨_, rfl, R_nil⟩) (Nat.le_refl _)
  simp only [show tRow.sz = 2 from rfl, show (Value.agg #[.int .i64 0, .slice none 0 0] : Value).cells = #[.int .i64 0, .slice none 0 0] from rfl] at hR
  have HR := Hd.mk hR; clear hR hmk hl
  have HC := Hd.mk hr; clear hr
  go_loopw [4] (fun i wr => ∃ k : Nat, k ≤ l.length ∧ i = .int .i64 k ∧ Hd (tRow.R 41 wr (fun k => w.heap.size ≤ k) (.slice (some ⟨w.heap.size, 0, none⟩) l.length l.length) (l.take k ++ List.replicate (l.length - k) ⟨0, []⟩)) ∧ Hd (Below w.heap.size w wr)) (fun i _ => l.length - (intOf i).toNat)
  case atStart => exact ⟨0, Nat.zero_le _, rfl, ⟨by simpa using HR.out⟩, ⟨below_alloc (Below.refl _ _) _⟩⟩
  case round =>
    obtain ⟨k, hk, rfl, HK1, HB⟩ := hrel
    by_cases hlt : k < l.length
    · obtain ⟨ad, cs0, rfl, hK0, e0, e1⟩ := C_at HC.out HB.out k hlt
      obtain ⟨A1, c1, rfl, hc1, hr1⟩ := tRow_K.1 hK0
      have x0 : wr.cell? (ad.add (k * 2)) = some _ := e0 _ rfl
      have x1 : wr.cell? ⟨(ad.add (k * 2)).block, (ad.add (k * 2)).off + 1, none⟩ = some _ := e1 0 _ rfl
      have HK := Hd.mk hK0
      clear hK0 e0 e1
      clear hr1
      have hb := Nat.le_trans (bulkL_mem bulkRow (List.getElem_mem hlt)) (Nat.le_trans (Nat.le_add_left _ _) HL.out)
      go_wp2_with fail
      refine (laws_toRow l[k] _ _ HK.out hb).mono ?_
      rintro e w1 ⟨cs', rfl, hO, hB1⟩
      obtain ⟨hgl, ⟨cur, hcur, hcell⟩, hfz, hg, hst⟩ := R_put (i := k) (S' := fun k => w.heap.size ≤ k) (R_mono (fun _ h => h) (R_below (R_bound HK1.out) hB1)) (by simp; omega) (by decide) hO (fun k hk hl hs => by have := hs.2; omega) (fun k hk => hk.1) (fun k hk => Nat.le_trans HB.out.size hk)
      obtain ⟨v1, rfl, hv1⟩ := tRow_O.1 hO
      obtain ⟨D1, d1, rfl, _, _⟩ := R_C hv1
      obtain ⟨Az1, cz1, rfl, hcz1, hrz1⟩ := tRow_K.1 hcur
      clear hrz1 hv1
      have k0 : w1.cell? ⟨w.heap.size, k * 2, none⟩ = some _ := hcell 0 _ rfl
      have z0 := hfz (k * 2)
      have k1 : w1.cell? ⟨w.heap.size, k * 2 + 1, none⟩ = some _ := hcell 1 _ rfl
      have z1 := hfz (k * 2 + 1)
      have HST := Hd.mk hst
      clear hst hcell hfz hcur hO
      go_wp2_with fail
      go_roundw
      case rel =>
        refine ⟨k + 1, by omega, by go_num, ⟨?_⟩, ⟨?_⟩⟩
        · have := HST.out
          rw [set_rep l _ k hlt] at this
          exact this
        · exact (setAll_fr (S := fun k => w.heap.size ≤ k) (fun _ => Nat.le_refl _) [_, _] _ _ (Fr.of_below (below_then HB.out hB1) _)).below (fun k hk => hk)
      case measure => simp [intOf]; omega
    · obtain rfl : k = l.length := by omega
      go_wp2_with fail
      go_ret
      have := HK1.out
      exact ⟨_, rfl, by simpa using this, HB.out⟩
set_option maxRecDepth 100000 in
theorem laws_toRowSS (A : Option Addr) (c : Nat) (l : List (List Row)) (w : World) (hr : tRows.C w A l) (hl : bulkRowSS l ≤ 1048576) :
    Calls Try.prog 83 #[.slice A l.length c] w fun e w' => ∃ v, e = .returned v ∧ tRows.R 68 w' (fun k => w.heap.size ≤ k) v l ∧ Below w.heap.size w w' := by
  have hl0 : l.length ≤ 1048576 := by simp only [bulkRowSS] at hl; omega
  have hmk := make_eq (P := Try.prog) 35 68 (.slice none 0 0) 1 24 Try.underlying35 info_RowSS l.length (by omega) (by omega)
  have HL := Hd.mk hl
  go_enter Try.func83, Try.ntmps83
  go_wp2
  have hR := R_made (d := tRows) (e := 68) (W := w) (z := (.slice none 0 0)) (S := fun k => w.heap.size ≤ k) [] l.length (by decide) (by omega) rfl (fun _ _ _ => ⟨_, rfl, R_nil⟩) (Nat.le_refl _)
  simp only [show tRows.sz = 1 from rfl, Nat.mul_one, show (Value.slice none 0 0 : Value).cells = #[.slice none 0 0] from rfl] at hR
  have HR := Hd.mk hR; clear hR hmk hl
  have HC := Hd.mk hr; clear hr
  go_loopw [4] (fun i wr => ∃ k : Nat, k ≤ l.length ∧ i = .int .i64 k ∧ Hd (tRows.R 68 wr (fun k => w.heap.size ≤ k) (.slice (some ⟨w.heap.size, 0, none⟩) l.length l.length) (l.take k ++ List.replicate (l.length - k) [])) ∧ Hd (Below w.heap.size w wr)) (fun i _ => l.length - (intOf i).toNat)
  case atStart => exact ⟨0, Nat.zero_le _, rfl, ⟨by simpa using HR.out⟩, ⟨below_alloc (Below.refl _ _) _⟩⟩
  case round =>
    obtain ⟨k, hk, rfl, HK1, HB⟩ := hrel
    by_cases hlt : k < l.length
    · obtain ⟨ad, A1, c1, rfl, x0, hc1, hr1⟩ := C_rows_at HC.out HB.out k hlt
      have HK := Hd.mk hr1; clear hr1
      have hb := Nat.le_trans (bulkL_mem bulkRowS (List.getElem_mem hlt)) (Nat.le_trans (Nat.le_add_left _ _) HL.out)
      go_wp2_with fail
      refine (laws_toRowS _ _ l[k] _ HK.out hb).mono ?_
      rintro e w1 ⟨v1, rfl, hv1, hB1⟩
      have hO : tRows.O _ _ _ [v1] := ⟨_, rfl, hv1⟩
      obtain ⟨hgl, ⟨cur, hcur, hcell⟩, hfz, hg, hst⟩ := R_put (i := k) (S' := fun k => w.heap.size ≤ k) (R_mono (fun _ h => h) (R_below (R_bound HK1.out) hB1)) (by simp; omega) (by decide) hO (fun k hk hl hs => by have := hs.2; omega) (fun k hk => hk.1) (fun k hk => Nat.le_trans HB.out.size hk)
      obtain ⟨D1, d1, rfl, _, _⟩ := R_C hv1
      obtain ⟨Az1, cz1, rfl, _, _⟩ := sl_K.1 hcur
      clear hv1
      have k0 := hcell 0 _ rfl
      simp only [show tRows.sz = 1 from rfl, Nat.mul_one, Nat.add_zero] at k0
      have z0 := hfz k
      have HST := Hd.mk hst
      clear hst hcell hfz hcur hO
      go_wp2_with fail
      go_roundw
      case rel =>
        refine ⟨k + 1, by omega, by go_num, ⟨?_⟩, ⟨?_⟩⟩
        · have := HST.out
          rw [set_rep l _ k hlt] at this
          simpa [show tRows.sz = 1 from rfl, setAll] using this
        · exact (setAll_fr (S := fun k => w.heap.size ≤ k) (fun _ => Nat.le_refl _) [_] _ _ (Fr.of_below (below_then HB.out hB1) _)).below (fun k hk => hk)
      case measure => simp [intOf]; omega
    · obtain rfl : k = l.length := by omega
      go_wp2_with fail
      go_ret
      have := HK1.out
      exact ⟨_, rfl, by simpa using this, HB.out⟩
set_option maxRecDepth 100000 in
theorem laws_toStore (x : Store) (cs : List Value) (w : World) (hk : tStore.K w x cs) (hl : bulkStore x ≤ 1048576) :
    Calls Try.prog 14 #[.agg cs.toArray] w fun e w' => ∃ cs', e = .returned (.agg cs'.toArray) ∧ tStore.O w' (fun k => w.heap.size ≤ k) x cs' ∧ Below w.heap.size w w' := by
  obtain ⟨A1, c1, A2, c2, rfl, ⟨hc1, hr1⟩, hc2, hr2⟩ := tStore_K.1 hk
  simp only [bulkStore] at hl
  have HR1 := Hd.mk hr1; clear hr1
  have HR2 := Hd.mk hr2; clear hr2
  have HL := Hd.mk hl; clear hl hk
  go_enter Try.func14, Try.ntmps14
  go_wp2_with fail
  apply calls_gen; intro W0 hW0
  have hB : Below w.heap.size w W0 := by rw [hW0]; exact below_alloc (below_alloc (below_alloc (Below.refl _ _) _) _) _
  have b0 : Blk W0 w.heap.size #[Value.slice A1 x.cols.length c1, Value.int IntKind.i64 x.ver, Value.slice A2 x.tabs.length c2] 27 := by rw [hW0]; exact ((Blk.new w _ _).alloc _).alloc _
  have b1 : Blk W0 (w.heap.size + 1) #[Value.slice none 0 0, Value.int IntKind.i64 0, Value.slice none 0 0] 37 := by rw [hW0]; exact (Blk.new1 w _ _ _).alloc _
  have b2 : Blk W0 (w.heap.size + 1 + 1) #[Value.slice none 0 0, Value.int IntKind.i64 0, Value.slice none 0 0] 37 := by rw [hW0]; exact Blk.new2 w _ _ _ _
  have s0 : Hd (w.heap.size + 3 ≤ W0.heap.size) := ⟨by rw [hW0]; simp⟩
  clear hW0
  refine (laws_toSchema _ _ x.cols _ (C_below HR1.out hB) (by have := HL.out; omega)).mono ?_
  rintro e w1 ⟨v0, rfl, hR0, hB1⟩
  have t0 : Hd (W0.heap.size ≤ w1.heap.size) := ⟨hB1.size⟩
  replace hR0 := R_bound hR0
  replace b0 := b0.below hB1
  replace b1 := b1.below hB1
  replace b2 := b2.below hB1
  replace hB := below_then hB hB1
  obtain ⟨D0, d0, rfl, _, _⟩ := R_C hR0
  have H0 := Hd.mk hR0; clear hR0
  have p0 : w1.cell? ⟨w.heap.size, 0, none⟩ = some (Value.slice A1 x.cols.length c1) := b0.cell 0 rfl
  have q0 : w1.cell? ⟨w.heap.size + 1, 0, none⟩ = some (Value.slice none 0 0) := b1.cell 0 rfl
  have r0 : w1.cell? ⟨w.heap.size + 1 + 1, 0, none⟩ = some (Value.slice none 0 0) := b2.cell 0 rfl
  have p1 : w1.cell? ⟨w.heap.size, 1, none⟩ = some (Value.int IntKind.i64 x.ver) := b0.cell 1 rfl
  have q1 : w1.cell? ⟨w.heap.size + 1, 1, none⟩ = some (Value.int IntKind.i64 0) := b1.cell 1 rfl
  have r1 : w1.cell? ⟨w.heap.size + 1 + 1, 1, none⟩ = some (Value.int IntKind.i64 0) := b2.cell 1 rfl
  have p2 : w1.cell? ⟨w.heap.size, 2, none⟩ = some (Value.slice A2 x.tabs.length c2) := b0.cell 2 rfl
  have q2 : w1.cell? ⟨w.heap.size + 1, 2, none⟩ = some (Value.slice none 0 0) := b1.cell 2 rfl
  have r2 : w1.cell? ⟨w.heap.size + 1 + 1, 2, none⟩ = some (Value.slice none 0 0) := b2.cell 2 rfl
  have pf := b0.frozen
  have qf := b1.frozen
  have rf := b2.frozen
  clear hB1
  go_wp2_with fail
  clear p0 p1 p2 q0 q1 q2 r0 r1 r2 pf qf rf
  have hR0 := H0.out
  apply calls_gen; intro W1 hW1
  have eF : Fr w1 W1 (fun k => w.heap.size ≤ k ∧ k < w.heap.size + 3) := by rw [hW1]; repeat (first | refine Fr.setCell ?_ _ (fun _ => by constructor <;> (try simp only) <;> omega) _ | exact Fr.refl _ _)
  have hB : Below w.heap.size w W1 := ((Fr.of_below hB (fun k => w.heap.size ≤ k ∧ k < w.heap.size + 3)).then_ eF (fun k hk _ => hk)).below (fun k hk => hk.1)
  have b0 : Blk W1 w.heap.size #[Value.slice A1 x.cols.length c1, Value.int IntKind.i64 x.ver, Value.slice A2 x.tabs.length c2] 27 := by rw [hW1]; repeat (first | refine Blk.other ?_ _ (by simp <;> omega) _ | exact b0)
  have b1 : Blk W1 (w.heap.size + 1) #[Value.slice none 0 0, Value.int IntKind.i64 0, Value.slice none 0 0] 37 := by rw [hW1]; repeat (first | refine Blk.other ?_ _ (by simp <;> omega) _ | exact b1)
  have b2 : Blk W1 (w.heap.size + 1 + 1) #[Value.slice D0 x.cols.length d0, Value.int IntKind.i64 x.ver, Value.slice none 0 0] 37 := by rw [hW1]; exact ((b2.set 0 _).set 1 _)
  have s1 : Hd (w1.heap.size ≤ W1.heap.size) := ⟨eF.size⟩
  replace hR0 := R_fr hR0 eF (fun k hk hl h => by have := hk.1; have := h.2; have := s0.out; omega)
  clear hW1
  refine (laws_toRowSS _ _ x.tabs _ (C_below HR2.out hB) (by have := HL.out; omega)).mono ?_
  rintro e w2 ⟨v1, rfl, hR1, hB1⟩
  have t1 : Hd (W1.heap.size ≤ w2.heap.size) := ⟨hB1.size⟩
  replace hR0 := R_below hR0 hB1
  replace hR1 := R_bound hR1
  replace b0 := b0.below hB1
  replace b1 := b1.below hB1
  replace b2 := b2.below hB1
  replace hB := below_then hB hB1
  obtain ⟨D1, d1, rfl, _, _⟩ := R_C hR1
  have H0 := Hd.mk hR0; clear hR0
  have H1 := Hd.mk hR1; clear hR1
  have p0 : w2.cell? ⟨w.heap.size, 0, none⟩ = some (Value.slice A1 x.cols.length c1) := b0.cell 0 rfl
  have q0 : w2.cell? ⟨w.heap.size + 1, 0, none⟩ = some (Value.slice none 0 0) := b1.cell 0 rfl
  have r0 : w2.cell? ⟨w.heap.size + 1 + 1, 0, none⟩ = some (Value.slice D0 x.cols.length d0) := b2.cell 0 rfl
  have p1 : w2.cell? ⟨w.heap.size, 1, none⟩ = some (Value.int IntKind.i64 x.ver) := b0.cell 1 rfl
  have q1 : w2.cell? ⟨w.heap.size + 1, 1, none⟩ = some (Value.int IntKind.i64 0) := b1.cell 1 rfl
  have r1 : w2.cell? ⟨w.heap.size + 1 + 1, 1, none⟩ = some (Value.int IntKind.i64 x.ver) := b2.cell 1 rfl
  have p2 : w2.cell? ⟨w.heap.size, 2, none⟩ = some (Value.slice A2 x.tabs.length c2) := b0.cell 2 rfl
  have q2 : w2.cell? ⟨w.heap.size + 1, 2, none⟩ = some (Value.slice none 0 0) := b1.cell 2 rfl
  have r2 : w2.cell? ⟨w.heap.size + 1 + 1, 2, none⟩ = some (Value.slice none 0 0) := b2.cell 2 rfl
  have pf := b0.frozen
  have qf := b1.frozen
  have rf := b2.frozen
  clear hB1
  go_wp2_with fail
  refine bodyPost_retW (v := .agg #[Value.slice D0 x.cols.length d0, Value.int IntKind.i64 x.ver, Value.slice D1 x.tabs.length d1]) (by simp [results, Try.results14, go_sem, q0, q1, q2]) rfl ?_
  intro W hW
  have eF : Fr w2 W (fun k => w.heap.size ≤ k ∧ k < w.heap.size + 3) := by rw [hW]; repeat (first | refine Fr.setCell ?_ _ (fun _ => by constructor <;> (try simp only) <;> omega) _ | exact Fr.refl _ _)
  clear hW
  have hs0 := s0.out
  have ht0 := t0.out
  have hs1 := s1.out
  have ht1 := t1.out
  have hR0 := R_fr H0.out eF (fun k hk hl h => by have := hk.1; have := h.2; omega)
  have hR1 := R_fr H1.out eF (fun k hk hl h => by have := hk.1; have := h.2; omega)
  refine ⟨[Value.slice D0 x.cols.length d0, Value.int IntKind.i64 x.ver, Value.slice D1 x.tabs.length d1], rfl, ?_, ((Fr.of_below hB (fun k => w.heap.size ≤ k ∧ k < w.heap.size + 3)).then_ eF (fun k hk _ => hk)).below (fun k hk => hk.1)⟩
  exact tStore_O.2 ⟨_, _, _, _, rfl, hR0, hR1, fun k hk => by have := hk.1; omega, fun k hk => by have := hk.1; omega, fun k hk hk2 => by have := hk.2; have := hk2.1; omega⟩
set_option maxRecDepth 100000 in
theorem laws_toChange (x : Change) (cs : List Value) (w : World) (hk : tChange.K w x cs) (hl : bulkChange x ≤ 1048576) :
    Calls Try.prog 15 #[.agg cs.toArray] w fun e w' => ∃ cs', e = .returned (.agg cs'.toArray) ∧ tChange.O w' (fun k => w.heap.size ≤ k) x cs' ∧ Below w.heap.size w w' := by
  obtain ⟨A1, c1, A2, c2, rfl, ⟨hc1, hr1⟩, hc2, hr2⟩ := tChange_K.1 hk
  simp only [bulkChange] at hl
  have HR1 := Hd.mk hr1; clear hr1
  have HR2 := Hd.mk hr2; clear hr2
  have HL := Hd.mk hl; clear hl hk
  go_enter Try.func15, Try.ntmps15
  go_wp2_with fail
  apply calls_gen; intro W0 hW0
  have hB : Below w.heap.size w W0 := by rw [hW0]; exact below_alloc (below_alloc (below_alloc (Below.refl _ _) _) _) _
  have b0 : Blk W0 w.heap.size #[Value.int IntKind.i64 x.table, Value.bool x.had, Value.bool x.has, Value.int IntKind.i64 x.old.id, Value.slice A1 x.old.cells.length c1, Value.int IntKind.i64 x.new.id, Value.slice A2 x.new.cells.length c2] 31 := by rw [hW0]; exact ((Blk.new w _ _).alloc _).alloc _
  have b1 : Blk W0 (w.heap.size + 1) #[Value.int IntKind.i64 0, Value.bool false, Value.bool false, Value.int IntKind.i64 0, Value.slice none 0 0, Value.int IntKind.i64 0, Value.slice none 0 0] 43 := by rw [hW0]; exact (Blk.new1 w _ _ _).alloc _
  have b2 : Blk W0 (w.heap.size + 1 + 1) #[Value.int IntKind.i64 x.table, Value.bool x.had, Value.bool x.has, Value.int IntKind.i64 0, Value.slice none 0 0, Value.int IntKind.i64 0, Value.slice none 0 0] 43 := by rw [hW0]; exact Blk.new2 w _ _ _ _
  have s0 : Hd (w.heap.size + 3 ≤ W0.heap.size) := ⟨by rw [hW0]; simp⟩
  clear hW0
  refine (laws_toRow x.old _ _ (tRow_K.2 ⟨_, _, rfl, hc1, (C_below HR1.out hB)⟩) (by have := HL.out; omega)).mono ?_
  rintro e w1 ⟨cs0, rfl, hO0, hB1⟩
  have t0 : Hd (W0.heap.size ≤ w1.heap.size) := ⟨hB1.size⟩
  replace hO0 := Ty.O_bound _ hO0
  replace b0 := b0.below hB1
  replace b1 := b1.below hB1
  replace b2 := b2.below hB1
  replace hB := below_then hB hB1
  obtain ⟨u0, rfl, hu0⟩ := tRow_O.1 hO0
  obtain ⟨D0, d0, rfl, _, _⟩ := R_C hu0
  clear hu0
  have H0 := Hd.mk hO0; clear hO0
  have p0 : w1.cell? ⟨w.heap.size, 0, none⟩ = some (Value.int IntKind.i64 x.table) := b0.cell 0 rfl
  have q0 : w1.cell? ⟨w.heap.size + 1, 0, none⟩ = some (Value.int IntKind.i64 0) := b1.cell 0 rfl
  have r0 : w1.cell? ⟨w.heap.size + 1 + 1, 0, none⟩ = some (Value.int IntKind.i64 x.table) := b2.cell 0 rfl
  have p1 : w1.cell? ⟨w.heap.size, 1, none⟩ = some (Value.bool x.had) := b0.cell 1 rfl
  have q1 : w1.cell? ⟨w.heap.size + 1, 1, none⟩ = some (Value.bool false) := b1.cell 1 rfl
  have r1 : w1.cell? ⟨w.heap.size + 1 + 1, 1, none⟩ = some (Value.bool x.had) := b2.cell 1 rfl
  have p2 : w1.cell? ⟨w.heap.size, 2, none⟩ = some (Value.bool x.has) := b0.cell 2 rfl
  have q2 : w1.cell? ⟨w.heap.size + 1, 2, none⟩ = some (Value.bool false) := b1.cell 2 rfl
  have r2 : w1.cell? ⟨w.heap.size + 1 + 1, 2, none⟩ = some (Value.bool x.has) := b2.cell 2 rfl
  have p3 : w1.cell? ⟨w.heap.size, 3, none⟩ = some (Value.int IntKind.i64 x.old.id) := b0.cell 3 rfl
  have q3 : w1.cell? ⟨w.heap.size + 1, 3, none⟩ = some (Value.int IntKind.i64 0) := b1.cell 3 rfl
  have r3 : w1.cell? ⟨w.heap.size + 1 + 1, 3, none⟩ = some (Value.int IntKind.i64 0) := b2.cell 3 rfl
  have p4 : w1.cell? ⟨w.heap.size, 4, none⟩ = some (Value.slice A1 x.old.cells.length c1) := b0.cell 4 rfl
  have q4 : w1.cell? ⟨w.heap.size + 1, 4, none⟩ = some (Value.slice none 0 0) := b1.cell 4 rfl
  have r4 : w1.cell? ⟨w.heap.size + 1 + 1, 4, none⟩ = some (Value.slice none 0 0) := b2.cell 4 rfl
  have p5 : w1.cell? ⟨w.heap.size, 5, none⟩ = some (Value.int IntKind.i64 x.new.id) := b0.cell 5 rfl
  have q5 : w1.cell? ⟨w.heap.size + 1, 5, none⟩ = some (Value.int IntKind.i64 0) := b1.cell 5 rfl
  have r5 : w1.cell? ⟨w.heap.size + 1 + 1, 5, none⟩ = some (Value.int IntKind.i64 0) := b2.cell 5 rfl
  have p6 : w1.cell? ⟨w.heap.size, 6, none⟩ = some (Value.slice A2 x.new.cells.length c2) := b0.cell 6 rfl
  have q6 : w1.cell? ⟨w.heap.size + 1, 6, none⟩ = some (Value.slice none 0 0) := b1.cell 6 rfl
  have r6 : w1.cell? ⟨w.heap.size + 1 + 1, 6, none⟩ = some (Value.slice none 0 0) := b2.cell 6 rfl
  have pf := b0.frozen
  have qf := b1.frozen
  have rf := b2.frozen
  clear hB1
  go_wp2_with fail
  clear p0 p1 p2 p3 p4 p5 p6 q0 q1 q2 q3 q4 q5 q6 r0 r1 r2 r3 r4 r5 r6 pf qf rf
  have hO0 := H0.out
  apply calls_gen; intro W1 hW1
  have eF : Fr w1 W1 (fun k => w.heap.size ≤ k ∧ k < w.heap.size + 3) := by rw [hW1]; repeat (first | refine Fr.setCell ?_ _ (fun _ => by constructor <;> (try simp only) <;> omega) _ | exact Fr.refl _ _)
  have hB : Below w.heap.size w W1 := ((Fr.of_below hB (fun k => w.heap.size ≤ k ∧ k < w.heap.size + 3)).then_ eF (fun k hk _ => hk)).below (fun k hk => hk.1)
  have b0 : Blk W1 w.heap.size #[Value.int IntKind.i64 x.table, Value.bool x.had, Value.bool x.has, Value.int IntKind.i64 x.old.id, Value.slice A1 x.old.cells.length c1, Value.int IntKind.i64 x.new.id, Value.slice A2 x.new.cells.length c2] 31 := by rw [hW1]; repeat (first | refine Blk.other ?_ _ (by simp <;> omega) _ | exact b0)
  have b1 : Blk W1 (w.heap.size + 1) #[Value.int IntKind.i64 0, Value.bool false, Value.bool false, Value.int IntKind.i64 0, Value.slice none 0 0, Value.int IntKind.i64 0, Value.slice none 0 0] 43 := by rw [hW1]; repeat (first | refine Blk.other ?_ _ (by simp <;> omega) _ | exact b1)
  have b2 : Blk W1 (w.heap.size + 1 + 1) #[Value.int IntKind.i64 x.table, Value.bool x.had, Value.bool x.has, Value.int IntKind.i64 x.old.id, Value.slice D0 x.old.cells.length d0, Value.int IntKind.i64 0, Value.slice none 0 0] 43 := by rw [hW1]; exact ((b2.set 3 _).set 4 _)
  have s1 : Hd (w1.heap.size ≤ W1.heap.size) := ⟨eF.size⟩
  replace hO0 := O_fr hO0 eF (fun k hk hl h => by have := hk.1; have := h.2; have := s0.out; omega)
  clear hW1
  refine (laws_toRow x.new _ _ (tRow_K.2 ⟨_, _, rfl, hc2, (C_below HR2.out hB)⟩) (by have := HL.out; omega)).mono ?_
  rintro e w2 ⟨cs1, rfl, hO1, hB1⟩
  have t1 : Hd (W1.heap.size ≤ w2.heap.size) := ⟨hB1.size⟩
  replace hO0 := O_below hO0 hB1
  replace hO1 := Ty.O_bound _ hO1
  replace b0 := b0.below hB1
  replace b1 := b1.below hB1
  replace b2 := b2.below hB1
  replace hB := below_then hB hB1
  obtain ⟨u1, rfl, hu1⟩ := tRow_O.1 hO1
  obtain ⟨D1, d1, rfl, _, _⟩ := R_C hu1
  clear hu1
  have H0 := Hd.mk hO0; clear hO0
  have H1 := Hd.mk hO1; clear hO1
  have p0 : w2.cell? ⟨w.heap.size, 0, none⟩ = some (Value.int IntKind.i64 x.table) := b0.cell 0 rfl
  have q0 : w2.cell? ⟨w.heap.size + 1, 0, none⟩ = some (Value.int IntKind.i64 0) := b1.cell 0 rfl
  have r0 : w2.cell? ⟨w.heap.size + 1 + 1, 0, none⟩ = some (Value.int IntKind.i64 x.table) := b2.cell 0 rfl
  have p1 : w2.cell? ⟨w.heap.size, 1, none⟩ = some (Value.bool x.had) := b0.cell 1 rfl
  have q1 : w2.cell? ⟨w.heap.size + 1, 1, none⟩ = some (Value.bool false) := b1.cell 1 rfl
  have r1 : w2.cell? ⟨w.heap.size + 1 + 1, 1, none⟩ = some (Value.bool x.had) := b2.cell 1 rfl
  have p2 : w2.cell? ⟨w.heap.size, 2, none⟩ = some (Value.bool x.has) := b0.cell 2 rfl
  have q2 : w2.cell? ⟨w.heap.size + 1, 2, none⟩ = some (Value.bool false) := b1.cell 2 rfl
  have r2 : w2.cell? ⟨w.heap.size + 1 + 1, 2, none⟩ = some (Value.bool x.has) := b2.cell 2 rfl
  have p3 : w2.cell? ⟨w.heap.size, 3, none⟩ = some (Value.int IntKind.i64 x.old.id) := b0.cell 3 rfl
  have q3 : w2.cell? ⟨w.heap.size + 1, 3, none⟩ = some (Value.int IntKind.i64 0) := b1.cell 3 rfl
  have r3 : w2.cell? ⟨w.heap.size + 1 + 1, 3, none⟩ = some (Value.int IntKind.i64 x.old.id) := b2.cell 3 rfl
  have p4 : w2.cell? ⟨w.heap.size, 4, none⟩ = some (Value.slice A1 x.old.cells.length c1) := b0.cell 4 rfl
  have q4 : w2.cell? ⟨w.heap.size + 1, 4, none⟩ = some (Value.slice none 0 0) := b1.cell 4 rfl
  have r4 : w2.cell? ⟨w.heap.size + 1 + 1, 4, none⟩ = some (Value.slice D0 x.old.cells.length d0) := b2.cell 4 rfl
  have p5 : w2.cell? ⟨w.heap.size, 5, none⟩ = some (Value.int IntKind.i64 x.new.id) := b0.cell 5 rfl
  have q5 : w2.cell? ⟨w.heap.size + 1, 5, none⟩ = some (Value.int IntKind.i64 0) := b1.cell 5 rfl
  have r5 : w2.cell? ⟨w.heap.size + 1 + 1, 5, none⟩ = some (Value.int IntKind.i64 0) := b2.cell 5 rfl
  have p6 : w2.cell? ⟨w.heap.size, 6, none⟩ = some (Value.slice A2 x.new.cells.length c2) := b0.cell 6 rfl
  have q6 : w2.cell? ⟨w.heap.size + 1, 6, none⟩ = some (Value.slice none 0 0) := b1.cell 6 rfl
  have r6 : w2.cell? ⟨w.heap.size + 1 + 1, 6, none⟩ = some (Value.slice none 0 0) := b2.cell 6 rfl
  have pf := b0.frozen
  have qf := b1.frozen
  have rf := b2.frozen
  clear hB1
  go_wp2_with fail
  refine bodyPost_retW (v := .agg #[Value.int IntKind.i64 x.table, Value.bool x.had, Value.bool x.has, Value.int IntKind.i64 x.old.id, Value.slice D0 x.old.cells.length d0, Value.int IntKind.i64 x.new.id, Value.slice D1 x.new.cells.length d1]) (by simp [results, Try.results15, go_sem, q0, q1, q2, q3, q4, q5, q6]) rfl ?_
  intro W hW
  have eF : Fr w2 W (fun k => w.heap.size ≤ k ∧ k < w.heap.size + 3) := by rw [hW]; repeat (first | refine Fr.setCell ?_ _ (fun _ => by constructor <;> (try simp only) <;> omega) _ | exact Fr.refl _ _)
  clear hW
  have hs0 := s0.out
  have ht0 := t0.out
  have hs1 := s1.out
  have ht1 := t1.out
  have hO0 := O_fr H0.out eF (fun k hk hl h => by have := hk.1; have := h.2; omega)
  have hO1 := O_fr H1.out eF (fun k hk hl h => by have := hk.1; have := h.2; omega)
  refine ⟨[Value.int IntKind.i64 x.table, Value.bool x.had, Value.bool x.has, Value.int IntKind.i64 x.old.id, Value.slice D0 x.old.cells.length d0, Value.int IntKind.i64 x.new.id, Value.slice D1 x.new.cells.length d1], rfl, ?_, ((Fr.of_below hB (fun k => w.heap.size ≤ k ∧ k < w.heap.size + 3)).then_ eF (fun k hk _ => hk)).below (fun k hk => hk.1)⟩
  obtain ⟨z0, hz0, hw0⟩ := tRow_O.1 hO0
  simp only [List.cons.injEq, and_true, true_and] at hz0
  subst hz0
  obtain ⟨z1, hz1, hw1⟩ := tRow_O.1 hO1
  simp only [List.cons.injEq, and_true, true_and] at hz1
  subst hz1
  exact tChange_O.2 ⟨_, _, _, _, rfl, hw0, hw1, fun k hk => by have := hk.1; omega, fun k hk => by have := hk.1; omega, fun k hk hk2 => by have := hk.2; have := hk2.1; omega⟩
set_option maxRecDepth 100000 in
theorem laws_eqRow (x y : Row) (cs cs2 : List Value) (w : World) (hk : tRow.K w x cs) (hk2 : tRow.K w y cs2) :
    Calls Try.prog 89 #[.agg cs.toArray, .agg cs2.toArray] w fun e w' => e = .returned (.bool (eqv x y)) ∧ Below w.heap.size w w' := by
  obtain ⟨A1, c1, rfl, hc1, hr1⟩ := tRow_K.1 hk
  obtain ⟨Ab1, cb1, rfl, hcb1, hrb1⟩ := tRow_K.1 hk2
  have HR1 := Hd.mk hr1; clear hr1
  have HRb1 := Hd.mk hrb1; clear hrb1
  clear hk hk2
  go_enter Try.func89, Try.ntmps89
  have hB : Below w.heap.size w ((w.alloc (Obj.cells #[Value.int IntKind.i64 x.id, Value.slice A1 x.cells.length c1] 41)).alloc (Obj.cells #[Value.int IntKind.i64 y.id, Value.slice Ab1 y.cells.length cb1] 41)) := below_alloc (below_alloc (Below.refl _ _) _) _
  have b0 : Blk ((w.alloc (Obj.cells #[Value.int IntKind.i64 x.id, Value.slice A1 x.cells.length c1] 41)).alloc (Obj.cells #[Value.int IntKind.i64 y.id, Value.slice Ab1 y.cells.length cb1] 41)) w.heap.size #[Value.int IntKind.i64 x.id, Value.slice A1 x.cells.length c1] 41 := (Blk.new w _ _).alloc _
  have b1 : Blk ((w.alloc (Obj.cells #[Value.int IntKind.i64 x.id, Value.slice A1 x.cells.length c1] 41)).alloc (Obj.cells #[Value.int IntKind.i64 y.id, Value.slice Ab1 y.cells.length cb1] 41)) (w.heap.size + 1) #[Value.int IntKind.i64 y.id, Value.slice Ab1 y.cells.length cb1] 41 := by simpa using Blk.new (w.alloc _) _ _
  cases hb0 : (x.id != y.id)
  case true =>
    have HN := Hd.mk (eqv_no (a := x) (b := y) (fun h => by rw [h] at hb0; simp at hb0))
    go_wp2_with fail
    go_ret
    exact ⟨by rw [HN.out]; rfl, by exact hB⟩
  go_wp2_with fail
  apply calls_gen; intro W0 hW
  replace b0 : Blk W0 w.heap.size #[Value.int IntKind.i64 x.id, Value.slice A1 x.cells.length c1] 41 := by rw [hW]; exact b0
  replace b1 : Blk W0 (w.heap.size + 1) #[Value.int IntKind.i64 y.id, Value.slice Ab1 y.cells.length cb1] 41 := by rw [hW]; exact b1
  replace hB : Below w.heap.size w W0 := by rw [hW]; exact hB
  clear hW
  have p0 : W0.cell? ⟨w.heap.size, 0, none⟩ = some (Value.int IntKind.i64 x.id) := b0.cell 0 rfl
  have q0 : W0.cell? ⟨w.heap.size + 1, 0, none⟩ = some (Value.int IntKind.i64 y.id) := b1.cell 0 rfl
  have p1 : W0.cell? ⟨w.heap.size, 1, none⟩ = some (Value.slice A1 x.cells.length c1) := b0.cell 1 rfl
  have q1 : W0.cell? ⟨w.heap.size + 1, 1, none⟩ = some (Value.slice Ab1 y.cells.length cb1) := b1.cell 1 rfl
  clear b0 b1
  refine (laws_eqIntS _ _ _ _ x.cells y.cells _ (C_below HR1.out hB) (C_below HRb1.out hB)).mono ?_
  rintro e w2 ⟨rfl, hB1⟩
  replace p0 := cell_below hB1 p0
  replace q0 := cell_below hB1 q0
  replace p1 := cell_below hB1 p1
  replace q1 := cell_below hB1 q1
  replace hB := below_then hB hB1
  clear hB1
  cases hb1 : eqv x.cells y.cells
  case false =>
    have HN := Hd.mk (eqv_no (a := x) (b := y) (fun h => by rw [h, eqv_self] at hb1; cases hb1))
    go_wp2_with fail
    go_ret
    exact ⟨by rw [HN.out]; rfl, hB⟩
  have HE := Hd.mk (eqv_iff.2 (show x = y from by
    have e0 : x.id = y.id := by simpa using hb0
    have e1 : x.cells = y.cells := eqv_iff.1 hb1
    cases x; cases y
    exact Row.mk.injEq .. ▸ ⟨e0, e1⟩))
  go_wp2_with fail
  go_ret
  exact ⟨by rw [HE.out]; rfl, by exact hB⟩
set_option maxRecDepth 100000 in
theorem laws_eqRowS (A A2 : Option Addr) (c c2 : Nat) (l l2 : List Row) (w : World) (hr : tRow.C w A l) (hr2 : tRow.C w A2 l2) :
    Calls Try.prog 160 #[.slice A l.length c, .slice A2 l2.length c2] w fun e w' => e = .returned (.bool (eqv l l2)) ∧ Below w.heap.size w w' := by
  have hm := hr.1
  have hm2 := hr2.1
  go_enter Try.func160, Try.ntmps160
  by_cases hlen : l.length = l2.length
  · have hd : ((l.length : Int) != l2.length) = false := by simp [hlen]
    have HL := Hd.mk hlen
    have HC := Hd.mk hr
    have HC2 := Hd.mk hr2
    clear hr hr2 hlen
    go_wp2
    go_loopw [5] (fun i wr => ∃ k : Nat, k ≤ l.length ∧ i = .int .i64 k ∧ Hd (l.take k = l2.take k) ∧ Hd (Below w.heap.size w wr)) (fun i _ => l.length - (intOf i).toNat)
    case atStart => exact ⟨0, Nat.zero_le _, rfl, ⟨rfl⟩, ⟨Below.refl _ _⟩⟩
    case round =>
      obtain ⟨k, hk, rfl, HK1, HB⟩ := hrel
      by_cases hlt : k < l.length
      · have hlt2 : k < l2.length := by have := HL.out; omega
        obtain ⟨ad, cs0, rfl, hK0, e0, e1⟩ := C_at HC.out HB.out k hlt
        obtain ⟨A1, c1, rfl, hc1, hr1⟩ := tRow_K.1 hK0
        have x0 : wr.cell? (ad.add (k * 2)) = some _ := e0 _ rfl
        have x1 : wr.cell? ⟨(ad.add (k * 2)).block, (ad.add (k * 2)).off + 1, none⟩ = some _ := e1 0 _ rfl
        have HK := Hd.mk hK0
        clear hK0 e0 e1
        clear hr1
        obtain ⟨adb, csb0, rfl, hKb0, e0, e1⟩ := C_at HC2.out HB.out k hlt2
        obtain ⟨Ab1, cb1, rfl, hcb1, hrb1⟩ := tRow_K.1 hKb0
        have xb0 : wr.cell? (adb.add (k * 2)) = some _ := e0 _ rfl
        have xb1 : wr.cell? ⟨(adb.add (k * 2)).block, (adb.add (k * 2)).off + 1, none⟩ = some _ := e1 0 _ rfl
        have HKb := Hd.mk hKb0
        clear hKb0 e0 e1
        clear hrb1
        go_wp2_with fail
        have y0 := cell_regrown x0
        have yb0 := cell_regrown xb0
        have y1 := cell_regrown x1
        have yb1 := cell_regrown xb1
        refine region_mix [(true, 0), (true, 1), (true, 2), (true, 3), (true, 4), (true, 5), (true, 6), (true, 7), (false, 8), (true, 9)] (by kernel_rfl) (by kernel_rfl) (fun _ _ _ _ _ h => h) ?_
        repeat (refine mix_q rfl ?_; go_big_quiet_want; go_big_quiet_op; go_big_quiet_on; refine wpQuiet_nil ?_)
        refine mix_b rfl ?_ (by rfl)
        go_wp2_with fail
        refine (laws_eqRow l[k] l2[k] _ _ _ (Ty.K_below _ (below_drew (Below.refl _ _)) HK.out) (Ty.K_below _ (below_drew (Below.refl _ _)) HKb.out)).mono ?_
        rintro e w1 ⟨rfl, hB1⟩
        have hW1 := Hd.mk (below_then (below_drew (Below.refl wr.heap.size wr)) hB1)
        have hB2 := below_then HB.out hW1.out
        clear hB1
        cases hb : eqv l[k] l2[k]
        · have HN := Hd.mk (eqv_at k hlt hlt2 (fun h => by rw [h, eqv_self] at hb; cases hb))
          go_wp2_with fail
          refine ⟨cls_below hW1.out, ?_⟩
          repeat (refine mix_q rfl ?_; go_big_quiet_want; go_big_quiet_op; go_big_quiet_on; refine wpQuiet_nil ?_)
          refine mix_nil ?_
          go_wp2_with fail
          go_ret
          exact ⟨by rw [HN.out]; rfl, hB2⟩
        · have HE := Hd.mk (eqv_iff.1 hb)
          go_wp2_with fail
          refine ⟨cls_below hW1.out, ?_⟩
          repeat (refine mix_q rfl ?_; go_big_quiet_want; go_big_quiet_op; go_big_quiet_on; refine wpQuiet_nil ?_)
          refine mix_nil ?_
          go_wp2_with fail
          go_roundw
          case rel =>
            refine ⟨k + 1, by omega, by go_num, ⟨?_⟩, ⟨hB2⟩⟩
            rw [List.take_succ_eq_append_getElem hlt, List.take_succ_eq_append_getElem hlt2, HK1.out, HE.out]
          case measure => simp [intOf]; omega
      · obtain rfl : k = l.length := by omega
        go_wp2_with fail
        go_ret
        have h1 := HK1.out
        rw [List.take_length, HL.out, List.take_length] at h1
        exact ⟨by rw [eqv_iff.2 h1]; rfl, HB.out⟩
  · have hd : ((l.length : Int) != l2.length) = true := by simp; omega
    have HN := Hd.mk (eqv_len hlen)
    go_wp2
    go_ret
    exact ⟨by rw [HN.out]; rfl, Below.refl _ _⟩
set_option maxRecDepth 100000 in
theorem laws_eqRowSS (A A2 : Option Addr) (c c2 : Nat) (l l2 : List (List Row)) (w : World) (hr : tRows.C w A l) (hr2 : tRows.C w A2 l2) :
    Calls Try.prog 88 #[.slice A l.length c, .slice A2 l2.length c2] w fun e w' => e = .returned (.bool (eqv l l2)) ∧ Below w.heap.size w w' := by
  have hm := hr.1
  have hm2 := hr2.1
  go_enter Try.func88, Try.ntmps88
  by_cases hlen : l.length = l2.length
  · have hd : ((l.length : Int) != l2.length) = false := by simp [hlen]
    have HL := Hd.mk hlen
    have HC := Hd.mk hr
    have HC2 := Hd.mk hr2
    clear hr hr2 hlen
    go_wp2
    go_loopw [5] (fun i wr => ∃ k : Nat, k ≤ l.length ∧ i = .int .i64 k ∧ Hd (l.take k = l2.take k) ∧ Hd (Below w.heap.size w wr)) (fun i _ => l.length - (intOf i).toNat)
    case atStart => exact ⟨0, Nat.zero_le _, rfl, ⟨rfl⟩, ⟨Below.refl _ _⟩⟩
    case round =>
      obtain ⟨k, hk, rfl, HK1, HB⟩ := hrel
      by_cases hlt : k < l.length
      · have hlt2 : k < l2.length := by have := HL.out; omega
        obtain ⟨ad, A1, c1, rfl, x0, hc1, hr1⟩ := C_rows_at HC.out HB.out k hlt
        have HK := Hd.mk hr1; clear hr1
        obtain ⟨adb, Ab1, cb1, rfl, xb0, hcb1, hrb1⟩ := C_rows_at HC2.out HB.out k hlt2
        have HKb := Hd.mk hrb1; clear hrb1
        go_wp2_with fail
        have y0 := cell_regrown x0
        have yb0 := cell_regrown xb0
        refine region_mix [(true, 0), (true, 1), (true, 2), (true, 3), (true, 4), (true, 5), (true, 6), (true, 7), (false, 8), (true, 9)] (by kernel_rfl) (by kernel_rfl) (fun _ _ _ _ _ h => h) ?_
        repeat (refine mix_q rfl ?_; go_big_quiet_want; go_big_quiet_op; go_big_quiet_on; refine wpQuiet_nil ?_)
        refine mix_b rfl ?_ (by rfl)
        go_wp2_with fail
        refine (laws_eqRowS _ _ _ _ l[k] l2[k] _ (C_below HK.out (below_drew (Below.refl _ _))) (C_below HKb.out (below_drew (Below.refl _ _)))).mono ?_
        rintro e w1 ⟨rfl, hB1⟩
        have hW1 := Hd.mk (below_then (below_drew (Below.refl wr.heap.size wr)) hB1)
        have hB2 := below_then HB.out hW1.out
        clear hB1
        cases hb : eqv l[k] l2[k]
        · have HN := Hd.mk (eqv_at k hlt hlt2 (fun h => by rw [h, eqv_self] at hb; cases hb))
          go_wp2_with fail
          refine ⟨cls_below hW1.out, ?_⟩
          repeat (refine mix_q rfl ?_; go_big_quiet_want; go_big_quiet_op; go_big_quiet_on; refine wpQuiet_nil ?_)
          refine mix_nil ?_
          go_wp2_with fail
          go_ret
          exact ⟨by rw [HN.out]; rfl, hB2⟩
        · have HE := Hd.mk (eqv_iff.1 hb)
          go_wp2_with fail
          refine ⟨cls_below hW1.out, ?_⟩
          repeat (refine mix_q rfl ?_; go_big_quiet_want; go_big_quiet_op; go_big_quiet_on; refine wpQuiet_nil ?_)
          refine mix_nil ?_
          go_wp2_with fail
          go_roundw
          case rel =>
            refine ⟨k + 1, by omega, by go_num, ⟨?_⟩, ⟨hB2⟩⟩
            rw [List.take_succ_eq_append_getElem hlt, List.take_succ_eq_append_getElem hlt2, HK1.out, HE.out]
          case measure => simp [intOf]; omega
      · obtain rfl : k = l.length := by omega
        go_wp2_with fail
        go_ret
        have h1 := HK1.out
        rw [List.take_length, HL.out, List.take_length] at h1
        exact ⟨by rw [eqv_iff.2 h1]; rfl, HB.out⟩
  · have hd : ((l.length : Int) != l2.length) = true := by simp; omega
    have HN := Hd.mk (eqv_len hlen)
    go_wp2
    go_ret
    exact ⟨by rw [HN.out]; rfl, Below.refl _ _⟩
set_option maxRecDepth 100000 in
theorem laws_eqStore (x y : Store) (cs cs2 : List Value) (w : World) (hk : tStore.K w x cs) (hk2 : tStore.K w y cs2) :
    Calls Try.prog 17 #[.agg cs.toArray, .agg cs2.toArray] w fun e w' => e = .returned (.bool (eqv x y)) ∧ Below w.heap.size w w' := by
  obtain ⟨A1, c1, A2, c2, rfl, ⟨hc1, hr1⟩, hc2, hr2⟩ := tStore_K.1 hk
  obtain ⟨Ab1, cb1, Ab2, cb2, rfl, ⟨hcb1, hrb1⟩, hcb2, hrb2⟩ := tStore_K.1 hk2
  have HR1 := Hd.mk hr1; clear hr1
  have HRb1 := Hd.mk hrb1; clear hrb1
  have HR2 := Hd.mk hr2; clear hr2
  have HRb2 := Hd.mk hrb2; clear hrb2
  clear hk hk2
  go_enter Try.func17, Try.ntmps17
  have hB : Below w.heap.size w ((w.alloc (Obj.cells #[Value.slice A1 x.cols.length c1, Value.int IntKind.i64 x.ver, Value.slice A2 x.tabs.length c2] 37)).alloc (Obj.cells #[Value.slice Ab1 y.cols.length cb1, Value.int IntKind.i64 y.ver, Value.slice Ab2 y.tabs.length cb2] 37)) := below_alloc (below_alloc (Below.refl _ _) _) _
  have b0 : Blk ((w.alloc (Obj.cells #[Value.slice A1 x.cols.length c1, Value.int IntKind.i64 x.ver, Value.slice A2 x.tabs.length c2] 37)).alloc (Obj.cells #[Value.slice Ab1 y.cols.length cb1, Value.int IntKind.i64 y.ver, Value.slice Ab2 y.tabs.length cb2] 37)) w.heap.size #[Value.slice A1 x.cols.length c1, Value.int IntKind.i64 x.ver, Value.slice A2 x.tabs.length c2] 37 := (Blk.new w _ _).alloc _
  have b1 : Blk ((w.alloc (Obj.cells #[Value.slice A1 x.cols.length c1, Value.int IntKind.i64 x.ver, Value.slice A2 x.tabs.length c2] 37)).alloc (Obj.cells #[Value.slice Ab1 y.cols.length cb1, Value.int IntKind.i64 y.ver, Value.slice Ab2 y.tabs.length cb2] 37)) (w.heap.size + 1) #[Value.slice Ab1 y.cols.length cb1, Value.int IntKind.i64 y.ver, Value.slice Ab2 y.tabs.length cb2] 37 := by simpa using Blk.new (w.alloc _) _ _
  go_wp2_with fail
  apply calls_gen; intro W0 hW
  replace b0 : Blk W0 w.heap.size #[Value.slice A1 x.cols.length c1, Value.int IntKind.i64 x.ver, Value.slice A2 x.tabs.length c2] 37 := by rw [hW]; exact b0
  replace b1 : Blk W0 (w.heap.size + 1) #[Value.slice Ab1 y.cols.length cb1, Value.int IntKind.i64 y.ver, Value.slice Ab2 y.tabs.length cb2] 37 := by rw [hW]; exact b1
  replace hB : Below w.heap.size w W0 := by rw [hW]; exact hB
  clear hW
  have p0 : W0.cell? ⟨w.heap.size, 0, none⟩ = some (Value.slice A1 x.cols.length c1) := b0.cell 0 rfl
  have q0 : W0.cell? ⟨w.heap.size + 1, 0, none⟩ = some (Value.slice Ab1 y.cols.length cb1) := b1.cell 0 rfl
  have p1 : W0.cell? ⟨w.heap.size, 1, none⟩ = some (Value.int IntKind.i64 x.ver) := b0.cell 1 rfl
  have q1 : W0.cell? ⟨w.heap.size + 1, 1, none⟩ = some (Value.int IntKind.i64 y.ver) := b1.cell 1 rfl
  have p2 : W0.cell? ⟨w.heap.size, 2, none⟩ = some (Value.slice A2 x.tabs.length c2) := b0.cell 2 rfl
  have q2 : W0.cell? ⟨w.heap.size + 1, 2, none⟩ = some (Value.slice Ab2 y.tabs.length cb2) := b1.cell 2 rfl
  clear b0 b1
  refine (laws_eqSchema _ _ _ _ x.cols y.cols _ (C_below HR1.out hB) (C_below HRb1.out hB)).mono ?_
  rintro e w1 ⟨rfl, hB1⟩
  replace p0 := cell_below hB1 p0
  replace q0 := cell_below hB1 q0
  replace p1 := cell_below hB1 p1
  replace q1 := cell_below hB1 q1
  replace p2 := cell_below hB1 p2
  replace q2 := cell_below hB1 q2
  replace hB := below_then hB hB1
  clear hB1
  cases hb0 : eqv x.cols y.cols
  case false =>
    have HN := Hd.mk (eqv_no (a := x) (b := y) (fun h => by rw [h, eqv_self] at hb0; cases hb0))
    go_wp2_with fail
    go_ret
    exact ⟨by rw [HN.out]; rfl, hB⟩
  cases hb1 : (x.ver != y.ver)
  case true =>
    have HN := Hd.mk (eqv_no (a := x) (b := y) (fun h => by rw [h] at hb1; simp at hb1))
    go_wp2_with fail
    go_ret
    exact ⟨by rw [HN.out]; rfl, by exact hB⟩
  go_wp2_with fail
  refine (laws_eqRowSS _ _ _ _ x.tabs y.tabs _ (C_below HR2.out hB) (C_below HRb2.out hB)).mono ?_
  rintro e w3 ⟨rfl, hB1⟩
  replace p0 := cell_below hB1 p0
  replace q0 := cell_below hB1 q0
  replace p1 := cell_below hB1 p1
  replace q1 := cell_below hB1 q1
  replace p2 := cell_below hB1 p2
  replace q2 := cell_below hB1 q2
  replace hB := below_then hB hB1
  clear hB1
  cases hb2 : eqv x.tabs y.tabs
  case false =>
    have HN := Hd.mk (eqv_no (a := x) (b := y) (fun h => by rw [h, eqv_self] at hb2; cases hb2))
    go_wp2_with fail
    go_ret
    exact ⟨by rw [HN.out]; rfl, hB⟩
  have HE := Hd.mk (eqv_iff.2 (show x = y from by
    have e0 : x.cols = y.cols := eqv_iff.1 hb0
    have e1 : x.ver = y.ver := by simpa using hb1
    have e2 : x.tabs = y.tabs := eqv_iff.1 hb2
    cases x; cases y
    exact Store.mk.injEq .. ▸ ⟨e0, e1, e2⟩))
  go_wp2_with fail
  go_ret
  exact ⟨by rw [HE.out]; rfl, by exact hB⟩
set_option maxRecDepth 100000 in
theorem laws_eqChange (x y : Change) (cs cs2 : List Value) (w : World) (hk : tChange.K w x cs) (hk2 : tChange.K w y cs2) :
    Calls Try.prog 18 #[.agg cs.toArray, .agg cs2.toArray] w fun e w' => e = .returned (.bool (eqv x y)) ∧ Below w.heap.size w w' := by
  obtain ⟨A1, c1, A2, c2, rfl, ⟨hc1, hr1⟩, hc2, hr2⟩ := tChange_K.1 hk
  obtain ⟨Ab1, cb1, Ab2, cb2, rfl, ⟨hcb1, hrb1⟩, hcb2, hrb2⟩ := tChange_K.1 hk2
  have HR1 := Hd.mk hr1; clear hr1
  have HRb1 := Hd.mk hrb1; clear hrb1
  have HR2 := Hd.mk hr2; clear hr2
  have HRb2 := Hd.mk hrb2; clear hrb2
  clear hk hk2
  go_enter Try.func18, Try.ntmps18
  have hB : Below w.heap.size w ((w.alloc (Obj.cells #[Value.int IntKind.i64 x.table, Value.bool x.had, Value.bool x.has, Value.int IntKind.i64 x.old.id, Value.slice A1 x.old.cells.length c1, Value.int IntKind.i64 x.new.id, Value.slice A2 x.new.cells.length c2] 43)).alloc (Obj.cells #[Value.int IntKind.i64 y.table, Value.bool y.had, Value.bool y.has, Value.int IntKind.i64 y.old.id, Value.slice Ab1 y.old.cells.length cb1, Value.int IntKind.i64 y.new.id, Value.slice Ab2 y.new.cells.length cb2] 43)) := below_alloc (below_alloc (Below.refl _ _) _) _
  have b0 : Blk ((w.alloc (Obj.cells #[Value.int IntKind.i64 x.table, Value.bool x.had, Value.bool x.has, Value.int IntKind.i64 x.old.id, Value.slice A1 x.old.cells.length c1, Value.int IntKind.i64 x.new.id, Value.slice A2 x.new.cells.length c2] 43)).alloc (Obj.cells #[Value.int IntKind.i64 y.table, Value.bool y.had, Value.bool y.has, Value.int IntKind.i64 y.old.id, Value.slice Ab1 y.old.cells.length cb1, Value.int IntKind.i64 y.new.id, Value.slice Ab2 y.new.cells.length cb2] 43)) w.heap.size #[Value.int IntKind.i64 x.table, Value.bool x.had, Value.bool x.has, Value.int IntKind.i64 x.old.id, Value.slice A1 x.old.cells.length c1, Value.int IntKind.i64 x.new.id, Value.slice A2 x.new.cells.length c2] 43 := (Blk.new w _ _).alloc _
  have b1 : Blk ((w.alloc (Obj.cells #[Value.int IntKind.i64 x.table, Value.bool x.had, Value.bool x.has, Value.int IntKind.i64 x.old.id, Value.slice A1 x.old.cells.length c1, Value.int IntKind.i64 x.new.id, Value.slice A2 x.new.cells.length c2] 43)).alloc (Obj.cells #[Value.int IntKind.i64 y.table, Value.bool y.had, Value.bool y.has, Value.int IntKind.i64 y.old.id, Value.slice Ab1 y.old.cells.length cb1, Value.int IntKind.i64 y.new.id, Value.slice Ab2 y.new.cells.length cb2] 43)) (w.heap.size + 1) #[Value.int IntKind.i64 y.table, Value.bool y.had, Value.bool y.has, Value.int IntKind.i64 y.old.id, Value.slice Ab1 y.old.cells.length cb1, Value.int IntKind.i64 y.new.id, Value.slice Ab2 y.new.cells.length cb2] 43 := by simpa using Blk.new (w.alloc _) _ _
  cases hb0 : (x.table != y.table)
  case true =>
    have HN := Hd.mk (eqv_no (a := x) (b := y) (fun h => by rw [h] at hb0; simp at hb0))
    go_wp2_with fail
    go_ret
    exact ⟨by rw [HN.out]; rfl, by exact hB⟩
  cases hb1 : (x.had == y.had)
  case false =>
    have HN := Hd.mk (eqv_no (a := x) (b := y) (fun h => by rw [h] at hb1; simp at hb1))
    go_wp2_with fail
    go_ret
    exact ⟨by rw [HN.out]; rfl, by exact hB⟩
  cases hb2 : (x.has == y.has)
  case false =>
    have HN := Hd.mk (eqv_no (a := x) (b := y) (fun h => by rw [h] at hb2; simp at hb2))
    go_wp2_with fail
    go_ret
    exact ⟨by rw [HN.out]; rfl, by exact hB⟩
  go_wp2_with fail
  apply calls_gen; intro W0 hW
  replace b0 : Blk W0 w.heap.size #[Value.int IntKind.i64 x.table, Value.bool x.had, Value.bool x.has, Value.int IntKind.i64 x.old.id, Value.slice A1 x.old.cells.length c1, Value.int IntKind.i64 x.new.id, Value.slice A2 x.new.cells.length c2] 43 := by rw [hW]; exact b0
  replace b1 : Blk W0 (w.heap.size + 1) #[Value.int IntKind.i64 y.table, Value.bool y.had, Value.bool y.has, Value.int IntKind.i64 y.old.id, Value.slice Ab1 y.old.cells.length cb1, Value.int IntKind.i64 y.new.id, Value.slice Ab2 y.new.cells.length cb2] 43 := by rw [hW]; exact b1
  replace hB : Below w.heap.size w W0 := by rw [hW]; exact hB
  clear hW
  have p0 : W0.cell? ⟨w.heap.size, 0, none⟩ = some (Value.int IntKind.i64 x.table) := b0.cell 0 rfl
  have q0 : W0.cell? ⟨w.heap.size + 1, 0, none⟩ = some (Value.int IntKind.i64 y.table) := b1.cell 0 rfl
  have p1 : W0.cell? ⟨w.heap.size, 1, none⟩ = some (Value.bool x.had) := b0.cell 1 rfl
  have q1 : W0.cell? ⟨w.heap.size + 1, 1, none⟩ = some (Value.bool y.had) := b1.cell 1 rfl
  have p2 : W0.cell? ⟨w.heap.size, 2, none⟩ = some (Value.bool x.has) := b0.cell 2 rfl
  have q2 : W0.cell? ⟨w.heap.size + 1, 2, none⟩ = some (Value.bool y.has) := b1.cell 2 rfl
  have p3 : W0.cell? ⟨w.heap.size, 3, none⟩ = some (Value.int IntKind.i64 x.old.id) := b0.cell 3 rfl
  have q3 : W0.cell? ⟨w.heap.size + 1, 3, none⟩ = some (Value.int IntKind.i64 y.old.id) := b1.cell 3 rfl
  have p4 : W0.cell? ⟨w.heap.size, 4, none⟩ = some (Value.slice A1 x.old.cells.length c1) := b0.cell 4 rfl
  have q4 : W0.cell? ⟨w.heap.size + 1, 4, none⟩ = some (Value.slice Ab1 y.old.cells.length cb1) := b1.cell 4 rfl
  have p5 : W0.cell? ⟨w.heap.size, 5, none⟩ = some (Value.int IntKind.i64 x.new.id) := b0.cell 5 rfl
  have q5 : W0.cell? ⟨w.heap.size + 1, 5, none⟩ = some (Value.int IntKind.i64 y.new.id) := b1.cell 5 rfl
  have p6 : W0.cell? ⟨w.heap.size, 6, none⟩ = some (Value.slice A2 x.new.cells.length c2) := b0.cell 6 rfl
  have q6 : W0.cell? ⟨w.heap.size + 1, 6, none⟩ = some (Value.slice Ab2 y.new.cells.length cb2) := b1.cell 6 rfl
  clear b0 b1
  refine (laws_eqRow x.old y.old _ _ _ (tRow_K.2 ⟨_, _, rfl, hc1, (C_below HR1.out hB)⟩) (tRow_K.2 ⟨_, _, rfl, hcb1, (C_below HRb1.out hB)⟩)).mono ?_
  rintro e w4 ⟨rfl, hB1⟩
  replace p0 := cell_below hB1 p0
  replace q0 := cell_below hB1 q0
  replace p1 := cell_below hB1 p1
  replace q1 := cell_below hB1 q1
  replace p2 := cell_below hB1 p2
  replace q2 := cell_below hB1 q2
  replace p3 := cell_below hB1 p3
  replace q3 := cell_below hB1 q3
  replace p4 := cell_below hB1 p4
  replace q4 := cell_below hB1 q4
  replace p5 := cell_below hB1 p5
  replace q5 := cell_below hB1 q5
  replace p6 := cell_below hB1 p6
  replace q6 := cell_below hB1 q6
  replace hB := below_then hB hB1
  clear hB1
  cases hb3 : eqv x.old y.old
  case false =>
    have HN := Hd.mk (eqv_no (a := x) (b := y) (fun h => by rw [h, eqv_self] at hb3; cases hb3))
    go_wp2_with fail
    go_ret
    exact ⟨by rw [HN.out]; rfl, hB⟩
  go_wp2_with fail
  refine (laws_eqRow x.new y.new _ _ _ (tRow_K.2 ⟨_, _, rfl, hc2, (C_below HR2.out hB)⟩) (tRow_K.2 ⟨_, _, rfl, hcb2, (C_below HRb2.out hB)⟩)).mono ?_
  rintro e w5 ⟨rfl, hB1⟩
  replace p0 := cell_below hB1 p0
  replace q0 := cell_below hB1 q0
  replace p1 := cell_below hB1 p1
  replace q1 := cell_below hB1 q1
  replace p2 := cell_below hB1 p2
  replace q2 := cell_below hB1 q2
  replace p3 := cell_below hB1 p3
  replace q3 := cell_below hB1 q3
  replace p4 := cell_below hB1 p4
  replace q4 := cell_below hB1 q4
  replace p5 := cell_below hB1 p5
  replace q5 := cell_below hB1 q5
  replace p6 := cell_below hB1 p6
  replace q6 := cell_below hB1 q6
  replace hB := below_then hB hB1
  clear hB1
  cases hb4 : eqv x.new y.new
  case false =>
    have HN := Hd.mk (eqv_no (a := x) (b := y) (fun h => by rw [h, eqv_self] at hb4; cases hb4))
    go_wp2_with fail
    go_ret
    exact ⟨by rw [HN.out]; rfl, hB⟩
  have HE := Hd.mk (eqv_iff.2 (show x = y from by
    have e0 : x.table = y.table := by simpa using hb0
    have e1 : x.had = y.had := by simpa using hb1
    have e2 : x.has = y.has := by simpa using hb2
    have e3 : x.old = y.old := eqv_iff.1 hb3
    have e4 : x.new = y.new := eqv_iff.1 hb4
    cases x; cases y
    exact Change.mk.injEq .. ▸ ⟨e0, e1, e2, e3, e4⟩))
  go_wp2_with fail
  go_ret
  exact ⟨by rw [HE.out]; rfl, by exact hB⟩
end Go.Proofs.Ytnpogfhfjofbmaa.X
