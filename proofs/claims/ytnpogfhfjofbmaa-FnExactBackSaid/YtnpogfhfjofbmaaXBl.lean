/- What is proved here: contracts of Back, the rest. Conditions: none. -/
import Derived.Test.YtnpogfhfjofbmaaXBk
namespace Go.Proofs.Ytnpogfhfjofbmaa.X
open Go.RowKit Go.Sort
set_option linter.unusedVariables false
set_option linter.unusedSimpArgs false
open Ty
noncomputable def backB (x : Store) (y : Change) : Bool := storeOk x && swB x y.table y.has y.new y.had y.old
noncomputable def backV (x : Store) (y : Change) : Store := if storeOk x then (if swB x y.table y.has y.new y.had y.old then swV x y.table y.has y.new y.had y.old else x) else ⟨[], 0, []⟩
theorem back_no {x : Store} {y : Change} (h : storeOk x = false) : backB x y = false ∧ backV x y = ⟨[], 0, []⟩ := by
  unfold backB backV; rw [h]; exact ⟨rfl, rfl⟩
theorem back_na {x : Store} {y : Change} (h : storeOk x = true) (h2 : swB x y.table y.has y.new y.had y.old = false) : backB x y = false ∧ backV x y = x := by
  unfold backB backV; rw [h, h2]; exact ⟨rfl, rfl⟩
theorem back_yes {x : Store} {y : Change} (h : storeOk x = true) (h2 : swB x y.table y.has y.new y.had y.old = true) : backB x y = true ∧ backV x y = swV x y.table y.has y.new y.had y.old := by
  unfold backB backV; rw [h, h2]; exact ⟨rfl, rfl⟩
theorem storeOk_len {x : Store} (h : storeOk x = true) : x.tabs.length = x.cols.length := by
  unfold storeOk at h
  simp only [Bool.and_eq_true, Bool.not_eq_true', bne_eq_false_iff_eq] at h
  have := h.2.2.1
  omega
noncomputable def turnB (x : Store) (y : Change) : Bool := inB y.table 0 ((x.tabs.length : Int) - 1) && rowsCan (tabAt x y.table) y.had y.old y.has y.new
noncomputable def turnV (x : Store) (y : Change) : Store := if turnB x y then swapS x y.table y.had y.old y.has y.new else x
section
variable {x : Store} {t : Int} {had has : Bool} {old now : Row} {q : Nat} {m m' : List Row}
theorem turn_no {y : Change} (h : turnB x y = false) : turnB x y = false ∧ turnV x y = x := by
  refine ⟨h, ?_⟩
  unfold turnV; rw [h]; rfl
theorem turn_c0 (h : inB t 0 ((x.tabs.length : Int) - 1) = false) : turnB x ⟨t, had, has, old, now⟩ = false := by
  unfold turnB; rw [h]; rfl
theorem turn_a1 {l : List Row} (h : hasRow l old = true) : (!true || hasRow l old) = true := by rw [h]; rfl
theorem turn_yes (hq : q < x.tabs.length) (hb : inB (q : Int) 0 ((x.tabs.length : Int) - 1) = true) (h1 : (!had || hasRow x.tabs[q] old) = true) (h2 : (!has || decide (rowAt (midRows x.tabs[q] had old) now.id < 0)) = true) (hm : m' = newRows x.tabs[q] had old has now) :
    turnB x ⟨q, had, has, old, now⟩ = true ∧ turnV x ⟨q, had, has, old, now⟩ = ⟨x.cols, x.ver, x.tabs.set q m'⟩ := by
  have hc : turnB x ⟨q, had, has, old, now⟩ = true := by unfold turnB rowsCan; simp only; rw [hb, tabAt_q hq, h1, h2]; rfl
  refine ⟨hc, ?_⟩
  unfold turnV
  rw [hc, if_pos rfl]
  unfold swapS
  simp only
  rw [tabAt_q hq, hm]; rfl
theorem turn_no1 (hq : q < x.tabs.length) (old : Row) (has : Bool) (now : Row) (hh : had = true) (h : hasRow x.tabs[q] old = false) : turnB x ⟨q, had, has, old, now⟩ = false := by
  unfold turnB rowsCan; simp only; rw [tabAt_q hq, hh, h]; simp
theorem turn_no2 (hq : q < x.tabs.length) (hm : m = midRows x.tabs[q] had old) (now : Row) (hh : has = true) {j : Nat} (h : idxF (fun r : Row => r.id == now.id) m = (j : Int)) : turnB x ⟨q, had, has, old, now⟩ = false := by
  unfold turnB rowsCan; simp only; rw [tabAt_q hq, hh, ← hm, show rowAt m now.id = (j : Int) from h, decide_eq_false (by omega)]; simp
end
/-- The change taken back. -/
def chBack (y : Change) : Change := ⟨y.table, y.has, y.had, y.new, y.old⟩
theorem turn_back {x : Store} (y : Change) (h : storeOk x = true) : turnB x (chBack y) = swapCan x y.table y.has y.new y.had y.old ∧ (turnB x (chBack y) = true → turnV x (chBack y) = swV x y.table y.has y.new y.had y.old) := by
  have h1 : turnB x (chBack y) = swapCan x y.table y.has y.new y.had y.old := by
    unfold turnB swapCan hasTab chBack
    simp only
    rw [storeOk_len h]
  refine ⟨h1, fun h2 => ?_⟩
  unfold turnV swV
  rw [← h1, h2]; rfl
theorem back_t0 {x : Store} {y : Change} (h : storeOk x = true) (h2 : turnB x (chBack y) = false) : backB x y = false ∧ backV x y = x :=
  back_na h (by unfold swB; rw [← (turn_back y h).1, h2]; rfl)
theorem back_t1 {x : Store} {y : Change} (h : storeOk x = true) (h2 : turnB x (chBack y) = true) (h3 : storeOk (turnV x (chBack y)) = false) : backB x y = false ∧ backV x y = x := by
  refine back_na h ?_
  have e := (turn_back y h).2 h2
  have c := (turn_back y h).1
  unfold swB
  rw [← c, h2]
  have e2 : swapS x y.table y.has y.new y.had y.old = turnV x (chBack y) := by rw [e]; unfold swV; rw [← c, h2]; rfl
  rw [e2, h3]; rfl
theorem back_t2 {x : Store} {y : Change} (h : storeOk x = true) (h2 : turnB x (chBack y) = true) (h3 : storeOk (turnV x (chBack y)) = true) : backB x y = true ∧ backV x y = turnV x (chBack y) := by
  have e := (turn_back y h).2 h2
  have c := (turn_back y h).1
  have e2 : swapS x y.table y.has y.new y.had y.old = turnV x (chBack y) := by rw [e]; unfold swV; rw [← c, h2]; rfl
  have hb : swB x y.table y.has y.new y.had y.old = true := by unfold swB; rw [← c, h2, e2, h3]; rfl
  rw [e]
  exact back_yes h hb
theorem bulkL_set {α : Type} (f : α → Nat) (l : List α) (q : Nat) (x : α) : bulkL f (l.set q x) ≤ bulkL f l + f x := by
  induction l generalizing q with
  | nil => exact Nat.zero_le _
  | cons y l ih =>
    cases q with
    | zero => simp only [List.set_cons_zero, bulkL]; omega
    | succ q => have := ih q; simp only [List.set_cons_succ, bulkL]; omega
theorem bulk_midRows (l : List Row) (had : Bool) (old : Row) : bulkRowS (midRows l had old) ≤ bulkRowS l := by
  unfold midRows
  split
  · exact bulk_rowDrop _ _
  · exact Nat.le_refl _
theorem bulk_newRows (l : List Row) (had : Bool) (old : Row) (has : Bool) (now : Row) : bulkRowS (newRows l had old has now) ≤ bulkRowS l + 1 + bulkRow now := by
  have h1 := bulk_midRows l had old
  unfold newRows
  split
  · have := bulk_rowPut (midRows l had old) now
    omega
  · omega
theorem bulk_tabAt (x : Store) (t : Int) : bulkRowS (tabAt x t) ≤ bulkStore x := by
  unfold tabAt
  rcases Nat.lt_or_ge t.toNat x.tabs.length with h | h
  · rw [List.getD_eq_getElem?_getD, List.getElem?_eq_getElem h]
    have := bulkL_mem bulkRowS (List.getElem_mem h)
    simp only [bulkStore, bulkRowSS, Option.getD_some] at this ⊢
    omega
  · rw [List.getD_eq_getElem?_getD, List.getElem?_eq_none h]
    exact Nat.zero_le _
theorem bulk_swapS (x : Store) (t : Int) (had : Bool) (old : Row) (has : Bool) (now : Row) : bulkStore (swapS x t had old has now) ≤ 2 * bulkStore x + 1 + bulkRow now := by
  have h1 := bulk_newRows (tabAt x t) had old has now
  have h2 := bulk_tabAt x t
  have h3 := bulkL_set bulkRowS x.tabs t.toNat (newRows (tabAt x t) had old has now)
  simp only [bulkStore, swapS, bulkRowSS, List.length_set] at h2 h3 ⊢
  omega
theorem bulk_backV (x : Store) (y : Change) : bulkStore (backV x y) ≤ 2 * bulkStore x + 1 + bulkChange y := by
  unfold backV swV
  split
  · split
    · split
      · have := bulk_swapS x y.table y.has y.new y.had y.old
        simp only [bulkChange]; omega
      · simp [bulkStore, bulkRowSS, bulkL]
    · omega
  · simp [bulkStore, bulkRowSS, bulkL]
set_option maxHeartbeats 16000000 in
set_option maxRecDepth 100000 in
theorem impl_Back (x : Store) (cs : List Value) (y : Change) (cs1 : List Value) (w : World) (hk : tStore.K w x cs) (hk1 : tChange.K w y cs1) (hl : bulkStore x ≤ 2000000) (hlr : bulkChange y ≤ 2000000) :
    Calls Try.prog 16 #[.agg cs.toArray, .agg cs1.toArray] w fun e w' => ∃ cs', e = .returned (.tuple #[.agg cs'.toArray, .bool (backB x y)]) ∧ tStore.O w' (fun k => w.heap.size ≤ k) (backV x y) cs' ∧ Below w.heap.size w w' := by
  obtain ⟨A1, c1, A2, c2, rfl, ⟨hc1, hr1⟩, hc2, hr2⟩ := tStore_K.1 hk
  obtain ⟨A3, c3, A4, c4, rfl, ⟨hc3, hr3⟩, hc4, hr4⟩ := tChange_K.1 hk1
  have HK := Hd.mk hk
  have HO := Hd.mk (tRow_K.2 ⟨A3, c3, rfl, hc3, hr3⟩ : tRow.K w y.old _)
  have HN := Hd.mk (tRow_K.2 ⟨A4, c4, rfl, hc4, hr4⟩ : tRow.K w y.new _)
  clear hr1 hr2 hr3 hr4 hk hk1
  have HL := Hd.mk hl; have HLR := Hd.mk hlr
  clear hl hlr
  have hB := Hd.mk (Below.refl w.heap.size w)
  go_enter Try.func16, Try.ntmps16
  go_wp2_with fail
  apply calls_gen; intro W1 hW
  have hz_ : w.heap.size + 3 ≤ W1.heap.size := by rw [hW]; simp
  have hE : Below w.heap.size w W1 := by rw [hW]; (repeat (first | with_reducible refine below_alloc ?_ _ | with_reducible refine below_drew ?_)); exact Below.refl _ _
  have hB := Hd.mk (below_then hB.out hE)
  have b0 := Hd.mk (show Blk W1 (w.heap.size) #[Value.slice A1 x.cols.length c1, Value.int IntKind.i64 x.ver, Value.slice A2 x.tabs.length c2] 37 by rw [hW]; first | exact (((Blk.new _ _ _).alloc _).alloc _) | (simpa using (((Blk.new _ _ _).alloc _).alloc _)))
  have b1 := Hd.mk (show Blk W1 (w.heap.size + 1) #[Value.int IntKind.i64 y.table, Value.bool y.had, Value.bool y.has, Value.int IntKind.i64 y.old.id, Value.slice A3 y.old.cells.length c3, Value.int IntKind.i64 y.new.id, Value.slice A4 y.new.cells.length c4] 43 by rw [hW]; first | exact ((Blk.new1 _ _ _ _).alloc _) | (simpa using ((Blk.new1 _ _ _ _).alloc _)))
  have b2 := Hd.mk (show Blk W1 (w.heap.size + 1 + 1) #[Value.slice none 0 0, Value.int IntKind.i64 0, Value.slice none 0 0] 37 by rw [hW]; first | exact (Blk.new2 _ _ _ _ _) | (simpa using (Blk.new2 _ _ _ _ _)))
  clear hW hE
  have z1 := Hd.mk hz_; clear hz_
  refine (impl_StoreOk x _ _ (tStore.K_below hB.out HK.out)).mono ?_
  rintro e w2 ⟨rfl, hX⟩
  have b0 := Hd.mk (b0.out.below hX)
  have b1 := Hd.mk (b1.out.below hX)
  have b2 := Hd.mk (b2.out.below hX)
  have hB := Hd.mk (below_then hB.out hX)
  have hz_ := hX.size
  clear hX
  have z2 := Hd.mk hz_; clear hz_
  cases hb : storeOk x
  · obtain ⟨hn_, hf_⟩ := back_no (y := y) hb
    have HNB := Hd.mk hn_; have HF := Hd.mk hf_; clear hn_ hf_
    have fb0_0 : w2.cell? ⟨w.heap.size, 0, none⟩ = some (Value.slice A1 x.cols.length c1) := b0.out.cell 0 rfl
    have fb0_1 : w2.cell? ⟨w.heap.size, 1, none⟩ = some (Value.int IntKind.i64 x.ver) := b0.out.cell 1 rfl
    have fb0_2 : w2.cell? ⟨w.heap.size, 2, none⟩ = some (Value.slice A2 x.tabs.length c2) := b0.out.cell 2 rfl
    have fb0_z := b0.out.frozen
    have fb1_0 : w2.cell? ⟨w.heap.size + 1, 0, none⟩ = some (Value.int IntKind.i64 y.table) := b1.out.cell 0 rfl
    have fb1_1 : w2.cell? ⟨w.heap.size + 1, 1, none⟩ = some (Value.bool y.had) := b1.out.cell 1 rfl
    have fb1_2 : w2.cell? ⟨w.heap.size + 1, 2, none⟩ = some (Value.bool y.has) := b1.out.cell 2 rfl
    have fb1_3 : w2.cell? ⟨w.heap.size + 1, 3, none⟩ = some (Value.int IntKind.i64 y.old.id) := b1.out.cell 3 rfl
    have fb1_4 : w2.cell? ⟨w.heap.size + 1, 4, none⟩ = some (Value.slice A3 y.old.cells.length c3) := b1.out.cell 4 rfl
    have fb1_5 : w2.cell? ⟨w.heap.size + 1, 5, none⟩ = some (Value.int IntKind.i64 y.new.id) := b1.out.cell 5 rfl
    have fb1_6 : w2.cell? ⟨w.heap.size + 1, 6, none⟩ = some (Value.slice A4 y.new.cells.length c4) := b1.out.cell 6 rfl
    have fb1_z := b1.out.frozen
    have fb2_0 : w2.cell? ⟨w.heap.size + 1 + 1, 0, none⟩ = some (Value.slice none 0 0) := b2.out.cell 0 rfl
    have fb2_1 : w2.cell? ⟨w.heap.size + 1 + 1, 1, none⟩ = some (Value.int IntKind.i64 0) := b2.out.cell 1 rfl
    have fb2_2 : w2.cell? ⟨w.heap.size + 1 + 1, 2, none⟩ = some (Value.slice none 0 0) := b2.out.cell 2 rfl
    have fb2_z := b2.out.frozen
    go_wp2_with fail
    refine bodyPost_retW (v := .tuple #[.agg #[Value.slice none 0 0, Value.int IntKind.i64 0, Value.slice none 0 0], .bool false]) (by simp [results, Try.results16, go_sem, fb0_0, fb0_1, fb0_2, fb0_z, fb1_0, fb1_1, fb1_2, fb1_3, fb1_4, fb1_5, fb1_6, fb1_z, fb2_0, fb2_1, fb2_2, fb2_z]) rfl ?_
    intro W hW
    clear fb0_0 fb0_1 fb0_2 fb0_z fb1_0 fb1_1 fb1_2 fb1_3 fb1_4 fb1_5 fb1_6 fb1_z fb2_0 fb2_1 fb2_2 fb2_z
    have hz_ : w2.heap.size ≤ W.heap.size := by rw [hW]; simp
    have eF : Fr w2 W (fun k => k = w.heap.size + 1 + 1 ∨ w2.heap.size ≤ k) := by rw [hW]; (repeat (first | with_reducible refine Fr.setCell ?_ _ (fun _ => by simp <;> omega) _ | with_reducible refine Fr.alloc ?_ _ | with_reducible refine Fr.drew ?_)); exact Fr.refl _ _
    have z1_ := z1.out; have z2_ := z2.out
    have hB := Hd.mk (((Fr.of_below hB.out (fun k => k = w.heap.size + 1 + 1 ∨ w2.heap.size ≤ k)).then_ eF (fun k hk _ => hk)).below (fun k hk => by have := hB.out.size; omega))
    have b0 := Hd.mk (b0.out.fr eF (fun h => by have hlt_ := b0.out.lt; (try simp only at h); omega))
    have b1 := Hd.mk (b1.out.fr eF (fun h => by have hlt_ := b1.out.lt; (try simp only at h); omega))
    have b2 := Hd.mk (show Blk W (w.heap.size + 1 + 1) #[Value.slice none 0 0, Value.int IntKind.i64 0, Value.slice none 0 0] 37 by rw [hW]; exact (Blk.all b2.out [Value.slice none 0 0, Value.int IntKind.i64 0, Value.slice none 0 0] rfl))
    clear hW eF
    have z3 := Hd.mk hz_; clear hz_
    exact ⟨_, by rw [HNB.out], by rw [HF.out]; exact ZS _ _, hB.out⟩
  · have HOK := Hd.mk hb; clear hb
    have fb0_0 : w2.cell? ⟨w.heap.size, 0, none⟩ = some (Value.slice A1 x.cols.length c1) := b0.out.cell 0 rfl
    have fb0_1 : w2.cell? ⟨w.heap.size, 1, none⟩ = some (Value.int IntKind.i64 x.ver) := b0.out.cell 1 rfl
    have fb0_2 : w2.cell? ⟨w.heap.size, 2, none⟩ = some (Value.slice A2 x.tabs.length c2) := b0.out.cell 2 rfl
    have fb0_z := b0.out.frozen
    have fb1_0 : w2.cell? ⟨w.heap.size + 1, 0, none⟩ = some (Value.int IntKind.i64 y.table) := b1.out.cell 0 rfl
    have fb1_1 : w2.cell? ⟨w.heap.size + 1, 1, none⟩ = some (Value.bool y.had) := b1.out.cell 1 rfl
    have fb1_2 : w2.cell? ⟨w.heap.size + 1, 2, none⟩ = some (Value.bool y.has) := b1.out.cell 2 rfl
    have fb1_3 : w2.cell? ⟨w.heap.size + 1, 3, none⟩ = some (Value.int IntKind.i64 y.old.id) := b1.out.cell 3 rfl
    have fb1_4 : w2.cell? ⟨w.heap.size + 1, 4, none⟩ = some (Value.slice A3 y.old.cells.length c3) := b1.out.cell 4 rfl
    have fb1_5 : w2.cell? ⟨w.heap.size + 1, 5, none⟩ = some (Value.int IntKind.i64 y.new.id) := b1.out.cell 5 rfl
    have fb1_6 : w2.cell? ⟨w.heap.size + 1, 6, none⟩ = some (Value.slice A4 y.new.cells.length c4) := b1.out.cell 6 rfl
    have fb1_z := b1.out.frozen
    have fb2_0 : w2.cell? ⟨w.heap.size + 1 + 1, 0, none⟩ = some (Value.slice none 0 0) := b2.out.cell 0 rfl
    have fb2_1 : w2.cell? ⟨w.heap.size + 1 + 1, 1, none⟩ = some (Value.int IntKind.i64 0) := b2.out.cell 1 rfl
    have fb2_2 : w2.cell? ⟨w.heap.size + 1 + 1, 2, none⟩ = some (Value.slice none 0 0) := b2.out.cell 2 rfl
    have fb2_z := b2.out.frozen
    go_wp2_with fail
    clear fb0_0 fb0_1 fb0_2 fb0_z fb1_0 fb1_1 fb1_2 fb1_3 fb1_4 fb1_5 fb1_6 fb1_z fb2_0 fb2_1 fb2_2 fb2_z
    apply calls_gen; intro W3 hW
    have hz_ : w2.heap.size ≤ W3.heap.size := by rw [hW]; simp
    have hE : Below w2.heap.size w2 W3 := by rw [hW]; (repeat (first | with_reducible refine below_alloc ?_ _ | with_reducible refine below_drew ?_)); exact Below.refl _ _
    have hB := Hd.mk (below_then hB.out hE)
    have b0 := Hd.mk (b0.out.below hE)
    have b1 := Hd.mk (b1.out.below hE)
    have b2 := Hd.mk (b2.out.below hE)
    clear hW hE
    have z3 := Hd.mk hz_; clear hz_
    refine (impl_swapped x _ y.table y.has y.new _ y.had y.old _ _ (tStore.K_below hB.out HK.out) (tRow.K_below hB.out HN.out) (tRow.K_below hB.out HO.out) HL.out (by have := HLR.out; simp only [bulkChange, bulkRow] at this; omega) (storeOk_len HOK.out)).mono ?_
    rintro e w4 ⟨cs', rfl, hO, hX⟩
    have b0 := Hd.mk (b0.out.below hX)
    have b1 := Hd.mk (b1.out.below hX)
    have b2 := Hd.mk (b2.out.below hX)
    have hB := Hd.mk (below_then hB.out hX)
    have hz_ := hX.size
    clear hX
    have z4 := Hd.mk hz_; clear hz_
    obtain ⟨D1, d1, D2, d2, SN, ST, rfl, hd1, hd2, hN, hT, hSN, hST, hNT⟩ := store_open hO
    clear hO
    cases hb2 : swB x y.table y.has y.new y.had y.old
    · obtain ⟨hn_, hf_⟩ := back_na (y := y) HOK.out hb2
      have HNB := Hd.mk hn_; have HF := Hd.mk hf_; clear hn_ hf_ hN hT hSN hST hNT
      have z1_ := z1.out; have z2_ := z2.out; have z3_ := z3.out; have z4_ := z4.out
      have hlt0 : w.heap.size < w4.heap.size := by omega
      have hne0 : ¬ w.heap.size = w4.heap.size := by omega
      have hnf0 : ¬ w4.heap.size = w.heap.size := by omega
      have hlt1 : w.heap.size + 1 < w4.heap.size := by omega
      have hne1 : ¬ w.heap.size + 1 = w4.heap.size := by omega
      have hnf1 : ¬ w4.heap.size = w.heap.size + 1 := by omega
      have hlt2 : w.heap.size + 1 + 1 < w4.heap.size := by omega
      have hne2 : ¬ w.heap.size + 1 + 1 = w4.heap.size := by omega
      have hnf2 : ¬ w4.heap.size = w.heap.size + 1 + 1 := by omega
      clear z1_ z2_ z3_ z4_
      have fb0_0 : w4.cell? ⟨w.heap.size, 0, none⟩ = some (Value.slice A1 x.cols.length c1) := b0.out.cell 0 rfl
      have fb0_1 : w4.cell? ⟨w.heap.size, 1, none⟩ = some (Value.int IntKind.i64 x.ver) := b0.out.cell 1 rfl
      have fb0_2 : w4.cell? ⟨w.heap.size, 2, none⟩ = some (Value.slice A2 x.tabs.length c2) := b0.out.cell 2 rfl
      have fb0_z := b0.out.frozen
      have fb1_0 : w4.cell? ⟨w.heap.size + 1, 0, none⟩ = some (Value.int IntKind.i64 y.table) := b1.out.cell 0 rfl
      have fb1_1 : w4.cell? ⟨w.heap.size + 1, 1, none⟩ = some (Value.bool y.had) := b1.out.cell 1 rfl
      have fb1_2 : w4.cell? ⟨w.heap.size + 1, 2, none⟩ = some (Value.bool y.has) := b1.out.cell 2 rfl
      have fb1_3 : w4.cell? ⟨w.heap.size + 1, 3, none⟩ = some (Value.int IntKind.i64 y.old.id) := b1.out.cell 3 rfl
      have fb1_4 : w4.cell? ⟨w.heap.size + 1, 4, none⟩ = some (Value.slice A3 y.old.cells.length c3) := b1.out.cell 4 rfl
      have fb1_5 : w4.cell? ⟨w.heap.size + 1, 5, none⟩ = some (Value.int IntKind.i64 y.new.id) := b1.out.cell 5 rfl
      have fb1_6 : w4.cell? ⟨w.heap.size + 1, 6, none⟩ = some (Value.slice A4 y.new.cells.length c4) := b1.out.cell 6 rfl
      have fb1_z := b1.out.frozen
      have fb2_0 : w4.cell? ⟨w.heap.size + 1 + 1, 0, none⟩ = some (Value.slice none 0 0) := b2.out.cell 0 rfl
      have fb2_1 : w4.cell? ⟨w.heap.size + 1 + 1, 1, none⟩ = some (Value.int IntKind.i64 0) := b2.out.cell 1 rfl
      have fb2_2 : w4.cell? ⟨w.heap.size + 1 + 1, 2, none⟩ = some (Value.slice none 0 0) := b2.out.cell 2 rfl
      have fb2_z := b2.out.frozen
      go_wp2_with fail
      clear fb0_0 fb0_1 fb0_2 fb0_z fb1_0 fb1_1 fb1_2 fb1_3 fb1_4 fb1_5 fb1_6 fb1_z fb2_0 fb2_1 fb2_2 fb2_z
      clear hlt0 hne0 hnf0 hlt1 hne1 hnf1 hlt2 hne2 hnf2
      apply calls_gen; intro W5 hW
      have hz_ : w4.heap.size + 1 ≤ W5.heap.size := by rw [hW]; simp
      have hE : Below w4.heap.size w4 W5 := by rw [hW]; (repeat (first | with_reducible refine below_alloc ?_ _ | with_reducible refine below_drew ?_)); exact Below.refl _ _
      have hB := Hd.mk (below_then hB.out hE)
      have b0 := Hd.mk (b0.out.below hE)
      have b1 := Hd.mk (b1.out.below hE)
      have b2 := Hd.mk (b2.out.below hE)
      have b3 := Hd.mk (show Blk W5 (w4.heap.size) #[Value.slice D1 (swV x y.table y.has y.new y.had y.old).cols.length d1, Value.int IntKind.i64 (swV x y.table y.has y.new y.had y.old).ver, Value.slice D2 (swV x y.table y.has y.new y.had y.old).tabs.length d2] 37 by rw [hW]; first | exact (Blk.new _ _ _) | (simpa using (Blk.new _ _ _)))
      clear hW hE
      have z5 := Hd.mk hz_; clear hz_
      refine (impl_copyStore x _ _ (tStore.K_below hB.out HK.out) (by have := HL.out; omega)).mono ?_
      rintro e w6 ⟨cs', rfl, hO, hX⟩
      have b0 := Hd.mk (b0.out.below hX)
      have b1 := Hd.mk (b1.out.below hX)
      have b2 := Hd.mk (b2.out.below hX)
      have b3 := Hd.mk (b3.out.below hX)
      have hB := Hd.mk (below_then hB.out hX)
      have hz_ := hX.size
      clear hX
      have z6 := Hd.mk hz_; clear hz_
      obtain ⟨E1, e1, E2, e2, SN, ST, rfl, hd1, hd2, hN, hT, hSN, hST, hNT⟩ := store_open hO
      clear hO
      have fb0_0 : w6.cell? ⟨w.heap.size, 0, none⟩ = some (Value.slice A1 x.cols.length c1) := b0.out.cell 0 rfl
      have fb0_1 : w6.cell? ⟨w.heap.size, 1, none⟩ = some (Value.int IntKind.i64 x.ver) := b0.out.cell 1 rfl
      have fb0_2 : w6.cell? ⟨w.heap.size, 2, none⟩ = some (Value.slice A2 x.tabs.length c2) := b0.out.cell 2 rfl
      have fb0_z := b0.out.frozen
      have fb1_0 : w6.cell? ⟨w.heap.size + 1, 0, none⟩ = some (Value.int IntKind.i64 y.table) := b1.out.cell 0 rfl
      have fb1_1 : w6.cell? ⟨w.heap.size + 1, 1, none⟩ = some (Value.bool y.had) := b1.out.cell 1 rfl
      have fb1_2 : w6.cell? ⟨w.heap.size + 1, 2, none⟩ = some (Value.bool y.has) := b1.out.cell 2 rfl
      have fb1_3 : w6.cell? ⟨w.heap.size + 1, 3, none⟩ = some (Value.int IntKind.i64 y.old.id) := b1.out.cell 3 rfl
      have fb1_4 : w6.cell? ⟨w.heap.size + 1, 4, none⟩ = some (Value.slice A3 y.old.cells.length c3) := b1.out.cell 4 rfl
      have fb1_5 : w6.cell? ⟨w.heap.size + 1, 5, none⟩ = some (Value.int IntKind.i64 y.new.id) := b1.out.cell 5 rfl
      have fb1_6 : w6.cell? ⟨w.heap.size + 1, 6, none⟩ = some (Value.slice A4 y.new.cells.length c4) := b1.out.cell 6 rfl
      have fb1_z := b1.out.frozen
      have fb2_0 : w6.cell? ⟨w.heap.size + 1 + 1, 0, none⟩ = some (Value.slice none 0 0) := b2.out.cell 0 rfl
      have fb2_1 : w6.cell? ⟨w.heap.size + 1 + 1, 1, none⟩ = some (Value.int IntKind.i64 0) := b2.out.cell 1 rfl
      have fb2_2 : w6.cell? ⟨w.heap.size + 1 + 1, 2, none⟩ = some (Value.slice none 0 0) := b2.out.cell 2 rfl
      have fb2_z := b2.out.frozen
      have fb3_0 : w6.cell? ⟨w4.heap.size, 0, none⟩ = some (Value.slice D1 (swV x y.table y.has y.new y.had y.old).cols.length d1) := b3.out.cell 0 rfl
      have fb3_1 : w6.cell? ⟨w4.heap.size, 1, none⟩ = some (Value.int IntKind.i64 (swV x y.table y.has y.new y.had y.old).ver) := b3.out.cell 1 rfl
      have fb3_2 : w6.cell? ⟨w4.heap.size, 2, none⟩ = some (Value.slice D2 (swV x y.table y.has y.new y.had y.old).tabs.length d2) := b3.out.cell 2 rfl
      have fb3_z := b3.out.frozen
      go_wp2_with fail
      refine bodyPost_retW (v := .tuple #[.agg #[Value.slice E1 x.cols.length e1, Value.int IntKind.i64 x.ver, Value.slice E2 x.tabs.length e2], .bool false]) (by simp [results, Try.results16, go_sem, fb0_0, fb0_1, fb0_2, fb0_z, fb1_0, fb1_1, fb1_2, fb1_3, fb1_4, fb1_5, fb1_6, fb1_z, fb2_0, fb2_1, fb2_2, fb2_z, fb3_0, fb3_1, fb3_2, fb3_z]) rfl ?_
      intro W hW
      clear fb0_0 fb0_1 fb0_2 fb0_z fb1_0 fb1_1 fb1_2 fb1_3 fb1_4 fb1_5 fb1_6 fb1_z fb2_0 fb2_1 fb2_2 fb2_z fb3_0 fb3_1 fb3_2 fb3_z
      have hz_ : w6.heap.size ≤ W.heap.size := by rw [hW]; simp
      have eF : Fr w6 W (fun k => k = w.heap.size + 1 + 1 ∨ w6.heap.size ≤ k) := by rw [hW]; (repeat (first | with_reducible refine Fr.setCell ?_ _ (fun _ => by simp <;> omega) _ | with_reducible refine Fr.alloc ?_ _ | with_reducible refine Fr.drew ?_)); exact Fr.refl _ _
      have z1_ := z1.out; have z2_ := z2.out; have z3_ := z3.out; have z4_ := z4.out; have z5_ := z5.out; have z6_ := z6.out
      have hB := Hd.mk (((Fr.of_below hB.out (fun k => k = w.heap.size + 1 + 1 ∨ w6.heap.size ≤ k)).then_ eF (fun k hk _ => hk)).below (fun k hk => by have := hB.out.size; omega))
      have b0 := Hd.mk (b0.out.fr eF (fun h => by have hlt_ := b0.out.lt; (try simp only at h); omega))
      have b1 := Hd.mk (b1.out.fr eF (fun h => by have hlt_ := b1.out.lt; (try simp only at h); omega))
      have b2 := Hd.mk (show Blk W (w.heap.size + 1 + 1) #[Value.slice E1 x.cols.length e1, Value.int IntKind.i64 x.ver, Value.slice E2 x.tabs.length e2] 37 by rw [hW]; exact (Blk.all b2.out [Value.slice E1 x.cols.length e1, Value.int IntKind.i64 x.ver, Value.slice E2 x.tabs.length e2] rfl))
      have b3 := Hd.mk (b3.out.fr eF (fun h => by have hlt_ := b3.out.lt; (try simp only at h); omega))
      have hN := Hd.mk (R_fr hN.out eF (fun k hk hl h => by have q_ := hSN.out k hk; (try simp only [rng] at hk); (try simp only at hk); (try simp only at h); omega))
      have hT := Hd.mk (R_fr hT.out eF (fun k hk hl h => by have q_ := hST.out k hk; (try simp only [rng] at hk); (try simp only at hk); (try simp only at h); omega))
      clear hW eF
      have z7 := Hd.mk hz_; clear hz_
      have hBs := hB.out.size
      have z1_ := z1.out; have z2_ := z2.out; have z3_ := z3.out; have z4_ := z4.out; have z5_ := z5.out; have z6_ := z6.out; have z7_ := z7.out
      exact ⟨[Value.slice E1 x.cols.length e1, Value.int IntKind.i64 x.ver, Value.slice E2 x.tabs.length e2], by rw [HNB.out], by rw [HF.out]; exact store_O2 hN.out hT.out rfl (fun k hk => by have := hSN.out k hk; omega) (fun k hk => by have := hST.out k hk; omega) hNT.out, hB.out⟩
    · obtain ⟨hn_, hf_⟩ := back_yes (y := y) HOK.out hb2
      have HNB := Hd.mk hn_; have HF := Hd.mk hf_; clear hn_ hf_
      obtain ⟨v, hv⟩ : ∃ z, z = swV x y.table y.has y.new y.had y.old := ⟨_, rfl⟩
      rw [← hv] at hN hT hd1 hd2 HF ⊢
      clear hv
      have z1_ := z1.out; have z2_ := z2.out; have z3_ := z3.out; have z4_ := z4.out
      have hlt0 : w.heap.size < w4.heap.size := by omega
      have hne0 : ¬ w.heap.size = w4.heap.size := by omega
      have hnf0 : ¬ w4.heap.size = w.heap.size := by omega
      have hlt1 : w.heap.size + 1 < w4.heap.size := by omega
      have hne1 : ¬ w.heap.size + 1 = w4.heap.size := by omega
      have hnf1 : ¬ w4.heap.size = w.heap.size + 1 := by omega
      have hlt2 : w.heap.size + 1 + 1 < w4.heap.size := by omega
      have hne2 : ¬ w.heap.size + 1 + 1 = w4.heap.size := by omega
      have hnf2 : ¬ w4.heap.size = w.heap.size + 1 + 1 := by omega
      clear z1_ z2_ z3_ z4_
      have fb0_0 : w4.cell? ⟨w.heap.size, 0, none⟩ = some (Value.slice A1 x.cols.length c1) := b0.out.cell 0 rfl
      have fb0_1 : w4.cell? ⟨w.heap.size, 1, none⟩ = some (Value.int IntKind.i64 x.ver) := b0.out.cell 1 rfl
      have fb0_2 : w4.cell? ⟨w.heap.size, 2, none⟩ = some (Value.slice A2 x.tabs.length c2) := b0.out.cell 2 rfl
      have fb0_z := b0.out.frozen
      have fb1_0 : w4.cell? ⟨w.heap.size + 1, 0, none⟩ = some (Value.int IntKind.i64 y.table) := b1.out.cell 0 rfl
      have fb1_1 : w4.cell? ⟨w.heap.size + 1, 1, none⟩ = some (Value.bool y.had) := b1.out.cell 1 rfl
      have fb1_2 : w4.cell? ⟨w.heap.size + 1, 2, none⟩ = some (Value.bool y.has) := b1.out.cell 2 rfl
      have fb1_3 : w4.cell? ⟨w.heap.size + 1, 3, none⟩ = some (Value.int IntKind.i64 y.old.id) := b1.out.cell 3 rfl
      have fb1_4 : w4.cell? ⟨w.heap.size + 1, 4, none⟩ = some (Value.slice A3 y.old.cells.length c3) := b1.out.cell 4 rfl
      have fb1_5 : w4.cell? ⟨w.heap.size + 1, 5, none⟩ = some (Value.int IntKind.i64 y.new.id) := b1.out.cell 5 rfl
      have fb1_6 : w4.cell? ⟨w.heap.size + 1, 6, none⟩ = some (Value.slice A4 y.new.cells.length c4) := b1.out.cell 6 rfl
      have fb1_z := b1.out.frozen
      have fb2_0 : w4.cell? ⟨w.heap.size + 1 + 1, 0, none⟩ = some (Value.slice none 0 0) := b2.out.cell 0 rfl
      have fb2_1 : w4.cell? ⟨w.heap.size + 1 + 1, 1, none⟩ = some (Value.int IntKind.i64 0) := b2.out.cell 1 rfl
      have fb2_2 : w4.cell? ⟨w.heap.size + 1 + 1, 2, none⟩ = some (Value.slice none 0 0) := b2.out.cell 2 rfl
      have fb2_z := b2.out.frozen
      go_wp2_with fail
      refine bodyPost_retW (v := .tuple #[.agg #[Value.slice D1 v.cols.length d1, Value.int IntKind.i64 v.ver, Value.slice D2 v.tabs.length d2], .bool true]) (by simp [results, Try.results16, go_sem, fb0_0, fb0_1, fb0_2, fb0_z, fb1_0, fb1_1, fb1_2, fb1_3, fb1_4, fb1_5, fb1_6, fb1_z, fb2_0, fb2_1, fb2_2, fb2_z, hlt2, hne2, hnf2]) rfl ?_
      intro W hW
      clear fb0_0 fb0_1 fb0_2 fb0_z fb1_0 fb1_1 fb1_2 fb1_3 fb1_4 fb1_5 fb1_6 fb1_z fb2_0 fb2_1 fb2_2 fb2_z hlt2 hne2 hnf2
      have hz_ : w4.heap.size + 1 ≤ W.heap.size := by rw [hW]; simp
      have eF : Fr w4 W (fun k => k = w.heap.size + 1 + 1 ∨ w4.heap.size ≤ k) := by rw [hW]; (repeat (first | with_reducible refine Fr.setCell ?_ _ (fun _ => by simp <;> omega) _ | with_reducible refine Fr.alloc ?_ _ | with_reducible refine Fr.drew ?_)); exact Fr.refl _ _
      have z1_ := z1.out; have z2_ := z2.out; have z3_ := z3.out; have z4_ := z4.out
      have hB := Hd.mk (((Fr.of_below hB.out (fun k => k = w.heap.size + 1 + 1 ∨ w4.heap.size ≤ k)).then_ eF (fun k hk _ => hk)).below (fun k hk => by have := hB.out.size; omega))
      have b0 := Hd.mk (b0.out.fr eF (fun h => by have hlt_ := b0.out.lt; (try simp only at h); omega))
      have b1 := Hd.mk (b1.out.fr eF (fun h => by have hlt_ := b1.out.lt; (try simp only at h); omega))
      have b2 := Hd.mk (show Blk W (w.heap.size + 1 + 1) #[Value.slice D1 v.cols.length d1, Value.int IntKind.i64 v.ver, Value.slice D2 v.tabs.length d2] 37 by rw [hW]; exact ((((b2.out.set 0 (Value.slice D1 v.cols.length d1)).set 1 (Value.int IntKind.i64 v.ver)).set 2 (Value.slice D2 v.tabs.length d2)).alloc _))
      have hN := Hd.mk (R_fr hN.out eF (fun k hk hl h => by have q_ := hSN.out k hk; (try simp only [rng] at hk); (try simp only at hk); (try simp only at h); omega))
      have hT := Hd.mk (R_fr hT.out eF (fun k hk hl h => by have q_ := hST.out k hk; (try simp only [rng] at hk); (try simp only at hk); (try simp only at h); omega))
      clear hW eF
      have z5 := Hd.mk hz_; clear hz_
      have hBs := hB.out.size
      have z1_ := z1.out; have z2_ := z2.out; have z3_ := z3.out; have z4_ := z4.out; have z5_ := z5.out
      exact ⟨[Value.slice D1 v.cols.length d1, Value.int IntKind.i64 v.ver, Value.slice D2 v.tabs.length d2], by rw [HNB.out], by rw [HF.out]; exact store_O2 hN.out hT.out rfl (fun k hk => by have := hSN.out k hk; omega) (fun k hk => by have := hST.out k hk; omega) hNT.out, hB.out⟩
set_option maxHeartbeats 16000000 in
set_option maxRecDepth 100000 in
theorem spec_l7There (x : Store) (cs : List Value) (t : Int) (r : Row) (cs1 : List Value) (w : World) (hk : tStore.K w x cs) (hk1 : tRow.K w r cs1) :
    Calls Try.prog 153 #[.agg cs.toArray, .int .i64 t, .agg cs1.toArray] w fun e w' => e = .returned (.bool (inB t 0 ((x.tabs.length : Int) - 1) && hasRow (tabAt x t) r)) ∧ Below w.heap.size w w' := by
  obtain ⟨A1, c1, A2, c2, rfl, ⟨hc1, hr1⟩, hc2, hr2⟩ := tStore_K.1 hk
  obtain ⟨A3, c3, rfl, hc3, hr3⟩ := tRow_K.1 hk1
  have hm2 := hr2.1
  have HC := Hd.mk hr2; have HK1 := Hd.mk hk1
  clear hr1 hr2 hr3 hk hk1
  have hB := Hd.mk (Below.refl w.heap.size w)
  go_enter Try.func153, Try.ntmps153
  go_wp2_with fail
  apply calls_gen; intro W1 hW
  have hz_ : w.heap.size + 2 ≤ W1.heap.size := by rw [hW]; simp
  have hE : Below w.heap.size w W1 := by rw [hW]; (repeat (first | with_reducible refine below_alloc ?_ _ | with_reducible refine below_drew ?_)); exact Below.refl _ _
  have hB := Hd.mk (below_then hB.out hE)
  have b0 := Hd.mk (show Blk W1 (w.heap.size) #[Value.slice A1 x.cols.length c1, Value.int IntKind.i64 x.ver, Value.slice A2 x.tabs.length c2] 37 by rw [hW]; first | exact ((Blk.new _ _ _).alloc _) | (simpa using ((Blk.new _ _ _).alloc _)))
  have b1 := Hd.mk (show Blk W1 (w.heap.size + 1) #[Value.int IntKind.i64 r.id, Value.slice A3 r.cells.length c3] 41 by rw [hW]; first | exact (Blk.new1 _ _ _ _) | (simpa using (Blk.new1 _ _ _ _)))
  clear hW hE
  have z1 := Hd.mk hz_; clear hz_
  refine (spec_l1In _ _ _ _).mono ?_
  rintro e w2 ⟨rfl, rfl⟩
  cases hb : inB t 0 ((x.tabs.length : Int) - 1)
  · have HE := Hd.mk (show (inB t 0 ((x.tabs.length : Int) - 1) && hasRow (tabAt x t) r) = false by rw [hb]; rfl)
    have fb0_0 : W1.cell? ⟨w.heap.size, 0, none⟩ = some (Value.slice A1 x.cols.length c1) := b0.out.cell 0 rfl
    have fb0_1 : W1.cell? ⟨w.heap.size, 1, none⟩ = some (Value.int IntKind.i64 x.ver) := b0.out.cell 1 rfl
    have fb0_2 : W1.cell? ⟨w.heap.size, 2, none⟩ = some (Value.slice A2 x.tabs.length c2) := b0.out.cell 2 rfl
    have fb0_z := b0.out.frozen
    have fb1_0 : W1.cell? ⟨w.heap.size + 1, 0, none⟩ = some (Value.int IntKind.i64 r.id) := b1.out.cell 0 rfl
    have fb1_1 : W1.cell? ⟨w.heap.size + 1, 1, none⟩ = some (Value.slice A3 r.cells.length c3) := b1.out.cell 1 rfl
    have fb1_z := b1.out.frozen
    go_wp2_with fail
    go_ret
    exact ⟨by rw [HE.out]; rfl, hB.out⟩
  · obtain ⟨q, rfl, hqt⟩ : ∃ q : Nat, t = q ∧ q < x.tabs.length := by
      have := inB_iff.1 hb
      exact ⟨t.toNat, by omega, by omega⟩
    have hq0 : (0 : Int) ≤ (q : Int) := by omega
    have HT := Hd.mk (show (inB (q : Int) 0 ((x.tabs.length : Int) - 1) && hasRow (tabAt x q) r) = hasRow x.tabs[q] r by rw [tabAt_q hqt, hb]; rfl)
    clear hb
    have fb0_0 : W1.cell? ⟨w.heap.size, 0, none⟩ = some (Value.slice A1 x.cols.length c1) := b0.out.cell 0 rfl
    have fb0_1 : W1.cell? ⟨w.heap.size, 1, none⟩ = some (Value.int IntKind.i64 x.ver) := b0.out.cell 1 rfl
    have fb0_2 : W1.cell? ⟨w.heap.size, 2, none⟩ = some (Value.slice A2 x.tabs.length c2) := b0.out.cell 2 rfl
    have fb0_z := b0.out.frozen
    have fb1_0 : W1.cell? ⟨w.heap.size + 1, 0, none⟩ = some (Value.int IntKind.i64 r.id) := b1.out.cell 0 rfl
    have fb1_1 : W1.cell? ⟨w.heap.size + 1, 1, none⟩ = some (Value.slice A3 r.cells.length c3) := b1.out.cell 1 rfl
    have fb1_z := b1.out.frozen
    go_wp2_with fail
    clear fb0_0 fb0_1 fb0_2 fb0_z fb1_0 fb1_1 fb1_z
    obtain ⟨ad, A5, c5, rfl, x0, hc5, hr5⟩ := C_rows_at HC.out hB.out q hqt
    have hm5 := hr5.1
    have HC5 := Hd.mk hr5; clear hr5
    have hBW := Hd.mk (Below.refl W1.heap.size W1)
    have HX := Hd.mk x0
    have fb0_0 : W1.cell? ⟨w.heap.size, 0, none⟩ = some (Value.slice A1 x.cols.length c1) := b0.out.cell 0 rfl
    have fb0_1 : W1.cell? ⟨w.heap.size, 1, none⟩ = some (Value.int IntKind.i64 x.ver) := b0.out.cell 1 rfl
    have fb0_2 : W1.cell? ⟨w.heap.size, 2, none⟩ = some (Value.slice (some ad) x.tabs.length c2) := b0.out.cell 2 rfl
    have fb0_z := b0.out.frozen
    have fb1_0 : W1.cell? ⟨w.heap.size + 1, 0, none⟩ = some (Value.int IntKind.i64 r.id) := b1.out.cell 0 rfl
    have fb1_1 : W1.cell? ⟨w.heap.size + 1, 1, none⟩ = some (Value.slice A3 r.cells.length c3) := b1.out.cell 1 rfl
    have fb1_z := b1.out.frozen
    have rfb0_0 := cell_regrown fb0_0
    have rfb0_1 := cell_regrown fb0_1
    have rfb0_2 := cell_regrown fb0_2
    have rfb1_0 := cell_regrown fb1_0
    have rfb1_1 := cell_regrown fb1_1
    have rx0 := cell_regrown x0
    refine region_mix [(true, 0), (true, 1), (true, 2), (true, 3), (true, 4), (true, 5), (true, 6), (false, 7), (true, 8)] (by kernel_rfl) (by kernel_rfl) (fun _ _ _ _ _ h => h) ?_
    (repeat (first | (refine mix_z rfl (by rfl) ?_; go_big_quiet_skip; refine wpQuiet_nil ?_) | (refine mix_q rfl ?_; first | (go_big_quiet_skip; refine wpQuiet_nil ?_) | (go_big_quiet_want; go_big_quiet_op; go_big_quiet_on; refine wpQuiet_nil ?_))))
    have hS := Hd.mk (Below.refl W1.heap.size W1)
    refine mix_b rfl ?_ (by rfl)
    go_wp2_with fail
    clear fb0_0 fb0_1 fb0_2 fb0_z fb1_0 fb1_1 fb1_z
    apply calls_gen; intro W2 hW
    have hz_ : W1.heap.size ≤ W2.heap.size := by rw [hW]; simp
    have hE : Below W1.heap.size W1 W2 := by rw [hW]; (repeat (first | with_reducible refine below_alloc ?_ _ | with_reducible refine below_drew ?_)); exact Below.refl _ _
    have hB := Hd.mk (below_then hB.out hE)
    have hBW := Hd.mk (below_then hBW.out hE)
    replace hS := Hd.mk (below_then hS.out hE)
    have b0 := Hd.mk (b0.out.below hE)
    have b1 := Hd.mk (b1.out.below hE)
    clear hW hE
    have z2 := Hd.mk hz_; clear hz_
    clear x0
    refine (spec_RowAt _ _ x.tabs[q] r.id _ (C_below HC5.out hBW.out)).mono ?_
    rintro e w3 ⟨rfl, hX⟩
    have b0 := Hd.mk (b0.out.below hX)
    have b1 := Hd.mk (b1.out.below hX)
    have hB := Hd.mk (below_then hB.out hX)
    replace hS := Hd.mk (below_then hS.out hX)
    have hz_ := hX.size
    have hBW := Hd.mk (below_then hBW.out hX)
    clear hX
    have z3 := Hd.mk hz_; clear hz_
    go_wp2_with fail
    refine ⟨cls_below hS.out, ?_⟩
    (repeat (first | (refine mix_z rfl (by rfl) ?_; go_big_quiet_skip; refine wpQuiet_nil ?_) | (refine mix_q rfl ?_; first | (go_big_quiet_skip; refine wpQuiet_nil ?_) | (go_big_quiet_want; go_big_quiet_op; go_big_quiet_on; refine wpQuiet_nil ?_))))
    refine mix_nil ?_
    clear hS rfb0_0 rfb0_1 rfb0_2 rfb1_0 rfb1_1 rx0
    have x0 := cell_below hBW.out HX.out
    rcases idxF_cases (fun r2 : Row => r2.id == r.id) x.tabs[q] with ⟨h1, h2⟩ | ⟨h1, h2⟩
    · rw [show rowAt x.tabs[q] r.id = -1 from h1]
      have HE := Hd.mk (hasRow_no h1)
      clear h1 h2
      go_wp2_with fail
      have fb0_0 : w3.cell? ⟨w.heap.size, 0, none⟩ = some (Value.slice A1 x.cols.length c1) := b0.out.cell 0 rfl
      have fb0_1 : w3.cell? ⟨w.heap.size, 1, none⟩ = some (Value.int IntKind.i64 x.ver) := b0.out.cell 1 rfl
      have fb0_2 : w3.cell? ⟨w.heap.size, 2, none⟩ = some (Value.slice (some ad) x.tabs.length c2) := b0.out.cell 2 rfl
      have fb0_z := b0.out.frozen
      have fb1_0 : w3.cell? ⟨w.heap.size + 1, 0, none⟩ = some (Value.int IntKind.i64 r.id) := b1.out.cell 0 rfl
      have fb1_1 : w3.cell? ⟨w.heap.size + 1, 1, none⟩ = some (Value.slice A3 r.cells.length c3) := b1.out.cell 1 rfl
      have fb1_z := b1.out.frozen
      have rfb0_0 := cell_regrown fb0_0
      have rfb0_1 := cell_regrown fb0_1
      have rfb0_2 := cell_regrown fb0_2
      have rfb1_0 := cell_regrown fb1_0
      have rfb1_1 := cell_regrown fb1_1
      have rx0 := cell_regrown x0
      refine region_mix [(true, 0), (true, 1), (true, 2), (true, 3), (true, 4), (true, 5), (true, 6), (true, 7), (true, 8), (true, 9), (true, 10), (true, 11), (false, 12), (true, 13), (true, 14)] (by kernel_rfl) (by kernel_rfl) (fun _ _ _ _ _ h => h) ?_
      (repeat (first | (refine mix_z rfl (by rfl) ?_; go_big_quiet_skip; refine wpQuiet_nil ?_) | (refine mix_q rfl ?_; first | (go_big_quiet_skip; refine wpQuiet_nil ?_) | (go_big_quiet_want; go_big_quiet_op; go_big_quiet_on; refine wpQuiet_nil ?_))))
      refine mix_nil ?_
      go_wp2_with fail
      go_ret
      exact ⟨by rw [HT.out, HE.out]; rfl, below_drew hB.out⟩
    · rw [show rowAt x.tabs[q] r.id = (x.tabs[q].findIdx (fun r2 : Row => r2.id == r.id) : Int) from h1]
      have HR1 := Hd.mk h1
      obtain ⟨j, hj⟩ : ∃ z, z = x.tabs[q].findIdx (fun r2 : Row => r2.id == r.id) := ⟨_, rfl⟩
      rw [← hj] at HR1 h2 ⊢
      clear h1 hj
      have hj0 : (0 : Int) ≤ (j : Int) := by omega
      have hj1 : decide ((0 : Int) ≤ (j : Int)) = true := decide_eq_true (by omega)
      go_wp2_with fail
      obtain ⟨ad2, Az, cz, rfl, k0, k1, hcz, hrz⟩ := C_row_at (C_below HC5.out hBW.out) (Below.refl _ _) j h2
      have HKz := Hd.mk (tRow_K.2 ⟨Az, cz, rfl, hcz, hrz⟩ : tRow.K w3 x.tabs[q][j] _); clear hrz
      have hBz := Hd.mk (Below.refl w3.heap.size w3)
      have fb0_0 : w3.cell? ⟨w.heap.size, 0, none⟩ = some (Value.slice A1 x.cols.length c1) := b0.out.cell 0 rfl
      have fb0_1 : w3.cell? ⟨w.heap.size, 1, none⟩ = some (Value.int IntKind.i64 x.ver) := b0.out.cell 1 rfl
      have fb0_2 : w3.cell? ⟨w.heap.size, 2, none⟩ = some (Value.slice (some ad) x.tabs.length c2) := b0.out.cell 2 rfl
      have fb0_z := b0.out.frozen
      have fb1_0 : w3.cell? ⟨w.heap.size + 1, 0, none⟩ = some (Value.int IntKind.i64 r.id) := b1.out.cell 0 rfl
      have fb1_1 : w3.cell? ⟨w.heap.size + 1, 1, none⟩ = some (Value.slice A3 r.cells.length c3) := b1.out.cell 1 rfl
      have fb1_z := b1.out.frozen
      have rfb0_0 := cell_regrown fb0_0
      have rfb0_1 := cell_regrown fb0_1
      have rfb0_2 := cell_regrown fb0_2
      have rfb1_0 := cell_regrown fb1_0
      have rfb1_1 := cell_regrown fb1_1
      have rx0 := cell_regrown x0
      have rk0 := cell_regrown k0
      have rk1 := cell_regrown k1
      refine region_mix [(true, 0), (true, 1), (true, 2), (true, 3), (true, 4), (true, 5), (true, 6), (true, 7), (true, 8), (true, 9), (true, 10), (true, 11), (false, 12), (true, 13), (true, 14)] (by kernel_rfl) (by kernel_rfl) (fun _ _ _ _ _ h => h) ?_
      (repeat (first | (refine mix_z rfl (by rfl) ?_; go_big_quiet_skip; refine wpQuiet_nil ?_) | (refine mix_q rfl ?_; first | (go_big_quiet_skip; refine wpQuiet_nil ?_) | (go_big_quiet_want; go_big_quiet_op; go_big_quiet_on; refine wpQuiet_nil ?_))))
      have hS := Hd.mk (Below.refl w3.heap.size w3)
      refine mix_b rfl ?_ (by rfl)
      go_wp2_with fail
      clear fb0_0 fb0_1 fb0_2 fb0_z fb1_0 fb1_1 fb1_z
      apply calls_gen; intro W4 hW
      have hz_ : w3.heap.size ≤ W4.heap.size := by rw [hW]; simp
      have hE : Below w3.heap.size w3 W4 := by rw [hW]; (repeat (first | with_reducible refine below_alloc ?_ _ | with_reducible refine below_drew ?_)); exact Below.refl _ _
      have hB := Hd.mk (below_then hB.out hE)
      have hBz := Hd.mk (below_then hBz.out hE)
      replace hS := Hd.mk (below_then hS.out hE)
      have b0 := Hd.mk (b0.out.below hE)
      have b1 := Hd.mk (b1.out.below hE)
      clear hW hE
      have z4 := Hd.mk hz_; clear hz_
      clear x0 k0 k1
      refine (spec_RowSame x.tabs[q][j] r _ _ _ (tRow.K_below hBz.out HKz.out) (tRow.K_below hB.out HK1.out)).mono ?_
      rintro e w5 ⟨rfl, hX⟩
      have b0 := Hd.mk (b0.out.below hX)
      have b1 := Hd.mk (b1.out.below hX)
      have hB := Hd.mk (below_then hB.out hX)
      replace hS := Hd.mk (below_then hS.out hX)
      have hz_ := hX.size
      have hBz := Hd.mk (below_then hBz.out hX)
      clear hX
      have z5 := Hd.mk hz_; clear hz_
      have HE := Hd.mk (hasRow_at HR1.out h2)
      go_wp2_with fail
      refine ⟨cls_below hS.out, ?_⟩
      (repeat (first | (refine mix_z rfl (by rfl) ?_; go_big_quiet_skip; refine wpQuiet_nil ?_) | (refine mix_q rfl ?_; first | (go_big_quiet_skip; refine wpQuiet_nil ?_) | (go_big_quiet_want; go_big_quiet_op; go_big_quiet_on; refine wpQuiet_nil ?_))))
      refine mix_nil ?_
      clear hS rfb0_0 rfb0_1 rfb0_2 rfb1_0 rfb1_1 rx0 rk0 rk1
      go_wp2_with fail
      go_ret
      exact ⟨by rw [HT.out, HE.out]; rfl, hB.out⟩
set_option maxHeartbeats 16000000 in
set_option maxRecDepth 100000 in
theorem spec_l7Turn {S : Nat → Prop} (x : Store) (cs : List Value) (y : Change) (cs1 : List Value) (w : World) (hS : ∀ k, S k → k < w.heap.size) (hk : tStore.O w S x cs) (hk1 : tChange.K w y cs1) (hl : bulkStore x ≤ 2000000) (hlr : bulkChange y ≤ 2000000) :
    Calls Try.prog 80 #[.agg cs.toArray, .agg cs1.toArray] w fun e w' => ∃ cs', e = .returned (.tuple #[.agg cs'.toArray, .bool (turnB x y)]) ∧ tStore.O w' (fun k => S k ∨ w.heap.size ≤ k) (turnV x y) cs' ∧ Fr w w' S := by
  obtain ⟨D1, d1, D2, d2, SN, ST, rfl, hd1, hd2, hN, hT, hSN, hST, hNT⟩ := store_open hk
  obtain ⟨t, had, has, old, now⟩ := y
  obtain ⟨A3, c3, A4, c4, rfl, ⟨hc3, hr3⟩, hc4, hr4⟩ := tChange_K.1 hk1
  simp only at hc3 hr3 hc4 hr4
  have HO := Hd.mk (tRow_K.2 ⟨A3, c3, rfl, hc3, hr3⟩ : tRow.K w old _)
  have HW := Hd.mk (tRow_K.2 ⟨A4, c4, rfl, hc4, hr4⟩ : tRow.K w now _)
  clear hr3 hr4 hk hk1
  have HSb := Hd.mk hS; clear hS
  have HL := Hd.mk hl
  have hlr : now.cells.length ≤ 2000000 := by simp only [bulkChange, bulkRow] at hlr; omega
  have hm2 := (R_Cv hT.out).1
  clear hl
  have hB := Hd.mk (Below.refl w.heap.size w)
  simp only
  go_enter Try.func80, Try.ntmps80
  go_wp2_with fail
  apply calls_gen; intro W1 hW
  have hz_ : w.heap.size + 3 ≤ W1.heap.size := by rw [hW]; simp
  have hE : Below w.heap.size w W1 := by rw [hW]; (repeat (first | with_reducible refine below_alloc ?_ _ | with_reducible refine below_drew ?_)); exact Below.refl _ _
  have hB := Hd.mk (below_then hB.out hE)
  have b0 := Hd.mk (show Blk W1 (w.heap.size) #[Value.slice D1 x.cols.length d1, Value.int IntKind.i64 x.ver, Value.slice D2 x.tabs.length d2] 37 by rw [hW]; first | exact (((Blk.new _ _ _).alloc _).alloc _) | (simpa using (((Blk.new _ _ _).alloc _).alloc _)))
  have b1 := Hd.mk (show Blk W1 (w.heap.size + 1) #[Value.int IntKind.i64 t, Value.bool had, Value.bool has, Value.int IntKind.i64 old.id, Value.slice A3 old.cells.length c3, Value.int IntKind.i64 now.id, Value.slice A4 now.cells.length c4] 43 by rw [hW]; first | exact ((Blk.new1 _ _ _ _).alloc _) | (simpa using ((Blk.new1 _ _ _ _).alloc _)))
  have b2 := Hd.mk (show Blk W1 (w.heap.size + 1 + 1) #[Value.slice none 0 0, Value.int IntKind.i64 0, Value.slice none 0 0] 37 by rw [hW]; first | exact (Blk.new2 _ _ _ _ _) | (simpa using (Blk.new2 _ _ _ _ _)))
  have hN := Hd.mk (R_below hN.out hE)
  have hT := Hd.mk (R_below hT.out hE)
  clear hW hE
  have z1 := Hd.mk hz_; clear hz_
  refine (spec_l1In _ _ _ _).mono ?_
  rintro e w2 ⟨rfl, rfl⟩
  cases hb : inB t 0 ((x.tabs.length : Int) - 1)
  · obtain ⟨hn_, hf_⟩ := turn_no (x := x) (y := ⟨t, had, has, old, now⟩) (turn_c0 hb)
    have HNB := Hd.mk hn_; have HF := Hd.mk hf_; clear hn_ hf_
    have fb0_0 : W1.cell? ⟨w.heap.size, 0, none⟩ = some (Value.slice D1 x.cols.length d1) := b0.out.cell 0 rfl
    have fb0_1 : W1.cell? ⟨w.heap.size, 1, none⟩ = some (Value.int IntKind.i64 x.ver) := b0.out.cell 1 rfl
    have fb0_2 : W1.cell? ⟨w.heap.size, 2, none⟩ = some (Value.slice D2 x.tabs.length d2) := b0.out.cell 2 rfl
    have fb0_z := b0.out.frozen
    have fb1_0 : W1.cell? ⟨w.heap.size + 1, 0, none⟩ = some (Value.int IntKind.i64 t) := b1.out.cell 0 rfl
    have fb1_1 : W1.cell? ⟨w.heap.size + 1, 1, none⟩ = some (Value.bool had) := b1.out.cell 1 rfl
    have fb1_2 : W1.cell? ⟨w.heap.size + 1, 2, none⟩ = some (Value.bool has) := b1.out.cell 2 rfl
    have fb1_3 : W1.cell? ⟨w.heap.size + 1, 3, none⟩ = some (Value.int IntKind.i64 old.id) := b1.out.cell 3 rfl
    have fb1_4 : W1.cell? ⟨w.heap.size + 1, 4, none⟩ = some (Value.slice A3 old.cells.length c3) := b1.out.cell 4 rfl
    have fb1_5 : W1.cell? ⟨w.heap.size + 1, 5, none⟩ = some (Value.int IntKind.i64 now.id) := b1.out.cell 5 rfl
    have fb1_6 : W1.cell? ⟨w.heap.size + 1, 6, none⟩ = some (Value.slice A4 now.cells.length c4) := b1.out.cell 6 rfl
    have fb1_z := b1.out.frozen
    have fb2_0 : W1.cell? ⟨w.heap.size + 1 + 1, 0, none⟩ = some (Value.slice none 0 0) := b2.out.cell 0 rfl
    have fb2_1 : W1.cell? ⟨w.heap.size + 1 + 1, 1, none⟩ = some (Value.int IntKind.i64 0) := b2.out.cell 1 rfl
    have fb2_2 : W1.cell? ⟨w.heap.size + 1 + 1, 2, none⟩ = some (Value.slice none 0 0) := b2.out.cell 2 rfl
    have fb2_z := b2.out.frozen
    go_wp2_with fail
    refine bodyPost_retW (v := .tuple #[.agg #[Value.slice D1 x.cols.length d1, Value.int IntKind.i64 x.ver, Value.slice D2 x.tabs.length d2], .bool false]) (by simp [results, Try.results80, go_sem, fb0_0, fb0_1, fb0_2, fb0_z, fb1_0, fb1_1, fb1_2, fb1_3, fb1_4, fb1_5, fb1_6, fb1_z, fb2_0, fb2_1, fb2_2, fb2_z]) rfl ?_
    intro W hW
    clear fb0_0 fb0_1 fb0_2 fb0_z fb1_0 fb1_1 fb1_2 fb1_3 fb1_4 fb1_5 fb1_6 fb1_z fb2_0 fb2_1 fb2_2 fb2_z
    have hz_ : W1.heap.size ≤ W.heap.size := by rw [hW]; simp
    have eF : Fr W1 W (fun k => k = w.heap.size + 1 + 1 ∨ W1.heap.size ≤ k) := by rw [hW]; (repeat (first | with_reducible refine Fr.setCell ?_ _ (fun _ => by simp <;> omega) _ | with_reducible refine Fr.alloc ?_ _ | with_reducible refine Fr.drew ?_)); exact Fr.refl _ _
    have z1_ := z1.out
    have hB := Hd.mk (((Fr.of_below hB.out (fun k => k = w.heap.size + 1 + 1 ∨ W1.heap.size ≤ k)).then_ eF (fun k hk _ => hk)).below (fun k hk => by have := hB.out.size; omega))
    have b0 := Hd.mk (b0.out.fr eF (fun h => by have hlt_ := b0.out.lt; (try simp only at h); omega))
    have b1 := Hd.mk (b1.out.fr eF (fun h => by have hlt_ := b1.out.lt; (try simp only at h); omega))
    have b2 := Hd.mk (show Blk W (w.heap.size + 1 + 1) #[Value.slice D1 x.cols.length d1, Value.int IntKind.i64 x.ver, Value.slice D2 x.tabs.length d2] 37 by rw [hW]; exact (Blk.all b2.out [Value.slice D1 x.cols.length d1, Value.int IntKind.i64 x.ver, Value.slice D2 x.tabs.length d2] rfl))
    have hN := Hd.mk (R_fr hN.out eF (fun k hk hl h => by have q_ := hSN.out k hk; (try simp only [rng] at hk); (try simp only at hk); (try simp only at h); omega))
    have hT := Hd.mk (R_fr hT.out eF (fun k hk hl h => by have q_ := hST.out k hk; (try simp only [rng] at hk); (try simp only at hk); (try simp only at h); omega))
    clear hW eF
    have z2 := Hd.mk hz_; clear hz_
    exact ⟨[Value.slice D1 x.cols.length d1, Value.int IntKind.i64 x.ver, Value.slice D2 x.tabs.length d2], by rw [HNB.out], by rw [HF.out]; exact store_O2 hN.out hT.out rfl (fun k hk => .inl (hSN.out k hk).1) (fun k hk => .inl (hST.out k hk).1) hNT.out, Fr.of_below hB.out S⟩
  · obtain ⟨q, rfl, hqt⟩ : ∃ q : Nat, t = q ∧ q < x.tabs.length := by
      have := inB_iff.1 hb
      exact ⟨t.toNat, by omega, by omega⟩
    have hq0 : (0 : Int) ≤ (q : Int) := by omega
    have HHB := Hd.mk hb; clear hb
    cases had
    case false =>
      obtain ⟨SI, cI, hH, hO0⟩ := R_H hT.out (List.getElem?_eq_getElem hqt)
      obtain ⟨v0, rfl, hM⟩ := sl_O.1 hO0
      clear hO0
      obtain ⟨AM, cM, rfl, hcM, _⟩ := R_C hM
      obtain ⟨gT, capT, hgT, hcp, hcp2, hgST, hgl, _, hcell, hfz⟩ := H_cells hH (by decide)
      injection hgT with hg1 _ hg2
      subst hg1; subst hg2
      have hgT := Hd.mk (hST.out gT hgST); have hgS := Hd.mk hgST; clear hgST hgl
      have x0 := hcell 0 _ rfl
      simp only [show tRows.sz = 1 from rfl, Nat.mul_one, Nat.add_zero] at x0
      clear hcell hfz
      have hSI := Hd.mk (H_sub hH)
      have hH := Hd.mk hH
      have hM := Hd.mk hM
      have hbq := Hd.mk (show bulkRowS x.tabs[q] ≤ 2000000 by
        have := bulkL_mem bulkRowS (List.getElem_mem hqt)
        have := HL.out
        simp only [bulkStore, bulkRowSS] at this
        omega)
      have hmq := (R_Cv hM.out).1
      obtain ⟨TM, hTM⟩ : ∃ z : Nat → Prop, z = SI := ⟨_, rfl⟩
      rw [← hTM] at hM
      have HTM := Hd.mk (show ∀ k, TM k → (SI k ∨ ¬ ST k) ∧ (S k ∨ w.heap.size ≤ k) ∧ k ≠ w.heap.size + 1 + 1 by rw [hTM]; intro k hk; have := hST.out k (hSI.out k hk); exact ⟨.inl hk, .inl this.1, by omega⟩)
      have HTG := Hd.mk (show ¬ TM gT by rw [hTM]; exact H_own hH.out)
      have HNM := Hd.mk (show ∀ k, SN k → ¬ TM k by rw [hTM]; intro k h1 hk; exact hNT.out k h1 (hSI.out k hk))
      have HTB := Hd.mk (show ∀ k, TM k → k < W1.heap.size by rw [hTM]; intro k hk; have := hST.out k (hSI.out k hk); have z1_ := z1.out; omega)
      clear hTM
      have HCA := Hd.mk (sw_a0 x.tabs[q] old)
      have HMD := Hd.mk (sw_d0 x.tabs[q] old)
      have hbm := Hd.mk hbq.out
      cases has
      · have HCB := Hd.mk (sw_b0 x.tabs[q] false old now)
        have HME := Hd.mk (sw_m0 HMD.out now)
        obtain ⟨hn_, hf_⟩ := turn_yes hqt HHB.out HCA.out HCB.out HME.out
        have HNB := Hd.mk hn_; have HF := Hd.mk hf_; clear hn_ hf_
        obtain ⟨gT2, capT2, hgT2, _, _, _, hgl2, hngI, hcell, hfz⟩ := H_cells hH.out (by decide)
        injection hgT2 with hg1 _ hg2
        injection hg1 with hg1
        injection hg1 with hg1 _ _
        subst hg1; subst hg2
        have x0 := hcell 0 _ rfl
        simp only [show tRows.sz = 1 from rfl, Nat.mul_one, Nat.add_zero] at x0
        have xz : W1.frozen? ⟨gT, q, none⟩ = false := hfz q
        clear hcell hfz
        have z1_ := z1.out
        have hlt0 : gT < w.heap.size := by have := hgT.out; omega
        have hne0 : ¬ w.heap.size = gT := by have := hgT.out; omega
        have hnf0 : ¬ gT = w.heap.size := by have := hgT.out; omega
        have hlt1 : gT < w.heap.size + 1 := by have := hgT.out; omega
        have hne1 : ¬ w.heap.size + 1 = gT := by have := hgT.out; omega
        have hnf1 : ¬ gT = w.heap.size + 1 := by have := hgT.out; omega
        have hlt2 : gT < w.heap.size + 1 + 1 := by have := hgT.out; omega
        have hne2 : ¬ w.heap.size + 1 + 1 = gT := by have := hgT.out; omega
        have hnf2 : ¬ gT = w.heap.size + 1 + 1 := by have := hgT.out; omega
        clear z1_
        have fb0_0 : W1.cell? ⟨w.heap.size, 0, none⟩ = some (Value.slice D1 x.cols.length d1) := b0.out.cell 0 rfl
        have fb0_1 : W1.cell? ⟨w.heap.size, 1, none⟩ = some (Value.int IntKind.i64 x.ver) := b0.out.cell 1 rfl
        have fb0_2 : W1.cell? ⟨w.heap.size, 2, none⟩ = some (Value.slice (some ⟨gT, 0, none⟩) x.tabs.length d2) := b0.out.cell 2 rfl
        have fb0_z := b0.out.frozen
        have fb1_0 : W1.cell? ⟨w.heap.size + 1, 0, none⟩ = some (Value.int IntKind.i64 (q : Int)) := b1.out.cell 0 rfl
        have fb1_1 : W1.cell? ⟨w.heap.size + 1, 1, none⟩ = some (Value.bool false) := b1.out.cell 1 rfl
        have fb1_2 : W1.cell? ⟨w.heap.size + 1, 2, none⟩ = some (Value.bool false) := b1.out.cell 2 rfl
        have fb1_3 : W1.cell? ⟨w.heap.size + 1, 3, none⟩ = some (Value.int IntKind.i64 old.id) := b1.out.cell 3 rfl
        have fb1_4 : W1.cell? ⟨w.heap.size + 1, 4, none⟩ = some (Value.slice A3 old.cells.length c3) := b1.out.cell 4 rfl
        have fb1_5 : W1.cell? ⟨w.heap.size + 1, 5, none⟩ = some (Value.int IntKind.i64 now.id) := b1.out.cell 5 rfl
        have fb1_6 : W1.cell? ⟨w.heap.size + 1, 6, none⟩ = some (Value.slice A4 now.cells.length c4) := b1.out.cell 6 rfl
        have fb1_z := b1.out.frozen
        have fb2_0 : W1.cell? ⟨w.heap.size + 1 + 1, 0, none⟩ = some (Value.slice none 0 0) := b2.out.cell 0 rfl
        have fb2_1 : W1.cell? ⟨w.heap.size + 1 + 1, 1, none⟩ = some (Value.int IntKind.i64 0) := b2.out.cell 1 rfl
        have fb2_2 : W1.cell? ⟨w.heap.size + 1 + 1, 2, none⟩ = some (Value.slice none 0 0) := b2.out.cell 2 rfl
        have fb2_z := b2.out.frozen
        go_wp2_with fail
        refine bodyPost_retW (v := .tuple #[.agg #[Value.slice D1 x.cols.length d1, Value.int IntKind.i64 x.ver, Value.slice (some ⟨gT, 0, none⟩) x.tabs.length d2], .bool true]) (by simp [results, Try.results80, go_sem, fb0_0, fb0_1, fb0_2, fb0_z, fb1_0, fb1_1, fb1_2, fb1_3, fb1_4, fb1_5, fb1_6, fb1_z, fb2_0, fb2_1, fb2_2, fb2_z, x0, xz, hlt0, hne0, hnf0, hlt1, hne1, hnf1, hlt2, hne2, hnf2]) rfl ?_
        intro W hW
        obtain ⟨W2, hW9⟩ : ∃ z, z = W1.setCell ⟨gT, q, none⟩ (.slice AM (x.tabs[q]).length cM) := ⟨_, rfl⟩
        rw [← hW9] at hW
        clear fb0_0 fb0_1 fb0_2 fb0_z fb1_0 fb1_1 fb1_2 fb1_3 fb1_4 fb1_5 fb1_6 fb1_z fb2_0 fb2_1 fb2_2 fb2_z x0 xz hlt0 hne0 hnf0 hlt1 hne1 hnf1 hlt2 hne2 hnf2
        have hX : Fr W1 W2 (fun k => k = gT) := by rw [hW9]; exact Fr.setCell (S := fun k => k = gT) (Fr.refl _ _) _ (fun _ => rfl) _
        have hT2 := Hd.mk (show tRows.R 68 W2 (fun k => ST k ∨ TM k) (.slice (some ⟨gT, 0, none⟩) x.tabs.length d2) (x.tabs.set q x.tabs[q]) by
          rw [hW9]
          have h1 := H_store hH.out 0 (by decide) (.slice AM (x.tabs[q]).length cM) rfl
          simp only [show tRows.sz = 1 from rfl, Nat.mul_one, Nat.add_zero] at h1
          exact H_back (x' := x.tabs[q]) h1 (T := TM) (sl_O.2 ⟨_, rfl, R_setCell hM.out (fun h => HTG.out h) _⟩) (fun k hk => (HTM.out k hk).1) (fun k hk => .inl hk) (fun k hk => .inr hk))
        clear hW9
        have hG := Hd.mk ((Fr.of_below hB.out S).then_ hX (fun k h _ => by have h : k = gT := h; rw [h]; exact hgT.out.1))
        have z1_ := z1.out
        have b0 := Hd.mk (b0.out.fr hX (fun h => by have hlt_ := b0.out.lt; have qg := hgT.out; (try simp only at h); omega))
        have b1 := Hd.mk (b1.out.fr hX (fun h => by have hlt_ := b1.out.lt; have qg := hgT.out; (try simp only at h); omega))
        have b2 := Hd.mk (b2.out.fr hX (fun h => by have hlt_ := b2.out.lt; have qg := hgT.out; (try simp only at h); omega))
        have hN := Hd.mk (R_fr hN.out hX (fun k hk hl h => by have q_ : k ≠ gT := fun e => hNT.out k hk (e ▸ hgS.out); (try simp only at h); omega))
        have hz_ := hX.size
        clear hX hH hM
        have z2 := Hd.mk hz_; clear hz_
        have eF : Fr W2 W (fun k => k = w.heap.size + 1 + 1) := by rw [hW]; (repeat (first | with_reducible refine Fr.setCell (S := fun k => k = w.heap.size + 1 + 1) ?_ _ (fun _ => rfl) _)); exact Fr.refl _ _
        have HT2 := Hd.mk (show ∀ k, (ST k ∨ TM k) → (S k ∨ w.heap.size ≤ k) ∧ k ≠ w.heap.size + 1 + 1 from fun k hk => by have z1_ := z1.out; have z2_ := z2.out; rcases hk with hk | hk; (have := hST.out k hk; exact ⟨.inl this.1, by omega⟩); (have := (HTM.out k hk).2; exact ⟨this.1, this.2⟩))
        exact ⟨[Value.slice D1 x.cols.length d1, Value.int IntKind.i64 x.ver, Value.slice (some ⟨gT, 0, none⟩) x.tabs.length d2], by rw [HNB.out], by rw [HF.out]; exact store_O2 (R_fr hN.out eF (fun k hk _ h => by have := hSN.out k hk; (try simp only at h); omega)) (R_fr hT2.out eF (fun k hk _ h => (HT2.out k hk).2 h)) (by simp) (fun k hk => .inl (hSN.out k hk).1) (fun k hk => (HT2.out k hk).1) (fun k hk h2 => by rcases h2 with h2 | h2; exact hNT.out k hk h2; exact HNM.out k hk h2), hG.out.then_ eF (fun k h hl => by (try simp only at h); omega)⟩
      · have fb0_0 : W1.cell? ⟨w.heap.size, 0, none⟩ = some (Value.slice D1 x.cols.length d1) := b0.out.cell 0 rfl
        have fb0_1 : W1.cell? ⟨w.heap.size, 1, none⟩ = some (Value.int IntKind.i64 x.ver) := b0.out.cell 1 rfl
        have fb0_2 : W1.cell? ⟨w.heap.size, 2, none⟩ = some (Value.slice (some ⟨gT, 0, none⟩) x.tabs.length d2) := b0.out.cell 2 rfl
        have fb0_z := b0.out.frozen
        have fb1_0 : W1.cell? ⟨w.heap.size + 1, 0, none⟩ = some (Value.int IntKind.i64 (q : Int)) := b1.out.cell 0 rfl
        have fb1_1 : W1.cell? ⟨w.heap.size + 1, 1, none⟩ = some (Value.bool false) := b1.out.cell 1 rfl
        have fb1_2 : W1.cell? ⟨w.heap.size + 1, 2, none⟩ = some (Value.bool true) := b1.out.cell 2 rfl
        have fb1_3 : W1.cell? ⟨w.heap.size + 1, 3, none⟩ = some (Value.int IntKind.i64 old.id) := b1.out.cell 3 rfl
        have fb1_4 : W1.cell? ⟨w.heap.size + 1, 4, none⟩ = some (Value.slice A3 old.cells.length c3) := b1.out.cell 4 rfl
        have fb1_5 : W1.cell? ⟨w.heap.size + 1, 5, none⟩ = some (Value.int IntKind.i64 now.id) := b1.out.cell 5 rfl
        have fb1_6 : W1.cell? ⟨w.heap.size + 1, 6, none⟩ = some (Value.slice A4 now.cells.length c4) := b1.out.cell 6 rfl
        have fb1_z := b1.out.frozen
        have fb2_0 : W1.cell? ⟨w.heap.size + 1 + 1, 0, none⟩ = some (Value.slice none 0 0) := b2.out.cell 0 rfl
        have fb2_1 : W1.cell? ⟨w.heap.size + 1 + 1, 1, none⟩ = some (Value.int IntKind.i64 0) := b2.out.cell 1 rfl
        have fb2_2 : W1.cell? ⟨w.heap.size + 1 + 1, 2, none⟩ = some (Value.slice none 0 0) := b2.out.cell 2 rfl
        have fb2_z := b2.out.frozen
        go_wp2_with fail
        clear fb0_0 fb0_1 fb0_2 fb0_z fb1_0 fb1_1 fb1_2 fb1_3 fb1_4 fb1_5 fb1_6 fb1_z fb2_0 fb2_1 fb2_2 fb2_z
        apply calls_gen; intro W2 hW
        have hz_ : W1.heap.size ≤ W2.heap.size := by rw [hW]; simp
        have hE : Below W1.heap.size W1 W2 := by rw [hW]; (repeat (first | with_reducible refine below_alloc ?_ _ | with_reducible refine below_drew ?_)); exact Below.refl _ _
        have hB := Hd.mk (below_then hB.out hE)
        have b0 := Hd.mk (b0.out.below hE)
        have b1 := Hd.mk (b1.out.below hE)
        have b2 := Hd.mk (b2.out.below hE)
        have hN := Hd.mk (R_below hN.out hE)
        have hT := Hd.mk (R_below hT.out hE)
        have hH := Hd.mk (H_below hH.out hE)
        have hM := Hd.mk (R_below hM.out hE)
        clear hW hE
        have z2 := Hd.mk hz_; clear hz_
        refine (spec_RowAt _ _ (x.tabs[q]) now.id _ (R_Cv hM.out)).mono ?_
        rintro e w3 ⟨rfl, hX⟩
        have b0 := Hd.mk (b0.out.below hX)
        have b1 := Hd.mk (b1.out.below hX)
        have b2 := Hd.mk (b2.out.below hX)
        have hN := Hd.mk (R_below hN.out hX)
        have hT := Hd.mk (R_below hT.out hX)
        have hH := Hd.mk (H_below hH.out hX)
        have hM := Hd.mk (R_below hM.out hX)
        have hB := Hd.mk (below_then hB.out hX)
        have hz_ := hX.size
        clear hX
        have z3 := Hd.mk hz_; clear hz_
        rcases idxF_cases (fun r : Row => r.id == now.id) (x.tabs[q]) with ⟨h1, h2⟩ | ⟨h1, h2⟩
        · rw [show rowAt (x.tabs[q]) now.id = -1 from h1]
          have HCB := Hd.mk (sw_b1 HMD.out now h1)
          clear h1 h2
          have fb0_0 : w3.cell? ⟨w.heap.size, 0, none⟩ = some (Value.slice D1 x.cols.length d1) := b0.out.cell 0 rfl
          have fb0_1 : w3.cell? ⟨w.heap.size, 1, none⟩ = some (Value.int IntKind.i64 x.ver) := b0.out.cell 1 rfl
          have fb0_2 : w3.cell? ⟨w.heap.size, 2, none⟩ = some (Value.slice (some ⟨gT, 0, none⟩) x.tabs.length d2) := b0.out.cell 2 rfl
          have fb0_z := b0.out.frozen
          have fb1_0 : w3.cell? ⟨w.heap.size + 1, 0, none⟩ = some (Value.int IntKind.i64 (q : Int)) := b1.out.cell 0 rfl
          have fb1_1 : w3.cell? ⟨w.heap.size + 1, 1, none⟩ = some (Value.bool false) := b1.out.cell 1 rfl
          have fb1_2 : w3.cell? ⟨w.heap.size + 1, 2, none⟩ = some (Value.bool true) := b1.out.cell 2 rfl
          have fb1_3 : w3.cell? ⟨w.heap.size + 1, 3, none⟩ = some (Value.int IntKind.i64 old.id) := b1.out.cell 3 rfl
          have fb1_4 : w3.cell? ⟨w.heap.size + 1, 4, none⟩ = some (Value.slice A3 old.cells.length c3) := b1.out.cell 4 rfl
          have fb1_5 : w3.cell? ⟨w.heap.size + 1, 5, none⟩ = some (Value.int IntKind.i64 now.id) := b1.out.cell 5 rfl
          have fb1_6 : w3.cell? ⟨w.heap.size + 1, 6, none⟩ = some (Value.slice A4 now.cells.length c4) := b1.out.cell 6 rfl
          have fb1_z := b1.out.frozen
          have fb2_0 : w3.cell? ⟨w.heap.size + 1 + 1, 0, none⟩ = some (Value.slice none 0 0) := b2.out.cell 0 rfl
          have fb2_1 : w3.cell? ⟨w.heap.size + 1 + 1, 1, none⟩ = some (Value.int IntKind.i64 0) := b2.out.cell 1 rfl
          have fb2_2 : w3.cell? ⟨w.heap.size + 1 + 1, 2, none⟩ = some (Value.slice none 0 0) := b2.out.cell 2 rfl
          have fb2_z := b2.out.frozen
          go_wp2_with fail
          clear fb0_0 fb0_1 fb0_2 fb0_z fb1_0 fb1_1 fb1_2 fb1_3 fb1_4 fb1_5 fb1_6 fb1_z fb2_0 fb2_1 fb2_2 fb2_z
          apply calls_gen; intro W4 hW
          have hz_ : w3.heap.size ≤ W4.heap.size := by rw [hW]; simp
          have hE : Below w3.heap.size w3 W4 := by rw [hW]; (repeat (first | with_reducible refine below_alloc ?_ _ | with_reducible refine below_drew ?_)); exact Below.refl _ _
          have hB := Hd.mk (below_then hB.out hE)
          have b0 := Hd.mk (b0.out.below hE)
          have b1 := Hd.mk (b1.out.below hE)
          have b2 := Hd.mk (b2.out.below hE)
          have hN := Hd.mk (R_below hN.out hE)
          have hT := Hd.mk (R_below hT.out hE)
          have hH := Hd.mk (H_below hH.out hE)
          have hM := Hd.mk (R_below hM.out hE)
          clear hW hE
          have z4 := Hd.mk hz_; clear hz_
          refine (spec_RowPut _ _ (x.tabs[q]) now _ _ (R_Cv hM.out) (tRow.K_below hB.out HW.out) (by have := hbm.out; omega) (by omega)).mono ?_
          rintro e w5 ⟨v6, rfl, hM6, hX⟩
          have b0 := Hd.mk (b0.out.below hX)
          have b1 := Hd.mk (b1.out.below hX)
          have b2 := Hd.mk (b2.out.below hX)
          have hN := Hd.mk (R_below hN.out hX)
          have hT := Hd.mk (R_below hT.out hX)
          have hH := Hd.mk (H_below hH.out hX)
          have hM := Hd.mk (R_below hM.out hX)
          have hB := Hd.mk (below_then hB.out hX)
          have hz_ := hX.size
          clear hX
          have z5 := Hd.mk hz_; clear hz_
          clear hM
          replace hM6 := R_bound hM6
          obtain ⟨TM, hTM⟩ : ∃ z : Nat → Prop, z = (fun k => W4.heap.size ≤ k ∧ k < w5.heap.size) := ⟨_, rfl⟩
          rw [← hTM] at hM6
          obtain ⟨AM, cM, hv_, hcM, _⟩ := R_C hM6
          subst hv_
          have hM := Hd.mk hM6; clear hM6
          have HTM := Hd.mk (show ∀ k, TM k → (SI k ∨ ¬ ST k) ∧ (S k ∨ w.heap.size ≤ k) ∧ k ≠ w.heap.size + 1 + 1 by rw [hTM]; intro k hk; have z1_ := z1.out; have z2_ := z2.out; have z3_ := z3.out; have z4_ := z4.out; have z5_ := z5.out; exact ⟨.inr (fun hs => by have := hST.out k hs; omega), .inr (by omega), by omega⟩)
          have HTB := Hd.mk (show ∀ k, TM k → k < w5.heap.size by rw [hTM]; intro k hk; exact hk.2)
          have HTG := Hd.mk (show ¬ TM gT by rw [hTM]; intro hk; have z1_ := z1.out; have z2_ := z2.out; have z3_ := z3.out; have z4_ := z4.out; have z5_ := z5.out; have := hgT.out; omega)
          have HNM := Hd.mk (show ∀ k, SN k → ¬ TM k by rw [hTM]; intro k h1 hk; have z1_ := z1.out; have z2_ := z2.out; have z3_ := z3.out; have z4_ := z4.out; have z5_ := z5.out; have := hSN.out k h1; omega)
          clear hTM
          have hmq := (R_Cv hM.out).1
          have HME := Hd.mk (sw_m1 HMD.out now)
          obtain ⟨hn_, hf_⟩ := turn_yes hqt HHB.out HCA.out HCB.out HME.out
          have HNB := Hd.mk hn_; have HF := Hd.mk hf_; clear hn_ hf_
          obtain ⟨gT2, capT2, hgT2, _, _, _, hgl2, hngI, hcell, hfz⟩ := H_cells hH.out (by decide)
          injection hgT2 with hg1 _ hg2
          injection hg1 with hg1
          injection hg1 with hg1 _ _
          subst hg1; subst hg2
          have x0 := hcell 0 _ rfl
          simp only [show tRows.sz = 1 from rfl, Nat.mul_one, Nat.add_zero] at x0
          have xz : w5.frozen? ⟨gT, q, none⟩ = false := hfz q
          clear hcell hfz
          have z1_ := z1.out; have z2_ := z2.out; have z3_ := z3.out; have z4_ := z4.out; have z5_ := z5.out
          have hlt0 : gT < w.heap.size := by have := hgT.out; omega
          have hne0 : ¬ w.heap.size = gT := by have := hgT.out; omega
          have hnf0 : ¬ gT = w.heap.size := by have := hgT.out; omega
          have hlt1 : gT < w.heap.size + 1 := by have := hgT.out; omega
          have hne1 : ¬ w.heap.size + 1 = gT := by have := hgT.out; omega
          have hnf1 : ¬ gT = w.heap.size + 1 := by have := hgT.out; omega
          have hlt2 : gT < w.heap.size + 1 + 1 := by have := hgT.out; omega
          have hne2 : ¬ w.heap.size + 1 + 1 = gT := by have := hgT.out; omega
          have hnf2 : ¬ gT = w.heap.size + 1 + 1 := by have := hgT.out; omega
          clear z1_ z2_ z3_ z4_ z5_
          have fb0_0 : w5.cell? ⟨w.heap.size, 0, none⟩ = some (Value.slice D1 x.cols.length d1) := b0.out.cell 0 rfl
          have fb0_1 : w5.cell? ⟨w.heap.size, 1, none⟩ = some (Value.int IntKind.i64 x.ver) := b0.out.cell 1 rfl
          have fb0_2 : w5.cell? ⟨w.heap.size, 2, none⟩ = some (Value.slice (some ⟨gT, 0, none⟩) x.tabs.length d2) := b0.out.cell 2 rfl
          have fb0_z := b0.out.frozen
          have fb1_0 : w5.cell? ⟨w.heap.size + 1, 0, none⟩ = some (Value.int IntKind.i64 (q : Int)) := b1.out.cell 0 rfl
          have fb1_1 : w5.cell? ⟨w.heap.size + 1, 1, none⟩ = some (Value.bool false) := b1.out.cell 1 rfl
          have fb1_2 : w5.cell? ⟨w.heap.size + 1, 2, none⟩ = some (Value.bool true) := b1.out.cell 2 rfl
          have fb1_3 : w5.cell? ⟨w.heap.size + 1, 3, none⟩ = some (Value.int IntKind.i64 old.id) := b1.out.cell 3 rfl
          have fb1_4 : w5.cell? ⟨w.heap.size + 1, 4, none⟩ = some (Value.slice A3 old.cells.length c3) := b1.out.cell 4 rfl
          have fb1_5 : w5.cell? ⟨w.heap.size + 1, 5, none⟩ = some (Value.int IntKind.i64 now.id) := b1.out.cell 5 rfl
          have fb1_6 : w5.cell? ⟨w.heap.size + 1, 6, none⟩ = some (Value.slice A4 now.cells.length c4) := b1.out.cell 6 rfl
          have fb1_z := b1.out.frozen
          have fb2_0 : w5.cell? ⟨w.heap.size + 1 + 1, 0, none⟩ = some (Value.slice none 0 0) := b2.out.cell 0 rfl
          have fb2_1 : w5.cell? ⟨w.heap.size + 1 + 1, 1, none⟩ = some (Value.int IntKind.i64 0) := b2.out.cell 1 rfl
          have fb2_2 : w5.cell? ⟨w.heap.size + 1 + 1, 2, none⟩ = some (Value.slice none 0 0) := b2.out.cell 2 rfl
          have fb2_z := b2.out.frozen
          go_wp2_with fail
          refine bodyPost_retW (v := .tuple #[.agg #[Value.slice D1 x.cols.length d1, Value.int IntKind.i64 x.ver, Value.slice (some ⟨gT, 0, none⟩) x.tabs.length d2], .bool true]) (by simp [results, Try.results80, go_sem, fb0_0, fb0_1, fb0_2, fb0_z, fb1_0, fb1_1, fb1_2, fb1_3, fb1_4, fb1_5, fb1_6, fb1_z, fb2_0, fb2_1, fb2_2, fb2_z, x0, xz, hlt0, hne0, hnf0, hlt1, hne1, hnf1, hlt2, hne2, hnf2]) rfl ?_
          intro W hW
          obtain ⟨W6, hW9⟩ : ∃ z, z = w5.setCell ⟨gT, q, none⟩ (.slice AM ((rowPut (x.tabs[q]) now)).length cM) := ⟨_, rfl⟩
          rw [← hW9] at hW
          clear fb0_0 fb0_1 fb0_2 fb0_z fb1_0 fb1_1 fb1_2 fb1_3 fb1_4 fb1_5 fb1_6 fb1_z fb2_0 fb2_1 fb2_2 fb2_z x0 xz hlt0 hne0 hnf0 hlt1 hne1 hnf1 hlt2 hne2 hnf2
          have hX : Fr w5 W6 (fun k => k = gT) := by rw [hW9]; exact Fr.setCell (S := fun k => k = gT) (Fr.refl _ _) _ (fun _ => rfl) _
          have hT2 := Hd.mk (show tRows.R 68 W6 (fun k => ST k ∨ TM k) (.slice (some ⟨gT, 0, none⟩) x.tabs.length d2) (x.tabs.set q (rowPut (x.tabs[q]) now)) by
            rw [hW9]
            have h1 := H_store hH.out 0 (by decide) (.slice AM ((rowPut (x.tabs[q]) now)).length cM) rfl
            simp only [show tRows.sz = 1 from rfl, Nat.mul_one, Nat.add_zero] at h1
            exact H_back (x' := (rowPut (x.tabs[q]) now)) h1 (T := TM) (sl_O.2 ⟨_, rfl, R_setCell hM.out (fun h => HTG.out h) _⟩) (fun k hk => (HTM.out k hk).1) (fun k hk => .inl hk) (fun k hk => .inr hk))
          clear hW9
          have hG := Hd.mk ((Fr.of_below hB.out S).then_ hX (fun k h _ => by have h : k = gT := h; rw [h]; exact hgT.out.1))
          have z1_ := z1.out; have z2_ := z2.out; have z3_ := z3.out; have z4_ := z4.out; have z5_ := z5.out
          have b0 := Hd.mk (b0.out.fr hX (fun h => by have hlt_ := b0.out.lt; have qg := hgT.out; (try simp only at h); omega))
          have b1 := Hd.mk (b1.out.fr hX (fun h => by have hlt_ := b1.out.lt; have qg := hgT.out; (try simp only at h); omega))
          have b2 := Hd.mk (b2.out.fr hX (fun h => by have hlt_ := b2.out.lt; have qg := hgT.out; (try simp only at h); omega))
          have hN := Hd.mk (R_fr hN.out hX (fun k hk hl h => by have q_ : k ≠ gT := fun e => hNT.out k hk (e ▸ hgS.out); (try simp only at h); omega))
          have hz_ := hX.size
          clear hX hH hM
          have z6 := Hd.mk hz_; clear hz_
          have eF : Fr W6 W (fun k => k = w.heap.size + 1 + 1) := by rw [hW]; (repeat (first | with_reducible refine Fr.setCell (S := fun k => k = w.heap.size + 1 + 1) ?_ _ (fun _ => rfl) _)); exact Fr.refl _ _
          have HT2 := Hd.mk (show ∀ k, (ST k ∨ TM k) → (S k ∨ w.heap.size ≤ k) ∧ k ≠ w.heap.size + 1 + 1 from fun k hk => by have z1_ := z1.out; have z2_ := z2.out; have z3_ := z3.out; have z4_ := z4.out; have z5_ := z5.out; have z6_ := z6.out; rcases hk with hk | hk; (have := hST.out k hk; exact ⟨.inl this.1, by omega⟩); (have := (HTM.out k hk).2; exact ⟨this.1, this.2⟩))
          exact ⟨[Value.slice D1 x.cols.length d1, Value.int IntKind.i64 x.ver, Value.slice (some ⟨gT, 0, none⟩) x.tabs.length d2], by rw [HNB.out], by rw [HF.out]; exact store_O2 (R_fr hN.out eF (fun k hk _ h => by have := hSN.out k hk; (try simp only at h); omega)) (R_fr hT2.out eF (fun k hk _ h => (HT2.out k hk).2 h)) (by simp) (fun k hk => .inl (hSN.out k hk).1) (fun k hk => (HT2.out k hk).1) (fun k hk h2 => by rcases h2 with h2 | h2; exact hNT.out k hk h2; exact HNM.out k hk h2), hG.out.then_ eF (fun k h hl => by (try simp only at h); omega)⟩
        · rw [show rowAt (x.tabs[q]) now.id = ((x.tabs[q]).findIdx (fun r : Row => r.id == now.id) : Int) from h1]
          have HNO := Hd.mk (turn_no2 hqt HMD.out (has := true) now rfl h1)
          generalize (x.tabs[q]).findIdx (fun r : Row => r.id == now.id) = j at h2 ⊢
          clear h1
          have hj0 : (0 : Int) ≤ (j : Int) := by omega
          obtain ⟨hn_, hf_⟩ := turn_no (x := x) (y := ⟨(q : Int), _, _, old, now⟩) (HNO.out)
          have HNB := Hd.mk hn_; have HF := Hd.mk hf_; clear hn_ hf_
          have fb0_0 : w3.cell? ⟨w.heap.size, 0, none⟩ = some (Value.slice D1 x.cols.length d1) := b0.out.cell 0 rfl
          have fb0_1 : w3.cell? ⟨w.heap.size, 1, none⟩ = some (Value.int IntKind.i64 x.ver) := b0.out.cell 1 rfl
          have fb0_2 : w3.cell? ⟨w.heap.size, 2, none⟩ = some (Value.slice (some ⟨gT, 0, none⟩) x.tabs.length d2) := b0.out.cell 2 rfl
          have fb0_z := b0.out.frozen
          have fb1_0 : w3.cell? ⟨w.heap.size + 1, 0, none⟩ = some (Value.int IntKind.i64 (q : Int)) := b1.out.cell 0 rfl
          have fb1_1 : w3.cell? ⟨w.heap.size + 1, 1, none⟩ = some (Value.bool false) := b1.out.cell 1 rfl
          have fb1_2 : w3.cell? ⟨w.heap.size + 1, 2, none⟩ = some (Value.bool true) := b1.out.cell 2 rfl
          have fb1_3 : w3.cell? ⟨w.heap.size + 1, 3, none⟩ = some (Value.int IntKind.i64 old.id) := b1.out.cell 3 rfl
          have fb1_4 : w3.cell? ⟨w.heap.size + 1, 4, none⟩ = some (Value.slice A3 old.cells.length c3) := b1.out.cell 4 rfl
          have fb1_5 : w3.cell? ⟨w.heap.size + 1, 5, none⟩ = some (Value.int IntKind.i64 now.id) := b1.out.cell 5 rfl
          have fb1_6 : w3.cell? ⟨w.heap.size + 1, 6, none⟩ = some (Value.slice A4 now.cells.length c4) := b1.out.cell 6 rfl
          have fb1_z := b1.out.frozen
          have fb2_0 : w3.cell? ⟨w.heap.size + 1 + 1, 0, none⟩ = some (Value.slice none 0 0) := b2.out.cell 0 rfl
          have fb2_1 : w3.cell? ⟨w.heap.size + 1 + 1, 1, none⟩ = some (Value.int IntKind.i64 0) := b2.out.cell 1 rfl
          have fb2_2 : w3.cell? ⟨w.heap.size + 1 + 1, 2, none⟩ = some (Value.slice none 0 0) := b2.out.cell 2 rfl
          have fb2_z := b2.out.frozen
          go_wp2_with fail
          refine bodyPost_retW (v := .tuple #[.agg #[Value.slice D1 x.cols.length d1, Value.int IntKind.i64 x.ver, Value.slice (some ⟨gT, 0, none⟩) x.tabs.length d2], .bool false]) (by simp [results, Try.results80, go_sem, fb0_0, fb0_1, fb0_2, fb0_z, fb1_0, fb1_1, fb1_2, fb1_3, fb1_4, fb1_5, fb1_6, fb1_z, fb2_0, fb2_1, fb2_2, fb2_z]) rfl ?_
          intro W hW
          clear fb0_0 fb0_1 fb0_2 fb0_z fb1_0 fb1_1 fb1_2 fb1_3 fb1_4 fb1_5 fb1_6 fb1_z fb2_0 fb2_1 fb2_2 fb2_z
          have hz_ : w3.heap.size ≤ W.heap.size := by rw [hW]; simp
          have eF : Fr w3 W (fun k => k = w.heap.size + 1 + 1 ∨ w3.heap.size ≤ k) := by rw [hW]; (repeat (first | with_reducible refine Fr.setCell ?_ _ (fun _ => by simp <;> omega) _ | with_reducible refine Fr.alloc ?_ _ | with_reducible refine Fr.drew ?_)); exact Fr.refl _ _
          have z1_ := z1.out; have z2_ := z2.out; have z3_ := z3.out
          have hB := Hd.mk (((Fr.of_below hB.out (fun k => k = w.heap.size + 1 + 1 ∨ w3.heap.size ≤ k)).then_ eF (fun k hk _ => hk)).below (fun k hk => by have := hB.out.size; omega))
          have b0 := Hd.mk (b0.out.fr eF (fun h => by have hlt_ := b0.out.lt; (try simp only at h); omega))
          have b1 := Hd.mk (b1.out.fr eF (fun h => by have hlt_ := b1.out.lt; (try simp only at h); omega))
          have b2 := Hd.mk (show Blk W (w.heap.size + 1 + 1) #[Value.slice D1 x.cols.length d1, Value.int IntKind.i64 x.ver, Value.slice (some ⟨gT, 0, none⟩) x.tabs.length d2] 37 by rw [hW]; exact (Blk.all b2.out [Value.slice D1 x.cols.length d1, Value.int IntKind.i64 x.ver, Value.slice (some ⟨gT, 0, none⟩) x.tabs.length d2] rfl))
          have hN := Hd.mk (R_fr hN.out eF (fun k hk hl h => by have q_ := hSN.out k hk; (try simp only [rng] at hk); (try simp only at hk); (try simp only at h); omega))
          have hT := Hd.mk (R_fr hT.out eF (fun k hk hl h => by have q_ := hST.out k hk; (try simp only [rng] at hk); (try simp only at hk); (try simp only at h); omega))
          have hH := Hd.mk (H_frN hH.out eF (fun k hk hl h => by have q_ := hST.out k hk; (try simp only [rng] at hk); (try simp only at hk); (try simp only at h); omega))
          have hM := Hd.mk (R_fr hM.out eF (fun k hk hl h => by have q_ := (HTM.out k hk).2.2; have q2_ := HTB.out k hk; (try simp only [rng] at hk); (try simp only at hk); (try simp only at h); omega))
          clear hW eF
          have z4 := Hd.mk hz_; clear hz_
          exact ⟨[Value.slice D1 x.cols.length d1, Value.int IntKind.i64 x.ver, Value.slice (some ⟨gT, 0, none⟩) x.tabs.length d2], by rw [HNB.out], by rw [HF.out]; exact store_O2 hN.out hT.out rfl (fun k hk => .inl (hSN.out k hk).1) (fun k hk => .inl (hST.out k hk).1) hNT.out, Fr.of_below hB.out S⟩
    case true =>
      have fb0_0 : W1.cell? ⟨w.heap.size, 0, none⟩ = some (Value.slice D1 x.cols.length d1) := b0.out.cell 0 rfl
      have fb0_1 : W1.cell? ⟨w.heap.size, 1, none⟩ = some (Value.int IntKind.i64 x.ver) := b0.out.cell 1 rfl
      have fb0_2 : W1.cell? ⟨w.heap.size, 2, none⟩ = some (Value.slice D2 x.tabs.length d2) := b0.out.cell 2 rfl
      have fb0_z := b0.out.frozen
      have fb1_0 : W1.cell? ⟨w.heap.size + 1, 0, none⟩ = some (Value.int IntKind.i64 (q : Int)) := b1.out.cell 0 rfl
      have fb1_1 : W1.cell? ⟨w.heap.size + 1, 1, none⟩ = some (Value.bool true) := b1.out.cell 1 rfl
      have fb1_2 : W1.cell? ⟨w.heap.size + 1, 2, none⟩ = some (Value.bool has) := b1.out.cell 2 rfl
      have fb1_3 : W1.cell? ⟨w.heap.size + 1, 3, none⟩ = some (Value.int IntKind.i64 old.id) := b1.out.cell 3 rfl
      have fb1_4 : W1.cell? ⟨w.heap.size + 1, 4, none⟩ = some (Value.slice A3 old.cells.length c3) := b1.out.cell 4 rfl
      have fb1_5 : W1.cell? ⟨w.heap.size + 1, 5, none⟩ = some (Value.int IntKind.i64 now.id) := b1.out.cell 5 rfl
      have fb1_6 : W1.cell? ⟨w.heap.size + 1, 6, none⟩ = some (Value.slice A4 now.cells.length c4) := b1.out.cell 6 rfl
      have fb1_z := b1.out.frozen
      have fb2_0 : W1.cell? ⟨w.heap.size + 1 + 1, 0, none⟩ = some (Value.slice none 0 0) := b2.out.cell 0 rfl
      have fb2_1 : W1.cell? ⟨w.heap.size + 1 + 1, 1, none⟩ = some (Value.int IntKind.i64 0) := b2.out.cell 1 rfl
      have fb2_2 : W1.cell? ⟨w.heap.size + 1 + 1, 2, none⟩ = some (Value.slice none 0 0) := b2.out.cell 2 rfl
      have fb2_z := b2.out.frozen
      go_wp2_with fail
      clear fb0_0 fb0_1 fb0_2 fb0_z fb1_0 fb1_1 fb1_2 fb1_3 fb1_4 fb1_5 fb1_6 fb1_z fb2_0 fb2_1 fb2_2 fb2_z
      apply calls_gen; intro W2 hW
      have hz_ : W1.heap.size ≤ W2.heap.size := by rw [hW]; simp
      have hE : Below W1.heap.size W1 W2 := by rw [hW]; (repeat (first | with_reducible refine below_alloc ?_ _ | with_reducible refine below_drew ?_)); exact Below.refl _ _
      have hB := Hd.mk (below_then hB.out hE)
      have b0 := Hd.mk (b0.out.below hE)
      have b1 := Hd.mk (b1.out.below hE)
      have b2 := Hd.mk (b2.out.below hE)
      have hN := Hd.mk (R_below hN.out hE)
      have hT := Hd.mk (R_below hT.out hE)
      clear hW hE
      have z2 := Hd.mk hz_; clear hz_
      refine (spec_l7There x _ (q : Int) old _ _ (store_K2 hN.out hT.out rfl) (tRow.K_below hB.out HO.out)).mono ?_
      rintro e w3 ⟨rfl, hX⟩
      have b0 := Hd.mk (b0.out.below hX)
      have b1 := Hd.mk (b1.out.below hX)
      have b2 := Hd.mk (b2.out.below hX)
      have hN := Hd.mk (R_below hN.out hX)
      have hT := Hd.mk (R_below hT.out hX)
      have hB := Hd.mk (below_then hB.out hX)
      have hz_ := hX.size
      clear hX
      have z3 := Hd.mk hz_; clear hz_
      rw [HHB.out, tabAt_q hqt, Bool.true_and]
      cases hb : hasRow x.tabs[q] old
      · obtain ⟨hn_, hf_⟩ := turn_no (x := x) (y := ⟨(q : Int), _, _, old, now⟩) (turn_no1 (had := true) hqt old has now rfl hb)
        have HNB := Hd.mk hn_; have HF := Hd.mk hf_; clear hn_ hf_
        have fb0_0 : w3.cell? ⟨w.heap.size, 0, none⟩ = some (Value.slice D1 x.cols.length d1) := b0.out.cell 0 rfl
        have fb0_1 : w3.cell? ⟨w.heap.size, 1, none⟩ = some (Value.int IntKind.i64 x.ver) := b0.out.cell 1 rfl
        have fb0_2 : w3.cell? ⟨w.heap.size, 2, none⟩ = some (Value.slice D2 x.tabs.length d2) := b0.out.cell 2 rfl
        have fb0_z := b0.out.frozen
        have fb1_0 : w3.cell? ⟨w.heap.size + 1, 0, none⟩ = some (Value.int IntKind.i64 (q : Int)) := b1.out.cell 0 rfl
        have fb1_1 : w3.cell? ⟨w.heap.size + 1, 1, none⟩ = some (Value.bool true) := b1.out.cell 1 rfl
        have fb1_2 : w3.cell? ⟨w.heap.size + 1, 2, none⟩ = some (Value.bool has) := b1.out.cell 2 rfl
        have fb1_3 : w3.cell? ⟨w.heap.size + 1, 3, none⟩ = some (Value.int IntKind.i64 old.id) := b1.out.cell 3 rfl
        have fb1_4 : w3.cell? ⟨w.heap.size + 1, 4, none⟩ = some (Value.slice A3 old.cells.length c3) := b1.out.cell 4 rfl
        have fb1_5 : w3.cell? ⟨w.heap.size + 1, 5, none⟩ = some (Value.int IntKind.i64 now.id) := b1.out.cell 5 rfl
        have fb1_6 : w3.cell? ⟨w.heap.size + 1, 6, none⟩ = some (Value.slice A4 now.cells.length c4) := b1.out.cell 6 rfl
        have fb1_z := b1.out.frozen
        have fb2_0 : w3.cell? ⟨w.heap.size + 1 + 1, 0, none⟩ = some (Value.slice none 0 0) := b2.out.cell 0 rfl
        have fb2_1 : w3.cell? ⟨w.heap.size + 1 + 1, 1, none⟩ = some (Value.int IntKind.i64 0) := b2.out.cell 1 rfl
        have fb2_2 : w3.cell? ⟨w.heap.size + 1 + 1, 2, none⟩ = some (Value.slice none 0 0) := b2.out.cell 2 rfl
        have fb2_z := b2.out.frozen
        go_wp2_with fail
        refine bodyPost_retW (v := .tuple #[.agg #[Value.slice D1 x.cols.length d1, Value.int IntKind.i64 x.ver, Value.slice D2 x.tabs.length d2], .bool false]) (by simp [results, Try.results80, go_sem, fb0_0, fb0_1, fb0_2, fb0_z, fb1_0, fb1_1, fb1_2, fb1_3, fb1_4, fb1_5, fb1_6, fb1_z, fb2_0, fb2_1, fb2_2, fb2_z]) rfl ?_
        intro W hW
        clear fb0_0 fb0_1 fb0_2 fb0_z fb1_0 fb1_1 fb1_2 fb1_3 fb1_4 fb1_5 fb1_6 fb1_z fb2_0 fb2_1 fb2_2 fb2_z
        have hz_ : w3.heap.size ≤ W.heap.size := by rw [hW]; simp
        have eF : Fr w3 W (fun k => k = w.heap.size + 1 + 1 ∨ w3.heap.size ≤ k) := by rw [hW]; (repeat (first | with_reducible refine Fr.setCell ?_ _ (fun _ => by simp <;> omega) _ | with_reducible refine Fr.alloc ?_ _ | with_reducible refine Fr.drew ?_)); exact Fr.refl _ _
        have z1_ := z1.out; have z2_ := z2.out; have z3_ := z3.out
        have hB := Hd.mk (((Fr.of_below hB.out (fun k => k = w.heap.size + 1 + 1 ∨ w3.heap.size ≤ k)).then_ eF (fun k hk _ => hk)).below (fun k hk => by have := hB.out.size; omega))
        have b0 := Hd.mk (b0.out.fr eF (fun h => by have hlt_ := b0.out.lt; (try simp only at h); omega))
        have b1 := Hd.mk (b1.out.fr eF (fun h => by have hlt_ := b1.out.lt; (try simp only at h); omega))
        have b2 := Hd.mk (show Blk W (w.heap.size + 1 + 1) #[Value.slice D1 x.cols.length d1, Value.int IntKind.i64 x.ver, Value.slice D2 x.tabs.length d2] 37 by rw [hW]; exact (Blk.all b2.out [Value.slice D1 x.cols.length d1, Value.int IntKind.i64 x.ver, Value.slice D2 x.tabs.length d2] rfl))
        have hN := Hd.mk (R_fr hN.out eF (fun k hk hl h => by have q_ := hSN.out k hk; (try simp only [rng] at hk); (try simp only at hk); (try simp only at h); omega))
        have hT := Hd.mk (R_fr hT.out eF (fun k hk hl h => by have q_ := hST.out k hk; (try simp only [rng] at hk); (try simp only at hk); (try simp only at h); omega))
        clear hW eF
        have z4 := Hd.mk hz_; clear hz_
        exact ⟨[Value.slice D1 x.cols.length d1, Value.int IntKind.i64 x.ver, Value.slice D2 x.tabs.length d2], by rw [HNB.out], by rw [HF.out]; exact store_O2 hN.out hT.out rfl (fun k hk => .inl (hSN.out k hk).1) (fun k hk => .inl (hST.out k hk).1) hNT.out, Fr.of_below hB.out S⟩
      · have HCA := Hd.mk (turn_a1 hb); clear hb
        have HMD := Hd.mk (sw_d1 x.tabs[q] old)
        obtain ⟨SI, cI, hH, hO0⟩ := R_H hT.out (List.getElem?_eq_getElem hqt)
        obtain ⟨v0, rfl, hM⟩ := sl_O.1 hO0
        clear hO0
        obtain ⟨AM, cM, rfl, hcM, _⟩ := R_C hM
        obtain ⟨gT, capT, hgT, hcp, hcp2, hgST, hgl, _, hcell, hfz⟩ := H_cells hH (by decide)
        injection hgT with hg1 _ hg2
        subst hg1; subst hg2
        have hgT := Hd.mk (hST.out gT hgST); have hgS := Hd.mk hgST; clear hgST hgl
        have x0 := hcell 0 _ rfl
        simp only [show tRows.sz = 1 from rfl, Nat.mul_one, Nat.add_zero] at x0
        clear hcell hfz
        have hSI := Hd.mk (H_sub hH)
        have hH := Hd.mk hH
        have hM := Hd.mk hM
        have hbq := Hd.mk (show bulkRowS x.tabs[q] ≤ 2000000 by
          have := bulkL_mem bulkRowS (List.getElem_mem hqt)
          have := HL.out
          simp only [bulkStore, bulkRowSS] at this
          omega)
        have hmq := (R_Cv hM.out).1
        have fb0_0 : w3.cell? ⟨w.heap.size, 0, none⟩ = some (Value.slice D1 x.cols.length d1) := b0.out.cell 0 rfl
        have fb0_1 : w3.cell? ⟨w.heap.size, 1, none⟩ = some (Value.int IntKind.i64 x.ver) := b0.out.cell 1 rfl
        have fb0_2 : w3.cell? ⟨w.heap.size, 2, none⟩ = some (Value.slice (some ⟨gT, 0, none⟩) x.tabs.length d2) := b0.out.cell 2 rfl
        have fb0_z := b0.out.frozen
        have fb1_0 : w3.cell? ⟨w.heap.size + 1, 0, none⟩ = some (Value.int IntKind.i64 (q : Int)) := b1.out.cell 0 rfl
        have fb1_1 : w3.cell? ⟨w.heap.size + 1, 1, none⟩ = some (Value.bool true) := b1.out.cell 1 rfl
        have fb1_2 : w3.cell? ⟨w.heap.size + 1, 2, none⟩ = some (Value.bool has) := b1.out.cell 2 rfl
        have fb1_3 : w3.cell? ⟨w.heap.size + 1, 3, none⟩ = some (Value.int IntKind.i64 old.id) := b1.out.cell 3 rfl
        have fb1_4 : w3.cell? ⟨w.heap.size + 1, 4, none⟩ = some (Value.slice A3 old.cells.length c3) := b1.out.cell 4 rfl
        have fb1_5 : w3.cell? ⟨w.heap.size + 1, 5, none⟩ = some (Value.int IntKind.i64 now.id) := b1.out.cell 5 rfl
        have fb1_6 : w3.cell? ⟨w.heap.size + 1, 6, none⟩ = some (Value.slice A4 now.cells.length c4) := b1.out.cell 6 rfl
        have fb1_z := b1.out.frozen
        have fb2_0 : w3.cell? ⟨w.heap.size + 1 + 1, 0, none⟩ = some (Value.slice none 0 0) := b2.out.cell 0 rfl
        have fb2_1 : w3.cell? ⟨w.heap.size + 1 + 1, 1, none⟩ = some (Value.int IntKind.i64 0) := b2.out.cell 1 rfl
        have fb2_2 : w3.cell? ⟨w.heap.size + 1 + 1, 2, none⟩ = some (Value.slice none 0 0) := b2.out.cell 2 rfl
        have fb2_z := b2.out.frozen
        go_wp2_with fail
        clear fb0_0 fb0_1 fb0_2 fb0_z fb1_0 fb1_1 fb1_2 fb1_3 fb1_4 fb1_5 fb1_6 fb1_z fb2_0 fb2_1 fb2_2 fb2_z
        clear x0
        apply calls_gen; intro W4 hW
        have hz_ : w3.heap.size ≤ W4.heap.size := by rw [hW]; simp
        have hE : Below w3.heap.size w3 W4 := by rw [hW]; (repeat (first | with_reducible refine below_alloc ?_ _ | with_reducible refine below_drew ?_)); exact Below.refl _ _
        have hB := Hd.mk (below_then hB.out hE)
        have b0 := Hd.mk (b0.out.below hE)
        have b1 := Hd.mk (b1.out.below hE)
        have b2 := Hd.mk (b2.out.below hE)
        have hN := Hd.mk (R_below hN.out hE)
        have hT := Hd.mk (R_below hT.out hE)
        have hH := Hd.mk (H_below hH.out hE)
        have hM := Hd.mk (R_below hM.out hE)
        clear hW hE
        have z4 := Hd.mk hz_; clear hz_
        refine (spec_RowDrop _ _ x.tabs[q] old.id _ (R_Cv hM.out) (by have := hbq.out; omega)).mono ?_
        rintro e w5 ⟨v5, rfl, hM5, hX⟩
        have b0 := Hd.mk (b0.out.below hX)
        have b1 := Hd.mk (b1.out.below hX)
        have b2 := Hd.mk (b2.out.below hX)
        have hN := Hd.mk (R_below hN.out hX)
        have hT := Hd.mk (R_below hT.out hX)
        have hH := Hd.mk (H_below hH.out hX)
        have hM := Hd.mk (R_below hM.out hX)
        have hB := Hd.mk (below_then hB.out hX)
        have hz_ := hX.size
        clear hX
        have z5 := Hd.mk hz_; clear hz_
        clear hM
        replace hM5 := R_bound hM5
        obtain ⟨TM, hTM⟩ : ∃ z : Nat → Prop, z = (fun k => W4.heap.size ≤ k ∧ k < w5.heap.size) := ⟨_, rfl⟩
        rw [← hTM] at hM5
        obtain ⟨AM, cM, hv_, hcM, _⟩ := R_C hM5
        subst hv_
        have hM := Hd.mk hM5; clear hM5
        have HTM := Hd.mk (show ∀ k, TM k → (SI k ∨ ¬ ST k) ∧ (S k ∨ w.heap.size ≤ k) ∧ k ≠ w.heap.size + 1 + 1 by rw [hTM]; intro k hk; have z1_ := z1.out; have z2_ := z2.out; have z3_ := z3.out; have z4_ := z4.out; have z5_ := z5.out; exact ⟨.inr (fun hs => by have := hST.out k hs; omega), .inr (by omega), by omega⟩)
        have HTB := Hd.mk (show ∀ k, TM k → k < w5.heap.size by rw [hTM]; intro k hk; exact hk.2)
        have HTG := Hd.mk (show ¬ TM gT by rw [hTM]; intro hk; have z1_ := z1.out; have z2_ := z2.out; have z3_ := z3.out; have z4_ := z4.out; have z5_ := z5.out; have := hgT.out; omega)
        have HNM := Hd.mk (show ∀ k, SN k → ¬ TM k by rw [hTM]; intro k h1 hk; have z1_ := z1.out; have z2_ := z2.out; have z3_ := z3.out; have z4_ := z4.out; have z5_ := z5.out; have := hSN.out k h1; omega)
        clear hTM
        have hmq := (R_Cv hM.out).1
        have hbm := Hd.mk (Nat.le_trans (bulk_rowDrop x.tabs[q] old.id) hbq.out)
        cases has
        · have HCB := Hd.mk (sw_b0 x.tabs[q] true old now)
          have HME := Hd.mk (sw_m0 HMD.out now)
          obtain ⟨hn_, hf_⟩ := turn_yes hqt HHB.out HCA.out HCB.out HME.out
          have HNB := Hd.mk hn_; have HF := Hd.mk hf_; clear hn_ hf_
          obtain ⟨gT2, capT2, hgT2, _, _, _, hgl2, hngI, hcell, hfz⟩ := H_cells hH.out (by decide)
          injection hgT2 with hg1 _ hg2
          injection hg1 with hg1
          injection hg1 with hg1 _ _
          subst hg1; subst hg2
          have x0 := hcell 0 _ rfl
          simp only [show tRows.sz = 1 from rfl, Nat.mul_one, Nat.add_zero] at x0
          have xz : w5.frozen? ⟨gT, q, none⟩ = false := hfz q
          clear hcell hfz
          have z1_ := z1.out; have z2_ := z2.out; have z3_ := z3.out; have z4_ := z4.out; have z5_ := z5.out
          have hlt0 : gT < w.heap.size := by have := hgT.out; omega
          have hne0 : ¬ w.heap.size = gT := by have := hgT.out; omega
          have hnf0 : ¬ gT = w.heap.size := by have := hgT.out; omega
          have hlt1 : gT < w.heap.size + 1 := by have := hgT.out; omega
          have hne1 : ¬ w.heap.size + 1 = gT := by have := hgT.out; omega
          have hnf1 : ¬ gT = w.heap.size + 1 := by have := hgT.out; omega
          have hlt2 : gT < w.heap.size + 1 + 1 := by have := hgT.out; omega
          have hne2 : ¬ w.heap.size + 1 + 1 = gT := by have := hgT.out; omega
          have hnf2 : ¬ gT = w.heap.size + 1 + 1 := by have := hgT.out; omega
          clear z1_ z2_ z3_ z4_ z5_
          have fb0_0 : w5.cell? ⟨w.heap.size, 0, none⟩ = some (Value.slice D1 x.cols.length d1) := b0.out.cell 0 rfl
          have fb0_1 : w5.cell? ⟨w.heap.size, 1, none⟩ = some (Value.int IntKind.i64 x.ver) := b0.out.cell 1 rfl
          have fb0_2 : w5.cell? ⟨w.heap.size, 2, none⟩ = some (Value.slice (some ⟨gT, 0, none⟩) x.tabs.length d2) := b0.out.cell 2 rfl
          have fb0_z := b0.out.frozen
          have fb1_0 : w5.cell? ⟨w.heap.size + 1, 0, none⟩ = some (Value.int IntKind.i64 (q : Int)) := b1.out.cell 0 rfl
          have fb1_1 : w5.cell? ⟨w.heap.size + 1, 1, none⟩ = some (Value.bool true) := b1.out.cell 1 rfl
          have fb1_2 : w5.cell? ⟨w.heap.size + 1, 2, none⟩ = some (Value.bool false) := b1.out.cell 2 rfl
          have fb1_3 : w5.cell? ⟨w.heap.size + 1, 3, none⟩ = some (Value.int IntKind.i64 old.id) := b1.out.cell 3 rfl
          have fb1_4 : w5.cell? ⟨w.heap.size + 1, 4, none⟩ = some (Value.slice A3 old.cells.length c3) := b1.out.cell 4 rfl
          have fb1_5 : w5.cell? ⟨w.heap.size + 1, 5, none⟩ = some (Value.int IntKind.i64 now.id) := b1.out.cell 5 rfl
          have fb1_6 : w5.cell? ⟨w.heap.size + 1, 6, none⟩ = some (Value.slice A4 now.cells.length c4) := b1.out.cell 6 rfl
          have fb1_z := b1.out.frozen
          have fb2_0 : w5.cell? ⟨w.heap.size + 1 + 1, 0, none⟩ = some (Value.slice none 0 0) := b2.out.cell 0 rfl
          have fb2_1 : w5.cell? ⟨w.heap.size + 1 + 1, 1, none⟩ = some (Value.int IntKind.i64 0) := b2.out.cell 1 rfl
          have fb2_2 : w5.cell? ⟨w.heap.size + 1 + 1, 2, none⟩ = some (Value.slice none 0 0) := b2.out.cell 2 rfl
          have fb2_z := b2.out.frozen
          go_wp2_with fail
          refine bodyPost_retW (v := .tuple #[.agg #[Value.slice D1 x.cols.length d1, Value.int IntKind.i64 x.ver, Value.slice (some ⟨gT, 0, none⟩) x.tabs.length d2], .bool true]) (by simp [results, Try.results80, go_sem, fb0_0, fb0_1, fb0_2, fb0_z, fb1_0, fb1_1, fb1_2, fb1_3, fb1_4, fb1_5, fb1_6, fb1_z, fb2_0, fb2_1, fb2_2, fb2_z, x0, xz, hlt0, hne0, hnf0, hlt1, hne1, hnf1, hlt2, hne2, hnf2]) rfl ?_
          intro W hW
          obtain ⟨W6, hW9⟩ : ∃ z, z = w5.setCell ⟨gT, q, none⟩ (.slice AM ((rowDrop x.tabs[q] old.id)).length cM) := ⟨_, rfl⟩
          rw [← hW9] at hW
          clear fb0_0 fb0_1 fb0_2 fb0_z fb1_0 fb1_1 fb1_2 fb1_3 fb1_4 fb1_5 fb1_6 fb1_z fb2_0 fb2_1 fb2_2 fb2_z x0 xz hlt0 hne0 hnf0 hlt1 hne1 hnf1 hlt2 hne2 hnf2
          have hX : Fr w5 W6 (fun k => k = gT) := by rw [hW9]; exact Fr.setCell (S := fun k => k = gT) (Fr.refl _ _) _ (fun _ => rfl) _
          have hT2 := Hd.mk (show tRows.R 68 W6 (fun k => ST k ∨ TM k) (.slice (some ⟨gT, 0, none⟩) x.tabs.length d2) (x.tabs.set q (rowDrop x.tabs[q] old.id)) by
            rw [hW9]
            have h1 := H_store hH.out 0 (by decide) (.slice AM ((rowDrop x.tabs[q] old.id)).length cM) rfl
            simp only [show tRows.sz = 1 from rfl, Nat.mul_one, Nat.add_zero] at h1
            exact H_back (x' := (rowDrop x.tabs[q] old.id)) h1 (T := TM) (sl_O.2 ⟨_, rfl, R_setCell hM.out (fun h => HTG.out h) _⟩) (fun k hk => (HTM.out k hk).1) (fun k hk => .inl hk) (fun k hk => .inr hk))
          clear hW9
          have hG := Hd.mk ((Fr.of_below hB.out S).then_ hX (fun k h _ => by have h : k = gT := h; rw [h]; exact hgT.out.1))
          have z1_ := z1.out; have z2_ := z2.out; have z3_ := z3.out; have z4_ := z4.out; have z5_ := z5.out
          have b0 := Hd.mk (b0.out.fr hX (fun h => by have hlt_ := b0.out.lt; have qg := hgT.out; (try simp only at h); omega))
          have b1 := Hd.mk (b1.out.fr hX (fun h => by have hlt_ := b1.out.lt; have qg := hgT.out; (try simp only at h); omega))
          have b2 := Hd.mk (b2.out.fr hX (fun h => by have hlt_ := b2.out.lt; have qg := hgT.out; (try simp only at h); omega))
          have hN := Hd.mk (R_fr hN.out hX (fun k hk hl h => by have q_ : k ≠ gT := fun e => hNT.out k hk (e ▸ hgS.out); (try simp only at h); omega))
          have hz_ := hX.size
          clear hX hH hM
          have z6 := Hd.mk hz_; clear hz_
          have eF : Fr W6 W (fun k => k = w.heap.size + 1 + 1) := by rw [hW]; (repeat (first | with_reducible refine Fr.setCell (S := fun k => k = w.heap.size + 1 + 1) ?_ _ (fun _ => rfl) _)); exact Fr.refl _ _
          have HT2 := Hd.mk (show ∀ k, (ST k ∨ TM k) → (S k ∨ w.heap.size ≤ k) ∧ k ≠ w.heap.size + 1 + 1 from fun k hk => by have z1_ := z1.out; have z2_ := z2.out; have z3_ := z3.out; have z4_ := z4.out; have z5_ := z5.out; have z6_ := z6.out; rcases hk with hk | hk; (have := hST.out k hk; exact ⟨.inl this.1, by omega⟩); (have := (HTM.out k hk).2; exact ⟨this.1, this.2⟩))
          exact ⟨[Value.slice D1 x.cols.length d1, Value.int IntKind.i64 x.ver, Value.slice (some ⟨gT, 0, none⟩) x.tabs.length d2], by rw [HNB.out], by rw [HF.out]; exact store_O2 (R_fr hN.out eF (fun k hk _ h => by have := hSN.out k hk; (try simp only at h); omega)) (R_fr hT2.out eF (fun k hk _ h => (HT2.out k hk).2 h)) (by simp) (fun k hk => .inl (hSN.out k hk).1) (fun k hk => (HT2.out k hk).1) (fun k hk h2 => by rcases h2 with h2 | h2; exact hNT.out k hk h2; exact HNM.out k hk h2), hG.out.then_ eF (fun k h hl => by (try simp only at h); omega)⟩
        · have fb0_0 : w5.cell? ⟨w.heap.size, 0, none⟩ = some (Value.slice D1 x.cols.length d1) := b0.out.cell 0 rfl
          have fb0_1 : w5.cell? ⟨w.heap.size, 1, none⟩ = some (Value.int IntKind.i64 x.ver) := b0.out.cell 1 rfl
          have fb0_2 : w5.cell? ⟨w.heap.size, 2, none⟩ = some (Value.slice (some ⟨gT, 0, none⟩) x.tabs.length d2) := b0.out.cell 2 rfl
          have fb0_z := b0.out.frozen
          have fb1_0 : w5.cell? ⟨w.heap.size + 1, 0, none⟩ = some (Value.int IntKind.i64 (q : Int)) := b1.out.cell 0 rfl
          have fb1_1 : w5.cell? ⟨w.heap.size + 1, 1, none⟩ = some (Value.bool true) := b1.out.cell 1 rfl
          have fb1_2 : w5.cell? ⟨w.heap.size + 1, 2, none⟩ = some (Value.bool true) := b1.out.cell 2 rfl
          have fb1_3 : w5.cell? ⟨w.heap.size + 1, 3, none⟩ = some (Value.int IntKind.i64 old.id) := b1.out.cell 3 rfl
          have fb1_4 : w5.cell? ⟨w.heap.size + 1, 4, none⟩ = some (Value.slice A3 old.cells.length c3) := b1.out.cell 4 rfl
          have fb1_5 : w5.cell? ⟨w.heap.size + 1, 5, none⟩ = some (Value.int IntKind.i64 now.id) := b1.out.cell 5 rfl
          have fb1_6 : w5.cell? ⟨w.heap.size + 1, 6, none⟩ = some (Value.slice A4 now.cells.length c4) := b1.out.cell 6 rfl
          have fb1_z := b1.out.frozen
          have fb2_0 : w5.cell? ⟨w.heap.size + 1 + 1, 0, none⟩ = some (Value.slice none 0 0) := b2.out.cell 0 rfl
          have fb2_1 : w5.cell? ⟨w.heap.size + 1 + 1, 1, none⟩ = some (Value.int IntKind.i64 0) := b2.out.cell 1 rfl
          have fb2_2 : w5.cell? ⟨w.heap.size + 1 + 1, 2, none⟩ = some (Value.slice none 0 0) := b2.out.cell 2 rfl
          have fb2_z := b2.out.frozen
          go_wp2_with fail
          clear fb0_0 fb0_1 fb0_2 fb0_z fb1_0 fb1_1 fb1_2 fb1_3 fb1_4 fb1_5 fb1_6 fb1_z fb2_0 fb2_1 fb2_2 fb2_z
          apply calls_gen; intro W6 hW
          have hz_ : w5.heap.size ≤ W6.heap.size := by rw [hW]; simp
          have hE : Below w5.heap.size w5 W6 := by rw [hW]; (repeat (first | with_reducible refine below_alloc ?_ _ | with_reducible refine below_drew ?_)); exact Below.refl _ _
          have hB := Hd.mk (below_then hB.out hE)
          have b0 := Hd.mk (b0.out.below hE)
          have b1 := Hd.mk (b1.out.below hE)
          have b2 := Hd.mk (b2.out.below hE)
          have hN := Hd.mk (R_below hN.out hE)
          have hT := Hd.mk (R_below hT.out hE)
          have hH := Hd.mk (H_below hH.out hE)
          have hM := Hd.mk (R_below hM.out hE)
          clear hW hE
          have z6 := Hd.mk hz_; clear hz_
          refine (spec_RowAt _ _ ((rowDrop x.tabs[q] old.id)) now.id _ (R_Cv hM.out)).mono ?_
          rintro e w7 ⟨rfl, hX⟩
          have b0 := Hd.mk (b0.out.below hX)
          have b1 := Hd.mk (b1.out.below hX)
          have b2 := Hd.mk (b2.out.below hX)
          have hN := Hd.mk (R_below hN.out hX)
          have hT := Hd.mk (R_below hT.out hX)
          have hH := Hd.mk (H_below hH.out hX)
          have hM := Hd.mk (R_below hM.out hX)
          have hB := Hd.mk (below_then hB.out hX)
          have hz_ := hX.size
          clear hX
          have z7 := Hd.mk hz_; clear hz_
          rcases idxF_cases (fun r : Row => r.id == now.id) ((rowDrop x.tabs[q] old.id)) with ⟨h1, h2⟩ | ⟨h1, h2⟩
          · rw [show rowAt ((rowDrop x.tabs[q] old.id)) now.id = -1 from h1]
            have HCB := Hd.mk (sw_b1 HMD.out now h1)
            clear h1 h2
            have fb0_0 : w7.cell? ⟨w.heap.size, 0, none⟩ = some (Value.slice D1 x.cols.length d1) := b0.out.cell 0 rfl
            have fb0_1 : w7.cell? ⟨w.heap.size, 1, none⟩ = some (Value.int IntKind.i64 x.ver) := b0.out.cell 1 rfl
            have fb0_2 : w7.cell? ⟨w.heap.size, 2, none⟩ = some (Value.slice (some ⟨gT, 0, none⟩) x.tabs.length d2) := b0.out.cell 2 rfl
            have fb0_z := b0.out.frozen
            have fb1_0 : w7.cell? ⟨w.heap.size + 1, 0, none⟩ = some (Value.int IntKind.i64 (q : Int)) := b1.out.cell 0 rfl
            have fb1_1 : w7.cell? ⟨w.heap.size + 1, 1, none⟩ = some (Value.bool true) := b1.out.cell 1 rfl
            have fb1_2 : w7.cell? ⟨w.heap.size + 1, 2, none⟩ = some (Value.bool true) := b1.out.cell 2 rfl
            have fb1_3 : w7.cell? ⟨w.heap.size + 1, 3, none⟩ = some (Value.int IntKind.i64 old.id) := b1.out.cell 3 rfl
            have fb1_4 : w7.cell? ⟨w.heap.size + 1, 4, none⟩ = some (Value.slice A3 old.cells.length c3) := b1.out.cell 4 rfl
            have fb1_5 : w7.cell? ⟨w.heap.size + 1, 5, none⟩ = some (Value.int IntKind.i64 now.id) := b1.out.cell 5 rfl
            have fb1_6 : w7.cell? ⟨w.heap.size + 1, 6, none⟩ = some (Value.slice A4 now.cells.length c4) := b1.out.cell 6 rfl
            have fb1_z := b1.out.frozen
            have fb2_0 : w7.cell? ⟨w.heap.size + 1 + 1, 0, none⟩ = some (Value.slice none 0 0) := b2.out.cell 0 rfl
            have fb2_1 : w7.cell? ⟨w.heap.size + 1 + 1, 1, none⟩ = some (Value.int IntKind.i64 0) := b2.out.cell 1 rfl
            have fb2_2 : w7.cell? ⟨w.heap.size + 1 + 1, 2, none⟩ = some (Value.slice none 0 0) := b2.out.cell 2 rfl
            have fb2_z := b2.out.frozen
            go_wp2_with fail
            clear fb0_0 fb0_1 fb0_2 fb0_z fb1_0 fb1_1 fb1_2 fb1_3 fb1_4 fb1_5 fb1_6 fb1_z fb2_0 fb2_1 fb2_2 fb2_z
            apply calls_gen; intro W8 hW
            have hz_ : w7.heap.size ≤ W8.heap.size := by rw [hW]; simp
            have hE : Below w7.heap.size w7 W8 := by rw [hW]; (repeat (first | with_reducible refine below_alloc ?_ _ | with_reducible refine below_drew ?_)); exact Below.refl _ _
            have hB := Hd.mk (below_then hB.out hE)
            have b0 := Hd.mk (b0.out.below hE)
            have b1 := Hd.mk (b1.out.below hE)
            have b2 := Hd.mk (b2.out.below hE)
            have hN := Hd.mk (R_below hN.out hE)
            have hT := Hd.mk (R_below hT.out hE)
            have hH := Hd.mk (H_below hH.out hE)
            have hM := Hd.mk (R_below hM.out hE)
            clear hW hE
            have z8 := Hd.mk hz_; clear hz_
            refine (spec_RowPut _ _ ((rowDrop x.tabs[q] old.id)) now _ _ (R_Cv hM.out) (tRow.K_below hB.out HW.out) (by have := hbm.out; omega) (by omega)).mono ?_
            rintro e w9 ⟨v6, rfl, hM6, hX⟩
            have b0 := Hd.mk (b0.out.below hX)
            have b1 := Hd.mk (b1.out.below hX)
            have b2 := Hd.mk (b2.out.below hX)
            have hN := Hd.mk (R_below hN.out hX)
            have hT := Hd.mk (R_below hT.out hX)
            have hH := Hd.mk (H_below hH.out hX)
            have hM := Hd.mk (R_below hM.out hX)
            have hB := Hd.mk (below_then hB.out hX)
            have hz_ := hX.size
            clear hX
            have z9 := Hd.mk hz_; clear hz_
            clear hM
            replace hM6 := R_bound hM6
            obtain ⟨TM, hTM⟩ : ∃ z : Nat → Prop, z = (fun k => W8.heap.size ≤ k ∧ k < w9.heap.size) := ⟨_, rfl⟩
            rw [← hTM] at hM6
            obtain ⟨AM, cM, hv_, hcM, _⟩ := R_C hM6
            subst hv_
            have hM := Hd.mk hM6; clear hM6
            have HTM := Hd.mk (show ∀ k, TM k → (SI k ∨ ¬ ST k) ∧ (S k ∨ w.heap.size ≤ k) ∧ k ≠ w.heap.size + 1 + 1 by rw [hTM]; intro k hk; have z1_ := z1.out; have z2_ := z2.out; have z3_ := z3.out; have z4_ := z4.out; have z5_ := z5.out; have z6_ := z6.out; have z7_ := z7.out; have z8_ := z8.out; have z9_ := z9.out; exact ⟨.inr (fun hs => by have := hST.out k hs; omega), .inr (by omega), by omega⟩)
            have HTB := Hd.mk (show ∀ k, TM k → k < w9.heap.size by rw [hTM]; intro k hk; exact hk.2)
            have HTG := Hd.mk (show ¬ TM gT by rw [hTM]; intro hk; have z1_ := z1.out; have z2_ := z2.out; have z3_ := z3.out; have z4_ := z4.out; have z5_ := z5.out; have z6_ := z6.out; have z7_ := z7.out; have z8_ := z8.out; have z9_ := z9.out; have := hgT.out; omega)
            have HNM := Hd.mk (show ∀ k, SN k → ¬ TM k by rw [hTM]; intro k h1 hk; have z1_ := z1.out; have z2_ := z2.out; have z3_ := z3.out; have z4_ := z4.out; have z5_ := z5.out; have z6_ := z6.out; have z7_ := z7.out; have z8_ := z8.out; have z9_ := z9.out; have := hSN.out k h1; omega)
            clear hTM
            have hmq := (R_Cv hM.out).1
            have HME := Hd.mk (sw_m1 HMD.out now)
            obtain ⟨hn_, hf_⟩ := turn_yes hqt HHB.out HCA.out HCB.out HME.out
            have HNB := Hd.mk hn_; have HF := Hd.mk hf_; clear hn_ hf_
            obtain ⟨gT2, capT2, hgT2, _, _, _, hgl2, hngI, hcell, hfz⟩ := H_cells hH.out (by decide)
            injection hgT2 with hg1 _ hg2
            injection hg1 with hg1
            injection hg1 with hg1 _ _
            subst hg1; subst hg2
            have x0 := hcell 0 _ rfl
            simp only [show tRows.sz = 1 from rfl, Nat.mul_one, Nat.add_zero] at x0
            have xz : w9.frozen? ⟨gT, q, none⟩ = false := hfz q
            clear hcell hfz
            have z1_ := z1.out; have z2_ := z2.out; have z3_ := z3.out; have z4_ := z4.out; have z5_ := z5.out; have z6_ := z6.out; have z7_ := z7.out; have z8_ := z8.out; have z9_ := z9.out
            have hlt0 : gT < w.heap.size := by have := hgT.out; omega
            have hne0 : ¬ w.heap.size = gT := by have := hgT.out; omega
            have hnf0 : ¬ gT = w.heap.size := by have := hgT.out; omega
            have hlt1 : gT < w.heap.size + 1 := by have := hgT.out; omega
            have hne1 : ¬ w.heap.size + 1 = gT := by have := hgT.out; omega
            have hnf1 : ¬ gT = w.heap.size + 1 := by have := hgT.out; omega
            have hlt2 : gT < w.heap.size + 1 + 1 := by have := hgT.out; omega
            have hne2 : ¬ w.heap.size + 1 + 1 = gT := by have := hgT.out; omega
            have hnf2 : ¬ gT = w.heap.size + 1 + 1 := by have := hgT.out; omega
            clear z1_ z2_ z3_ z4_ z5_ z6_ z7_ z8_ z9_
            have fb0_0 : w9.cell? ⟨w.heap.size, 0, none⟩ = some (Value.slice D1 x.cols.length d1) := b0.out.cell 0 rfl
            have fb0_1 : w9.cell? ⟨w.heap.size, 1, none⟩ = some (Value.int IntKind.i64 x.ver) := b0.out.cell 1 rfl
            have fb0_2 : w9.cell? ⟨w.heap.size, 2, none⟩ = some (Value.slice (some ⟨gT, 0, none⟩) x.tabs.length d2) := b0.out.cell 2 rfl
            have fb0_z := b0.out.frozen
            have fb1_0 : w9.cell? ⟨w.heap.size + 1, 0, none⟩ = some (Value.int IntKind.i64 (q : Int)) := b1.out.cell 0 rfl
            have fb1_1 : w9.cell? ⟨w.heap.size + 1, 1, none⟩ = some (Value.bool true) := b1.out.cell 1 rfl
            have fb1_2 : w9.cell? ⟨w.heap.size + 1, 2, none⟩ = some (Value.bool true) := b1.out.cell 2 rfl
            have fb1_3 : w9.cell? ⟨w.heap.size + 1, 3, none⟩ = some (Value.int IntKind.i64 old.id) := b1.out.cell 3 rfl
            have fb1_4 : w9.cell? ⟨w.heap.size + 1, 4, none⟩ = some (Value.slice A3 old.cells.length c3) := b1.out.cell 4 rfl
            have fb1_5 : w9.cell? ⟨w.heap.size + 1, 5, none⟩ = some (Value.int IntKind.i64 now.id) := b1.out.cell 5 rfl
            have fb1_6 : w9.cell? ⟨w.heap.size + 1, 6, none⟩ = some (Value.slice A4 now.cells.length c4) := b1.out.cell 6 rfl
            have fb1_z := b1.out.frozen
            have fb2_0 : w9.cell? ⟨w.heap.size + 1 + 1, 0, none⟩ = some (Value.slice none 0 0) := b2.out.cell 0 rfl
            have fb2_1 : w9.cell? ⟨w.heap.size + 1 + 1, 1, none⟩ = some (Value.int IntKind.i64 0) := b2.out.cell 1 rfl
            have fb2_2 : w9.cell? ⟨w.heap.size + 1 + 1, 2, none⟩ = some (Value.slice none 0 0) := b2.out.cell 2 rfl
            have fb2_z := b2.out.frozen
            go_wp2_with fail
            refine bodyPost_retW (v := .tuple #[.agg #[Value.slice D1 x.cols.length d1, Value.int IntKind.i64 x.ver, Value.slice (some ⟨gT, 0, none⟩) x.tabs.length d2], .bool true]) (by simp [results, Try.results80, go_sem, fb0_0, fb0_1, fb0_2, fb0_z, fb1_0, fb1_1, fb1_2, fb1_3, fb1_4, fb1_5, fb1_6, fb1_z, fb2_0, fb2_1, fb2_2, fb2_z, x0, xz, hlt0, hne0, hnf0, hlt1, hne1, hnf1, hlt2, hne2, hnf2]) rfl ?_
            intro W hW
            obtain ⟨W10, hW9⟩ : ∃ z, z = w9.setCell ⟨gT, q, none⟩ (.slice AM ((rowPut ((rowDrop x.tabs[q] old.id)) now)).length cM) := ⟨_, rfl⟩
            rw [← hW9] at hW
            clear fb0_0 fb0_1 fb0_2 fb0_z fb1_0 fb1_1 fb1_2 fb1_3 fb1_4 fb1_5 fb1_6 fb1_z fb2_0 fb2_1 fb2_2 fb2_z x0 xz hlt0 hne0 hnf0 hlt1 hne1 hnf1 hlt2 hne2 hnf2
            have hX : Fr w9 W10 (fun k => k = gT) := by rw [hW9]; exact Fr.setCell (S := fun k => k = gT) (Fr.refl _ _) _ (fun _ => rfl) _
            have hT2 := Hd.mk (show tRows.R 68 W10 (fun k => ST k ∨ TM k) (.slice (some ⟨gT, 0, none⟩) x.tabs.length d2) (x.tabs.set q (rowPut ((rowDrop x.tabs[q] old.id)) now)) by
              rw [hW9]
              have h1 := H_store hH.out 0 (by decide) (.slice AM ((rowPut ((rowDrop x.tabs[q] old.id)) now)).length cM) rfl
              simp only [show tRows.sz = 1 from rfl, Nat.mul_one, Nat.add_zero] at h1
              exact H_back (x' := (rowPut ((rowDrop x.tabs[q] old.id)) now)) h1 (T := TM) (sl_O.2 ⟨_, rfl, R_setCell hM.out (fun h => HTG.out h) _⟩) (fun k hk => (HTM.out k hk).1) (fun k hk => .inl hk) (fun k hk => .inr hk))
            clear hW9
            have hG := Hd.mk ((Fr.of_below hB.out S).then_ hX (fun k h _ => by have h : k = gT := h; rw [h]; exact hgT.out.1))
            have z1_ := z1.out; have z2_ := z2.out; have z3_ := z3.out; have z4_ := z4.out; have z5_ := z5.out; have z6_ := z6.out; have z7_ := z7.out; have z8_ := z8.out; have z9_ := z9.out
            have b0 := Hd.mk (b0.out.fr hX (fun h => by have hlt_ := b0.out.lt; have qg := hgT.out; (try simp only at h); omega))
            have b1 := Hd.mk (b1.out.fr hX (fun h => by have hlt_ := b1.out.lt; have qg := hgT.out; (try simp only at h); omega))
            have b2 := Hd.mk (b2.out.fr hX (fun h => by have hlt_ := b2.out.lt; have qg := hgT.out; (try simp only at h); omega))
            have hN := Hd.mk (R_fr hN.out hX (fun k hk hl h => by have q_ : k ≠ gT := fun e => hNT.out k hk (e ▸ hgS.out); (try simp only at h); omega))
            have hz_ := hX.size
            clear hX hH hM
            have z10 := Hd.mk hz_; clear hz_
            have eF : Fr W10 W (fun k => k = w.heap.size + 1 + 1) := by rw [hW]; (repeat (first | with_reducible refine Fr.setCell (S := fun k => k = w.heap.size + 1 + 1) ?_ _ (fun _ => rfl) _)); exact Fr.refl _ _
            have HT2 := Hd.mk (show ∀ k, (ST k ∨ TM k) → (S k ∨ w.heap.size ≤ k) ∧ k ≠ w.heap.size + 1 + 1 from fun k hk => by have z1_ := z1.out; have z2_ := z2.out; have z3_ := z3.out; have z4_ := z4.out; have z5_ := z5.out; have z6_ := z6.out; have z7_ := z7.out; have z8_ := z8.out; have z9_ := z9.out; have z10_ := z10.out; rcases hk with hk | hk; (have := hST.out k hk; exact ⟨.inl this.1, by omega⟩); (have := (HTM.out k hk).2; exact ⟨this.1, this.2⟩))
            exact ⟨[Value.slice D1 x.cols.length d1, Value.int IntKind.i64 x.ver, Value.slice (some ⟨gT, 0, none⟩) x.tabs.length d2], by rw [HNB.out], by rw [HF.out]; exact store_O2 (R_fr hN.out eF (fun k hk _ h => by have := hSN.out k hk; (try simp only at h); omega)) (R_fr hT2.out eF (fun k hk _ h => (HT2.out k hk).2 h)) (by simp) (fun k hk => .inl (hSN.out k hk).1) (fun k hk => (HT2.out k hk).1) (fun k hk h2 => by rcases h2 with h2 | h2; exact hNT.out k hk h2; exact HNM.out k hk h2), hG.out.then_ eF (fun k h hl => by (try simp only at h); omega)⟩
          · rw [show rowAt ((rowDrop x.tabs[q] old.id)) now.id = (((rowDrop x.tabs[q] old.id)).findIdx (fun r : Row => r.id == now.id) : Int) from h1]
            have HNO := Hd.mk (turn_no2 hqt HMD.out (has := true) now rfl h1)
            generalize ((rowDrop x.tabs[q] old.id)).findIdx (fun r : Row => r.id == now.id) = j at h2 ⊢
            clear h1
            have hj0 : (0 : Int) ≤ (j : Int) := by omega
            obtain ⟨hn_, hf_⟩ := turn_no (x := x) (y := ⟨(q : Int), _, _, old, now⟩) (HNO.out)
            have HNB := Hd.mk hn_; have HF := Hd.mk hf_; clear hn_ hf_
            have fb0_0 : w7.cell? ⟨w.heap.size, 0, none⟩ = some (Value.slice D1 x.cols.length d1) := b0.out.cell 0 rfl
            have fb0_1 : w7.cell? ⟨w.heap.size, 1, none⟩ = some (Value.int IntKind.i64 x.ver) := b0.out.cell 1 rfl
            have fb0_2 : w7.cell? ⟨w.heap.size, 2, none⟩ = some (Value.slice (some ⟨gT, 0, none⟩) x.tabs.length d2) := b0.out.cell 2 rfl
            have fb0_z := b0.out.frozen
            have fb1_0 : w7.cell? ⟨w.heap.size + 1, 0, none⟩ = some (Value.int IntKind.i64 (q : Int)) := b1.out.cell 0 rfl
            have fb1_1 : w7.cell? ⟨w.heap.size + 1, 1, none⟩ = some (Value.bool true) := b1.out.cell 1 rfl
            have fb1_2 : w7.cell? ⟨w.heap.size + 1, 2, none⟩ = some (Value.bool true) := b1.out.cell 2 rfl
            have fb1_3 : w7.cell? ⟨w.heap.size + 1, 3, none⟩ = some (Value.int IntKind.i64 old.id) := b1.out.cell 3 rfl
            have fb1_4 : w7.cell? ⟨w.heap.size + 1, 4, none⟩ = some (Value.slice A3 old.cells.length c3) := b1.out.cell 4 rfl
            have fb1_5 : w7.cell? ⟨w.heap.size + 1, 5, none⟩ = some (Value.int IntKind.i64 now.id) := b1.out.cell 5 rfl
            have fb1_6 : w7.cell? ⟨w.heap.size + 1, 6, none⟩ = some (Value.slice A4 now.cells.length c4) := b1.out.cell 6 rfl
            have fb1_z := b1.out.frozen
            have fb2_0 : w7.cell? ⟨w.heap.size + 1 + 1, 0, none⟩ = some (Value.slice none 0 0) := b2.out.cell 0 rfl
            have fb2_1 : w7.cell? ⟨w.heap.size + 1 + 1, 1, none⟩ = some (Value.int IntKind.i64 0) := b2.out.cell 1 rfl
            have fb2_2 : w7.cell? ⟨w.heap.size + 1 + 1, 2, none⟩ = some (Value.slice none 0 0) := b2.out.cell 2 rfl
            have fb2_z := b2.out.frozen
            go_wp2_with fail
            refine bodyPost_retW (v := .tuple #[.agg #[Value.slice D1 x.cols.length d1, Value.int IntKind.i64 x.ver, Value.slice (some ⟨gT, 0, none⟩) x.tabs.length d2], .bool false]) (by simp [results, Try.results80, go_sem, fb0_0, fb0_1, fb0_2, fb0_z, fb1_0, fb1_1, fb1_2, fb1_3, fb1_4, fb1_5, fb1_6, fb1_z, fb2_0, fb2_1, fb2_2, fb2_z]) rfl ?_
            intro W hW
            clear fb0_0 fb0_1 fb0_2 fb0_z fb1_0 fb1_1 fb1_2 fb1_3 fb1_4 fb1_5 fb1_6 fb1_z fb2_0 fb2_1 fb2_2 fb2_z
            have hz_ : w7.heap.size ≤ W.heap.size := by rw [hW]; simp
            have eF : Fr w7 W (fun k => k = w.heap.size + 1 + 1 ∨ w7.heap.size ≤ k) := by rw [hW]; (repeat (first | with_reducible refine Fr.setCell ?_ _ (fun _ => by simp <;> omega) _ | with_reducible refine Fr.alloc ?_ _ | with_reducible refine Fr.drew ?_)); exact Fr.refl _ _
            have z1_ := z1.out; have z2_ := z2.out; have z3_ := z3.out; have z4_ := z4.out; have z5_ := z5.out; have z6_ := z6.out; have z7_ := z7.out
            have hB := Hd.mk (((Fr.of_below hB.out (fun k => k = w.heap.size + 1 + 1 ∨ w7.heap.size ≤ k)).then_ eF (fun k hk _ => hk)).below (fun k hk => by have := hB.out.size; omega))
            have b0 := Hd.mk (b0.out.fr eF (fun h => by have hlt_ := b0.out.lt; (try simp only at h); omega))
            have b1 := Hd.mk (b1.out.fr eF (fun h => by have hlt_ := b1.out.lt; (try simp only at h); omega))
            have b2 := Hd.mk (show Blk W (w.heap.size + 1 + 1) #[Value.slice D1 x.cols.length d1, Value.int IntKind.i64 x.ver, Value.slice (some ⟨gT, 0, none⟩) x.tabs.length d2] 37 by rw [hW]; exact (Blk.all b2.out [Value.slice D1 x.cols.length d1, Value.int IntKind.i64 x.ver, Value.slice (some ⟨gT, 0, none⟩) x.tabs.length d2] rfl))
            have hN := Hd.mk (R_fr hN.out eF (fun k hk hl h => by have q_ := hSN.out k hk; (try simp only [rng] at hk); (try simp only at hk); (try simp only at h); omega))
            have hT := Hd.mk (R_fr hT.out eF (fun k hk hl h => by have q_ := hST.out k hk; (try simp only [rng] at hk); (try simp only at hk); (try simp only at h); omega))
            have hH := Hd.mk (H_frN hH.out eF (fun k hk hl h => by have q_ := hST.out k hk; (try simp only [rng] at hk); (try simp only at hk); (try simp only at h); omega))
            have hM := Hd.mk (R_fr hM.out eF (fun k hk hl h => by have q_ := (HTM.out k hk).2.2; have q2_ := HTB.out k hk; (try simp only [rng] at hk); (try simp only at hk); (try simp only at h); omega))
            clear hW eF
            have z8 := Hd.mk hz_; clear hz_
            exact ⟨[Value.slice D1 x.cols.length d1, Value.int IntKind.i64 x.ver, Value.slice (some ⟨gT, 0, none⟩) x.tabs.length d2], by rw [HNB.out], by rw [HF.out]; exact store_O2 hN.out hT.out rfl (fun k hk => .inl (hSN.out k hk).1) (fun k hk => .inl (hST.out k hk).1) hNT.out, Fr.of_below hB.out S⟩
end Go.Proofs.Ytnpogfhfjofbmaa.X
