/- What is proved here: contracts of Back. Conditions: none. -/
import Derived.Test.YtnpogfhfjofbmaaXSt
import Derived.Test.YtnpogfhfjofbmaaXHs
import Derived.Test.YtnpogfhfjofbmaaXFe
namespace Go.Proofs.Ytnpogfhfjofbmaa.X
open Go.RowKit Go.Sort
set_option linter.unusedVariables false
set_option linter.unusedSimpArgs false
open Ty
noncomputable def hasRow (l : List Row) (r : Row) : Bool := decide (0 ≤ rowAt l r.id) && eqv (l.getD (rowAt l r.id).toNat ⟨0, []⟩) r
def midRows (l : List Row) (had : Bool) (old : Row) : List Row := if had then rowDrop l old.id else l
def newRows (l : List Row) (had : Bool) (old : Row) (has : Bool) (now : Row) : List Row := if has then rowPut (midRows l had old) now else midRows l had old
noncomputable def rowsCan (l : List Row) (had : Bool) (old : Row) (has : Bool) (now : Row) : Bool := (!had || hasRow l old) && (!has || decide (rowAt (midRows l had old) now.id < 0))
def tabAt (x : Store) (t : Int) : List Row := x.tabs.getD t.toNat []
def swapS (x : Store) (t : Int) (had : Bool) (old : Row) (has : Bool) (now : Row) : Store := ⟨x.cols, x.ver, x.tabs.set t.toNat (newRows (tabAt x t) had old has now)⟩
noncomputable def swapCan (x : Store) (t : Int) (had : Bool) (old : Row) (has : Bool) (now : Row) : Bool := hasTab x.cols t && rowsCan (tabAt x t) had old has now
noncomputable def swB (x : Store) (t : Int) (had : Bool) (old : Row) (has : Bool) (now : Row) : Bool := swapCan x t had old has now && storeOk (swapS x t had old has now)
noncomputable def swV (x : Store) (t : Int) (had : Bool) (old : Row) (has : Bool) (now : Row) : Store := if swapCan x t had old has now then swapS x t had old has now else ⟨[], 0, []⟩
section
variable {x : Store} {t : Int} {had has : Bool} {old now : Row} {q j : Nat} {m m' : List Row}
theorem sw_no (h : swapCan x t had old has now = false) : swB x t had old has now = false ∧ swV x t had old has now = ⟨[], 0, []⟩ := by
  unfold swB swV; rw [h]; exact ⟨rfl, rfl⟩
theorem sw_c0 (h : hasTab x.cols t = false) : swapCan x t had old has now = false := by unfold swapCan; rw [h]; rfl
theorem tabAt_q (hq : q < x.tabs.length) : tabAt x (q : Int) = x.tabs[q] := by simp [tabAt, List.getD_eq_getElem?_getD, hq]
theorem sw_at (hb : hasTab x.cols (q : Int) = true) (hq : q < x.tabs.length) : swapCan x q had old has now = rowsCan x.tabs[q] had old has now := by
  unfold swapCan; rw [hb, tabAt_q hq]; rfl
theorem sw_yes (hq : q < x.tabs.length) (hb : hasTab x.cols (q : Int) = true) (h1 : (!had || hasRow x.tabs[q] old) = true) (h2 : (!has || decide (rowAt (midRows x.tabs[q] had old) now.id < 0)) = true) (hm : m' = newRows x.tabs[q] had old has now) :
    swB x q had old has now = storeOk ⟨x.cols, x.ver, x.tabs.set q m'⟩ ∧ swV x q had old has now = ⟨x.cols, x.ver, x.tabs.set q m'⟩ := by
  have hc : swapCan x q had old has now = true := by rw [sw_at hb hq]; unfold rowsCan; rw [h1, h2]; rfl
  have he : swapS x q had old has now = ⟨x.cols, x.ver, x.tabs.set q m'⟩ := by unfold swapS; rw [tabAt_q hq, hm]; rfl
  unfold swB swV
  rw [hc, he]; exact ⟨rfl, rfl⟩
theorem sw_a0 (l : List Row) (old : Row) : (!false || hasRow l old) = true := rfl
theorem sw_d0 (l : List Row) (old : Row) : l = midRows l false old := rfl
theorem sw_d1 (l : List Row) (old : Row) : rowDrop l old.id = midRows l true old := rfl
theorem sw_b0 (l : List Row) (had : Bool) (old now : Row) : (!false || decide (rowAt (midRows l had old) now.id < 0)) = true := rfl
theorem sw_m0 {l : List Row} (h : m = midRows l had old) (now : Row) : m = newRows l had old false now := h
theorem sw_m1 {l : List Row} (h : m = midRows l had old) (now : Row) : rowPut m now = newRows l had old true now := by rw [h]; rfl
theorem sw_b1 {l : List Row} (h : m = midRows l had old) (now : Row) (h1 : idxF (fun r : Row => r.id == now.id) m = -1) : (!true || decide (rowAt (midRows l had old) now.id < 0)) = true := by
  rw [← h, show rowAt m now.id = -1 from h1]; rfl
theorem hasRow_no {l : List Row} (h : idxF (fun r : Row => r.id == old.id) l = -1) : hasRow l old = false := by
  unfold hasRow; rw [show rowAt l old.id = -1 from h]; rfl
theorem hasRow_at {l : List Row} (h : idxF (fun r : Row => r.id == old.id) l = (j : Int)) (hj : j < l.length) : hasRow l old = eqv l[j] old := by
  unfold hasRow; rw [show rowAt l old.id = (j : Int) from h]; simp [List.getD_eq_getElem?_getD, hj]
theorem sw_a1 {l : List Row} (h : idxF (fun r : Row => r.id == old.id) l = (j : Int)) (hj : j < l.length) (he : eqv l[j] old = true) : (!true || hasRow l old) = true := by rw [hasRow_at h hj, he]; rfl
theorem sw_no1 (hb : hasTab x.cols (q : Int) = true) (hq : q < x.tabs.length) (old : Row) (has : Bool) (now : Row) (hh : had = true) (h : idxF (fun r : Row => r.id == old.id) x.tabs[q] = -1) : swapCan x q had old has now = false := by
  rw [sw_at hb hq]; unfold rowsCan; rw [hh, hasRow_no h]; rfl
theorem sw_no2 (hb : hasTab x.cols (q : Int) = true) (hq : q < x.tabs.length) (hm : m = midRows x.tabs[q] had old) (now : Row) (hh : has = true) {j : Nat} (h : idxF (fun r : Row => r.id == now.id) m = (j : Int)) : swapCan x q had old has now = false := by
  rw [sw_at hb hq]; unfold rowsCan; rw [hh, ← hm, show rowAt m now.id = (j : Int) from h, decide_eq_false (by omega)]; simp
theorem sw_no3 (hb : hasTab x.cols (q : Int) = true) (hq : q < x.tabs.length) (old : Row) (has : Bool) (now : Row) (hh : had = true) (h : idxF (fun r : Row => r.id == old.id) x.tabs[q] = (j : Int)) (hj : j < x.tabs[q].length) (he : eqv x.tabs[q][j] old = false) : swapCan x q had old has now = false := by
  rw [sw_at hb hq]; unfold rowsCan; rw [hh, hasRow_at h hj, he]; rfl
end
theorem store_open {w : World} {S : Nat → Prop} {x : Store} {cs : List Value} (h : tStore.O w S x cs) : ∃ D1 d1 D2 d2, ∃ SN ST : Nat → Prop, cs = [.slice D1 x.cols.length d1, .int .i64 x.ver, .slice D2 x.tabs.length d2] ∧ x.cols.length ≤ d1 ∧ x.tabs.length ≤ d2 ∧
    Hd (int.R 3 w SN (.slice D1 x.cols.length d1) x.cols) ∧ Hd (tRows.R 68 w ST (.slice D2 x.tabs.length d2) x.tabs) ∧ Hd (∀ k, SN k → S k ∧ k < w.heap.size) ∧ Hd (∀ k, ST k → S k ∧ k < w.heap.size) ∧ Hd (∀ k, SN k → ¬ ST k) := by
  obtain ⟨v1, v2, T0, T1, rfl, r1, r2, s0, s1, d01⟩ := tStore_O.1 h
  obtain ⟨D1, d1, rfl, hd1, _⟩ := R_C r1
  obtain ⟨D2, d2, rfl, hd2, _⟩ := R_C r2
  exact ⟨D1, d1, D2, d2, _, _, rfl, hd1, hd2, ⟨R_bound r1⟩, ⟨R_bound r2⟩, ⟨fun k hk => ⟨s0 k hk.1, hk.2⟩⟩, ⟨fun k hk => ⟨s1 k hk.1, hk.2⟩⟩, ⟨fun k hk h2 => d01 k hk.1 h2.1⟩⟩
theorem store_K2 {w : World} {SN ST : Nat → Prop} {D1 D2 : Option Addr} {d1 d2 n1 n2 : Nat} {cols : List Int} {ver : Int} {tabs : List (List Row)} (h1 : int.R 3 w SN (.slice D1 n1 d1) cols) (h2 : tRows.R 68 w ST (.slice D2 n2 d2) tabs) (hn : n2 = tabs.length) : tStore.K w ⟨cols, ver, tabs⟩ [.slice D1 n1 d1, .int .i64 ver, .slice D2 n2 d2] := by
  obtain ⟨E1, e1, he1, hl1, hC1⟩ := R_C h1
  obtain ⟨E2, e2, he2, hl2, hC2⟩ := R_C h2
  exact tStore_K.2 ⟨E1, e1, E2, e2, by rw [he1, he2], ⟨hl1, hC1⟩, hl2, hC2⟩
theorem store_O2 {w : World} {S SN ST : Nat → Prop} {D1 D2 : Option Addr} {d1 d2 n1 n2 : Nat} {cols : List Int} {ver : Int} {tabs : List (List Row)} (h1 : int.R 3 w SN (.slice D1 n1 d1) cols) (h2 : tRows.R 68 w ST (.slice D2 n2 d2) tabs) (hn : n2 = tabs.length) (s1 : ∀ k, SN k → S k) (s2 : ∀ k, ST k → S k) (hd : ∀ k, SN k → ¬ ST k) : tStore.O w S ⟨cols, ver, tabs⟩ [.slice D1 n1 d1, .int .i64 ver, .slice D2 n2 d2] :=
  tStore_O.2 ⟨_, _, SN, ST, rfl, h1, h2, s1, s2, hd⟩
namespace Ty
variable {α : Type} {d : Ty α} {e : TypeId} {w w1 : World} {S S' Si : Nat → Prop} {v : Value} {xs : List α} {i : Nat} {cs : List Value}
theorem H_below (h : d.H e w S v xs i Si cs) (hb : Below w.heap.size w w1) : d.H e w1 S v xs i Si cs := H_step h (fun k _ _ hl => hb.block k hl)
theorem H_frN (h : d.H e w S v xs i Si cs) (hf : Fr w w1 S') (hd : ∀ k, S k → k < w.heap.size → ¬ S' k) : d.H e w1 S v xs i Si cs := H_step h (fun k hs _ hl => hf.block k hl (hd k hs hl))
theorem H_own {g n cap : Nat} (h : d.H e w S (.slice (some ⟨g, 0, none⟩) n cap) xs i Si cs) : ¬ Si g := by
  obtain ⟨_, _, _, _, _, _, _, hs, _⟩ := h
  exact fun hk => (hs g hk).2 (by simp [Value.ownBlock])
end Ty
set_option maxHeartbeats 16000000 in
set_option maxRecDepth 100000 in
theorem impl_swapped (x : Store) (cs : List Value) (t : Int) (had : Bool) (old : Row) (cs1 : List Value) (has : Bool) (now : Row) (cs2 : List Value) (w : World) (hk : tStore.K w x cs) (hk1 : tRow.K w old cs1) (hk2 : tRow.K w now cs2) (hl : bulkStore x ≤ 2000000) (hlr : now.cells.length ≤ 2000000) (hlen : x.tabs.length = x.cols.length) :
    Calls Try.prog 85 #[.agg cs.toArray, .int .i64 t, .bool had, .agg cs1.toArray, .bool has, .agg cs2.toArray] w fun e w' => ∃ cs', e = .returned (.tuple #[.agg cs'.toArray, .bool (swB x t had old has now)]) ∧ tStore.O w' (fun k => w.heap.size ≤ k) (swV x t had old has now) cs' ∧ Below w.heap.size w w' := by
  obtain ⟨A1, c1, A2, c2, rfl, ⟨hc1, hr1⟩, hc2, hr2⟩ := tStore_K.1 hk
  obtain ⟨A3, c3, rfl, hc3, hr3⟩ := tRow_K.1 hk1
  obtain ⟨A4, c4, rfl, hc4, hr4⟩ := tRow_K.1 hk2
  have hm1 := hr1.1
  have hm2 := hr2.1
  have HK := Hd.mk hk; have HK1 := Hd.mk hk1; have HK2 := Hd.mk hk2
  clear hr1 hr2 hr3 hr4 hk hk1 hk2
  have HL := Hd.mk hl
  have HLEN := Hd.mk hlen; clear hlen
  have hlS : bulkStore x ≤ 4194304 := by omega
  clear hl
  have hB := Hd.mk (Below.refl w.heap.size w)
  go_enter Try.func85, Try.ntmps85
  go_wp2_with fail
  apply calls_gen; intro W1 hW
  have hz_ : w.heap.size + 4 ≤ W1.heap.size := by rw [hW]; simp
  have hE : Below w.heap.size w W1 := by rw [hW]; (repeat (first | with_reducible refine below_alloc ?_ _ | with_reducible refine below_drew ?_)); exact Below.refl _ _
  have hB := Hd.mk (below_then hB.out hE)
  have b0 := Hd.mk (show Blk W1 (w.heap.size) #[Value.slice A1 x.cols.length c1, Value.int IntKind.i64 x.ver, Value.slice A2 x.tabs.length c2] 37 by rw [hW]; first | exact ((((Blk.new _ _ _).alloc _).alloc _).alloc _) | (simpa using ((((Blk.new _ _ _).alloc _).alloc _).alloc _)))
  have b1 := Hd.mk (show Blk W1 (w.heap.size + 1) #[Value.int IntKind.i64 old.id, Value.slice A3 old.cells.length c3] 41 by rw [hW]; first | exact (((Blk.new1 _ _ _ _).alloc _).alloc _) | (simpa using (((Blk.new1 _ _ _ _).alloc _).alloc _)))
  have b2 := Hd.mk (show Blk W1 (w.heap.size + 1 + 1) #[Value.int IntKind.i64 now.id, Value.slice A4 now.cells.length c4] 41 by rw [hW]; first | exact ((Blk.new2 _ _ _ _ _).alloc _) | (simpa using ((Blk.new2 _ _ _ _ _).alloc _)))
  have b3 := Hd.mk (show Blk W1 (w.heap.size + 1 + 1 + 1) #[Value.slice none 0 0, Value.int IntKind.i64 0, Value.slice none 0 0] 37 by rw [hW]; first | exact (Blk.new3 _ _ _ _ _ _) | (simpa using (Blk.new3 _ _ _ _ _ _)))
  clear hW hE
  have z1 := Hd.mk hz_; clear hz_
  refine (impl_copyStore x _ _ (tStore.K_below hB.out HK.out) hlS).mono ?_
  rintro e w2 ⟨cs', rfl, hO, hX⟩
  have b0 := Hd.mk (b0.out.below hX)
  have b1 := Hd.mk (b1.out.below hX)
  have b2 := Hd.mk (b2.out.below hX)
  have b3 := Hd.mk (b3.out.below hX)
  have hB := Hd.mk (below_then hB.out hX)
  have hz_ := hX.size
  clear hX
  have z2 := Hd.mk hz_; clear hz_
  obtain ⟨D1, d1, D2, d2, SN, ST, rfl, hd1, hd2, hN, hT, hSN, hST, hNT⟩ := store_open hO
  clear hO
  have z1_ := z1.out; have z2_ := z2.out
  have hlt0 : w.heap.size < w2.heap.size := by omega
  have hne0 : ¬ w.heap.size = w2.heap.size := by omega
  clear z1_ z2_
  have fb0_0 : w2.cell? ⟨w.heap.size, 0, none⟩ = some (Value.slice A1 x.cols.length c1) := b0.out.cell 0 rfl
  have fb0_1 : w2.cell? ⟨w.heap.size, 1, none⟩ = some (Value.int IntKind.i64 x.ver) := b0.out.cell 1 rfl
  have fb0_2 : w2.cell? ⟨w.heap.size, 2, none⟩ = some (Value.slice A2 x.tabs.length c2) := b0.out.cell 2 rfl
  have fb0_z := b0.out.frozen
  have fb1_0 : w2.cell? ⟨w.heap.size + 1, 0, none⟩ = some (Value.int IntKind.i64 old.id) := b1.out.cell 0 rfl
  have fb1_1 : w2.cell? ⟨w.heap.size + 1, 1, none⟩ = some (Value.slice A3 old.cells.length c3) := b1.out.cell 1 rfl
  have fb1_z := b1.out.frozen
  have fb2_0 : w2.cell? ⟨w.heap.size + 1 + 1, 0, none⟩ = some (Value.int IntKind.i64 now.id) := b2.out.cell 0 rfl
  have fb2_1 : w2.cell? ⟨w.heap.size + 1 + 1, 1, none⟩ = some (Value.slice A4 now.cells.length c4) := b2.out.cell 1 rfl
  have fb2_z := b2.out.frozen
  have fb3_0 : w2.cell? ⟨w.heap.size + 1 + 1 + 1, 0, none⟩ = some (Value.slice none 0 0) := b3.out.cell 0 rfl
  have fb3_1 : w2.cell? ⟨w.heap.size + 1 + 1 + 1, 1, none⟩ = some (Value.int IntKind.i64 0) := b3.out.cell 1 rfl
  have fb3_2 : w2.cell? ⟨w.heap.size + 1 + 1 + 1, 2, none⟩ = some (Value.slice none 0 0) := b3.out.cell 2 rfl
  have fb3_z := b3.out.frozen
  go_wp2_with fail
  clear fb0_0 fb0_1 fb0_2 fb0_z fb1_0 fb1_1 fb1_z fb2_0 fb2_1 fb2_z fb3_0 fb3_1 fb3_2 fb3_z
  clear hlt0 hne0
  apply calls_gen; intro W3 hW
  have hz_ : w2.heap.size + 1 ≤ W3.heap.size := by rw [hW]; simp
  have hE : Below w2.heap.size w2 W3 := by rw [hW]; (repeat (first | with_reducible refine below_alloc ?_ _ | with_reducible refine below_drew ?_)); exact Below.refl _ _
  have hB := Hd.mk (below_then hB.out hE)
  have b0 := Hd.mk (b0.out.below hE)
  have b1 := Hd.mk (b1.out.below hE)
  have b2 := Hd.mk (b2.out.below hE)
  have b3 := Hd.mk (b3.out.below hE)
  have b4 := Hd.mk (show Blk W3 (w2.heap.size) #[Value.slice D1 x.cols.length d1, Value.int IntKind.i64 x.ver, Value.slice D2 x.tabs.length d2] 37 by rw [hW]; first | exact (Blk.new _ _ _) | (simpa using (Blk.new _ _ _)))
  have hN := Hd.mk (R_below hN.out hE)
  have hT := Hd.mk (R_below hT.out hE)
  clear hW hE
  have z3 := Hd.mk hz_; clear hz_
  refine (impl_hasTable _ _ x.cols t _ hm1).mono ?_
  rintro e w4 ⟨rfl, hX⟩
  have b0 := Hd.mk (b0.out.below hX)
  have b1 := Hd.mk (b1.out.below hX)
  have b2 := Hd.mk (b2.out.below hX)
  have b3 := Hd.mk (b3.out.below hX)
  have b4 := Hd.mk (b4.out.below hX)
  have hN := Hd.mk (R_below hN.out hX)
  have hT := Hd.mk (R_below hT.out hX)
  have hB := Hd.mk (below_then hB.out hX)
  have hz_ := hX.size
  clear hX
  have z4 := Hd.mk hz_; clear hz_
  cases hb : hasTab x.cols t
  · obtain ⟨hn_, hf_⟩ := sw_no (sw_c0 hb)
    have HN := Hd.mk hn_; have HF := Hd.mk hf_; clear hn_ hf_
    have fb0_0 : w4.cell? ⟨w.heap.size, 0, none⟩ = some (Value.slice A1 x.cols.length c1) := b0.out.cell 0 rfl
    have fb0_1 : w4.cell? ⟨w.heap.size, 1, none⟩ = some (Value.int IntKind.i64 x.ver) := b0.out.cell 1 rfl
    have fb0_2 : w4.cell? ⟨w.heap.size, 2, none⟩ = some (Value.slice A2 x.tabs.length c2) := b0.out.cell 2 rfl
    have fb0_z := b0.out.frozen
    have fb1_0 : w4.cell? ⟨w.heap.size + 1, 0, none⟩ = some (Value.int IntKind.i64 old.id) := b1.out.cell 0 rfl
    have fb1_1 : w4.cell? ⟨w.heap.size + 1, 1, none⟩ = some (Value.slice A3 old.cells.length c3) := b1.out.cell 1 rfl
    have fb1_z := b1.out.frozen
    have fb2_0 : w4.cell? ⟨w.heap.size + 1 + 1, 0, none⟩ = some (Value.int IntKind.i64 now.id) := b2.out.cell 0 rfl
    have fb2_1 : w4.cell? ⟨w.heap.size + 1 + 1, 1, none⟩ = some (Value.slice A4 now.cells.length c4) := b2.out.cell 1 rfl
    have fb2_z := b2.out.frozen
    have fb3_0 : w4.cell? ⟨w.heap.size + 1 + 1 + 1, 0, none⟩ = some (Value.slice none 0 0) := b3.out.cell 0 rfl
    have fb3_1 : w4.cell? ⟨w.heap.size + 1 + 1 + 1, 1, none⟩ = some (Value.int IntKind.i64 0) := b3.out.cell 1 rfl
    have fb3_2 : w4.cell? ⟨w.heap.size + 1 + 1 + 1, 2, none⟩ = some (Value.slice none 0 0) := b3.out.cell 2 rfl
    have fb3_z := b3.out.frozen
    have fb4_0 : w4.cell? ⟨w2.heap.size, 0, none⟩ = some (Value.slice D1 x.cols.length d1) := b4.out.cell 0 rfl
    have fb4_1 : w4.cell? ⟨w2.heap.size, 1, none⟩ = some (Value.int IntKind.i64 x.ver) := b4.out.cell 1 rfl
    have fb4_2 : w4.cell? ⟨w2.heap.size, 2, none⟩ = some (Value.slice D2 x.tabs.length d2) := b4.out.cell 2 rfl
    have fb4_z := b4.out.frozen
    go_wp2_with fail
    refine bodyPost_retW (v := .tuple #[.agg #[Value.slice none 0 0, Value.int IntKind.i64 0, Value.slice none 0 0], .bool false]) (by simp [results, Try.results85, go_sem, fb0_0, fb0_1, fb0_2, fb0_z, fb1_0, fb1_1, fb1_z, fb2_0, fb2_1, fb2_z, fb3_0, fb3_1, fb3_2, fb3_z, fb4_0, fb4_1, fb4_2, fb4_z]) rfl ?_
    intro W hW
    clear fb0_0 fb0_1 fb0_2 fb0_z fb1_0 fb1_1 fb1_z fb2_0 fb2_1 fb2_z fb3_0 fb3_1 fb3_2 fb3_z fb4_0 fb4_1 fb4_2 fb4_z
    have hz_ : w4.heap.size ≤ W.heap.size := by rw [hW]; simp
    have eF : Fr w4 W (fun k => k = w.heap.size + 1 + 1 + 1 ∨ w4.heap.size ≤ k) := by rw [hW]; (repeat (first | with_reducible refine Fr.setCell ?_ _ (fun _ => by simp <;> omega) _ | with_reducible refine Fr.alloc ?_ _ | with_reducible refine Fr.drew ?_)); exact Fr.refl _ _
    have z1_ := z1.out; have z2_ := z2.out; have z3_ := z3.out; have z4_ := z4.out
    have hB := Hd.mk (((Fr.of_below hB.out (fun k => k = w.heap.size + 1 + 1 + 1 ∨ w4.heap.size ≤ k)).then_ eF (fun k hk _ => hk)).below (fun k hk => by have := hB.out.size; omega))
    have b0 := Hd.mk (b0.out.fr eF (fun h => by have hlt_ := b0.out.lt; (try simp only at h); omega))
    have b1 := Hd.mk (b1.out.fr eF (fun h => by have hlt_ := b1.out.lt; (try simp only at h); omega))
    have b2 := Hd.mk (b2.out.fr eF (fun h => by have hlt_ := b2.out.lt; (try simp only at h); omega))
    have b3 := Hd.mk (show Blk W (w.heap.size + 1 + 1 + 1) #[Value.slice none 0 0, Value.int IntKind.i64 0, Value.slice none 0 0] 37 by rw [hW]; exact (Blk.all b3.out [Value.slice none 0 0, Value.int IntKind.i64 0, Value.slice none 0 0] rfl))
    have b4 := Hd.mk (b4.out.fr eF (fun h => by have hlt_ := b4.out.lt; (try simp only at h); omega))
    have hN := Hd.mk (R_fr hN.out eF (fun k hk hl h => by have q_ := hSN.out k hk; (try simp only [rng] at hk); (try simp only at hk); (try simp only at h); omega))
    have hT := Hd.mk (R_fr hT.out eF (fun k hk hl h => by have q_ := hST.out k hk; (try simp only [rng] at hk); (try simp only at hk); (try simp only at h); omega))
    clear hW eF
    have z5 := Hd.mk hz_; clear hz_
    exact ⟨_, by rw [HN.out], by rw [HF.out]; exact ZS _ _, hB.out⟩
  · obtain ⟨q, rfl, hq⟩ := hasTab_at hb
    have hqt : q < x.tabs.length := by have := HLEN.out; omega
    have hq0 : (0 : Int) ≤ (q : Int) := by omega
    have HHB := Hd.mk hb; clear hb
    obtain ⟨SI, cI, hH, hO0⟩ := R_H hT.out (List.getElem?_eq_getElem hqt)
    obtain ⟨v0, rfl, hM⟩ := sl_O.1 hO0
    clear hO0
    obtain ⟨AM, cM, rfl, hcM, _⟩ := R_C hM
    obtain ⟨gT, capT, hgT, hcp, hcp2, hgST, hgl, _, hcell, hfz⟩ := H_cells hH (by decide)
    injection hgT with hg1 _ hg2
    subst hg1; subst hg2
    have hgT := Hd.mk (hST.out gT hgST); have hgS := Hd.mk hgST; clear hgST hgl
    have x0 := hcell 0 _ rfl
    simp only [show tRows.sz = 1 from rfl, Nat.mul_one, Nat.add_zero] at x0
    clear hcell hfz hT
    have hSI := Hd.mk (H_sub hH)
    have hH := Hd.mk hH
    have hM := Hd.mk hM
    have hbq := Hd.mk (show bulkRowS x.tabs[q] ≤ 2000000 by
      have := bulkL_mem bulkRowS (List.getElem_mem hqt)
      have := HL.out
      simp only [bulkStore, bulkRowSS] at this
      omega)
    have hmq := (R_Cv hM.out).1
    cases had
    case false =>
      obtain ⟨TM, hTM⟩ : ∃ z : Nat → Prop, z = SI := ⟨_, rfl⟩
      rw [← hTM] at hM
      have HTM := Hd.mk (show ∀ k, TM k → (SI k ∨ ¬ ST k) ∧ W1.heap.size ≤ k ∧ k < w4.heap.size by rw [hTM]; intro k hk; have := hST.out k (hSI.out k hk); have z1_ := z1.out; have z2_ := z2.out; have z3_ := z3.out; have z4_ := z4.out; exact ⟨.inl hk, by omega, by omega⟩)
      have HTG := Hd.mk (show ¬ TM gT by rw [hTM]; exact H_own hH.out)
      have HNM := Hd.mk (show ∀ k, SN k → ¬ TM k by rw [hTM]; intro k h1 hk; exact hNT.out k h1 (hSI.out k hk))
      clear hTM
      have HCA := Hd.mk (sw_a0 x.tabs[q] old)
      have HMD := Hd.mk (sw_d0 x.tabs[q] old)
      have hbm := Hd.mk hbq.out
      cases has
      · have HCB := Hd.mk (sw_b0 x.tabs[q] false old now)
        have HME := Hd.mk (sw_m0 HMD.out now)
        obtain ⟨hn_, hf_⟩ := sw_yes hqt HHB.out HCA.out HCB.out HME.out
        have HN := Hd.mk hn_; have HF := Hd.mk hf_; clear hn_ hf_
        obtain ⟨gT2, capT2, hgT2, _, _, _, hgl2, hngI, hcell, hfz⟩ := H_cells hH.out (by decide)
        injection hgT2 with hg1 _ hg2
        injection hg1 with hg1
        injection hg1 with hg1 _ _
        subst hg1; subst hg2
        have x0 := hcell 0 _ rfl
        simp only [show tRows.sz = 1 from rfl, Nat.mul_one, Nat.add_zero] at x0
        have xz : w4.frozen? ⟨gT, q, none⟩ = false := hfz q
        clear hcell hfz
        have fb0_0 : w4.cell? ⟨w.heap.size, 0, none⟩ = some (Value.slice A1 x.cols.length c1) := b0.out.cell 0 rfl
        have fb0_1 : w4.cell? ⟨w.heap.size, 1, none⟩ = some (Value.int IntKind.i64 x.ver) := b0.out.cell 1 rfl
        have fb0_2 : w4.cell? ⟨w.heap.size, 2, none⟩ = some (Value.slice A2 x.tabs.length c2) := b0.out.cell 2 rfl
        have fb0_z := b0.out.frozen
        have fb1_0 : w4.cell? ⟨w.heap.size + 1, 0, none⟩ = some (Value.int IntKind.i64 old.id) := b1.out.cell 0 rfl
        have fb1_1 : w4.cell? ⟨w.heap.size + 1, 1, none⟩ = some (Value.slice A3 old.cells.length c3) := b1.out.cell 1 rfl
        have fb1_z := b1.out.frozen
        have fb2_0 : w4.cell? ⟨w.heap.size + 1 + 1, 0, none⟩ = some (Value.int IntKind.i64 now.id) := b2.out.cell 0 rfl
        have fb2_1 : w4.cell? ⟨w.heap.size + 1 + 1, 1, none⟩ = some (Value.slice A4 now.cells.length c4) := b2.out.cell 1 rfl
        have fb2_z := b2.out.frozen
        have fb3_0 : w4.cell? ⟨w.heap.size + 1 + 1 + 1, 0, none⟩ = some (Value.slice none 0 0) := b3.out.cell 0 rfl
        have fb3_1 : w4.cell? ⟨w.heap.size + 1 + 1 + 1, 1, none⟩ = some (Value.int IntKind.i64 0) := b3.out.cell 1 rfl
        have fb3_2 : w4.cell? ⟨w.heap.size + 1 + 1 + 1, 2, none⟩ = some (Value.slice none 0 0) := b3.out.cell 2 rfl
        have fb3_z := b3.out.frozen
        have fb4_0 : w4.cell? ⟨w2.heap.size, 0, none⟩ = some (Value.slice D1 x.cols.length d1) := b4.out.cell 0 rfl
        have fb4_1 : w4.cell? ⟨w2.heap.size, 1, none⟩ = some (Value.int IntKind.i64 x.ver) := b4.out.cell 1 rfl
        have fb4_2 : w4.cell? ⟨w2.heap.size, 2, none⟩ = some (Value.slice (some ⟨gT, 0, none⟩) x.tabs.length d2) := b4.out.cell 2 rfl
        have fb4_z := b4.out.frozen
        go_wp2_with fail
        clear fb0_0 fb0_1 fb0_2 fb0_z fb1_0 fb1_1 fb1_z fb2_0 fb2_1 fb2_z fb3_0 fb3_1 fb3_2 fb3_z fb4_0 fb4_1 fb4_2 fb4_z
        clear x0 xz
        apply wp_gen; intro W5 hW
        have hX : Fr w4 W5 (fun k => k = gT) := by rw [hW]; exact Fr.setCell (S := fun k => k = gT) (Fr.refl _ _) _ (fun _ => rfl) _
        have hT2 := Hd.mk (show tRows.R 68 W5 (fun k => ST k ∨ TM k) (.slice (some ⟨gT, 0, none⟩) x.tabs.length d2) (x.tabs.set q x.tabs[q]) by
          rw [hW]
          have h1 := H_store hH.out 0 (by decide) (.slice AM (x.tabs[q]).length cM) rfl
          simp only [show tRows.sz = 1 from rfl, Nat.mul_one, Nat.add_zero] at h1
          exact H_back (x' := x.tabs[q]) h1 (T := TM) (sl_O.2 ⟨_, rfl, R_setCell hM.out (fun h => HTG.out h) _⟩) (fun k hk => (HTM.out k hk).1) (fun k hk => .inl hk) (fun k hk => .inr hk))
        clear hW
        skip
        have z1_ := z1.out; have z2_ := z2.out; have z3_ := z3.out; have z4_ := z4.out
        have hSz := hB.out.size
        have b0 := Hd.mk (b0.out.fr hX (fun h => by have hlt_ := b0.out.lt; have qg := hgT.out; (try simp only [rng] at h); (try simp only at h); omega))
        have b1 := Hd.mk (b1.out.fr hX (fun h => by have hlt_ := b1.out.lt; have qg := hgT.out; (try simp only [rng] at h); (try simp only at h); omega))
        have b2 := Hd.mk (b2.out.fr hX (fun h => by have hlt_ := b2.out.lt; have qg := hgT.out; (try simp only [rng] at h); (try simp only at h); omega))
        have b3 := Hd.mk (b3.out.fr hX (fun h => by have hlt_ := b3.out.lt; have qg := hgT.out; (try simp only [rng] at h); (try simp only at h); omega))
        have b4 := Hd.mk (b4.out.fr hX (fun h => by have hlt_ := b4.out.lt; have qg := hgT.out; (try simp only [rng] at h); (try simp only at h); omega))
        have hN := Hd.mk (R_fr hN.out hX (fun k hk hl h => by have q_ : k ≠ gT := fun e => hNT.out k hk (e ▸ hgS.out); (try simp only [rng] at hk h); (try simp only at hk); (try simp only at h); omega))
        have hB := Hd.mk (below_frS hB.out hX (fun k h => by have qg := hgT.out; (try simp only [rng] at h); (try simp only at h); omega))
        have hz_ := hX.size
        clear hX
        have z5 := Hd.mk hz_; clear hz_
        clear hH hM
        have HT2 := Hd.mk (show ∀ k, (ST k ∨ TM k) → W1.heap.size ≤ k ∧ k < W5.heap.size from fun k hk => by have hz1 := hB.out.size; have z1_ := z1.out; have z2_ := z2.out; have z3_ := z3.out; have z4_ := z4.out; have z5_ := z5.out; rcases hk with hk | hk; (have := hST.out k hk; omega); (have := (HTM.out k hk).2; omega))
        have fb0_0 : W5.cell? ⟨w.heap.size, 0, none⟩ = some (Value.slice A1 x.cols.length c1) := b0.out.cell 0 rfl
        have fb0_1 : W5.cell? ⟨w.heap.size, 1, none⟩ = some (Value.int IntKind.i64 x.ver) := b0.out.cell 1 rfl
        have fb0_2 : W5.cell? ⟨w.heap.size, 2, none⟩ = some (Value.slice A2 x.tabs.length c2) := b0.out.cell 2 rfl
        have fb0_z := b0.out.frozen
        have fb1_0 : W5.cell? ⟨w.heap.size + 1, 0, none⟩ = some (Value.int IntKind.i64 old.id) := b1.out.cell 0 rfl
        have fb1_1 : W5.cell? ⟨w.heap.size + 1, 1, none⟩ = some (Value.slice A3 old.cells.length c3) := b1.out.cell 1 rfl
        have fb1_z := b1.out.frozen
        have fb2_0 : W5.cell? ⟨w.heap.size + 1 + 1, 0, none⟩ = some (Value.int IntKind.i64 now.id) := b2.out.cell 0 rfl
        have fb2_1 : W5.cell? ⟨w.heap.size + 1 + 1, 1, none⟩ = some (Value.slice A4 now.cells.length c4) := b2.out.cell 1 rfl
        have fb2_z := b2.out.frozen
        have fb3_0 : W5.cell? ⟨w.heap.size + 1 + 1 + 1, 0, none⟩ = some (Value.slice none 0 0) := b3.out.cell 0 rfl
        have fb3_1 : W5.cell? ⟨w.heap.size + 1 + 1 + 1, 1, none⟩ = some (Value.int IntKind.i64 0) := b3.out.cell 1 rfl
        have fb3_2 : W5.cell? ⟨w.heap.size + 1 + 1 + 1, 2, none⟩ = some (Value.slice none 0 0) := b3.out.cell 2 rfl
        have fb3_z := b3.out.frozen
        have fb4_0 : W5.cell? ⟨w2.heap.size, 0, none⟩ = some (Value.slice D1 x.cols.length d1) := b4.out.cell 0 rfl
        have fb4_1 : W5.cell? ⟨w2.heap.size, 1, none⟩ = some (Value.int IntKind.i64 x.ver) := b4.out.cell 1 rfl
        have fb4_2 : W5.cell? ⟨w2.heap.size, 2, none⟩ = some (Value.slice (some ⟨gT, 0, none⟩) x.tabs.length d2) := b4.out.cell 2 rfl
        have fb4_z := b4.out.frozen
        have rfb0_0 := cell_regrown fb0_0
        have rfb0_1 := cell_regrown fb0_1
        have rfb0_2 := cell_regrown fb0_2
        have rfb1_0 := cell_regrown fb1_0
        have rfb1_1 := cell_regrown fb1_1
        have rfb2_0 := cell_regrown fb2_0
        have rfb2_1 := cell_regrown fb2_1
        have rfb3_0 := cell_regrown fb3_0
        have rfb3_1 := cell_regrown fb3_1
        have rfb3_2 := cell_regrown fb3_2
        have rfb4_0 := cell_regrown fb4_0
        have rfb4_1 := cell_regrown fb4_1
        have rfb4_2 := cell_regrown fb4_2
        refine region_mixT (.q 0 (.q 1 (.b 2 .fin))) [3, 4] (by kernel_rfl) (by kernel_rfl) (fun _ _ _ _ _ h => h) ?_
        refine genT ?_
        intro W6 hW
        have hS := Hd.mk (show Below W5.heap.size W5 W6 by rw [hW]; exact below_drew (Below.refl _ _))
        have hz_ : W5.heap.size ≤ W6.heap.size := by rw [hW]; simp
        have hE : Below W5.heap.size W5 W6 := by rw [hW]; (repeat (first | with_reducible refine below_alloc ?_ _ | with_reducible refine below_drew ?_)); exact Below.refl _ _
        have hB := Hd.mk (below_then hB.out hE)
        have b0 := Hd.mk (b0.out.below hE)
        have b1 := Hd.mk (b1.out.below hE)
        have b2 := Hd.mk (b2.out.below hE)
        have b3 := Hd.mk (b3.out.below hE)
        have b4 := Hd.mk (b4.out.below hE)
        have hN := Hd.mk (R_below hN.out hE)
        have hT2 := Hd.mk (R_below hT2.out hE)
        clear hW hE
        have z6 := Hd.mk hz_; clear hz_
        refine mixT_q rfl ?_
        go_big_quiet_want; go_big_quiet_op; go_big_quiet_on; refine wpQuiet_nil ?_
        refine mixT_q rfl ?_
        go_big_quiet_want; go_big_quiet_op; go_big_quiet_on; refine wpQuiet_nil ?_
        refine mixT_b rfl ?_ (by rfl)
        go_wp2_with fail
        apply calls_gen; intro W7 hW
        have hz_ : W6.heap.size ≤ W7.heap.size := by rw [hW]; simp
        have hE : Below W6.heap.size W6 W7 := by rw [hW]; (repeat (first | with_reducible refine below_alloc ?_ _ | with_reducible refine below_drew ?_)); exact Below.refl _ _
        have hB := Hd.mk (below_then hB.out hE)
        replace hS := Hd.mk (below_then hS.out hE)
        have b0 := Hd.mk (b0.out.below hE)
        have b1 := Hd.mk (b1.out.below hE)
        have b2 := Hd.mk (b2.out.below hE)
        have b3 := Hd.mk (b3.out.below hE)
        have b4 := Hd.mk (b4.out.below hE)
        have hN := Hd.mk (R_below hN.out hE)
        have hT2 := Hd.mk (R_below hT2.out hE)
        clear hW hE
        have z7 := Hd.mk hz_; clear hz_
        refine (impl_StoreOk ⟨x.cols, x.ver, x.tabs.set q (x.tabs[q])⟩ [Value.slice D1 x.cols.length d1, Value.int IntKind.i64 x.ver, Value.slice (some ⟨gT, 0, none⟩) x.tabs.length d2] _ (store_K2 hN.out hT2.out (by simp))).mono ?_
        rintro e w8 ⟨rfl, hX⟩
        have b0 := Hd.mk (b0.out.below hX)
        have b1 := Hd.mk (b1.out.below hX)
        have b2 := Hd.mk (b2.out.below hX)
        have b3 := Hd.mk (b3.out.below hX)
        have b4 := Hd.mk (b4.out.below hX)
        have hN := Hd.mk (R_below hN.out hX)
        have hT2 := Hd.mk (R_below hT2.out hX)
        have hB := Hd.mk (below_then hB.out hX)
        replace hS := Hd.mk (below_then hS.out hX)
        have hz_ := hX.size
        clear hX
        have z8 := Hd.mk hz_; clear hz_
        go_wp2_with fail
        refine ⟨cls_below hS.out, ?_⟩
        refine mixT_fin ?_
        clear hS
        clear rfb0_0 rfb0_1 rfb0_2 rfb1_0 rfb1_1 rfb2_0 rfb2_1 rfb3_0 rfb3_1 rfb3_2 rfb4_0 rfb4_1 rfb4_2
        clear fb0_0 fb0_1 fb0_2 fb0_z fb1_0 fb1_1 fb1_z fb2_0 fb2_1 fb2_z fb3_0 fb3_1 fb3_2 fb3_z fb4_0 fb4_1 fb4_2 fb4_z
        have fb0_0 : w8.cell? ⟨w.heap.size, 0, none⟩ = some (Value.slice A1 x.cols.length c1) := b0.out.cell 0 rfl
        have fb0_1 : w8.cell? ⟨w.heap.size, 1, none⟩ = some (Value.int IntKind.i64 x.ver) := b0.out.cell 1 rfl
        have fb0_2 : w8.cell? ⟨w.heap.size, 2, none⟩ = some (Value.slice A2 x.tabs.length c2) := b0.out.cell 2 rfl
        have fb0_z := b0.out.frozen
        have fb1_0 : w8.cell? ⟨w.heap.size + 1, 0, none⟩ = some (Value.int IntKind.i64 old.id) := b1.out.cell 0 rfl
        have fb1_1 : w8.cell? ⟨w.heap.size + 1, 1, none⟩ = some (Value.slice A3 old.cells.length c3) := b1.out.cell 1 rfl
        have fb1_z := b1.out.frozen
        have fb2_0 : w8.cell? ⟨w.heap.size + 1 + 1, 0, none⟩ = some (Value.int IntKind.i64 now.id) := b2.out.cell 0 rfl
        have fb2_1 : w8.cell? ⟨w.heap.size + 1 + 1, 1, none⟩ = some (Value.slice A4 now.cells.length c4) := b2.out.cell 1 rfl
        have fb2_z := b2.out.frozen
        have fb3_0 : w8.cell? ⟨w.heap.size + 1 + 1 + 1, 0, none⟩ = some (Value.slice none 0 0) := b3.out.cell 0 rfl
        have fb3_1 : w8.cell? ⟨w.heap.size + 1 + 1 + 1, 1, none⟩ = some (Value.int IntKind.i64 0) := b3.out.cell 1 rfl
        have fb3_2 : w8.cell? ⟨w.heap.size + 1 + 1 + 1, 2, none⟩ = some (Value.slice none 0 0) := b3.out.cell 2 rfl
        have fb3_z := b3.out.frozen
        have fb4_0 : w8.cell? ⟨w2.heap.size, 0, none⟩ = some (Value.slice D1 x.cols.length d1) := b4.out.cell 0 rfl
        have fb4_1 : w8.cell? ⟨w2.heap.size, 1, none⟩ = some (Value.int IntKind.i64 x.ver) := b4.out.cell 1 rfl
        have fb4_2 : w8.cell? ⟨w2.heap.size, 2, none⟩ = some (Value.slice (some ⟨gT, 0, none⟩) x.tabs.length d2) := b4.out.cell 2 rfl
        have fb4_z := b4.out.frozen
        refine tail_b rfl ?_ (by rfl)
        go_wp2_with fail
        refine mixQ_n ?_
        refine tail_b rfl ?_ (by rfl)
        go_wp2_with fail
        refine mixQ_n ?_
        refine tail_nil ?_
        go_wp2_with fail
        refine bodyPost_retW (v := .tuple #[.agg #[Value.slice D1 x.cols.length d1, Value.int IntKind.i64 x.ver, Value.slice (some ⟨gT, 0, none⟩) x.tabs.length d2], .bool (storeOk ⟨x.cols, x.ver, x.tabs.set q (x.tabs[q])⟩)]) (by simp [results, Try.results85, go_sem, fb0_0, fb0_1, fb0_2, fb0_z, fb1_0, fb1_1, fb1_z, fb2_0, fb2_1, fb2_z, fb3_0, fb3_1, fb3_2, fb3_z, fb4_0, fb4_1, fb4_2, fb4_z]) rfl ?_
        intro W hW
        clear fb0_0 fb0_1 fb0_2 fb0_z fb1_0 fb1_1 fb1_z fb2_0 fb2_1 fb2_z fb3_0 fb3_1 fb3_2 fb3_z fb4_0 fb4_1 fb4_2 fb4_z
        have hz_ : w8.heap.size ≤ W.heap.size := by rw [hW]; simp
        have eF : Fr w8 W (fun k => k = w.heap.size + 1 + 1 + 1 ∨ w8.heap.size ≤ k) := by rw [hW]; (repeat (first | with_reducible refine Fr.setCell ?_ _ (fun _ => by simp <;> omega) _ | with_reducible refine Fr.alloc ?_ _ | with_reducible refine Fr.drew ?_)); exact Fr.refl _ _
        have z1_ := z1.out; have z2_ := z2.out; have z3_ := z3.out; have z4_ := z4.out; have z5_ := z5.out; have z6_ := z6.out; have z7_ := z7.out; have z8_ := z8.out
        have hB := Hd.mk (((Fr.of_below hB.out (fun k => k = w.heap.size + 1 + 1 + 1 ∨ w8.heap.size ≤ k)).then_ eF (fun k hk _ => hk)).below (fun k hk => by have := hB.out.size; omega))
        have b0 := Hd.mk (b0.out.fr eF (fun h => by have hlt_ := b0.out.lt; (try simp only at h); omega))
        have b1 := Hd.mk (b1.out.fr eF (fun h => by have hlt_ := b1.out.lt; (try simp only at h); omega))
        have b2 := Hd.mk (b2.out.fr eF (fun h => by have hlt_ := b2.out.lt; (try simp only at h); omega))
        have b3 := Hd.mk (show Blk W (w.heap.size + 1 + 1 + 1) #[Value.slice D1 x.cols.length d1, Value.int IntKind.i64 x.ver, Value.slice (some ⟨gT, 0, none⟩) x.tabs.length d2] 37 by rw [hW]; exact (Blk.all b3.out [Value.slice D1 x.cols.length d1, Value.int IntKind.i64 x.ver, Value.slice (some ⟨gT, 0, none⟩) x.tabs.length d2] rfl))
        have b4 := Hd.mk (b4.out.fr eF (fun h => by have hlt_ := b4.out.lt; (try simp only at h); omega))
        have hN := Hd.mk (R_fr hN.out eF (fun k hk hl h => by have q_ := hSN.out k hk; (try simp only [rng] at hk); (try simp only at hk); (try simp only at h); omega))
        have hT2 := Hd.mk (R_fr hT2.out eF (fun k hk hl h => by have q_ := HT2.out k hk; (try simp only [rng] at hk); (try simp only at hk); (try simp only at h); omega))
        clear hW eF
        have z9 := Hd.mk hz_; clear hz_
        have hBs := hB.out.size
        have z1_ := z1.out; have z2_ := z2.out; have z3_ := z3.out; have z4_ := z4.out; have z5_ := z5.out; have z6_ := z6.out; have z7_ := z7.out; have z8_ := z8.out; have z9_ := z9.out
        exact ⟨[Value.slice D1 x.cols.length d1, Value.int IntKind.i64 x.ver, Value.slice (some ⟨gT, 0, none⟩) x.tabs.length d2], by rw [HN.out], by rw [HF.out]; exact store_O2 hN.out hT2.out (by simp) (fun k hk => by have := hSN.out k hk; omega) (fun k hk => by have := HT2.out k hk; omega) (fun k hk h2 => by rcases h2 with h2 | h2; exact hNT.out k hk h2; exact HNM.out k hk h2), hB.out⟩
      · have fb0_0 : w4.cell? ⟨w.heap.size, 0, none⟩ = some (Value.slice A1 x.cols.length c1) := b0.out.cell 0 rfl
        have fb0_1 : w4.cell? ⟨w.heap.size, 1, none⟩ = some (Value.int IntKind.i64 x.ver) := b0.out.cell 1 rfl
        have fb0_2 : w4.cell? ⟨w.heap.size, 2, none⟩ = some (Value.slice A2 x.tabs.length c2) := b0.out.cell 2 rfl
        have fb0_z := b0.out.frozen
        have fb1_0 : w4.cell? ⟨w.heap.size + 1, 0, none⟩ = some (Value.int IntKind.i64 old.id) := b1.out.cell 0 rfl
        have fb1_1 : w4.cell? ⟨w.heap.size + 1, 1, none⟩ = some (Value.slice A3 old.cells.length c3) := b1.out.cell 1 rfl
        have fb1_z := b1.out.frozen
        have fb2_0 : w4.cell? ⟨w.heap.size + 1 + 1, 0, none⟩ = some (Value.int IntKind.i64 now.id) := b2.out.cell 0 rfl
        have fb2_1 : w4.cell? ⟨w.heap.size + 1 + 1, 1, none⟩ = some (Value.slice A4 now.cells.length c4) := b2.out.cell 1 rfl
        have fb2_z := b2.out.frozen
        have fb3_0 : w4.cell? ⟨w.heap.size + 1 + 1 + 1, 0, none⟩ = some (Value.slice none 0 0) := b3.out.cell 0 rfl
        have fb3_1 : w4.cell? ⟨w.heap.size + 1 + 1 + 1, 1, none⟩ = some (Value.int IntKind.i64 0) := b3.out.cell 1 rfl
        have fb3_2 : w4.cell? ⟨w.heap.size + 1 + 1 + 1, 2, none⟩ = some (Value.slice none 0 0) := b3.out.cell 2 rfl
        have fb3_z := b3.out.frozen
        have fb4_0 : w4.cell? ⟨w2.heap.size, 0, none⟩ = some (Value.slice D1 x.cols.length d1) := b4.out.cell 0 rfl
        have fb4_1 : w4.cell? ⟨w2.heap.size, 1, none⟩ = some (Value.int IntKind.i64 x.ver) := b4.out.cell 1 rfl
        have fb4_2 : w4.cell? ⟨w2.heap.size, 2, none⟩ = some (Value.slice (some ⟨gT, 0, none⟩) x.tabs.length d2) := b4.out.cell 2 rfl
        have fb4_z := b4.out.frozen
        go_wp2_with fail
        clear fb0_0 fb0_1 fb0_2 fb0_z fb1_0 fb1_1 fb1_z fb2_0 fb2_1 fb2_z fb3_0 fb3_1 fb3_2 fb3_z fb4_0 fb4_1 fb4_2 fb4_z
        apply calls_gen; intro W5 hW
        have hz_ : w4.heap.size ≤ W5.heap.size := by rw [hW]; simp
        have hE : Below w4.heap.size w4 W5 := by rw [hW]; (repeat (first | with_reducible refine below_alloc ?_ _ | with_reducible refine below_drew ?_)); exact Below.refl _ _
        have hB := Hd.mk (below_then hB.out hE)
        have b0 := Hd.mk (b0.out.below hE)
        have b1 := Hd.mk (b1.out.below hE)
        have b2 := Hd.mk (b2.out.below hE)
        have b3 := Hd.mk (b3.out.below hE)
        have b4 := Hd.mk (b4.out.below hE)
        have hN := Hd.mk (R_below hN.out hE)
        have hH := Hd.mk (H_below hH.out hE)
        have hM := Hd.mk (R_below hM.out hE)
        clear hW hE
        have z5 := Hd.mk hz_; clear hz_
        refine (impl_RowAt _ _ (x.tabs[q]) now.id _ (R_Cv hM.out)).mono ?_
        rintro e w6 ⟨rfl, hX⟩
        have b0 := Hd.mk (b0.out.below hX)
        have b1 := Hd.mk (b1.out.below hX)
        have b2 := Hd.mk (b2.out.below hX)
        have b3 := Hd.mk (b3.out.below hX)
        have b4 := Hd.mk (b4.out.below hX)
        have hN := Hd.mk (R_below hN.out hX)
        have hH := Hd.mk (H_below hH.out hX)
        have hM := Hd.mk (R_below hM.out hX)
        have hB := Hd.mk (below_then hB.out hX)
        have hz_ := hX.size
        clear hX
        have z6 := Hd.mk hz_; clear hz_
        rcases idxF_cases (fun r : Row => r.id == now.id) (x.tabs[q]) with ⟨h1, h2⟩ | ⟨h1, h2⟩
        · rw [show rowAt (x.tabs[q]) now.id = -1 from h1]
          have HCB := Hd.mk (sw_b1 HMD.out now h1)
          clear h1 h2
          have fb0_0 : w6.cell? ⟨w.heap.size, 0, none⟩ = some (Value.slice A1 x.cols.length c1) := b0.out.cell 0 rfl
          have fb0_1 : w6.cell? ⟨w.heap.size, 1, none⟩ = some (Value.int IntKind.i64 x.ver) := b0.out.cell 1 rfl
          have fb0_2 : w6.cell? ⟨w.heap.size, 2, none⟩ = some (Value.slice A2 x.tabs.length c2) := b0.out.cell 2 rfl
          have fb0_z := b0.out.frozen
          have fb1_0 : w6.cell? ⟨w.heap.size + 1, 0, none⟩ = some (Value.int IntKind.i64 old.id) := b1.out.cell 0 rfl
          have fb1_1 : w6.cell? ⟨w.heap.size + 1, 1, none⟩ = some (Value.slice A3 old.cells.length c3) := b1.out.cell 1 rfl
          have fb1_z := b1.out.frozen
          have fb2_0 : w6.cell? ⟨w.heap.size + 1 + 1, 0, none⟩ = some (Value.int IntKind.i64 now.id) := b2.out.cell 0 rfl
          have fb2_1 : w6.cell? ⟨w.heap.size + 1 + 1, 1, none⟩ = some (Value.slice A4 now.cells.length c4) := b2.out.cell 1 rfl
          have fb2_z := b2.out.frozen
          have fb3_0 : w6.cell? ⟨w.heap.size + 1 + 1 + 1, 0, none⟩ = some (Value.slice none 0 0) := b3.out.cell 0 rfl
          have fb3_1 : w6.cell? ⟨w.heap.size + 1 + 1 + 1, 1, none⟩ = some (Value.int IntKind.i64 0) := b3.out.cell 1 rfl
          have fb3_2 : w6.cell? ⟨w.heap.size + 1 + 1 + 1, 2, none⟩ = some (Value.slice none 0 0) := b3.out.cell 2 rfl
          have fb3_z := b3.out.frozen
          have fb4_0 : w6.cell? ⟨w2.heap.size, 0, none⟩ = some (Value.slice D1 x.cols.length d1) := b4.out.cell 0 rfl
          have fb4_1 : w6.cell? ⟨w2.heap.size, 1, none⟩ = some (Value.int IntKind.i64 x.ver) := b4.out.cell 1 rfl
          have fb4_2 : w6.cell? ⟨w2.heap.size, 2, none⟩ = some (Value.slice (some ⟨gT, 0, none⟩) x.tabs.length d2) := b4.out.cell 2 rfl
          have fb4_z := b4.out.frozen
          go_wp2_with fail
          clear fb0_0 fb0_1 fb0_2 fb0_z fb1_0 fb1_1 fb1_z fb2_0 fb2_1 fb2_z fb3_0 fb3_1 fb3_2 fb3_z fb4_0 fb4_1 fb4_2 fb4_z
          apply calls_gen; intro W7 hW
          have hz_ : w6.heap.size ≤ W7.heap.size := by rw [hW]; simp
          have hE : Below w6.heap.size w6 W7 := by rw [hW]; (repeat (first | with_reducible refine below_alloc ?_ _ | with_reducible refine below_drew ?_)); exact Below.refl _ _
          have hB := Hd.mk (below_then hB.out hE)
          have b0 := Hd.mk (b0.out.below hE)
          have b1 := Hd.mk (b1.out.below hE)
          have b2 := Hd.mk (b2.out.below hE)
          have b3 := Hd.mk (b3.out.below hE)
          have b4 := Hd.mk (b4.out.below hE)
          have hN := Hd.mk (R_below hN.out hE)
          have hH := Hd.mk (H_below hH.out hE)
          have hM := Hd.mk (R_below hM.out hE)
          clear hW hE
          have z7 := Hd.mk hz_; clear hz_
          refine (impl_RowPut _ _ (x.tabs[q]) now _ _ (R_Cv hM.out) (tRow.K_below hB.out HK2.out) (by have := hbm.out; omega) (by omega)).mono ?_
          rintro e w8 ⟨v6, rfl, hM6, hX⟩
          have b0 := Hd.mk (b0.out.below hX)
          have b1 := Hd.mk (b1.out.below hX)
          have b2 := Hd.mk (b2.out.below hX)
          have b3 := Hd.mk (b3.out.below hX)
          have b4 := Hd.mk (b4.out.below hX)
          have hN := Hd.mk (R_below hN.out hX)
          have hH := Hd.mk (H_below hH.out hX)
          have hM := Hd.mk (R_below hM.out hX)
          have hB := Hd.mk (below_then hB.out hX)
          have hz_ := hX.size
          clear hX
          have z8 := Hd.mk hz_; clear hz_
          clear hM
          replace hM6 := R_bound hM6
          obtain ⟨TM, hTM⟩ : ∃ z : Nat → Prop, z = (fun k => W7.heap.size ≤ k ∧ k < w8.heap.size) := ⟨_, rfl⟩
          rw [← hTM] at hM6
          obtain ⟨AM, cM, hv_, hcM, _⟩ := R_C hM6
          subst hv_
          have hM := Hd.mk hM6; clear hM6
          have HTM := Hd.mk (show ∀ k, TM k → (SI k ∨ ¬ ST k) ∧ W1.heap.size ≤ k ∧ k < w8.heap.size by rw [hTM]; intro k hk; have z1_ := z1.out; have z2_ := z2.out; have z3_ := z3.out; have z4_ := z4.out; have z5_ := z5.out; have z6_ := z6.out; have z7_ := z7.out; have z8_ := z8.out; exact ⟨.inr (fun hs => by have := hST.out k hs; omega), by omega, by omega⟩)
          have HTG := Hd.mk (show ¬ TM gT by rw [hTM]; intro hk; have z1_ := z1.out; have z2_ := z2.out; have z3_ := z3.out; have z4_ := z4.out; have z5_ := z5.out; have z6_ := z6.out; have z7_ := z7.out; have z8_ := z8.out; have := hgT.out; omega)
          have HNM := Hd.mk (show ∀ k, SN k → ¬ TM k by rw [hTM]; intro k h1 hk; have z1_ := z1.out; have z2_ := z2.out; have z3_ := z3.out; have z4_ := z4.out; have z5_ := z5.out; have z6_ := z6.out; have z7_ := z7.out; have z8_ := z8.out; have := hSN.out k h1; omega)
          clear hTM
          have hmq := (R_Cv hM.out).1
          have HME := Hd.mk (sw_m1 HMD.out now)
          obtain ⟨hn_, hf_⟩ := sw_yes hqt HHB.out HCA.out HCB.out HME.out
          have HN := Hd.mk hn_; have HF := Hd.mk hf_; clear hn_ hf_
          obtain ⟨gT2, capT2, hgT2, _, _, _, hgl2, hngI, hcell, hfz⟩ := H_cells hH.out (by decide)
          injection hgT2 with hg1 _ hg2
          injection hg1 with hg1
          injection hg1 with hg1 _ _
          subst hg1; subst hg2
          have x0 := hcell 0 _ rfl
          simp only [show tRows.sz = 1 from rfl, Nat.mul_one, Nat.add_zero] at x0
          have xz : w8.frozen? ⟨gT, q, none⟩ = false := hfz q
          clear hcell hfz
          have fb0_0 : w8.cell? ⟨w.heap.size, 0, none⟩ = some (Value.slice A1 x.cols.length c1) := b0.out.cell 0 rfl
          have fb0_1 : w8.cell? ⟨w.heap.size, 1, none⟩ = some (Value.int IntKind.i64 x.ver) := b0.out.cell 1 rfl
          have fb0_2 : w8.cell? ⟨w.heap.size, 2, none⟩ = some (Value.slice A2 x.tabs.length c2) := b0.out.cell 2 rfl
          have fb0_z := b0.out.frozen
          have fb1_0 : w8.cell? ⟨w.heap.size + 1, 0, none⟩ = some (Value.int IntKind.i64 old.id) := b1.out.cell 0 rfl
          have fb1_1 : w8.cell? ⟨w.heap.size + 1, 1, none⟩ = some (Value.slice A3 old.cells.length c3) := b1.out.cell 1 rfl
          have fb1_z := b1.out.frozen
          have fb2_0 : w8.cell? ⟨w.heap.size + 1 + 1, 0, none⟩ = some (Value.int IntKind.i64 now.id) := b2.out.cell 0 rfl
          have fb2_1 : w8.cell? ⟨w.heap.size + 1 + 1, 1, none⟩ = some (Value.slice A4 now.cells.length c4) := b2.out.cell 1 rfl
          have fb2_z := b2.out.frozen
          have fb3_0 : w8.cell? ⟨w.heap.size + 1 + 1 + 1, 0, none⟩ = some (Value.slice none 0 0) := b3.out.cell 0 rfl
          have fb3_1 : w8.cell? ⟨w.heap.size + 1 + 1 + 1, 1, none⟩ = some (Value.int IntKind.i64 0) := b3.out.cell 1 rfl
          have fb3_2 : w8.cell? ⟨w.heap.size + 1 + 1 + 1, 2, none⟩ = some (Value.slice none 0 0) := b3.out.cell 2 rfl
          have fb3_z := b3.out.frozen
          have fb4_0 : w8.cell? ⟨w2.heap.size, 0, none⟩ = some (Value.slice D1 x.cols.length d1) := b4.out.cell 0 rfl
          have fb4_1 : w8.cell? ⟨w2.heap.size, 1, none⟩ = some (Value.int IntKind.i64 x.ver) := b4.out.cell 1 rfl
          have fb4_2 : w8.cell? ⟨w2.heap.size, 2, none⟩ = some (Value.slice (some ⟨gT, 0, none⟩) x.tabs.length d2) := b4.out.cell 2 rfl
          have fb4_z := b4.out.frozen
          go_wp2_with fail
          clear fb0_0 fb0_1 fb0_2 fb0_z fb1_0 fb1_1 fb1_z fb2_0 fb2_1 fb2_z fb3_0 fb3_1 fb3_2 fb3_z fb4_0 fb4_1 fb4_2 fb4_z
          clear x0 xz
          apply wp_gen; intro W9 hW
          have hX : Fr w8 W9 (fun k => k = gT) := by rw [hW]; exact Fr.setCell (S := fun k => k = gT) (Fr.refl _ _) _ (fun _ => rfl) _
          have hT2 := Hd.mk (show tRows.R 68 W9 (fun k => ST k ∨ TM k) (.slice (some ⟨gT, 0, none⟩) x.tabs.length d2) (x.tabs.set q (rowPut (x.tabs[q]) now)) by
            rw [hW]
            have h1 := H_store hH.out 0 (by decide) (.slice AM ((rowPut (x.tabs[q]) now)).length cM) rfl
            simp only [show tRows.sz = 1 from rfl, Nat.mul_one, Nat.add_zero] at h1
            exact H_back (x' := (rowPut (x.tabs[q]) now)) h1 (T := TM) (sl_O.2 ⟨_, rfl, R_setCell hM.out (fun h => HTG.out h) _⟩) (fun k hk => (HTM.out k hk).1) (fun k hk => .inl hk) (fun k hk => .inr hk))
          clear hW
          skip
          have z1_ := z1.out; have z2_ := z2.out; have z3_ := z3.out; have z4_ := z4.out; have z5_ := z5.out; have z6_ := z6.out; have z7_ := z7.out; have z8_ := z8.out
          have hSz := hB.out.size
          have b0 := Hd.mk (b0.out.fr hX (fun h => by have hlt_ := b0.out.lt; have qg := hgT.out; (try simp only [rng] at h); (try simp only at h); omega))
          have b1 := Hd.mk (b1.out.fr hX (fun h => by have hlt_ := b1.out.lt; have qg := hgT.out; (try simp only [rng] at h); (try simp only at h); omega))
          have b2 := Hd.mk (b2.out.fr hX (fun h => by have hlt_ := b2.out.lt; have qg := hgT.out; (try simp only [rng] at h); (try simp only at h); omega))
          have b3 := Hd.mk (b3.out.fr hX (fun h => by have hlt_ := b3.out.lt; have qg := hgT.out; (try simp only [rng] at h); (try simp only at h); omega))
          have b4 := Hd.mk (b4.out.fr hX (fun h => by have hlt_ := b4.out.lt; have qg := hgT.out; (try simp only [rng] at h); (try simp only at h); omega))
          have hN := Hd.mk (R_fr hN.out hX (fun k hk hl h => by have q_ : k ≠ gT := fun e => hNT.out k hk (e ▸ hgS.out); (try simp only [rng] at hk h); (try simp only at hk); (try simp only at h); omega))
          have hB := Hd.mk (below_frS hB.out hX (fun k h => by have qg := hgT.out; (try simp only [rng] at h); (try simp only at h); omega))
          have hz_ := hX.size
          clear hX
          have z9 := Hd.mk hz_; clear hz_
          clear hH hM
          have HT2 := Hd.mk (show ∀ k, (ST k ∨ TM k) → W1.heap.size ≤ k ∧ k < W9.heap.size from fun k hk => by have hz1 := hB.out.size; have z1_ := z1.out; have z2_ := z2.out; have z3_ := z3.out; have z4_ := z4.out; have z5_ := z5.out; have z6_ := z6.out; have z7_ := z7.out; have z8_ := z8.out; have z9_ := z9.out; rcases hk with hk | hk; (have := hST.out k hk; omega); (have := (HTM.out k hk).2; omega))
          have fb0_0 : W9.cell? ⟨w.heap.size, 0, none⟩ = some (Value.slice A1 x.cols.length c1) := b0.out.cell 0 rfl
          have fb0_1 : W9.cell? ⟨w.heap.size, 1, none⟩ = some (Value.int IntKind.i64 x.ver) := b0.out.cell 1 rfl
          have fb0_2 : W9.cell? ⟨w.heap.size, 2, none⟩ = some (Value.slice A2 x.tabs.length c2) := b0.out.cell 2 rfl
          have fb0_z := b0.out.frozen
          have fb1_0 : W9.cell? ⟨w.heap.size + 1, 0, none⟩ = some (Value.int IntKind.i64 old.id) := b1.out.cell 0 rfl
          have fb1_1 : W9.cell? ⟨w.heap.size + 1, 1, none⟩ = some (Value.slice A3 old.cells.length c3) := b1.out.cell 1 rfl
          have fb1_z := b1.out.frozen
          have fb2_0 : W9.cell? ⟨w.heap.size + 1 + 1, 0, none⟩ = some (Value.int IntKind.i64 now.id) := b2.out.cell 0 rfl
          have fb2_1 : W9.cell? ⟨w.heap.size + 1 + 1, 1, none⟩ = some (Value.slice A4 now.cells.length c4) := b2.out.cell 1 rfl
          have fb2_z := b2.out.frozen
          have fb3_0 : W9.cell? ⟨w.heap.size + 1 + 1 + 1, 0, none⟩ = some (Value.slice none 0 0) := b3.out.cell 0 rfl
          have fb3_1 : W9.cell? ⟨w.heap.size + 1 + 1 + 1, 1, none⟩ = some (Value.int IntKind.i64 0) := b3.out.cell 1 rfl
          have fb3_2 : W9.cell? ⟨w.heap.size + 1 + 1 + 1, 2, none⟩ = some (Value.slice none 0 0) := b3.out.cell 2 rfl
          have fb3_z := b3.out.frozen
          have fb4_0 : W9.cell? ⟨w2.heap.size, 0, none⟩ = some (Value.slice D1 x.cols.length d1) := b4.out.cell 0 rfl
          have fb4_1 : W9.cell? ⟨w2.heap.size, 1, none⟩ = some (Value.int IntKind.i64 x.ver) := b4.out.cell 1 rfl
          have fb4_2 : W9.cell? ⟨w2.heap.size, 2, none⟩ = some (Value.slice (some ⟨gT, 0, none⟩) x.tabs.length d2) := b4.out.cell 2 rfl
          have fb4_z := b4.out.frozen
          have rfb0_0 := cell_regrown fb0_0
          have rfb0_1 := cell_regrown fb0_1
          have rfb0_2 := cell_regrown fb0_2
          have rfb1_0 := cell_regrown fb1_0
          have rfb1_1 := cell_regrown fb1_1
          have rfb2_0 := cell_regrown fb2_0
          have rfb2_1 := cell_regrown fb2_1
          have rfb3_0 := cell_regrown fb3_0
          have rfb3_1 := cell_regrown fb3_1
          have rfb3_2 := cell_regrown fb3_2
          have rfb4_0 := cell_regrown fb4_0
          have rfb4_1 := cell_regrown fb4_1
          have rfb4_2 := cell_regrown fb4_2
          refine region_mixT (.q 0 (.q 1 (.b 2 .fin))) [3, 4] (by kernel_rfl) (by kernel_rfl) (fun _ _ _ _ _ h => h) ?_
          refine genT ?_
          intro W10 hW
          have hS := Hd.mk (show Below W9.heap.size W9 W10 by rw [hW]; exact below_drew (Below.refl _ _))
          have hz_ : W9.heap.size ≤ W10.heap.size := by rw [hW]; simp
          have hE : Below W9.heap.size W9 W10 := by rw [hW]; (repeat (first | with_reducible refine below_alloc ?_ _ | with_reducible refine below_drew ?_)); exact Below.refl _ _
          have hB := Hd.mk (below_then hB.out hE)
          have b0 := Hd.mk (b0.out.below hE)
          have b1 := Hd.mk (b1.out.below hE)
          have b2 := Hd.mk (b2.out.below hE)
          have b3 := Hd.mk (b3.out.below hE)
          have b4 := Hd.mk (b4.out.below hE)
          have hN := Hd.mk (R_below hN.out hE)
          have hT2 := Hd.mk (R_below hT2.out hE)
          clear hW hE
          have z10 := Hd.mk hz_; clear hz_
          refine mixT_q rfl ?_
          go_big_quiet_want; go_big_quiet_op; go_big_quiet_on; refine wpQuiet_nil ?_
          refine mixT_q rfl ?_
          go_big_quiet_want; go_big_quiet_op; go_big_quiet_on; refine wpQuiet_nil ?_
          refine mixT_b rfl ?_ (by rfl)
          go_wp2_with fail
          apply calls_gen; intro W11 hW
          have hz_ : W10.heap.size ≤ W11.heap.size := by rw [hW]; simp
          have hE : Below W10.heap.size W10 W11 := by rw [hW]; (repeat (first | with_reducible refine below_alloc ?_ _ | with_reducible refine below_drew ?_)); exact Below.refl _ _
          have hB := Hd.mk (below_then hB.out hE)
          replace hS := Hd.mk (below_then hS.out hE)
          have b0 := Hd.mk (b0.out.below hE)
          have b1 := Hd.mk (b1.out.below hE)
          have b2 := Hd.mk (b2.out.below hE)
          have b3 := Hd.mk (b3.out.below hE)
          have b4 := Hd.mk (b4.out.below hE)
          have hN := Hd.mk (R_below hN.out hE)
          have hT2 := Hd.mk (R_below hT2.out hE)
          clear hW hE
          have z11 := Hd.mk hz_; clear hz_
          refine (impl_StoreOk ⟨x.cols, x.ver, x.tabs.set q ((rowPut (x.tabs[q]) now))⟩ [Value.slice D1 x.cols.length d1, Value.int IntKind.i64 x.ver, Value.slice (some ⟨gT, 0, none⟩) x.tabs.length d2] _ (store_K2 hN.out hT2.out (by simp))).mono ?_
          rintro e w12 ⟨rfl, hX⟩
          have b0 := Hd.mk (b0.out.below hX)
          have b1 := Hd.mk (b1.out.below hX)
          have b2 := Hd.mk (b2.out.below hX)
          have b3 := Hd.mk (b3.out.below hX)
          have b4 := Hd.mk (b4.out.below hX)
          have hN := Hd.mk (R_below hN.out hX)
          have hT2 := Hd.mk (R_below hT2.out hX)
          have hB := Hd.mk (below_then hB.out hX)
          replace hS := Hd.mk (below_then hS.out hX)
          have hz_ := hX.size
          clear hX
          have z12 := Hd.mk hz_; clear hz_
          go_wp2_with fail
          refine ⟨cls_below hS.out, ?_⟩
          refine mixT_fin ?_
          clear hS
          clear rfb0_0 rfb0_1 rfb0_2 rfb1_0 rfb1_1 rfb2_0 rfb2_1 rfb3_0 rfb3_1 rfb3_2 rfb4_0 rfb4_1 rfb4_2
          clear fb0_0 fb0_1 fb0_2 fb0_z fb1_0 fb1_1 fb1_z fb2_0 fb2_1 fb2_z fb3_0 fb3_1 fb3_2 fb3_z fb4_0 fb4_1 fb4_2 fb4_z
          have fb0_0 : w12.cell? ⟨w.heap.size, 0, none⟩ = some (Value.slice A1 x.cols.length c1) := b0.out.cell 0 rfl
          have fb0_1 : w12.cell? ⟨w.heap.size, 1, none⟩ = some (Value.int IntKind.i64 x.ver) := b0.out.cell 1 rfl
          have fb0_2 : w12.cell? ⟨w.heap.size, 2, none⟩ = some (Value.slice A2 x.tabs.length c2) := b0.out.cell 2 rfl
          have fb0_z := b0.out.frozen
          have fb1_0 : w12.cell? ⟨w.heap.size + 1, 0, none⟩ = some (Value.int IntKind.i64 old.id) := b1.out.cell 0 rfl
          have fb1_1 : w12.cell? ⟨w.heap.size + 1, 1, none⟩ = some (Value.slice A3 old.cells.length c3) := b1.out.cell 1 rfl
          have fb1_z := b1.out.frozen
          have fb2_0 : w12.cell? ⟨w.heap.size + 1 + 1, 0, none⟩ = some (Value.int IntKind.i64 now.id) := b2.out.cell 0 rfl
          have fb2_1 : w12.cell? ⟨w.heap.size + 1 + 1, 1, none⟩ = some (Value.slice A4 now.cells.length c4) := b2.out.cell 1 rfl
          have fb2_z := b2.out.frozen
          have fb3_0 : w12.cell? ⟨w.heap.size + 1 + 1 + 1, 0, none⟩ = some (Value.slice none 0 0) := b3.out.cell 0 rfl
          have fb3_1 : w12.cell? ⟨w.heap.size + 1 + 1 + 1, 1, none⟩ = some (Value.int IntKind.i64 0) := b3.out.cell 1 rfl
          have fb3_2 : w12.cell? ⟨w.heap.size + 1 + 1 + 1, 2, none⟩ = some (Value.slice none 0 0) := b3.out.cell 2 rfl
          have fb3_z := b3.out.frozen
          have fb4_0 : w12.cell? ⟨w2.heap.size, 0, none⟩ = some (Value.slice D1 x.cols.length d1) := b4.out.cell 0 rfl
          have fb4_1 : w12.cell? ⟨w2.heap.size, 1, none⟩ = some (Value.int IntKind.i64 x.ver) := b4.out.cell 1 rfl
          have fb4_2 : w12.cell? ⟨w2.heap.size, 2, none⟩ = some (Value.slice (some ⟨gT, 0, none⟩) x.tabs.length d2) := b4.out.cell 2 rfl
          have fb4_z := b4.out.frozen
          refine tail_b rfl ?_ (by rfl)
          go_wp2_with fail
          refine mixQ_n ?_
          refine tail_b rfl ?_ (by rfl)
          go_wp2_with fail
          refine mixQ_n ?_
          refine tail_nil ?_
          go_wp2_with fail
          refine bodyPost_retW (v := .tuple #[.agg #[Value.slice D1 x.cols.length d1, Value.int IntKind.i64 x.ver, Value.slice (some ⟨gT, 0, none⟩) x.tabs.length d2], .bool (storeOk ⟨x.cols, x.ver, x.tabs.set q ((rowPut (x.tabs[q]) now))⟩)]) (by simp [results, Try.results85, go_sem, fb0_0, fb0_1, fb0_2, fb0_z, fb1_0, fb1_1, fb1_z, fb2_0, fb2_1, fb2_z, fb3_0, fb3_1, fb3_2, fb3_z, fb4_0, fb4_1, fb4_2, fb4_z]) rfl ?_
          intro W hW
          clear fb0_0 fb0_1 fb0_2 fb0_z fb1_0 fb1_1 fb1_z fb2_0 fb2_1 fb2_z fb3_0 fb3_1 fb3_2 fb3_z fb4_0 fb4_1 fb4_2 fb4_z
          have hz_ : w12.heap.size ≤ W.heap.size := by rw [hW]; simp
          have eF : Fr w12 W (fun k => k = w.heap.size + 1 + 1 + 1 ∨ w12.heap.size ≤ k) := by rw [hW]; (repeat (first | with_reducible refine Fr.setCell ?_ _ (fun _ => by simp <;> omega) _ | with_reducible refine Fr.alloc ?_ _ | with_reducible refine Fr.drew ?_)); exact Fr.refl _ _
          have z1_ := z1.out; have z2_ := z2.out; have z3_ := z3.out; have z4_ := z4.out; have z5_ := z5.out; have z6_ := z6.out; have z7_ := z7.out; have z8_ := z8.out; have z9_ := z9.out; have z10_ := z10.out; have z11_ := z11.out; have z12_ := z12.out
          have hB := Hd.mk (((Fr.of_below hB.out (fun k => k = w.heap.size + 1 + 1 + 1 ∨ w12.heap.size ≤ k)).then_ eF (fun k hk _ => hk)).below (fun k hk => by have := hB.out.size; omega))
          have b0 := Hd.mk (b0.out.fr eF (fun h => by have hlt_ := b0.out.lt; (try simp only at h); omega))
          have b1 := Hd.mk (b1.out.fr eF (fun h => by have hlt_ := b1.out.lt; (try simp only at h); omega))
          have b2 := Hd.mk (b2.out.fr eF (fun h => by have hlt_ := b2.out.lt; (try simp only at h); omega))
          have b3 := Hd.mk (show Blk W (w.heap.size + 1 + 1 + 1) #[Value.slice D1 x.cols.length d1, Value.int IntKind.i64 x.ver, Value.slice (some ⟨gT, 0, none⟩) x.tabs.length d2] 37 by rw [hW]; exact (Blk.all b3.out [Value.slice D1 x.cols.length d1, Value.int IntKind.i64 x.ver, Value.slice (some ⟨gT, 0, none⟩) x.tabs.length d2] rfl))
          have b4 := Hd.mk (b4.out.fr eF (fun h => by have hlt_ := b4.out.lt; (try simp only at h); omega))
          have hN := Hd.mk (R_fr hN.out eF (fun k hk hl h => by have q_ := hSN.out k hk; (try simp only [rng] at hk); (try simp only at hk); (try simp only at h); omega))
          have hT2 := Hd.mk (R_fr hT2.out eF (fun k hk hl h => by have q_ := HT2.out k hk; (try simp only [rng] at hk); (try simp only at hk); (try simp only at h); omega))
          clear hW eF
          have z13 := Hd.mk hz_; clear hz_
          have hBs := hB.out.size
          have z1_ := z1.out; have z2_ := z2.out; have z3_ := z3.out; have z4_ := z4.out; have z5_ := z5.out; have z6_ := z6.out; have z7_ := z7.out; have z8_ := z8.out; have z9_ := z9.out; have z10_ := z10.out; have z11_ := z11.out; have z12_ := z12.out; have z13_ := z13.out
          exact ⟨[Value.slice D1 x.cols.length d1, Value.int IntKind.i64 x.ver, Value.slice (some ⟨gT, 0, none⟩) x.tabs.length d2], by rw [HN.out], by rw [HF.out]; exact store_O2 hN.out hT2.out (by simp) (fun k hk => by have := hSN.out k hk; omega) (fun k hk => by have := HT2.out k hk; omega) (fun k hk h2 => by rcases h2 with h2 | h2; exact hNT.out k hk h2; exact HNM.out k hk h2), hB.out⟩
        · rw [show rowAt (x.tabs[q]) now.id = ((x.tabs[q]).findIdx (fun r : Row => r.id == now.id) : Int) from h1]
          have HNO := Hd.mk (sw_no2 HHB.out hqt HMD.out (has := true) now rfl h1)
          generalize (x.tabs[q]).findIdx (fun r : Row => r.id == now.id) = j at h2 ⊢
          clear h1
          have hj0 : (0 : Int) ≤ (j : Int) := by omega
          obtain ⟨hn_, hf_⟩ := sw_no (HNO.out)
          have HN := Hd.mk hn_; have HF := Hd.mk hf_; clear hn_ hf_
          have fb0_0 : w6.cell? ⟨w.heap.size, 0, none⟩ = some (Value.slice A1 x.cols.length c1) := b0.out.cell 0 rfl
          have fb0_1 : w6.cell? ⟨w.heap.size, 1, none⟩ = some (Value.int IntKind.i64 x.ver) := b0.out.cell 1 rfl
          have fb0_2 : w6.cell? ⟨w.heap.size, 2, none⟩ = some (Value.slice A2 x.tabs.length c2) := b0.out.cell 2 rfl
          have fb0_z := b0.out.frozen
          have fb1_0 : w6.cell? ⟨w.heap.size + 1, 0, none⟩ = some (Value.int IntKind.i64 old.id) := b1.out.cell 0 rfl
          have fb1_1 : w6.cell? ⟨w.heap.size + 1, 1, none⟩ = some (Value.slice A3 old.cells.length c3) := b1.out.cell 1 rfl
          have fb1_z := b1.out.frozen
          have fb2_0 : w6.cell? ⟨w.heap.size + 1 + 1, 0, none⟩ = some (Value.int IntKind.i64 now.id) := b2.out.cell 0 rfl
          have fb2_1 : w6.cell? ⟨w.heap.size + 1 + 1, 1, none⟩ = some (Value.slice A4 now.cells.length c4) := b2.out.cell 1 rfl
          have fb2_z := b2.out.frozen
          have fb3_0 : w6.cell? ⟨w.heap.size + 1 + 1 + 1, 0, none⟩ = some (Value.slice none 0 0) := b3.out.cell 0 rfl
          have fb3_1 : w6.cell? ⟨w.heap.size + 1 + 1 + 1, 1, none⟩ = some (Value.int IntKind.i64 0) := b3.out.cell 1 rfl
          have fb3_2 : w6.cell? ⟨w.heap.size + 1 + 1 + 1, 2, none⟩ = some (Value.slice none 0 0) := b3.out.cell 2 rfl
          have fb3_z := b3.out.frozen
          have fb4_0 : w6.cell? ⟨w2.heap.size, 0, none⟩ = some (Value.slice D1 x.cols.length d1) := b4.out.cell 0 rfl
          have fb4_1 : w6.cell? ⟨w2.heap.size, 1, none⟩ = some (Value.int IntKind.i64 x.ver) := b4.out.cell 1 rfl
          have fb4_2 : w6.cell? ⟨w2.heap.size, 2, none⟩ = some (Value.slice (some ⟨gT, 0, none⟩) x.tabs.length d2) := b4.out.cell 2 rfl
          have fb4_z := b4.out.frozen
          go_wp2_with fail
          refine bodyPost_retW (v := .tuple #[.agg #[Value.slice none 0 0, Value.int IntKind.i64 0, Value.slice none 0 0], .bool false]) (by simp [results, Try.results85, go_sem, fb0_0, fb0_1, fb0_2, fb0_z, fb1_0, fb1_1, fb1_z, fb2_0, fb2_1, fb2_z, fb3_0, fb3_1, fb3_2, fb3_z, fb4_0, fb4_1, fb4_2, fb4_z]) rfl ?_
          intro W hW
          clear fb0_0 fb0_1 fb0_2 fb0_z fb1_0 fb1_1 fb1_z fb2_0 fb2_1 fb2_z fb3_0 fb3_1 fb3_2 fb3_z fb4_0 fb4_1 fb4_2 fb4_z
          have hz_ : w6.heap.size ≤ W.heap.size := by rw [hW]; simp
          have eF : Fr w6 W (fun k => k = w.heap.size + 1 + 1 + 1 ∨ w6.heap.size ≤ k) := by rw [hW]; (repeat (first | with_reducible refine Fr.setCell ?_ _ (fun _ => by simp <;> omega) _ | with_reducible refine Fr.alloc ?_ _ | with_reducible refine Fr.drew ?_)); exact Fr.refl _ _
          have z1_ := z1.out; have z2_ := z2.out; have z3_ := z3.out; have z4_ := z4.out; have z5_ := z5.out; have z6_ := z6.out
          have hB := Hd.mk (((Fr.of_below hB.out (fun k => k = w.heap.size + 1 + 1 + 1 ∨ w6.heap.size ≤ k)).then_ eF (fun k hk _ => hk)).below (fun k hk => by have := hB.out.size; omega))
          have b0 := Hd.mk (b0.out.fr eF (fun h => by have hlt_ := b0.out.lt; (try simp only at h); omega))
          have b1 := Hd.mk (b1.out.fr eF (fun h => by have hlt_ := b1.out.lt; (try simp only at h); omega))
          have b2 := Hd.mk (b2.out.fr eF (fun h => by have hlt_ := b2.out.lt; (try simp only at h); omega))
          have b3 := Hd.mk (show Blk W (w.heap.size + 1 + 1 + 1) #[Value.slice none 0 0, Value.int IntKind.i64 0, Value.slice none 0 0] 37 by rw [hW]; exact (Blk.all b3.out [Value.slice none 0 0, Value.int IntKind.i64 0, Value.slice none 0 0] rfl))
          have b4 := Hd.mk (b4.out.fr eF (fun h => by have hlt_ := b4.out.lt; (try simp only at h); omega))
          have hN := Hd.mk (R_fr hN.out eF (fun k hk hl h => by have q_ := hSN.out k hk; (try simp only [rng] at hk); (try simp only at hk); (try simp only at h); omega))
          have hH := Hd.mk (H_frN hH.out eF (fun k hk hl h => by have q_ := hST.out k hk; (try simp only [rng] at hk); (try simp only at hk); (try simp only at h); omega))
          have hM := Hd.mk (R_fr hM.out eF (fun k hk hl h => by have q_ := (HTM.out k hk).2; (try simp only [rng] at hk); (try simp only at hk); (try simp only at h); omega))
          clear hW eF
          have z7 := Hd.mk hz_; clear hz_
          exact ⟨_, by rw [HN.out], by rw [HF.out]; exact ZS _ _, hB.out⟩
    case true =>
      have fb0_0 : w4.cell? ⟨w.heap.size, 0, none⟩ = some (Value.slice A1 x.cols.length c1) := b0.out.cell 0 rfl
      have fb0_1 : w4.cell? ⟨w.heap.size, 1, none⟩ = some (Value.int IntKind.i64 x.ver) := b0.out.cell 1 rfl
      have fb0_2 : w4.cell? ⟨w.heap.size, 2, none⟩ = some (Value.slice A2 x.tabs.length c2) := b0.out.cell 2 rfl
      have fb0_z := b0.out.frozen
      have fb1_0 : w4.cell? ⟨w.heap.size + 1, 0, none⟩ = some (Value.int IntKind.i64 old.id) := b1.out.cell 0 rfl
      have fb1_1 : w4.cell? ⟨w.heap.size + 1, 1, none⟩ = some (Value.slice A3 old.cells.length c3) := b1.out.cell 1 rfl
      have fb1_z := b1.out.frozen
      have fb2_0 : w4.cell? ⟨w.heap.size + 1 + 1, 0, none⟩ = some (Value.int IntKind.i64 now.id) := b2.out.cell 0 rfl
      have fb2_1 : w4.cell? ⟨w.heap.size + 1 + 1, 1, none⟩ = some (Value.slice A4 now.cells.length c4) := b2.out.cell 1 rfl
      have fb2_z := b2.out.frozen
      have fb3_0 : w4.cell? ⟨w.heap.size + 1 + 1 + 1, 0, none⟩ = some (Value.slice none 0 0) := b3.out.cell 0 rfl
      have fb3_1 : w4.cell? ⟨w.heap.size + 1 + 1 + 1, 1, none⟩ = some (Value.int IntKind.i64 0) := b3.out.cell 1 rfl
      have fb3_2 : w4.cell? ⟨w.heap.size + 1 + 1 + 1, 2, none⟩ = some (Value.slice none 0 0) := b3.out.cell 2 rfl
      have fb3_z := b3.out.frozen
      have fb4_0 : w4.cell? ⟨w2.heap.size, 0, none⟩ = some (Value.slice D1 x.cols.length d1) := b4.out.cell 0 rfl
      have fb4_1 : w4.cell? ⟨w2.heap.size, 1, none⟩ = some (Value.int IntKind.i64 x.ver) := b4.out.cell 1 rfl
      have fb4_2 : w4.cell? ⟨w2.heap.size, 2, none⟩ = some (Value.slice (some ⟨gT, 0, none⟩) x.tabs.length d2) := b4.out.cell 2 rfl
      have fb4_z := b4.out.frozen
      go_wp2_with fail
      clear fb0_0 fb0_1 fb0_2 fb0_z fb1_0 fb1_1 fb1_z fb2_0 fb2_1 fb2_z fb3_0 fb3_1 fb3_2 fb3_z fb4_0 fb4_1 fb4_2 fb4_z
      clear x0
      apply calls_gen; intro W5 hW
      have hz_ : w4.heap.size ≤ W5.heap.size := by rw [hW]; simp
      have hE : Below w4.heap.size w4 W5 := by rw [hW]; (repeat (first | with_reducible refine below_alloc ?_ _ | with_reducible refine below_drew ?_)); exact Below.refl _ _
      have hB := Hd.mk (below_then hB.out hE)
      have b0 := Hd.mk (b0.out.below hE)
      have b1 := Hd.mk (b1.out.below hE)
      have b2 := Hd.mk (b2.out.below hE)
      have b3 := Hd.mk (b3.out.below hE)
      have b4 := Hd.mk (b4.out.below hE)
      have hN := Hd.mk (R_below hN.out hE)
      have hH := Hd.mk (H_below hH.out hE)
      have hM := Hd.mk (R_below hM.out hE)
      clear hW hE
      have z5 := Hd.mk hz_; clear hz_
      refine (impl_RowAt _ _ x.tabs[q] old.id _ (R_Cv hM.out)).mono ?_
      rintro e w6 ⟨rfl, hX⟩
      have b0 := Hd.mk (b0.out.below hX)
      have b1 := Hd.mk (b1.out.below hX)
      have b2 := Hd.mk (b2.out.below hX)
      have b3 := Hd.mk (b3.out.below hX)
      have b4 := Hd.mk (b4.out.below hX)
      have hN := Hd.mk (R_below hN.out hX)
      have hH := Hd.mk (H_below hH.out hX)
      have hM := Hd.mk (R_below hM.out hX)
      have hB := Hd.mk (below_then hB.out hX)
      have hz_ := hX.size
      clear hX
      have z6 := Hd.mk hz_; clear hz_
      rcases idxF_cases (fun r : Row => r.id == old.id) x.tabs[q] with ⟨h1, h2⟩ | ⟨h1, h2⟩
      · rw [show rowAt x.tabs[q] old.id = -1 from h1]
        have HNO := Hd.mk (sw_no1 HHB.out hqt (had := true) old has now rfl h1)
        clear h1 h2
        have fb0_0 : w6.cell? ⟨w.heap.size, 0, none⟩ = some (Value.slice A1 x.cols.length c1) := b0.out.cell 0 rfl
        have fb0_1 : w6.cell? ⟨w.heap.size, 1, none⟩ = some (Value.int IntKind.i64 x.ver) := b0.out.cell 1 rfl
        have fb0_2 : w6.cell? ⟨w.heap.size, 2, none⟩ = some (Value.slice A2 x.tabs.length c2) := b0.out.cell 2 rfl
        have fb0_z := b0.out.frozen
        have fb1_0 : w6.cell? ⟨w.heap.size + 1, 0, none⟩ = some (Value.int IntKind.i64 old.id) := b1.out.cell 0 rfl
        have fb1_1 : w6.cell? ⟨w.heap.size + 1, 1, none⟩ = some (Value.slice A3 old.cells.length c3) := b1.out.cell 1 rfl
        have fb1_z := b1.out.frozen
        have fb2_0 : w6.cell? ⟨w.heap.size + 1 + 1, 0, none⟩ = some (Value.int IntKind.i64 now.id) := b2.out.cell 0 rfl
        have fb2_1 : w6.cell? ⟨w.heap.size + 1 + 1, 1, none⟩ = some (Value.slice A4 now.cells.length c4) := b2.out.cell 1 rfl
        have fb2_z := b2.out.frozen
        have fb3_0 : w6.cell? ⟨w.heap.size + 1 + 1 + 1, 0, none⟩ = some (Value.slice none 0 0) := b3.out.cell 0 rfl
        have fb3_1 : w6.cell? ⟨w.heap.size + 1 + 1 + 1, 1, none⟩ = some (Value.int IntKind.i64 0) := b3.out.cell 1 rfl
        have fb3_2 : w6.cell? ⟨w.heap.size + 1 + 1 + 1, 2, none⟩ = some (Value.slice none 0 0) := b3.out.cell 2 rfl
        have fb3_z := b3.out.frozen
        have fb4_0 : w6.cell? ⟨w2.heap.size, 0, none⟩ = some (Value.slice D1 x.cols.length d1) := b4.out.cell 0 rfl
        have fb4_1 : w6.cell? ⟨w2.heap.size, 1, none⟩ = some (Value.int IntKind.i64 x.ver) := b4.out.cell 1 rfl
        have fb4_2 : w6.cell? ⟨w2.heap.size, 2, none⟩ = some (Value.slice (some ⟨gT, 0, none⟩) x.tabs.length d2) := b4.out.cell 2 rfl
        have fb4_z := b4.out.frozen
        go_wp2_with fail
        clear fb0_0 fb0_1 fb0_2 fb0_z fb1_0 fb1_1 fb1_z fb2_0 fb2_1 fb2_z fb3_0 fb3_1 fb3_2 fb3_z fb4_0 fb4_1 fb4_2 fb4_z
        apply wp_gen; intro W7 hW
        have hz_ : w6.heap.size ≤ W7.heap.size := by rw [hW]; simp
        have hE : Below w6.heap.size w6 W7 := by rw [hW]; (repeat (first | with_reducible refine below_alloc ?_ _ | with_reducible refine below_drew ?_)); exact Below.refl _ _
        have hB := Hd.mk (below_then hB.out hE)
        have b0 := Hd.mk (b0.out.below hE)
        have b1 := Hd.mk (b1.out.below hE)
        have b2 := Hd.mk (b2.out.below hE)
        have b3 := Hd.mk (b3.out.below hE)
        have b4 := Hd.mk (b4.out.below hE)
        have hN := Hd.mk (R_below hN.out hE)
        have hH := Hd.mk (H_below hH.out hE)
        have hM := Hd.mk (R_below hM.out hE)
        clear hW hE
        have z7 := Hd.mk hz_; clear hz_
        have fb0_0 : W7.cell? ⟨w.heap.size, 0, none⟩ = some (Value.slice A1 x.cols.length c1) := b0.out.cell 0 rfl
        have fb0_1 : W7.cell? ⟨w.heap.size, 1, none⟩ = some (Value.int IntKind.i64 x.ver) := b0.out.cell 1 rfl
        have fb0_2 : W7.cell? ⟨w.heap.size, 2, none⟩ = some (Value.slice A2 x.tabs.length c2) := b0.out.cell 2 rfl
        have fb0_z := b0.out.frozen
        have fb1_0 : W7.cell? ⟨w.heap.size + 1, 0, none⟩ = some (Value.int IntKind.i64 old.id) := b1.out.cell 0 rfl
        have fb1_1 : W7.cell? ⟨w.heap.size + 1, 1, none⟩ = some (Value.slice A3 old.cells.length c3) := b1.out.cell 1 rfl
        have fb1_z := b1.out.frozen
        have fb2_0 : W7.cell? ⟨w.heap.size + 1 + 1, 0, none⟩ = some (Value.int IntKind.i64 now.id) := b2.out.cell 0 rfl
        have fb2_1 : W7.cell? ⟨w.heap.size + 1 + 1, 1, none⟩ = some (Value.slice A4 now.cells.length c4) := b2.out.cell 1 rfl
        have fb2_z := b2.out.frozen
        have fb3_0 : W7.cell? ⟨w.heap.size + 1 + 1 + 1, 0, none⟩ = some (Value.slice none 0 0) := b3.out.cell 0 rfl
        have fb3_1 : W7.cell? ⟨w.heap.size + 1 + 1 + 1, 1, none⟩ = some (Value.int IntKind.i64 0) := b3.out.cell 1 rfl
        have fb3_2 : W7.cell? ⟨w.heap.size + 1 + 1 + 1, 2, none⟩ = some (Value.slice none 0 0) := b3.out.cell 2 rfl
        have fb3_z := b3.out.frozen
        have fb4_0 : W7.cell? ⟨w2.heap.size, 0, none⟩ = some (Value.slice D1 x.cols.length d1) := b4.out.cell 0 rfl
        have fb4_1 : W7.cell? ⟨w2.heap.size, 1, none⟩ = some (Value.int IntKind.i64 x.ver) := b4.out.cell 1 rfl
        have fb4_2 : W7.cell? ⟨w2.heap.size, 2, none⟩ = some (Value.slice (some ⟨gT, 0, none⟩) x.tabs.length d2) := b4.out.cell 2 rfl
        have fb4_z := b4.out.frozen
        have rfb0_0 := cell_regrown fb0_0
        have rfb0_1 := cell_regrown fb0_1
        have rfb0_2 := cell_regrown fb0_2
        have rfb1_0 := cell_regrown fb1_0
        have rfb1_1 := cell_regrown fb1_1
        have rfb2_0 := cell_regrown fb2_0
        have rfb2_1 := cell_regrown fb2_1
        have rfb3_0 := cell_regrown fb3_0
        have rfb3_1 := cell_regrown fb3_1
        have rfb3_2 := cell_regrown fb3_2
        have rfb4_0 := cell_regrown fb4_0
        have rfb4_1 := cell_regrown fb4_1
        have rfb4_2 := cell_regrown fb4_2
        refine region_mix [(true, 0), (true, 1), (true, 2), (true, 3), (true, 4), (true, 5), (true, 6), (true, 7), (false, 8), (true, 9), (true, 10)] (by kernel_rfl) (by kernel_rfl) (fun _ _ _ _ _ h => h) ?_
        try (repeat (refine mix_q rfl ?_; go_big_quiet_want; go_big_quiet_op; go_big_quiet_on; refine wpQuiet_nil ?_))
        have hS := Hd.mk (Below.refl W7.heap.size W7)
        (repeat (first | (refine mix_z rfl (by rfl) ?_; go_big_quiet_skip; refine wpQuiet_nil ?_) | (refine mix_q rfl ?_; first | (go_big_quiet_skip; refine wpQuiet_nil ?_) | (go_big_quiet_want; go_big_quiet_op; go_big_quiet_on; refine wpQuiet_nil ?_))))
        refine mix_nil ?_
        clear hS
        clear rfb0_0 rfb0_1 rfb0_2 rfb1_0 rfb1_1 rfb2_0 rfb2_1 rfb3_0 rfb3_1 rfb3_2 rfb4_0 rfb4_1 rfb4_2
        clear fb0_0 fb0_1 fb0_2 fb0_z fb1_0 fb1_1 fb1_z fb2_0 fb2_1 fb2_z fb3_0 fb3_1 fb3_2 fb3_z fb4_0 fb4_1 fb4_2 fb4_z
        obtain ⟨hn_, hf_⟩ := sw_no (HNO.out)
        have HN := Hd.mk hn_; have HF := Hd.mk hf_; clear hn_ hf_
        have fb0_0 : W7.cell? ⟨w.heap.size, 0, none⟩ = some (Value.slice A1 x.cols.length c1) := b0.out.cell 0 rfl
        have fb0_1 : W7.cell? ⟨w.heap.size, 1, none⟩ = some (Value.int IntKind.i64 x.ver) := b0.out.cell 1 rfl
        have fb0_2 : W7.cell? ⟨w.heap.size, 2, none⟩ = some (Value.slice A2 x.tabs.length c2) := b0.out.cell 2 rfl
        have fb0_z := b0.out.frozen
        have fb1_0 : W7.cell? ⟨w.heap.size + 1, 0, none⟩ = some (Value.int IntKind.i64 old.id) := b1.out.cell 0 rfl
        have fb1_1 : W7.cell? ⟨w.heap.size + 1, 1, none⟩ = some (Value.slice A3 old.cells.length c3) := b1.out.cell 1 rfl
        have fb1_z := b1.out.frozen
        have fb2_0 : W7.cell? ⟨w.heap.size + 1 + 1, 0, none⟩ = some (Value.int IntKind.i64 now.id) := b2.out.cell 0 rfl
        have fb2_1 : W7.cell? ⟨w.heap.size + 1 + 1, 1, none⟩ = some (Value.slice A4 now.cells.length c4) := b2.out.cell 1 rfl
        have fb2_z := b2.out.frozen
        have fb3_0 : W7.cell? ⟨w.heap.size + 1 + 1 + 1, 0, none⟩ = some (Value.slice none 0 0) := b3.out.cell 0 rfl
        have fb3_1 : W7.cell? ⟨w.heap.size + 1 + 1 + 1, 1, none⟩ = some (Value.int IntKind.i64 0) := b3.out.cell 1 rfl
        have fb3_2 : W7.cell? ⟨w.heap.size + 1 + 1 + 1, 2, none⟩ = some (Value.slice none 0 0) := b3.out.cell 2 rfl
        have fb3_z := b3.out.frozen
        have fb4_0 : W7.cell? ⟨w2.heap.size, 0, none⟩ = some (Value.slice D1 x.cols.length d1) := b4.out.cell 0 rfl
        have fb4_1 : W7.cell? ⟨w2.heap.size, 1, none⟩ = some (Value.int IntKind.i64 x.ver) := b4.out.cell 1 rfl
        have fb4_2 : W7.cell? ⟨w2.heap.size, 2, none⟩ = some (Value.slice (some ⟨gT, 0, none⟩) x.tabs.length d2) := b4.out.cell 2 rfl
        have fb4_z := b4.out.frozen
        go_wp2_with fail
        refine bodyPost_retW (v := .tuple #[.agg #[Value.slice none 0 0, Value.int IntKind.i64 0, Value.slice none 0 0], .bool false]) (by simp [results, Try.results85, go_sem, fb0_0, fb0_1, fb0_2, fb0_z, fb1_0, fb1_1, fb1_z, fb2_0, fb2_1, fb2_z, fb3_0, fb3_1, fb3_2, fb3_z, fb4_0, fb4_1, fb4_2, fb4_z]) rfl ?_
        intro W hW
        clear fb0_0 fb0_1 fb0_2 fb0_z fb1_0 fb1_1 fb1_z fb2_0 fb2_1 fb2_z fb3_0 fb3_1 fb3_2 fb3_z fb4_0 fb4_1 fb4_2 fb4_z
        have hz_ : W7.heap.size ≤ W.heap.size := by rw [hW]; simp
        have eF : Fr W7 W (fun k => k = w.heap.size + 1 + 1 + 1 ∨ W7.heap.size ≤ k) := by rw [hW]; (repeat (first | with_reducible refine Fr.setCell ?_ _ (fun _ => by simp <;> omega) _ | with_reducible refine Fr.alloc ?_ _ | with_reducible refine Fr.drew ?_)); exact Fr.refl _ _
        have z1_ := z1.out; have z2_ := z2.out; have z3_ := z3.out; have z4_ := z4.out; have z5_ := z5.out; have z6_ := z6.out; have z7_ := z7.out
        have hB := Hd.mk (((Fr.of_below hB.out (fun k => k = w.heap.size + 1 + 1 + 1 ∨ W7.heap.size ≤ k)).then_ eF (fun k hk _ => hk)).below (fun k hk => by have := hB.out.size; omega))
        have b0 := Hd.mk (b0.out.fr eF (fun h => by have hlt_ := b0.out.lt; (try simp only at h); omega))
        have b1 := Hd.mk (b1.out.fr eF (fun h => by have hlt_ := b1.out.lt; (try simp only at h); omega))
        have b2 := Hd.mk (b2.out.fr eF (fun h => by have hlt_ := b2.out.lt; (try simp only at h); omega))
        have b3 := Hd.mk (show Blk W (w.heap.size + 1 + 1 + 1) #[Value.slice none 0 0, Value.int IntKind.i64 0, Value.slice none 0 0] 37 by rw [hW]; exact (((b3.out.drew.set 0 (Value.slice none 0 0)).set 1 (Value.int IntKind.i64 0)).set 2 (Value.slice none 0 0)))
        have b4 := Hd.mk (b4.out.fr eF (fun h => by have hlt_ := b4.out.lt; (try simp only at h); omega))
        have hN := Hd.mk (R_fr hN.out eF (fun k hk hl h => by have q_ := hSN.out k hk; (try simp only [rng] at hk); (try simp only at hk); (try simp only at h); omega))
        have hH := Hd.mk (H_frN hH.out eF (fun k hk hl h => by have q_ := hST.out k hk; (try simp only [rng] at hk); (try simp only at hk); (try simp only at h); omega))
        have hM := Hd.mk (R_fr hM.out eF (fun k hk hl h => by have q_ := hST.out k (hSI.out k hk); (try simp only [rng] at hk); (try simp only at hk); (try simp only at h); omega))
        clear hW eF
        have z8 := Hd.mk hz_; clear hz_
        exact ⟨_, by rw [HN.out], by rw [HF.out]; exact ZS _ _, hB.out⟩
      · rw [show rowAt x.tabs[q] old.id = (x.tabs[q].findIdx (fun r : Row => r.id == old.id) : Int) from h1]
        have HR1 := Hd.mk h1
        obtain ⟨j, hj⟩ : ∃ z, z = x.tabs[q].findIdx (fun r : Row => r.id == old.id) := ⟨_, rfl⟩
        rw [← hj] at HR1 h2 ⊢
        clear h1 hj
        have hj0 : (0 : Int) ≤ (j : Int) := by omega
        have hj1 : decide ((j : Int) < 0) = false := decide_eq_false (by omega)
        have fb0_0 : w6.cell? ⟨w.heap.size, 0, none⟩ = some (Value.slice A1 x.cols.length c1) := b0.out.cell 0 rfl
        have fb0_1 : w6.cell? ⟨w.heap.size, 1, none⟩ = some (Value.int IntKind.i64 x.ver) := b0.out.cell 1 rfl
        have fb0_2 : w6.cell? ⟨w.heap.size, 2, none⟩ = some (Value.slice A2 x.tabs.length c2) := b0.out.cell 2 rfl
        have fb0_z := b0.out.frozen
        have fb1_0 : w6.cell? ⟨w.heap.size + 1, 0, none⟩ = some (Value.int IntKind.i64 old.id) := b1.out.cell 0 rfl
        have fb1_1 : w6.cell? ⟨w.heap.size + 1, 1, none⟩ = some (Value.slice A3 old.cells.length c3) := b1.out.cell 1 rfl
        have fb1_z := b1.out.frozen
        have fb2_0 : w6.cell? ⟨w.heap.size + 1 + 1, 0, none⟩ = some (Value.int IntKind.i64 now.id) := b2.out.cell 0 rfl
        have fb2_1 : w6.cell? ⟨w.heap.size + 1 + 1, 1, none⟩ = some (Value.slice A4 now.cells.length c4) := b2.out.cell 1 rfl
        have fb2_z := b2.out.frozen
        have fb3_0 : w6.cell? ⟨w.heap.size + 1 + 1 + 1, 0, none⟩ = some (Value.slice none 0 0) := b3.out.cell 0 rfl
        have fb3_1 : w6.cell? ⟨w.heap.size + 1 + 1 + 1, 1, none⟩ = some (Value.int IntKind.i64 0) := b3.out.cell 1 rfl
        have fb3_2 : w6.cell? ⟨w.heap.size + 1 + 1 + 1, 2, none⟩ = some (Value.slice none 0 0) := b3.out.cell 2 rfl
        have fb3_z := b3.out.frozen
        have fb4_0 : w6.cell? ⟨w2.heap.size, 0, none⟩ = some (Value.slice D1 x.cols.length d1) := b4.out.cell 0 rfl
        have fb4_1 : w6.cell? ⟨w2.heap.size, 1, none⟩ = some (Value.int IntKind.i64 x.ver) := b4.out.cell 1 rfl
        have fb4_2 : w6.cell? ⟨w2.heap.size, 2, none⟩ = some (Value.slice (some ⟨gT, 0, none⟩) x.tabs.length d2) := b4.out.cell 2 rfl
        have fb4_z := b4.out.frozen
        go_wp2_with fail
        clear fb0_0 fb0_1 fb0_2 fb0_z fb1_0 fb1_1 fb1_z fb2_0 fb2_1 fb2_z fb3_0 fb3_1 fb3_2 fb3_z fb4_0 fb4_1 fb4_2 fb4_z
        obtain ⟨ad, Az, cz, rfl, k0, k1, hcz, hrz⟩ := C_row_at (R_Cv hM.out) (Below.refl _ _) j h2
        have y0 := cell_regrown k0
        have y1 := cell_regrown k1
        have HKz := Hd.mk (tRow_K.2 ⟨Az, cz, rfl, hcz, hrz⟩ : tRow.K w6 x.tabs[q][j] _); clear hrz
        have hBz := Hd.mk (Below.refl w6.heap.size w6)
        have fb0_0 : w6.cell? ⟨w.heap.size, 0, none⟩ = some (Value.slice A1 x.cols.length c1) := b0.out.cell 0 rfl
        have fb0_1 : w6.cell? ⟨w.heap.size, 1, none⟩ = some (Value.int IntKind.i64 x.ver) := b0.out.cell 1 rfl
        have fb0_2 : w6.cell? ⟨w.heap.size, 2, none⟩ = some (Value.slice A2 x.tabs.length c2) := b0.out.cell 2 rfl
        have fb0_z := b0.out.frozen
        have fb1_0 : w6.cell? ⟨w.heap.size + 1, 0, none⟩ = some (Value.int IntKind.i64 old.id) := b1.out.cell 0 rfl
        have fb1_1 : w6.cell? ⟨w.heap.size + 1, 1, none⟩ = some (Value.slice A3 old.cells.length c3) := b1.out.cell 1 rfl
        have fb1_z := b1.out.frozen
        have fb2_0 : w6.cell? ⟨w.heap.size + 1 + 1, 0, none⟩ = some (Value.int IntKind.i64 now.id) := b2.out.cell 0 rfl
        have fb2_1 : w6.cell? ⟨w.heap.size + 1 + 1, 1, none⟩ = some (Value.slice A4 now.cells.length c4) := b2.out.cell 1 rfl
        have fb2_z := b2.out.frozen
        have fb3_0 : w6.cell? ⟨w.heap.size + 1 + 1 + 1, 0, none⟩ = some (Value.slice none 0 0) := b3.out.cell 0 rfl
        have fb3_1 : w6.cell? ⟨w.heap.size + 1 + 1 + 1, 1, none⟩ = some (Value.int IntKind.i64 0) := b3.out.cell 1 rfl
        have fb3_2 : w6.cell? ⟨w.heap.size + 1 + 1 + 1, 2, none⟩ = some (Value.slice none 0 0) := b3.out.cell 2 rfl
        have fb3_z := b3.out.frozen
        have fb4_0 : w6.cell? ⟨w2.heap.size, 0, none⟩ = some (Value.slice D1 x.cols.length d1) := b4.out.cell 0 rfl
        have fb4_1 : w6.cell? ⟨w2.heap.size, 1, none⟩ = some (Value.int IntKind.i64 x.ver) := b4.out.cell 1 rfl
        have fb4_2 : w6.cell? ⟨w2.heap.size, 2, none⟩ = some (Value.slice (some ⟨gT, 0, none⟩) x.tabs.length d2) := b4.out.cell 2 rfl
        have fb4_z := b4.out.frozen
        have rfb0_0 := cell_regrown fb0_0
        have rfb0_1 := cell_regrown fb0_1
        have rfb0_2 := cell_regrown fb0_2
        have rfb1_0 := cell_regrown fb1_0
        have rfb1_1 := cell_regrown fb1_1
        have rfb2_0 := cell_regrown fb2_0
        have rfb2_1 := cell_regrown fb2_1
        have rfb3_0 := cell_regrown fb3_0
        have rfb3_1 := cell_regrown fb3_1
        have rfb3_2 := cell_regrown fb3_2
        have rfb4_0 := cell_regrown fb4_0
        have rfb4_1 := cell_regrown fb4_1
        have rfb4_2 := cell_regrown fb4_2
        refine region_mix [(true, 0), (true, 1), (true, 2), (true, 3), (true, 4), (true, 5), (true, 6), (true, 7), (false, 8), (true, 9), (true, 10)] (by kernel_rfl) (by kernel_rfl) (fun _ _ _ _ _ h => h) ?_
        (repeat (first | (refine mix_z rfl (by rfl) ?_; go_big_quiet_skip; refine wpQuiet_nil ?_) | (refine mix_q rfl ?_; first | (go_big_quiet_skip; refine wpQuiet_nil ?_) | (go_big_quiet_want; go_big_quiet_op; go_big_quiet_on; refine wpQuiet_nil ?_))))
        have hS := Hd.mk (Below.refl w6.heap.size w6)
        refine mix_b rfl ?_ (by rfl)
        go_wp2_with fail
        clear k0 k1
        clear fb0_0 fb0_1 fb0_2 fb0_z fb1_0 fb1_1 fb1_z fb2_0 fb2_1 fb2_z fb3_0 fb3_1 fb3_2 fb3_z fb4_0 fb4_1 fb4_2 fb4_z
        apply calls_gen; intro W7 hW
        have hz_ : w6.heap.size ≤ W7.heap.size := by rw [hW]; simp
        have hE : Below w6.heap.size w6 W7 := by rw [hW]; (repeat (first | with_reducible refine below_alloc ?_ _ | with_reducible refine below_drew ?_)); exact Below.refl _ _
        have hB := Hd.mk (below_then hB.out hE)
        have hBz := Hd.mk (below_then hBz.out hE)
        replace hS := Hd.mk (below_then hS.out hE)
        have b0 := Hd.mk (b0.out.below hE)
        have b1 := Hd.mk (b1.out.below hE)
        have b2 := Hd.mk (b2.out.below hE)
        have b3 := Hd.mk (b3.out.below hE)
        have b4 := Hd.mk (b4.out.below hE)
        have hN := Hd.mk (R_below hN.out hE)
        have hH := Hd.mk (H_below hH.out hE)
        have hM := Hd.mk (R_below hM.out hE)
        clear hW hE
        have z7 := Hd.mk hz_; clear hz_
        refine (impl_RowSame x.tabs[q][j] old _ _ _ (tRow.K_below hBz.out HKz.out) (tRow.K_below hB.out HK1.out)).mono ?_
        rintro e w8 ⟨rfl, hX⟩
        have b0 := Hd.mk (b0.out.below hX)
        have b1 := Hd.mk (b1.out.below hX)
        have b2 := Hd.mk (b2.out.below hX)
        have b3 := Hd.mk (b3.out.below hX)
        have b4 := Hd.mk (b4.out.below hX)
        have hN := Hd.mk (R_below hN.out hX)
        have hH := Hd.mk (H_below hH.out hX)
        have hM := Hd.mk (R_below hM.out hX)
        have hB := Hd.mk (below_then hB.out hX)
        replace hS := Hd.mk (below_then hS.out hX)
        have hz_ := hX.size
        have hBz := Hd.mk (below_then hBz.out hX)
        clear hX
        have z8 := Hd.mk hz_; clear hz_
        cases hb2 : eqv x.tabs[q][j] old
        · have HNO := Hd.mk (sw_no3 HHB.out hqt (had := true) old has now rfl HR1.out h2 hb2)
          go_wp2_with fail
          refine ⟨cls_below hS.out, ?_⟩
          (repeat (first | (refine mix_z rfl (by rfl) ?_; go_big_quiet_skip; refine wpQuiet_nil ?_) | (refine mix_q rfl ?_; first | (go_big_quiet_skip; refine wpQuiet_nil ?_) | (go_big_quiet_want; go_big_quiet_op; go_big_quiet_on; refine wpQuiet_nil ?_))))
          refine mix_nil ?_
          clear hS y0 y1 rfb0_0 rfb0_1 rfb0_2 rfb1_0 rfb1_1 rfb2_0 rfb2_1 rfb3_0 rfb3_1 rfb3_2 rfb4_0 rfb4_1 rfb4_2
          obtain ⟨hn_, hf_⟩ := sw_no (HNO.out)
          have HN := Hd.mk hn_; have HF := Hd.mk hf_; clear hn_ hf_
          have fb0_0 : w8.cell? ⟨w.heap.size, 0, none⟩ = some (Value.slice A1 x.cols.length c1) := b0.out.cell 0 rfl
          have fb0_1 : w8.cell? ⟨w.heap.size, 1, none⟩ = some (Value.int IntKind.i64 x.ver) := b0.out.cell 1 rfl
          have fb0_2 : w8.cell? ⟨w.heap.size, 2, none⟩ = some (Value.slice A2 x.tabs.length c2) := b0.out.cell 2 rfl
          have fb0_z := b0.out.frozen
          have fb1_0 : w8.cell? ⟨w.heap.size + 1, 0, none⟩ = some (Value.int IntKind.i64 old.id) := b1.out.cell 0 rfl
          have fb1_1 : w8.cell? ⟨w.heap.size + 1, 1, none⟩ = some (Value.slice A3 old.cells.length c3) := b1.out.cell 1 rfl
          have fb1_z := b1.out.frozen
          have fb2_0 : w8.cell? ⟨w.heap.size + 1 + 1, 0, none⟩ = some (Value.int IntKind.i64 now.id) := b2.out.cell 0 rfl
          have fb2_1 : w8.cell? ⟨w.heap.size + 1 + 1, 1, none⟩ = some (Value.slice A4 now.cells.length c4) := b2.out.cell 1 rfl
          have fb2_z := b2.out.frozen
          have fb3_0 : w8.cell? ⟨w.heap.size + 1 + 1 + 1, 0, none⟩ = some (Value.slice none 0 0) := b3.out.cell 0 rfl
          have fb3_1 : w8.cell? ⟨w.heap.size + 1 + 1 + 1, 1, none⟩ = some (Value.int IntKind.i64 0) := b3.out.cell 1 rfl
          have fb3_2 : w8.cell? ⟨w.heap.size + 1 + 1 + 1, 2, none⟩ = some (Value.slice none 0 0) := b3.out.cell 2 rfl
          have fb3_z := b3.out.frozen
          have fb4_0 : w8.cell? ⟨w2.heap.size, 0, none⟩ = some (Value.slice D1 x.cols.length d1) := b4.out.cell 0 rfl
          have fb4_1 : w8.cell? ⟨w2.heap.size, 1, none⟩ = some (Value.int IntKind.i64 x.ver) := b4.out.cell 1 rfl
          have fb4_2 : w8.cell? ⟨w2.heap.size, 2, none⟩ = some (Value.slice (some ⟨gT, 0, none⟩) x.tabs.length d2) := b4.out.cell 2 rfl
          have fb4_z := b4.out.frozen
          go_wp2_with fail
          refine bodyPost_retW (v := .tuple #[.agg #[Value.slice none 0 0, Value.int IntKind.i64 0, Value.slice none 0 0], .bool false]) (by simp [results, Try.results85, go_sem, fb0_0, fb0_1, fb0_2, fb0_z, fb1_0, fb1_1, fb1_z, fb2_0, fb2_1, fb2_z, fb3_0, fb3_1, fb3_2, fb3_z, fb4_0, fb4_1, fb4_2, fb4_z]) rfl ?_
          intro W hW
          clear fb0_0 fb0_1 fb0_2 fb0_z fb1_0 fb1_1 fb1_z fb2_0 fb2_1 fb2_z fb3_0 fb3_1 fb3_2 fb3_z fb4_0 fb4_1 fb4_2 fb4_z
          have hz_ : w8.heap.size ≤ W.heap.size := by rw [hW]; simp
          have eF : Fr w8 W (fun k => k = w.heap.size + 1 + 1 + 1 ∨ w8.heap.size ≤ k) := by rw [hW]; (repeat (first | with_reducible refine Fr.setCell ?_ _ (fun _ => by simp <;> omega) _ | with_reducible refine Fr.alloc ?_ _ | with_reducible refine Fr.drew ?_)); exact Fr.refl _ _
          have z1_ := z1.out; have z2_ := z2.out; have z3_ := z3.out; have z4_ := z4.out; have z5_ := z5.out; have z6_ := z6.out; have z7_ := z7.out; have z8_ := z8.out
          have hB := Hd.mk (((Fr.of_below hB.out (fun k => k = w.heap.size + 1 + 1 + 1 ∨ w8.heap.size ≤ k)).then_ eF (fun k hk _ => hk)).below (fun k hk => by have := hB.out.size; omega))
          have b0 := Hd.mk (b0.out.fr eF (fun h => by have hlt_ := b0.out.lt; (try simp only at h); omega))
          have b1 := Hd.mk (b1.out.fr eF (fun h => by have hlt_ := b1.out.lt; (try simp only at h); omega))
          have b2 := Hd.mk (b2.out.fr eF (fun h => by have hlt_ := b2.out.lt; (try simp only at h); omega))
          have b3 := Hd.mk (show Blk W (w.heap.size + 1 + 1 + 1) #[Value.slice none 0 0, Value.int IntKind.i64 0, Value.slice none 0 0] 37 by rw [hW]; exact (Blk.all b3.out [Value.slice none 0 0, Value.int IntKind.i64 0, Value.slice none 0 0] rfl))
          have b4 := Hd.mk (b4.out.fr eF (fun h => by have hlt_ := b4.out.lt; (try simp only at h); omega))
          have hN := Hd.mk (R_fr hN.out eF (fun k hk hl h => by have q_ := hSN.out k hk; (try simp only [rng] at hk); (try simp only at hk); (try simp only at h); omega))
          have hH := Hd.mk (H_frN hH.out eF (fun k hk hl h => by have q_ := hST.out k hk; (try simp only [rng] at hk); (try simp only at hk); (try simp only at h); omega))
          have hM := Hd.mk (R_fr hM.out eF (fun k hk hl h => by have q_ := hST.out k (hSI.out k hk); (try simp only [rng] at hk); (try simp only at hk); (try simp only at h); omega))
          clear hW eF
          have z9 := Hd.mk hz_; clear hz_
          exact ⟨_, by rw [HN.out], by rw [HF.out]; exact ZS _ _, hB.out⟩
        · have HCA := Hd.mk (sw_a1 HR1.out h2 hb2)
          have HMD := Hd.mk (sw_d1 x.tabs[q] old)
          go_wp2_with fail
          refine ⟨cls_below hS.out, ?_⟩
          (repeat (first | (refine mix_z rfl (by rfl) ?_; go_big_quiet_skip; refine wpQuiet_nil ?_) | (refine mix_q rfl ?_; first | (go_big_quiet_skip; refine wpQuiet_nil ?_) | (go_big_quiet_want; go_big_quiet_op; go_big_quiet_on; refine wpQuiet_nil ?_))))
          refine mix_nil ?_
          clear hS y0 y1 rfb0_0 rfb0_1 rfb0_2 rfb1_0 rfb1_1 rfb2_0 rfb2_1 rfb3_0 rfb3_1 rfb3_2 rfb4_0 rfb4_1 rfb4_2
          have fb0_0 : w8.cell? ⟨w.heap.size, 0, none⟩ = some (Value.slice A1 x.cols.length c1) := b0.out.cell 0 rfl
          have fb0_1 : w8.cell? ⟨w.heap.size, 1, none⟩ = some (Value.int IntKind.i64 x.ver) := b0.out.cell 1 rfl
          have fb0_2 : w8.cell? ⟨w.heap.size, 2, none⟩ = some (Value.slice A2 x.tabs.length c2) := b0.out.cell 2 rfl
          have fb0_z := b0.out.frozen
          have fb1_0 : w8.cell? ⟨w.heap.size + 1, 0, none⟩ = some (Value.int IntKind.i64 old.id) := b1.out.cell 0 rfl
          have fb1_1 : w8.cell? ⟨w.heap.size + 1, 1, none⟩ = some (Value.slice A3 old.cells.length c3) := b1.out.cell 1 rfl
          have fb1_z := b1.out.frozen
          have fb2_0 : w8.cell? ⟨w.heap.size + 1 + 1, 0, none⟩ = some (Value.int IntKind.i64 now.id) := b2.out.cell 0 rfl
          have fb2_1 : w8.cell? ⟨w.heap.size + 1 + 1, 1, none⟩ = some (Value.slice A4 now.cells.length c4) := b2.out.cell 1 rfl
          have fb2_z := b2.out.frozen
          have fb3_0 : w8.cell? ⟨w.heap.size + 1 + 1 + 1, 0, none⟩ = some (Value.slice none 0 0) := b3.out.cell 0 rfl
          have fb3_1 : w8.cell? ⟨w.heap.size + 1 + 1 + 1, 1, none⟩ = some (Value.int IntKind.i64 0) := b3.out.cell 1 rfl
          have fb3_2 : w8.cell? ⟨w.heap.size + 1 + 1 + 1, 2, none⟩ = some (Value.slice none 0 0) := b3.out.cell 2 rfl
          have fb3_z := b3.out.frozen
          have fb4_0 : w8.cell? ⟨w2.heap.size, 0, none⟩ = some (Value.slice D1 x.cols.length d1) := b4.out.cell 0 rfl
          have fb4_1 : w8.cell? ⟨w2.heap.size, 1, none⟩ = some (Value.int IntKind.i64 x.ver) := b4.out.cell 1 rfl
          have fb4_2 : w8.cell? ⟨w2.heap.size, 2, none⟩ = some (Value.slice (some ⟨gT, 0, none⟩) x.tabs.length d2) := b4.out.cell 2 rfl
          have fb4_z := b4.out.frozen
          go_wp2_with fail
          clear fb0_0 fb0_1 fb0_2 fb0_z fb1_0 fb1_1 fb1_z fb2_0 fb2_1 fb2_z fb3_0 fb3_1 fb3_2 fb3_z fb4_0 fb4_1 fb4_2 fb4_z
          apply calls_gen; intro W9 hW
          have hz_ : w8.heap.size ≤ W9.heap.size := by rw [hW]; simp
          have hE : Below w8.heap.size w8 W9 := by rw [hW]; (repeat (first | with_reducible refine below_alloc ?_ _ | with_reducible refine below_drew ?_)); exact Below.refl _ _
          have hB := Hd.mk (below_then hB.out hE)
          have b0 := Hd.mk (b0.out.below hE)
          have b1 := Hd.mk (b1.out.below hE)
          have b2 := Hd.mk (b2.out.below hE)
          have b3 := Hd.mk (b3.out.below hE)
          have b4 := Hd.mk (b4.out.below hE)
          have hN := Hd.mk (R_below hN.out hE)
          have hH := Hd.mk (H_below hH.out hE)
          have hM := Hd.mk (R_below hM.out hE)
          clear hW hE
          have z9 := Hd.mk hz_; clear hz_
          refine (impl_RowDrop _ _ x.tabs[q] old.id _ (R_Cv hM.out) (by have := hbq.out; omega)).mono ?_
          rintro e w10 ⟨v5, rfl, hM5, hX⟩
          have b0 := Hd.mk (b0.out.below hX)
          have b1 := Hd.mk (b1.out.below hX)
          have b2 := Hd.mk (b2.out.below hX)
          have b3 := Hd.mk (b3.out.below hX)
          have b4 := Hd.mk (b4.out.below hX)
          have hN := Hd.mk (R_below hN.out hX)
          have hH := Hd.mk (H_below hH.out hX)
          have hM := Hd.mk (R_below hM.out hX)
          have hB := Hd.mk (below_then hB.out hX)
          have hz_ := hX.size
          clear hX
          have z10 := Hd.mk hz_; clear hz_
          clear hM
          replace hM5 := R_bound hM5
          obtain ⟨TM, hTM⟩ : ∃ z : Nat → Prop, z = (fun k => W9.heap.size ≤ k ∧ k < w10.heap.size) := ⟨_, rfl⟩
          rw [← hTM] at hM5
          obtain ⟨AM, cM, hv_, hcM, _⟩ := R_C hM5
          subst hv_
          have hM := Hd.mk hM5; clear hM5
          have HTM := Hd.mk (show ∀ k, TM k → (SI k ∨ ¬ ST k) ∧ W1.heap.size ≤ k ∧ k < w10.heap.size by rw [hTM]; intro k hk; have z1_ := z1.out; have z2_ := z2.out; have z3_ := z3.out; have z4_ := z4.out; have z5_ := z5.out; have z6_ := z6.out; have z7_ := z7.out; have z8_ := z8.out; have z9_ := z9.out; have z10_ := z10.out; exact ⟨.inr (fun hs => by have := hST.out k hs; omega), by omega, by omega⟩)
          have HTG := Hd.mk (show ¬ TM gT by rw [hTM]; intro hk; have z1_ := z1.out; have z2_ := z2.out; have z3_ := z3.out; have z4_ := z4.out; have z5_ := z5.out; have z6_ := z6.out; have z7_ := z7.out; have z8_ := z8.out; have z9_ := z9.out; have z10_ := z10.out; have := hgT.out; omega)
          have HNM := Hd.mk (show ∀ k, SN k → ¬ TM k by rw [hTM]; intro k h1 hk; have z1_ := z1.out; have z2_ := z2.out; have z3_ := z3.out; have z4_ := z4.out; have z5_ := z5.out; have z6_ := z6.out; have z7_ := z7.out; have z8_ := z8.out; have z9_ := z9.out; have z10_ := z10.out; have := hSN.out k h1; omega)
          clear hTM
          have hmq := (R_Cv hM.out).1
          have hbm := Hd.mk (Nat.le_trans (bulk_rowDrop x.tabs[q] old.id) hbq.out)
          cases has
          · have HCB := Hd.mk (sw_b0 x.tabs[q] true old now)
            have HME := Hd.mk (sw_m0 HMD.out now)
            obtain ⟨hn_, hf_⟩ := sw_yes hqt HHB.out HCA.out HCB.out HME.out
            have HN := Hd.mk hn_; have HF := Hd.mk hf_; clear hn_ hf_
            obtain ⟨gT2, capT2, hgT2, _, _, _, hgl2, hngI, hcell, hfz⟩ := H_cells hH.out (by decide)
            injection hgT2 with hg1 _ hg2
            injection hg1 with hg1
            injection hg1 with hg1 _ _
            subst hg1; subst hg2
            have x0 := hcell 0 _ rfl
            simp only [show tRows.sz = 1 from rfl, Nat.mul_one, Nat.add_zero] at x0
            have xz : w10.frozen? ⟨gT, q, none⟩ = false := hfz q
            clear hcell hfz
            have fb0_0 : w10.cell? ⟨w.heap.size, 0, none⟩ = some (Value.slice A1 x.cols.length c1) := b0.out.cell 0 rfl
            have fb0_1 : w10.cell? ⟨w.heap.size, 1, none⟩ = some (Value.int IntKind.i64 x.ver) := b0.out.cell 1 rfl
            have fb0_2 : w10.cell? ⟨w.heap.size, 2, none⟩ = some (Value.slice A2 x.tabs.length c2) := b0.out.cell 2 rfl
            have fb0_z := b0.out.frozen
            have fb1_0 : w10.cell? ⟨w.heap.size + 1, 0, none⟩ = some (Value.int IntKind.i64 old.id) := b1.out.cell 0 rfl
            have fb1_1 : w10.cell? ⟨w.heap.size + 1, 1, none⟩ = some (Value.slice A3 old.cells.length c3) := b1.out.cell 1 rfl
            have fb1_z := b1.out.frozen
            have fb2_0 : w10.cell? ⟨w.heap.size + 1 + 1, 0, none⟩ = some (Value.int IntKind.i64 now.id) := b2.out.cell 0 rfl
            have fb2_1 : w10.cell? ⟨w.heap.size + 1 + 1, 1, none⟩ = some (Value.slice A4 now.cells.length c4) := b2.out.cell 1 rfl
            have fb2_z := b2.out.frozen
            have fb3_0 : w10.cell? ⟨w.heap.size + 1 + 1 + 1, 0, none⟩ = some (Value.slice none 0 0) := b3.out.cell 0 rfl
            have fb3_1 : w10.cell? ⟨w.heap.size + 1 + 1 + 1, 1, none⟩ = some (Value.int IntKind.i64 0) := b3.out.cell 1 rfl
            have fb3_2 : w10.cell? ⟨w.heap.size + 1 + 1 + 1, 2, none⟩ = some (Value.slice none 0 0) := b3.out.cell 2 rfl
            have fb3_z := b3.out.frozen
            have fb4_0 : w10.cell? ⟨w2.heap.size, 0, none⟩ = some (Value.slice D1 x.cols.length d1) := b4.out.cell 0 rfl
            have fb4_1 : w10.cell? ⟨w2.heap.size, 1, none⟩ = some (Value.int IntKind.i64 x.ver) := b4.out.cell 1 rfl
            have fb4_2 : w10.cell? ⟨w2.heap.size, 2, none⟩ = some (Value.slice (some ⟨gT, 0, none⟩) x.tabs.length d2) := b4.out.cell 2 rfl
            have fb4_z := b4.out.frozen
            go_wp2_with fail
            clear fb0_0 fb0_1 fb0_2 fb0_z fb1_0 fb1_1 fb1_z fb2_0 fb2_1 fb2_z fb3_0 fb3_1 fb3_2 fb3_z fb4_0 fb4_1 fb4_2 fb4_z
            clear x0 xz
            apply wp_gen; intro W11 hW
            have hX : Fr w10 W11 (fun k => k = gT) := by rw [hW]; exact Fr.setCell (S := fun k => k = gT) (Fr.refl _ _) _ (fun _ => rfl) _
            have hT2 := Hd.mk (show tRows.R 68 W11 (fun k => ST k ∨ TM k) (.slice (some ⟨gT, 0, none⟩) x.tabs.length d2) (x.tabs.set q (rowDrop x.tabs[q] old.id)) by
              rw [hW]
              have h1 := H_store hH.out 0 (by decide) (.slice AM ((rowDrop x.tabs[q] old.id)).length cM) rfl
              simp only [show tRows.sz = 1 from rfl, Nat.mul_one, Nat.add_zero] at h1
              exact H_back (x' := (rowDrop x.tabs[q] old.id)) h1 (T := TM) (sl_O.2 ⟨_, rfl, R_setCell hM.out (fun h => HTG.out h) _⟩) (fun k hk => (HTM.out k hk).1) (fun k hk => .inl hk) (fun k hk => .inr hk))
            clear hW
            skip
            have z1_ := z1.out; have z2_ := z2.out; have z3_ := z3.out; have z4_ := z4.out; have z5_ := z5.out; have z6_ := z6.out; have z7_ := z7.out; have z8_ := z8.out; have z9_ := z9.out; have z10_ := z10.out
            have hSz := hB.out.size
            have b0 := Hd.mk (b0.out.fr hX (fun h => by have hlt_ := b0.out.lt; have qg := hgT.out; (try simp only [rng] at h); (try simp only at h); omega))
            have b1 := Hd.mk (b1.out.fr hX (fun h => by have hlt_ := b1.out.lt; have qg := hgT.out; (try simp only [rng] at h); (try simp only at h); omega))
            have b2 := Hd.mk (b2.out.fr hX (fun h => by have hlt_ := b2.out.lt; have qg := hgT.out; (try simp only [rng] at h); (try simp only at h); omega))
            have b3 := Hd.mk (b3.out.fr hX (fun h => by have hlt_ := b3.out.lt; have qg := hgT.out; (try simp only [rng] at h); (try simp only at h); omega))
            have b4 := Hd.mk (b4.out.fr hX (fun h => by have hlt_ := b4.out.lt; have qg := hgT.out; (try simp only [rng] at h); (try simp only at h); omega))
            have hN := Hd.mk (R_fr hN.out hX (fun k hk hl h => by have q_ : k ≠ gT := fun e => hNT.out k hk (e ▸ hgS.out); (try simp only [rng] at hk h); (try simp only at hk); (try simp only at h); omega))
            have hB := Hd.mk (below_frS hB.out hX (fun k h => by have qg := hgT.out; (try simp only [rng] at h); (try simp only at h); omega))
            have hz_ := hX.size
            clear hX
            have z11 := Hd.mk hz_; clear hz_
            clear hH hM
            have HT2 := Hd.mk (show ∀ k, (ST k ∨ TM k) → W1.heap.size ≤ k ∧ k < W11.heap.size from fun k hk => by have hz1 := hB.out.size; have z1_ := z1.out; have z2_ := z2.out; have z3_ := z3.out; have z4_ := z4.out; have z5_ := z5.out; have z6_ := z6.out; have z7_ := z7.out; have z8_ := z8.out; have z9_ := z9.out; have z10_ := z10.out; have z11_ := z11.out; rcases hk with hk | hk; (have := hST.out k hk; omega); (have := (HTM.out k hk).2; omega))
            have fb0_0 : W11.cell? ⟨w.heap.size, 0, none⟩ = some (Value.slice A1 x.cols.length c1) := b0.out.cell 0 rfl
            have fb0_1 : W11.cell? ⟨w.heap.size, 1, none⟩ = some (Value.int IntKind.i64 x.ver) := b0.out.cell 1 rfl
            have fb0_2 : W11.cell? ⟨w.heap.size, 2, none⟩ = some (Value.slice A2 x.tabs.length c2) := b0.out.cell 2 rfl
            have fb0_z := b0.out.frozen
            have fb1_0 : W11.cell? ⟨w.heap.size + 1, 0, none⟩ = some (Value.int IntKind.i64 old.id) := b1.out.cell 0 rfl
            have fb1_1 : W11.cell? ⟨w.heap.size + 1, 1, none⟩ = some (Value.slice A3 old.cells.length c3) := b1.out.cell 1 rfl
            have fb1_z := b1.out.frozen
            have fb2_0 : W11.cell? ⟨w.heap.size + 1 + 1, 0, none⟩ = some (Value.int IntKind.i64 now.id) := b2.out.cell 0 rfl
            have fb2_1 : W11.cell? ⟨w.heap.size + 1 + 1, 1, none⟩ = some (Value.slice A4 now.cells.length c4) := b2.out.cell 1 rfl
            have fb2_z := b2.out.frozen
            have fb3_0 : W11.cell? ⟨w.heap.size + 1 + 1 + 1, 0, none⟩ = some (Value.slice none 0 0) := b3.out.cell 0 rfl
            have fb3_1 : W11.cell? ⟨w.heap.size + 1 + 1 + 1, 1, none⟩ = some (Value.int IntKind.i64 0) := b3.out.cell 1 rfl
            have fb3_2 : W11.cell? ⟨w.heap.size + 1 + 1 + 1, 2, none⟩ = some (Value.slice none 0 0) := b3.out.cell 2 rfl
            have fb3_z := b3.out.frozen
            have fb4_0 : W11.cell? ⟨w2.heap.size, 0, none⟩ = some (Value.slice D1 x.cols.length d1) := b4.out.cell 0 rfl
            have fb4_1 : W11.cell? ⟨w2.heap.size, 1, none⟩ = some (Value.int IntKind.i64 x.ver) := b4.out.cell 1 rfl
            have fb4_2 : W11.cell? ⟨w2.heap.size, 2, none⟩ = some (Value.slice (some ⟨gT, 0, none⟩) x.tabs.length d2) := b4.out.cell 2 rfl
            have fb4_z := b4.out.frozen
            have rfb0_0 := cell_regrown fb0_0
            have rfb0_1 := cell_regrown fb0_1
            have rfb0_2 := cell_regrown fb0_2
            have rfb1_0 := cell_regrown fb1_0
            have rfb1_1 := cell_regrown fb1_1
            have rfb2_0 := cell_regrown fb2_0
            have rfb2_1 := cell_regrown fb2_1
            have rfb3_0 := cell_regrown fb3_0
            have rfb3_1 := cell_regrown fb3_1
            have rfb3_2 := cell_regrown fb3_2
            have rfb4_0 := cell_regrown fb4_0
            have rfb4_1 := cell_regrown fb4_1
            have rfb4_2 := cell_regrown fb4_2
            refine region_mixT (.q 0 (.q 1 (.b 2 .fin))) [3, 4] (by kernel_rfl) (by kernel_rfl) (fun _ _ _ _ _ h => h) ?_
            refine genT ?_
            intro W12 hW
            have hS := Hd.mk (show Below W11.heap.size W11 W12 by rw [hW]; exact below_drew (Below.refl _ _))
            have hz_ : W11.heap.size ≤ W12.heap.size := by rw [hW]; simp
            have hE : Below W11.heap.size W11 W12 := by rw [hW]; (repeat (first | with_reducible refine below_alloc ?_ _ | with_reducible refine below_drew ?_)); exact Below.refl _ _
            have hB := Hd.mk (below_then hB.out hE)
            have b0 := Hd.mk (b0.out.below hE)
            have b1 := Hd.mk (b1.out.below hE)
            have b2 := Hd.mk (b2.out.below hE)
            have b3 := Hd.mk (b3.out.below hE)
            have b4 := Hd.mk (b4.out.below hE)
            have hN := Hd.mk (R_below hN.out hE)
            have hT2 := Hd.mk (R_below hT2.out hE)
            clear hW hE
            have z12 := Hd.mk hz_; clear hz_
            refine mixT_q rfl ?_
            go_big_quiet_want; go_big_quiet_op; go_big_quiet_on; refine wpQuiet_nil ?_
            refine mixT_q rfl ?_
            go_big_quiet_want; go_big_quiet_op; go_big_quiet_on; refine wpQuiet_nil ?_
            refine mixT_b rfl ?_ (by rfl)
            go_wp2_with fail
            apply calls_gen; intro W13 hW
            have hz_ : W12.heap.size ≤ W13.heap.size := by rw [hW]; simp
            have hE : Below W12.heap.size W12 W13 := by rw [hW]; (repeat (first | with_reducible refine below_alloc ?_ _ | with_reducible refine below_drew ?_)); exact Below.refl _ _
            have hB := Hd.mk (below_then hB.out hE)
            replace hS := Hd.mk (below_then hS.out hE)
            have b0 := Hd.mk (b0.out.below hE)
            have b1 := Hd.mk (b1.out.below hE)
            have b2 := Hd.mk (b2.out.below hE)
            have b3 := Hd.mk (b3.out.below hE)
            have b4 := Hd.mk (b4.out.below hE)
            have hN := Hd.mk (R_below hN.out hE)
            have hT2 := Hd.mk (R_below hT2.out hE)
            clear hW hE
            have z13 := Hd.mk hz_; clear hz_
            refine (impl_StoreOk ⟨x.cols, x.ver, x.tabs.set q ((rowDrop x.tabs[q] old.id))⟩ [Value.slice D1 x.cols.length d1, Value.int IntKind.i64 x.ver, Value.slice (some ⟨gT, 0, none⟩) x.tabs.length d2] _ (store_K2 hN.out hT2.out (by simp))).mono ?_
            rintro e w14 ⟨rfl, hX⟩
            have b0 := Hd.mk (b0.out.below hX)
            have b1 := Hd.mk (b1.out.below hX)
            have b2 := Hd.mk (b2.out.below hX)
            have b3 := Hd.mk (b3.out.below hX)
            have b4 := Hd.mk (b4.out.below hX)
            have hN := Hd.mk (R_below hN.out hX)
            have hT2 := Hd.mk (R_below hT2.out hX)
            have hB := Hd.mk (below_then hB.out hX)
            replace hS := Hd.mk (below_then hS.out hX)
            have hz_ := hX.size
            clear hX
            have z14 := Hd.mk hz_; clear hz_
            go_wp2_with fail
            refine ⟨cls_below hS.out, ?_⟩
            refine mixT_fin ?_
            clear hS
            clear rfb0_0 rfb0_1 rfb0_2 rfb1_0 rfb1_1 rfb2_0 rfb2_1 rfb3_0 rfb3_1 rfb3_2 rfb4_0 rfb4_1 rfb4_2
            clear fb0_0 fb0_1 fb0_2 fb0_z fb1_0 fb1_1 fb1_z fb2_0 fb2_1 fb2_z fb3_0 fb3_1 fb3_2 fb3_z fb4_0 fb4_1 fb4_2 fb4_z
            have fb0_0 : w14.cell? ⟨w.heap.size, 0, none⟩ = some (Value.slice A1 x.cols.length c1) := b0.out.cell 0 rfl
            have fb0_1 : w14.cell? ⟨w.heap.size, 1, none⟩ = some (Value.int IntKind.i64 x.ver) := b0.out.cell 1 rfl
            have fb0_2 : w14.cell? ⟨w.heap.size, 2, none⟩ = some (Value.slice A2 x.tabs.length c2) := b0.out.cell 2 rfl
            have fb0_z := b0.out.frozen
            have fb1_0 : w14.cell? ⟨w.heap.size + 1, 0, none⟩ = some (Value.int IntKind.i64 old.id) := b1.out.cell 0 rfl
            have fb1_1 : w14.cell? ⟨w.heap.size + 1, 1, none⟩ = some (Value.slice A3 old.cells.length c3) := b1.out.cell 1 rfl
            have fb1_z := b1.out.frozen
            have fb2_0 : w14.cell? ⟨w.heap.size + 1 + 1, 0, none⟩ = some (Value.int IntKind.i64 now.id) := b2.out.cell 0 rfl
            have fb2_1 : w14.cell? ⟨w.heap.size + 1 + 1, 1, none⟩ = some (Value.slice A4 now.cells.length c4) := b2.out.cell 1 rfl
            have fb2_z := b2.out.frozen
            have fb3_0 : w14.cell? ⟨w.heap.size + 1 + 1 + 1, 0, none⟩ = some (Value.slice none 0 0) := b3.out.cell 0 rfl
            have fb3_1 : w14.cell? ⟨w.heap.size + 1 + 1 + 1, 1, none⟩ = some (Value.int IntKind.i64 0) := b3.out.cell 1 rfl
            have fb3_2 : w14.cell? ⟨w.heap.size + 1 + 1 + 1, 2, none⟩ = some (Value.slice none 0 0) := b3.out.cell 2 rfl
            have fb3_z := b3.out.frozen
            have fb4_0 : w14.cell? ⟨w2.heap.size, 0, none⟩ = some (Value.slice D1 x.cols.length d1) := b4.out.cell 0 rfl
            have fb4_1 : w14.cell? ⟨w2.heap.size, 1, none⟩ = some (Value.int IntKind.i64 x.ver) := b4.out.cell 1 rfl
            have fb4_2 : w14.cell? ⟨w2.heap.size, 2, none⟩ = some (Value.slice (some ⟨gT, 0, none⟩) x.tabs.length d2) := b4.out.cell 2 rfl
            have fb4_z := b4.out.frozen
            refine tail_b rfl ?_ (by rfl)
            go_wp2_with fail
            refine mixQ_n ?_
            refine tail_b rfl ?_ (by rfl)
            go_wp2_with fail
            refine mixQ_n ?_
            refine tail_nil ?_
            go_wp2_with fail
            refine bodyPost_retW (v := .tuple #[.agg #[Value.slice D1 x.cols.length d1, Value.int IntKind.i64 x.ver, Value.slice (some ⟨gT, 0, none⟩) x.tabs.length d2], .bool (storeOk ⟨x.cols, x.ver, x.tabs.set q ((rowDrop x.tabs[q] old.id))⟩)]) (by simp [results, Try.results85, go_sem, fb0_0, fb0_1, fb0_2, fb0_z, fb1_0, fb1_1, fb1_z, fb2_0, fb2_1, fb2_z, fb3_0, fb3_1, fb3_2, fb3_z, fb4_0, fb4_1, fb4_2, fb4_z]) rfl ?_
            intro W hW
            clear fb0_0 fb0_1 fb0_2 fb0_z fb1_0 fb1_1 fb1_z fb2_0 fb2_1 fb2_z fb3_0 fb3_1 fb3_2 fb3_z fb4_0 fb4_1 fb4_2 fb4_z
            have hz_ : w14.heap.size ≤ W.heap.size := by rw [hW]; simp
            have eF : Fr w14 W (fun k => k = w.heap.size + 1 + 1 + 1 ∨ w14.heap.size ≤ k) := by rw [hW]; (repeat (first | with_reducible refine Fr.setCell ?_ _ (fun _ => by simp <;> omega) _ | with_reducible refine Fr.alloc ?_ _ | with_reducible refine Fr.drew ?_)); exact Fr.refl _ _
            have z1_ := z1.out; have z2_ := z2.out; have z3_ := z3.out; have z4_ := z4.out; have z5_ := z5.out; have z6_ := z6.out; have z7_ := z7.out; have z8_ := z8.out; have z9_ := z9.out; have z10_ := z10.out; have z11_ := z11.out; have z12_ := z12.out; have z13_ := z13.out; have z14_ := z14.out
            have hB := Hd.mk (((Fr.of_below hB.out (fun k => k = w.heap.size + 1 + 1 + 1 ∨ w14.heap.size ≤ k)).then_ eF (fun k hk _ => hk)).below (fun k hk => by have := hB.out.size; omega))
            have b0 := Hd.mk (b0.out.fr eF (fun h => by have hlt_ := b0.out.lt; (try simp only at h); omega))
            have b1 := Hd.mk (b1.out.fr eF (fun h => by have hlt_ := b1.out.lt; (try simp only at h); omega))
            have b2 := Hd.mk (b2.out.fr eF (fun h => by have hlt_ := b2.out.lt; (try simp only at h); omega))
            have b3 := Hd.mk (show Blk W (w.heap.size + 1 + 1 + 1) #[Value.slice D1 x.cols.length d1, Value.int IntKind.i64 x.ver, Value.slice (some ⟨gT, 0, none⟩) x.tabs.length d2] 37 by rw [hW]; exact (Blk.all b3.out [Value.slice D1 x.cols.length d1, Value.int IntKind.i64 x.ver, Value.slice (some ⟨gT, 0, none⟩) x.tabs.length d2] rfl))
            have b4 := Hd.mk (b4.out.fr eF (fun h => by have hlt_ := b4.out.lt; (try simp only at h); omega))
            have hN := Hd.mk (R_fr hN.out eF (fun k hk hl h => by have q_ := hSN.out k hk; (try simp only [rng] at hk); (try simp only at hk); (try simp only at h); omega))
            have hT2 := Hd.mk (R_fr hT2.out eF (fun k hk hl h => by have q_ := HT2.out k hk; (try simp only [rng] at hk); (try simp only at hk); (try simp only at h); omega))
            clear hW eF
            have z15 := Hd.mk hz_; clear hz_
            have hBs := hB.out.size
            have z1_ := z1.out; have z2_ := z2.out; have z3_ := z3.out; have z4_ := z4.out; have z5_ := z5.out; have z6_ := z6.out; have z7_ := z7.out; have z8_ := z8.out; have z9_ := z9.out; have z10_ := z10.out; have z11_ := z11.out; have z12_ := z12.out; have z13_ := z13.out; have z14_ := z14.out; have z15_ := z15.out
            exact ⟨[Value.slice D1 x.cols.length d1, Value.int IntKind.i64 x.ver, Value.slice (some ⟨gT, 0, none⟩) x.tabs.length d2], by rw [HN.out], by rw [HF.out]; exact store_O2 hN.out hT2.out (by simp) (fun k hk => by have := hSN.out k hk; omega) (fun k hk => by have := HT2.out k hk; omega) (fun k hk h2 => by rcases h2 with h2 | h2; exact hNT.out k hk h2; exact HNM.out k hk h2), hB.out⟩
          · have fb0_0 : w10.cell? ⟨w.heap.size, 0, none⟩ = some (Value.slice A1 x.cols.length c1) := b0.out.cell 0 rfl
            have fb0_1 : w10.cell? ⟨w.heap.size, 1, none⟩ = some (Value.int IntKind.i64 x.ver) := b0.out.cell 1 rfl
            have fb0_2 : w10.cell? ⟨w.heap.size, 2, none⟩ = some (Value.slice A2 x.tabs.length c2) := b0.out.cell 2 rfl
            have fb0_z := b0.out.frozen
            have fb1_0 : w10.cell? ⟨w.heap.size + 1, 0, none⟩ = some (Value.int IntKind.i64 old.id) := b1.out.cell 0 rfl
            have fb1_1 : w10.cell? ⟨w.heap.size + 1, 1, none⟩ = some (Value.slice A3 old.cells.length c3) := b1.out.cell 1 rfl
            have fb1_z := b1.out.frozen
            have fb2_0 : w10.cell? ⟨w.heap.size + 1 + 1, 0, none⟩ = some (Value.int IntKind.i64 now.id) := b2.out.cell 0 rfl
            have fb2_1 : w10.cell? ⟨w.heap.size + 1 + 1, 1, none⟩ = some (Value.slice A4 now.cells.length c4) := b2.out.cell 1 rfl
            have fb2_z := b2.out.frozen
            have fb3_0 : w10.cell? ⟨w.heap.size + 1 + 1 + 1, 0, none⟩ = some (Value.slice none 0 0) := b3.out.cell 0 rfl
            have fb3_1 : w10.cell? ⟨w.heap.size + 1 + 1 + 1, 1, none⟩ = some (Value.int IntKind.i64 0) := b3.out.cell 1 rfl
            have fb3_2 : w10.cell? ⟨w.heap.size + 1 + 1 + 1, 2, none⟩ = some (Value.slice none 0 0) := b3.out.cell 2 rfl
            have fb3_z := b3.out.frozen
            have fb4_0 : w10.cell? ⟨w2.heap.size, 0, none⟩ = some (Value.slice D1 x.cols.length d1) := b4.out.cell 0 rfl
            have fb4_1 : w10.cell? ⟨w2.heap.size, 1, none⟩ = some (Value.int IntKind.i64 x.ver) := b4.out.cell 1 rfl
            have fb4_2 : w10.cell? ⟨w2.heap.size, 2, none⟩ = some (Value.slice (some ⟨gT, 0, none⟩) x.tabs.length d2) := b4.out.cell 2 rfl
            have fb4_z := b4.out.frozen
            go_wp2_with fail
            clear fb0_0 fb0_1 fb0_2 fb0_z fb1_0 fb1_1 fb1_z fb2_0 fb2_1 fb2_z fb3_0 fb3_1 fb3_2 fb3_z fb4_0 fb4_1 fb4_2 fb4_z
            apply calls_gen; intro W11 hW
            have hz_ : w10.heap.size ≤ W11.heap.size := by rw [hW]; simp
            have hE : Below w10.heap.size w10 W11 := by rw [hW]; (repeat (first | with_reducible refine below_alloc ?_ _ | with_reducible refine below_drew ?_)); exact Below.refl _ _
            have hB := Hd.mk (below_then hB.out hE)
            have b0 := Hd.mk (b0.out.below hE)
            have b1 := Hd.mk (b1.out.below hE)
            have b2 := Hd.mk (b2.out.below hE)
            have b3 := Hd.mk (b3.out.below hE)
            have b4 := Hd.mk (b4.out.below hE)
            have hN := Hd.mk (R_below hN.out hE)
            have hH := Hd.mk (H_below hH.out hE)
            have hM := Hd.mk (R_below hM.out hE)
            clear hW hE
            have z11 := Hd.mk hz_; clear hz_
            refine (impl_RowAt _ _ ((rowDrop x.tabs[q] old.id)) now.id _ (R_Cv hM.out)).mono ?_
            rintro e w12 ⟨rfl, hX⟩
            have b0 := Hd.mk (b0.out.below hX)
            have b1 := Hd.mk (b1.out.below hX)
            have b2 := Hd.mk (b2.out.below hX)
            have b3 := Hd.mk (b3.out.below hX)
            have b4 := Hd.mk (b4.out.below hX)
            have hN := Hd.mk (R_below hN.out hX)
            have hH := Hd.mk (H_below hH.out hX)
            have hM := Hd.mk (R_below hM.out hX)
            have hB := Hd.mk (below_then hB.out hX)
            have hz_ := hX.size
            clear hX
            have z12 := Hd.mk hz_; clear hz_
            rcases idxF_cases (fun r : Row => r.id == now.id) ((rowDrop x.tabs[q] old.id)) with ⟨h1, h2⟩ | ⟨h1, h2⟩
            · rw [show rowAt ((rowDrop x.tabs[q] old.id)) now.id = -1 from h1]
              have HCB := Hd.mk (sw_b1 HMD.out now h1)
              clear h1 h2
              have fb0_0 : w12.cell? ⟨w.heap.size, 0, none⟩ = some (Value.slice A1 x.cols.length c1) := b0.out.cell 0 rfl
              have fb0_1 : w12.cell? ⟨w.heap.size, 1, none⟩ = some (Value.int IntKind.i64 x.ver) := b0.out.cell 1 rfl
              have fb0_2 : w12.cell? ⟨w.heap.size, 2, none⟩ = some (Value.slice A2 x.tabs.length c2) := b0.out.cell 2 rfl
              have fb0_z := b0.out.frozen
              have fb1_0 : w12.cell? ⟨w.heap.size + 1, 0, none⟩ = some (Value.int IntKind.i64 old.id) := b1.out.cell 0 rfl
              have fb1_1 : w12.cell? ⟨w.heap.size + 1, 1, none⟩ = some (Value.slice A3 old.cells.length c3) := b1.out.cell 1 rfl
              have fb1_z := b1.out.frozen
              have fb2_0 : w12.cell? ⟨w.heap.size + 1 + 1, 0, none⟩ = some (Value.int IntKind.i64 now.id) := b2.out.cell 0 rfl
              have fb2_1 : w12.cell? ⟨w.heap.size + 1 + 1, 1, none⟩ = some (Value.slice A4 now.cells.length c4) := b2.out.cell 1 rfl
              have fb2_z := b2.out.frozen
              have fb3_0 : w12.cell? ⟨w.heap.size + 1 + 1 + 1, 0, none⟩ = some (Value.slice none 0 0) := b3.out.cell 0 rfl
              have fb3_1 : w12.cell? ⟨w.heap.size + 1 + 1 + 1, 1, none⟩ = some (Value.int IntKind.i64 0) := b3.out.cell 1 rfl
              have fb3_2 : w12.cell? ⟨w.heap.size + 1 + 1 + 1, 2, none⟩ = some (Value.slice none 0 0) := b3.out.cell 2 rfl
              have fb3_z := b3.out.frozen
              have fb4_0 : w12.cell? ⟨w2.heap.size, 0, none⟩ = some (Value.slice D1 x.cols.length d1) := b4.out.cell 0 rfl
              have fb4_1 : w12.cell? ⟨w2.heap.size, 1, none⟩ = some (Value.int IntKind.i64 x.ver) := b4.out.cell 1 rfl
              have fb4_2 : w12.cell? ⟨w2.heap.size, 2, none⟩ = some (Value.slice (some ⟨gT, 0, none⟩) x.tabs.length d2) := b4.out.cell 2 rfl
              have fb4_z := b4.out.frozen
              go_wp2_with fail
              clear fb0_0 fb0_1 fb0_2 fb0_z fb1_0 fb1_1 fb1_z fb2_0 fb2_1 fb2_z fb3_0 fb3_1 fb3_2 fb3_z fb4_0 fb4_1 fb4_2 fb4_z
              apply calls_gen; intro W13 hW
              have hz_ : w12.heap.size ≤ W13.heap.size := by rw [hW]; simp
              have hE : Below w12.heap.size w12 W13 := by rw [hW]; (repeat (first | with_reducible refine below_alloc ?_ _ | with_reducible refine below_drew ?_)); exact Below.refl _ _
              have hB := Hd.mk (below_then hB.out hE)
              have b0 := Hd.mk (b0.out.below hE)
              have b1 := Hd.mk (b1.out.below hE)
              have b2 := Hd.mk (b2.out.below hE)
              have b3 := Hd.mk (b3.out.below hE)
              have b4 := Hd.mk (b4.out.below hE)
              have hN := Hd.mk (R_below hN.out hE)
              have hH := Hd.mk (H_below hH.out hE)
              have hM := Hd.mk (R_below hM.out hE)
              clear hW hE
              have z13 := Hd.mk hz_; clear hz_
              refine (impl_RowPut _ _ ((rowDrop x.tabs[q] old.id)) now _ _ (R_Cv hM.out) (tRow.K_below hB.out HK2.out) (by have := hbm.out; omega) (by omega)).mono ?_
              rintro e w14 ⟨v6, rfl, hM6, hX⟩
              have b0 := Hd.mk (b0.out.below hX)
              have b1 := Hd.mk (b1.out.below hX)
              have b2 := Hd.mk (b2.out.below hX)
              have b3 := Hd.mk (b3.out.below hX)
              have b4 := Hd.mk (b4.out.below hX)
              have hN := Hd.mk (R_below hN.out hX)
              have hH := Hd.mk (H_below hH.out hX)
              have hM := Hd.mk (R_below hM.out hX)
              have hB := Hd.mk (below_then hB.out hX)
              have hz_ := hX.size
              clear hX
              have z14 := Hd.mk hz_; clear hz_
              clear hM
              replace hM6 := R_bound hM6
              obtain ⟨TM, hTM⟩ : ∃ z : Nat → Prop, z = (fun k => W13.heap.size ≤ k ∧ k < w14.heap.size) := ⟨_, rfl⟩
              rw [← hTM] at hM6
              obtain ⟨AM, cM, hv_, hcM, _⟩ := R_C hM6
              subst hv_
              have hM := Hd.mk hM6; clear hM6
              have HTM := Hd.mk (show ∀ k, TM k → (SI k ∨ ¬ ST k) ∧ W1.heap.size ≤ k ∧ k < w14.heap.size by rw [hTM]; intro k hk; have z1_ := z1.out; have z2_ := z2.out; have z3_ := z3.out; have z4_ := z4.out; have z5_ := z5.out; have z6_ := z6.out; have z7_ := z7.out; have z8_ := z8.out; have z9_ := z9.out; have z10_ := z10.out; have z11_ := z11.out; have z12_ := z12.out; have z13_ := z13.out; have z14_ := z14.out; exact ⟨.inr (fun hs => by have := hST.out k hs; omega), by omega, by omega⟩)
              have HTG := Hd.mk (show ¬ TM gT by rw [hTM]; intro hk; have z1_ := z1.out; have z2_ := z2.out; have z3_ := z3.out; have z4_ := z4.out; have z5_ := z5.out; have z6_ := z6.out; have z7_ := z7.out; have z8_ := z8.out; have z9_ := z9.out; have z10_ := z10.out; have z11_ := z11.out; have z12_ := z12.out; have z13_ := z13.out; have z14_ := z14.out; have := hgT.out; omega)
              have HNM := Hd.mk (show ∀ k, SN k → ¬ TM k by rw [hTM]; intro k h1 hk; have z1_ := z1.out; have z2_ := z2.out; have z3_ := z3.out; have z4_ := z4.out; have z5_ := z5.out; have z6_ := z6.out; have z7_ := z7.out; have z8_ := z8.out; have z9_ := z9.out; have z10_ := z10.out; have z11_ := z11.out; have z12_ := z12.out; have z13_ := z13.out; have z14_ := z14.out; have := hSN.out k h1; omega)
              clear hTM
              have hmq := (R_Cv hM.out).1
              have HME := Hd.mk (sw_m1 HMD.out now)
              obtain ⟨hn_, hf_⟩ := sw_yes hqt HHB.out HCA.out HCB.out HME.out
              have HN := Hd.mk hn_; have HF := Hd.mk hf_; clear hn_ hf_
              obtain ⟨gT2, capT2, hgT2, _, _, _, hgl2, hngI, hcell, hfz⟩ := H_cells hH.out (by decide)
              injection hgT2 with hg1 _ hg2
              injection hg1 with hg1
              injection hg1 with hg1 _ _
              subst hg1; subst hg2
              have x0 := hcell 0 _ rfl
              simp only [show tRows.sz = 1 from rfl, Nat.mul_one, Nat.add_zero] at x0
              have xz : w14.frozen? ⟨gT, q, none⟩ = false := hfz q
              clear hcell hfz
              have fb0_0 : w14.cell? ⟨w.heap.size, 0, none⟩ = some (Value.slice A1 x.cols.length c1) := b0.out.cell 0 rfl
              have fb0_1 : w14.cell? ⟨w.heap.size, 1, none⟩ = some (Value.int IntKind.i64 x.ver) := b0.out.cell 1 rfl
              have fb0_2 : w14.cell? ⟨w.heap.size, 2, none⟩ = some (Value.slice A2 x.tabs.length c2) := b0.out.cell 2 rfl
              have fb0_z := b0.out.frozen
              have fb1_0 : w14.cell? ⟨w.heap.size + 1, 0, none⟩ = some (Value.int IntKind.i64 old.id) := b1.out.cell 0 rfl
              have fb1_1 : w14.cell? ⟨w.heap.size + 1, 1, none⟩ = some (Value.slice A3 old.cells.length c3) := b1.out.cell 1 rfl
              have fb1_z := b1.out.frozen
              have fb2_0 : w14.cell? ⟨w.heap.size + 1 + 1, 0, none⟩ = some (Value.int IntKind.i64 now.id) := b2.out.cell 0 rfl
              have fb2_1 : w14.cell? ⟨w.heap.size + 1 + 1, 1, none⟩ = some (Value.slice A4 now.cells.length c4) := b2.out.cell 1 rfl
              have fb2_z := b2.out.frozen
              have fb3_0 : w14.cell? ⟨w.heap.size + 1 + 1 + 1, 0, none⟩ = some (Value.slice none 0 0) := b3.out.cell 0 rfl
              have fb3_1 : w14.cell? ⟨w.heap.size + 1 + 1 + 1, 1, none⟩ = some (Value.int IntKind.i64 0) := b3.out.cell 1 rfl
              have fb3_2 : w14.cell? ⟨w.heap.size + 1 + 1 + 1, 2, none⟩ = some (Value.slice none 0 0) := b3.out.cell 2 rfl
              have fb3_z := b3.out.frozen
              have fb4_0 : w14.cell? ⟨w2.heap.size, 0, none⟩ = some (Value.slice D1 x.cols.length d1) := b4.out.cell 0 rfl
              have fb4_1 : w14.cell? ⟨w2.heap.size, 1, none⟩ = some (Value.int IntKind.i64 x.ver) := b4.out.cell 1 rfl
              have fb4_2 : w14.cell? ⟨w2.heap.size, 2, none⟩ = some (Value.slice (some ⟨gT, 0, none⟩) x.tabs.length d2) := b4.out.cell 2 rfl
              have fb4_z := b4.out.frozen
              go_wp2_with fail
              clear fb0_0 fb0_1 fb0_2 fb0_z fb1_0 fb1_1 fb1_z fb2_0 fb2_1 fb2_z fb3_0 fb3_1 fb3_2 fb3_z fb4_0 fb4_1 fb4_2 fb4_z
              clear x0 xz
              apply wp_gen; intro W15 hW
              have hX : Fr w14 W15 (fun k => k = gT) := by rw [hW]; exact Fr.setCell (S := fun k => k = gT) (Fr.refl _ _) _ (fun _ => rfl) _
              have hT2 := Hd.mk (show tRows.R 68 W15 (fun k => ST k ∨ TM k) (.slice (some ⟨gT, 0, none⟩) x.tabs.length d2) (x.tabs.set q (rowPut ((rowDrop x.tabs[q] old.id)) now)) by
                rw [hW]
                have h1 := H_store hH.out 0 (by decide) (.slice AM ((rowPut ((rowDrop x.tabs[q] old.id)) now)).length cM) rfl
                simp only [show tRows.sz = 1 from rfl, Nat.mul_one, Nat.add_zero] at h1
                exact H_back (x' := (rowPut ((rowDrop x.tabs[q] old.id)) now)) h1 (T := TM) (sl_O.2 ⟨_, rfl, R_setCell hM.out (fun h => HTG.out h) _⟩) (fun k hk => (HTM.out k hk).1) (fun k hk => .inl hk) (fun k hk => .inr hk))
              clear hW
              skip
              have z1_ := z1.out; have z2_ := z2.out; have z3_ := z3.out; have z4_ := z4.out; have z5_ := z5.out; have z6_ := z6.out; have z7_ := z7.out; have z8_ := z8.out; have z9_ := z9.out; have z10_ := z10.out; have z11_ := z11.out; have z12_ := z12.out; have z13_ := z13.out; have z14_ := z14.out
              have hSz := hB.out.size
              have b0 := Hd.mk (b0.out.fr hX (fun h => by have hlt_ := b0.out.lt; have qg := hgT.out; (try simp only [rng] at h); (try simp only at h); omega))
              have b1 := Hd.mk (b1.out.fr hX (fun h => by have hlt_ := b1.out.lt; have qg := hgT.out; (try simp only [rng] at h); (try simp only at h); omega))
              have b2 := Hd.mk (b2.out.fr hX (fun h => by have hlt_ := b2.out.lt; have qg := hgT.out; (try simp only [rng] at h); (try simp only at h); omega))
              have b3 := Hd.mk (b3.out.fr hX (fun h => by have hlt_ := b3.out.lt; have qg := hgT.out; (try simp only [rng] at h); (try simp only at h); omega))
              have b4 := Hd.mk (b4.out.fr hX (fun h => by have hlt_ := b4.out.lt; have qg := hgT.out; (try simp only [rng] at h); (try simp only at h); omega))
              have hN := Hd.mk (R_fr hN.out hX (fun k hk hl h => by have q_ : k ≠ gT := fun e => hNT.out k hk (e ▸ hgS.out); (try simp only [rng] at hk h); (try simp only at hk); (try simp only at h); omega))
              have hB := Hd.mk (below_frS hB.out hX (fun k h => by have qg := hgT.out; (try simp only [rng] at h); (try simp only at h); omega))
              have hz_ := hX.size
              clear hX
              have z15 := Hd.mk hz_; clear hz_
              clear hH hM
              have HT2 := Hd.mk (show ∀ k, (ST k ∨ TM k) → W1.heap.size ≤ k ∧ k < W15.heap.size from fun k hk => by have hz1 := hB.out.size; have z1_ := z1.out; have z2_ := z2.out; have z3_ := z3.out; have z4_ := z4.out; have z5_ := z5.out; have z6_ := z6.out; have z7_ := z7.out; have z8_ := z8.out; have z9_ := z9.out; have z10_ := z10.out; have z11_ := z11.out; have z12_ := z12.out; have z13_ := z13.out; have z14_ := z14.out; have z15_ := z15.out; rcases hk with hk | hk; (have := hST.out k hk; omega); (have := (HTM.out k hk).2; omega))
              have fb0_0 : W15.cell? ⟨w.heap.size, 0, none⟩ = some (Value.slice A1 x.cols.length c1) := b0.out.cell 0 rfl
              have fb0_1 : W15.cell? ⟨w.heap.size, 1, none⟩ = some (Value.int IntKind.i64 x.ver) := b0.out.cell 1 rfl
              have fb0_2 : W15.cell? ⟨w.heap.size, 2, none⟩ = some (Value.slice A2 x.tabs.length c2) := b0.out.cell 2 rfl
              have fb0_z := b0.out.frozen
              have fb1_0 : W15.cell? ⟨w.heap.size + 1, 0, none⟩ = some (Value.int IntKind.i64 old.id) := b1.out.cell 0 rfl
              have fb1_1 : W15.cell? ⟨w.heap.size + 1, 1, none⟩ = some (Value.slice A3 old.cells.length c3) := b1.out.cell 1 rfl
              have fb1_z := b1.out.frozen
              have fb2_0 : W15.cell? ⟨w.heap.size + 1 + 1, 0, none⟩ = some (Value.int IntKind.i64 now.id) := b2.out.cell 0 rfl
              have fb2_1 : W15.cell? ⟨w.heap.size + 1 + 1, 1, none⟩ = some (Value.slice A4 now.cells.length c4) := b2.out.cell 1 rfl
              have fb2_z := b2.out.frozen
              have fb3_0 : W15.cell? ⟨w.heap.size + 1 + 1 + 1, 0, none⟩ = some (Value.slice none 0 0) := b3.out.cell 0 rfl
              have fb3_1 : W15.cell? ⟨w.heap.size + 1 + 1 + 1, 1, none⟩ = some (Value.int IntKind.i64 0) := b3.out.cell 1 rfl
              have fb3_2 : W15.cell? ⟨w.heap.size + 1 + 1 + 1, 2, none⟩ = some (Value.slice none 0 0) := b3.out.cell 2 rfl
              have fb3_z := b3.out.frozen
              have fb4_0 : W15.cell? ⟨w2.heap.size, 0, none⟩ = some (Value.slice D1 x.cols.length d1) := b4.out.cell 0 rfl
              have fb4_1 : W15.cell? ⟨w2.heap.size, 1, none⟩ = some (Value.int IntKind.i64 x.ver) := b4.out.cell 1 rfl
              have fb4_2 : W15.cell? ⟨w2.heap.size, 2, none⟩ = some (Value.slice (some ⟨gT, 0, none⟩) x.tabs.length d2) := b4.out.cell 2 rfl
              have fb4_z := b4.out.frozen
              have rfb0_0 := cell_regrown fb0_0
              have rfb0_1 := cell_regrown fb0_1
              have rfb0_2 := cell_regrown fb0_2
              have rfb1_0 := cell_regrown fb1_0
              have rfb1_1 := cell_regrown fb1_1
              have rfb2_0 := cell_regrown fb2_0
              have rfb2_1 := cell_regrown fb2_1
              have rfb3_0 := cell_regrown fb3_0
              have rfb3_1 := cell_regrown fb3_1
              have rfb3_2 := cell_regrown fb3_2
              have rfb4_0 := cell_regrown fb4_0
              have rfb4_1 := cell_regrown fb4_1
              have rfb4_2 := cell_regrown fb4_2
              refine region_mixT (.q 0 (.q 1 (.b 2 .fin))) [3, 4] (by kernel_rfl) (by kernel_rfl) (fun _ _ _ _ _ h => h) ?_
              refine genT ?_
              intro W16 hW
              have hS := Hd.mk (show Below W15.heap.size W15 W16 by rw [hW]; exact below_drew (Below.refl _ _))
              have hz_ : W15.heap.size ≤ W16.heap.size := by rw [hW]; simp
              have hE : Below W15.heap.size W15 W16 := by rw [hW]; (repeat (first | with_reducible refine below_alloc ?_ _ | with_reducible refine below_drew ?_)); exact Below.refl _ _
              have hB := Hd.mk (below_then hB.out hE)
              have b0 := Hd.mk (b0.out.below hE)
              have b1 := Hd.mk (b1.out.below hE)
              have b2 := Hd.mk (b2.out.below hE)
              have b3 := Hd.mk (b3.out.below hE)
              have b4 := Hd.mk (b4.out.below hE)
              have hN := Hd.mk (R_below hN.out hE)
              have hT2 := Hd.mk (R_below hT2.out hE)
              clear hW hE
              have z16 := Hd.mk hz_; clear hz_
              refine mixT_q rfl ?_
              go_big_quiet_want; go_big_quiet_op; go_big_quiet_on; refine wpQuiet_nil ?_
              refine mixT_q rfl ?_
              go_big_quiet_want; go_big_quiet_op; go_big_quiet_on; refine wpQuiet_nil ?_
              refine mixT_b rfl ?_ (by rfl)
              go_wp2_with fail
              apply calls_gen; intro W17 hW
              have hz_ : W16.heap.size ≤ W17.heap.size := by rw [hW]; simp
              have hE : Below W16.heap.size W16 W17 := by rw [hW]; (repeat (first | with_reducible refine below_alloc ?_ _ | with_reducible refine below_drew ?_)); exact Below.refl _ _
              have hB := Hd.mk (below_then hB.out hE)
              replace hS := Hd.mk (below_then hS.out hE)
              have b0 := Hd.mk (b0.out.below hE)
              have b1 := Hd.mk (b1.out.below hE)
              have b2 := Hd.mk (b2.out.below hE)
              have b3 := Hd.mk (b3.out.below hE)
              have b4 := Hd.mk (b4.out.below hE)
              have hN := Hd.mk (R_below hN.out hE)
              have hT2 := Hd.mk (R_below hT2.out hE)
              clear hW hE
              have z17 := Hd.mk hz_; clear hz_
              refine (impl_StoreOk ⟨x.cols, x.ver, x.tabs.set q ((rowPut ((rowDrop x.tabs[q] old.id)) now))⟩ [Value.slice D1 x.cols.length d1, Value.int IntKind.i64 x.ver, Value.slice (some ⟨gT, 0, none⟩) x.tabs.length d2] _ (store_K2 hN.out hT2.out (by simp))).mono ?_
              rintro e w18 ⟨rfl, hX⟩
              have b0 := Hd.mk (b0.out.below hX)
              have b1 := Hd.mk (b1.out.below hX)
              have b2 := Hd.mk (b2.out.below hX)
              have b3 := Hd.mk (b3.out.below hX)
              have b4 := Hd.mk (b4.out.below hX)
              have hN := Hd.mk (R_below hN.out hX)
              have hT2 := Hd.mk (R_below hT2.out hX)
              have hB := Hd.mk (below_then hB.out hX)
              replace hS := Hd.mk (below_then hS.out hX)
              have hz_ := hX.size
              clear hX
              have z18 := Hd.mk hz_; clear hz_
              go_wp2_with fail
              refine ⟨cls_below hS.out, ?_⟩
              refine mixT_fin ?_
              clear hS
              clear rfb0_0 rfb0_1 rfb0_2 rfb1_0 rfb1_1 rfb2_0 rfb2_1 rfb3_0 rfb3_1 rfb3_2 rfb4_0 rfb4_1 rfb4_2
              clear fb0_0 fb0_1 fb0_2 fb0_z fb1_0 fb1_1 fb1_z fb2_0 fb2_1 fb2_z fb3_0 fb3_1 fb3_2 fb3_z fb4_0 fb4_1 fb4_2 fb4_z
              have fb0_0 : w18.cell? ⟨w.heap.size, 0, none⟩ = some (Value.slice A1 x.cols.length c1) := b0.out.cell 0 rfl
              have fb0_1 : w18.cell? ⟨w.heap.size, 1, none⟩ = some (Value.int IntKind.i64 x.ver) := b0.out.cell 1 rfl
              have fb0_2 : w18.cell? ⟨w.heap.size, 2, none⟩ = some (Value.slice A2 x.tabs.length c2) := b0.out.cell 2 rfl
              have fb0_z := b0.out.frozen
              have fb1_0 : w18.cell? ⟨w.heap.size + 1, 0, none⟩ = some (Value.int IntKind.i64 old.id) := b1.out.cell 0 rfl
              have fb1_1 : w18.cell? ⟨w.heap.size + 1, 1, none⟩ = some (Value.slice A3 old.cells.length c3) := b1.out.cell 1 rfl
              have fb1_z := b1.out.frozen
              have fb2_0 : w18.cell? ⟨w.heap.size + 1 + 1, 0, none⟩ = some (Value.int IntKind.i64 now.id) := b2.out.cell 0 rfl
              have fb2_1 : w18.cell? ⟨w.heap.size + 1 + 1, 1, none⟩ = some (Value.slice A4 now.cells.length c4) := b2.out.cell 1 rfl
              have fb2_z := b2.out.frozen
              have fb3_0 : w18.cell? ⟨w.heap.size + 1 + 1 + 1, 0, none⟩ = some (Value.slice none 0 0) := b3.out.cell 0 rfl
              have fb3_1 : w18.cell? ⟨w.heap.size + 1 + 1 + 1, 1, none⟩ = some (Value.int IntKind.i64 0) := b3.out.cell 1 rfl
              have fb3_2 : w18.cell? ⟨w.heap.size + 1 + 1 + 1, 2, none⟩ = some (Value.slice none 0 0) := b3.out.cell 2 rfl
              have fb3_z := b3.out.frozen
              have fb4_0 : w18.cell? ⟨w2.heap.size, 0, none⟩ = some (Value.slice D1 x.cols.length d1) := b4.out.cell 0 rfl
              have fb4_1 : w18.cell? ⟨w2.heap.size, 1, none⟩ = some (Value.int IntKind.i64 x.ver) := b4.out.cell 1 rfl
              have fb4_2 : w18.cell? ⟨w2.heap.size, 2, none⟩ = some (Value.slice (some ⟨gT, 0, none⟩) x.tabs.length d2) := b4.out.cell 2 rfl
              have fb4_z := b4.out.frozen
              refine tail_b rfl ?_ (by rfl)
              go_wp2_with fail
              refine mixQ_n ?_
              refine tail_b rfl ?_ (by rfl)
              go_wp2_with fail
              refine mixQ_n ?_
              refine tail_nil ?_
              go_wp2_with fail
              refine bodyPost_retW (v := .tuple #[.agg #[Value.slice D1 x.cols.length d1, Value.int IntKind.i64 x.ver, Value.slice (some ⟨gT, 0, none⟩) x.tabs.length d2], .bool (storeOk ⟨x.cols, x.ver, x.tabs.set q ((rowPut ((rowDrop x.tabs[q] old.id)) now))⟩)]) (by simp [results, Try.results85, go_sem, fb0_0, fb0_1, fb0_2, fb0_z, fb1_0, fb1_1, fb1_z, fb2_0, fb2_1, fb2_z, fb3_0, fb3_1, fb3_2, fb3_z, fb4_0, fb4_1, fb4_2, fb4_z]) rfl ?_
              intro W hW
              clear fb0_0 fb0_1 fb0_2 fb0_z fb1_0 fb1_1 fb1_z fb2_0 fb2_1 fb2_z fb3_0 fb3_1 fb3_2 fb3_z fb4_0 fb4_1 fb4_2 fb4_z
              have hz_ : w18.heap.size ≤ W.heap.size := by rw [hW]; simp
              have eF : Fr w18 W (fun k => k = w.heap.size + 1 + 1 + 1 ∨ w18.heap.size ≤ k) := by rw [hW]; (repeat (first | with_reducible refine Fr.setCell ?_ _ (fun _ => by simp <;> omega) _ | with_reducible refine Fr.alloc ?_ _ | with_reducible refine Fr.drew ?_)); exact Fr.refl _ _
              have z1_ := z1.out; have z2_ := z2.out; have z3_ := z3.out; have z4_ := z4.out; have z5_ := z5.out; have z6_ := z6.out; have z7_ := z7.out; have z8_ := z8.out; have z9_ := z9.out; have z10_ := z10.out; have z11_ := z11.out; have z12_ := z12.out; have z13_ := z13.out; have z14_ := z14.out; have z15_ := z15.out; have z16_ := z16.out; have z17_ := z17.out; have z18_ := z18.out
              have hB := Hd.mk (((Fr.of_below hB.out (fun k => k = w.heap.size + 1 + 1 + 1 ∨ w18.heap.size ≤ k)).then_ eF (fun k hk _ => hk)).below (fun k hk => by have := hB.out.size; omega))
              have b0 := Hd.mk (b0.out.fr eF (fun h => by have hlt_ := b0.out.lt; (try simp only at h); omega))
              have b1 := Hd.mk (b1.out.fr eF (fun h => by have hlt_ := b1.out.lt; (try simp only at h); omega))
              have b2 := Hd.mk (b2.out.fr eF (fun h => by have hlt_ := b2.out.lt; (try simp only at h); omega))
              have b3 := Hd.mk (show Blk W (w.heap.size + 1 + 1 + 1) #[Value.slice D1 x.cols.length d1, Value.int IntKind.i64 x.ver, Value.slice (some ⟨gT, 0, none⟩) x.tabs.length d2] 37 by rw [hW]; exact (Blk.all b3.out [Value.slice D1 x.cols.length d1, Value.int IntKind.i64 x.ver, Value.slice (some ⟨gT, 0, none⟩) x.tabs.length d2] rfl))
              have b4 := Hd.mk (b4.out.fr eF (fun h => by have hlt_ := b4.out.lt; (try simp only at h); omega))
              have hN := Hd.mk (R_fr hN.out eF (fun k hk hl h => by have q_ := hSN.out k hk; (try simp only [rng] at hk); (try simp only at hk); (try simp only at h); omega))
              have hT2 := Hd.mk (R_fr hT2.out eF (fun k hk hl h => by have q_ := HT2.out k hk; (try simp only [rng] at hk); (try simp only at hk); (try simp only at h); omega))
              clear hW eF
              have z19 := Hd.mk hz_; clear hz_
              have hBs := hB.out.size
              have z1_ := z1.out; have z2_ := z2.out; have z3_ := z3.out; have z4_ := z4.out; have z5_ := z5.out; have z6_ := z6.out; have z7_ := z7.out; have z8_ := z8.out; have z9_ := z9.out; have z10_ := z10.out; have z11_ := z11.out; have z12_ := z12.out; have z13_ := z13.out; have z14_ := z14.out; have z15_ := z15.out; have z16_ := z16.out; have z17_ := z17.out; have z18_ := z18.out; have z19_ := z19.out
              exact ⟨[Value.slice D1 x.cols.length d1, Value.int IntKind.i64 x.ver, Value.slice (some ⟨gT, 0, none⟩) x.tabs.length d2], by rw [HN.out], by rw [HF.out]; exact store_O2 hN.out hT2.out (by simp) (fun k hk => by have := hSN.out k hk; omega) (fun k hk => by have := HT2.out k hk; omega) (fun k hk h2 => by rcases h2 with h2 | h2; exact hNT.out k hk h2; exact HNM.out k hk h2), hB.out⟩
            · rw [show rowAt ((rowDrop x.tabs[q] old.id)) now.id = (((rowDrop x.tabs[q] old.id)).findIdx (fun r : Row => r.id == now.id) : Int) from h1]
              have HNO := Hd.mk (sw_no2 HHB.out hqt HMD.out (has := true) now rfl h1)
              generalize ((rowDrop x.tabs[q] old.id)).findIdx (fun r : Row => r.id == now.id) = j at h2 ⊢
              clear h1
              have hj0 : (0 : Int) ≤ (j : Int) := by omega
              obtain ⟨hn_, hf_⟩ := sw_no (HNO.out)
              have HN := Hd.mk hn_; have HF := Hd.mk hf_; clear hn_ hf_
              have fb0_0 : w12.cell? ⟨w.heap.size, 0, none⟩ = some (Value.slice A1 x.cols.length c1) := b0.out.cell 0 rfl
              have fb0_1 : w12.cell? ⟨w.heap.size, 1, none⟩ = some (Value.int IntKind.i64 x.ver) := b0.out.cell 1 rfl
              have fb0_2 : w12.cell? ⟨w.heap.size, 2, none⟩ = some (Value.slice A2 x.tabs.length c2) := b0.out.cell 2 rfl
              have fb0_z := b0.out.frozen
              have fb1_0 : w12.cell? ⟨w.heap.size + 1, 0, none⟩ = some (Value.int IntKind.i64 old.id) := b1.out.cell 0 rfl
              have fb1_1 : w12.cell? ⟨w.heap.size + 1, 1, none⟩ = some (Value.slice A3 old.cells.length c3) := b1.out.cell 1 rfl
              have fb1_z := b1.out.frozen
              have fb2_0 : w12.cell? ⟨w.heap.size + 1 + 1, 0, none⟩ = some (Value.int IntKind.i64 now.id) := b2.out.cell 0 rfl
              have fb2_1 : w12.cell? ⟨w.heap.size + 1 + 1, 1, none⟩ = some (Value.slice A4 now.cells.length c4) := b2.out.cell 1 rfl
              have fb2_z := b2.out.frozen
              have fb3_0 : w12.cell? ⟨w.heap.size + 1 + 1 + 1, 0, none⟩ = some (Value.slice none 0 0) := b3.out.cell 0 rfl
              have fb3_1 : w12.cell? ⟨w.heap.size + 1 + 1 + 1, 1, none⟩ = some (Value.int IntKind.i64 0) := b3.out.cell 1 rfl
              have fb3_2 : w12.cell? ⟨w.heap.size + 1 + 1 + 1, 2, none⟩ = some (Value.slice none 0 0) := b3.out.cell 2 rfl
              have fb3_z := b3.out.frozen
              have fb4_0 : w12.cell? ⟨w2.heap.size, 0, none⟩ = some (Value.slice D1 x.cols.length d1) := b4.out.cell 0 rfl
              have fb4_1 : w12.cell? ⟨w2.heap.size, 1, none⟩ = some (Value.int IntKind.i64 x.ver) := b4.out.cell 1 rfl
              have fb4_2 : w12.cell? ⟨w2.heap.size, 2, none⟩ = some (Value.slice (some ⟨gT, 0, none⟩) x.tabs.length d2) := b4.out.cell 2 rfl
              have fb4_z := b4.out.frozen
              go_wp2_with fail
              refine bodyPost_retW (v := .tuple #[.agg #[Value.slice none 0 0, Value.int IntKind.i64 0, Value.slice none 0 0], .bool false]) (by simp [results, Try.results85, go_sem, fb0_0, fb0_1, fb0_2, fb0_z, fb1_0, fb1_1, fb1_z, fb2_0, fb2_1, fb2_z, fb3_0, fb3_1, fb3_2, fb3_z, fb4_0, fb4_1, fb4_2, fb4_z]) rfl ?_
              intro W hW
              clear fb0_0 fb0_1 fb0_2 fb0_z fb1_0 fb1_1 fb1_z fb2_0 fb2_1 fb2_z fb3_0 fb3_1 fb3_2 fb3_z fb4_0 fb4_1 fb4_2 fb4_z
              have hz_ : w12.heap.size ≤ W.heap.size := by rw [hW]; simp
              have eF : Fr w12 W (fun k => k = w.heap.size + 1 + 1 + 1 ∨ w12.heap.size ≤ k) := by rw [hW]; (repeat (first | with_reducible refine Fr.setCell ?_ _ (fun _ => by simp <;> omega) _ | with_reducible refine Fr.alloc ?_ _ | with_reducible refine Fr.drew ?_)); exact Fr.refl _ _
              have z1_ := z1.out; have z2_ := z2.out; have z3_ := z3.out; have z4_ := z4.out; have z5_ := z5.out; have z6_ := z6.out; have z7_ := z7.out; have z8_ := z8.out; have z9_ := z9.out; have z10_ := z10.out; have z11_ := z11.out; have z12_ := z12.out
              have hB := Hd.mk (((Fr.of_below hB.out (fun k => k = w.heap.size + 1 + 1 + 1 ∨ w12.heap.size ≤ k)).then_ eF (fun k hk _ => hk)).below (fun k hk => by have := hB.out.size; omega))
              have b0 := Hd.mk (b0.out.fr eF (fun h => by have hlt_ := b0.out.lt; (try simp only at h); omega))
              have b1 := Hd.mk (b1.out.fr eF (fun h => by have hlt_ := b1.out.lt; (try simp only at h); omega))
              have b2 := Hd.mk (b2.out.fr eF (fun h => by have hlt_ := b2.out.lt; (try simp only at h); omega))
              have b3 := Hd.mk (show Blk W (w.heap.size + 1 + 1 + 1) #[Value.slice none 0 0, Value.int IntKind.i64 0, Value.slice none 0 0] 37 by rw [hW]; exact (Blk.all b3.out [Value.slice none 0 0, Value.int IntKind.i64 0, Value.slice none 0 0] rfl))
              have b4 := Hd.mk (b4.out.fr eF (fun h => by have hlt_ := b4.out.lt; (try simp only at h); omega))
              have hN := Hd.mk (R_fr hN.out eF (fun k hk hl h => by have q_ := hSN.out k hk; (try simp only [rng] at hk); (try simp only at hk); (try simp only at h); omega))
              have hH := Hd.mk (H_frN hH.out eF (fun k hk hl h => by have q_ := hST.out k hk; (try simp only [rng] at hk); (try simp only at hk); (try simp only at h); omega))
              have hM := Hd.mk (R_fr hM.out eF (fun k hk hl h => by have q_ := (HTM.out k hk).2; (try simp only [rng] at hk); (try simp only at hk); (try simp only at h); omega))
              clear hW eF
              have z13 := Hd.mk hz_; clear hz_
              exact ⟨_, by rw [HN.out], by rw [HF.out]; exact ZS _ _, hB.out⟩
end Go.Proofs.Ytnpogfhfjofbmaa.X
