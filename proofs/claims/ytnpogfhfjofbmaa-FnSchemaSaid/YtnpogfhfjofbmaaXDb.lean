/- What is proved here: draws of rows. Conditions: none. -/
import Derived.Test.YtnpogfhfjofbmaaXDa
import Derived.Test.YtnpogfhfjofbmaaXHs
namespace Go.Proofs.Ytnpogfhfjofbmaa.X
open Go.RowKit Go.Sort
set_option linter.unusedVariables false
set_option linter.unusedSimpArgs false
open Ty
theorem R_int1 {W0 : World} (y : Int) : int.R 3 (W0.alloc (.cells #[.int .i64 y] 3)) (fun k => k = W0.heap.size) (.slice (some ⟨W0.heap.size, 0, none⟩) 1 1) [y] := by
  refine R_block (xs := [y]) (cap := 1) (heap_alloc_new W0 _) rfl (Nat.le_refl _) (by omega) rfl (fun _ => 0) (fun i x h => ?_)
  rcases i with _ | i
  · simp at h
    subst h
    rfl
  · simp at h
/-- No more than n rows, each of so many cells. -/
def RowsP (cols : Int) (n : Nat) (l : List Row) : Prop := l.length ≤ n ∧ ∀ r ∈ l, r.cells.length = cols.toNat
def IdsP (l : List Row) : Prop := (l.map Row.id).Nodup
theorem put_perm (l : List Row) (r : Row) (p : Nat) : (l.take p ++ r :: l.drop p).Perm (r :: l) := by
  refine List.perm_middle.trans ?_
  rw [List.take_append_drop]
theorem rowsP_put {cols : Int} {n : Nat} {l : List Row} {r : Row} (h : RowsP cols n l) (hr : r.cells.length = cols.toNat) : RowsP cols (n + 1) (rowPut l r) := by
  unfold rowPut
  split
  · refine ⟨by rw [List.length_set]; have := h.1; omega, fun x hx => ?_⟩
    rcases List.mem_or_eq_of_mem_set hx with hx | rfl
    · exact h.2 x hx
    · exact hr
  · have hp := put_perm l r (l.findIdx (fun x => decide (r.id < x.id)))
    refine ⟨by rw [hp.length_eq]; simp; exact h.1, fun x hx => ?_⟩
    rcases List.mem_cons.1 (hp.mem_iff.1 hx) with rfl | hx
    · exact hr
    · exact h.2 x hx
theorem set_same {α : Type} (m : List α) (q : Nat) (x : α) (h : q < m.length) (e : m[q] = x) : m.set q x = m := by subst e; exact List.set_getElem_self _
theorem idsP_put {l : List Row} {r : Row} (h : IdsP l) : IdsP (rowPut l r) := by
  unfold rowPut
  split
  · rename_i hlt
    have he : (l.set (l.findIdx (fun x => x.id == r.id)) r).map Row.id = l.map Row.id := by
      rw [List.map_set]
      have h1 := List.findIdx_getElem (xs := l) (p := fun x : Row => x.id == r.id) (w := hlt)
      have h2 : l[l.findIdx (fun x => x.id == r.id)].id = r.id := by simpa using h1
      have h3 : (l.map Row.id)[l.findIdx (fun x => x.id == r.id)]'(by simpa using hlt) = r.id := by simpa using h2
      exact set_same _ _ _ _ h3
    unfold IdsP
    rw [he]
    exact h
  · rename_i hlt
    have hp := put_perm l r (l.findIdx (fun x => decide (r.id < x.id)))
    unfold IdsP
    rw [(hp.map _).nodup_iff, List.map_cons, List.nodup_cons]
    refine ⟨fun hm => ?_, h⟩
    obtain ⟨x, hx, he⟩ := List.mem_map.1 hm
    exact hlt (List.findIdx_lt_length_of_exists ⟨x, hx, by simp [he]⟩)
theorem bulkL_len (c : Nat) : ∀ (l : List Row), (∀ r ∈ l, bulkRow r ≤ c) → bulkL bulkRow l ≤ c * l.length
  | [], _ => by simp [bulkL]
  | x :: l, h => by
    have h1 := h x (by simp)
    have h2 := bulkL_len c l (fun r hr => h r (by simp [hr]))
    simp only [bulkL, List.length_cons, Nat.mul_add, Nat.mul_one]
    omega
theorem rowsP_bulk {cols : Int} (hc : cols ≤ 100) {n : Nat} {l : List Row} (h : RowsP cols n l) : bulkRowS l ≤ 101 * n := by
  have h1 := bulkL_len 100 l (fun r hr => by have := h.2 r hr; unfold bulkRow; omega)
  have h2 := h.1
  have h3 := Nat.mul_le_mul_left 100 h2
  simp only [bulkRowS]
  omega
theorem rowsP_app {cols : Int} {n : Nat} {l : List Row} {r : Row} (h : RowsP cols n l) (hr : r.cells.length = cols.toNat) : RowsP cols (n + 1) (l ++ [r]) := by
  refine ⟨by have := h.1; simp; omega, fun x hx => ?_⟩
  rcases List.mem_append.1 hx with hx | hx
  · exact h.2 x hx
  · rw [List.mem_singleton] at hx
    rw [hx]; exact hr
set_option maxHeartbeats 8000000 in
set_option maxRecDepth 100000 in
theorem spec_l6DrawRow (cols : Int) (hcols : cols ≤ 100) (W0 w : World) (g : Nat) (hc : Cur W0 w g) :
    Calls Try.prog 117 #[.pointer (some ⟨g, 0, none⟩), .int .i64 cols] w fun e w' => ∃ (r : Row) (cs : List Value), e = .returned (.agg cs.toArray) ∧ tRow.O w' (fun k => w.heap.size ≤ k) r cs ∧ 1 ≤ r.id ∧ r.id ≤ 12 ∧ r.cells.length = cols.toNat ∧ Cur W0 w' g ∧ Fr w w' (fun k => k = g) := by
  have hg := Hd.mk hc.lt
  have hC := Hd.mk hc; clear hc
  have hB := Hd.mk (Fr.refl w (fun k => k = g))
  go_enter Try.func117, Try.ntmps117
  go_wp2_with fail
  apply calls_gen; intro W1 hW
  have hz_ : w.heap.size + 1 ≤ W1.heap.size := by rw [hW]; simp
  have hE : Below w.heap.size w W1 := by rw [hW]; (repeat (first | with_reducible refine below_alloc ?_ _ | with_reducible refine below_drew ?_)); exact Below.refl _ _
  have hB := Hd.mk (hB.out.trans (Fr.of_below hE _))
  have hC := Hd.mk (hC.out.below hE)
  have b0 := Hd.mk (show Blk W1 (w.heap.size) #[Value.int IntKind.i64 0, Value.slice none 0 0] 41 by rw [hW]; first | exact (Blk.new _ _ _) | (simpa using (Blk.new _ _ _)))
  clear hW hE
  have z1 := Hd.mk hz_; clear hz_
  refine (spec_l1Below 12 W0 _ g hC.out).mono ?_
  rintro e w2 ⟨x, rfl, x0, x1, _, hC1, hX⟩
  have hC := Hd.mk hC1; clear hC1
  have hSz0 := hB.out.size
  have hg_ := hg.out
  have b0 := Hd.mk (b0.out.fr hX (fun h => by skip; (try simp only at h); omega))
  have hB := Hd.mk (hB.out.trans hX)
  have hz_ := hX.size
  clear hSz0 hg_ hX
  have z2 := Hd.mk hz_; clear hz_
  replace x1 := x1 (by omega)
  obtain ⟨p, hp⟩ : ∃ z, z = w2.heap.size := ⟨_, rfl⟩
  have HP := Hd.mk hp; clear hp
  have z1_ := z1.out; have z2_ := z2.out
  have hlt0 : w.heap.size < w2.heap.size := by omega
  have hne0 : ¬ w.heap.size = w2.heap.size := by omega
  clear z1_ z2_
  have fb0_0 : w2.cell? ⟨w.heap.size, 0, none⟩ = some (Value.int IntKind.i64 0) := b0.out.cell 0 rfl
  have fb0_1 : w2.cell? ⟨w.heap.size, 1, none⟩ = some (Value.slice none 0 0) := b0.out.cell 1 rfl
  have fb0_z := b0.out.frozen
  go_wp2_with fail
  clear fb0_0 fb0_1 fb0_z
  have HX := Hd.mk (show 1 ≤ 1 + x ∧ 1 + x ≤ 12 by omega)
  go_loopw [6] (fun i wr => ∃ (k : Nat) (v : Value) (l : List Int), i = .int .i64 k ∧ ((k : Int) ≤ cols ∨ k = 0) ∧ Hd (l.length = k) ∧ Hd (Blk wr w.heap.size #[Value.int IntKind.i64 0, Value.slice none 0 0] 41) ∧ Hd (Blk wr w2.heap.size #[Value.int IntKind.i64 (1 + x), v] 41) ∧ Hd (int.R 3 wr (fun k => w.heap.size ≤ k ∧ k ≠ w.heap.size ∧ k ≠ w2.heap.size) v l) ∧ Hd (Cur W0 wr g) ∧ Hd (Fr w wr (fun k => k = g)) ∧ Hd (w2.heap.size < wr.heap.size)) (fun i _ => cols.toNat - (intOf i).toNat)
  case atStart => exact ⟨0, .slice none 0 0, [], rfl, .inr rfl, ⟨rfl⟩, ⟨b0.out.alloc _⟩, ⟨Blk.new _ _ _⟩, ⟨R_nil⟩, ⟨hC.out.below (below_alloc (Below.refl _ _) _)⟩, ⟨hB.out.alloc _⟩, ⟨by simp⟩⟩
  case round =>
    clear b0 hB hC
    obtain ⟨k, v, l, rfl, hk, hl, b0, b1, hL, hC, hB, hzw⟩ := hrel
    have hk0 : (0 : Int) ≤ (k : Int) := by omega
    by_cases hlt : (k : Int) < cols
    · have hk100 : k < 100 := by omega
      have fb0_0 : wr.cell? ⟨w.heap.size, 0, none⟩ = some (Value.int IntKind.i64 0) := b0.out.cell 0 rfl
      have fb0_1 : wr.cell? ⟨w.heap.size, 1, none⟩ = some (Value.slice none 0 0) := b0.out.cell 1 rfl
      have fb0_z := b0.out.frozen
      have fb1_0 : wr.cell? ⟨w2.heap.size, 0, none⟩ = some (Value.int IntKind.i64 (1 + x)) := b1.out.cell 0 rfl
      have fb1_1 : wr.cell? ⟨w2.heap.size, 1, none⟩ = some (v) := b1.out.cell 1 rfl
      have fb1_z := b1.out.frozen
      go_wp2_with fail
      clear fb0_0 fb0_1 fb0_z fb1_0 fb1_1 fb1_z
      obtain ⟨AL, cL, hvL, hcL, _⟩ := R_C hL.out
      rw [hl.out] at hvL hcL
      subst hvL
      have sb0 := Hd.mk b0.out
      have sb1 := Hd.mk b1.out
      refine region_mixC (fun w2 => Fr wr w2 (fun k => k = g)) (.p 0 (.q 1 (.p 2 (.b 3 (.b 4 .fin))))) [5, 6, 7] (by kernel_rfl) (Fr.drew (Fr.refl _ _)) (by kernel_rfl) (fun _ _ _ _ _ h => h) ?_
      refine genT ?_
      intro W3 hW
      have hS := Hd.mk (show Fr wr W3 (fun k => k = g) by rw [hW]; exact Fr.drew (Fr.refl _ _))
      have hz_ : wr.heap.size ≤ W3.heap.size := by rw [hW]; simp
      have hE : Below wr.heap.size wr W3 := by rw [hW]; (repeat (first | with_reducible refine below_alloc ?_ _ | with_reducible refine below_drew ?_)); exact Below.refl _ _
      have hB := Hd.mk (hB.out.trans (Fr.of_below hE _))
      have hC := Hd.mk (hC.out.below hE)
      have b0 := Hd.mk (b0.out.below hE)
      have b1 := Hd.mk (b1.out.below hE)
      have hL := Hd.mk (R_below hL.out hE)
      clear hW hE
      have z3 := Hd.mk hz_; clear hz_
      refine mixT_p rfl ?_
      go_big_quiet_want; go_big_quiet_op; go_big_quiet_on; refine wpQuiet_nil ?_
      refine mixT_see rfl (by rfl) (Value.slice AL k cL) (fun w_ hw_ => by have z1_ := z1.out; have z2_ := z2.out; have hzw_ := hzw.out; have z3_ := z3.out; have f0_ := (sb1.out.fr hw_ (fun h => by have hg_ := hg.out; skip; have hlt_ := sb1.out.lt; (try simp only at h); omega)).cell 1 rfl; simp [execOp, go_sem, f0_]) hS.out ?_
      have fb0_0 : W3.cell? ⟨w.heap.size, 0, none⟩ = some (Value.int IntKind.i64 0) := b0.out.cell 0 rfl
      have fb0_1 : W3.cell? ⟨w.heap.size, 1, none⟩ = some (Value.slice none 0 0) := b0.out.cell 1 rfl
      have fb0_z := b0.out.frozen
      have fb1_0 : W3.cell? ⟨w2.heap.size, 0, none⟩ = some (Value.int IntKind.i64 (1 + x)) := b1.out.cell 0 rfl
      have fb1_1 : W3.cell? ⟨w2.heap.size, 1, none⟩ = some (Value.slice AL k cL) := b1.out.cell 1 rfl
      have fb1_z := b1.out.frozen
      go_wp2_with fail
      refine mixQ_n ?_
      clear fb0_0 fb0_1 fb0_z fb1_0 fb1_1 fb1_z
      refine mixT_p rfl ?_
      go_big_quiet_want; go_big_quiet_op; go_big_quiet_on; refine wpQuiet_nil ?_
      refine mixT_b rfl ?_ (by rfl)
      go_wp2_with fail
      apply calls_gen; intro W4 hW
      have hz_ : W3.heap.size ≤ W4.heap.size := by rw [hW]; simp
      have hE : Below W3.heap.size W3 W4 := by rw [hW]; (repeat (first | with_reducible refine below_alloc ?_ _ | with_reducible refine below_drew ?_)); exact Below.refl _ _
      have hB := Hd.mk (hB.out.trans (Fr.of_below hE _))
      have hC := Hd.mk (hC.out.below hE)
      replace hS := Hd.mk (hS.out.trans (Fr.of_below hE _))
      have b0 := Hd.mk (b0.out.below hE)
      have b1 := Hd.mk (b1.out.below hE)
      have hL := Hd.mk (R_below hL.out hE)
      clear hW hE
      have z4 := Hd.mk hz_; clear hz_
      refine (spec_l1Below 6 W0 _ g hC.out).mono ?_
      rintro e w5 ⟨y, rfl, y0, y1, _, hC1, hX⟩
      have hC := Hd.mk hC1; clear hC1
      have hSz0 := hB.out.size
      have hg_ := hg.out
      have b0 := Hd.mk (b0.out.fr hX (fun h => by skip; (try simp only at h); omega))
      have b1 := Hd.mk (b1.out.fr hX (fun h => by skip; (try simp only at h); omega))
      have hL := Hd.mk (R_fr hL.out hX (fun k hk hl h => by have q_ := hk.1; (try simp only [rng] at hk); (try simp only at hk); (try simp only at h); omega))
      have hB := Hd.mk (hB.out.trans hX)
      replace hS := Hd.mk (hS.out.trans hX)
      have hz_ := hX.size
      clear hSz0 hg_ hX
      have z5 := Hd.mk hz_; clear hz_
      go_wp2_with fail
      refine ⟨hS.out, ?_⟩
      refine mixT_b rfl ?_ (by rfl)
      go_wp2_with fail
      refine ⟨hS.out.alloc _, ?_⟩
      refine genT ?_; intro W6 hW
      have hE0 := Hd.mk (show int.R 3 W6 (fun k => k = w5.heap.size) (.slice (some ⟨w5.heap.size, 0, none⟩) 1 1) [y] by rw [hW]; exact R_int1 y)
      have hz_ : w5.heap.size + 1 ≤ W6.heap.size := by rw [hW]; simp
      have hE : Below w5.heap.size w5 W6 := by rw [hW]; (repeat (first | with_reducible refine below_alloc ?_ _ | with_reducible refine below_drew ?_)); exact Below.refl _ _
      have hB := Hd.mk (hB.out.trans (Fr.of_below hE _))
      have hC := Hd.mk (hC.out.below hE)
      replace hS := Hd.mk (hS.out.trans (Fr.of_below hE _))
      have b0 := Hd.mk (b0.out.below hE)
      have b1 := Hd.mk (b1.out.below hE)
      have hL := Hd.mk (R_below hL.out hE)
      clear hW hE
      have z6 := Hd.mk hz_; clear hz_
      refine mixT_fin ?_
      clear hS
      have fb0_0 : W6.cell? ⟨w.heap.size, 0, none⟩ = some (Value.int IntKind.i64 0) := b0.out.cell 0 rfl
      have fb0_1 : W6.cell? ⟨w.heap.size, 1, none⟩ = some (Value.slice none 0 0) := b0.out.cell 1 rfl
      have fb0_z := b0.out.frozen
      have fb1_0 : W6.cell? ⟨w2.heap.size, 0, none⟩ = some (Value.int IntKind.i64 (1 + x)) := b1.out.cell 0 rfl
      have fb1_1 : W6.cell? ⟨w2.heap.size, 1, none⟩ = some (Value.slice AL k cL) := b1.out.cell 1 rfl
      have fb1_z := b1.out.frozen
      refine tail_b rfl ?_ (by rfl)
      clear fb0_0 fb0_1 fb0_z fb1_0 fb1_1 fb1_z
      go_wp2_with (at_builtin; refine append_scal (h1 := fun _ => rfl) rfl _ _ 22 3 (.int .i64 0) 8 rfl Try.underlying22 info_int rfl (by decide) (S := fun k => (fun k => w.heap.size ≤ k ∧ k ≠ w.heap.size ∧ k ≠ w2.heap.size) k ∧ k < W6.heap.size) (S' := (fun k => w.heap.size ≤ k ∧ k ≠ w.heap.size ∧ k ≠ w2.heap.size)) (xs := l) (ys := [y]) rfl rfl (R_bound hL.out) (R_Cv hE0.out) (fun k h => h.1) (fun k h => by have z1_ := z1.out; have z2_ := z2.out; have hzw_ := hzw.out; have z3_ := z3.out; have z4_ := z4.out; have z5_ := z5.out; have z6_ := z6.out; have := hB.out.size; (try simp only at h); refine ⟨by omega, by omega, by omega⟩) (by have := hl.out; simp; omega) (fun v2 w7 hv2 hX => ?_))
      clear hE0
      have hL2 := Hd.mk hv2; clear hv2
      have z1_ := z1.out; have z2_ := z2.out; have hzw_ := hzw.out; have z3_ := z3.out; have z4_ := z4.out; have z5_ := z5.out; have z6_ := z6.out
      have z1_ := z1.out; have z2_ := z2.out; have hzw_ := hzw.out; have z3_ := z3.out; have z4_ := z4.out; have z5_ := z5.out; have z6_ := z6.out
      have hSz := hB.out.size
      have b0 := Hd.mk (b0.out.fr hX (fun h => by have hlt_ := b0.out.lt; have hh_ := h.1; (try simp only [rng] at h); (try simp only at h); omega))
      have b1 := Hd.mk (b1.out.fr hX (fun h => by have hlt_ := b1.out.lt; have hh_ := h.1; (try simp only [rng] at h); (try simp only at h); omega))
      have hC := Hd.mk (hC.out.fr hX (fun h => by have hg_ := hg.out; have hlt_ := hC.out.lt; have hh_ := h.1; (try simp only [rng] at h); (try simp only at h); omega) (fun k h => by have hg_ := hg.out; have hge_ := hC.out.ge; have hh_ := h.1; (try simp only [rng] at h); (try simp only at h); omega))
      have hB := Hd.mk (hB.out.then_ hX (fun k h hl => by have hh_ := h.1; (try simp only [rng] at h); (try simp only at h); omega))
      have hz_ := hX.size
      clear hX
      have z7 := Hd.mk hz_; clear hz_
      obtain ⟨A2, c2, hv2, hc2, _⟩ := R_C hL2.out
      subst hv2
      have hl2_ : (l ++ [y]).length = k + 1 := by rw [List.length_append, hl.out]; rfl
      rw [hl2_] at hc2 ⊢
      have hl2 := Hd.mk hl2_; clear hl2_
      have fb0_0 : w7.cell? ⟨w.heap.size, 0, none⟩ = some (Value.int IntKind.i64 0) := b0.out.cell 0 rfl
      have fb0_1 : w7.cell? ⟨w.heap.size, 1, none⟩ = some (Value.slice none 0 0) := b0.out.cell 1 rfl
      have fb0_z := b0.out.frozen
      have fb1_0 : w7.cell? ⟨w2.heap.size, 0, none⟩ = some (Value.int IntKind.i64 (1 + x)) := b1.out.cell 0 rfl
      have fb1_1 : w7.cell? ⟨w2.heap.size, 1, none⟩ = some (Value.slice AL k cL) := b1.out.cell 1 rfl
      have fb1_z := b1.out.frozen
      refine mixQ_n ?_
      refine tail_b rfl ?_ (by rfl)
      go_wp2_with fail
      refine mixQ_n ?_
      refine tail_b rfl ?_ (by rfl)
      go_wp2_with fail
      refine mixQ_n ?_
      refine tail_nil ?_
      go_wp2_with fail
      clear fb0_0 fb0_1 fb0_z fb1_0 fb1_1 fb1_z
      go_roundw
      case rel =>
        have z1_ := z1.out
        have z2_ := z2.out
        have hzw_ := hzw.out
        have z3_ := z3.out
        have z4_ := z4.out
        have z5_ := z5.out
        have z6_ := z6.out
        have z7_ := z7.out
        refine ⟨k + 1, _, l ++ [y], by go_num, .inl (by omega), hl2, ⟨b0.out.other _ (by (try simp only); omega) _⟩, ⟨b1.out.set 1 _⟩, ⟨R_setCell (by have h5 := hL2.out; rw [hl2.out] at h5; exact h5) (fun h => h.2.2 rfl) _⟩, ⟨hC.out.fr (Fr.setCell (S := fun k => k = w2.heap.size) (Fr.refl _ _) _ (fun _ => rfl) _) (fun h => by have := hg.out; have := hC.out.lt; (try simp only at h); omega) (fun k h => by have := hg.out; have := hC.out.ge; (try simp only at h); omega)⟩, ⟨hB.out.then_ (Fr.setCell (S := fun k => k = w2.heap.size) (Fr.refl _ _) _ (fun _ => rfl) _) (fun k h hl => by (try simp only at h); omega)⟩, ⟨by simp; omega⟩⟩
      case measure => simp [intOf]; omega
    · obtain ⟨AL, cL, hvL, hcL, _⟩ := R_C hL.out
      subst hvL
      have z1_ := z1.out; have z2_ := z2.out; have hzw_ := hzw.out
      have fb0_0 : wr.cell? ⟨w.heap.size, 0, none⟩ = some (Value.int IntKind.i64 0) := b0.out.cell 0 rfl
      have fb0_1 : wr.cell? ⟨w.heap.size, 1, none⟩ = some (Value.slice none 0 0) := b0.out.cell 1 rfl
      have fb0_z := b0.out.frozen
      have fb1_0 : wr.cell? ⟨w2.heap.size, 0, none⟩ = some (Value.int IntKind.i64 (1 + x)) := b1.out.cell 0 rfl
      have fb1_1 : wr.cell? ⟨w2.heap.size, 1, none⟩ = some (Value.slice AL l.length cL) := b1.out.cell 1 rfl
      have fb1_z := b1.out.frozen
      go_wp2_with fail
      refine bodyPost_retW (v := .agg #[Value.int IntKind.i64 (1 + x), Value.slice AL l.length cL]) (by simp [results, Try.results117, go_sem, fb0_0, fb0_1, fb0_z, fb1_0, fb1_1, fb1_z]) rfl ?_
      intro W hW
      clear fb0_0 fb0_1 fb0_z fb1_0 fb1_1 fb1_z
      have eF : Fr wr W (fun k => k = w.heap.size) := by rw [hW]; (repeat (first | with_reducible refine Fr.setCell (S := fun k => k = w.heap.size) ?_ _ (fun _ => rfl) _)); exact Fr.refl _ _
      refine ⟨⟨1 + x, l⟩, [Value.int IntKind.i64 (1 + x), Value.slice AL l.length cL], rfl, tRow_O.2 ⟨_, rfl, R_mono (fun k h => h.1) (R_fr hL.out eF (fun k hk _ h => hk.2.1 h))⟩, HX.out.1, HX.out.2, by have := hl.out; simp only; omega, hC.out.fr eF (fun h => by have := hg.out; (try simp only at h); omega) (fun k h => by have := hg.out; have := hC.out.ge; (try simp only at h); omega), hB.out.then_ eF (fun k h hl => by (try simp only at h); omega)⟩
set_option maxHeartbeats 8000000 in
set_option maxRecDepth 100000 in
theorem spec_l6DrawRows (cols : Int) (hcols : cols ≤ 100) (W0 w : World) (g : Nat) (hc : Cur W0 w g) :
    Calls Try.prog 116 #[.pointer (some ⟨g, 0, none⟩), .int .i64 cols] w fun e w' => ∃ (v : Value) (l : List Row), e = .returned v ∧ tRow.R 41 w' (fun k => w.heap.size ≤ k) v l ∧ RowsP cols 9 l ∧ IdsP l ∧ Cur W0 w' g ∧ Fr w w' (fun k => k = g) := by
  have hg := Hd.mk hc.lt
  have hC := Hd.mk hc; clear hc
  have hB := Hd.mk (Fr.refl w (fun k => k = g))
  go_enter Try.func116, Try.ntmps116
  go_wp2_with fail
  have HR := Hd.mk (R_empty tRow 41 w)
  go_loopw [5, 6] (fun o i wr => ∃ (k : Nat) (vv : Value) (l : List Row), k ≤ 9 ∧ i = .int .i64 k ∧ vv = o ∧ Hd (tRow.R 41 wr (fun k => w.heap.size ≤ k) vv l) ∧ Hd (RowsP cols k l) ∧ Hd (IdsP l) ∧ Hd (Cur W0 wr g) ∧ Hd (Fr w wr (fun k => k = g))) (fun _ i _ => 9 - (intOf i).toNat)
  case atStart => exact ⟨0, _, [], Nat.zero_le _, rfl, rfl, HR, ⟨⟨Nat.le_refl _, by simp⟩⟩, ⟨by simp [IdsP]⟩, ⟨hC.out.below (below_alloc (Below.refl _ _) _)⟩, ⟨hB.out.alloc _⟩⟩
  case round =>
    clear HR hB hC
    obtain ⟨k, vv, l, hk9, rfl, rfl, hL, hP, hI, hC, hB⟩ := hrel
    go_wp2_with fail
    refine (spec_l1Below 9 W0 _ g hC.out).mono ?_
    rintro e w1 ⟨x, rfl, x0, x1, _, hC1, hX⟩
    have hC := Hd.mk hC1; clear hC1
    have hSz0 := hB.out.size
    have hg_ := hg.out
    have hL := Hd.mk (R_fr hL.out hX (fun k hk hl h => by have hg_ := hg.out; (try simp only [rng] at hk); (try simp only at hk); (try simp only at h); omega))
    have hB := Hd.mk (hB.out.trans hX)
    have hz_ := hX.size
    clear hSz0 hg_ hX
    have z1 := Hd.mk hz_; clear hz_
    replace x1 := x1 (by omega)
    obtain ⟨AL, cL, hvL, hcL, hCL⟩ := R_C hL.out
    subst hvL
    clear hCL
    by_cases hlt : (k : Int) < x
    · have hk8 : k ≤ 8 := by omega
      go_wp2_with fail
      have hBr := Hd.mk hB.out.size
      refine (spec_l6DrawRow cols hcols W0 _ g hC.out).mono ?_
      rintro e w2 ⟨r, cs, rfl, hO, hr1, hr2, hr3, hC1, hX⟩
      have hC := Hd.mk hC1; clear hC1
      have hSz0 := hB.out.size
      have hg_ := hg.out
      have hL := Hd.mk (R_fr hL.out hX (fun k hk hl h => by have hg_ := hg.out; (try simp only [rng] at hk); (try simp only at hk); (try simp only at h); omega))
      have hB := Hd.mk (hB.out.trans hX)
      have hz_ := hX.size
      clear hSz0 hg_ hX
      have z2 := Hd.mk hz_; clear hz_
      have HO := Hd.mk hO; clear hO
      have HPr := Hd.mk (show r.cells.length ≤ 100 by omega)
      have HP2 := Hd.mk (rowsP_put hP.out (r := r) hr3)
      have HI2 := Hd.mk (idsP_put (r := r) hI.out)
      go_wp2_with fail
      have hBr2 := Hd.mk hB.out.size
      refine (spec_RowPut _ _ l r _ _ (R_Cv hL.out) (tRow.O_K HO.out) (by have := rowsP_bulk hcols hP.out; omega) (by have := HPr.out; omega)).mono ?_
      rintro e w3 ⟨v5, rfl, hL5, hX⟩
      have hL := Hd.mk (R_below hL.out hX)
      have hB := Hd.mk (hB.out.trans (Fr.of_below hX _))
      have hC := Hd.mk (hC.out.below hX)
      have hz_ := hX.size
      clear hX
      have z3 := Hd.mk hz_; clear hz_
      go_wp2_with fail
      go_roundw
      case rel => exact ⟨k + 1, _, _, by omega, by go_num, rfl, ⟨R_mono (fun k h => Nat.le_trans hBr2.out h) hL5⟩, HP2, HI2, hC, hB⟩
      case measure => simp [intOf]; omega
    · go_wp2_with fail
      go_ret
      exact ⟨_, l, rfl, hL.out, ⟨by have := hP.out.1; omega, hP.out.2⟩, hI.out, hC.out, hB.out⟩
end Go.Proofs.Ytnpogfhfjofbmaa.X
