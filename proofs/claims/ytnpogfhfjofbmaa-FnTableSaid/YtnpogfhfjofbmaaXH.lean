/- What is proved here: contracts of RowPut. Conditions: none. -/
import Derived.Test.YtnpogfhfjofbmaaXI
import Derived.Test.YtnpogfhfjofbmaaXY
namespace Go.Proofs.Ytnpogfhfjofbmaa.X
open Go.RowKit Go.Sort
set_option linter.unusedVariables false
set_option linter.unusedSimpArgs false
open Ty
/-- A row put among rows: in the place of the one of its Id, else ahead of the first of a greater one. -/
def rowPut (l : List Row) (r : Row) : List Row :=
  if l.findIdx (fun x => x.id == r.id) < l.length then l.set (l.findIdx (fun x => x.id == r.id)) r
  else l.take (l.findIdx (fun x => decide (r.id < x.id))) ++ r :: l.drop (l.findIdx (fun x => decide (r.id < x.id)))
set_option maxRecDepth 100000 in
theorem slices_IndexFunc_put (p : Row → Bool) (A : Option Addr) (c : Nat) (l : List Row) (w : World) (hr : tRow.C w A l) (q : Addr)
    (hp : ∀ (x : Row) (cs : List Value) (w1 : World), Below w.heap.size w w1 → tRow.K w1 x cs → Calls Try.prog 129 #[.agg cs.toArray, .pointer (some q)] w1 fun e w' => e = .returned (.bool (p x)) ∧ Below w1.heap.size w1 w') :
    Calls Try.prog 124 #[.slice A l.length c, .func (.func 129) #[] #[.pointer (some q)]] w fun e w' => e = .returned (.int .i64 (idxF p l)) ∧ Below w.heap.size w w' := by
  have hm := hr.1
  have HC := Hd.mk hr; clear hr
  have HP := Hd.mk hp; clear hp
  go_enter Try.func124, Try.ntmps124
  go_wp2
  go_loopw [8] (fun i wr => ∃ k : Nat, k ≤ l.length ∧ i = .int .i64 k ∧ Hd ((l.take k).all (fun x => !p x) = true) ∧ Hd (Below w.heap.size w wr)) (fun i _ => l.length - (intOf i).toNat)
  case atStart => exact ⟨0, Nat.zero_le _, rfl, ⟨rfl⟩, ⟨Below.refl _ _⟩⟩
  case round =>
    obtain ⟨k, hk, rfl, HA, HB⟩ := hrel
    by_cases hlt : k < l.length
    · obtain ⟨ad, A1, c1, rfl, x0, x1, hc1, hr1⟩ := C_row_at HC.out HB.out k hlt
      have HK1 := Hd.mk (tRow_K.2 ⟨A1, c1, rfl, hc1, hr1⟩ : tRow.K _ l[k] _); clear hr1
      have HA2 := Hd.mk (all_take (fun x => !p x) l k hlt HA.out)
      go_wp2_with fail
      refine (HP.out l[k] _ _ HB.out HK1.out).mono ?_
      rintro e w1 ⟨rfl, hB1⟩
      have hB2 := below_then HB.out hB1
      cases hb : p l[k]
      · have Hb := Hd.mk hb
        go_wp2_with fail
        go_roundw
        case rel => exact ⟨k + 1, by omega, by go_num, ⟨by rw [HA2.out]; simp [Hb.out]⟩, ⟨hB2⟩⟩
        case measure => simp [intOf]; omega
      · have Hb := Hd.mk (idxF_found _ l k hlt HA.out hb)
        go_wp2_with fail
        go_ret
        exact ⟨by rw [Hb.out]; rfl, hB2⟩
    · obtain rfl : k = l.length := by omega
      go_wp2_with fail
      go_ret
      have := HA.out
      rw [List.take_length] at this
      exact ⟨by rw [idxF_none _ l this]; rfl, HB.out⟩
set_option maxRecDepth 100000 in
theorem impl_RowPut_1 (x : Row) (cs : List Value) (n : Int) (b : Nat) (w : World) (hk : tRow.K w x cs) (hq : w.cell? ⟨b, 0, none⟩ = some (.int .i64 n)) :
    Calls Try.prog 129 #[.agg cs.toArray, .pointer (some ⟨b, 0, none⟩)] w fun e w' => e = .returned (.bool (decide (n < x.id))) ∧ Below w.heap.size w w' := by
  obtain ⟨A1, c1, rfl, hc1, hr1⟩ := tRow_K.1 hk
  clear hr1 hk
  have hq2 := fun o => cell_below (below_alloc (Below.refl _ _) o) hq
  go_enter Try.func129, Try.ntmps129
  go_wp2
  go_ret
  exact ⟨rfl, by exact below_alloc (Below.refl _ _) _⟩
set_option maxHeartbeats 4000000 in
set_option maxRecDepth 100000 in
theorem impl_RowPut (A : Option Addr) (c : Nat) (l : List Row) (r : Row) (cs : List Value) (w : World) (hr : tRow.C w A l) (hk : tRow.K w r cs) (hl : bulkRowS l ≤ 4194304) (hlr : r.cells.length ≤ 4194304) :
    Calls Try.prog 41 #[.slice A l.length c, .agg cs.toArray] w fun e w' => ∃ v, e = .returned v ∧ tRow.R 41 w' (fun k => w.heap.size ≤ k) v (rowPut l r) ∧ Below w.heap.size w w' := by
  have HK := Hd.mk hk
  obtain ⟨A2, c2, rfl, hc2, hr2⟩ := tRow_K.1 hk
  clear hr2 hk
  have HC := Hd.mk hr; clear hr
  have hlen : l.length ≤ 4194304 := by simp only [bulkRowS] at hl; omega
  have hB := Hd.mk (Below.refl w.heap.size w)
  go_enter Try.func41, Try.ntmps41
  go_wp2_with fail
  apply calls_gen; intro W1 hW
  have hz_ : w.heap.size + 1 ≤ W1.heap.size := by rw [hW]; simp
  have hE : Below w.heap.size w W1 := by rw [hW]; (repeat (first | with_reducible refine below_alloc ?_ _ | with_reducible refine below_drew ?_)); exact Below.refl _ _
  have hB := Hd.mk (below_then hB.out hE)
  have b0 := Hd.mk (show Blk W1 (w.heap.size) #[Value.int IntKind.i64 r.id, Value.slice A2 r.cells.length c2] 41 by rw [hW]; first | exact (Blk.new _ _ _) | (simpa using (Blk.new _ _ _)))
  clear hW hE
  have z1 := Hd.mk hz_; clear hz_
  refine (impl_copyRows _ _ l _ (C_below HC.out hB.out) hl).mono ?_
  rintro e w2 ⟨v1, rfl, hV, hX⟩
  have b0 := Hd.mk (b0.out.below hX)
  have hB := Hd.mk (below_then hB.out hX)
  have hz_ := hX.size
  clear hX
  have z2 := Hd.mk hz_; clear hz_
  replace hV := Hd.mk (show tRow.R 41 w2 (rng W1.heap.size w2.heap.size) v1 l from R_bound hV)
  have fb0_0 : w2.cell? ⟨w.heap.size, 0, none⟩ = some (Value.int IntKind.i64 r.id) := b0.out.cell 0 rfl
  have fb0_1 : w2.cell? ⟨w.heap.size, 1, none⟩ = some (Value.slice A2 r.cells.length c2) := b0.out.cell 1 rfl
  have fb0_z := b0.out.frozen
  go_wp2_with fail
  clear fb0_0 fb0_1 fb0_z
  apply calls_gen; intro W3 hW
  have hz_ : w2.heap.size ≤ W3.heap.size := by rw [hW]; simp
  have hE : Below w2.heap.size w2 W3 := by rw [hW]; (repeat (first | with_reducible refine below_alloc ?_ _ | with_reducible refine below_drew ?_)); exact Below.refl _ _
  have hB := Hd.mk (below_then hB.out hE)
  have b0 := Hd.mk (b0.out.below hE)
  have hV := Hd.mk (R_below hV.out hE)
  clear hW hE
  have z3 := Hd.mk hz_; clear hz_
  refine (impl_RowAt _ _ l r.id _ (C_below HC.out hB.out)).mono ?_
  rintro e w4 ⟨rfl, hX⟩
  have b0 := Hd.mk (b0.out.below hX)
  have hV := Hd.mk (R_below hV.out hX)
  have hB := Hd.mk (below_then hB.out hX)
  have hz_ := hX.size
  clear hX
  have z4 := Hd.mk hz_; clear hz_
  rcases idxF_cases (fun x : Row => x.id == r.id) l with ⟨h1, h2⟩ | ⟨h1, h2⟩
  · rw [show rowAt l r.id = -1 from h1]
    have HP := Hd.mk (show rowPut l r = l.take (l.findIdx (fun x => decide (r.id < x.id))) ++ r :: l.drop (l.findIdx (fun x => decide (r.id < x.id))) by unfold rowPut; rw [if_neg (by omega)])
    clear h1 h2
    have fb0_0 : w4.cell? ⟨w.heap.size, 0, none⟩ = some (Value.int IntKind.i64 r.id) := b0.out.cell 0 rfl
    have fb0_1 : w4.cell? ⟨w.heap.size, 1, none⟩ = some (Value.slice A2 r.cells.length c2) := b0.out.cell 1 rfl
    have fb0_z := b0.out.frozen
    go_wp2_with fail
    clear fb0_0 fb0_1 fb0_z
    apply calls_gen; intro W5 hW
    have hz_ : w4.heap.size ≤ W5.heap.size := by rw [hW]; simp
    have hE : Below w4.heap.size w4 W5 := by rw [hW]; (repeat (first | with_reducible refine below_alloc ?_ _ | with_reducible refine below_drew ?_)); exact Below.refl _ _
    have hB := Hd.mk (below_then hB.out hE)
    have b0 := Hd.mk (b0.out.below hE)
    have hV := Hd.mk (R_below hV.out hE)
    clear hW hE
    have z5 := Hd.mk hz_; clear hz_
    refine (slices_IndexFunc_put (fun x => decide (r.id < x.id)) _ _ l _ (C_below HC.out hB.out) _ (fun x cs w1 h1 h2 => impl_RowPut_1 x cs r.id _ w1 h2 (cell_below h1 (b0.out.cell 0 rfl)))).mono ?_
    rintro e w6 ⟨rfl, hX⟩
    have b0 := Hd.mk (b0.out.below hX)
    have hV := Hd.mk (R_below hV.out hX)
    have hB := Hd.mk (below_then hB.out hX)
    have hz_ := hX.size
    clear hX
    have z6 := Hd.mk hz_; clear hz_
    obtain ⟨p, hp, hP2⟩ : ∃ p : Nat, p ≤ l.length ∧ Hd (rowPut l r = l.take p ++ r :: l.drop p ∧ ((idxF (fun x : Row => decide (r.id < x.id)) l = -1 ∧ p = l.length) ∨ idxF (fun x : Row => decide (r.id < x.id)) l = (p : Int))) := by
      refine ⟨_, List.findIdx_le_length, ⟨HP.out, ?_⟩⟩
      rcases idxF_cases (fun x : Row => decide (r.id < x.id)) l with ⟨h1, h2⟩ | ⟨h1, h2⟩
      · exact .inl ⟨h1, h2⟩
      · exact .inr h1
    clear HP
    obtain ⟨HP, hq⟩ := hP2.out
    clear hP2
    have HP := Hd.mk HP
    rcases hq with ⟨hq, rfl⟩ | hq
    · rw [hq]; clear hq
      have fb0_0 : w6.cell? ⟨w.heap.size, 0, none⟩ = some (Value.int IntKind.i64 r.id) := b0.out.cell 0 rfl
      have fb0_1 : w6.cell? ⟨w.heap.size, 1, none⟩ = some (Value.slice A2 r.cells.length c2) := b0.out.cell 1 rfl
      have fb0_z := b0.out.frozen
      go_wp2_with fail
      clear fb0_0 fb0_1 fb0_z
      apply calls_gen; intro W7 hW
      have hz_ : w6.heap.size ≤ W7.heap.size := by rw [hW]; simp
      have hE : Below w6.heap.size w6 W7 := by rw [hW]; (repeat (first | with_reducible refine below_alloc ?_ _ | with_reducible refine below_drew ?_)); exact Below.refl _ _
      have hB := Hd.mk (below_then hB.out hE)
      have b0 := Hd.mk (b0.out.below hE)
      have hV := Hd.mk (R_below hV.out hE)
      clear hW hE
      have z7 := Hd.mk hz_; clear hz_
      refine (impl_copyRow r _ _ (Ty.K_below _ hB.out HK.out) hlr).mono ?_
      rintro e w8 ⟨cs', rfl, hO, hX⟩
      have b0 := Hd.mk (b0.out.below hX)
      have hV := Hd.mk (R_below hV.out hX)
      have hB := Hd.mk (below_then hB.out hX)
      have hz_ := hX.size
      clear hX
      have z8 := Hd.mk hz_; clear hz_
      obtain ⟨v3, rfl, hv3⟩ := tRow_O.1 hO
      obtain ⟨D3, d3, rfl, _, _⟩ := R_C hv3
      clear hv3
      replace hO := Hd.mk (show tRow.O w8 (rng W7.heap.size w8.heap.size) r _ from Ty.O_bound _ hO)
      have fb0_0 : w8.cell? ⟨w.heap.size, 0, none⟩ = some (Value.int IntKind.i64 r.id) := b0.out.cell 0 rfl
      have fb0_1 : w8.cell? ⟨w.heap.size, 1, none⟩ = some (Value.slice A2 r.cells.length c2) := b0.out.cell 1 rfl
      have fb0_z := b0.out.frozen
      go_wp2_with fail
      clear fb0_0 fb0_1 fb0_z
      apply calls_gen; intro W9 hW
      have hz_ : w8.heap.size + 1 ≤ W9.heap.size := by rw [hW]; simp
      have hE : Below w8.heap.size w8 W9 := by rw [hW]; (repeat (first | with_reducible refine below_alloc ?_ _ | with_reducible refine below_drew ?_)); exact Below.refl _ _
      have hB := Hd.mk (below_then hB.out hE)
      have b0 := Hd.mk (b0.out.below hE)
      have bv := Hd.mk (show Blk W9 (w8.heap.size) #[Value.int IntKind.i64 r.id, Value.slice D3 r.cells.length d3] 41 by rw [hW]; first | exact (Blk.new _ _ _) | (simpa using (Blk.new _ _ _)))
      have hV := Hd.mk (R_below hV.out hE)
      have hO := Hd.mk (Ty.O_below hO.out hE)
      clear hW hE
      have z9 := Hd.mk hz_; clear hz_
      have z1_ := z1.out; have z2_ := z2.out; have z3_ := z3.out; have z4_ := z4.out; have z5_ := z5.out; have z6_ := z6.out; have z7_ := z7.out; have z8_ := z8.out; have z9_ := z9.out
      have hBs := hB.out.size
      refine (slices_Insert_row (S := rng W1.heap.size w2.heap.size) (S' := fun k => w.heap.size ≤ k) (T := rng W7.heap.size w8.heap.size) v1 l r [Value.int IntKind.i64 r.id, Value.slice D3 r.cells.length d3] (w8.heap.size) l.length _ hV.out (Nat.le_refl _) bv.out hO.out (fun k h h2 => by have h3 := h.1; have h4 := h2.2; omega) (fun h => by have h4 := h.2; omega) (fun k h => by have h3 := h.1; omega) (fun k h => ⟨by have h4 := h.2; omega, by have h3 := h.1; omega⟩) (fun k h => by omega) hlen).mono ?_
      rintro e w10 ⟨v5, rfl, hv5, hf5⟩
      have HV5 := Hd.mk hv5
      have HB5 := Hd.mk (below_frS hB.out hf5 (fun k h => by have h3 := h.1; omega))
      clear hv5 hf5
      go_wp2_with fail
      go_ret
      exact ⟨_, rfl, by rw [HP.out]; exact HV5.out, HB5.out⟩
    · rw [hq]; clear hq
      have hp0 : (0 : Int) ≤ (p : Int) := by omega
      have fb0_0 : w6.cell? ⟨w.heap.size, 0, none⟩ = some (Value.int IntKind.i64 r.id) := b0.out.cell 0 rfl
      have fb0_1 : w6.cell? ⟨w.heap.size, 1, none⟩ = some (Value.slice A2 r.cells.length c2) := b0.out.cell 1 rfl
      have fb0_z := b0.out.frozen
      go_wp2_with fail
      clear fb0_0 fb0_1 fb0_z
      apply calls_gen; intro W7 hW
      have hz_ : w6.heap.size ≤ W7.heap.size := by rw [hW]; simp
      have hE : Below w6.heap.size w6 W7 := by rw [hW]; (repeat (first | with_reducible refine below_alloc ?_ _ | with_reducible refine below_drew ?_)); exact Below.refl _ _
      have hB := Hd.mk (below_then hB.out hE)
      have b0 := Hd.mk (b0.out.below hE)
      have hV := Hd.mk (R_below hV.out hE)
      clear hW hE
      have z7 := Hd.mk hz_; clear hz_
      refine (impl_copyRow r _ _ (Ty.K_below _ hB.out HK.out) hlr).mono ?_
      rintro e w8 ⟨cs', rfl, hO, hX⟩
      have b0 := Hd.mk (b0.out.below hX)
      have hV := Hd.mk (R_below hV.out hX)
      have hB := Hd.mk (below_then hB.out hX)
      have hz_ := hX.size
      clear hX
      have z8 := Hd.mk hz_; clear hz_
      obtain ⟨v3, rfl, hv3⟩ := tRow_O.1 hO
      obtain ⟨D3, d3, rfl, _, _⟩ := R_C hv3
      clear hv3
      replace hO := Hd.mk (show tRow.O w8 (rng W7.heap.size w8.heap.size) r _ from Ty.O_bound _ hO)
      have fb0_0 : w8.cell? ⟨w.heap.size, 0, none⟩ = some (Value.int IntKind.i64 r.id) := b0.out.cell 0 rfl
      have fb0_1 : w8.cell? ⟨w.heap.size, 1, none⟩ = some (Value.slice A2 r.cells.length c2) := b0.out.cell 1 rfl
      have fb0_z := b0.out.frozen
      go_wp2_with fail
      clear fb0_0 fb0_1 fb0_z
      apply calls_gen; intro W9 hW
      have hz_ : w8.heap.size + 1 ≤ W9.heap.size := by rw [hW]; simp
      have hE : Below w8.heap.size w8 W9 := by rw [hW]; (repeat (first | with_reducible refine below_alloc ?_ _ | with_reducible refine below_drew ?_)); exact Below.refl _ _
      have hB := Hd.mk (below_then hB.out hE)
      have b0 := Hd.mk (b0.out.below hE)
      have bv := Hd.mk (show Blk W9 (w8.heap.size) #[Value.int IntKind.i64 r.id, Value.slice D3 r.cells.length d3] 41 by rw [hW]; first | exact (Blk.new _ _ _) | (simpa using (Blk.new _ _ _)))
      have hV := Hd.mk (R_below hV.out hE)
      have hO := Hd.mk (Ty.O_below hO.out hE)
      clear hW hE
      have z9 := Hd.mk hz_; clear hz_
      have z1_ := z1.out; have z2_ := z2.out; have z3_ := z3.out; have z4_ := z4.out; have z5_ := z5.out; have z6_ := z6.out; have z7_ := z7.out; have z8_ := z8.out; have z9_ := z9.out
      have hBs := hB.out.size
      refine (slices_Insert_row (S := rng W1.heap.size w2.heap.size) (S' := fun k => w.heap.size ≤ k) (T := rng W7.heap.size w8.heap.size) v1 l r [Value.int IntKind.i64 r.id, Value.slice D3 r.cells.length d3] (w8.heap.size) p _ hV.out hp bv.out hO.out (fun k h h2 => by have h3 := h.1; have h4 := h2.2; omega) (fun h => by have h4 := h.2; omega) (fun k h => by have h3 := h.1; omega) (fun k h => ⟨by have h4 := h.2; omega, by have h3 := h.1; omega⟩) (fun k h => by omega) hlen).mono ?_
      rintro e w10 ⟨v5, rfl, hv5, hf5⟩
      have HV5 := Hd.mk hv5
      have HB5 := Hd.mk (below_frS hB.out hf5 (fun k h => by have h3 := h.1; omega))
      clear hv5 hf5
      go_wp2_with fail
      go_ret
      exact ⟨_, rfl, by rw [HP.out]; exact HV5.out, HB5.out⟩
  · rw [show rowAt l r.id = (l.findIdx (fun x : Row => x.id == r.id) : Int) from h1]
    have HP := Hd.mk (show rowPut l r = l.set (l.findIdx (fun x => x.id == r.id)) r by unfold rowPut; rw [if_pos h2])
    clear h1
    generalize l.findIdx (fun x : Row => x.id == r.id) = q at HP h2 ⊢
    have hq0 : (0 : Int) ≤ (q : Int) := by omega
    obtain ⟨gB, cap, rfl, _, _⟩ := R_form hV.out (by omega)
    have fb0_0 : w4.cell? ⟨w.heap.size, 0, none⟩ = some (Value.int IntKind.i64 r.id) := b0.out.cell 0 rfl
    have fb0_1 : w4.cell? ⟨w.heap.size, 1, none⟩ = some (Value.slice A2 r.cells.length c2) := b0.out.cell 1 rfl
    have fb0_z := b0.out.frozen
    go_wp2_with fail
    clear fb0_0 fb0_1 fb0_z
    apply calls_gen; intro W5 hW
    have hz_ : w4.heap.size ≤ W5.heap.size := by rw [hW]; simp
    have hE : Below w4.heap.size w4 W5 := by rw [hW]; (repeat (first | with_reducible refine below_alloc ?_ _ | with_reducible refine below_drew ?_)); exact Below.refl _ _
    have hB := Hd.mk (below_then hB.out hE)
    have b0 := Hd.mk (b0.out.below hE)
    have hV := Hd.mk (R_below hV.out hE)
    clear hW hE
    have z5 := Hd.mk hz_; clear hz_
    refine (impl_copyRow r _ _ (Ty.K_below _ hB.out HK.out) hlr).mono ?_
    rintro e w6 ⟨cs', rfl, hO, hX⟩
    have b0 := Hd.mk (b0.out.below hX)
    have hV := Hd.mk (R_below hV.out hX)
    have hB := Hd.mk (below_then hB.out hX)
    have hz_ := hX.size
    clear hX
    have z6 := Hd.mk hz_; clear hz_
    have z1_ := z1.out; have z2_ := z2.out; have z3_ := z3.out; have z4_ := z4.out; have z5_ := z5.out; have z6_ := z6.out
    have hBs := hB.out.size
    obtain ⟨hgl, ⟨cur, hcur, hcell⟩, hfz, hg, hst⟩ := R_put (i := q) (S' := fun k => w.heap.size ≤ k) hV.out h2 (by decide) hO (fun k h hl hs => by have h3 := hs.2; (try simp only at h); omega) (fun k hk => by have := hk.1; omega) (fun k hk => by (try simp only at hk); omega)
    obtain ⟨v3, rfl, hv3⟩ := tRow_O.1 hO
    obtain ⟨D3, d3, rfl, _, _⟩ := R_C hv3
    obtain ⟨Az, cz, rfl, _, _⟩ := tRow_K.1 hcur
    have k0 : w6.cell? ⟨gB, q * 2, none⟩ = some _ := hcell 0 _ rfl
    have k1 : w6.cell? ⟨gB, q * 2 + 1, none⟩ = some _ := hcell 1 _ rfl
    have y0 := hfz (q * 2)
    have y1 := hfz (q * 2 + 1)
    have HST := Hd.mk hst
    have hgS := Hd.mk (show w.heap.size ≤ gB by have := hg.1; omega)
    clear hst hcell hfz hcur hO hv3 hg
    have fb0_0 : w6.cell? ⟨w.heap.size, 0, none⟩ = some (Value.int IntKind.i64 r.id) := b0.out.cell 0 rfl
    have fb0_1 : w6.cell? ⟨w.heap.size, 1, none⟩ = some (Value.slice A2 r.cells.length c2) := b0.out.cell 1 rfl
    have fb0_z := b0.out.frozen
    go_wp2_with fail
    clear fb0_0 fb0_1 fb0_z
    go_ret
    exact ⟨_, rfl, by rw [HP.out]; exact HST.out, (setAll_fr (S := fun k => w.heap.size ≤ k) (fun _ => hgS.out) [_, _] _ _ (Fr.of_below hB.out _)).below (fun k hk => hk)⟩
end Go.Proofs.Ytnpogfhfjofbmaa.X
