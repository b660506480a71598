/- What is proved here: contracts of copies of rows and of RowDrop. Conditions: none. -/
import Derived.Test.YtnpogfhfjofbmaaXP
import Derived.Test.YtnpogfhfjofbmaaXR
import Derived.Test.YtnpogfhfjofbmaaXS
import Derived.Test.YtnpogfhfjofbmaaXU
import Derived.Test.YtnpogfhfjofbmaaXFa
namespace Go.Proofs.Ytnpogfhfjofbmaa.X
open Go.RowKit Go.Sort
set_option linter.unusedVariables false
set_option linter.unusedSimpArgs false
open Ty
/-- The rows but the one of an Id. -/
def rowDrop (l : List Row) (n : Int) : List Row := l.eraseIdx (l.findIdx (fun r => r.id == n))
theorem erase_step {α : Type} (l : List α) (k i : Nat) (hi : i < l.length) : (l.take (i + 1)).eraseIdx k = if i = k then (l.take i).eraseIdx k else (l.take i).eraseIdx k ++ [l[i]] := by
  have hl : (l.take i).length = i := by simp; omega
  rw [List.take_succ_eq_append_getElem hi]
  rcases Nat.lt_trichotomy k i with h | h | h
  · rw [if_neg (by omega), List.eraseIdx_append_of_lt_length (by omega)]
  · subst h
    rw [if_pos rfl, List.eraseIdx_append_of_length_le (by omega), hl, Nat.sub_self, List.eraseIdx_of_length_le (l := l.take k) (by omega)]
    simp
  · rw [if_neg (by omega), List.eraseIdx_append_of_length_le (by omega), hl, List.eraseIdx_of_length_le (l := [l[i]]) (by simp; omega), List.eraseIdx_of_length_le (l := l.take i) (by omega)]
theorem idxF_ne {α : Type} (p : α → Bool) (l : List α) (i : Nat) (hi : i < l.length) : ((i : Int) != idxF p l) = !decide (i = l.findIdx p) := by
  unfold idxF
  by_cases h : i = l.findIdx p
  · rw [if_pos (by omega), ← h]; simp
  · have e : decide (i = l.findIdx p) = false := by simp [h]
    rw [e]
    split
    · simp; omega
    · simp
theorem bulkL_erase {α : Type} (b : α → Nat) (l : List α) (k : Nat) : bulkL b (l.eraseIdx k) ≤ bulkL b l := by
  rw [List.eraseIdx_eq_take_drop_succ, bulkL_append]
  have h1 := bulkL_append b (l.take (k + 1)) (l.drop (k + 1))
  rw [List.take_append_drop] at h1
  rcases Nat.lt_or_ge k l.length with h | h
  · rw [bulkL_take b l k h] at h1; omega
  · rw [List.take_of_length_le (Nat.le_succ_of_le h)] at h1
    rw [List.take_of_length_le h]; omega
theorem bulk_rowDrop (l : List Row) (n : Int) : bulkRowS (rowDrop l n) ≤ bulkRowS l := by
  have h1 := bulkL_erase bulkRow l (l.findIdx (fun r => r.id == n))
  have h2 := List.length_eraseIdx_le l (l.findIdx (fun r => r.id == n))
  unfold rowDrop bulkRowS
  omega
set_option maxRecDepth 100000 in
theorem spec_l6Copy (x : Row) (cs : List Value) (w : World) (hk : tRow.K w x cs) (hl : x.cells.length ≤ 4194304) :
    Calls Try.prog 131 #[.agg cs.toArray] w fun e w' => ∃ cs', e = .returned (.agg cs'.toArray) ∧ tRow.O w' (fun k => w.heap.size ≤ k) x cs' ∧ Below w.heap.size w w' := by
  obtain ⟨A1, c1, rfl, hc1, hr1⟩ := tRow_K.1 hk
  have HC := Hd.mk hr1; clear hr1 hk
  have hB := Hd.mk (Below.refl w.heap.size w)
  go_enter Try.func131, Try.ntmps131
  go_wp2_with fail
  apply wp_gen; intro W1 hW
  have hz_ : w.heap.size + 2 ≤ W1.heap.size := by rw [hW]; simp
  have hE : Below w.heap.size w W1 := by rw [hW]; (repeat (first | with_reducible refine below_alloc ?_ _ | with_reducible refine below_drew ?_)); exact Below.refl _ _
  have hB := Hd.mk (below_then hB.out hE)
  have b0 := Hd.mk (show Blk W1 (w.heap.size) #[Value.int IntKind.i64 x.id, Value.slice A1 x.cells.length c1] 41 by rw [hW]; first | exact ((Blk.new _ _ _).alloc _) | (simpa using ((Blk.new _ _ _).alloc _)))
  have b1 := Hd.mk (show Blk W1 (w.heap.size + 1) #[Value.int IntKind.i64 0, Value.slice none 0 0] 41 by rw [hW]; first | exact (Blk.new1 _ _ _ _) | (simpa using (Blk.new1 _ _ _ _)))
  clear hW hE
  have z1 := Hd.mk hz_; clear hz_
  have fb0_0 : W1.cell? ⟨w.heap.size, 0, none⟩ = some (Value.int IntKind.i64 x.id) := b0.out.cell 0 rfl
  have fb0_1 : W1.cell? ⟨w.heap.size, 1, none⟩ = some (Value.slice A1 x.cells.length c1) := b0.out.cell 1 rfl
  have fb0_z := b0.out.frozen
  have fb1_0 : W1.cell? ⟨w.heap.size + 1, 0, none⟩ = some (Value.int IntKind.i64 0) := b1.out.cell 0 rfl
  have fb1_1 : W1.cell? ⟨w.heap.size + 1, 1, none⟩ = some (Value.slice none 0 0) := b1.out.cell 1 rfl
  have fb1_z := b1.out.frozen
  have rfb0_0 := cell_regrown fb0_0
  have rfb0_1 := cell_regrown fb0_1
  have rfb1_0 := cell_regrown fb1_0
  have rfb1_1 := cell_regrown fb1_1
  refine region_mixE [(true, 0), (true, 1), (true, 3), (true, 4), (false, 2), (false, 5), (false, 6)] 7 (by kernel_rfl) (by kernel_rfl) (fun _ _ _ _ _ h => h) ?_
  try (repeat (refine mixE_q rfl ?_; go_big_quiet_want; go_big_quiet_op; go_big_quiet_on; refine wpQuiet_nil ?_))
  have hS := Hd.mk (Below.refl W1.heap.size W1)
  refine mixE_b rfl ?_ (by rfl)
  go_wp2_with fail
  refine ⟨cls_below (below_alloc (below_drew (Below.refl _ _)) _), ?_⟩
  have HR := Hd.mk (R_empty int 3 W1.drew)
  have hE := Hd.mk (below_alloc (below_drew (Below.refl W1.heap.size W1)) (.cells #[] 3))
  refine mixE_b rfl ?_ (by rfl)
  go_wp2_with (at_builtin; refine append_scal (h1 := fun _ => rfl) rfl _ _ 22 3 (.int .i64 0) 8 rfl Try.underlying22 info_int rfl (by decide) (S' := fun k => W1.heap.size ≤ k) rfl rfl HR.out (C_below (C_below HC.out hB.out) hE.out) (fun _ h => h) (fun k h => by simp at h; omega) (by simp; omega) (fun v1 w1 hv hf => ?_))
  clear rfb0_0 rfb0_1 rfb1_0 rfb1_1
  clear fb0_0 fb0_1 fb0_z fb1_0 fb1_1 fb1_z
  have hX := ((Fr.of_below hE.out (fun k => W1.heap.size ≤ k)).then_ hf (fun k h _ => h)).below (fun k h => h)
  obtain ⟨D1, d1, rfl, _, _⟩ := R_C hv
  clear HR hE hf
  have b0 := Hd.mk (b0.out.below hX)
  have b1 := Hd.mk (b1.out.below hX)
  have hB := Hd.mk (below_then hB.out hX)
  replace hS := Hd.mk (below_then hS.out hX)
  have hz_ := hX.size
  clear hX
  have z2 := Hd.mk hz_; clear hz_
  have hO := Hd.mk (R_bound hv); clear hv
  go_wp2_with fail
  refine ⟨cls_below hS.out, ?_⟩
  refine mixE_b rfl ?_ (by rfl)
  go_wp2_with fail
  refine ⟨cls_below hS.out, ?_⟩
  have fb0_0 : w1.cell? ⟨w.heap.size, 0, none⟩ = some (Value.int IntKind.i64 x.id) := b0.out.cell 0 rfl
  have fb0_1 : w1.cell? ⟨w.heap.size, 1, none⟩ = some (Value.slice A1 x.cells.length c1) := b0.out.cell 1 rfl
  have fb0_z := b0.out.frozen
  have fb1_0 : w1.cell? ⟨w.heap.size + 1, 0, none⟩ = some (Value.int IntKind.i64 0) := b1.out.cell 0 rfl
  have fb1_1 : w1.cell? ⟨w.heap.size + 1, 1, none⟩ = some (Value.slice none 0 0) := b1.out.cell 1 rfl
  have fb1_z := b1.out.frozen
  refine mixE_end rfl ?_ (by rfl)
  clear hS
  go_wp2_with fail
  refine mixQ_n ?_
  go_wp2_with fail
  refine bodyPost_retW (v := .agg #[Value.int IntKind.i64 x.id, Value.slice D1 x.cells.length d1]) (by simp [results, Try.results131, go_sem, fb0_0, fb0_1, fb0_z, fb1_0, fb1_1, fb1_z]) rfl ?_
  intro W hW
  clear fb0_0 fb0_1 fb0_z fb1_0 fb1_1 fb1_z
  have hz_ : w1.heap.size ≤ W.heap.size := by rw [hW]; simp
  have eF : Fr w1 W (fun k => k = w.heap.size + 1 ∨ w1.heap.size ≤ k) := by rw [hW]; (repeat (first | with_reducible refine Fr.setCell ?_ _ (fun _ => by simp <;> omega) _ | with_reducible refine Fr.alloc ?_ _ | with_reducible refine Fr.drew ?_)); exact Fr.refl _ _
  have z1_ := z1.out; have z2_ := z2.out
  have hB := Hd.mk (((Fr.of_below hB.out (fun k => k = w.heap.size + 1 ∨ w1.heap.size ≤ k)).then_ eF (fun k hk _ => hk)).below (fun k hk => by have := hB.out.size; omega))
  have b0 := Hd.mk (b0.out.fr eF (fun h => by have hlt_ := b0.out.lt; (try simp only at h); omega))
  have b1 := Hd.mk (show Blk W (w.heap.size + 1) #[Value.int IntKind.i64 x.id, Value.slice D1 x.cells.length d1] 41 by rw [hW]; exact (Blk.all b1.out [Value.int IntKind.i64 x.id, Value.slice D1 x.cells.length d1] rfl))
  have hO := Hd.mk (R_fr hO.out eF (fun k hk hl h => by skip; (try simp only [rng] at hk); (try simp only at hk); (try simp only at h); omega))
  clear hW eF
  have z3 := Hd.mk hz_; clear hz_
  exact ⟨[Value.int IntKind.i64 x.id, Value.slice D1 x.cells.length d1], rfl, tRow_O.2 ⟨_, rfl, R_mono (fun k hk => by have := hk.1; have := hB.out.size; have := z1.out; omega) hO.out⟩, hB.out⟩
set_option maxRecDepth 100000 in
theorem spec_RowDrop (A : Option Addr) (c : Nat) (l : List Row) (n : Int) (w : World) (hr : tRow.C w A l) (hl : bulkRowS l ≤ 4194304) :
    Calls Try.prog 48 #[.slice A l.length c, .int .i64 n] w fun e w' => ∃ v, e = .returned v ∧ tRow.R 41 w' (fun k => w.heap.size ≤ k) v (rowDrop l n) ∧ Below w.heap.size w w' := by
  have hm := hr.1
  have hL : l.length ≤ 4194304 := by simp only [bulkRowS] at hl; omega
  have HL := Hd.mk hl; clear hl
  have HC := Hd.mk hr; clear hr
  go_enter Try.func48, Try.ntmps48
  go_wp2_with fail
  refine (spec_RowAt _ _ l n w HC.out).mono ?_
  rintro e w0 ⟨rfl, hX⟩
  have HX := Hd.mk hX; clear hX
  have HR := Hd.mk (R_mono (S' := fun k => w.heap.size ≤ k) (fun k h => Nat.le_trans HX.out.size h) (R_empty tRow 41 w0))
  obtain ⟨at_, hat⟩ : ∃ z, z = rowAt l n := ⟨_, rfl⟩
  rw [← hat]
  have HAT := Hd.mk hat; clear hat
  go_wp2_with fail
  go_loopw [6, 7] (fun o i wr => ∃ k : Nat, ∃ vv : Value, k ≤ l.length ∧ i = .int .i64 k ∧ vv = o ∧ Hd (tRow.R 41 wr (fun k => w.heap.size ≤ k) vv ((l.take k).eraseIdx (l.findIdx (fun r => r.id == n)))) ∧ Hd (Below w.heap.size w wr)) (fun _ i _ => l.length - (intOf i).toNat)
  case atStart => exact ⟨0, _, Nat.zero_le _, rfl, rfl, ⟨by simpa using HR.out⟩, ⟨below_alloc HX.out _⟩⟩
  case round =>
    obtain ⟨k, vv, hk, rfl, rfl, HK, HB⟩ := hrel
    by_cases hlt : k < l.length
    · obtain ⟨ad, A1, c1, rfl, x0, x1, hc1, hr1⟩ := C_row_at HC.out HB.out k hlt
      have hb := Nat.le_trans (bulkL_mem bulkRow (List.getElem_mem hlt)) (Nat.le_trans (Nat.le_add_left _ _) HL.out)
      have HK1 := Hd.mk hr1; clear hr1
      have HNE := Hd.mk (idxF_ne (fun r => r.id == n) l k hlt)
      rw [show idxF (fun r => r.id == n) l = at_ from HAT.out.symm] at HNE
      cases hb2 : ((k : Int) != at_)
      · have HE := Hd.mk (show k = l.findIdx (fun r => r.id == n) by have := HNE.out; rw [hb2] at this; simpa using this)
        clear HNE
        go_wp2_with fail
        go_roundw
        case rel => exact ⟨k + 1, _, by omega, by go_num, rfl, ⟨by rw [erase_step _ _ _ hlt, if_pos HE.out]; exact HK.out⟩, HB⟩
        case measure => simp [intOf]; omega
      · replace HNE := Hd.mk (show ¬ k = l.findIdx (fun r => r.id == n) by have := HNE.out; rw [hb2] at this; simpa using this)
        go_wp2_with fail
        apply calls_gen; intro W hW
        have hE : Below wr.heap.size wr W := by rw [hW]; (repeat (first | with_reducible refine below_alloc ?_ _ | with_reducible refine below_drew ?_)); exact Below.refl _ _
        clear hW
        refine (spec_l6Copy l[k] _ W (tRow_K.2 ⟨A1, c1, rfl, hc1, C_below HK1.out hE⟩) hb).mono ?_
        rintro e w1 ⟨cs', rfl, hO, hX⟩
        obtain ⟨v1, rfl, hv1⟩ := tRow_O.1 hO
        obtain ⟨D1, d1, rfl, _, _⟩ := R_C hv1
        have HO := Hd.mk hO; clear hO hv1
        have HS := Hd.mk hE.size
        have hE1 := below_then hE hX
        have HR1 := Hd.mk (R_below (R_bound HK.out) hE1)
        have HB1 := Hd.mk (below_then HB.out hE1)
        clear hE hX hE1
        go_wp2_with (at_builtin; refine append_one tRow rfl _ _ 68 41 (.agg #[.int .i64 0, .slice none 0 0]) 32 rfl Try.underlying68 info_RowS rfl (by decide) (by decide) (S := fun k => w.heap.size ≤ k ∧ k < wr.heap.size) (T := fun k => W.heap.size ≤ k) (S' := fun k => w.heap.size ≤ k) (v := vv) (xs := (l.take k).eraseIdx (l.findIdx (fun r => r.id == n))) l[k] [Value.int IntKind.i64 l[k].id, Value.slice D1 l[k].cells.length d1] rfl rfl HR1.out HO.out (fun k h1 hl h2 => by have := HS.out; have := h2.2; omega) (fun k h => h.1) (fun k h => by have := HS.out; have := HB.out.size; omega) (fun k h => by have := HB1.out.size; omega) (by have := List.length_eraseIdx_le (l.take k) (l.findIdx (fun r => r.id == n)); simp only [List.length_take] at this; omega) (fun v2 w2 hv2 hf2 => ?_))
        have HV := Hd.mk hv2
        have HB2 := Hd.mk (((Fr.of_below HB1.out (fun k => w.heap.size ≤ k)).then_ (hf2.mono (S' := fun k => w.heap.size ≤ k) (fun k _ h => h.1)) (fun k h _ => h)).below (fun k h => h))
        clear hv2 hf2
        go_wp2_with fail
        go_roundw
        case rel => exact ⟨k + 1, _, by omega, by go_num, rfl, ⟨by rw [erase_step _ _ _ hlt, if_neg HNE.out]; exact HV.out⟩, HB2⟩
        case measure => simp [intOf]; omega
    · obtain rfl : k = l.length := by omega
      go_wp2_with fail
      go_ret
      have := HK.out
      rw [List.take_length] at this
      exact ⟨_, rfl, this, HB.out⟩
end Go.Proofs.Ytnpogfhfjofbmaa.X
