/- What is proved here: contracts of RowAt and of the index of a row. Conditions: none. -/
import Derived.Test.YtnpogfhfjofbmaaXF
namespace Go.Proofs.Ytnpogfhfjofbmaa.X
open Go.RowKit Go.Sort
set_option linter.unusedVariables false
set_option linter.unusedSimpArgs false
open Ty
/-- The first place of which p holds; -1 where there is none. -/
def idxF {α : Type} (p : α → Bool) (l : List α) : Int := if l.findIdx p < l.length then (l.findIdx p : Int) else -1
theorem idxF_found {α : Type} (p : α → Bool) (l : List α) (k : Nat) (hk : k < l.length) (h : (l.take k).all (fun x => !p x) = true) (hp : p l[k] = true) : idxF p l = k := by
  have : l.findIdx p = k := by
    rw [List.findIdx_eq hk]
    refine ⟨hp, fun j hj => ?_⟩
    rw [List.all_eq_true] at h
    have := h l[j] (by rw [List.mem_take_iff_getElem]; exact ⟨j, by omega, rfl⟩)
    simpa using this
  unfold idxF
  rw [this, if_pos hk]
theorem idxF_none {α : Type} (p : α → Bool) (l : List α) (h : l.all (fun x => !p x) = true) : idxF p l = -1 := by
  have : l.findIdx p = l.length := by
    rw [List.findIdx_eq_length]
    intro x hx
    rw [List.all_eq_true] at h
    simpa using h x hx
  unfold idxF
  rw [if_neg (by omega)]
def rowAt (l : List Row) (n : Int) : Int := idxF (fun r => r.id == n) l
set_option maxRecDepth 100000 in
theorem spec_RowAt (A : Option Addr) (c : Nat) (l : List Row) (n : Int) (w : World) (hr : tRow.C w A l) :
    Calls Try.prog 49 #[.slice A l.length c, .int .i64 n] w fun e w' => e = .returned (.int .i64 (rowAt l n)) ∧ Below w.heap.size w w' := by
  have hm := hr.1
  have HC := Hd.mk hr; clear hr
  go_enter Try.func49, Try.ntmps49
  go_wp2
  go_loop [5] (fun i => ∃ k : Nat, k ≤ l.length ∧ i = .int .i64 k ∧ Hd ((l.take k).all (fun x => !(x.id == n)) = true)) (fun i => l.length - (intOf i).toNat)
  case atStart => exact ⟨0, Nat.zero_le _, rfl, ⟨rfl⟩⟩
  case round =>
    obtain ⟨k, hk, rfl, HA⟩ := hrel
    by_cases hlt : k < l.length
    · obtain ⟨ad, A1, c1, rfl, x0, x1, hc1, hr1⟩ := C_row_at HC.out (Below.refl _ _) k hlt
      have HA2 := Hd.mk (all_take (fun x => !(x.id == n)) l k hlt HA.out)
      cases hb : (l[k].id == n)
      · have Hb := Hd.mk hb
        go_wp2_with fail
        go_round
        case rel => exact ⟨k + 1, by omega, by go_num, ⟨by rw [HA2.out]; simp [Hb.out]⟩⟩
        case measure => simp [intOf]; omega
      · have Hb := Hd.mk (idxF_found _ l k hlt HA.out hb)
        go_wp2_with fail
        go_ret
        exact ⟨by rw [show rowAt l n = k from Hb.out]; rfl, Below.refl _ _⟩
    · obtain rfl : k = l.length := by omega
      go_wp2_with fail
      go_ret
      have := HA.out
      rw [List.take_length] at this
      exact ⟨by rw [show rowAt l n = -1 from idxF_none _ l this]; rfl, Below.refl _ _⟩
set_option maxRecDepth 100000 in
theorem slices_IndexFunc_at (p : Row → Bool) (A : Option Addr) (c : Nat) (l : List Row) (w : World) (hr : tRow.C w A l) (q : Addr)
    (hp : ∀ (x : Row) (cs : List Value) (w1 : World), Below w.heap.size w w1 → tRow.K w1 x cs → Calls Try.prog 125 #[.agg cs.toArray, .pointer (some q)] w1 fun e w' => e = .returned (.bool (p x)) ∧ Below w1.heap.size w1 w') :
    Calls Try.prog 124 #[.slice A l.length c, .func (.func 125) #[] #[.pointer (some q)]] w fun e w' => e = .returned (.int .i64 (idxF p l)) ∧ Below w.heap.size w w' := by
  have hm := hr.1
  have HC := Hd.mk hr; clear hr
  have HP := Hd.mk hp; clear hp
  go_enter Try.func124, Try.ntmps124
  go_wp2
  go_loopw [8] (fun i wr => ∃ k : Nat, k ≤ l.length ∧ i = .int .i64 k ∧ Hd ((l.take k).all (fun x => !p x) = true) ∧ Hd (Below w.heap.size w wr)) (fun i _ => l.length - (intOf i).toNat)
  case atStart => exact ⟨0, Nat.zero_le _, rfl, ⟨rfl⟩, ⟨Below.refl _ _⟩⟩
  case round =>
    obtain ⟨k, hk, rfl, HA, HB⟩ := hrel
    by_cases hlt : k < l.length
    · obtain ⟨ad, A1, c1, rfl, x0, x1, hc1, hr1⟩ := C_row_at HC.out HB.out k hlt
      have HK1 := Hd.mk (tRow_K.2 ⟨A1, c1, rfl, hc1, hr1⟩ : tRow.K _ l[k] _); clear hr1
      have HA2 := Hd.mk (all_take (fun x => !p x) l k hlt HA.out)
      go_wp2_with fail
      refine (HP.out l[k] _ _ HB.out HK1.out).mono ?_
      rintro e w1 ⟨rfl, hB1⟩
      have hB2 := below_then HB.out hB1
      cases hb : p l[k]
      · have Hb := Hd.mk hb
        go_wp2_with fail
        go_roundw
        case rel => exact ⟨k + 1, by omega, by go_num, ⟨by rw [HA2.out]; simp [Hb.out]⟩, ⟨hB2⟩⟩
        case measure => simp [intOf]; omega
      · have Hb := Hd.mk (idxF_found _ l k hlt HA.out hb)
        go_wp2_with fail
        go_ret
        exact ⟨by rw [Hb.out]; rfl, hB2⟩
    · obtain rfl : k = l.length := by omega
      go_wp2_with fail
      go_ret
      have := HA.out
      rw [List.take_length] at this
      exact ⟨by rw [idxF_none _ l this]; rfl, HB.out⟩
set_option maxRecDepth 100000 in
theorem impl_RowAt_1 (x : Row) (cs : List Value) (n : Int) (q : Addr) (w : World) (hk : tRow.K w x cs) (hq : w.cell? q = some (.int .i64 n)) :
    Calls Try.prog 125 #[.agg cs.toArray, .pointer (some q)] w fun e w' => e = .returned (.bool (x.id == n)) ∧ Below w.heap.size w w' := by
  obtain ⟨A1, c1, rfl, hc1, hr1⟩ := tRow_K.1 hk
  clear hr1 hk
  have hq2 := fun o => cell_below (below_alloc (Below.refl _ _) o) hq
  go_enter Try.func125, Try.ntmps125
  go_wp2
  go_ret
  exact ⟨rfl, by exact below_alloc (Below.refl _ _) _⟩
set_option maxRecDepth 100000 in
theorem impl_RowAt (A : Option Addr) (c : Nat) (l : List Row) (n : Int) (w : World) (hr : tRow.C w A l) :
    Calls Try.prog 38 #[.slice A l.length c, .int .i64 n] w fun e w' => e = .returned (.int .i64 (rowAt l n)) ∧ Below w.heap.size w w' := by
  have hm := hr.1
  have HC := Hd.mk hr; clear hr
  go_enter Try.func38, Try.ntmps38
  go_wp2_with fail
  apply calls_gen; intro W hW
  have hB : Below w.heap.size w W := by rw [hW]; exact below_alloc (Below.refl _ _) _
  have hq : W.cell? ⟨w.heap.size, 0, none⟩ = some (.int .i64 n) := by rw [hW]; simp [go_sem]
  clear hW
  refine (slices_IndexFunc_at (fun r => r.id == n) _ _ l _ (C_below HC.out hB) _ (fun x cs w1 h1 h2 => impl_RowAt_1 x cs n _ w1 h2 (cell_below h1 hq))).mono ?_
  rintro e w1 ⟨rfl, hB1⟩
  go_wp2_with fail
  go_ret
  exact ⟨rfl, below_then hB hB1⟩
end Go.Proofs.Ytnpogfhfjofbmaa.X
