/- What is proved here: draws of names. Conditions: none. -/
import Derived.Test.YtlkjpnlpankhpaaXDc
namespace Go.Proofs.Ytlkjpnlpankhpaa.X
open Go.RowKit Go.Sort
set_option linter.unusedVariables false
set_option linter.unusedSimpArgs false
open Ty
theorem R_strs {W0 : World} (l : List ByteArray) (hl : l.length ≤ 1000) (hs : ∀ s ∈ l, s.size ≤ 1000) : str.R 9 (W0.alloc (.cells (l.map Value.string).toArray 9)) (fun k => k = W0.heap.size) (.slice (some ⟨W0.heap.size, 0, none⟩) l.length l.length) l := by
  refine R_block (cap := l.length) (heap_alloc_new W0 _) rfl (Nat.le_refl _) (by omega) (by simp [show str.sz = 1 from rfl]) (fun _ => 0) (fun i x h => ?_)
  have hi := (List.getElem?_eq_some_iff.1 h).1
  have hx := (List.getElem?_eq_some_iff.1 h).2
  have hz := hs x (by rw [← hx]; exact List.getElem_mem hi)
  show (((l.map Value.string).toArray.toList).drop (i * 1)).take 1 = [.string x] ∧ x.size ≤ 9223372036854775807
  refine ⟨?_, by omega⟩
  rw [Nat.mul_one, List.drop_eq_getElem_cons (by simpa using hi)]
  simp [hx]
set_option maxHeartbeats 8000000 in
set_option maxRecDepth 100000 in
theorem spec_l1Pick {S : Nat → Prop} (A : Option Addr) (n c : Nat) (l : List ByteArray) (W0 w : World) (g : Nat) (hR : str.R 9 w S (.slice A n c) l) (hS : ¬ S g) (hn : n = l.length) (h0 : 0 < l.length) (h2 : l.length ≤ 200) (hc : Cur W0 w g) :
    Calls Try.prog 82 #[.pointer (some ⟨g, 0, none⟩), .slice A n c] w fun e w' => ∃ x : ByteArray, e = .returned (.string x) ∧ x ∈ l ∧ Cur W0 w' g ∧ Fr w w' (fun k => k = g) := by
  subst hn
  have HR := Hd.mk hR; clear hR
  have HC := Hd.mk hc; clear hc
  go_enter Try.func82, Try.ntmps82
  go_wp2_with fail
  refine (spec_l1Below l.length W0 w g HC.out).mono ?_
  rintro e w1 ⟨x, rfl, x0, x1, _, hC, hX⟩
  replace x1 := x1 (by omega)
  obtain ⟨k, rfl⟩ := Int.eq_ofNat_of_zero_le x0
  have hk : k < l.length := by omega
  have HC1 := Hd.mk hC; clear hC
  have HR1 := Hd.mk (R_fr HR.out hX (fun k hk _ h => hS (by have h : k = g := h; exact h ▸ hk)))
  have HX := Hd.mk hX; clear hX
  obtain ⟨ad, rfl, y0, _⟩ := C_str_at (R_Cv HR1.out) (Below.refl _ _) k hk
  go_wp2_with fail
  go_ret
  exact ⟨_, rfl, List.getElem_mem hk, HC1.out, HX.out⟩
def drawNames : List ByteArray := [⟨#[97]⟩, ⟨#[98]⟩, ⟨#[99]⟩, ⟨#[105, 100]⟩, ⟨#[110]⟩, ⟨#[114, 111, 119, 115]⟩, ⟨#[]⟩, ⟨#[97, 47, 98]⟩, ⟨#[126]⟩]
set_option maxHeartbeats 8000000 in
set_option maxRecDepth 100000 in
theorem spec_l1DrawName (W0 w : World) (g : Nat) (hc : Cur W0 w g) :
    Calls Try.prog 43 #[.pointer (some ⟨g, 0, none⟩)] w fun e w' => ∃ x : ByteArray, e = .returned (.string x) ∧ x ∈ drawNames ∧ Cur W0 w' g ∧ Fr w w' (fun k => k = g) := by
  have HC := Hd.mk hc; have hlt := hc.lt; clear hc
  go_enter Try.func43, Try.ntmps43
  go_wp2_with fail
  apply calls_gen; intro W1 hW
  have hE := Hd.mk (show str.R 9 W1 (fun k => k = w.heap.size) (.slice (some ⟨w.heap.size, 0, none⟩) 9 9) drawNames by rw [hW]; exact R_strs (W0 := w) drawNames (by decide) (by decide))
  have hC1 := Hd.mk (show Cur W0 W1 g by rw [hW]; exact HC.out.below (below_alloc (Below.refl _ _) _))
  have hX1 := Hd.mk (show Fr w W1 (fun k => k = g) by rw [hW]; exact (Fr.refl _ _).alloc _)
  clear hW
  refine (spec_l1Pick _ _ _ drawNames W0 _ g hE.out (by show ¬ g = w.heap.size; omega) rfl (by decide) (by decide) hC1.out).mono ?_
  rintro e w2 ⟨x, rfl, hx, hC, hX⟩
  have hX2 := Hd.mk (hX1.out.trans hX); clear hX
  go_wp2_with fail
  go_ret
  exact ⟨_, rfl, hx, hC, hX2.out⟩
end Go.Proofs.Ytlkjpnlpankhpaa.X
