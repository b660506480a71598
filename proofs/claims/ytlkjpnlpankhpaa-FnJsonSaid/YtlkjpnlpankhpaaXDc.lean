/- What is proved here: draws of schemas. Conditions: none. -/
import Derived.Test.YtlkjpnlpankhpaaXDb
namespace Go.Proofs.Ytlkjpnlpankhpaa.X
open Go.RowKit Go.Sort
set_option linter.unusedVariables false
set_option linter.unusedSimpArgs false
open Ty
theorem R_ints {W0 : World} (l : List Int) (hl : l.length ≤ 1000) : int.R 3 (W0.alloc (.cells (l.map (Value.int .i64)).toArray 3)) (fun k => k = W0.heap.size) (.slice (some ⟨W0.heap.size, 0, none⟩) l.length l.length) l := by
  refine R_block (cap := l.length) (heap_alloc_new W0 _) rfl (Nat.le_refl _) (by omega) (by simp [int, scal]) (fun _ => 0) (fun i x h => ?_)
  have hi := (List.getElem?_eq_some_iff.1 h).1
  have hx := (List.getElem?_eq_some_iff.1 h).2
  show (((l.map (Value.int .i64)).toArray.toList).drop (i * 1)).take 1 = [.int .i64 x]
  rw [Nat.mul_one, List.drop_eq_getElem_cons (by simpa using hi)]
  simp [hx]
set_option maxHeartbeats 8000000 in
set_option maxRecDepth 100000 in
theorem spec_l1PickInt {S : Nat → Prop} (A : Option Addr) (n c : Nat) (l : List Int) (W0 w : World) (g : Nat) (hR : int.R 3 w S (.slice A n c) l) (hS : ¬ S g) (hn : n = l.length) (h0 : 0 < l.length) (h2 : l.length ≤ 200) (hc : Cur W0 w g) :
    Calls Try.prog 87 #[.pointer (some ⟨g, 0, none⟩), .slice A n c] w fun e w' => ∃ x : Int, e = .returned (.int .i64 x) ∧ x ∈ l ∧ Cur W0 w' g ∧ Fr w w' (fun k => k = g) := by
  subst hn
  have HR := Hd.mk hR; clear hR
  have HC := Hd.mk hc; clear hc
  go_enter Try.func87, Try.ntmps87
  go_wp2_with fail
  refine (spec_l1Below l.length W0 w g HC.out).mono ?_
  rintro e w1 ⟨x, rfl, x0, x1, _, hC, hX⟩
  replace x1 := x1 (by omega)
  obtain ⟨k, rfl⟩ := Int.eq_ofNat_of_zero_le x0
  have hk : k < l.length := by omega
  have HC1 := Hd.mk hC; clear hC
  have HR1 := Hd.mk (R_fr HR.out hX (fun k hk _ h => hS (by have h : k = g := h; exact h ▸ hk)))
  have HX := Hd.mk hX; clear hX
  obtain ⟨ad, rfl, y0⟩ := C_int_at (R_Cv HR1.out) (Below.refl _ _) k hk
  go_wp2_with fail
  go_ret
  exact ⟨_, rfl, List.getElem_mem hk, HC1.out, HX.out⟩
end Go.Proofs.Ytlkjpnlpankhpaa.X
