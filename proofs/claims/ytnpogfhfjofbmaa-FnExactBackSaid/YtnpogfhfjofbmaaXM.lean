/- What is proved here: what the laws' marks make of lists of numbers and rows. Conditions: none. -/
import Derived.Test.YtnpogfhfjofbmaaXB
namespace Go.Proofs.Ytnpogfhfjofbmaa.X
open Go.RowKit Go.Sort
set_option linter.unusedVariables false
set_option linter.unusedSimpArgs false
open Ty
/-- Each element marked; cn: how many marks one takes. -/
def markL {α : Type} (mk : Int → α → α) (cn : α → Nat) : Int → List α → List α
  | _, [] => []
  | k, x :: l => mk k x :: markL mk cn (k + cn x) l
section
variable {α : Type} {mk : Int → α → α} {cn : α → Nat}
theorem markL_length : ∀ (l : List α) (k : Int), (markL mk cn k l).length = l.length
  | [], _ => rfl
  | x :: l, k => by simp [markL, markL_length l]
theorem markL_append : ∀ (l m : List α) (k : Int), markL mk cn k (l ++ m) = markL mk cn k l ++ markL mk cn (k + bulkL cn l) m
  | [], m, k => by simp [markL, bulkL]
  | x :: l, m, k => by
    simp only [List.cons_append, markL, bulkL, markL_append l m]
    rw [show k + (cn x : Int) + (bulkL cn l : Int) = k + ((cn x + bulkL cn l : Nat) : Int) by omega]
theorem markL_at (l : List α) (k : Int) (i : Nat) (hi : i < l.length) : (markL mk cn k l)[i]'(by rw [markL_length]; exact hi) = mk (k + bulkL cn (l.take i)) l[i] := by
  have h : l = l.take i ++ (l[i] :: l.drop (i + 1)) := by rw [List.getElem_cons_drop, List.take_append_drop]
  have e : markL mk cn k l = markL mk cn k (l.take i) ++ (mk (k + bulkL cn (l.take i)) l[i] :: markL mk cn (k + bulkL cn (l.take i) + cn l[i]) (l.drop (i + 1))) := by
    conv => lhs; rw [h]
    rw [markL_append]; rfl
  have hl : (markL mk cn k (l.take i)).length = i := by rw [markL_length]; simp; omega
  simp only [e]
  rw [List.getElem_append_right (by omega)]
  simp [hl]
/-- Marked up to i. -/
def midL (mk : Int → α → α) (cn : α → Nat) (k : Int) (l : List α) (i : Nat) : List α := markL mk cn k (l.take i) ++ l.drop i
theorem midL_length (l : List α) (k : Int) (i : Nat) : (midL mk cn k l i).length = l.length := by
  simp [midL, markL_length]; omega
theorem midL_at (l : List α) (k : Int) (i : Nat) (hi : i < l.length) : (midL mk cn k l i)[i]? = some l[i] := by
  have hl : (markL mk cn k (l.take i)).length = i := by rw [markL_length]; simp; omega
  rw [midL, List.getElem?_append_right (by omega), hl]
  simp [hi]
theorem midL_step (l : List α) (k : Int) (i : Nat) (hi : i < l.length) : (midL mk cn k l i).set i (mk (k + bulkL cn (l.take i)) l[i]) = midL mk cn k l (i + 1) := by
  have hl : (markL mk cn k (l.take i)).length = i := by rw [markL_length]; simp; omega
  rw [midL, List.set_append_right _ _ (by omega), hl, Nat.sub_self, midL, List.take_succ_eq_append_getElem hi, markL_append, List.append_assoc, ← List.getElem_cons_drop hi, List.set_cons_zero]
  rfl
theorem midL_end (l : List α) (k : Int) : midL mk cn k l l.length = markL mk cn k l := by simp [midL]
theorem midL_zero (l : List α) (k : Int) : midL mk cn k l 0 = l := by simp [midL, markL]
end
def mkInt (k : Int) (_ : Int) : Int := k
def one {α : Type} (_ : α) : Nat := 1
theorem bulk_one {α : Type} (l : List α) : bulkL one l = l.length := by
  induction l with
  | nil => rfl
  | cons x l ih => simp only [bulkL, ih, one, List.length_cons]; omega
set_option maxRecDepth 100000 in
theorem laws_markIntS {S : Nat → Prop} (v : Value) (l : List Int) (k : Int) (w : World) (hR : int.R 3 w S v l) (h0 : 0 ≤ k) (h1 : k + l.length ≤ 4611686018427387904) :
    Calls Try.prog 161 #[v, .int .i64 k] w fun e w' => e = .returned (.int .i64 (k + l.length)) ∧ int.R 3 w' S v (markL mkInt one k l) ∧ Fr w w' S := by
  obtain ⟨A, c, rfl, hc, hC⟩ := R_C hR
  have hm := hC.1
  clear hC
  have HR := Hd.mk hR; clear hR
  go_enter Try.func161, Try.ntmps161
  go_wp2_with fail
  go_loopw [1, 5] (fun v i wr => ∃ j : Nat, j ≤ l.length ∧ i = .int .i64 j ∧ v = .int .i64 (k + j) ∧ Hd (int.R 3 wr S (.slice A l.length c) (midL mkInt one k l j)) ∧ Hd (Fr w wr S)) (fun _ i _ => l.length - (intOf i).toNat)
  case atStart => exact ⟨0, Nat.zero_le _, rfl, by simp, ⟨by rw [midL_zero]; exact HR.out⟩, ⟨Fr.refl _ _⟩⟩
  case round =>
    obtain ⟨j, hj, rfl, rfl, HK, HF⟩ := hrel
    by_cases hlt : j < l.length
    · obtain ⟨g, cap, hv, hg, hgl⟩ := R_form HK.out (by rw [midL_length]; omega)
      injection hv with hv1 hv2 hv3
      subst hv1
      subst hv3
      clear hv2
      obtain ⟨hgl, hc0, hf0, hst⟩ := R_store1 (i := j) (fun _ => rfl) HK.out (midL_at l k j hlt)
      have HST := Hd.mk (hst (k + j)); clear hst
      have hg := Hd.mk hg
      go_wp2_with fail
      go_roundw
      case rel =>
        refine ⟨j + 1, by omega, by go_num, by go_num, ⟨?_⟩, ⟨HF.out.setCell _ (fun _ => hg.out) _⟩⟩
        have := HST.out
        have e := midL_step (mk := mkInt) (cn := one) l k j hlt
        rw [bulk_one, List.length_take, Nat.min_eq_left hj] at e
        rw [show k + (j : Int) = mkInt (k + j) l[j] from rfl, e] at this
        exact this
      case measure => simp [intOf]; omega
    · obtain rfl : j = l.length := by omega
      go_wp2_with fail
      go_ret
      exact ⟨rfl, by rw [← midL_end]; exact HK.out, HF.out⟩
end Go.Proofs.Ytnpogfhfjofbmaa.X
