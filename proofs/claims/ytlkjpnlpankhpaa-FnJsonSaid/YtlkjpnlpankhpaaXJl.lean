/- What is proved here: what is alike, as great and as deep (pure). Conditions: none. -/
import Derived.Test.YtlkjpnlpankhpaaXSz
import Derived.Test.YtlkjpnlpankhpaaXGf
namespace Go.Proofs.Ytlkjpnlpankhpaa.X
open Go.RowKit Go.Sort
set_option linter.unusedVariables false
set_option linter.unusedSimpArgs false
open Ty
theorem jsonSame_symm (x y : J) : jsonSame x y = jsonSame y x := by
  unfold jsonSame
  have h : eqv x y = eqv y x := by
    rw [Bool.eq_iff_iff, eqv_iff, eqv_iff]
    exact ⟨Eq.symm, Eq.symm⟩
  rw [h]
  cases jsonOk x <;> cases jsonOk y <;> rfl
theorem jsonSame_self (x : J) : jsonSame x x = jsonOk x := by
  unfold jsonSame
  rw [eqv_self]
  cases jsonOk x <;> rfl
theorem jsonSame_eq {x y : J} (h : jsonSame x y = true) : x = y := by
  unfold jsonSame at h
  simp only [Bool.and_eq_true] at h
  exact eqv_iff.1 h.2.2
theorem jsonSize_no {x : J} (h : jsonOk x = false) : jsonSize x = 0 ∧ jsonDepth x = 0 := by
  have h1 : ¬ sizeN 6 x ≤ 400 := of_decide_eq_false (show decide (sizeN 6 x ≤ 400) = false from h)
  exact ⟨if_neg h1, if_neg h1⟩
theorem jsonSize_sum {x : J} (h : jsonOk x = true) : jsonSize x = 1 + sumZ jsonSize x.list := by
  have h1 : sizeN 6 x ≤ 400 := of_decide_eq_true (show decide (sizeN 6 x ≤ 400) = true from h)
  rw [show jsonSize x = sizeN 6 x from if_pos h1, (size_own h1).2, sumZ_congr jsonSize (sizeN 5) x.list (fun y hy => ?_)]
  have h2 : sizeN 5 y ≤ 400 := size_part h1 hy
  have h3 := sizeN_up 5 y h2
  rw [show jsonSize y = sizeN 6 y from if_pos (by rw [h3]; exact h2), h3]
theorem maxN_sum {α : Type} (f : α → Nat) (g : α → Int) : ∀ l : List α, (∀ x ∈ l, (f x : Int) ≤ g x) → (maxN f l : Int) ≤ sumZ g l
  | [], _ => Int.le_refl _
  | x :: l, h => by
    have h1 := maxN_sum f g l (fun y hy => h y (by simp [hy]))
    have h2 := h x (by simp)
    simp only [maxN, sumZ]
    omega
theorem depth_size : ∀ (d : Nat) (x : J), sizeN d x ≤ 400 → 1 ≤ depthD d x ∧ (depthD d x : Int) ≤ sizeN d x
  | 0, x, h => by simp [sizeN] at h
  | d + 1, x, h => by
    have h1 := maxN_sum (depthD d) (sizeN d) x.list (fun y hy => (depth_size d y (size_part h hy)).2)
    have h2 := (size_own h).2
    simp only [depthD]
    omega
theorem jsonDepth_le {x : J} (h : jsonOk x = true) : 1 ≤ jsonDepth x ∧ jsonDepth x ≤ jsonSize x := by
  have h1 : sizeN 6 x ≤ 400 := of_decide_eq_true (show decide (sizeN 6 x ≤ 400) = true from h)
  obtain ⟨h2, h3⟩ := depth_size 6 x h1
  rw [show jsonSize x = sizeN 6 x from if_pos h1, show jsonDepth x = (depthD 6 x : Int) from if_pos h1]
  omega
end Go.Proofs.Ytlkjpnlpankhpaa.X
