/- What is proved here: contracts of a value's depth. Conditions: none. -/
import Derived.Test.YtnpogfhfjofbmaaXGd
namespace Go.Proofs.Ytnpogfhfjofbmaa.X
open Go.RowKit Go.Sort
set_option linter.unusedVariables false
set_option linter.unusedSimpArgs false
open Ty
def maxN {α : Type} (f : α → Nat) : List α → Nat
  | [] => 0
  | x :: l => max (f x) (maxN f l)
theorem maxN_append {α : Type} (f : α → Nat) (l m : List α) : maxN f (l ++ m) = max (maxN f l) (maxN f m) := by
  induction l with
  | nil => simp [maxN]
  | cons x l ih => simp only [List.cons_append, maxN, ih]; omega
theorem maxN_take {α : Type} (f : α → Nat) (l : List α) (k : Nat) (hk : k < l.length) : maxN f (l.take (k + 1)) = max (maxN f (l.take k)) (f l[k]) := by
  rw [List.take_succ_eq_append_getElem hk, maxN_append]; simp [maxN]
theorem maxN_le {α : Type} (f : α → Nat) (b : Nat) (h : ∀ x, f x ≤ b) : ∀ l : List α, maxN f l ≤ b
  | [] => Nat.zero_le _
  | x :: l => by have := h x; have := maxN_le f b h l; simp only [maxN]; omega
def depthD : Nat → J → Nat
  | 0, _ => 0
  | d + 1, j => maxN (depthD d) j.list + 1
theorem depthD_le : ∀ (d : Nat) (j : J), depthD d j ≤ d
  | 0, _ => Nat.le_refl _
  | d + 1, j => by have := maxN_le (depthD d) d (depthD_le d) j.list; simp only [depthD]; omega
theorem sumZ_mem {α : Type} (f : α → Int) (h : ∀ x, 0 ≤ f x) {l : List α} {x : α} (hx : x ∈ l) : f x ≤ sumZ f l := by
  induction l with
  | nil => cases hx
  | cons y l ih =>
    simp only [sumZ]
    have h1 := h y
    have h2 := sumZ_pos f h l
    rcases List.mem_cons.1 hx with rfl | hx
    · omega
    · have := ih hx; omega
theorem size_part {d : Nat} {x y : J} (h : sizeN (d + 1) x ≤ 400) (hy : y ∈ x.list) : sizeN d y ≤ 400 := by
  have := sumZ_mem (sizeN d) (sizeN_pos d) hy
  unfold sizeN at h
  split at h <;> omega
def jsonDepth (x : J) : Int := if sizeN 6 x ≤ 400 then depthD 6 x else 0
end Go.Proofs.Ytnpogfhfjofbmaa.X
