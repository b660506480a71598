/- What is proved here: contracts of the reference's size of a value. Conditions: none. -/
import Derived.Test.YtkgefjjgjjmklaaDoorXGc
namespace Go.Proofs.YtkgefjjgjjmklaaDoor.X
open Go.RowKit Go.Sort
set_option linter.unusedVariables false
set_option linter.unusedSimpArgs false
open Ty
theorem sizeN_bad {d : Nat} {x : J} (h : ownB x = false) : sizeN (d + 1) x = 401 := by simp [sizeN, h]
theorem sizeN_ok {d : Nat} {x : J} (h : ownB x = true) : sizeN (d + 1) x = if 1 + sumZ (sizeN d) x.list ≤ 400 then 1 + sumZ (sizeN d) x.list else 401 := by simp [sizeN, h]
def GreatMid (d : Nat) (l : List J) (k : Nat) (g : Int) : Prop := 1 ≤ g ∧ g ≤ 401 + 400 * ((d : Int) + 1) ∧ (g ≤ 400 → g = 1 + sumZ (sizeN d) (l.take k)) ∧ (400 < g → 400 < 1 + sumZ (sizeN d) l)
theorem greatMid_start {d : Nat} {l : List J} : GreatMid d l 0 1 := ⟨by omega, by omega, fun _ => rfl, fun h => by omega⟩
theorem greatMid_step {d : Nat} {l : List J} {k : Nat} {g g2 : Int} (hk : k < l.length) (h : GreatMid d l k g) (hg : g ≤ 400) (h2 : (if g2 ≤ 400 then g2 else 401) = sizeN d l[k]) (h3 : 1 ≤ g2) (h4 : g2 ≤ 401 + 400 * (d : Int)) : GreatMid d l (k + 1) (g + g2) := by
  obtain ⟨a, b, c, e⟩ := h
  have c := c hg
  have h5 := sumZ_take (sizeN d) l k hk
  have h6 := sumZ_le (sizeN d) (sizeN_pos d) l (k + 1)
  refine ⟨by omega, by omega, fun h => ?_, fun h => ?_⟩
  · rw [if_pos (by omega)] at h2; omega
  · split at h2 <;> omega
theorem greatMid_end {d : Nat} {l : List J} {k : Nat} {g : Int} (h : GreatMid d l k g) (he : k = l.length ∨ 400 < g) : (if g ≤ 400 then g else 401) = if 1 + sumZ (sizeN d) l ≤ 400 then 1 + sumZ (sizeN d) l else 401 := by
  obtain ⟨a, b, c, e⟩ := h
  by_cases hg : g ≤ 400
  · have hk : k = l.length := by omega
    have := c hg
    rw [hk, List.take_length] at this
    rw [if_pos hg, if_pos (by omega), this]
  · have := e (by omega)
    rw [if_neg hg, if_neg (by omega)]
end Go.Proofs.YtkgefjjgjjmklaaDoor.X
