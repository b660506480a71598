/- What is proved here: how great a drawn value is (pure). Conditions: none. -/
import Derived.Test.YtlkjpnlpankhpaaXPu
import Derived.Test.YtlkjpnlpankhpaaXJ
namespace Go.Proofs.Ytlkjpnlpankhpaa.X
open Go.RowKit Go.Sort
set_option linter.unusedVariables false
set_option linter.unusedSimpArgs false
open Ty
/-- A value as it is drawn, nested no deeper than d. -/
def DrG : Nat → J → Prop
  | 0, _ => False
  | d + 1, j => j.list.length ≤ 4 ∧ j.names.length ≤ 4 ∧ j.s.size ≤ 60 ∧ (∀ s ∈ j.names, s.size ≤ 60) ∧ (∀ x ∈ j.list, DrG d x) ∧ (j.kind = 5 → j.names.length = j.list.length)
def drB : Nat → Nat
  | 0 => 0
  | d + 1 => 310 + 4 * drB d
theorem bulkL_le4 {α : Type} (f : α → Nat) (B : Nat) : ∀ l : List α, (∀ x ∈ l, f x ≤ B) → bulkL f l ≤ l.length * B
  | [], _ => by simp [bulkL]
  | x :: l, h => by
    have h1 := bulkL_le4 f B l (fun y hy => h y (by simp [hy]))
    have h2 := h x (by simp)
    simp only [bulkL, List.length_cons, Nat.add_mul]
    omega
theorem DrG_bulk : ∀ (d m : Nat) (j : J), DrG d j → bulkJ m j ≤ drB d
  | 0, _, _, h => h.elim
  | d + 1, 0, j, h => Nat.zero_le _
  | d + 1, m + 1, j, h => by
    obtain ⟨h1, h2, h3, h4, h5, _⟩ := h
    have h6 := bulkL_le4 (bulkJ m) (drB d) j.list (fun x hx => DrG_bulk d m x (h5 x hx))
    have h7 := bulkL_le4 ByteArray.size 60 j.names h4
    have h8 : j.list.length * drB d ≤ 4 * drB d := Nat.mul_le_mul_right _ h1
    simp only [bulkJ, bulkStringS, drB]
    omega
theorem DrG_null (d : Nat) : DrG (d + 1) J.null := ⟨by simp [J.null], by simp [J.null], by simp [J.null], by simp [J.null], by simp [J.null], by simp [J.null]⟩
theorem putE_facts (l : List ByteArray) (s : ByteArray) (n : Nat) (hn : l.length ≤ n) : (putE l s n).1.length = (putE l s n).2.length ∧ (putE l s n).2.length ≤ l.length + 1 ∧ (∀ i ∈ (putE l s n).2, i < l.length ∨ i = n) ∧ ∀ x ∈ (putE l s n).1, x ∈ l ∨ x = s := by
  obtain ⟨h1, h2, h3, h4, h5, h6⟩ := putS_inv l s n l.length (Nat.le_refl _) hn
  unfold putE
  by_cases hc : (putS l s n l.length).1 = true
  · simp only [if_pos hc]
    exact ⟨h1, h2, fun i hi => (h5 i hi).imp id (fun h => h.1), h6⟩
  · simp only [if_neg hc]
    have h7 := h3 (by simpa using hc)
    refine ⟨by simp; omega, by simp; omega, fun i hi => ?_, fun x hx => ?_⟩
    · rcases List.mem_append.1 hi with h | h
      · exact (h5 i h).imp id (fun h => h.1)
      · exact .inr (List.mem_singleton.1 h)
    · rcases List.mem_append.1 hx with h | h
      · exact h6 x h
      · exact .inr (List.mem_singleton.1 h)
theorem DrG_put {d : Nat} {j v : J} {s : ByteArray} (hj : DrG (d + 1) j) (h5 : j.kind = 5) (hv : DrG d v) (hs : s.size ≤ 60) (hl : j.list.length ≤ 3) : DrG (d + 1) (putJ j v s) ∧ (putJ j v s).kind = 5 ∧ (putJ j v s).list.length ≤ j.list.length + 1 := by
  obtain ⟨g1, g2, g3, g4, g5, g6⟩ := hj
  have hn := g6 h5
  obtain ⟨e1, e2, e3, e4⟩ := putE_facts j.names s j.list.length (by omega)
  have hle : (putJ j v s).list.length ≤ j.list.length + 1 := by
    show ((putE j.names s j.list.length).2.map (putSrc j v)).length ≤ _
    rw [List.length_map]; omega
  refine ⟨⟨by omega, ?_, ?_, fun x hx => ?_, fun x hx => ?_, fun _ => ?_⟩, rfl, hle⟩
  · show (putE j.names s j.list.length).1.length ≤ 4
    omega
  · show (⟨#[]⟩ : ByteArray).size ≤ 60
    decide
  · rcases e4 x hx with h | h
    · exact g4 x h
    · rw [h]; exact hs
  · obtain ⟨i, hi, rfl⟩ := List.mem_map.1 hx
    unfold putSrc
    by_cases hc : i = j.list.length
    · rw [if_pos hc]; exact hv
    · rw [if_neg hc]
      have hi2 : i < j.list.length := by
        rcases e3 i hi with h | h
        · omega
        · exact absurd h hc
      rw [List.getD_eq_getElem?_getD, List.getElem?_eq_getElem hi2]
      exact g5 _ (List.getElem_mem _)
  · show (putE j.names s j.list.length).1.length = ((putE j.names s j.list.length).2.map (putSrc j v)).length
    rw [List.length_map]; exact e1
end Go.Proofs.Ytlkjpnlpankhpaa.X
