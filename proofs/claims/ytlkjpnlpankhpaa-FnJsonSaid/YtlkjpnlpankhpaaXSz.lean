/- What is proved here: how great a right value is, and its parts (pure). Conditions: none. -/
import Derived.Test.YtlkjpnlpankhpaaXGe
import Derived.Test.YtlkjpnlpankhpaaXGf
import Derived.Test.YtlkjpnlpankhpaaXO
import Derived.Test.YtlkjpnlpankhpaaXPe
namespace Go.Proofs.Ytlkjpnlpankhpaa.X
open Go.RowKit Go.Sort
set_option linter.unusedVariables false
set_option linter.unusedSimpArgs false
open Ty
theorem sumZ_congr {α : Type} (f g : α → Int) : ∀ l : List α, (∀ x ∈ l, f x = g x) → sumZ f l = sumZ g l
  | [], _ => rfl
  | x :: l, h => by simp only [sumZ]; rw [h x (by simp), sumZ_congr f g l (fun y hy => h y (by simp [hy]))]
theorem sizeN_up : ∀ (d : Nat) (x : J), sizeN d x ≤ 400 → sizeN (d + 1) x = sizeN d x
  | 0, x, h => by simp [sizeN] at h
  | d + 1, x, h => by
    have h1 : sumZ (sizeN (d + 1)) x.list = sumZ (sizeN d) x.list := sumZ_congr _ _ _ (fun y hy => sizeN_up d y (size_part h hy))
    show (if ownB x = true ∧ 1 + sumZ (sizeN (d + 1)) x.list ≤ 400 then 1 + sumZ (sizeN (d + 1)) x.list else 401) = _
    rw [h1]; rfl
theorem sizeN_to {d e : Nat} (h : d ≤ e) {x : J} (hx : sizeN d x ≤ 400) : sizeN e x ≤ 400 := by
  obtain ⟨i, rfl⟩ : ∃ i, e = d + i := ⟨e - d, by omega⟩
  clear h
  induction i with
  | zero => exact hx
  | succ i ih => rw [← Nat.add_assoc, sizeN_up _ _ ih]; exact ih
theorem size_own {d : Nat} {x : J} (h : sizeN (d + 1) x ≤ 400) : ownB x = true ∧ sizeN (d + 1) x = 1 + sumZ (sizeN d) x.list := by
  unfold sizeN at h ⊢
  split at h
  · rename_i h1
    exact ⟨h1.1, by rw [if_pos h1]⟩
  · omega
theorem textB_size {s : ByteArray} (h : textB s = true) : s.size ≤ 60 := by
  unfold textB at h
  simp only [Bool.and_eq_true, decide_eq_true_eq] at h
  omega
theorem namesB_size {l : List ByteArray} (h : namesB l = true) : ∀ s ∈ l, s.size ≤ 60 := by
  intro s hs
  obtain ⟨k, hk, rfl⟩ := List.mem_iff_getElem.1 hs
  have h1 := List.all_eq_true.1 h k (List.mem_range.2 hk)
  rw [nameStep_at hk, Bool.and_eq_true] at h1
  exact textB_size h1.1
theorem bytes_nil' {s : ByteArray} : (s.toList == []) = true ↔ s = ByteArray.empty := by
  have : (s.toList == ByteArray.empty.toList) = true ↔ s = ByteArray.empty := bytes_eq
  simpa using this
theorem own_facts {x : J} (h : ownB x = true) : x.s.size ≤ 60 ∧ x.names.length ≤ x.list.length ∧ ∀ s ∈ x.names, s.size ≤ 60 := by
  unfold ownB at h
  split at h
  · cases h
  split at h
  · cases h
  rename_i h2
  split at h
  · cases h
  split at h
  · cases h
  rename_i h4
  have hs : x.kind ≠ 3 → x.s.size = 0 := by
    intro hk
    have : x.s.toList == [] := by
      cases hb : (x.s.toList == [])
      · simp [hb, hk] at h4
      · rfl
    rw [bytes_nil'.1 this]; rfl
  have hn : x.kind ≠ 5 → x.names = [] := by
    intro hk
    cases hb : x.names with
    | nil => rfl
    | cons a l => simp [hb, hk] at h2
  by_cases h5 : x.kind = 5
  · have h6 : (((x.names.length : Int) == x.list.length) && namesB x.names) = true := by
      rw [h5] at h; exact h
    rw [Bool.and_eq_true] at h6
    refine ⟨by have := hs (by omega); omega, by have := h6.1; simp at this; omega, namesB_size h6.2⟩
  · rw [hn h5]
    refine ⟨?_, by simp, by simp⟩
    by_cases h3 : x.kind = 3
    · rw [h3] at h
      exact textB_size h
    · have := hs h3; omega
theorem bulk_names {l : List ByteArray} (h : ∀ s ∈ l, s.size ≤ 60) : bulkStringS l ≤ 61 * l.length := by
  unfold bulkStringS
  induction l with
  | nil => simp [bulkL]
  | cons a l ih =>
    have h1 := h a (by simp)
    have h2 := ih (fun s hs => h s (by simp [hs]))
    simp only [bulkL, List.length_cons] at h2 ⊢
    omega
theorem bulkL_sum {α : Type} (f : α → Nat) (g : α → Int) (c e : Nat) : ∀ l : List α, (∀ x ∈ l, (f x : Int) + e ≤ c * g x) → (bulkL f l : Int) + e * l.length ≤ c * sumZ g l
  | [], _ => by simp [bulkL, sumZ]
  | x :: l, h => by
    have h1 := h x (by simp)
    have h2 := bulkL_sum f g c e l (fun y hy => h y (by simp [hy]))
    simp only [bulkL, sumZ, List.length_cons]
    have h3 : (c : Int) * (g x + sumZ g l) = c * g x + c * sumZ g l := by rw [Int.mul_add]
    have h4 : (e : Int) * ((l.length + 1 : Nat) : Int) = e * l.length + e := by push_cast; rw [Int.mul_add, Int.mul_one]
    rw [h3, h4]
    push_cast
    omega
theorem bulk_size : ∀ (m d : Nat) (x : J), sizeN d x ≤ 400 → (bulkJ m x : Int) + (62 : Nat) ≤ (122 : Nat) * sizeN d x
  | 0, d, x, h => by have := (sizeN_bound d x).1; simp only [bulkJ]; omega
  | m + 1, 0, x, h => by simp [sizeN] at h
  | m + 1, d + 1, x, h => by
    obtain ⟨ho, he⟩ := size_own h
    obtain ⟨h1, h2, h3⟩ := own_facts ho
    have h4 := bulk_names h3
    have h5 := bulkL_sum (bulkJ m) (sizeN d) 122 62 x.list (fun y hy => bulk_size m d y (size_part h hy))
    rw [he]
    simp only [bulkJ]
    push_cast at h5 ⊢
    omega
theorem cn_size : ∀ (m d : Nat) (x : J), sizeN d x ≤ 400 → (cnJ m x : Int) + (1 : Nat) ≤ (4 : Nat) * sizeN d x
  | 0, d, x, h => by have := (sizeN_bound d x).1; simp only [cnJ]; omega
  | m + 1, 0, x, h => by simp [sizeN] at h
  | m + 1, d + 1, x, h => by
    obtain ⟨ho, he⟩ := size_own h
    obtain ⟨h1, h2, h3⟩ := own_facts ho
    have h5 := bulkL_sum (cnJ m) (sizeN d) 4 1 x.list (fun y hy => cn_size m d y (size_part h hy))
    rw [he]
    simp only [cnJ]
    push_cast at h5 ⊢
    omega
theorem sum_len (d : Nat) : ∀ l : List J, (l.length : Int) ≤ sumZ (sizeN d) l
  | [] => by simp [sumZ]
  | x :: l => by have := sum_len d l; have := (sizeN_bound d x).1; simp only [sumZ, List.length_cons]; push_cast; omega
theorem list_len {d : Nat} {x : J} (h : sizeN (d + 1) x ≤ 400) : x.list.length ≤ 399 := by
  obtain ⟨_, he⟩ := size_own h
  have := sum_len d x.list
  omega
end Go.Proofs.Ytlkjpnlpankhpaa.X
