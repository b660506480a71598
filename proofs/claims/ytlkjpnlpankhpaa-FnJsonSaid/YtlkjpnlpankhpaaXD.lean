/- What is proved here: an element of a row of one's own is written whole. Conditions: none. -/
import Derived.Test.YtlkjpnlpankhpaaXT
namespace Go.Proofs.Ytlkjpnlpankhpaa.X
open Go.RowKit
set_option linter.unusedVariables false
set_option linter.unusedSimpArgs false
theorem Blk.new1 (w : World) (o : Obj) (cs : Array Value) (t : TypeId) : Blk ((w.alloc o).alloc (.cells cs t)) (w.heap.size + 1) cs t := by simpa using Blk.new (w.alloc o) cs t
theorem Blk.new2 (w : World) (o o2 : Obj) (cs : Array Value) (t : TypeId) : Blk (((w.alloc o).alloc o2).alloc (.cells cs t)) (w.heap.size + 1 + 1) cs t := by simpa using Blk.new ((w.alloc o).alloc o2) cs t
/-- Cells written one behind the other. -/
def setAll (w : World) (g i : Nat) : List Value → World
  | [] => w
  | u :: us => setAll (w.setCell ⟨g, i, none⟩ u) g (i + 1) us
theorem setAll_fr {S : Nat → Prop} {w0 : World} {g : Nat} (hg : g < w0.heap.size → S g) : ∀ (us : List Value) (i : Nat) (w : World), Fr w0 w S → Fr w0 (setAll w g i us) S
  | [], _, _, h => h
  | u :: us, i, w, h => setAll_fr hg us (i + 1) _ (h.setCell _ hg u)
theorem setAll_heap {g : Nat} : ∀ (us : List Value) (i : Nat) (w : World) (k : Nat), k ≠ g → (setAll w g i us).heap[k]? = w.heap[k]?
  | [], _, _, _, _ => rfl
  | u :: us, i, w, k, h => (setAll_heap us (i + 1) _ k h).trans (Below.heap_setCell w _ u k h)
theorem setAll_size {g : Nat} : ∀ (us : List Value) (i : Nat) (w : World), (setAll w g i us).heap.size = w.heap.size
  | [], _, _ => rfl
  | u :: us, i, w => (setAll_size us (i + 1) _).trans (by simp)
namespace Ty
variable {α : Type} {d : Ty α} {e : TypeId} {w w1 : World} {S S' Si T : Nat → Prop} {v : Value} {xs : List α} {i : Nat} {cs : List Value}
theorem H_all {g n cap : Nat} : ∀ (us pre suf : List Value) (w : World), us.length = suf.length → pre.length + suf.length = d.sz → (∀ u ∈ us, u.cells = #[u]) → d.H e w S (.slice (some ⟨g, 0, none⟩) n cap) xs i Si (pre ++ suf) → d.H e (setAll w g (i * d.sz + pre.length) us) S (.slice (some ⟨g, 0, none⟩) n cap) xs i Si (pre ++ us)
  | [], pre, suf, w, hl, hs, h1, h => by
    obtain rfl : suf = [] := List.eq_nil_of_length_eq_zero hl.symm
    exact h
  | u :: us, pre, [], w, hl, hs, h1, h => by simp at hl
  | u :: us, pre, v :: suf, w, hl, hs, h1, h => by
    have h2 := H_store h pre.length (by simp at hs; omega) u (h1 u (by simp))
    have he : (pre ++ v :: suf).set pre.length u = (pre ++ [u]) ++ suf := by
      rw [List.set_append_right _ _ (Nat.le_refl _), Nat.sub_self]
      simp
    rw [he] at h2
    have h3 := H_all us (pre ++ [u]) suf _ (by simpa using hl) (by simp at hs ⊢; omega) (fun x hx => h1 x (by simp [hx])) h2
    rw [List.append_assoc] at h3
    have hp : i * d.sz + (pre ++ [u]).length = i * d.sz + pre.length + 1 := by simp; omega
    rw [hp] at h3
    exact h3
/-- Element i of a row of one's own is written whole. -/
theorem R_put {g n cap : Nat} (h : d.R e w S (.slice (some ⟨g, 0, none⟩) n cap) xs) (hi : i < xs.length) (hsz : 0 < d.sz) {x' : α} {cs' : List Value} (hO : d.O w T x' cs') (hT : ∀ k, T k → k < w.heap.size → ¬ S k) (hS : ∀ k, S k → S' k) (hT' : ∀ k, T k → S' k) :
    g < w.heap.size ∧ (∃ cur, d.K w xs[i] cur ∧ ∀ j u, cur[j]? = some u → w.cell? ⟨g, i * d.sz + j, none⟩ = some u) ∧ (∀ j, w.frozen? ⟨g, j, none⟩ = false) ∧ S g ∧ d.R e (setAll w g (i * d.sz) cs') S' (.slice (some ⟨g, 0, none⟩) n cap) (xs.set i x') := by
  obtain ⟨Si, cs, hH, hOi⟩ := R_H h (List.getElem?_eq_getElem hi)
  obtain ⟨g', cap', he, _, _, hg, hgl, _, hcell, hfz⟩ := H_cells hH hsz
  injection he with he _ _; injection he with he; injection he with he _ _; subst he
  refine ⟨hgl, ⟨cs, d.O_K hOi, hcell⟩, hfz, hg, ?_⟩
  have h2 := H_all cs' [] cs w (by rw [d.K_len (d.O_K hO), d.K_len (d.O_K hOi)]) (by simp [d.K_len (d.O_K hOi)]) (fun u hu => by
    have := d.K_one (d.O_K hO) u hu
    cases u <;> first | rfl | (exfalso; simp [Value.oneCell'] at this)) hH
  simp only [List.length_nil, Nat.add_zero, List.nil_append] at h2
  refine H_back h2 (T := fun k => T k ∧ k < w.heap.size) (d.O_move (fun k hk => setAll_heap _ _ _ _ (fun hk' => hT k hk.1 hk.2 (hk' ▸ hg))) (d.O_bound hO)) (fun k hk => .inr (hT k hk.1 hk.2)) hS (fun k hk => hT' k hk.1)
end Ty
end Go.Proofs.Ytlkjpnlpankhpaa.X
