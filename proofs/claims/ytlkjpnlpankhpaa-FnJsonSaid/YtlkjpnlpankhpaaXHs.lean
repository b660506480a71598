/- What is proved here: the contract of spec.RowPut. Conditions: none. -/
import Derived.Test.YtlkjpnlpankhpaaXH
namespace Go.Proofs.Ytlkjpnlpankhpaa.X
open Go.RowKit Go.Sort
set_option linter.unusedVariables false
set_option linter.unusedSimpArgs false
open Ty
theorem rowPut_there (l : List Row) (r : Row) (h : l.findIdx (fun x => x.id == r.id) < l.length) : rowPut l r = (rowDrop l r.id).take (l.findIdx (fun x => x.id == r.id)) ++ r :: (rowDrop l r.id).drop (l.findIdx (fun x => x.id == r.id)) := by
  unfold rowPut rowDrop
  rw [if_pos h]
  generalize l.findIdx (fun x => x.id == r.id) = q at h
  rw [List.set_eq_take_append_cons_drop, if_pos h, List.eraseIdx_eq_take_drop_succ]
  have h1 : (l.take q).length = q := by simp; omega
  rw [List.take_append_of_le_length (by omega), List.take_of_length_le (l := l.take q) (by omega), List.drop_append_of_le_length (by omega), List.drop_of_length_le (l := l.take q) (by omega), List.nil_append]
theorem rowPut_none (l : List Row) (r : Row) (h : l.findIdx (fun x => x.id == r.id) = l.length) : rowDrop l r.id = l ∧ rowPut l r = l.take (l.findIdx (fun x => decide (r.id < x.id))) ++ r :: l.drop (l.findIdx (fun x => decide (r.id < x.id))) := by
  refine ⟨?_, ?_⟩
  · unfold rowDrop; rw [h, List.eraseIdx_of_length_le (Nat.le_refl _)]
  · unfold rowPut; rw [if_neg (by omega)]
theorem find_down {α : Type} (p : α → Bool) (l : List α) (k : Nat) (hk : k < l.length) : k + (l.drop k).findIdx p = if p l[k] = true then k else (k + 1) + (l.drop (k + 1)).findIdx p := by
  rw [List.drop_eq_getElem_cons hk, List.findIdx_cons]
  cases p l[k] <;> simp <;> omega
theorem put_eq {α : Type} (l : List α) (x : α) (p : Nat) : (([] ++ (l.drop 0).take (p - 0)) ++ [x]) ++ (l.drop p).take (l.length - p) = l.take p ++ x :: l.drop p := by
  rw [List.take_of_length_le (l := l.drop p) (by simp)]; simp
theorem bulk_ins (l : List Row) (r : Row) (p : Nat) : bulkRowS (l.take p ++ r :: l.drop p) = bulkRowS l + 1 + bulkRow r := by
  have h1 := bulkL_append bulkRow (l.take p) (l.drop p)
  rw [List.take_append_drop] at h1
  have h2 : (l.take p).length + (l.drop p).length = l.length := by simp; omega
  simp only [bulkRowS, bulkL_append, bulkL, List.length_append, List.length_cons]
  omega
theorem bulk_rowPut (l : List Row) (r : Row) : bulkRowS (rowPut l r) ≤ bulkRowS l + 1 + bulkRow r := by
  have h0 := List.findIdx_le_length (xs := l) (p := fun x : Row => x.id == r.id)
  rcases Nat.lt_or_ge (l.findIdx (fun x : Row => x.id == r.id)) l.length with h | h
  · rw [rowPut_there l r h, bulk_ins]
    have := bulk_rowDrop l r.id
    omega
  · rw [(rowPut_none l r (by omega)).2, bulk_ins]
    exact Nat.le_refl _
/-- The elements from lo on, in their block. -/
def Loose (w : World) (g : Nat) (cur : Array Value) (T : Nat → Nat → Prop) (xs : List Row) (lo : Nat) : Prop :=
  w.heap[g]? = some (.cells cur 47 (0, 0)) ∧ xs.length * 2 ≤ cur.size ∧ (∀ i b, T i b → b ≠ g ∧ b < w.heap.size) ∧ (∀ i j b, T i b → T j b → i = j) ∧ ∀ i x, lo ≤ i → xs[i]? = some x → tRow.O w (T i) x ((cur.toList.drop (i * 2)).take 2)
theorem Loose.fr {w w1 : World} {g : Nat} {cur : Array Value} {T : Nat → Nat → Prop} {xs : List Row} {lo lo' : Nat} {S : Nat → Prop} (h : Loose w g cur T xs lo) (hf : Fr w w1 S) (hg : ¬ S g) (hlo : lo ≤ lo') (hs : ∀ i b, lo' ≤ i → T i b → ¬ S b) : Loose w1 g cur T xs lo' := by
  obtain ⟨h1, h2, h3, h4, h5⟩ := h
  have hgl : g < w.heap.size := (Array.getElem?_eq_some_iff.1 h1).1
  exact ⟨(hf.block g hgl hg).trans h1, h2, fun i b hb => ⟨(h3 i b hb).1, Nat.lt_of_lt_of_le (h3 i b hb).2 hf.size⟩, h4, fun i x hi hx => tRow.O_move (fun k hk => hf.block k (h3 i k hk).2 (hs i k hi hk)) (h5 i x (by omega) hx)⟩
theorem Loose.below {w w1 : World} {g : Nat} {cur : Array Value} {T : Nat → Nat → Prop} {xs : List Row} {lo : Nat} (h : Loose w g cur T xs lo) (hb : Below w.heap.size w w1) : Loose w1 g cur T xs lo := by
  have hgl : g < w.heap.size := (Array.getElem?_eq_some_iff.1 h.1).1
  exact h.fr (Fr.of_below hb (fun _ => False)) (fun h => h) (Nat.le_refl _) (fun _ _ _ _ h => h)
section
variable {P : Program} {ops : Array Oper} {rest : List Oper} {o : Oper} {a : Act} {Q : Exit → Act → World → Prop}
/-- append(v, out[lo:hi]...): elements that nobody needs any more behind it. -/
theorem append_loose {W : World} (hgd : o.guard = none) (s x : Operand) (ho : o.op = .call { callee := .builtin .append, args := #[s, x], argTypes := #[79, 79] })
    (ht : P.underlying 79 = some (.slice 47)) (hinfo : (P.info? 47).map (fun i => (i.zero, i.size, i.bytes)) = some (some (.agg #[.int .i64 0, .slice none 0 0]), 2, 32))
    {S S' : Nat → Prop} {v : Value} {xs out : List Row} {g : Nat} {cur : Array Value} {T : Nat → Nat → Prop} {lo0 : Nat} (lo hi : Nat) (A : Option Addr) (c : Nat)
    (hs : a.eval s = v) (hx : a.eval x = .slice A (hi - lo) c) (hA : lo < hi → A = some ⟨g, lo * 2, none⟩) (HR : tRow.R 47 W S v xs) (HL : Loose W g cur T out lo0) (hlo : lo0 ≤ lo) (hlh : lo ≤ hi) (hhi : hi ≤ out.length)
    (hST : ∀ i k, lo ≤ i → i < hi → T i k → ¬ S k) (hS : ∀ k, S k → S' k) (hT : ∀ i k, lo ≤ i → i < hi → T i k → S' k) (hnew : ∀ k, W.heap.size ≤ k → S' k) (hbytes : xs.length + out.length ≤ 4194304)
    (h : ∀ v1 w1, tRow.R 47 w1 S' v1 (xs ++ (out.drop lo).take (hi - lo)) → Fr W w1 S → wpList P ops Q rest (a.put o.dst v1) w1) :
    wpList P ops Q (o :: rest) a W := by
  obtain ⟨h1, h2, h3, h4, h5⟩ := HL
  have hl : ((cur.toList.drop (lo * 2)).take ((hi - lo) * 2)).length = (hi - lo) * 2 := by simp; omega
  refine append_gen tRow (S := S) (S' := S') (v := v) (xs := xs) (ys := (out.drop lo).take (hi - lo)) hgd s x 79 47 (.agg #[.int .i64 0, .slice none 0 0]) 32 ho ht hinfo rfl (by decide) (by decide) (fun i k => i < hi - lo ∧ T (lo + i) k) A (hi - lo) c ((cur.toList.drop (lo * 2)).take ((hi - lo) * 2)) hs hx HR (by simp; omega) hl
    (fun j u hu => ?_) (fun u hu => ?_) (fun i y hi' => ?_) (fun i j k hi' hj => by have := h4 _ _ _ hi'.2 hj.2; omega) (fun i k hk => hST _ k (by omega) (by omega) hk.2) hS (fun i k hk => hT _ k (by omega) (by omega) hk.2) hnew (by omega) h
  · have hj : j < (hi - lo) * 2 := by
      have := (List.getElem?_eq_some_iff.1 hu).1
      omega
    refine ⟨_, hA (by omega), ?_⟩
    rw [Addr.add_lit, block_cell h1]
    rw [List.getElem?_take, if_pos hj, List.getElem?_drop] at hu
    simpa using hu
  · obtain ⟨j, hj⟩ := List.mem_iff_getElem?.1 hu
    have hj1 : j < (hi - lo) * 2 := by
      have := (List.getElem?_eq_some_iff.1 hj).1
      omega
    rw [List.getElem?_take, if_pos hj1, List.getElem?_drop] at hj
    have hlt : lo + j / 2 < out.length := by omega
    have h6 := h5 (lo + j / 2) out[lo + j / 2] (by omega) (by simp [hlt])
    refine tRow.K_one (tRow.O_K h6) u ?_
    rw [List.mem_iff_getElem?]
    refine ⟨j % 2, ?_⟩
    rw [List.getElem?_take, if_pos (by omega), List.getElem?_drop, show (lo + j / 2) * 2 + j % 2 = lo * 2 + j by omega]
    exact hj
  · have hil : i < hi - lo := by
      have := (List.getElem?_eq_some_iff.1 hi').1
      simp at this; omega
    rw [List.getElem?_take, if_pos hil, List.getElem?_drop] at hi'
    have h6 := h5 (lo + i) y (by omega) hi'
    have e : (((cur.toList.drop (lo * 2)).take ((hi - lo) * 2)).drop (i * 2)).take 2 = (cur.toList.drop ((lo + i) * 2)).take 2 := by
      rw [List.drop_take, List.drop_drop, List.take_take, Nat.min_eq_left (by omega), show lo * 2 + i * 2 = (lo + i) * 2 by omega]
    show tRow.O W _ y ((((cur.toList.drop (lo * 2)).take ((hi - lo) * 2)).drop (i * 2)).take 2)
    rw [e]
    exact tRow.O_mono (fun k hk => ⟨hil, hk⟩) h6
end
end Go.Proofs.Ytlkjpnlpankhpaa.X
