/- What is proved here: contracts of copies of ops and of Under. Conditions: none. -/
import Derived.Test.YtkgefjjgjjmklaaDoorXZ
import Derived.Laws.Tables
namespace Go.Proofs.YtkgefjjgjjmklaaDoor.X
open Go.RowKit Go.Sort
set_option linter.unusedVariables false
set_option linter.unusedSimpArgs false
open Ty
/-- The ops under a name. -/
def underL (s : ByteArray) (l : List JOp) : List JOp := l.map (fun o => ⟨o.kind, s :: o.way, o.value⟩)
theorem underL_append (s : ByteArray) (l : List JOp) (x : JOp) : underL s (l ++ [x]) = underL s l ++ [⟨x.kind, s :: x.way, x.value⟩] := by simp [underL]
theorem cnt_under (m : Nat) (s : ByteArray) (l : List JOp) : bulkL (cnOp m) (underL s l) = bulkL (cnOp m) l + l.length := by
  induction l with
  | nil => rfl
  | cons x l ih =>
    have e : underL s (x :: l) = ⟨x.kind, s :: x.way, x.value⟩ :: underL s l := rfl
    rw [e]
    simp only [bulkL, ih, cnOp, List.length_cons]
    omega
theorem cnt_opsLen (m : Nat) (l : List JOp) : l.length ≤ bulkOpS m l := by simp only [bulkOpS]; omega
theorem R_one' {W0 : World} {n : Nat} (s : ByteArray) (hs : s.size ≤ 9223372036854775807) (hn : W0.heap.size = n) : str.R 9 (W0.alloc (.cells #[.string s] 9)) (fun k => k = n) (.slice (some ⟨n, 0, none⟩) 1 1) [s] := by
  subst hn
  refine R_block (xs := [s]) (cap := 1) (heap_alloc_new W0 _) rfl (Nat.le_refl _) (by omega) rfl (fun _ => 0) (fun i x h => ?_)
  rcases i with _ | i
  · simp at h
    subst h
    exact ⟨rfl, hs⟩
  · simp at h
theorem append_oneN {P : Program} {ops : Array Oper} {rest : List Oper} {o : Oper} {a : Act} {Q : Exit → Act → World → Prop} {α : Type} (d : Ty α) {W : World} {n : Nat} (hn : W.heap.size = n) (hgd : o.guard = none) (s x : Operand) (t e : TypeId) (z : Value) (bytes : Nat)
    (ho : o.op = .call { callee := .builtin .append, args := #[s, x], argTypes := #[t, t] })
    (ht : P.underlying t = some (.slice e)) (hinfo : (P.info? e).map (fun i => (i.zero, i.size, i.bytes)) = some (some z, d.sz, bytes)) (hz : z.cells.size = d.sz) (hsz : 0 < d.sz) (hb0 : 0 < bytes)
    {S S' T : Nat → Prop} {v : Value} {xs : List α} (y : α) (cs : List Value)
    (hs : a.eval s = v) (hx : a.eval x = .slice (some ⟨n, 0, none⟩) 1 1) (HR : d.R e W S v xs) (hO : d.O W T y cs)
    (hST : ∀ k, T k → k < W.heap.size → ¬ S k) (hS : ∀ k, S k → S' k) (hT : ∀ k, T k → S' k) (hnew : ∀ k, n ≤ k → S' k)
    (hbytes : (xs.length + 1) * bytes ≤ 140737488355328)
    (h : ∀ v1 w1, d.R e w1 S' v1 (xs ++ [y]) → Fr W w1 S → wpList P ops Q rest (a.put o.dst v1) w1) :
    wpList P ops Q (o :: rest) a (W.alloc (.cells cs.toArray e)) := by
  subst hn
  exact append_one d hgd s x t e z bytes ho ht hinfo hz hsz hb0 y cs hs hx HR hO hST hS hT hnew hbytes h
theorem store_blk {P : Program} {ops : Array Oper} {rest : List Oper} {o : Oper} {a : Act} {w : World} {Q : Exit → Act → World → Prop} (hgd : o.guard = none) (ty : TypeId) (x y : Operand) (ho : o.op = .store ty x y)
    (g : Nat) (cells : Array Value) (hx : a.eval x = .pointer (some ⟨g, 0, none⟩)) (hy : a.eval y = .agg cells) {t : TypeId} {old : Array Value} (b : Blk w g old t) (hi : (P.info? ty).map (·.size) = some cells.size)
    (hold : old.size = cells.size) (h1 : cells.all (·.oneCell') = true)
    (h : ∀ W, Blk W g cells t → Fr w W (fun k => k = g) → W.heap.size = w.heap.size → wpList P ops Q rest (a.put o.dst undef) W) : wpList P ops Q (o :: rest) a w := by
  refine wpList_store_row hgd ty x y ho g cells hx hy t old b hi hold h1 (h _ ?_ ?_ ?_)
  · show (w.setRow g cells).heap[g]? = _
    unfold World.setRow
    simp [Array.getElem?_modify, show w.heap[g]? = some (.cells old t (0, 0)) from b]
  · refine ⟨rfl, rfl, rfl, by simp [World.setRow], fun k hk hn => ?_⟩
    unfold World.setRow
    have hn : ¬ k = g := hn
    rw [Array.getElem?_modify, if_neg (fun e : g = k => hn e.symm)]
  · simp [World.setRow]
theorem info7 : (Tryd.prog.info? 49).map (·.size) = some 7 := by kernel_rfl
theorem Fr.box7 (w : World) (g : Nat) (a0 a1 a2 a3 a4 a5 a6 : Value) {o : Obj} : Fr w ((((((((w.setCell ⟨g, 0, none⟩ a0).setCell ⟨g, 1, none⟩ a1).setCell ⟨g, 2, none⟩ a2).setCell ⟨g, 3, none⟩ a3).setCell ⟨g, 4, none⟩ a4).setCell ⟨g, 5, none⟩ a5).setCell ⟨g, 6, none⟩ a6).alloc o) (fun k => k = g) :=
  Fr.alloc (by
    refine Fr.setCell (S := fun k => k = g) ?_ _ (fun _ => rfl) _
    refine Fr.setCell (S := fun k => k = g) ?_ _ (fun _ => rfl) _
    refine Fr.setCell (S := fun k => k = g) ?_ _ (fun _ => rfl) _
    refine Fr.setCell (S := fun k => k = g) ?_ _ (fun _ => rfl) _
    refine Fr.setCell (S := fun k => k = g) ?_ _ (fun _ => rfl) _
    refine Fr.setCell (S := fun k => k = g) ?_ _ (fun _ => rfl) _
    refine Fr.setCell (S := fun k => k = g) ?_ _ (fun _ => rfl) _
    exact Fr.refl _ _) o
end Go.Proofs.YtkgefjjgjjmklaaDoor.X
