/- What is proved here: contracts of StoreNew. Conditions: none. -/
import Derived.Test.YtnpogfhfjofbmaaXV
import Derived.Test.YtnpogfhfjofbmaaXFe
namespace Go.Proofs.Ytnpogfhfjofbmaa.X
open Go.RowKit Go.Sort
set_option linter.unusedVariables false
set_option linter.unusedSimpArgs false
open Ty
def storeNew (cols : List Int) : Store := if schemaOk cols then ⟨cols, 0, List.replicate cols.length []⟩ else ⟨[], 0, []⟩
theorem storeOk_new (cols : List Int) : storeOk ⟨cols, 0, List.replicate cols.length []⟩ = schemaOk cols := by
  unfold storeOk
  cases h : schemaOk cols
  · rfl
  · simp only [Bool.true_and, List.length_replicate, bne_self_eq_false, Bool.not_false]
    rw [show inB 0 0 100000 = true from rfl, Bool.true_and, List.all_eq_true]
    intro k hk
    have hk : k < cols.length := by simpa using hk
    have e : (List.replicate cols.length ([] : List Row)).getD k [] = [] := by simp [List.getD_eq_getElem?_getD, List.getElem?_replicate, hk]
    rw [e]
    unfold rowsOk
    simp only [List.length_nil, List.range_zero, List.all_nil, Bool.true_and, h]
    simp [hasTab, inB]
    omega
theorem bulkL_rep {α : Type} (b : α → Nat) (x : α) (n : Nat) (h : b x = 0) : bulkL b (List.replicate n x) = 0 := by
  induction n with
  | zero => rfl
  | succ n ih => simp only [List.replicate_succ, bulkL, h, ih]
theorem cnt_storeNew (l : List Int) : ((storeNew l).cols.length : Int) + (bulkL cnRows (storeNew l).tabs : Int) ≤ l.length := by
  unfold storeNew
  split
  · have : bulkL cnRows (List.replicate l.length []) = 0 := bulkL_rep _ _ _ rfl
    simp only [this]; omega
  · simp [bulkL]
theorem sl_KC {w : World} {l : List Int} {A : Option Addr} {n c : Nat} (h : (sl 3 int).K w l [.slice A n c]) : int.C w A l := by
  obtain ⟨A1, c1, he, _, hC⟩ := sl_K.1 h
  simp only [List.cons.injEq, and_true, Value.slice.injEq] at he
  obtain ⟨rfl, _⟩ := he
  exact hC
theorem ZS (w : World) (S : Nat → Prop) : tStore.O w S ⟨[], 0, []⟩ [.slice none 0 0, .int .i64 0, .slice none 0 0] :=
  tStore_O.2 ⟨_, _, fun _ => False, fun _ => False, rfl, R_nil, R_nil, fun _ h => h.elim, fun _ h => h.elim, fun _ h => h.elim⟩
theorem info_RowSS_ : (Try.prog.info? 68).map (fun i => (i.zero, i.size, i.bytes)) = some (some (.slice none 0 0), 1, 24) := by kernel_rfl
theorem R_tabs {w W1 : World} (n : Nat) (hn : n ≤ 9223372036854775807) (hW : W1 = w.alloc (.cells (madeCells #[Value.slice none 0 0] n) 68)) : tRows.R 68 W1 (rng w.heap.size (w.heap.size + 1)) (.slice (some ⟨w.heap.size, 0, none⟩) n n) (List.replicate n []) := by
  subst hW
  have h := R_made (d := tRows) (e := 68) (W := w) (S := rng w.heap.size (w.heap.size + 1)) (z := .slice none 0 0) [] n (Nat.le_refl _) hn rfl (fun _ _ _ => ⟨_, rfl, R_nil⟩) ⟨Nat.le_refl _, Nat.lt_succ_self _⟩
  simp only [show tRows.sz = 1 from rfl, Nat.mul_one, show (Value.slice none 0 0).cells = #[Value.slice none 0 0] from rfl] at h
  exact h
theorem Fr.cell_out {w w1 : World} {S : Nat → Prop} (h : Fr w w1 S) (p : Addr) (hp : p.block < w.heap.size) (hs : ¬ S p.block) : w1.cell? p = w.cell? p := by
  unfold World.cell?
  rw [h.block _ hp hs]
theorem Fr.frozen_out {w w1 : World} {S : Nat → Prop} (h : Fr w w1 S) (p : Addr) (hp : p.block < w.heap.size) (hs : ¬ S p.block) : w1.frozen? p = w.frozen? p := by
  unfold World.frozen?
  rw [h.block _ hp hs]
set_option maxRecDepth 100000 in
theorem spec_l7Schema (A : Option Addr) (c : Nat) (l : List Int) (w : World) (hr : int.C w A l) (hl : l.length ≤ 4194304) :
    Calls Try.prog 154 #[.agg #[.slice A l.length c]] w fun e w' => ∃ v, e = .returned (.agg #[v]) ∧ int.R 3 w' (fun k => w.heap.size ≤ k) v l ∧ Below w.heap.size w w' := by
  have HC := Hd.mk hr; clear hr
  have hB := Hd.mk (Below.refl w.heap.size w)
  go_enter Try.func154, Try.ntmps154
  have HR0 : Hd (int.R 3 (((w.alloc (.cells #[.slice A l.length c] 34)).alloc (.cells #[.slice none 0 0] 34)).alloc (.cells #[] 3)) (fun k => w.heap.size + 1 + 1 ≤ k) (.slice (some ⟨w.heap.size + 1 + 1, 0, none⟩) 0 0) []) := ⟨by simpa using R_empty int 3 ((w.alloc (.cells #[.slice A l.length c] 34)).alloc (.cells #[.slice none 0 0] 34))⟩
  have HB3 : ∀ o1 o2 o3, Hd (Below w.heap.size w (((w.alloc o1).alloc o2).alloc o3)) := fun o1 o2 o3 => ⟨below_alloc (below_alloc (below_alloc (Below.refl _ _) _) _) _⟩
  go_wp2_with (at_builtin; refine append_scal (h1 := fun _ => rfl) rfl _ _ 22 3 (.int .i64 0) 8 rfl Try.underlying22 info_int rfl (by decide) (S' := fun k => w.heap.size + 1 + 1 ≤ k) rfl rfl HR0.out (C_below HC.out (HB3 _ _ _).out) (fun _ h => h) (fun k h => by simp at h; omega) (by simp; omega) (fun v1 w1 hv hf => ?_); obtain ⟨D1, d1, rfl, _, _⟩ := R_C hv; have hq : w1.cell? ⟨w.heap.size + 1, 0, none⟩ = some (.slice none 0 0) := (hf.cell_out ⟨w.heap.size + 1, 0, none⟩ (by simp) (by simp)).trans (by simp [go_sem]); have hz : w1.frozen? ⟨w.heap.size + 1, 0, none⟩ = false := (hf.frozen_out ⟨w.heap.size + 1, 0, none⟩ (by simp) (by simp)).trans (by simp [go_sem]); have HV := Hd.mk hv; clear hv; have HB1 := Hd.mk (((Fr.of_below (HB3 _ _ _).out (fun k => w.heap.size + 1 + 1 ≤ k)).then_ hf (fun k h _ => h)).below (fun k h => by omega)); clear hf HR0 HB3)
  refine bodyPost_retW (v := .agg #[.slice D1 l.length d1]) (by simp [results, Try.results154, go_sem, hq]) rfl ?_
  intro W hW
  have eF : Fr w1 W (fun k => k = w.heap.size + 1) := by rw [hW]; exact Fr.setCell (S := fun k => k = w.heap.size + 1) (Fr.refl _ _) _ (fun _ => rfl) _
  exact ⟨_, rfl, R_mono (fun k h => by omega) (R_fr HV.out eF (fun k h1 _ h2 => by omega)), ((Fr.of_below HB1.out (fun k => k = w.heap.size + 1)).then_ eF (fun k h _ => h)).below (fun k h => by omega)⟩
end Go.Proofs.Ytnpogfhfjofbmaa.X
