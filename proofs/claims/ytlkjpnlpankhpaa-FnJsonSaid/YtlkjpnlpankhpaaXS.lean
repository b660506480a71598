/- What is proved here: a row of one's own, element by element; cells written over; copy and clear of wide elements. Conditions: none. -/
import Derived.Test.YtlkjpnlpankhpaaXD
import Derived.Laws.IdiomCopy
import Derived.Lib.SliceRun
namespace Go.Proofs.Ytlkjpnlpankhpaa.X
open Go.RowKit
set_option linter.unusedVariables false
set_option linter.unusedSimpArgs false
open Ty
namespace Ty
variable {α : Type} {d : Ty α} {e : TypeId} {w w1 : World} {S S' : Nat → Prop} {xs : List α} {g n cap : Nat}
/-- A block whose elements lead to parts of their own. -/
theorem R_of_parts {cur : Array Value} (hb : w.heap[g]? = some (.cells cur e (0, 0))) (hg : S g) (hn : xs.length ≤ cap) (hm : cap ≤ 9223372036854775807) (hc : cur.size = cap * d.sz) (T : Nat → Nat → Prop)
    (hT : ∀ i b, T i b → S b ∧ b ≠ g) (hd : ∀ i j b, T i b → T j b → i = j) (hO : ∀ i x, xs[i]? = some x → d.O w (T i) x ((cur.toList.drop (i * d.sz)).take d.sz)) : d.R e w S (.slice (some ⟨g, 0, none⟩) xs.length cap) xs := by
  classical
  refine R_block hb hg hn hm hc (fun b => Classical.epsilon (fun i => T i b)) (fun i x hx => d.O_mono (fun b hb => ⟨(hT i b hb).1, (hT i b hb).2, ?_⟩) (hO i x hx))
  exact hd _ _ b (Classical.epsilon_spec (p := fun i => T i b) ⟨i, hb⟩) hb
theorem R_parts (h : d.R e w S (.slice (some ⟨g, 0, none⟩) n cap) xs) : ∃ (cur : Array Value) (T : Nat → Nat → Prop), w.heap[g]? = some (.cells cur e (0, 0)) ∧ S g ∧ n = xs.length ∧ xs.length ≤ cap ∧ cap ≤ 9223372036854775807 ∧ cur.size = cap * d.sz ∧
    (∀ i b, T i b → S b ∧ b ≠ g ∧ b < w.heap.size) ∧ (∀ i j b, T i b → T j b → i = j) ∧ ∀ i x, xs[i]? = some x → d.O w (T i) x ((cur.toList.drop (i * d.sz)).take d.sz) := by
  obtain ⟨inner, f, ⟨hl, ho⟩, hv, hE⟩ := h
  rcases ho with ⟨he, _⟩ | ⟨g', cap', cur, he, _, hh, h1, h2, h3, h4⟩
  · cases he
  · injection he with e1 e2 e3
    injection e1 with e1
    injection e1 with e1 _ _
    subst e1; subst e2; subst e3
    simp only [maxLen] at h2
    refine ⟨cur, fun i b => S b ∧ b ≠ g ∧ f b = i ∧ b < w.heap.size, hh, hv g (by simp [Value.ownBlock]), rfl, h1, by omega, h3, fun i b hb => ⟨hb.1, hb.2.1, hb.2.2.2⟩, fun i j b hi hj => hi.2.2.1.symm.trans hj.2.2.1, fun i x hx => ?_⟩
    have hin : i < xs.length := (List.getElem?_eq_some_iff.1 hx).1
    have hle : i * d.sz + d.sz ≤ xs.length * d.sz := by
      have := Nat.mul_le_mul_right d.sz (show i + 1 ≤ xs.length by omega)
      rw [Nat.add_mul] at this
      omega
    have he : (inner.drop (i * d.sz)).take d.sz = (cur.toList.drop (i * d.sz)).take d.sz := by
      rw [← h4, List.drop_take, List.take_take, Nat.min_eq_left (by omega)]
    have := d.O_bound (hE i x hx)
    rw [he] at this
    exact d.O_mono (fun k hk => ⟨hk.1.1, fun e => hk.1.2.1 (by simp [Value.ownBlock, e]), hk.1.2.2, hk.2⟩) this
end Ty
/-- Written over from o on. -/
def over {α : Type} (l : List α) (o : Nat) (vs : List α) : List α := l.take o ++ vs ++ l.drop (o + vs.length)
theorem over_length {α : Type} (l : List α) (o : Nat) (vs : List α) (h : o + vs.length ≤ l.length) : (over l o vs).length = l.length := by
  simp [over]; omega
theorem over_cons {α : Type} (l : List α) (o : Nat) (v : α) (vs : List α) (h : o < l.length) : over (l.set o v) (o + 1) vs = over l o (v :: vs) := by
  unfold over
  rw [List.take_set, List.drop_set]
  rw [if_pos (by omega)]
  rw [List.take_succ_eq_append_getElem h, List.set_append_right _ _ (by simp; omega)]
  have : o - (l.take o).length = 0 := by simp; omega
  rw [this]
  simp [List.length_cons, Nat.add_assoc, Nat.add_comm 1]
theorem heap_setCells {g : Nat} {e : TypeId} {fr : Nat × Nat} : ∀ (vs : List Value) (o : Nat) (w : World) (cur : Array Value), w.heap[g]? = some (.cells cur e fr) → o + vs.length ≤ cur.size →
    ∃ cur' : Array Value, (w.setCells g o vs).heap[g]? = some (.cells cur' e fr) ∧ cur'.toList = over cur.toList o vs
  | [], o, w, cur, h, hl => ⟨cur, h, by simp [over]⟩
  | v :: vs, o, w, cur, h, hl => by
    simp only [List.length_cons] at hl
    have h1 := heap_setCell_ h o v
    obtain ⟨cur', h2, h3⟩ := heap_setCells vs (o + 1) _ _ h1 (by simp; omega)
    refine ⟨cur', h2, ?_⟩
    rw [h3, Array.toList_setIfInBounds, over_cons _ _ _ _ (by simp; omega)]
theorem heap_setCells_ne {g : Nat} : ∀ (vs : List Value) (o : Nat) (w : World) (k : Nat), k ≠ g → (w.setCells g o vs).heap[k]? = w.heap[k]?
  | [], _, _, _, _ => rfl
  | v :: vs, o, w, k, h => (heap_setCells_ne vs (o + 1) _ k h).trans (Below.heap_setCell w _ v k h)
theorem setCells_size {g : Nat} : ∀ (vs : List Value) (o : Nat) (w : World), (w.setCells g o vs).heap.size = w.heap.size
  | [], _, _ => rfl
  | v :: vs, o, w => (setCells_size vs (o + 1) _).trans (by simp)
theorem setCells_fr {S : Nat → Prop} {w0 : World} {g : Nat} (hg : g < w0.heap.size → S g) : ∀ (us : List Value) (i : Nat) (w : World), Fr w0 w S → Fr w0 (w.setCells g i us) S
  | [], _, _, h => h
  | u :: us, i, w, h => setCells_fr hg us (i + 1) _ (h.setCell _ hg u)
theorem run_copy_wide {P : Program} (w : World) (dT sT ty elem : TypeId) (sz b o dLen dCap : Nat) (a : Addr) (sLen sCap : Nat) (cs : List Value)
    (hu : P.underlying dT = some (.slice elem)) (hs : (P.info? elem).map (·.size) = some sz) (hn : cs.length = Nat.min sLen dLen * sz)
    (hsrc : ∀ j v, cs[j]? = some v → w.cell? (a.add j) = some v) (hc : ∀ j, j < cs.length → (w.cell? ⟨b, o + j, none⟩).isSome = true) (hf : ∀ j, j < cs.length → w.frozen? ⟨b, o + j, none⟩ = false) (h1 : ∀ v ∈ cs, v.oneCell' = true) :
    (Builtin.copy_ #[dT, sT] ty #[.slice (some ⟨b, o, none⟩) dLen dCap, .slice (some a) sLen sCap]).run P w = .ok (goInt (Nat.min sLen dLen)) (w.setCells b o cs) := by
  have hl := run_loadCells_list (P := P) w a cs hsrc
  have hst := run_storeCells_cells (P := P) b o cs 0 w (by simpa using hc) (by simpa using hf) h1
  cases hq : P.info? elem with
  | none => simp [hq] at hs
  | some i =>
    have hi : i.size = sz := by simpa [hq] using hs
    simp [Builtin.copy_, run_underlying hu, Builtin.lenOf, Builtin.firstCells, sizeOf, typeInfo, hq, hi, ← hn, hl, hst]
theorem run_clear_wide {P : Program} (w : World) (t e ty : TypeId) (z : Value) (ht : P.underlying t = some (.slice e)) (hv : ∀ w, (zeroValue e).run P w = .ok z w) (h1 : ∀ u ∈ z.cells.toList, u.oneCell' = true) (b o n c : Nat) (hn : 0 < n)
    (hc : ∀ j, j < n * z.cells.size → (w.cell? ⟨b, o + j, none⟩).isSome = true) (hf : ∀ j, j < n * z.cells.size → w.frozen? ⟨b, o + j, none⟩ = false) :
    (Builtin.clear_ #[t] ty #[.slice (some ⟨b, o, none⟩) n c]).run P w = .ok (.tuple #[]) (w.setCells b o (Builtin.zeroCells z.cells n).toList) := by
  have hl : (Builtin.zeroCells z.cells n).toList.length = n * z.cells.size := by simp [Builtin.zeroCells, Nat.mul_comm]
  have hm : ∀ v ∈ (Builtin.zeroCells z.cells n).toList, v.oneCell' = true := by
    intro v hv'
    simp only [Builtin.zeroCells, Array.toList_map, List.mem_map, Array.toList_range, List.mem_range] at hv'
    obtain ⟨i, hi, rfl⟩ := hv'
    have hp : 0 < z.cells.size := by
      rcases Nat.eq_zero_or_pos z.cells.size with h | h
      · rw [h] at hi; omega
      · exact h
    rw [getElem!_pos z.cells _ (Nat.mod_lt i hp)]
    exact h1 _ (by simp)
  have hst := run_storeCells_cells (P := P) b o (Builtin.zeroCells z.cells n).toList 0 w (by rw [hl]; simpa using hc) (by rw [hl]; simpa using hf) hm
  simp only [Nat.add_zero] at hst
  obtain ⟨m, rfl⟩ : ∃ m, n = m + 1 := ⟨n - 1, by omega⟩
  simp [Builtin.clear_, run_underlying ht, hv, hst]
/-- An empty row, as a literal makes it. -/
theorem R_empty {α : Type} (d : Ty α) (e : TypeId) (W : World) : d.R e (W.alloc (.cells #[] e)) (fun k => W.heap.size ≤ k) (.slice (some ⟨W.heap.size, 0, none⟩) 0 0) [] :=
  R_block (xs := []) (cap := 0) (heap_alloc_new W _) (Nat.le_refl _) (Nat.le_refl _) (by omega) (by simp) (fun _ => 0) (fun i x h => by simp at h)
end Go.Proofs.Ytlkjpnlpankhpaa.X
