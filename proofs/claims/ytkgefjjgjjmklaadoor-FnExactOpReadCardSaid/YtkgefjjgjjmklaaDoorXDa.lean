/- What is proved here: contracts of the cursor that draws. Conditions: none. -/
import Derived.Test.YtkgefjjgjjmklaaDoorXU
import Derived.Test.YtkgefjjgjjmklaaDoorXA
import Derived.Laws.BitsLemmas
namespace Go.Proofs.YtkgefjjgjjmklaaDoor.X
open Go.RowKit Go.Sort Go.Proofs.YtkgefjjgjjmklaaDoorW.PrintLast
set_option linter.unusedVariables false
set_option linter.unusedSimpArgs false
open Ty
namespace Ty
def u8 : Ty Int := scal (Value.int .u8) (fun _ => rfl)
theorem C_u8_at {w W : World} {A : Option Addr} {l : List Int} (h : u8.C w A l) (hb : Below w.heap.size w W) (k : Nat) (hk : k < l.length) : ∃ ad, A = some ad ∧ ad.block < w.heap.size ∧ W.cell? (ad.add k) = some (.int .u8 l[k]) := by
  obtain ⟨ad, cs, rfl, _, h1, h2⟩ := C_get h 0 k hk
  have h1 : cs = [.int .u8 (l.getD k 0)] := h1
  have e : l.getD k 0 = l[k] := by simp [List.getD_eq_getElem?_getD, hk]
  rw [e] at h1
  have h3 : w.cell? (ad.add k) = some (.int .u8 l[k]) := by simpa [show u8.sz = 1 from rfl] using h2 0 (.int .u8 l[k]) (by rw [h1]; rfl)
  refine ⟨ad, rfl, ?_, cell_below hb h3⟩
  have h4 := World.block_lt_of_cell? w _ h3
  unfold Addr.add at h4
  split at h4 <;> exact h4
end Ty
theorem add_block_ (ad : Addr) (n : Nat) : (ad.add n).block = ad.block := by unfold Addr.add; split <;> rfl
theorem cell_far_ {w : World} {a p : Addr} (h : a.block ≠ p.block) (u : Value) : (w.setCell p u).cell? a = w.cell? a := by
  unfold World.cell?
  rw [Below.heap_setCell w p u a.block h]
theorem Fr.setg {w w1 : World} {g : Nat} (h : Fr w w1 (fun k => k = g)) (j : Nat) (u : Value) : Fr w (w1.setCell ⟨g, j, none⟩ u) (fun k => k = g) := h.setCell _ (fun _ => rfl) u
theorem and255 (x : Int) : 0 ≤ Go.bits .and .i64 x 255 ∧ Go.bits .and .i64 x 255 < 256 := by
  have h : (BitVec.ofInt IntKind.i64.bits x &&& BitVec.ofInt IntKind.i64.bits 255).toNat ≤ 255 := by
    rw [BitVec.toNat_and]
    exact Nat.le_trans Nat.and_le_right (by decide)
  unfold Go.bits
  simp only [IntKind.wrap_i64]
  omega
section
variable {P : Program} {ops : Array Oper} {Q : Exit → Act → World → Prop} {C : World → Prop} {ts : List Nat}
/-- A reader whose value is the same in every world of the class. -/
theorem mixT_see {i : Nat} {o : Oper} {r : MO} {a : Act} {w : World} (hi : ops.toList[i]? = some o) (hs : Region.wanted o (yielded ops a.tmps) = true) (v : Value) (hv : ∀ w', C w' → (execOp a.eval o).run P w' = .ok (.value v) w') (hC : C w) (h : wpList P ops (mixQ (fun a' _ => wpMixT P ops C Q ts r a' w) Q) [o] a w) : wpMixT P ops C Q ts (.q i r) a w := by
  refine mixT_q hi ?_
  simp only [wpQuiet]
  rw [if_pos hs]
  refine ⟨v, fun w' hw' => ?_, ?_⟩
  · unfold Oper.quietAt
    rw [hv w' hw']
    exact ⟨rfl, rfl⟩
  · simp only [wpList, hs, if_true] at h
    have h2 : Oper.wp P o a w (fun a' w' => wpMixT P ops C Q ts r a' w) Q := by
      rcases h with h | h
      · exact wp_of_mixQ (Oper.wp_mono (fun a' w' h' => h') h)
      · obtain ⟨a', w', h'⟩ := h.2
        exact h'.elim
    unfold Oper.wp at h2
    rw [hv w hC] at h2
    exact h2
/-- .. in every world. -/
theorem mixT_seeP {i : Nat} {o : Oper} {r : MO} {a : Act} {w : World} (hi : ops.toList[i]? = some o) (hs : Region.wanted o (yielded ops a.tmps) = true) (v : Value) (hv : ∀ w', (execOp a.eval o).run P w' = .ok (.value v) w') (h : wpList P ops (mixQ (fun a' _ => wpMixT P ops C Q ts r a' w) Q) [o] a w) : wpMixT P ops C Q ts (.p i r) a w := by
  refine mixT_p hi ?_
  simp only [wpQuiet]
  rw [if_pos hs]
  refine ⟨v, fun w' hw' => ?_, ?_⟩
  · unfold Oper.quietAt
    rw [hv w']
    exact ⟨rfl, rfl⟩
  · simp only [wpList, hs, if_true] at h
    have h2 : Oper.wp P o a w (fun a' w' => wpMixT P ops C Q ts r a' w) Q := by
      rcases h with h | h
      · exact wp_of_mixQ (Oper.wp_mono (fun a' w' h' => h') h)
      · obtain ⟨a', w', h'⟩ := h.2
        exact h'.elim
    unfold Oper.wp at h2
    rw [hv w] at h2
    exact h2
theorem region_mixC (C : World → Prop) {id : Nat} {a : Act} {w : World} (order : MO) (ts : List Nat) (hm : P.follows .mixedOrders = true) (hC : C w.drew) (hc : (mixTB ops ts (Array.replicate ops.size false) order && decide (order.len ts.length ≤ ops.size)) = true)
    (hQ : ∀ c a n v w, Q (.panic c) (a.put (some n) v) w → Q (.panic c) a w) (h : wpMixT P ops C Q ts order a w.drew) : (Code.region id ops true).wp P Q a w := by
  simp only [Bool.and_eq_true, decide_eq_true_eq] at hc
  exact wp_region_last_drew (S := C) (ds := ts) hm hC (fun hS => mixT_last hQ order _ a w.drew _ hc.2 hc.1 hC h)
end
end Go.Proofs.YtkgefjjgjjmklaaDoor.X
