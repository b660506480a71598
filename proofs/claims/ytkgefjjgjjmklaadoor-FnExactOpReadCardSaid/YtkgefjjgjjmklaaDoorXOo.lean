/- What is proved here: contracts of the laws' marks of one step of a patch. Conditions: none. -/
import Derived.Test.YtkgefjjgjjmklaaDoorXO
import Derived.Test.YtkgefjjgjjmklaaDoorXP
namespace Go.Proofs.YtkgefjjgjjmklaaDoor.X
open Go.RowKit Go.Sort
set_option linter.unusedVariables false
set_option linter.unusedSimpArgs false
open Ty
theorem cnt_Op (m : Nat) (o : JOp) : (o.way.length : Int) + (bulkL (cnJ m) o.value.list : Int) + (o.value.names.length : Int) ≤ 4 * (bulkOp (m + 1) o : Nat) := by
  have := cnt_Json m o.value
  simp only [bulkOp, bulkStringS]
  omega
/-- A step whose memory is marked from k on. -/
def opMk (m : Nat) (k : Int) (x : JOp) : JOp :=
  ⟨x.kind, markL mkStr one k x.way, J.mk x.value.kind x.value.n x.value.s (markL (mkJ m) (cnJ m) (k + (x.way.length : Int)) x.value.list) (markL mkStr one (k + (x.way.length : Int) + (bulkL (cnJ m) x.value.list : Int)) x.value.names)⟩
set_option maxRecDepth 100000 in
theorem laws_markOp {m : Nat} {S : Nat → Prop} (x : JOp) (cs : List Value) (k : Int) (w : World) (hO : (tOp (m + 1)).O w S x cs) (h0 : 0 ≤ k) (h1 : k + (x.way.length : Int) + (bulkL (cnJ m) x.value.list : Int) + (x.value.names.length : Int) ≤ 4611686018427387904) :
    Calls Tryd.prog 35 #[.agg cs.toArray, .int .i64 k] w fun e w' => e = .returned (.int .i64 (k + (x.way.length : Int) + (bulkL (cnJ m) x.value.list : Int) + (x.value.names.length : Int))) ∧ (tOp (m + 1)).O w' S (opMk m k x) cs ∧ Fr w w' S := by
  obtain ⟨v1, cj, T1, T2, rfl, p1, p2, t1, t2, d12⟩ := tOp_O.1 hO
  obtain ⟨u1, u2, _, _, rfl, _, _, _, _⟩ := tJ_O.1 p2
  have P1 := Hd.mk (R_bound p1); clear p1
  have P2 := Hd.mk (Ty.O_bound _ p2); clear p2
  clear hO
  go_enter Tryd.func35, Tryd.ntmps35
  go_wp2_with fail
  apply calls_gen; intro W0 hW
  have hE : Below w.heap.size w W0 := by rw [hW]; exact below_alloc (Below.refl _ _) _
  have b0 : Blk W0 w.heap.size #[.int .i64 x.kind, v1, .int .i64 x.value.kind, .int .i64 x.value.n, .string x.value.s, u1, u2] 49 := by rw [hW]; exact Blk.new _ _ _
  clear hW
  replace P1 := Hd.mk (R_below P1.out hE)
  replace P2 := Hd.mk (Ty.O_below P2.out hE)
  have HF := Hd.mk (Fr.of_below hE S); clear hE
  refine (laws_markStringS v1 _ k W0 P1.out (by omega) (by rw [bulk_one]; omega)).mono ?_
  rintro e w1 ⟨rfl, R1, hX⟩
  rw [bulk_one]
  replace b0 := b0.fr hX (fun h => by have := h.2; omega)
  replace HF := Hd.mk (HF.out.then_ hX (fun k h _ => t1 k h.1))
  replace P2 := Hd.mk (Ty.O_fr P2.out hX (fun k a _ b => d12 k b.1 a.1))
  clear P1
  have P1 := Hd.mk R1; clear R1 hX
  have f0 : w1.cell? ⟨w.heap.size, 0, none⟩ = some (.int .i64 x.kind) := b0.cell 0 rfl
  have f1 : w1.cell? ⟨w.heap.size, 1, none⟩ = some (v1) := b0.cell 1 rfl
  have f2 : w1.cell? ⟨w.heap.size, 2, none⟩ = some (.int .i64 x.value.kind) := b0.cell 2 rfl
  have f3 : w1.cell? ⟨w.heap.size, 3, none⟩ = some (.int .i64 x.value.n) := b0.cell 3 rfl
  have f4 : w1.cell? ⟨w.heap.size, 4, none⟩ = some (.string x.value.s) := b0.cell 4 rfl
  have f5 : w1.cell? ⟨w.heap.size, 5, none⟩ = some (u1) := b0.cell 5 rfl
  have f6 : w1.cell? ⟨w.heap.size, 6, none⟩ = some (u2) := b0.cell 6 rfl
  have hb0 := Hd.mk b0; clear b0
  go_wp2_with fail
  have b0 := hb0.out; clear hb0 f0 f1 f2 f3 f4 f5 f6
  apply calls_gen; intro W1 hW
  have hE : Below w1.heap.size w1 W1 := by rw [hW]; exact Below.refl _ _
  clear hW
  replace P1 := Hd.mk (R_below P1.out hE)
  replace P2 := Hd.mk (Ty.O_below P2.out hE)
  replace HF := Hd.mk (HF.out.trans (Fr.of_below hE S)); clear hE
  refine (laws_markJson x.value _ (k + (x.way.length : Int)) W1 P2.out (by omega) (by omega)).mono ?_
  rintro e w2 ⟨rfl, R2, hX⟩
  replace HF := Hd.mk (HF.out.then_ hX (fun k h _ => t2 k h.1))
  replace P1 := Hd.mk (R_fr P1.out hX (fun k a _ b => d12 k a.1 b.1))
  clear P2
  have P2 := Hd.mk R2; clear R2 hX
  clear b0
  go_wp2_with fail
  go_ret
  exact ⟨rfl, tOp_O.2 ⟨_, _, _, _, rfl, P1.out, P2.out, fun k h => t1 k h.1, fun k h => t2 k h.1, fun k a b => d12 k a.1 b.1⟩, HF.out⟩
set_option maxRecDepth 100000 in
theorem laws_heldOp {m : Nat} (x : JOp) (cs : List Value) (k : Int) (w : World) (hK : (tOp (m + 1)).K w (opMk m k x) cs) (h0 : 0 ≤ k) (h1 : k + (x.way.length : Int) + (bulkL (cnJ m) x.value.list : Int) + (x.value.names.length : Int) ≤ 4611686018427387904) :
    Calls Tryd.prog 42 #[.agg cs.toArray, .int .i64 k] w fun e w' => e = .returned (.int .i64 (k + (x.way.length : Int) + (bulkL (cnJ m) x.value.list : Int) + (x.value.names.length : Int))) ∧ Below w.heap.size w w' := by
  obtain ⟨A1, c1, cj, rfl, ⟨hc1, r1⟩, r2⟩ := tOp_K.1 hK
  have Q2 := Hd.mk r2
  obtain ⟨A2, c2, A3, c3, rfl, _, _, _, _⟩ := tJ_K.1 r2
  clear hK r2
  obtain ⟨y1, hy1⟩ : ∃ y, y = (markL mkStr one k x.way) := ⟨_, rfl⟩
  replace r1 : str.C w A1 y1 := by rw [hy1]; exact r1
  obtain ⟨l2, hl2⟩ : ∃ n, n = (opMk m k x).value.list.length := ⟨_, rfl⟩
  obtain ⟨l3, hl3⟩ : ∃ n, n = (opMk m k x).value.names.length := ⟨_, rfl⟩
  rw [← hl2, ← hl3] at Q2 ⊢
  clear hl2 hl3
  show Calls Tryd.prog 42 #[.agg #[.int .i64 x.kind, .slice A1 (markL mkStr one k x.way).length c1, .int .i64 x.value.kind, .int .i64 x.value.n, .string x.value.s, .slice A2 l2 c2, .slice A3 l3 c3], .int .i64 k] w _
  rw [← hy1]
  have Y1 := Hd.mk hy1; clear hy1
  have Q1 := Hd.mk r1; clear r1 hc1
  have hq0 : 0 ≤ k + (x.way.length : Int) := by omega
  have hq1 : 0 ≤ k + (x.way.length : Int) + (bulkL (cnJ m) x.value.list : Int) + (x.value.names.length : Int) := by omega
  go_enter Tryd.func42, Tryd.ntmps42
  go_wp2_with fail
  apply calls_gen; intro W0 hW
  have hE : Below w.heap.size w W0 := by rw [hW]; exact below_alloc (Below.refl _ _) _
  have b0 : Blk W0 w.heap.size #[.int .i64 x.kind, .slice A1 y1.length c1, .int .i64 x.value.kind, .int .i64 x.value.n, .string x.value.s, .slice A2 l2 c2, .slice A3 l3 c3] 49 := by rw [hW]; exact Blk.new _ _ _
  clear hW
  have HE := Hd.mk hE; clear hE
  refine (laws_heldStringS _ _ _ x.way k _ (C_below Q1.out HE.out) Y1.out (by omega) (by rw [bulk_one]; omega)).mono ?_
  rintro e w1 ⟨rfl, hX⟩
  rw [bulk_one]
  replace b0 := b0.below hX
  replace HE := Hd.mk (below_then HE.out hX)
  clear hX
  have f0 : w1.cell? ⟨w.heap.size, 0, none⟩ = some (.int .i64 x.kind) := b0.cell 0 rfl
  have f1 : w1.cell? ⟨w.heap.size, 1, none⟩ = some (.slice A1 y1.length c1) := b0.cell 1 rfl
  have f2 : w1.cell? ⟨w.heap.size, 2, none⟩ = some (.int .i64 x.value.kind) := b0.cell 2 rfl
  have f3 : w1.cell? ⟨w.heap.size, 3, none⟩ = some (.int .i64 x.value.n) := b0.cell 3 rfl
  have f4 : w1.cell? ⟨w.heap.size, 4, none⟩ = some (.string x.value.s) := b0.cell 4 rfl
  have f5 : w1.cell? ⟨w.heap.size, 5, none⟩ = some (.slice A2 l2 c2) := b0.cell 5 rfl
  have f6 : w1.cell? ⟨w.heap.size, 6, none⟩ = some (.slice A3 l3 c3) := b0.cell 6 rfl
  have hb0 := Hd.mk b0; clear b0
  go_wp2_with fail
  have b0 := hb0.out; clear hb0 f0 f1 f2 f3 f4 f5 f6
  refine (laws_heldJson x.value _ (k + (x.way.length : Int)) _ (Ty.K_below _ HE.out Q2.out) (by omega) (by omega)).mono ?_
  rintro e w2 ⟨rfl, hX⟩
  replace b0 := b0.below hX
  replace HE := Hd.mk (below_then HE.out hX)
  clear hX
  clear b0
  go_wp2_with fail
  go_ret
  exact ⟨rfl, HE.out⟩
end Go.Proofs.YtkgefjjgjjmklaaDoor.X
