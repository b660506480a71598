/- What is proved here: contracts of copies of ops and of Under. Conditions: none. -/
import Derived.Test.YtnpogfhfjofbmaaXZ
import Derived.Laws.Tables
namespace Go.Proofs.Ytnpogfhfjofbmaa.X
open Go.RowKit Go.Sort
set_option linter.unusedVariables false
set_option linter.unusedSimpArgs false
open Ty
/-- The ops under a name. -/
def underL (s : ByteArray) (l : List JOp) : List JOp := l.map (fun o => ⟨o.kind, s :: o.way, o.value⟩)
theorem underL_append (s : ByteArray) (l : List JOp) (x : JOp) : underL s (l ++ [x]) = underL s l ++ [⟨x.kind, s :: x.way, x.value⟩] := by simp [underL]
theorem cnt_under (m : Nat) (s : ByteArray) (l : List JOp) : bulkL (cnOp m) (underL s l) = bulkL (cnOp m) l + l.length := by
  induction l with
  | nil => rfl
  | cons x l ih =>
    have e : underL s (x :: l) = ⟨x.kind, s :: x.way, x.value⟩ :: underL s l := rfl
    rw [e]
    simp only [bulkL, ih, cnOp, List.length_cons]
    omega
theorem cnt_opsLen (m : Nat) (l : List JOp) : l.length ≤ bulkOpS m l := by simp only [bulkOpS]; omega
theorem R_one' {W0 : World} {n : Nat} (s : ByteArray) (hs : s.size ≤ 9223372036854775807) (hn : W0.heap.size = n) : str.R 9 (W0.alloc (.cells #[.string s] 9)) (fun k => k = n) (.slice (some ⟨n, 0, none⟩) 1 1) [s] := by
  subst hn
  refine R_block (xs := [s]) (cap := 1) (heap_alloc_new W0 _) rfl (Nat.le_refl _) (by omega) rfl (fun _ => 0) (fun i x h => ?_)
  rcases i with _ | i
  · simp at h
    subst h
    exact ⟨rfl, hs⟩
  · simp at h
theorem append_oneN {P : Program} {ops : Array Oper} {rest : List Oper} {o : Oper} {a : Act} {Q : Exit → Act → World → Prop} {α : Type} (d : Ty α) {W : World} {n : Nat} (hn : W.heap.size = n) (hgd : o.guard = none) (s x : Operand) (t e : TypeId) (z : Value) (bytes : Nat)
    (ho : o.op = .call { callee := .builtin .append, args := #[s, x], argTypes := #[t, t] })
    (ht : P.underlying t = some (.slice e)) (hinfo : (P.info? e).map (fun i => (i.zero, i.size, i.bytes)) = some (some z, d.sz, bytes)) (hz : z.cells.size = d.sz) (hsz : 0 < d.sz) (hb0 : 0 < bytes)
    {S S' T : Nat → Prop} {v : Value} {xs : List α} (y : α) (cs : List Value)
    (hs : a.eval s = v) (hx : a.eval x = .slice (some ⟨n, 0, none⟩) 1 1) (HR : d.R e W S v xs) (hO : d.O W T y cs)
    (hST : ∀ k, T k → k < W.heap.size → ¬ S k) (hS : ∀ k, S k → S' k) (hT : ∀ k, T k → S' k) (hnew : ∀ k, n ≤ k → S' k)
    (hbytes : (xs.length + 1) * bytes ≤ 140737488355328)
    (h : ∀ v1 w1, d.R e w1 S' v1 (xs ++ [y]) → Fr W w1 S → wpList P ops Q rest (a.put o.dst v1) w1) :
    wpList P ops Q (o :: rest) a (W.alloc (.cells cs.toArray e)) := by
  subst hn
  exact append_one d hgd s x t e z bytes ho ht hinfo hz hsz hb0 y cs hs hx HR hO hST hS hT hnew hbytes h
theorem store_blk {P : Program} {ops : Array Oper} {rest : List Oper} {o : Oper} {a : Act} {w : World} {Q : Exit → Act → World → Prop} (hgd : o.guard = none) (ty : TypeId) (x y : Operand) (ho : o.op = .store ty x y)
    (g : Nat) (cells : Array Value) (hx : a.eval x = .pointer (some ⟨g, 0, none⟩)) (hy : a.eval y = .agg cells) {t : TypeId} {old : Array Value} (b : Blk w g old t) (hi : (P.info? ty).map (·.size) = some cells.size)
    (hold : old.size = cells.size) (h1 : cells.all (·.oneCell') = true)
    (h : ∀ W, Blk W g cells t → Fr w W (fun k => k = g) → W.heap.size = w.heap.size → wpList P ops Q rest (a.put o.dst undef) W) : wpList P ops Q (o :: rest) a w := by
  refine wpList_store_row hgd ty x y ho g cells hx hy t old b hi hold h1 (h _ ?_ ?_ ?_)
  · show (w.setRow g cells).heap[g]? = _
    unfold World.setRow
    simp [Array.getElem?_modify, show w.heap[g]? = some (.cells old t (0, 0)) from b]
  · refine ⟨rfl, rfl, rfl, by simp [World.setRow], fun k hk hn => ?_⟩
    unfold World.setRow
    have hn : ¬ k = g := hn
    rw [Array.getElem?_modify, if_neg (fun e : g = k => hn e.symm)]
  · simp [World.setRow]
theorem info7 : (Try.prog.info? 94).map (·.size) = some 7 := by kernel_rfl
theorem Fr.box7 (w : World) (g : Nat) (a0 a1 a2 a3 a4 a5 a6 : Value) {o : Obj} : Fr w ((((((((w.setCell ⟨g, 0, none⟩ a0).setCell ⟨g, 1, none⟩ a1).setCell ⟨g, 2, none⟩ a2).setCell ⟨g, 3, none⟩ a3).setCell ⟨g, 4, none⟩ a4).setCell ⟨g, 5, none⟩ a5).setCell ⟨g, 6, none⟩ a6).alloc o) (fun k => k = g) :=
  Fr.alloc (by
    refine Fr.setCell (S := fun k => k = g) ?_ _ (fun _ => rfl) _
    refine Fr.setCell (S := fun k => k = g) ?_ _ (fun _ => rfl) _
    refine Fr.setCell (S := fun k => k = g) ?_ _ (fun _ => rfl) _
    refine Fr.setCell (S := fun k => k = g) ?_ _ (fun _ => rfl) _
    refine Fr.setCell (S := fun k => k = g) ?_ _ (fun _ => rfl) _
    refine Fr.setCell (S := fun k => k = g) ?_ _ (fun _ => rfl) _
    refine Fr.setCell (S := fun k => k = g) ?_ _ (fun _ => rfl) _
    exact Fr.refl _ _) o
set_option maxHeartbeats 4000000 in
set_option maxRecDepth 100000 in
theorem impl_copyOp {m : Nat} (x : JOp) (cs : List Value) (w : World) (hk : (tOp (m + 1)).K w x cs) (hl : bulkOp (m + 1) x ≤ 4194304) :
    Calls Try.prog 142 #[.agg cs.toArray] w fun e w' => ∃ cs', e = .returned (.agg cs'.toArray) ∧ (tOp (m + 1)).O w' (fun k => w.heap.size ≤ k) x cs' ∧ Below w.heap.size w w' := by
  obtain ⟨A1, c1, _, rfl, ⟨hc1, hr1⟩, hj⟩ := tOp_K.1 hk
  have HJ := Hd.mk hj
  obtain ⟨A2, c2, A3, c3, rfl, hs, ⟨hc2, hr2⟩, hc3, hr3⟩ := tJ_K.1 hj
  have HR1 := Hd.mk hr1
  clear hr1 hr2 hr3 hj hk
  have hlW : x.way.length ≤ 4194304 := by simp only [bulkOp, bulkStringS] at hl; omega
  have hlJ : bulkJ (m + 1) x.value ≤ 4194304 := by simp only [bulkOp] at hl; omega
  clear hl
  have hB := Hd.mk (Below.refl w.heap.size w)
  go_enter Try.func142, Try.ntmps142
  go_wp2_with fail
  apply wp_gen; intro W1 hW
  have hz_ : w.heap.size + 2 ≤ W1.heap.size := by rw [hW]; simp
  have hE : Below w.heap.size w W1 := by rw [hW]; (repeat (first | with_reducible refine below_alloc ?_ _ | with_reducible refine below_drew ?_)); exact Below.refl _ _
  have hB := Hd.mk (below_then hB.out hE)
  have b0 := Hd.mk (show Blk W1 (w.heap.size) #[Value.int IntKind.i64 x.kind, Value.slice A1 x.way.length c1, Value.int IntKind.i64 x.value.kind, Value.int IntKind.i64 x.value.n, Value.string x.value.s, Value.slice A2 x.value.list.length c2, Value.slice A3 x.value.names.length c3] 94 by rw [hW]; first | exact ((Blk.new _ _ _).alloc _) | (simpa using ((Blk.new _ _ _).alloc _)))
  have b1 := Hd.mk (show Blk W1 (w.heap.size + 1) #[Value.int IntKind.i64 0, Value.slice none 0 0, Value.int IntKind.i64 0, Value.int IntKind.i64 0, Value.string ⟨#[]⟩, Value.slice none 0 0, Value.slice none 0 0] 94 by rw [hW]; first | exact (Blk.new1 _ _ _ _) | (simpa using (Blk.new1 _ _ _ _)))
  clear hW hE
  have z1 := Hd.mk hz_; clear hz_
  have fb0_0 : W1.cell? ⟨w.heap.size, 0, none⟩ = some (Value.int IntKind.i64 x.kind) := b0.out.cell 0 rfl
  have fb0_1 : W1.cell? ⟨w.heap.size, 1, none⟩ = some (Value.slice A1 x.way.length c1) := b0.out.cell 1 rfl
  have fb0_2 : W1.cell? ⟨w.heap.size, 2, none⟩ = some (Value.int IntKind.i64 x.value.kind) := b0.out.cell 2 rfl
  have fb0_3 : W1.cell? ⟨w.heap.size, 3, none⟩ = some (Value.int IntKind.i64 x.value.n) := b0.out.cell 3 rfl
  have fb0_4 : W1.cell? ⟨w.heap.size, 4, none⟩ = some (Value.string x.value.s) := b0.out.cell 4 rfl
  have fb0_5 : W1.cell? ⟨w.heap.size, 5, none⟩ = some (Value.slice A2 x.value.list.length c2) := b0.out.cell 5 rfl
  have fb0_6 : W1.cell? ⟨w.heap.size, 6, none⟩ = some (Value.slice A3 x.value.names.length c3) := b0.out.cell 6 rfl
  have fb0_z := b0.out.frozen
  have fb1_0 : W1.cell? ⟨w.heap.size + 1, 0, none⟩ = some (Value.int IntKind.i64 0) := b1.out.cell 0 rfl
  have fb1_1 : W1.cell? ⟨w.heap.size + 1, 1, none⟩ = some (Value.slice none 0 0) := b1.out.cell 1 rfl
  have fb1_2 : W1.cell? ⟨w.heap.size + 1, 2, none⟩ = some (Value.int IntKind.i64 0) := b1.out.cell 2 rfl
  have fb1_3 : W1.cell? ⟨w.heap.size + 1, 3, none⟩ = some (Value.int IntKind.i64 0) := b1.out.cell 3 rfl
  have fb1_4 : W1.cell? ⟨w.heap.size + 1, 4, none⟩ = some (Value.string ⟨#[]⟩) := b1.out.cell 4 rfl
  have fb1_5 : W1.cell? ⟨w.heap.size + 1, 5, none⟩ = some (Value.slice none 0 0) := b1.out.cell 5 rfl
  have fb1_6 : W1.cell? ⟨w.heap.size + 1, 6, none⟩ = some (Value.slice none 0 0) := b1.out.cell 6 rfl
  have fb1_z := b1.out.frozen
  have rfb0_0 := cell_regrown fb0_0
  have rfb0_1 := cell_regrown fb0_1
  have rfb0_2 := cell_regrown fb0_2
  have rfb0_3 := cell_regrown fb0_3
  have rfb0_4 := cell_regrown fb0_4
  have rfb0_5 := cell_regrown fb0_5
  have rfb0_6 := cell_regrown fb0_6
  have rfb1_0 := cell_regrown fb1_0
  have rfb1_1 := cell_regrown fb1_1
  have rfb1_2 := cell_regrown fb1_2
  have rfb1_3 := cell_regrown fb1_3
  have rfb1_4 := cell_regrown fb1_4
  have rfb1_5 := cell_regrown fb1_5
  have rfb1_6 := cell_regrown fb1_6
  refine region_mixT (.q 0 (.q 1 (.q 2 (.q 3 (.q 5 (.q 6 (.b 4 (.b 7 (.q 8 .fin))))))))) [9] (by kernel_rfl) (by kernel_rfl) (fun _ _ _ _ _ h => h) ?_
  refine genT ?_
  intro W2 hW
  have hS := Hd.mk (show Below W1.heap.size W1 W2 by rw [hW]; exact below_drew (Below.refl _ _))
  have hz_ : W1.heap.size ≤ W2.heap.size := by rw [hW]; simp
  have hE : Below W1.heap.size W1 W2 := by rw [hW]; (repeat (first | with_reducible refine below_alloc ?_ _ | with_reducible refine below_drew ?_)); exact Below.refl _ _
  have hB := Hd.mk (below_then hB.out hE)
  have b0 := Hd.mk (b0.out.below hE)
  have b1 := Hd.mk (b1.out.below hE)
  clear hW hE
  have z2 := Hd.mk hz_; clear hz_
  refine mixT_q rfl ?_
  go_big_quiet_want; go_big_quiet_op; go_big_quiet_on; refine wpQuiet_nil ?_
  refine mixT_q rfl ?_
  go_big_quiet_want; go_big_quiet_op; go_big_quiet_on; refine wpQuiet_nil ?_
  refine mixT_q rfl ?_
  go_big_quiet_want; go_big_quiet_op; go_big_quiet_on; refine wpQuiet_nil ?_
  refine mixT_q rfl ?_
  go_big_quiet_want; go_big_quiet_op; go_big_quiet_on; refine wpQuiet_nil ?_
  refine mixT_q rfl ?_
  go_big_quiet_want; go_big_quiet_op; go_big_quiet_on; refine wpQuiet_nil ?_
  refine mixT_q rfl ?_
  go_big_quiet_want; go_big_quiet_op; go_big_quiet_on; refine wpQuiet_nil ?_
  refine mixT_b rfl ?_ (by rfl)
  go_wp2_with fail
  apply calls_gen; intro W3 hW
  have hz_ : W2.heap.size ≤ W3.heap.size := by rw [hW]; simp
  have hE : Below W2.heap.size W2 W3 := by rw [hW]; (repeat (first | with_reducible refine below_alloc ?_ _ | with_reducible refine below_drew ?_)); exact Below.refl _ _
  have hB := Hd.mk (below_then hB.out hE)
  replace hS := Hd.mk (below_then hS.out hE)
  have b0 := Hd.mk (b0.out.below hE)
  have b1 := Hd.mk (b1.out.below hE)
  clear hW hE
  have z3 := Hd.mk hz_; clear hz_
  refine (impl_copyTexts _ _ x.way _ (C_below HR1.out hB.out) hlW).mono ?_
  rintro e w4 ⟨v1, rfl, hO, hX⟩
  have b0 := Hd.mk (b0.out.below hX)
  have b1 := Hd.mk (b1.out.below hX)
  have hB := Hd.mk (below_then hB.out hX)
  replace hS := Hd.mk (below_then hS.out hX)
  have hz_ := hX.size
  clear hX
  have z4 := Hd.mk hz_; clear hz_
  obtain ⟨D1, d1, rfl, _, _⟩ := R_C hO
  replace hO := Hd.mk (show str.R 9 w4 (rng W3.heap.size w4.heap.size) _ x.way from R_bound hO)
  go_wp2_with fail
  refine ⟨cls_below hS.out, ?_⟩
  refine mixT_b rfl ?_ (by rfl)
  go_wp2_with fail
  apply calls_gen; intro W5 hW
  have hz_ : w4.heap.size ≤ W5.heap.size := by rw [hW]; simp
  have hE : Below w4.heap.size w4 W5 := by rw [hW]; (repeat (first | with_reducible refine below_alloc ?_ _ | with_reducible refine below_drew ?_)); exact Below.refl _ _
  have hB := Hd.mk (below_then hB.out hE)
  replace hS := Hd.mk (below_then hS.out hE)
  have b0 := Hd.mk (b0.out.below hE)
  have b1 := Hd.mk (b1.out.below hE)
  have hO := Hd.mk (R_below hO.out hE)
  clear hW hE
  have z5 := Hd.mk hz_; clear hz_
  refine (impl_copyJson x.value _ _ (Ty.K_below _ hB.out HJ.out) hlJ).mono ?_
  rintro e w6 ⟨cs', rfl, hO2, hX⟩
  have b0 := Hd.mk (b0.out.below hX)
  have b1 := Hd.mk (b1.out.below hX)
  have hO := Hd.mk (R_below hO.out hX)
  have hB := Hd.mk (below_then hB.out hX)
  replace hS := Hd.mk (below_then hS.out hX)
  have hz_ := hX.size
  clear hX
  have z6 := Hd.mk hz_; clear hz_
  obtain ⟨v3, v4, _, _, rfl, hsz3, hr3, hr4, _⟩ := tJ_O.1 hO2
  obtain ⟨D2, d2, rfl, _, _⟩ := R_C hr3
  obtain ⟨D3, d3, rfl, _, _⟩ := R_C hr4
  clear hr3 hr4
  replace hO2 := Hd.mk (show (tJ (m + 1)).O w6 (rng W5.heap.size w6.heap.size) x.value _ from Ty.O_bound _ hO2)
  go_wp2_with fail
  refine ⟨cls_below hS.out, ?_⟩
  refine mixT_q rfl ?_
  go_big_quiet_want; go_big_quiet_op; go_big_quiet_on; refine wpQuiet_nil ?_
  refine mixT_fin ?_
  clear hS
  clear rfb0_0 rfb0_1 rfb0_2 rfb0_3 rfb0_4 rfb0_5 rfb0_6 rfb1_0 rfb1_1 rfb1_2 rfb1_3 rfb1_4 rfb1_5 rfb1_6
  clear fb0_0 fb0_1 fb0_2 fb0_3 fb0_4 fb0_5 fb0_6 fb0_z fb1_0 fb1_1 fb1_2 fb1_3 fb1_4 fb1_5 fb1_6 fb1_z
  have fb0_0 : w6.cell? ⟨w.heap.size, 0, none⟩ = some (Value.int IntKind.i64 x.kind) := b0.out.cell 0 rfl
  have fb0_1 : w6.cell? ⟨w.heap.size, 1, none⟩ = some (Value.slice A1 x.way.length c1) := b0.out.cell 1 rfl
  have fb0_2 : w6.cell? ⟨w.heap.size, 2, none⟩ = some (Value.int IntKind.i64 x.value.kind) := b0.out.cell 2 rfl
  have fb0_3 : w6.cell? ⟨w.heap.size, 3, none⟩ = some (Value.int IntKind.i64 x.value.n) := b0.out.cell 3 rfl
  have fb0_4 : w6.cell? ⟨w.heap.size, 4, none⟩ = some (Value.string x.value.s) := b0.out.cell 4 rfl
  have fb0_5 : w6.cell? ⟨w.heap.size, 5, none⟩ = some (Value.slice A2 x.value.list.length c2) := b0.out.cell 5 rfl
  have fb0_6 : w6.cell? ⟨w.heap.size, 6, none⟩ = some (Value.slice A3 x.value.names.length c3) := b0.out.cell 6 rfl
  have fb0_z := b0.out.frozen
  have fb1_0 : w6.cell? ⟨w.heap.size + 1, 0, none⟩ = some (Value.int IntKind.i64 0) := b1.out.cell 0 rfl
  have fb1_1 : w6.cell? ⟨w.heap.size + 1, 1, none⟩ = some (Value.slice none 0 0) := b1.out.cell 1 rfl
  have fb1_2 : w6.cell? ⟨w.heap.size + 1, 2, none⟩ = some (Value.int IntKind.i64 0) := b1.out.cell 2 rfl
  have fb1_3 : w6.cell? ⟨w.heap.size + 1, 3, none⟩ = some (Value.int IntKind.i64 0) := b1.out.cell 3 rfl
  have fb1_4 : w6.cell? ⟨w.heap.size + 1, 4, none⟩ = some (Value.string ⟨#[]⟩) := b1.out.cell 4 rfl
  have fb1_5 : w6.cell? ⟨w.heap.size + 1, 5, none⟩ = some (Value.slice none 0 0) := b1.out.cell 5 rfl
  have fb1_6 : w6.cell? ⟨w.heap.size + 1, 6, none⟩ = some (Value.slice none 0 0) := b1.out.cell 6 rfl
  have fb1_z := b1.out.frozen
  refine tail_b rfl ?_ (by rfl)
  go_wp2_with fail
  refine mixQ_n ?_
  refine tail_nil ?_
  go_wp2_with fail
  refine bodyPost_retW (v := .agg #[Value.int IntKind.i64 x.kind, Value.slice D1 x.way.length d1, Value.int IntKind.i64 x.value.kind, Value.int IntKind.i64 x.value.n, Value.string x.value.s, Value.slice D2 x.value.list.length d2, Value.slice D3 x.value.names.length d3]) (by simp [results, Try.results142, go_sem, fb0_0, fb0_1, fb0_2, fb0_3, fb0_4, fb0_5, fb0_6, fb0_z, fb1_0, fb1_1, fb1_2, fb1_3, fb1_4, fb1_5, fb1_6, fb1_z]) rfl ?_
  intro W hW
  clear fb0_0 fb0_1 fb0_2 fb0_3 fb0_4 fb0_5 fb0_6 fb0_z fb1_0 fb1_1 fb1_2 fb1_3 fb1_4 fb1_5 fb1_6 fb1_z
  have hz_ : w6.heap.size ≤ W.heap.size := by rw [hW]; simp
  have eF : Fr w6 W (fun k => k = w.heap.size + 1 ∨ w6.heap.size ≤ k) := by rw [hW]; (repeat (first | with_reducible refine Fr.setCell ?_ _ (fun _ => by simp <;> omega) _ | with_reducible refine Fr.alloc ?_ _ | with_reducible refine Fr.drew ?_)); exact Fr.refl _ _
  have z1_ := z1.out; have z2_ := z2.out; have z3_ := z3.out; have z4_ := z4.out; have z5_ := z5.out; have z6_ := z6.out
  have hB := Hd.mk (((Fr.of_below hB.out (fun k => k = w.heap.size + 1 ∨ w6.heap.size ≤ k)).then_ eF (fun k hk _ => hk)).below (fun k hk => by have := hB.out.size; omega))
  have b0 := Hd.mk (b0.out.fr eF (fun h => by have hlt_ := b0.out.lt; (try simp only at h); omega))
  have b1 := Hd.mk (show Blk W (w.heap.size + 1) #[Value.int IntKind.i64 x.kind, Value.slice D1 x.way.length d1, Value.int IntKind.i64 x.value.kind, Value.int IntKind.i64 x.value.n, Value.string x.value.s, Value.slice D2 x.value.list.length d2, Value.slice D3 x.value.names.length d3] 94 by rw [hW]; exact (Blk.all b1.out [Value.int IntKind.i64 x.kind, Value.slice D1 x.way.length d1, Value.int IntKind.i64 x.value.kind, Value.int IntKind.i64 x.value.n, Value.string x.value.s, Value.slice D2 x.value.list.length d2, Value.slice D3 x.value.names.length d3] rfl))
  have hO := Hd.mk (R_fr hO.out eF (fun k hk hl h => by skip; (try simp only [rng] at hk); (try simp only at hk); (try simp only at h); omega))
  have hO2 := Hd.mk (Ty.O_fr hO2.out eF (fun k hk hl h => by skip; (try simp only [rng] at hk); (try simp only at hk); (try simp only at h); omega))
  clear hW eF
  have z7 := Hd.mk hz_; clear hz_
  have hBs := hB.out.size
  have z1_ := z1.out; have z2_ := z2.out; have z3_ := z3.out; have z4_ := z4.out; have z5_ := z5.out; have z6_ := z6.out; have z7_ := z7.out
  exact ⟨[Value.int IntKind.i64 x.kind, Value.slice D1 x.way.length d1, Value.int IntKind.i64 x.value.kind, Value.int IntKind.i64 x.value.n, Value.string x.value.s, Value.slice D2 x.value.list.length d2, Value.slice D3 x.value.names.length d3], rfl, tOp_O.2 ⟨_, _, _, _, rfl, hO.out, hO2.out, fun k hk => by have := hk.1; omega, fun k hk => by have := hk.1; omega, fun k h1 h2 => by have := h1.1; have := h1.2; have := h2.1; have := h2.2; omega⟩, hB.out⟩
set_option maxHeartbeats 4000000 in
set_option maxRecDepth 100000 in
theorem impl_UnderE {m : Nat} (s : ByteArray) (hs : s.size ≤ 9223372036854775807) (A : Option Addr) (c : Nat) (l : List JOp) (w : World) (hr : (tOp (m + 1)).C w A l) (hL : l.length ≤ 4194304) (hl : ∀ x ∈ l, bulkOp (m + 1) x ≤ 4194304) :
    Calls Try.prog 61 #[.string s, .slice A l.length c] w fun e w' => ∃ v, e = .returned v ∧ (tOp (m + 1)).R 94 w' (fun k => w.heap.size ≤ k) v (underL s l) ∧ Below w.heap.size w w' := by
  have hm := hr.1
  have HL := Hd.mk hl; clear hl
  have HC := Hd.mk hr; clear hr
  have HR := Hd.mk (R_empty (tOp (m + 1)) 94 w)
  go_enter Try.func61, Try.ntmps61
  go_wp2_with fail
  go_loopw [5, 11] (fun o i wr => ∃ k : Nat, ∃ vv : Value, k ≤ l.length ∧ i = .int .i64 k ∧ vv = o ∧ Hd ((tOp (m + 1)).R 94 wr (fun k => w.heap.size ≤ k) vv (underL s (l.take k))) ∧ Hd (Below w.heap.size w wr)) (fun _ i _ => l.length - (intOf i).toNat)
  case atStart => exact ⟨0, _, Nat.zero_le _, rfl, rfl, ⟨HR.out⟩, ⟨below_alloc (Below.refl _ _) _⟩⟩
  case round =>
    obtain ⟨k, vv, hk, rfl, rfl, HK, HB⟩ := hrel
    by_cases hlt : k < l.length
    · obtain ⟨ad, cs0, rfl, hK0, e0, e1⟩ := C_at HC.out HB.out k hlt
      obtain ⟨A1, c1, _, rfl, ⟨hc1, hr1⟩, hj⟩ := tOp_K.1 hK0
      obtain ⟨A2, c2, A3, c3, rfl, hs1, ⟨hc2, hr2⟩, hc3, hr3⟩ := tJ_K.1 hj
      have hbk := HL.out _ (List.getElem_mem hlt)
      have hbW : l[k].way.length ≤ 4194304 := by simp only [bulkOp, bulkStringS] at hbk; omega
      have hbJ : bulkJ (m + 1) l[k].value ≤ 4194304 := by simp only [bulkOp] at hbk; omega
      have HKe := Hd.mk hK0; have HR1 := Hd.mk hr1; have HJ := Hd.mk hj
      clear hK0 hr1 hr2 hr3 hj
      have htl : (l.take k).length = k := by rw [List.length_take]; omega
      have x0 : wr.cell? (ad.add (k * 7)) = some (Value.int IntKind.i64 l[k].kind) := e0 _ rfl
      have x1 : wr.cell? ⟨(ad.add (k * 7)).block, (ad.add (k * 7)).off + 1, none⟩ = some (Value.slice A1 l[k].way.length c1) := e1 0 _ rfl
      have x2 : wr.cell? ⟨(ad.add (k * 7)).block, (ad.add (k * 7)).off + 2, none⟩ = some (Value.int IntKind.i64 l[k].value.kind) := e1 1 _ rfl
      have x3 : wr.cell? ⟨(ad.add (k * 7)).block, (ad.add (k * 7)).off + 3, none⟩ = some (Value.int IntKind.i64 l[k].value.n) := e1 2 _ rfl
      have x4 : wr.cell? ⟨(ad.add (k * 7)).block, (ad.add (k * 7)).off + 4, none⟩ = some (Value.string l[k].value.s) := e1 3 _ rfl
      have x5 : wr.cell? ⟨(ad.add (k * 7)).block, (ad.add (k * 7)).off + 5, none⟩ = some (Value.slice A2 l[k].value.list.length c2) := e1 4 _ rfl
      have x6 : wr.cell? ⟨(ad.add (k * 7)).block, (ad.add (k * 7)).off + 6, none⟩ = some (Value.slice A3 l[k].value.names.length c3) := e1 5 _ rfl
      clear e0 e1
      have hB := HB
      have hBr := Hd.mk (Below.refl wr.heap.size wr)
      go_wp2_with fail
      clear x0 x1 x2 x3 x4 x5 x6
      apply calls_gen; intro W1 hW
      have hz_ : wr.heap.size + 1 ≤ W1.heap.size := by rw [hW]; simp
      have hE : Below wr.heap.size wr W1 := by rw [hW]; (repeat (first | with_reducible refine below_alloc ?_ _ | with_reducible refine below_drew ?_)); exact Below.refl _ _
      have hB := Hd.mk (below_then hB.out hE)
      have hBr := Hd.mk (below_then hBr.out hE)
      have bp := Hd.mk (show Blk W1 (wr.heap.size) #[Value.int IntKind.i64 l[k].kind, Value.slice A1 l[k].way.length c1, Value.int IntKind.i64 l[k].value.kind, Value.int IntKind.i64 l[k].value.n, Value.string l[k].value.s, Value.slice A2 l[k].value.list.length c2, Value.slice A3 l[k].value.names.length c3] 94 by rw [hW]; first | exact (Blk.new _ _ _) | (simpa using (Blk.new _ _ _)))
      clear hW hE
      have z1 := Hd.mk hz_; clear hz_
      refine (impl_copyOp l[k] _ _ (Ty.K_below _ hBr.out HKe.out) hbk).mono ?_
      rintro e w2 ⟨cs', rfl, hO, hX⟩
      have bp := Hd.mk (bp.out.below hX)
      have hB := Hd.mk (below_then hB.out hX)
      have hz_ := hX.size
      have hBr := Hd.mk (below_then hBr.out hX)
      clear hX
      have z2 := Hd.mk hz_; clear hz_
      obtain ⟨v1, _, T0, T1, rfl, r1, hJ, s0, s1, d01⟩ := tOp_O.1 hO
      obtain ⟨D1, d1, rfl, hd1, _⟩ := R_C r1
      obtain ⟨v3, v4, _, _, rfl, hsz3, hr3, hr4, _⟩ := tJ_O.1 hJ
      obtain ⟨D2, d2, rfl, _, _⟩ := R_C hr3
      obtain ⟨D3, d3, rfl, _, _⟩ := R_C hr4
      have HR2 := Hd.mk (R_bound r1); have HJ2 := Hd.mk (Ty.O_bound _ hJ); clear hr3 hr4 hO r1 hJ
      have S0 := Hd.mk s0; have S1 := Hd.mk s1; have D01 := Hd.mk d01; clear s0 s1 d01
      have z1_ := z1.out; have z2_ := z2.out
      have hBs := hB.out.size
      have fbp_0 : w2.cell? ⟨wr.heap.size, 0, none⟩ = some (Value.int IntKind.i64 l[k].kind) := bp.out.cell 0 rfl
      have fbp_1 : w2.cell? ⟨wr.heap.size, 1, none⟩ = some (Value.slice A1 l[k].way.length c1) := bp.out.cell 1 rfl
      have fbp_2 : w2.cell? ⟨wr.heap.size, 2, none⟩ = some (Value.int IntKind.i64 l[k].value.kind) := bp.out.cell 2 rfl
      have fbp_3 : w2.cell? ⟨wr.heap.size, 3, none⟩ = some (Value.int IntKind.i64 l[k].value.n) := bp.out.cell 3 rfl
      have fbp_4 : w2.cell? ⟨wr.heap.size, 4, none⟩ = some (Value.string l[k].value.s) := bp.out.cell 4 rfl
      have fbp_5 : w2.cell? ⟨wr.heap.size, 5, none⟩ = some (Value.slice A2 l[k].value.list.length c2) := bp.out.cell 5 rfl
      have fbp_6 : w2.cell? ⟨wr.heap.size, 6, none⟩ = some (Value.slice A3 l[k].value.names.length c3) := bp.out.cell 6 rfl
      have fbp_z := bp.out.frozen
      go_wp2_with (first | (refine store_blk rfl 94 _ _ rfl wr.heap.size #[Value.int IntKind.i64 l[k].kind, Value.slice D1 l[k].way.length d1, Value.int IntKind.i64 l[k].value.kind, Value.int IntKind.i64 l[k].value.n, Value.string l[k].value.s, Value.slice D2 l[k].value.list.length d2, Value.slice D3 l[k].value.names.length d3] rfl rfl bp.out info7 rfl (by simp [Value.oneCell']) (fun W5 b5 hf5 hz5 => ?_); clear fbp_0 fbp_1 fbp_2 fbp_3 fbp_4 fbp_5 fbp_6 fbp_z; have y0 : W5.cell? ⟨wr.heap.size, 0, none⟩ = some (Value.int IntKind.i64 l[k].kind) := b5.cell 0 rfl; have y1 : W5.cell? ⟨wr.heap.size, 1, none⟩ = some (Value.slice D1 l[k].way.length d1) := b5.cell 1 rfl; have y2 : W5.cell? ⟨wr.heap.size, 2, none⟩ = some (Value.int IntKind.i64 l[k].value.kind) := b5.cell 2 rfl; have y3 : W5.cell? ⟨wr.heap.size, 3, none⟩ = some (Value.int IntKind.i64 l[k].value.n) := b5.cell 3 rfl; have y4 : W5.cell? ⟨wr.heap.size, 4, none⟩ = some (Value.string l[k].value.s) := b5.cell 4 rfl; have y5 : W5.cell? ⟨wr.heap.size, 5, none⟩ = some (Value.slice D2 l[k].value.list.length d2) := b5.cell 5 rfl; have y6 : W5.cell? ⟨wr.heap.size, 6, none⟩ = some (Value.slice D3 l[k].value.names.length d3) := b5.cell 6 rfl; have yz := b5.frozen; have ly1 := (fun o => cell_below (below_alloc (Below.refl W5.heap.size W5) o) y1); have hz5' := Hd.mk hz5; clear bp hz5; have HR5 := Hd.mk (R_fr HR2.out hf5 (fun k h1 hl h2 => by have := S0.out k h1.1; have := h1.2; (try simp only at this); (try simp only at h2); omega)); have HJ5 := Hd.mk (Ty.O_fr HJ2.out hf5 (fun k h1 hl h2 => by have := S1.out k h1.1; have := h1.2; (try simp only at this); (try simp only at h2); omega)); have HK5 := Hd.mk (R_fr (R_below (R_bound HK.out) hBr.out) hf5 (fun k h1 hl h2 => by have := h1.2; (try simp only at h2); omega)); have hB5 := Hd.mk (below_frS hB.out hf5 (fun k h => by have := HB.out.size; (try simp only at h); omega)); have hs5 := Hd.mk (show w2.heap.size ≤ W5.heap.size by have := hz5'.out; omega); have B5 := Hd.mk b5; clear hf5 b5 HR2 HJ2) | (at_builtin; refine append_str rfl _ _ 51 9 (.string ByteArray.empty) 16 rfl Try.underlying51 info_str rfl (by decide) (S := fun k => k = W5.heap.size) (S' := fun k => W5.heap.size ≤ k) (xs := [s]) (ys := l[k].way) rfl rfl (R_one' s hs rfl) (R_Cv (R_below HR5.out (below_alloc (Below.refl _ _) _))) (fun k h => by (try simp only at h); omega) (fun k h => by simp at h; omega) (by simp; omega) (fun v6 w6 hv6 hf6 => ?_); obtain ⟨D6, d6, hv6e, hd6, _⟩ := R_C hv6; subst hv6e; have hX := Hd.mk (((Fr.of_below (below_alloc (Below.refl W5.heap.size W5) _) (fun k => W5.heap.size ≤ k)).then_ (hf6.mono (S' := fun k => W5.heap.size ≤ k) (fun k _ h => by (try simp only at h); omega)) (fun k h _ => h)).below (fun k h => h)); have HV6 := Hd.mk (R_bound hv6); have HJ6 := Hd.mk (Ty.O_below (Ty.O_bound _ HJ5.out) hX.out); have HK6 := Hd.mk (R_below (R_bound HK5.out) hX.out); have hB6 := Hd.mk (below_then hB5.out hX.out); have hlt5 := hs5.out; have hlt6 := hX.out.size; have B6 := Hd.mk (B5.out.below hX.out); clear hf6 hv6 y0 y1 y2 y3 y4 y5 y6 yz ly1 HR5; have y0 : w6.cell? ⟨wr.heap.size, 0, none⟩ = some (Value.int IntKind.i64 l[k].kind) := B6.out.cell 0 rfl; have y1 : w6.cell? ⟨wr.heap.size, 1, none⟩ = some (Value.slice D1 l[k].way.length d1) := B6.out.cell 1 rfl; have y2 : w6.cell? ⟨wr.heap.size, 2, none⟩ = some (Value.int IntKind.i64 l[k].value.kind) := B6.out.cell 2 rfl; have y3 : w6.cell? ⟨wr.heap.size, 3, none⟩ = some (Value.int IntKind.i64 l[k].value.n) := B6.out.cell 3 rfl; have y4 : w6.cell? ⟨wr.heap.size, 4, none⟩ = some (Value.string l[k].value.s) := B6.out.cell 4 rfl; have y5 : w6.cell? ⟨wr.heap.size, 5, none⟩ = some (Value.slice D2 l[k].value.list.length d2) := B6.out.cell 5 rfl; have y6 : w6.cell? ⟨wr.heap.size, 6, none⟩ = some (Value.slice D3 l[k].value.names.length d3) := B6.out.cell 6 rfl; have yz := B6.out.frozen) | (at_builtin; refine append_oneN (tOp (m + 1)) (n := w6.heap.size) (by simp) rfl _ _ 55 94 (.agg #[.int .i64 0, .slice none 0 0, .int .i64 0, .int .i64 0, .string ByteArray.empty, .slice none 0 0, .slice none 0 0]) 112 rfl Try.underlying55 info_OpS rfl (by rw [tOp_sz]; omega) (by decide) (S := fun k => w.heap.size ≤ k ∧ k < wr.heap.size) (T := fun k => (W5.heap.size ≤ k ∧ k < w6.heap.size) ∨ ((T1 k ∧ k < w2.heap.size) ∧ k < W5.heap.size)) (S' := fun k => w.heap.size ≤ k) (v := vv) (xs := underL s (l.take k)) ⟨l[k].kind, s :: l[k].way, l[k].value⟩ [Value.int IntKind.i64 l[k].kind, Value.slice D6 (s :: l[k].way).length d6, Value.int IntKind.i64 l[k].value.kind, Value.int IntKind.i64 l[k].value.n, Value.string l[k].value.s, Value.slice D2 l[k].value.list.length d2, Value.slice D3 l[k].value.names.length d3] rfl rfl (R_mono (S' := fun k => w.heap.size ≤ k ∧ k < wr.heap.size) (fun k h => h.1) (R_fr HK6.out (Fr.setCell (S := fun k => k = wr.heap.size) (Fr.refl w6 _) ⟨wr.heap.size, 1, none⟩ (fun _ => rfl) _) (fun k h _ h2 => by have := h.1.2; (try simp only at h2); omega))) (tOp_O.2 ⟨_, _, (fun k => W5.heap.size ≤ k ∧ k < w6.heap.size), (fun k => (T1 k ∧ k < w2.heap.size) ∧ k < W5.heap.size), rfl, R_fr HV6.out (Fr.setCell (S := fun k => k = wr.heap.size) (Fr.refl w6 _) ⟨wr.heap.size, 1, none⟩ (fun _ => rfl) _) (fun k h _ h2 => by (try simp only at h2); omega), Ty.O_fr HJ6.out (Fr.setCell (S := fun k => k = wr.heap.size) (Fr.refl w6 _) ⟨wr.heap.size, 1, none⟩ (fun _ => rfl) _) (fun k h _ h2 => by have := S1.out k h.1.1; (try simp only at this); (try simp only at h2); omega), fun k h => Or.inl h, fun k h => Or.inr h, fun k h h2 => by have := h.1; have := h2.2; omega⟩) (fun k h1 hl h2 => by have hh := h2.2; rcases h1 with h1 | h1; omega; have := S1.out k h1.1.1; (try simp only at this); omega) (fun k h => h.1) (fun k h => by have := HB.out.size; rcases h with h | h; omega; have := S1.out k h.1.1; (try simp only at this); omega) (fun k h => by have := HB.out.size; (try simp only at h); omega) (by simp only [underL, List.length_map, htl]; omega) (fun v5 w5 hv5 hf5 => ?_)))
      have HV := Hd.mk hv5
      have HB5 := Hd.mk (below_frS (below_frS hB6.out (Fr.setCell (S := fun k => k = wr.heap.size) (Fr.refl w6 _) ⟨wr.heap.size, 1, none⟩ (fun _ => rfl) _) (fun k h => by have := HB.out.size; (try simp only at h); omega)) hf5 (fun k h => h.1))
      clear hv5 hf5
      go_wp2_with fail
      go_roundw
      case rel => exact ⟨k + 1, _, by omega, by go_num, rfl, ⟨by have h := HV.out; rw [List.take_succ_eq_append_getElem hlt, underL_append]; exact h⟩, HB5⟩
      case measure => simp [intOf]; omega
    · obtain rfl : k = l.length := by omega
      go_wp2_with fail
      go_ret
      have := HK.out
      rw [List.take_length] at this
      exact ⟨_, rfl, this, HB.out⟩
theorem impl_Under {m : Nat} (s : ByteArray) (hs : s.size ≤ 9223372036854775807) (A : Option Addr) (c : Nat) (l : List JOp) (w : World) (hr : (tOp (m + 1)).C w A l) (hl : bulkOpS (m + 1) l ≤ 4194304) :
    Calls Try.prog 61 #[.string s, .slice A l.length c] w fun e w' => ∃ v, e = .returned v ∧ (tOp (m + 1)).R 94 w' (fun k => w.heap.size ≤ k) v (underL s l) ∧ Below w.heap.size w w' := by
  simp only [bulkOpS] at hl
  exact impl_UnderE s hs A c l w hr (by omega) (fun x hx => Nat.le_trans (bulkL_mem (bulkOp (m + 1)) hx) (Nat.le_trans (Nat.le_add_left _ _) hl))
set_option maxHeartbeats 4000000 in
set_option maxRecDepth 100000 in
theorem spec_UnderE {m : Nat} (s : ByteArray) (hs : s.size ≤ 9223372036854775807) (A : Option Addr) (c : Nat) (l : List JOp) (w : World) (hr : (tOp (m + 1)).C w A l) (hL : l.length ≤ 4194304) (hl : ∀ x ∈ l, bulkOp (m + 1) x ≤ 4194304) :
    Calls Try.prog 62 #[.string s, .slice A l.length c] w fun e w' => ∃ v, e = .returned v ∧ (tOp (m + 1)).R 94 w' (fun k => w.heap.size ≤ k) v (underL s l) ∧ Below w.heap.size w w' := by
  have hm := hr.1
  have HL := Hd.mk hl; clear hl
  have HC := Hd.mk hr; clear hr
  have HR := Hd.mk (R_empty (tOp (m + 1)) 94 w)
  go_enter Try.func62, Try.ntmps62
  go_wp2_with fail
  go_loopw [5, 6] (fun o i wr => ∃ k : Nat, ∃ vv : Value, k ≤ l.length ∧ i = .int .i64 k ∧ vv = o ∧ Hd ((tOp (m + 1)).R 94 wr (fun k => w.heap.size ≤ k) vv (underL s (l.take k))) ∧ Hd (Below w.heap.size w wr)) (fun _ i _ => l.length - (intOf i).toNat)
  case atStart => exact ⟨0, _, Nat.zero_le _, rfl, rfl, ⟨HR.out⟩, ⟨below_alloc (Below.refl _ _) _⟩⟩
  case round =>
    obtain ⟨k, vv, hk, rfl, rfl, HK, HB⟩ := hrel
    by_cases hlt : k < l.length
    · obtain ⟨ad, cs0, rfl, hK0, e0, e1⟩ := C_at HC.out HB.out k hlt
      obtain ⟨A1, c1, _, rfl, ⟨hc1, hr1⟩, hj⟩ := tOp_K.1 hK0
      obtain ⟨A2, c2, A3, c3, rfl, hs1, ⟨hc2, hr2⟩, hc3, hr3⟩ := tJ_K.1 hj
      have hbk := HL.out _ (List.getElem_mem hlt)
      have hbW : l[k].way.length ≤ 4194304 := by simp only [bulkOp, bulkStringS] at hbk; omega
      have hbJ : bulkJ (m + 1) l[k].value ≤ 4194304 := by simp only [bulkOp] at hbk; omega
      have HKe := Hd.mk hK0; have HR1 := Hd.mk hr1; have HJ := Hd.mk hj
      clear hK0 hr1 hr2 hr3 hj
      have htl : (l.take k).length = k := by rw [List.length_take]; omega
      have x0 : wr.cell? (ad.add (k * 7)) = some (Value.int IntKind.i64 l[k].kind) := e0 _ rfl
      have x1 : wr.cell? ⟨(ad.add (k * 7)).block, (ad.add (k * 7)).off + 1, none⟩ = some (Value.slice A1 l[k].way.length c1) := e1 0 _ rfl
      have x2 : wr.cell? ⟨(ad.add (k * 7)).block, (ad.add (k * 7)).off + 2, none⟩ = some (Value.int IntKind.i64 l[k].value.kind) := e1 1 _ rfl
      have x3 : wr.cell? ⟨(ad.add (k * 7)).block, (ad.add (k * 7)).off + 3, none⟩ = some (Value.int IntKind.i64 l[k].value.n) := e1 2 _ rfl
      have x4 : wr.cell? ⟨(ad.add (k * 7)).block, (ad.add (k * 7)).off + 4, none⟩ = some (Value.string l[k].value.s) := e1 3 _ rfl
      have x5 : wr.cell? ⟨(ad.add (k * 7)).block, (ad.add (k * 7)).off + 5, none⟩ = some (Value.slice A2 l[k].value.list.length c2) := e1 4 _ rfl
      have x6 : wr.cell? ⟨(ad.add (k * 7)).block, (ad.add (k * 7)).off + 6, none⟩ = some (Value.slice A3 l[k].value.names.length c3) := e1 5 _ rfl
      clear e0 e1
      have hB := HB
      have hBr := Hd.mk (Below.refl wr.heap.size wr)
      go_wp2_with fail
      have y_0 := cell_regrown x0
      have y_1 := cell_regrown x1
      have y_2 := cell_regrown x2
      have y_3 := cell_regrown x3
      have y_4 := cell_regrown x4
      have y_5 := cell_regrown x5
      have y_6 := cell_regrown x6
      refine region_mixT (.q 0 (.q 1 (.q 2 (.q 3 (.q 4 (.q 5 (.q 6 (.q 8 (.q 9 (.q 10 (.q 11 (.q 12 (.q 14 (.q 15 (.q 16 (.q 17 (.q 18 (.b 7 (.b 13 (.b 19 (.q 20 (.b 21 .fin)))))))))))))))))))))) [22, 23] (by kernel_rfl) (by kernel_rfl) (fun _ _ _ _ _ h => h) ?_
      refine genT ?_
      intro W1 hW
      have hS := Hd.mk (show Below wr.heap.size wr W1 by rw [hW]; exact below_drew (Below.refl _ _))
      have hz_ : wr.heap.size ≤ W1.heap.size := by rw [hW]; simp
      have hE : Below wr.heap.size wr W1 := by rw [hW]; (repeat (first | with_reducible refine below_alloc ?_ _ | with_reducible refine below_drew ?_)); exact Below.refl _ _
      have hB := Hd.mk (below_then hB.out hE)
      have hBr := Hd.mk (below_then hBr.out hE)
      clear hW hE
      have z1 := Hd.mk hz_; clear hz_
      refine mixT_q rfl ?_
      go_big_quiet_want; go_big_quiet_op; go_big_quiet_on; refine wpQuiet_nil ?_
      refine mixT_q rfl ?_
      go_big_quiet_want; go_big_quiet_op; go_big_quiet_on; refine wpQuiet_nil ?_
      refine mixT_q rfl ?_
      go_big_quiet_want; go_big_quiet_op; go_big_quiet_on; refine wpQuiet_nil ?_
      refine mixT_q rfl ?_
      go_big_quiet_want; go_big_quiet_op; go_big_quiet_on; refine wpQuiet_nil ?_
      refine mixT_q rfl ?_
      go_big_quiet_want; go_big_quiet_op; go_big_quiet_on; refine wpQuiet_nil ?_
      refine mixT_q rfl ?_
      go_big_quiet_want; go_big_quiet_op; go_big_quiet_on; refine wpQuiet_nil ?_
      refine mixT_q rfl ?_
      go_big_quiet_want; go_big_quiet_op; go_big_quiet_on; refine wpQuiet_nil ?_
      refine mixT_q rfl ?_
      go_big_quiet_want; go_big_quiet_op; go_big_quiet_on; refine wpQuiet_nil ?_
      refine mixT_q rfl ?_
      go_big_quiet_want; go_big_quiet_op; go_big_quiet_on; refine wpQuiet_nil ?_
      refine mixT_q rfl ?_
      go_big_quiet_want; go_big_quiet_op; go_big_quiet_on; refine wpQuiet_nil ?_
      refine mixT_q rfl ?_
      go_big_quiet_want; go_big_quiet_op; go_big_quiet_on; refine wpQuiet_nil ?_
      refine mixT_q rfl ?_
      go_big_quiet_want; go_big_quiet_op; go_big_quiet_on; refine wpQuiet_nil ?_
      refine mixT_q rfl ?_
      go_big_quiet_want; go_big_quiet_op; go_big_quiet_on; refine wpQuiet_nil ?_
      refine mixT_q rfl ?_
      go_big_quiet_want; go_big_quiet_op; go_big_quiet_on; refine wpQuiet_nil ?_
      refine mixT_q rfl ?_
      go_big_quiet_want; go_big_quiet_op; go_big_quiet_on; refine wpQuiet_nil ?_
      refine mixT_q rfl ?_
      go_big_quiet_want; go_big_quiet_op; go_big_quiet_on; refine wpQuiet_nil ?_
      refine mixT_q rfl ?_
      go_big_quiet_want; go_big_quiet_op; go_big_quiet_on; refine wpQuiet_nil ?_
      refine mixT_b rfl ?_ (by rfl)
      go_wp2_with fail
      refine ⟨cls_below (below_alloc hS.out _), ?_⟩
      refine genT ?_; intro W2 hW
      have hE0 := Hd.mk (show str.R 9 W2 (fun k => k = W1.heap.size) (.slice (some ⟨W1.heap.size, 0, none⟩) 1 1) [s] by rw [hW]; exact R_one' s hs rfl)
      have hz_ : W1.heap.size + 1 ≤ W2.heap.size := by rw [hW]; simp
      have hE : Below W1.heap.size W1 W2 := by rw [hW]; (repeat (first | with_reducible refine below_alloc ?_ _ | with_reducible refine below_drew ?_)); exact Below.refl _ _
      have hB := Hd.mk (below_then hB.out hE)
      have hBr := Hd.mk (below_then hBr.out hE)
      replace hS := Hd.mk (below_then hS.out hE)
      clear hW hE
      have z2 := Hd.mk hz_; clear hz_
      refine mixT_b rfl ?_ (by rfl)
      have hSz := hB.out.size
      have z1_ := z1.out; have z2_ := z2.out
      go_wp2_with (at_builtin; refine append_str rfl _ _ 51 9 (.string ByteArray.empty) 16 rfl Try.underlying51 info_str rfl (by decide) (S := fun k => k = W1.heap.size) (S' := (fun k => k = W1.heap.size ∨ W2.heap.size ≤ k)) (xs := [s]) (ys := l[k].way) rfl rfl hE0.out (C_below HR1.out hBr.out) (fun k h => Or.inl h) (fun k h => Or.inr h) (by simp; omega) (fun v1 w3 hv hX => ?_); obtain ⟨D1, d1, hve, hd1, _⟩ := R_C hv; subst hve)
      clear hE0
      have hBw := HB.out.size
      have hBr := Hd.mk (below_frS hBr.out hX (fun k h => by (try simp only at h); omega))
      have z1_ := z1.out; have z2_ := z2.out
      have hSz := hB.out.size
      replace hS := Hd.mk (below_frS hS.out hX (fun k h => by (try simp only [rng] at h); (try simp only at h); omega))
      have hB := Hd.mk (below_frS hB.out hX (fun k h => by skip; (try simp only [rng] at h); (try simp only at h); omega))
      have hz_ := hX.size
      clear hX
      have z3 := Hd.mk hz_; clear hz_
      have hO := Hd.mk (R_bound hv); clear hv
      refine ⟨cls_below hS.out, ?_⟩
      refine mixT_b rfl ?_ (by rfl)
      go_wp2_with fail
      apply calls_gen; intro W4 hW
      have hz_ : w3.heap.size ≤ W4.heap.size := by rw [hW]; simp
      have hE : Below w3.heap.size w3 W4 := by rw [hW]; (repeat (first | with_reducible refine below_alloc ?_ _ | with_reducible refine below_drew ?_)); exact Below.refl _ _
      have hB := Hd.mk (below_then hB.out hE)
      have hBr := Hd.mk (below_then hBr.out hE)
      replace hS := Hd.mk (below_then hS.out hE)
      have hO := Hd.mk (R_below hO.out hE)
      clear hW hE
      have z4 := Hd.mk hz_; clear hz_
      refine (spec_l1Copy l[k].value _ _ (Ty.K_below _ hBr.out HJ.out) hbJ).mono ?_
      rintro e w5 ⟨cs', rfl, hO2, hX⟩
      have hO := Hd.mk (R_below hO.out hX)
      have hB := Hd.mk (below_then hB.out hX)
      replace hS := Hd.mk (below_then hS.out hX)
      have hz_ := hX.size
      have hBr := Hd.mk (below_then hBr.out hX)
      clear hX
      have z5 := Hd.mk hz_; clear hz_
      obtain ⟨v3, v4, _, _, rfl, hsz3, hr3, hr4, _⟩ := tJ_O.1 hO2
      obtain ⟨D2, d2, rfl, _, _⟩ := R_C hr3
      obtain ⟨D3, d3, rfl, _, _⟩ := R_C hr4
      clear hr3 hr4
      replace hO2 := Hd.mk (show (tJ (m + 1)).O w5 (rng W4.heap.size w5.heap.size) l[k].value _ from Ty.O_bound _ hO2)
      go_wp2_with fail
      refine ⟨cls_below hS.out, ?_⟩
      refine mixT_q rfl ?_
      go_big_quiet_want; go_big_quiet_op; go_big_quiet_on; refine wpQuiet_nil ?_
      refine mixT_b rfl ?_ (by rfl)
      go_wp2_with fail
      refine ⟨cls_below (below_alloc hS.out _), ?_⟩
      refine mixT_fin ?_
      clear hS
      skip
      refine tail_b rfl ?_ (by rfl)
      have z1_ := z1.out; have z2_ := z2.out; have z3_ := z3.out; have z4_ := z4.out; have z5_ := z5.out
      have hSz := hB.out.size
      have hBw := HB.out.size
      go_wp2_with (at_builtin; refine append_oneN (tOp (m + 1)) (n := w5.heap.size) (by simp) rfl _ _ 55 94 (.agg #[.int .i64 0, .slice none 0 0, .int .i64 0, .int .i64 0, .string ByteArray.empty, .slice none 0 0, .slice none 0 0]) 112 rfl Try.underlying55 info_OpS rfl (by rw [tOp_sz]; omega) (by decide) (S := fun k => w.heap.size ≤ k ∧ k < wr.heap.size) (T := fun k => (wr.heap.size ≤ k ∧ k < w5.heap.size)) (S' := fun k => w.heap.size ≤ k) (v := vv) (xs := underL s (l.take k)) ⟨l[k].kind, s :: l[k].way, l[k].value⟩ [Value.int IntKind.i64 l[k].kind, Value.slice D1 (s :: l[k].way).length d1, Value.int IntKind.i64 l[k].value.kind, Value.int IntKind.i64 l[k].value.n, Value.string l[k].value.s, Value.slice D2 l[k].value.list.length d2, Value.slice D3 l[k].value.names.length d3] rfl rfl (R_mono (S' := fun k => w.heap.size ≤ k ∧ k < wr.heap.size) (fun k h => h) (R_below (R_bound HK.out) hBr.out)) (tOp_O.2 ⟨_, _, _, _, rfl, hO.out, hO2.out, fun k h => by have := h.2; rcases h.1 with h1 | h1 <;> (refine ⟨by omega, by omega⟩), fun k h => by have := h.1; have := h.2; refine ⟨by omega, by omega⟩, fun k h h2 => by have := h.2; have := h2.1; omega⟩) (fun k h1 hl h2 => by have := h1.1; have := h2.2; omega) (fun k h => h.1) (fun k h => by have := h.1; omega) (fun k h => by (try simp only at h); omega) (by simp only [underL, List.length_map, htl]; omega) (fun v5 w5 hv5 hf5 => ?_))
      have HV := Hd.mk hv5
      have HB5 := Hd.mk (below_frS hB.out hf5 (fun k h => h.1))
      clear hv5 hf5
      refine mixQ_n ?_
      refine tail_b rfl ?_ (by rfl)
      go_wp2_with fail
      refine mixQ_n ?_
      refine tail_nil ?_
      go_wp2_with fail
      go_roundw
      case rel => exact ⟨k + 1, _, by omega, by go_num, rfl, ⟨by have h := HV.out; rw [List.take_succ_eq_append_getElem hlt, underL_append]; exact h⟩, HB5⟩
      case measure => simp [intOf]; omega
    · obtain rfl : k = l.length := by omega
      go_wp2_with fail
      go_ret
      have := HK.out
      rw [List.take_length] at this
      exact ⟨_, rfl, this, HB.out⟩
theorem spec_Under {m : Nat} (s : ByteArray) (hs : s.size ≤ 9223372036854775807) (A : Option Addr) (c : Nat) (l : List JOp) (w : World) (hr : (tOp (m + 1)).C w A l) (hl : bulkOpS (m + 1) l ≤ 4194304) :
    Calls Try.prog 62 #[.string s, .slice A l.length c] w fun e w' => ∃ v, e = .returned v ∧ (tOp (m + 1)).R 94 w' (fun k => w.heap.size ≤ k) v (underL s l) ∧ Below w.heap.size w w' := by
  simp only [bulkOpS] at hl
  exact spec_UnderE s hs A c l w hr (by omega) (fun x hx => Nat.le_trans (bulkL_mem (bulkOp (m + 1)) hx) (Nat.le_trans (Nat.le_add_left _ _) hl))
end Go.Proofs.Ytnpogfhfjofbmaa.X
