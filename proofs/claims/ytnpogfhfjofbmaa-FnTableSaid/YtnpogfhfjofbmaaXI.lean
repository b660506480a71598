/- What is proved here: slices.Insert of one row into a row of rows of one's own, cell by cell. Conditions: none. -/
import Derived.Test.YtnpogfhfjofbmaaXV
import Derived.Lib.JoinLaws
import Derived.Lib.AppendZeros
import Derived.Lib.AppendZerosOnto
import Derived.Lib.Overlaps
import Derived.Laws.Externs
namespace Go.Proofs.Ytnpogfhfjofbmaa.X
open Go.RowKit Go.Sort Go.Lib
set_option linter.unusedVariables false
set_option linter.unusedSimpArgs false
open Ty
theorem step_copy_runJ {P : Program} {ops : Array Oper} {o : Oper} {a : Act} {w : World} {K : Act → World → Prop} {Q : Exit → Act → World → Prop} {E : Prop}
    (hg : o.guard = none) (d x : Operand) (dT sT : TypeId) (hop : o.op = Op.call { callee := Callee.builtin Builtin.copy, args := #[d, x], argTypes := #[dT, sT] })
    (v u : Value) (hd : a.eval d = v) (hx : a.eval x = u) {v' : Value} {w' : World} (hr : (Builtin.copy_ #[dT, sT] o.type #[v, u]).run P w = .ok v' w') (hK : K (a.put o.dst v') w') :
    if Region.wanted o (yielded ops a.tmps) = true then Oper.wp P o a w K Q else E := by
  have hw : Region.wanted o (yielded ops a.tmps) = true := by simp [Region.wanted, hg]
  rw [if_pos hw]
  unfold Oper.wp
  simp [execOp, hop, resolve, invoke, builtin, hd, hx, hr, Result.andThen]
  exact hK
theorem wpList_copy_runJ {P : Program} (w : World) {ops : Array Oper} {rest : List Oper} {o : Oper} {a : Act} {Q : Exit → Act → World → Prop} (hgd : o.guard = none) (d s : Operand) (t t' : TypeId)
    (ho : o.op = .call { callee := .builtin .copy, args := #[d, s], argTypes := #[t, t'] }) (v u : Value) (hd : a.eval d = v) (hs : a.eval s = u) {v' : Value} {w' : World}
    (hr : (Builtin.copy_ #[t, t'] o.type #[v, u]).run P w = .ok v' w') (h : wpList P ops Q rest (a.put o.dst v') w') : wpList P ops Q (o :: rest) a w :=
  wpList_plain hgd fun K hK => by
    unfold Oper.wp execOp
    simp only [ho, resolve, invoke, builtin, Sem.run_bind, Sem.run_pure, Result.andThen_ok, List.map_toArray, List.map_cons, List.map_nil, hd, hs, hr]
    exact hK _ _ h
theorem sizeRow : ∀ w, (Go.sizeOf 41).run Try.prog w = .ok 2 w := fun w => by
  obtain ⟨i0, hi, hzz⟩ := Option.map_eq_some_iff.1 info_RowS
  simp only [Prod.mk.injEq] at hzz
  simp [Go.sizeOf, typeInfo, hi, hzz.2.1]
theorem infoRow2 : (Try.prog.info? 41).map (·.size) = some 2 := by kernel_rfl
set_option maxHeartbeats 4000000 in
set_option maxRecDepth 100000 in
theorem slices_Insert_row_shift (g c n p vb : Nat) (cur : Array Value) (vs : List Value) (w : World) (hp : p < n) (hroom : n + 1 ≤ c) (hc63 : c ≤ 9223372036854775807) (hvb : vb ≠ g)
    (hg : w.heap[g]? = some (.cells cur 41 (0, 0))) (hcs : cur.size = c * 2) (hv : w.heap[vb]? = some (.cells vs.toArray 41 (0, 0))) (hvl : vs.length = 2)
    (h1c : ∀ k u, k < n * 2 → cur.toList[k]? = some u → u.oneCell' = true) (h1v : ∀ v ∈ vs, v.oneCell' = true) :
    Calls Try.prog 130 #[.slice (some ⟨g, 0, none⟩) n c, .int .i64 p, .slice (some ⟨vb, 0, none⟩) 1 1] w fun e w' =>
      e = .returned (.slice (some ⟨g, 0, none⟩) (n + 1) c) ∧ w' = (w.drew.setCells g ((p + 1) * 2) ((cur.toList.drop (p * 2)).take ((n - p) * 2))).setCells g (p * 2) vs := by
  obtain ⟨cs, hcsd⟩ : ∃ cs, cs = (cur.toList.drop (p * 2)).take ((n - p) * 2) := ⟨_, rfl⟩
  have hcl : cs.length = (n - p) * 2 := by rw [hcsd]; simp; omega
  have hget : ∀ t, t < (n - p) * 2 → cs[t]? = cur.toList[p * 2 + t]? := fun t ht => by rw [hcsd, List.getElem?_take, if_pos ht, List.getElem?_drop]
  have h1s : ∀ u ∈ cs, u.oneCell' = true := fun u hu => by
    obtain ⟨t, ht⟩ := List.mem_iff_getElem?.1 hu
    have ht1 : t < (n - p) * 2 := by
      have := (List.getElem?_eq_some_iff.1 ht).1
      omega
    rw [hget t ht1] at ht
    exact h1c (p * 2 + t) u (by omega) ht
  have hov : ∀ lb cb, (callFunc 171 #[.slice (some ⟨vb, 0, none⟩) 1 1, .slice (some ⟨g, (p + 1) * 2, none⟩) lb cb]).run Try.prog w = .ok (.value (.bool false)) w := fun lb cb => by
    rw [run_callFunc_extern Try.func171 (by kernel_rfl) (by kernel_rfl) (by kernel_rfl) (e := Extern.SlicesOverlaps.overlaps #[68, 68] #[4]) (by kernel_rfl),
      Lib.run_overlaps_apart w 68 4 41 (by rw [Try.underlying68]) 2 sizeRow ⟨vb, 0, none⟩ ⟨g, (p + 1) * 2, none⟩ 1 1 lb cb hvb 41 41 vs.toArray.size cur.size (by simp [World.shape?, hv]) (by simp [World.shape?, hg]) (by omega) (by simp [World.frozen?, hv]) (by simp [World.frozen?, hv])]
    rfl
  have hcp1 : ∀ ty dc sc, (Builtin.copy_ #[68, 68] ty #[.slice (some ⟨g, (p + 1) * 2, none⟩) (n - p) dc, .slice (some ⟨g, p * 2, none⟩) (n + 1 - p) sc]).run Try.prog w.drew = .ok (goInt (Nat.min (n + 1 - p) (n - p))) (w.drew.setCells g ((p + 1) * 2) cs) := fun ty dc sc =>
    run_copy_wide w.drew _ _ ty 41 2 g ((p + 1) * 2) (n - p) dc ⟨g, p * 2, none⟩ (n + 1 - p) sc cs (by rw [Try.underlying68]) infoRow2 (by rw [hcl]; simp only [Nat.min_def]; split <;> omega)
      (fun j v hj => by
        have hj1 : j < (n - p) * 2 := by
          have := (List.getElem?_eq_some_iff.1 hj).1
          omega
        rw [Addr.add_lit]
        show w.cell? _ = _
        rw [block_cell hg]
        rw [hget j hj1] at hj
        simpa using hj)
      (fun j hj => by
        show (w.cell? _).isSome = true
        rw [block_cell hg, Array.getElem?_eq_getElem (by omega)]; rfl) (fun j hj => block_frozen hg _) h1s
  obtain ⟨W1, hW1⟩ : ∃ W1, W1 = w.drew.setCells g ((p + 1) * 2) cs := ⟨_, rfl⟩
  obtain ⟨cur1, hg1, hl1⟩ := heap_setCells cs ((p + 1) * 2) w.drew cur hg (by omega)
  rw [← hW1] at hg1
  have hs1 : cur1.size = cur.size := by
    have := congrArg List.length hl1
    rw [over_length _ _ _ (by simp; omega)] at this
    simpa using this
  have hv1 : W1.heap[vb]? = some (.cells vs.toArray 41 (0, 0)) := by rw [hW1, heap_setCells_ne _ _ _ _ hvb]; exact hv
  have hcp2 : ∀ (W : World), (∀ x, W.cell? x = W1.cell? x) → (∀ x, W.frozen? x = W1.frozen? x) → ∀ ty dc, (Builtin.copy_ #[68, 68] ty #[.slice (some ⟨g, p * 2, none⟩) (n + 1 - p) dc, .slice (some ⟨vb, 0, none⟩) 1 1]).run Try.prog W = .ok (goInt (Nat.min 1 (n + 1 - p))) (W.setCells g (p * 2) vs) := fun W hWc hWf ty dc =>
    run_copy_wide W _ _ ty 41 2 g (p * 2) (n + 1 - p) dc ⟨vb, 0, none⟩ 1 1 vs (by rw [Try.underlying68]) infoRow2 (by rw [hvl]; simp only [Nat.min_def]; split <;> omega)
      (fun j v hj => by rw [add0, hWc, block_cell hv1]; simpa using hj)
      (fun j hj => by rw [hWc, block_cell hg1, Array.getElem?_eq_getElem (by omega)]; rfl) (fun j hj => by rw [hWf]; exact block_frozen hg1 _) h1v
  have hcp1' := Hd.mk hcp1; have hcp2' := Hd.mk hcp2
  rw [← hW1] at hcp1
  have HW1 := Hd.mk hW1; have HCS := Hd.mk hcsd
  have hz2 : ¬ ((p : Int) = (n : Int)) := by omega
  have mixed : Try.prog.follows .mixedOrders = true := by kernel_rfl
  have hb1 : (0 : Int) ≤ (p : Int) + 1 := by omega
  have hin : p ≤ n := by omega
  have hpc : p ≤ c := by omega
  have hb3 : (p : Int) ≤ (n : Int) + 1 := by omega
  have hb2 : ¬ (c = p + 1) := by omega
  have hw1 : IntKind.i64.wrap ((p : Int) + 1) = (p : Int) + 1 := by rw [IntKind.wrap_i64]; omega
  have htn : ((p : Int) + 1).toNat = p + 1 := by omega
  have hb5 : (p : Int) + 1 ≤ (n : Int) + 1 := by omega
  have hb4 : ¬ (c = p) := by omega
  clear hW1 hcsd hg1 hl1 hs1 hv1 hget h1s hcl hg hv hcp1' h1c h1v hcs hvl
  go_enter Try.func130, Try.ntmps130
  go_wp2_with (simp only [hov])
  go_region_law_o (refine step_copy_runJ rfl _ _ 68 68 rfl _ _ (by simp [Act.eval, Act.put]) (by simp [Act.eval, Act.put]) (hcp1 _ _ _) ?_)
  go_wp2_with (at_builtin; refine wpList_copy_runJ _ rfl _ _ 68 68 rfl _ _ rfl rfl (hcp2'.out _ (fun _ => rfl) (fun _ => rfl) _ _) ?_)
  go_ret
  first | exact ⟨rfl, by rw [HW1.out, HCS.out]⟩ | exact ⟨rfl, by rw [← HCS.out, ← HW1.out]⟩
set_option maxHeartbeats 4000000 in
set_option maxRecDepth 100000 in
theorem slices_Insert_row_end {S S' T : Nat → Prop} (v : Value) (l : List Row) (x : Row) (cs : List Value) (vb : Nat) (w : World) (hR : tRow.R 41 w S v l) (hv : w.heap[vb]? = some (.cells cs.toArray 41 (0, 0))) (hO : tRow.O w T x cs)
    (hST : ∀ k, T k → ¬ S k) (hS : ∀ k, S k → S' k) (hT : ∀ k, T k → S' k) (hnew : ∀ k, w.heap.size ≤ k → S' k) (hlen : l.length ≤ 4194304) :
    Calls Try.prog 130 #[v, .int .i64 l.length, .slice (some ⟨vb, 0, none⟩) 1 1] w fun e w' => ∃ v', e = .returned v' ∧ tRow.R 41 w' S' v' (l ++ [x]) ∧ Fr w w' S := by
  have hcl : cs.length = 2 := tRow.K_len (tRow.O_K hO)
  have HR := Hd.mk hR
  have HO := Hd.mk hO; have HST := Hd.mk hST
  have hc : Hd (∀ j u, cs[j]? = some u → ∃ ad, (some (⟨vb, 0, none⟩ : Addr)) = some ad ∧ w.cell? (ad.add j) = some u) := ⟨fun j u hu => ⟨_, rfl, by rw [add0, block_cell hv]; simpa using hu⟩⟩
  have H1 := Hd.mk (tRow.K_one (tRow.O_K hO))
  have HOO : Hd (∀ i y, [x][i]? = some y → tRow.O w ((fun i k => i = 0 ∧ T k) i) y ((cs.drop (i * tRow.sz)).take tRow.sz)) := ⟨fun i y hi => by
    rcases i with _ | i
    · simp at hi
      subst hi
      have he : (cs.drop (0 * tRow.sz)).take tRow.sz = cs := by rw [Nat.zero_mul, List.drop_zero, List.take_of_length_le (by rw [hcl]; exact Nat.le_refl 2)]
      rw [he]
      exact tRow.O_mono (fun k hk => ⟨rfl, hk⟩) hO
    · simp at hi⟩
  have HL := Hd.mk (show cs.length = 1 * tRow.sz from hcl)
  have hform : (v = .slice none 0 0 ∧ l.length = 0) ∨ ∃ g c, v = .slice (some ⟨g, 0, none⟩) l.length c ∧ l.length ≤ c ∧ c ≤ 9223372036854775807 := by
    obtain ⟨inner, f, ⟨_, ho⟩, _, _⟩ := hR
    rcases ho with ⟨h1, h2⟩ | ⟨g, cap, cur, h1, _, _, h2, h3, _⟩
    · exact .inl ⟨h1, h2⟩
    · simp only [maxLen] at h3
      exact .inr ⟨g, cap, h1, h2, by omega⟩
  clear hR hv hO hcl
  rcases hform with ⟨rfl, h0⟩ | ⟨g, c, rfl, h1, h2⟩
  · obtain rfl : l = [] := List.eq_nil_of_length_eq_zero h0
    go_enter Try.func130, Try.ntmps130
    go_wp2_with (at_builtin; refine append_gen tRow rfl _ _ 68 41 (.agg #[.int .i64 0, .slice none 0 0]) 32 rfl Try.underlying68 info_RowS rfl (by decide) (by decide) (S := S) (S' := S') (v := .slice none 0 0) (xs := []) (ys := [x]) (fun i k => i = 0 ∧ T k) (some ⟨vb, 0, none⟩) 1 1 cs rfl rfl HR.out rfl HL.out hc.out H1.out HOO.out (fun i j k h1 h2 => by rw [h1.1, h2.1]) (fun i k h => HST.out k h.2) hS (fun i k h => hT k h.2) hnew (by simp) (fun v1 w1 hv1 hf1 => ?_))
    go_wp2_with fail
    go_ret
    exact ⟨_, rfl, hv1, hf1⟩
  · go_enter Try.func130, Try.ntmps130
    go_wp2_with (at_builtin; refine append_gen tRow rfl _ _ 68 41 (.agg #[.int .i64 0, .slice none 0 0]) 32 rfl Try.underlying68 info_RowS rfl (by decide) (by decide) (S := S) (S' := S') (v := .slice (some ⟨g, 0, none⟩) l.length c) (xs := l) (ys := [x]) (fun i k => i = 0 ∧ T k) (some ⟨vb, 0, none⟩) 1 1 cs rfl rfl HR.out rfl HL.out hc.out H1.out HOO.out (fun i j k h1 h2 => by rw [h1.1, h2.1]) (fun i k h => HST.out k h.2) hS (fun i k h => hT k h.2) hnew (by omega) (fun v1 w1 hv1 hf1 => ?_))
    all_goals (try go_wp2_with fail)
    all_goals (go_ret; exact ⟨_, rfl, hv1, hf1⟩)
set_option maxHeartbeats 4000000 in
set_option maxRecDepth 100000 in
theorem slices_Insert_row_grow (g c n p vb : Nat) (cur : Array Value) (vs : List Value) (w : World) (hp : p < n) (hnc : n ≤ c) (hroom : c < n + 1) (hbig : n ≤ 4194304)
    (hg : w.heap[g]? = some (.cells cur 41 (0, 0))) (hcs : cur.size = c * 2) (hv : w.heap[vb]? = some (.cells vs.toArray 41 (0, 0))) (hvl : vs.length = 2)
    (h1c : ∀ k u, k < n * 2 → cur.toList[k]? = some u → u.oneCell' = true) (h1v : ∀ v ∈ vs, v.oneCell' = true) :
    Calls Try.prog 130 #[.slice (some ⟨g, 0, none⟩) n c, .int .i64 p, .slice (some ⟨vb, 0, none⟩) 1 1] w fun e w' =>
      ∃ (G : Nat) (ROW : Array Value), n + 1 ≤ G ∧ G ≤ 9223372036854775807 ∧ ROW.size = G * 2 ∧ ROW.toList.take (p * 2) = cur.toList.take (p * 2) ∧
      e = .returned (.slice (some ⟨w.heap.size, 0, none⟩) (n + 1) G) ∧ w' = (((w.alloc (.cells ROW 41)).drew.setCells w.heap.size (p * 2) vs).drew).setCells w.heap.size ((p + 1) * 2) ((cur.toList.drop (p * 2)).take ((n - p) * 2)) := by
  obtain ⟨cs, hcsd⟩ : ∃ cs, cs = (cur.toList.drop (p * 2)).take ((n - p) * 2) := ⟨_, rfl⟩
  have hcl : cs.length = (n - p) * 2 := by rw [hcsd]; simp; omega
  have hget : ∀ t, t < (n - p) * 2 → cs[t]? = cur.toList[p * 2 + t]? := fun t ht => by rw [hcsd, List.getElem?_take, if_pos ht, List.getElem?_drop]
  have h1s : ∀ u ∈ cs, u.oneCell' = true := fun u hu => by
    obtain ⟨t, ht⟩ := List.mem_iff_getElem?.1 hu
    have ht1 : t < (n - p) * 2 := by
      have := (List.getElem?_eq_some_iff.1 ht).1
      omega
    rw [hget t ht1] at ht
    exact h1c (p * 2 + t) u (by omega) ht
  have hgw : g < w.heap.size := (Array.getElem?_eq_some_iff.1 hg).1
  have hvw : vb < w.heap.size := (Array.getElem?_eq_some_iff.1 hv).1
  obtain ⟨i0, hif, hzz⟩ := Option.map_eq_some_iff.1 info_RowS
  simp only [Prod.mk.injEq] at hzz
  obtain ⟨hz0, hz1, hz2⟩ := hzz
  have hold : (Builtin.firstCells i0.size p (.slice (some ⟨g, 0, none⟩) p c)).run Try.prog w.drew = .ok (cur.toList.take (p * 2)).toArray w.drew := by
    rw [hz1]
    exact run_firstCells_some w.drew 2 p ⟨g, 0, none⟩ p c (cur.toList.take (p * 2)) (by simp; omega) (fun j v hj => by
      rw [add0]
      show w.cell? _ = _
      rw [block_cell hg]
      rw [List.getElem?_take] at hj
      split at hj
      · simpa using hj
      · cases hj)
  obtain ⟨G, hG⟩ : ∃ G, G = grownCap w (n + 1) c 41 := ⟨_, rfl⟩
  obtain ⟨ROW, hROW⟩ : ∃ ROW : Array Value, ROW = (cur.toList.take (p * 2)).toArray ++ Builtin.zeroCells (Value.agg #[.int .i64 0, .slice none 0 0]).cells (n + 1 - p) ++ Builtin.zeroCells (Value.agg #[.int .i64 0, .slice none 0 0]).cells (G - (n + 1)) := ⟨_, rfl⟩
  have hGn : n + 1 ≤ G := by rw [hG]; exact grownCap_ge w _ _ _
  have hG63 : G ≤ 9223372036854775807 := by
    have := grownCap_le_maxLen w (n + 1) c 41 (by unfold maxLen; omega)
    rw [← hG] at this
    unfold maxLen at this
    omega
  have hRsz : ROW.size = G * 2 := by
    rw [hROW]
    simp [Builtin.zeroCells, Value.cells]
    omega
  have hRtk : ROW.toList.take (p * 2) = cur.toList.take (p * 2) := by
    rw [hROW]
    simp only [Array.toList_append, List.append_assoc]
    rw [List.take_append_of_le_length (by simp; omega), List.take_of_length_le (by simp; omega)]
  have hrz : ∀ ty, (Builtin.append_ #[68, 3] ty #[.slice (some ⟨g, 0, none⟩) p c, .int .i64 ((n : Int) + 1 - (p : Int))]).run Try.prog w =
      .ok (.slice (some ⟨w.heap.size, 0, none⟩) (n + 1) G) (w.drew.alloc (.cells ROW 41)) := fun ty => by
    have h := Lib.run_append_grow_zeros (P := Try.prog) w 68 3 ty 41 i0 _ .i64 .i64 (by rw [Try.underlying68]) (by rw [Try.underlying3]) hif hz0 (some ⟨g, 0, none⟩) p c (cur.toList.take (p * 2)) hold (n + 1 - p) (by omega) (by omega) (by omega) (by omega) (by rw [hz2]; omega) (by rw [hz2, show p + (n + 1 - p) = n + 1 by omega]; exact growslice_fits hroom (by omega))
    rw [show p + (n + 1 - p) = n + 1 by omega, ← hG, ← hROW] at h
    rw [show (n : Int) + 1 - (p : Int) = ((n + 1 - p : Nat) : Int) by omega]
    exact h
  obtain ⟨W1, hW1⟩ : ∃ W1, W1 = w.drew.alloc (.cells ROW 41) := ⟨_, rfl⟩
  have hN : W1.heap[w.heap.size]? = some (.cells ROW 41 (0, 0)) := by rw [hW1]; exact heap_alloc_new w.drew _
  have hOb : ∀ k, k < w.heap.size → W1.heap[k]? = w.heap[k]? := fun k hk => by rw [hW1]; exact (below_alloc (Below.refl w.drew.heap.size w.drew) _).block k hk
  rw [← hW1] at hrz
  have hcpA : ∀ (W : World), (∀ x, W.cell? x = W1.cell? x) → (∀ x, W.frozen? x = W1.frozen? x) → ∀ ty dc, (Builtin.copy_ #[68, 68] ty #[.slice (some ⟨w.heap.size, p * 2, none⟩) (n + 1 - p) dc, .slice (some ⟨vb, 0, none⟩) 1 1]).run Try.prog W = .ok (goInt (Nat.min 1 (n + 1 - p))) (W.setCells w.heap.size (p * 2) vs) := fun W hWc hWf ty dc =>
    run_copy_wide W _ _ ty 41 2 w.heap.size (p * 2) (n + 1 - p) dc ⟨vb, 0, none⟩ 1 1 vs (by rw [Try.underlying68]) infoRow2 (by rw [hvl]; simp only [Nat.min_def]; split <;> omega)
      (fun j v hj => by rw [add0, hWc, block_cell (by rw [hOb vb hvw]; exact hv)]; simpa using hj)
      (fun j hj => by rw [hWc, block_cell hN, Array.getElem?_eq_getElem (by omega)]; rfl) (fun j hj => by rw [hWf]; exact block_frozen hN _) h1v
  obtain ⟨W2, hW2⟩ : ∃ W2, W2 = W1.setCells w.heap.size (p * 2) vs := ⟨_, rfl⟩
  obtain ⟨ROW2, hN2, hl2⟩ := heap_setCells vs (p * 2) W1 ROW hN (by omega)
  rw [← hW2] at hN2
  have hsz2 : ROW2.size = ROW.size := by
    have := congrArg List.length hl2
    rw [over_length _ _ _ (by simp; omega)] at this
    simpa using this
  have hOb2 : W2.heap[g]? = some (.cells cur 41 (0, 0)) := by rw [hW2, heap_setCells_ne _ _ _ _ (by omega), hOb g hgw]; exact hg
  have hcpB : ∀ (W : World), (∀ x, W.cell? x = W2.cell? x) → (∀ x, W.frozen? x = W2.frozen? x) → ∀ ty dc sc, (Builtin.copy_ #[68, 68] ty #[.slice (some ⟨w.heap.size, (p + 1) * 2, none⟩) (n - p) dc, .slice (some ⟨g, p * 2, none⟩) (n - p) sc]).run Try.prog W = .ok (goInt (Nat.min (n - p) (n - p))) (W.setCells w.heap.size ((p + 1) * 2) cs) := fun W hWc hWf ty dc sc =>
    run_copy_wide W _ _ ty 41 2 w.heap.size ((p + 1) * 2) (n - p) dc ⟨g, p * 2, none⟩ (n - p) sc cs (by rw [Try.underlying68]) infoRow2 (by rw [hcl]; simp only [Nat.min_def]; split <;> omega)
      (fun j v hj => by
        have hj1 : j < (n - p) * 2 := by
          have := (List.getElem?_eq_some_iff.1 hj).1
          omega
        rw [Addr.add_lit, hWc, block_cell hOb2]
        rw [hget j hj1] at hj
        simpa using hj)
      (fun j hj => by rw [hWc, block_cell hN2, Array.getElem?_eq_getElem (by omega)]; rfl) (fun j hj => by rw [hWf]; exact block_frozen hN2 _) h1s
  have HA := Hd.mk hcpA; have HB := Hd.mk hcpB; have HZ := Hd.mk hrz; have HW1 := Hd.mk hW1; have HW2 := Hd.mk hW2; have HCS := Hd.mk hcsd
  have HRs := Hd.mk hRsz; have HRt := Hd.mk hRtk; have HGn := Hd.mk hGn; have HG63 := Hd.mk hG63
  have hz2' : ¬ ((p : Int) = (n : Int)) := by omega
  have hz3 : (c : Int) < (n : Int) + 1 := by omega
  have mixed : Try.prog.follows .mixedOrders = true := by kernel_rfl
  have hb1 : (0 : Int) ≤ (p : Int) + 1 := by omega
  have hin : p ≤ n := by omega
  have hpc : p ≤ c := by omega
  have hb3 : (p : Int) ≤ (n : Int) := by omega
  have hb2 : ¬ (G = p + 1) := by omega
  have hb4 : ¬ (c = p) := by omega
  have hb6 : ¬ (G = p) := by omega
  have hw1 : IntKind.i64.wrap ((p : Int) + 1) = (p : Int) + 1 := by rw [IntKind.wrap_i64]; omega
  have htn : ((p : Int) + 1).toNat = p + 1 := by omega
  have hb5 : (p : Int) + 1 ≤ (n : Int) + 1 := by omega
  have hE1 : ∀ x, ((w.alloc (.cells ROW 41)).drew).cell? x = W1.cell? x := fun x => by rw [hW1]; rfl
  have hE2 : ∀ x, ((w.alloc (.cells ROW 41)).drew).frozen? x = W1.frozen? x := fun x => by rw [hW1]; rfl
  clear hW1 hW2 hcsd hget h1s hcl hg hv h1c h1v hcs hvl hif hz0 hz1 hz2 hold hG hROW hRsz hRtk hN hOb hrz hcpA hcpB hN2 hl2 hsz2 hOb2 hgw hvw
  go_enter Try.func130, Try.ntmps130
  have hA : ∀ ty dc, (Builtin.copy_ #[68, 68] ty #[.slice (some ⟨w.heap.size, p * 2, none⟩) (n + 1 - p) dc, .slice (some ⟨vb, 0, none⟩) 1 1]).run Try.prog W1 = .ok (goInt (Nat.min 1 (n + 1 - p))) W2 := fun ty dc => by rw [HW2.out]; exact HA.out W1 (fun _ => rfl) (fun _ => rfl) ty dc
  go_wp2_with (at_builtin; refine Lib.wpList_append_run _ rfl _ _ _ _ rfl _ _ rfl rfl _ _ (HZ.out _) ?_)
  have hB2 := HB.out W2.drew (fun _ => rfl) (fun _ => rfl)
  go_region
  go_wp2
  go_ret
  refine ⟨G, ROW, HGn.out, HG63.out, HRs.out, HRt.out, rfl, ?_⟩
  rw [HW2.out, HW1.out, HCS.out]
  rfl
theorem ins_get {α : Type} (l : List α) (x : α) (p i : Nat) (hp : p ≤ l.length) : (l.take p ++ x :: l.drop p)[i]? = if i < p then l[i]? else if i = p then some x else l[i - 1]? := by
  have h1 : (l.take p).length = p := by simp; omega
  by_cases h : i < p
  · rw [if_pos h, List.getElem?_append_left (by omega), List.getElem?_take, if_pos h]
  · rw [if_neg h, List.getElem?_append_right (by omega), h1]
    by_cases h2 : i = p
    · subst h2
      rw [if_pos rfl, Nat.sub_self]; rfl
    · rw [if_neg h2, show i - p = (i - p - 1) + 1 by omega, List.getElem?_cons_succ, List.getElem?_drop]
      congr 1; omega
/-- The row behind the insertion, read off its block. -/
theorem R_inserted {S S' T : Nat → Prop} {w W : World} {g0 g c c' p : Nat} {l : List Row} {x : Row} {cs : List Value} {cur cur2 : Array Value} {Tp : Nat → Nat → Prop} (hp : p < l.length) (hcl : cs.length = 2)
    (hb : W.heap[g]? = some (.cells cur2 41 (0, 0))) (hg : S' g) (hn : l.length + 1 ≤ c') (hm : c' ≤ 9223372036854775807) (hc : cur2.size = c' * 2)
    (hT : ∀ i b, Tp i b → S b ∧ b ≠ g ∧ b < w.heap.size) (hd : ∀ i j b, Tp i b → Tp j b → i = j) (hO : ∀ i x, l[i]? = some x → tRow.O w (Tp i) x ((cur.toList.drop (i * 2)).take 2))
    (hx : tRow.O w T x cs) (hST : ∀ k, T k → ¬ S k) (hTg : ∀ k, T k → k ≠ g) (hS : ∀ k, S k → S' k) (hTS : ∀ k, T k → S' k) (hmv : ∀ k, k < w.heap.size → k ≠ g → W.heap[k]? = w.heap[k]?)
    (h1 : ∀ k, k < p * 2 → cur2.toList[k]? = cur.toList[k]?) (h2 : ∀ k, k < 2 → cur2.toList[p * 2 + k]? = cs[k]?) (h3 : ∀ k, k < (l.length - p) * 2 → cur2.toList[(p + 1) * 2 + k]? = cur.toList[p * 2 + k]?) :
    tRow.R 41 W S' (.slice (some ⟨g, 0, none⟩) (l.length + 1) c') (l.take p ++ x :: l.drop p) := by
  have hlen : (l.take p ++ x :: l.drop p).length = l.length + 1 := by simp; omega
  have h := R_of_parts (d := tRow) (e := 41) (w := W) (S := S') (xs := l.take p ++ x :: l.drop p) (cap := c') hb hg (by omega) hm hc (fun i => if i < p then Tp i else if i = p then (fun k => T k ∧ k < w.heap.size) else Tp (i - 1)) (fun i b hi => ?_) (fun i j b hi hj => ?_) (fun i y hy => ?_)
  · rw [hlen] at h; exact h
  · by_cases c1 : i < p
    · simp only [if_pos c1] at hi; exact ⟨hS _ (hT _ _ hi).1, (hT _ _ hi).2.1⟩
    · by_cases c2 : i = p
      · simp only [if_neg c1, if_pos c2] at hi; exact ⟨hTS _ hi.1, hTg _ hi.1⟩
      · simp only [if_neg c1, if_neg c2] at hi; exact ⟨hS _ (hT _ _ hi).1, (hT _ _ hi).2.1⟩
  · by_cases c1 : i < p <;> by_cases d1 : j < p
    · simp only [if_pos c1, if_pos d1] at hi hj; exact hd _ _ _ hi hj
    · by_cases d2 : j = p
      · simp only [if_pos c1, if_neg d1, if_pos d2] at hi hj; exact absurd (hT _ _ hi).1 (hST _ hj.1)
      · simp only [if_pos c1, if_neg d1, if_neg d2] at hi hj; have := hd _ _ _ hi hj; omega
    · by_cases c2 : i = p
      · simp only [if_neg c1, if_pos c2, if_pos d1] at hi hj; exact absurd (hT _ _ hj).1 (hST _ hi.1)
      · simp only [if_neg c1, if_neg c2, if_pos d1] at hi hj; have := hd _ _ _ hi hj; omega
    · by_cases c2 : i = p <;> by_cases d2 : j = p
      · omega
      · simp only [if_neg c1, if_pos c2, if_neg d1, if_neg d2] at hi hj; exact absurd (hT _ _ hj).1 (hST _ hi.1)
      · simp only [if_neg c1, if_neg c2, if_neg d1, if_pos d2] at hi hj; exact absurd (hT _ _ hi).1 (hST _ hj.1)
      · simp only [if_neg c1, if_neg c2, if_neg d1, if_neg d2] at hi hj; have := hd _ _ _ hi hj; omega
  · have hil : i < l.length + 1 := by rw [← hlen]; exact (List.getElem?_eq_some_iff.1 hy).1
    rw [ins_get _ _ _ _ (by omega)] at hy
    show tRow.O W _ y ((cur2.toList.drop (i * 2)).take 2)
    by_cases c1 : i < p
    · rw [if_pos c1] at hy
      simp only [if_pos c1]
      rw [cut_eq cur2.toList cur.toList (i * 2) (i * 2) 2 (fun k hk => h1 _ (by omega))]
      exact tRow.O_move (fun k hk => hmv k (hT _ _ hk).2.2 (hT _ _ hk).2.1) (hO i y hy)
    · by_cases c2 : i = p
      · rw [if_neg c1, if_pos c2] at hy
        injection hy with hy
        subst hy
        simp only [if_neg c1, if_pos c2]
        rw [cut_eq cur2.toList cs (i * 2) 0 2 (fun k hk => by rw [c2, h2 k hk, Nat.zero_add]), List.drop_zero, List.take_of_length_le (by omega)]
        exact tRow.O_move (fun k hk => hmv k hk.2 (hTg _ hk.1)) (tRow.O_bound hx)
      · rw [if_neg c1, if_neg c2] at hy
        simp only [if_neg c1, if_neg c2]
        rw [cut_eq cur2.toList cur.toList (i * 2) ((i - 1) * 2) 2 (fun k hk => by
          have := h3 ((i - 1 - p) * 2 + k) (by omega)
          rw [show (p + 1) * 2 + ((i - 1 - p) * 2 + k) = i * 2 + k by omega, show p * 2 + ((i - 1 - p) * 2 + k) = (i - 1) * 2 + k by omega] at this
          exact this)]
        exact tRow.O_move (fun k hk => hmv k (hT _ _ hk).2.2 (hT _ _ hk).2.1) (hO (i - 1) y hy)
theorem slices_Insert_row {S S' T : Nat → Prop} (v : Value) (l : List Row) (x : Row) (cs : List Value) (vb p : Nat) (w : World) (hR : tRow.R 41 w S v l) (hp : p ≤ l.length) (hv : w.heap[vb]? = some (.cells cs.toArray 41 (0, 0))) (hO : tRow.O w T x cs)
    (hST : ∀ k, T k → ¬ S k) (hvS : ¬ S vb) (hS : ∀ k, S k → S' k) (hT : ∀ k, T k → k < w.heap.size ∧ S' k) (hnew : ∀ k, w.heap.size ≤ k → S' k) (hlen : l.length ≤ 4194304) :
    Calls Try.prog 130 #[v, .int .i64 p, .slice (some ⟨vb, 0, none⟩) 1 1] w fun e w' => ∃ v', e = .returned v' ∧ tRow.R 41 w' S' v' (l.take p ++ x :: l.drop p) ∧ Fr w w' S := by
  rcases Nat.lt_or_ge p l.length with hp1 | hp1
  · obtain ⟨g, c, rfl, _, _⟩ := R_form hR (by omega)
    obtain ⟨cur, Tp, hh, hg, _, hn, hm, hsz, hTp, hd, hE⟩ := R_parts hR
    have hsz : cur.size = c * 2 := hsz
    have hE : ∀ i x, l[i]? = some x → tRow.O w (Tp i) x ((cur.toList.drop (i * 2)).take 2) := hE
    have hcl : cs.length = 2 := tRow.K_len (tRow.O_K hO)
    have hgw : g < w.heap.size := (Array.getElem?_eq_some_iff.1 hh).1
    have hvg : vb ≠ g := fun e => hvS (e ▸ hg)
    have h1c : ∀ k u, k < l.length * 2 → cur.toList[k]? = some u → u.oneCell' = true := fun k u hk hu => parts_one (d := tRow) (T := Tp) (xs := l) hE hk hu
    have h1v := tRow.K_one (tRow.O_K hO)
    have hTg : ∀ k, T k → k ≠ g := fun k hk e => hST k hk (e ▸ hg)
    have hAl : ((cur.toList.drop (p * 2)).take ((l.length - p) * 2)).length = (l.length - p) * 2 := by simp; omega
    by_cases hroom : l.length + 1 ≤ c
    · refine (slices_Insert_row_shift g c l.length p vb cur cs w hp1 hroom hm hvg hh hsz hv hcl h1c h1v).mono ?_
      rintro e w' ⟨rfl, rfl⟩
      obtain ⟨cur1, hb1, hl1⟩ := heap_setCells ((cur.toList.drop (p * 2)).take ((l.length - p) * 2)) ((p + 1) * 2) w.drew cur hh (by rw [hAl]; omega)
      have hz1 : cur1.size = cur.size := by
        have := congrArg List.length hl1
        rw [over_length _ _ _ (by rw [hAl]; simp; omega)] at this
        simpa using this
      obtain ⟨cur2, hb2, hl2⟩ := heap_setCells cs (p * 2) _ cur1 hb1 (by omega)
      have hz2 : cur2.size = cur1.size := by
        have := congrArg List.length hl2
        rw [over_length _ _ _ (by simp; omega)] at this
        simpa using this
      refine ⟨_, rfl, R_inserted (cur := cur) (w := w) (S := S) (T := T) (g0 := g) (c := c) hp1 hcl hb2 (hS _ hg) hroom hm (by omega) hTp hd hE hO hST hTg hS (fun k hk => (hT k hk).2) (fun k hk hne => ?_) (fun k hk => ?_) (fun k hk => ?_) (fun k hk => ?_), ?_⟩
      · rw [heap_setCells_ne _ _ _ _ hne, heap_setCells_ne _ _ _ _ hne]; rfl
      · rw [hl2, over_get _ _ _ (by simp; omega), if_neg (by omega), hl1, over_get _ _ _ (by rw [hAl]; simp; omega), if_neg (by omega)]
      · rw [hl2, over_get _ _ _ (by simp; omega), if_pos (by omega)]; congr 1; omega
      · rw [hl2, over_get _ _ _ (by simp; omega), if_neg (by omega), hl1, over_get _ _ _ (by rw [hAl]; simp; omega), if_pos (by rw [hAl]; omega), List.getElem?_take, if_pos (by omega), List.getElem?_drop]
        congr 1; omega
      · exact setCells_fr (fun _ => hg) _ _ _ (setCells_fr (fun _ => hg) _ _ _ (Fr.refl w S).drew)
    · refine (slices_Insert_row_grow g c l.length p vb cur cs w hp1 hn (by omega) hlen hh hsz hv hcl h1c h1v).mono ?_
      rintro e w' ⟨G, ROW, hG, hG63, hRs, hRt, rfl, rfl⟩
      have hbA : ((w.alloc (.cells ROW 41)).drew).heap[w.heap.size]? = some (.cells ROW 41 (0, 0)) := heap_alloc_new w _
      obtain ⟨cur1, hb1, hl1⟩ := heap_setCells cs (p * 2) _ ROW hbA (by omega)
      have hz1 : cur1.size = ROW.size := by
        have := congrArg List.length hl1
        rw [over_length _ _ _ (by simp; omega)] at this
        simpa using this
      obtain ⟨cur2, hb2, hl2⟩ := heap_setCells ((cur.toList.drop (p * 2)).take ((l.length - p) * 2)) ((p + 1) * 2) (((w.alloc (.cells ROW 41)).drew.setCells w.heap.size (p * 2) cs).drew) cur1 hb1 (by rw [hAl]; omega)
      have hz2 : cur2.size = cur1.size := by
        have := congrArg List.length hl2
        rw [over_length _ _ _ (by rw [hAl]; simp; omega)] at this
        simpa using this
      refine ⟨_, rfl, R_inserted (cur := cur) (w := w) (S := S) (T := T) (g0 := g) (c := c) hp1 hcl hb2 (hnew _ (Nat.le_refl _)) hG hG63 (by omega) (fun i b hb => ⟨(hTp i b hb).1, by have := (hTp i b hb).2.2; omega, (hTp i b hb).2.2⟩) hd hE hO hST (fun k hk => by have := (hT k hk).1; omega) hS (fun k hk => (hT k hk).2) (fun k hk hne => ?_) (fun k hk => ?_) (fun k hk => ?_) (fun k hk => ?_), ?_⟩
      · rw [heap_setCells_ne _ _ _ _ hne]
        show ((w.alloc (.cells ROW 41)).drew.setCells w.heap.size (p * 2) cs).heap[k]? = _
        rw [heap_setCells_ne _ _ _ _ hne]
        exact (below_alloc (Below.refl w.heap.size w) _).block k hk
      · rw [hl2, over_get _ _ _ (by rw [hAl]; simp; omega), if_neg (by omega), hl1, over_get _ _ _ (by simp; omega), if_neg (by omega)]
        have := congrArg (fun z : List Value => z[k]?) hRt
        simpa [List.getElem?_take, hk] using this
      · rw [hl2, over_get _ _ _ (by rw [hAl]; simp; omega), if_neg (by omega), hl1, over_get _ _ _ (by simp; omega), if_pos (by omega)]; congr 1; omega
      · rw [hl2, over_get _ _ _ (by rw [hAl]; simp; omega), if_pos (by rw [hAl]; omega), List.getElem?_take, if_pos (by omega), List.getElem?_drop]
        congr 1; omega
      · refine setCells_fr (fun h => absurd h (Nat.lt_irrefl _)) _ _ _ (Fr.drew (setCells_fr (fun h => absurd h (Nat.lt_irrefl _)) _ _ _ (((Fr.refl w S).alloc _).drew)))
  · obtain rfl : p = l.length := by omega
    refine (slices_Insert_row_end (S' := S') v l x cs vb w hR hv hO hST hS (fun k hk => (hT k hk).2) hnew hlen).mono ?_
    rintro e w' ⟨v', rfl, h1, h2⟩
    exact ⟨v', rfl, by rw [List.take_length, List.drop_length]; exact h1, h2⟩
end Go.Proofs.Ytnpogfhfjofbmaa.X
