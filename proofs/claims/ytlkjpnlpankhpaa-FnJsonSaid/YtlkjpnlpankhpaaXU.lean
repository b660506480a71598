/- What is proved here: a region that draws its order and ends with one operation that writes: one order, readers first, serves every order. Conditions: none. -/
import Derived.Test.YtlkjpnlpankhpaaX1
namespace Go.Proofs.Ytlkjpnlpankhpaa.X
open Go.RowKit Go.Sort Go.Proofs.YtlkjpnlpankhpaaW.PrintLast
set_option linter.unusedVariables false
set_option linter.unusedSimpArgs false
section
variable {P : Program} {ops : Array Oper} {Q : Exit → Act → World → Prop} {C : World → Prop} {d : Nat}
theorem mixQ_n {next : Act → World → Prop} {a : Act} {w : World} (h : next a w) : mixQ next Q .normal a w := h
theorem wp_gen {c : Code} {a : Act} {w : World} (h : ∀ W, W = w → c.wp P Q a W) : c.wp P Q a w := h w rfl
theorem exit_gen {Q : Exit → Act → World → Prop} {e : Exit} {a : Act} {w : World} (h : ∀ W, W = w → Q e a W) : Q e a w := h w rfl
/-- One order that serves, short of operation d, which comes last and may write. -/
def mixEB (ops : Array Oper) (d : Nat) : Array Bool → List (Bool × Nat) → Bool
  | l, [] => Region.ready .any ops l == [d] && Region.ready .any ops (l.setIfInBounds d true) == []
  | l, (true, i) :: r => (ops[i]?.map (fun o => readsB o.op && o.dst.isSome)).getD false && Region.noSelect ops && Region.free .any ops l i && (Region.ready .any ops l).contains i && Region.closedB .any ops l && Region.lastB .any ops l [d] i && mixEB ops d (l.setIfInBounds i true) r
  | l, (false, i) :: r => (Region.ready .any ops l == [i]) && !([d].contains i) && mixEB ops d (l.setIfInBounds i true) r
/-- What is to be shown, in that order. -/
def wpMixE (P : Program) (ops : Array Oper) (C : World → Prop) (Q : Exit → Act → World → Prop) (d : Nat) : List (Bool × Nat) → Act → World → Prop
  | [], a, w => ∀ o, ops[d]? = some o → if Region.wanted o (yielded ops a.tmps) then Oper.wp P o a w (fun a' w' => Q .normal a' w') Q else Q .normal (a.put o.dst undef) w
  | (true, i) :: r, a, w => ∀ o, ops[i]? = some o → wpQuiet P ops C (fun a' => wpMixE P ops C Q d r a' w) [o] a
  | (false, i) :: r, a, w => ∀ o, ops[i]? = some o → if Region.wanted o (yielded ops a.tmps) then Oper.wp P o a w (fun a' w' => C w' ∧ wpMixE P ops C Q d r a' w') Q else wpMixE P ops C Q d r (a.put o.dst undef) w
theorem mixE_last (hQ : ∀ c a n v w, Q (.panic c) (a.put (some n) v) w → Q (.panic c) a w) : ∀ (r : List (Bool × Nat)) (l : Array Bool) (a : Act) (w : World), mixEB ops d l r = true → C w → wpMixE P ops C Q d r a w → wpAnyLast P .any ops Q C [d] (r.length + 1) l a w
  | [], l, a, w, hc, hw, h => by
    simp only [mixEB, Bool.and_eq_true, beq_iff_eq] at hc
    obtain ⟨h1, h2⟩ := hc
    cases ho : ops[d]? with
    | none =>
      have : d ∈ Region.ready .any ops l := by rw [h1]; simp
      obtain ⟨_, oj, hoj, _⟩ := mem_ready.1 this
      rw [ho] at hoj; cases hoj
    | some o =>
      refine wpAnyLast_ready h1 (by simp) (AllReadyL.cons_last ho (by simp) (fun K hK => ?_) AllReadyL.nil)
      have h7 := h o ho
      split at h7
      · rename_i hw2
        rw [if_pos hw2]
        refine Oper.wp_mono ?_ h7
        intro a' w' h8
        exact hK _ _ ⟨h2, h8⟩
      · rename_i hw2
        rw [if_neg hw2]
        exact hK _ _ ⟨h2, h7⟩
  | (true, i) :: r, l, a, w, hc, hw, h => by
    simp only [mixEB, Bool.and_eq_true] at hc
    obtain ⟨⟨⟨⟨⟨⟨h0, h1⟩, h2⟩, h3⟩, h4⟩, h5⟩, h6⟩ := hc
    cases ho : ops[i]? with
    | none => rw [ho] at h0; cases h0
    | some o =>
      rw [ho] at h0
      simp only [Option.map_some, Option.getD_some, Bool.and_eq_true] at h0
      obtain ⟨hr, hdst⟩ := h0
      obtain ⟨nd, hnd⟩ := Option.isSome_iff_exists.1 hdst
      have hQ' : ∀ v c a w, Q (.panic c) (a.put o.dst v) w → Q (.panic c) a w := fun v c a w h => hQ c a nd v w (by rw [hnd] at h; exact h)
      have h7 := h o ho
      simp only [wpQuiet] at h7
      split at h7
      · rename_i hw2
        obtain ⟨v, hv, hk⟩ := h7
        refine wpAnyLast_take ho h1 h2 h3 h4 h5 (hQ' _) (.inl ⟨hw2, fun w' hw' => ?_⟩) hw (mixE_last hQ r _ _ _ h6 hw hk)
        have h8 := hv w' hw'
        unfold Oper.quietAt at h8
        cases hrun : (execOp a.eval o).run P w' with
        | ok n w2 =>
          obtain ⟨u, rfl⟩ := reads_value hr hrun
          rw [hrun] at h8
          obtain ⟨e1, e2⟩ := h8
          rw [e1, e2]
        | halt x w2 => rw [hrun] at h8; exact h8.elim
      · rename_i hw2
        exact wpAnyLast_take ho h1 h2 h3 h4 h5 (hQ' _) (.inr ⟨by simpa using hw2, rfl⟩) hw (mixE_last hQ r _ _ _ h6 hw h7)
  | (false, i) :: r, l, a, w, hc, hw, h => by
    simp only [mixEB, Bool.and_eq_true, beq_iff_eq, Bool.not_eq_true'] at hc
    obtain ⟨⟨h1, h2⟩, h3⟩ := hc
    cases ho : ops[i]? with
    | none =>
      have : i ∈ Region.ready .any ops l := by rw [h1]; simp
      obtain ⟨_, oj, hoj, _⟩ := mem_ready.1 this
      rw [ho] at hoj; cases hoj
    | some o =>
      refine wpAnyLast_ready h1 (by simp) (AllReadyL.cons ho (by simpa using h2) (fun K hK => ?_) AllReadyL.nil)
      have h7 := h o ho
      split at h7
      · rename_i hw2
        rw [if_pos hw2]
        refine Oper.wp_mono ?_ h7
        intro a' w' h8
        exact hK _ _ h8.1 (fun _ => mixE_last hQ r _ _ _ h3 h8.1 h8.2)
      · rename_i hw2
        rw [if_neg hw2]
        exact hK _ _ hw (fun _ => mixE_last hQ r _ _ _ h3 hw h7)
theorem mixE_q {i : Nat} {o : Oper} {r : List (Bool × Nat)} {a : Act} {w : World} (hi : ops.toList[i]? = some o) (h : wpQuiet P ops C (fun a' => wpMixE P ops C Q d r a' w) [o] a) : wpMixE P ops C Q d ((true, i) :: r) a w := by
  rw [Array.getElem?_toList] at hi
  intro o' ho
  rw [hi] at ho; injection ho with ho; subst ho
  exact h
theorem mixE_b {i : Nat} {o : Oper} {r : List (Bool × Nat)} {a : Act} {w : World} (hi : ops.toList[i]? = some o) (h : wpList P ops (mixQ (fun a' w' => C w' ∧ wpMixE P ops C Q d r a' w') Q) [o] a w) (hs : Region.wanted o (yielded ops a.tmps) = true) : wpMixE P ops C Q d ((false, i) :: r) a w := by
  rw [Array.getElem?_toList] at hi
  intro o' ho
  rw [hi] at ho; injection ho with ho; subst ho
  rw [if_pos hs]
  simp only [wpList, hs, if_true] at h
  rcases h with h | h
  · exact wp_of_mixQ (Oper.wp_mono (fun a' w' h' => h') h)
  · obtain ⟨a', w', h'⟩ := h.2
    exact h'.elim
theorem mixE_end {o : Oper} {a : Act} {w : World} (hi : ops.toList[d]? = some o) (h : wpList P ops (mixQ (fun a' w' => Q .normal a' w') Q) [o] a w) (hs : Region.wanted o (yielded ops a.tmps) = true) : wpMixE P ops C Q d [] a w := by
  rw [Array.getElem?_toList] at hi
  intro o' ho
  rw [hi] at ho; injection ho with ho; subst ho
  rw [if_pos hs]
  simp only [wpList, hs, if_true] at h
  rcases h with h | h
  · exact wp_of_mixQ (Oper.wp_mono (fun a' w' h' => h') h)
  · obtain ⟨a', w', h'⟩ := h.2
    exact h'.elim
theorem region_mixE {id : Nat} {a : Act} {w : World} (order : List (Bool × Nat)) (d : Nat) (hm : P.follows .mixedOrders = true) (hc : (mixEB ops d (Array.replicate ops.size false) order && order.length + 1 == ops.size) = true)
    (hQ : ∀ c a n v w, Q (.panic c) (a.put (some n) v) w → Q (.panic c) a w) (h : wpMixE P ops (fun w' => ∃ p : Regrown, w' = grow (redrawn w p.d) p.os) Q d order a w.drew) : (Code.region id ops true).wp P Q a w := by
  simp only [Bool.and_eq_true, beq_iff_eq] at hc
  refine wp_region_last_drew (S := cls w) (ds := [d]) hm (cls_drew w) (fun hS => ?_)
  have := mixE_last hQ order _ a w.drew hc.1 (cls_drew w) h
  rwa [hc.2] at this
/-- It yields a value or ends the run: a reader, or a struct's value put together. -/
def reads2B : Op → Bool
  | .build .. => true
  | o => readsB o
theorem reads2_value {ρ : Operand → Value} {o : Oper} {P : Program} {w w' : World} {n : Next} (hr : reads2B o.op = true) (h : (execOp ρ o).run P w = .ok n w') : ∃ u, n = .value u := by
  by_cases hb : ∃ t ps, o.op = .build t ps
  · obtain ⟨t, ps, he⟩ := hb
    unfold execOp at h
    simp only [he] at h
    exact andThen_value h
  · have : readsB o.op = true := by
      unfold reads2B at hr
      split at hr
      · rename_i t ps he; exact absurd ⟨_, _, he⟩ hb
      · exact hr
    exact reads_value this h
theorem last_narrow {P : Program} {ops : Array Oper} {Q : Exit → Act → World → Prop} {S S' : World → Prop} {ts : List Nat} (hSS : ∀ w, S' w → S w) (hT : ∀ i, i < ops.size → i ∉ ts → ∀ d ∈ ts, Region.reachB .any ops i ops.size d = true) :
    ∀ (n : Nat) (l : Array Bool) (a : Act) (w : World), ListedClosed .any ops l → l.size = ops.size → (S' w ∨ ∀ i, l.getD i true = false → i ∈ ts) → wpAnyLast P .any ops Q S' ts n l a w → wpAnyLast P .any ops Q S ts n l a w
  | 0, l, a, w, hc, hz, hs, h => h
  | n + 1, l, a, w, hc, hz, hs, h => ⟨h.1, fun i hi => wpOp_mono (fun a' w' h' => by
      obtain ⟨h1, h2⟩ := h'
      have hun : l.getD i true = false := (mem_ready.1 hi).1
      have hS' : i ∉ ts → S' w := fun hit => by
        rcases hs with h | h
        · exact h
        · exact absurd (h i hun) hit
      refine ⟨fun hit _ => hSS _ (h1 hit (hS' hit)), last_narrow hSS hT n _ a' w' (hc.set hi) (by simpa using hz) ?_ h2⟩
      by_cases hit : i ∈ ts
      · refine .inr (fun j hj => ?_)
        rcases Classical.em (j ∈ ts) with hjt | hjt
        · exact hjt
        · exfalso
          have hj2 : l.getD j true = false := getD_set_false hj
          have hjl : j < ops.size := by
            rw [← hz]
            rcases Nat.lt_or_ge j l.size with h | h
            · exact h
            · simp [Array.getD, Nat.not_lt.2 h] at hj2
          exact Region.reach_not_ready hc (hT j hjl hjt i hit) hj2 hi
      · exact .inl (h1 hit (hS' hit))) (h.2 i hi)⟩
where
  getD_set_false {l : Array Bool} {i j : Nat} (hj : (l.setIfInBounds i true).getD j true = false) : l.getD j true = false := by
    rcases Nat.lt_or_ge j l.size with h | h
    · by_cases e : i = j
      · subst e
        simp [Array.getD, h] at hj
      · simpa [Array.getD, h, Array.getElem_setIfInBounds, e] using hj
    · simp [Array.getD, Nat.not_lt.2 h] at hj
/-- Orders that serve every order: n: the class of worlds is narrowed; fin: the operations behind them, each alone, may write; q: a reader is taken; p: what yields in every world is taken; b: one operation alone may come up; br, br3, br4: two, three, four may. -/
inductive MO where
  | fin
  | q (i : Nat) (r : MO)
  | p (i : Nat) (r : MO)
  | b (i : Nat) (r : MO)
  | br (i j : Nat) (r s : MO)
  | br3 (i j k : Nat) (r s t : MO)
  | br4 (i j k m : Nat) (r s t u : MO)
  | n (r : MO)
def MO.len (n : Nat) : MO → Nat
  | .fin => n
  | .q _ r => r.len n + 1
  | .p _ r => r.len n + 1
  | .b _ r => r.len n + 1
  | .br _ _ r s => max (r.len n) (s.len n) + 1
  | .br3 _ _ _ r s t => max (r.len n) (max (s.len n) (t.len n)) + 1
  | .br4 _ _ _ _ r s t u => max (max (r.len n) (s.len n)) (max (t.len n) (u.len n)) + 1
  | .n r => r.len n
def tailB (ops : Array Oper) : Array Bool → List Nat → Bool
  | l, [] => Region.ready .any ops l == []
  | l, d :: r => Region.ready .any ops l == [d] && tailB ops (l.setIfInBounds d true) r
def mixTB (ops : Array Oper) (ts : List Nat) : Array Bool → MO → Bool
  | l, .fin => tailB ops l ts
  | l, .q i r => (ops[i]?.map (fun o => reads2B o.op && o.dst.isSome)).getD false && Region.noSelect ops && Region.free .any ops l i && (Region.ready .any ops l).contains i && Region.closedB .any ops l && Region.lastB .any ops l ts i && mixTB ops ts (l.setIfInBounds i true) r
  | l, .p i r => (ops[i]?.map (fun o => reads2B o.op && o.dst.isSome)).getD false && Region.noSelect ops && Region.free .any ops l i && (Region.ready .any ops l).contains i && mixTB ops ts (l.setIfInBounds i true) r
  | l, .b i r => (Region.ready .any ops l == [i]) && !(ts.contains i) && mixTB ops ts (l.setIfInBounds i true) r
  | l, .br i j r s => (Region.ready .any ops l == [i, j]) && !(ts.contains i) && !(ts.contains j) && mixTB ops ts (l.setIfInBounds i true) r && mixTB ops ts (l.setIfInBounds j true) s
  | l, .br3 i j k r s t => (Region.ready .any ops l == [i, j, k]) && !(ts.contains i) && !(ts.contains j) && !(ts.contains k) && mixTB ops ts (l.setIfInBounds i true) r && mixTB ops ts (l.setIfInBounds j true) s && mixTB ops ts (l.setIfInBounds k true) t
  | l, .br4 i j k m r s t u => (Region.ready .any ops l == [i, j, k, m]) && !(ts.contains i) && !(ts.contains j) && !(ts.contains k) && !(ts.contains m) && mixTB ops ts (l.setIfInBounds i true) r && mixTB ops ts (l.setIfInBounds j true) s && mixTB ops ts (l.setIfInBounds k true) t && mixTB ops ts (l.setIfInBounds m true) u
  | l, .n r => Region.closedB .any ops l && (List.range ops.size).all (fun i => ts.contains i || ts.all (fun d => Region.reachB .any ops i ops.size d)) && l.size == ops.size && mixTB ops ts l r
def wpTail (P : Program) (ops : Array Oper) (Q : Exit → Act → World → Prop) : List Nat → Act → World → Prop
  | [], a, w => Q .normal a w
  | d :: r, a, w => ∀ o, ops[d]? = some o → if Region.wanted o (yielded ops a.tmps) then Oper.wp P o a w (fun a' w' => wpTail P ops Q r a' w') Q else wpTail P ops Q r (a.put o.dst undef) w
def stepM (P : Program) (ops : Array Oper) (C : World → Prop) (Q : Exit → Act → World → Prop) (i : Nat) (K : Act → World → Prop) (a : Act) (w : World) : Prop :=
  ∀ o, ops[i]? = some o → if Region.wanted o (yielded ops a.tmps) then Oper.wp P o a w (fun a' w' => C w' ∧ K a' w') Q else K (a.put o.dst undef) w
def wpMixT (P : Program) (ops : Array Oper) (C : World → Prop) (Q : Exit → Act → World → Prop) (ts : List Nat) : MO → Act → World → Prop
  | .fin, a, w => wpTail P ops Q ts a w
  | .q i r, a, w => ∀ o, ops[i]? = some o → wpQuiet P ops C (fun a' => wpMixT P ops C Q ts r a' w) [o] a
  | .p i r, a, w => ∀ o, ops[i]? = some o → wpQuiet P ops (fun _ => True) (fun a' => wpMixT P ops C Q ts r a' w) [o] a
  | .b i r, a, w => stepM P ops C Q i (wpMixT P ops C Q ts r) a w
  | .br i j r s, a, w => stepM P ops C Q i (wpMixT P ops C Q ts r) a w ∧ stepM P ops C Q j (wpMixT P ops C Q ts s) a w
  | .br3 i j k r s t, a, w => stepM P ops C Q i (wpMixT P ops C Q ts r) a w ∧ stepM P ops C Q j (wpMixT P ops C Q ts s) a w ∧ stepM P ops C Q k (wpMixT P ops C Q ts t) a w
  | .br4 i j k m r s t u, a, w => stepM P ops C Q i (wpMixT P ops C Q ts r) a w ∧ stepM P ops C Q j (wpMixT P ops C Q ts s) a w ∧ stepM P ops C Q k (wpMixT P ops C Q ts t) a w ∧ stepM P ops C Q m (wpMixT P ops C Q ts u) a w
  | .n r, a, w => ∃ C' : World → Prop, C' w ∧ (∀ w', C' w' → C w') ∧ wpMixT P ops C' Q ts r a w
theorem tail_last {ts : List Nat} : ∀ (r : List Nat) (l : Array Bool) (a : Act) (w : World) (n : Nat), r.length ≤ n → (∀ d ∈ r, d ∈ ts) → tailB ops l r = true → wpTail P ops Q r a w → wpAnyLast P .any ops Q C ts n l a w
  | [], l, a, w, 0, hn, hs, hc, h => by
    simp only [tailB, beq_iff_eq] at hc
    exact ⟨hc, h⟩
  | [], l, a, w, n + 1, hn, hs, hc, h => by
    simp only [tailB, beq_iff_eq] at hc
    exact ⟨fun _ => h, fun i hi => by rw [hc] at hi; cases hi⟩
  | d :: r, l, a, w, 0, hn, hs, hc, h => by simp at hn
  | d :: r, l, a, w, n + 1, hn, hs, hc, h => by
    simp only [tailB, Bool.and_eq_true, beq_iff_eq] at hc
    obtain ⟨h1, h2⟩ := hc
    cases ho : ops[d]? with
    | none =>
      have : d ∈ Region.ready .any ops l := by rw [h1]; simp
      obtain ⟨_, oj, hoj, _⟩ := mem_ready.1 this
      rw [ho] at hoj; cases hoj
    | some o =>
      refine wpAnyLast_ready h1 (by simp) (AllReadyL.cons_last ho (hs d (by simp)) (fun K hK => ?_) AllReadyL.nil)
      have h7 := h o ho
      have hs' : ∀ x ∈ r, x ∈ ts := fun x hx => hs x (by simp [hx])
      split at h7
      · rename_i hw2
        rw [if_pos hw2]
        refine Oper.wp_mono ?_ h7
        intro a' w' h8
        exact hK _ _ (tail_last r _ _ _ n (by simpa using hn) hs' h2 h8)
      · rename_i hw2
        rw [if_neg hw2]
        exact hK _ _ (tail_last r _ _ _ n (by simpa using hn) hs' h2 h7)
theorem one_of {ts : List Nat} {i n : Nat} {l : Array Bool} {a : Act} {w : World} {K0 : Act → World → Prop} {K : Act → World → Prop} {o : Oper} (ho : ops[i]? = some o) (hw : C w) (h : stepM P ops C Q i K0 a w)
    (hK : Shut (∀ a w, C w → (C w → wpAnyLast P .any ops Q C ts n (l.setIfInBounds i true) a w) → K a w)) (hm : ∀ a' w', C w' → K0 a' w' → wpAnyLast P .any ops Q C ts n (l.setIfInBounds i true) a' w') :
    if Region.wanted o (yielded ops a.tmps) = true then Oper.wp P o a w K Q else K (a.put o.dst undef) w := by
  have h7 := h o ho
  split at h7
  · rename_i hw2
    rw [if_pos hw2]
    refine Oper.wp_mono ?_ h7
    intro a' w' h8
    exact hK _ _ h8.1 (fun _ => hm _ _ h8.1 h8.2)
  · rename_i hw2
    rw [if_neg hw2]
    exact hK _ _ hw (fun _ => hm _ _ hw h7)
theorem some_of {l : Array Bool} {i : Nat} {rs : List Nat} (h1 : Region.ready .any ops l = rs) (hi : i ∈ rs) : ∃ o, ops[i]? = some o := by
  rw [← h1] at hi
  obtain ⟨_, oj, hoj, _⟩ := mem_ready.1 hi
  exact ⟨oj, hoj⟩
theorem mixT_last {C : World → Prop} {ts : List Nat} (hQ : ∀ c a n v w, Q (.panic c) (a.put (some n) v) w → Q (.panic c) a w) : ∀ (r : MO) (l : Array Bool) (a : Act) (w : World) (n : Nat), r.len ts.length ≤ n → mixTB ops ts l r = true → C w → wpMixT P ops C Q ts r a w → wpAnyLast P .any ops Q C ts n l a w
  | .fin, l, a, w, n, hn, hc, hw, h => tail_last ts l a w n hn (fun _ h => h) hc h
  | .q i r, l, a, w, 0, hn, hc, hw, h => by simp [MO.len] at hn
  | .p i r, l, a, w, 0, hn, hc, hw, h => by simp [MO.len] at hn
  | .b i r, l, a, w, 0, hn, hc, hw, h => by simp [MO.len] at hn
  | .br i j r s, l, a, w, 0, hn, hc, hw, h => by simp [MO.len] at hn
  | .br3 i j k r s t, l, a, w, 0, hn, hc, hw, h => by simp [MO.len] at hn
  | .br4 i j k m r s t u, l, a, w, 0, hn, hc, hw, h => by simp [MO.len] at hn
  | .n r, l, a, w, n, hn, hc, hw, h => by
    simp only [mixTB, Bool.and_eq_true, beq_iff_eq] at hc
    obtain ⟨⟨⟨h1, h2⟩, h3⟩, h4⟩ := hc
    obtain ⟨C', hC, hCC, h⟩ := h
    refine last_narrow hCC (fun i hi hit d hd => ?_) n l a w (Region.closedB_spec h1) h3 (.inl hC) (mixT_last hQ r l a w n hn h4 hC h)
    have h5 := List.all_eq_true.1 h2 i (List.mem_range.2 hi)
    rw [Bool.or_eq_true] at h5
    rcases h5 with h5 | h5
    · exact absurd (by simpa using h5) hit
    · exact List.all_eq_true.1 h5 d hd
  | .q i r, l, a, w, n + 1, hn, hc, hw, h => by
    simp only [mixTB, Bool.and_eq_true] at hc
    obtain ⟨⟨⟨⟨⟨⟨h0, h1⟩, h2⟩, h3⟩, h4⟩, h5⟩, h6⟩ := hc
    simp only [MO.len] at hn
    cases ho : ops[i]? with
    | none => rw [ho] at h0; cases h0
    | some o =>
      rw [ho] at h0
      simp only [Option.map_some, Option.getD_some, Bool.and_eq_true] at h0
      obtain ⟨hr, hdst⟩ := h0
      obtain ⟨nd, hnd⟩ := Option.isSome_iff_exists.1 hdst
      have hQ' : ∀ v c a w, Q (.panic c) (a.put o.dst v) w → Q (.panic c) a w := fun v c a w h => hQ c a nd v w (by rw [hnd] at h; exact h)
      have h7 := h o ho
      simp only [wpQuiet] at h7
      split at h7
      · rename_i hw2
        obtain ⟨v, hv, hk⟩ := h7
        refine wpAnyLast_take ho h1 h2 h3 h4 h5 (hQ' _) (.inl ⟨hw2, fun w' hw' => ?_⟩) hw (mixT_last hQ r _ _ _ n (by omega) h6 hw hk)
        have h8 := hv w' hw'
        unfold Oper.quietAt at h8
        cases hrun : (execOp a.eval o).run P w' with
        | ok n w2 =>
          obtain ⟨u, rfl⟩ := reads2_value hr hrun
          rw [hrun] at h8
          obtain ⟨e1, e2⟩ := h8
          rw [e1, e2]
        | halt x w2 => rw [hrun] at h8; exact h8.elim
      · rename_i hw2
        exact wpAnyLast_take ho h1 h2 h3 h4 h5 (hQ' _) (.inr ⟨by simpa using hw2, rfl⟩) hw (mixT_last hQ r _ _ _ n (by omega) h6 hw h7)
  | .p i r, l, a, w, n + 1, hn, hc, hw, h => by
    simp only [mixTB, Bool.and_eq_true] at hc
    obtain ⟨⟨⟨⟨h0, h1⟩, h2⟩, h3⟩, h6⟩ := hc
    simp only [MO.len] at hn
    cases ho : ops[i]? with
    | none => rw [ho] at h0; cases h0
    | some o =>
      rw [ho] at h0
      simp only [Option.map_some, Option.getD_some, Bool.and_eq_true] at h0
      obtain ⟨hr, hdst⟩ := h0
      obtain ⟨nd, hnd⟩ := Option.isSome_iff_exists.1 hdst
      have hQ' : ∀ v c a w, Q (.panic c) (a.put o.dst v) w → Q (.panic c) a w := fun v c a w h => hQ c a nd v w (by rw [hnd] at h; exact h)
      have h7 := h o ho
      simp only [wpQuiet] at h7
      split at h7
      · rename_i hw2
        obtain ⟨v, hv, hk⟩ := h7
        refine wpAnyLast_any ho (Region.noSelect_spec h1) (hQ' _) n l a w (Region.free_spec ho h2) (by simpa using h3) (.inl ⟨hw2, fun w' => ?_⟩) (mixT_last hQ r _ _ _ n (by omega) h6 hw hk)
        have h8 := hv w' trivial
        unfold Oper.quietAt at h8
        cases hrun : (execOp a.eval o).run P w' with
        | ok nx w2 =>
          obtain ⟨u, rfl⟩ := reads2_value hr hrun
          rw [hrun] at h8
          obtain ⟨e1, e2⟩ := h8
          rw [e1, e2]
        | halt x w2 => rw [hrun] at h8; exact h8.elim
      · rename_i hw2
        exact wpAnyLast_any ho (Region.noSelect_spec h1) (hQ' _) n l a w (Region.free_spec ho h2) (by simpa using h3) (.inr ⟨by simpa using hw2, rfl⟩) (mixT_last hQ r _ _ _ n (by omega) h6 hw h7)
  | .b i r, l, a, w, n + 1, hn, hc, hw, h => by
    simp only [mixTB, Bool.and_eq_true, beq_iff_eq, Bool.not_eq_true'] at hc
    obtain ⟨⟨h1, h2⟩, h3⟩ := hc
    simp only [MO.len] at hn
    obtain ⟨o, ho⟩ := some_of h1 (i := i) (by simp)
    exact wpAnyLast_ready h1 (by simp) (AllReadyL.cons ho (by simpa using h2) (fun K hK => one_of ho hw h hK (fun a' w' hw' h' => mixT_last hQ r _ _ _ n (by omega) h3 hw' h')) AllReadyL.nil)
  | .br i j r s, l, a, w, n + 1, hn, hc, hw, h => by
    simp only [mixTB, Bool.and_eq_true, beq_iff_eq, Bool.not_eq_true'] at hc
    obtain ⟨⟨⟨⟨h1, h2⟩, h2j⟩, h3⟩, h3j⟩ := hc
    simp only [MO.len] at hn
    obtain ⟨o, ho⟩ := some_of h1 (i := i) (by simp)
    obtain ⟨oj, hoj⟩ := some_of h1 (i := j) (by simp)
    exact wpAnyLast_ready h1 (by simp) (AllReadyL.cons ho (by simpa using h2) (fun K hK => one_of ho hw h.1 hK (fun a' w' hw' h' => mixT_last hQ r _ _ _ n (by omega) h3 hw' h'))
      (AllReadyL.cons hoj (by simpa using h2j) (fun K hK => one_of hoj hw h.2 hK (fun a' w' hw' h' => mixT_last hQ s _ _ _ n (by omega) h3j hw' h')) AllReadyL.nil))
  | .br3 i j k r s t, l, a, w, n + 1, hn, hc, hw, h => by
    simp only [mixTB, Bool.and_eq_true, beq_iff_eq, Bool.not_eq_true'] at hc
    obtain ⟨⟨⟨⟨⟨⟨h1, h2⟩, h2j⟩, h2k⟩, h3⟩, h3j⟩, h3k⟩ := hc
    simp only [MO.len] at hn
    obtain ⟨o, ho⟩ := some_of h1 (i := i) (by simp)
    obtain ⟨oj, hoj⟩ := some_of h1 (i := j) (by simp)
    obtain ⟨ok, hok⟩ := some_of h1 (i := k) (by simp)
    exact wpAnyLast_ready h1 (by simp) (AllReadyL.cons ho (by simpa using h2) (fun K hK => one_of ho hw h.1 hK (fun a' w' hw' h' => mixT_last hQ r _ _ _ n (by omega) h3 hw' h'))
      (AllReadyL.cons hoj (by simpa using h2j) (fun K hK => one_of hoj hw h.2.1 hK (fun a' w' hw' h' => mixT_last hQ s _ _ _ n (by omega) h3j hw' h'))
        (AllReadyL.cons hok (by simpa using h2k) (fun K hK => one_of hok hw h.2.2 hK (fun a' w' hw' h' => mixT_last hQ t _ _ _ n (by omega) h3k hw' h')) AllReadyL.nil)))
  | .br4 i j k m r s t u, l, a, w, n + 1, hn, hc, hw, h => by
    simp only [mixTB, Bool.and_eq_true, beq_iff_eq, Bool.not_eq_true'] at hc
    obtain ⟨⟨⟨⟨⟨⟨⟨⟨h1, h2⟩, h2j⟩, h2k⟩, h2m⟩, h3⟩, h3j⟩, h3k⟩, h3m⟩ := hc
    simp only [MO.len] at hn
    obtain ⟨o, ho⟩ := some_of h1 (i := i) (by simp)
    obtain ⟨oj, hoj⟩ := some_of h1 (i := j) (by simp)
    obtain ⟨ok, hok⟩ := some_of h1 (i := k) (by simp)
    obtain ⟨om, hom⟩ := some_of h1 (i := m) (by simp)
    exact wpAnyLast_ready h1 (by simp) (AllReadyL.cons ho (by simpa using h2) (fun K hK => one_of ho hw h.1 hK (fun a' w' hw' h' => mixT_last hQ r _ _ _ n (by omega) h3 hw' h'))
      (AllReadyL.cons hoj (by simpa using h2j) (fun K hK => one_of hoj hw h.2.1 hK (fun a' w' hw' h' => mixT_last hQ s _ _ _ n (by omega) h3j hw' h'))
        (AllReadyL.cons hok (by simpa using h2k) (fun K hK => one_of hok hw h.2.2.1 hK (fun a' w' hw' h' => mixT_last hQ t _ _ _ n (by omega) h3k hw' h'))
          (AllReadyL.cons hom (by simpa using h2m) (fun K hK => one_of hom hw h.2.2.2 hK (fun a' w' hw' h' => mixT_last hQ u _ _ _ n (by omega) h3m hw' h')) AllReadyL.nil))))
theorem mixT_q {ts : List Nat} {i : Nat} {o : Oper} {r : MO} {a : Act} {w : World} (hi : ops.toList[i]? = some o) (h : wpQuiet P ops C (fun a' => wpMixT P ops C Q ts r a' w) [o] a) : wpMixT P ops C Q ts (.q i r) a w := by
  rw [Array.getElem?_toList] at hi
  intro o' ho
  rw [hi] at ho; injection ho with ho; subst ho
  exact h
theorem mixT_p {ts : List Nat} {i : Nat} {o : Oper} {r : MO} {a : Act} {w : World} (hi : ops.toList[i]? = some o) (h : wpQuiet P ops (fun _ => True) (fun a' => wpMixT P ops C Q ts r a' w) [o] a) : wpMixT P ops C Q ts (.p i r) a w := by
  rw [Array.getElem?_toList] at hi
  intro o' ho
  rw [hi] at ho; injection ho with ho; subst ho
  exact h
theorem stepM_of {i : Nat} {o : Oper} {K : Act → World → Prop} {a : Act} {w : World} (hi : ops.toList[i]? = some o) (h : wpList P ops (mixQ (fun a' w' => C w' ∧ K a' w') Q) [o] a w) (hs : Region.wanted o (yielded ops a.tmps) = true) : stepM P ops C Q i K a w := by
  rw [Array.getElem?_toList] at hi
  intro o' ho
  rw [hi] at ho; injection ho with ho; subst ho
  rw [if_pos hs]
  simp only [wpList, hs, if_true] at h
  rcases h with h | h
  · exact wp_of_mixQ (Oper.wp_mono (fun a' w' h' => h') h)
  · obtain ⟨a', w', h'⟩ := h.2
    exact h'.elim
theorem mixT_b {ts : List Nat} {i : Nat} {o : Oper} {r : MO} {a : Act} {w : World} (hi : ops.toList[i]? = some o) (h : wpList P ops (mixQ (fun a' w' => C w' ∧ wpMixT P ops C Q ts r a' w') Q) [o] a w) (hs : Region.wanted o (yielded ops a.tmps) = true) : wpMixT P ops C Q ts (.b i r) a w := stepM_of hi h hs
theorem genT {ts : List Nat} {r : MO} {a : Act} {w : World} (h : ∀ W, W = w → wpMixT P ops C Q ts r a W) : wpMixT P ops C Q ts r a w := h w rfl
theorem mixT_n {C C' : World → Prop} {ts : List Nat} {r : MO} {a : Act} {w : World} (hC : C' w) (hCC : ∀ w', C' w' → C w') (h : wpMixT P ops C' Q ts r a w) : wpMixT P ops C Q ts (.n r) a w := ⟨C', hC, hCC, h⟩
theorem mixT_fin {ts : List Nat} {a : Act} {w : World} (h : wpTail P ops Q ts a w) : wpMixT P ops C Q ts .fin a w := h
theorem tail_nil {a : Act} {w : World} (h : Q .normal a w) : wpTail P ops Q [] a w := h
theorem tail_b {i : Nat} {o : Oper} {r : List Nat} {a : Act} {w : World} (hi : ops.toList[i]? = some o) (h : wpList P ops (mixQ (fun a' w' => wpTail P ops Q r a' w') Q) [o] a w) (hs : Region.wanted o (yielded ops a.tmps) = true) : wpTail P ops Q (i :: r) a w := by
  rw [Array.getElem?_toList] at hi
  intro o' ho
  rw [hi] at ho; injection ho with ho; subst ho
  rw [if_pos hs]
  simp only [wpList, hs, if_true] at h
  rcases h with h | h
  · exact wp_of_mixQ (Oper.wp_mono (fun a' w' h' => h') h)
  · obtain ⟨a', w', h'⟩ := h.2
    exact h'.elim
theorem region_mixT {id : Nat} {a : Act} {w : World} (order : MO) (ts : List Nat) (hm : P.follows .mixedOrders = true) (hc : (mixTB ops ts (Array.replicate ops.size false) order && decide (order.len ts.length ≤ ops.size)) = true)
    (hQ : ∀ c a n v w, Q (.panic c) (a.put (some n) v) w → Q (.panic c) a w) (h : wpMixT P ops (fun w' => ∃ p : Regrown, w' = grow (redrawn w p.d) p.os) Q ts order a w.drew) : (Code.region id ops true).wp P Q a w := by
  simp only [Bool.and_eq_true, decide_eq_true_eq] at hc
  exact wp_region_last_drew (S := cls w) (ds := ts) hm (cls_drew w) (fun hS => mixT_last hQ order _ a w.drew _ hc.2 hc.1 (cls_drew w) h)
/-- Only a normal end, and what holds there. -/
def onlyN (R : Act → World → Prop) : Exit → Act → World → Prop
  | .normal, a, w => R a w
  | _, _, _ => False
theorem region_gen {R : Act → World → Prop} {a : Act} {w : World} (h : ∀ W, W = w → R a W) : onlyN R .normal a w := h w rfl
theorem region_to {c : Code} (R : Act → World → Prop) {a : Act} {w : World} (h : c.wp P (onlyN R) a w) (k : ∀ a' w', R a' w' → Q .normal a' w') : c.wp P Q a w :=
  Code.wp_mono (fun e a' w' h' => by
    cases e with
    | normal => exact k a' w' h'
    | _ => exact h'.elim) h
end
/-! The cells of a variable, all at once. -/
theorem blk5 {w : World} {g : Nat} {a b c d e : Value} {t : TypeId} (h : Blk w g #[a, b, c, d, e] t) : w.cell? ⟨g, 0, none⟩ = some a ∧ w.cell? ⟨g, 1, none⟩ = some b ∧ w.cell? ⟨g, 2, none⟩ = some c ∧ w.cell? ⟨g, 3, none⟩ = some d ∧ w.cell? ⟨g, 4, none⟩ = some e ∧ ∀ j, w.frozen? ⟨g, j, none⟩ = false :=
  ⟨h.cell 0 rfl, h.cell 1 rfl, h.cell 2 rfl, h.cell 3 rfl, h.cell 4 rfl, h.frozen⟩
theorem blk7 {w : World} {g : Nat} {a b c d e f i : Value} {t : TypeId} (h : Blk w g #[a, b, c, d, e, f, i] t) : w.cell? ⟨g, 0, none⟩ = some a ∧ w.cell? ⟨g, 1, none⟩ = some b ∧ w.cell? ⟨g, 2, none⟩ = some c ∧ w.cell? ⟨g, 3, none⟩ = some d ∧ w.cell? ⟨g, 4, none⟩ = some e ∧ w.cell? ⟨g, 5, none⟩ = some f ∧ w.cell? ⟨g, 6, none⟩ = some i ∧ ∀ j, w.frozen? ⟨g, j, none⟩ = false :=
  ⟨h.cell 0 rfl, h.cell 1 rfl, h.cell 2 rfl, h.cell 3 rfl, h.cell 4 rfl, h.cell 5 rfl, h.cell 6 rfl, h.frozen⟩
theorem upE {n a : Nat} {w w1 : World} (h : Hd (a ≤ w.heap.size)) (hE : Below n w w1) : Hd (a ≤ w1.heap.size) := ⟨Nat.le_trans h.out hE.size⟩
theorem Hd.dn {w w1 : World} {g : Nat} {c : Array Value} {t : TypeId} (h : Hd (Blk w g c t)) (hb : Below w.heap.size w w1) : Hd (Blk w1 g c t) := ⟨h.out.below hb⟩
theorem Hd.ob {α : Type} {d : Ty α} {w w1 : World} {S : Nat → Prop} {x : α} {cs : List Value} (h : Hd (d.O w S x cs)) (hb : Below w.heap.size w w1) : Hd (d.O w1 S x cs) := ⟨Ty.O_below h.out hb⟩
theorem Hd.th {w w1 w2 : World} (h : Hd (Below w.heap.size w w1)) (hb : Below w1.heap.size w1 w2) : Hd (Below w.heap.size w w2) := ⟨below_then h.out hb⟩
theorem reg5 {w : World} {a0 a1 a2 a3 a4 : Addr} {v0 v1 v2 v3 v4 : Value} (h0 : w.cell? a0 = some v0) (h1 : w.cell? a1 = some v1) (h2 : w.cell? a2 = some v2) (h3 : w.cell? a3 = some v3) (h4 : w.cell? a4 = some v4) : (∀ (d : Nat) (os : Array Obj), (grow (redrawn w d) os).cell? a0 = some v0) ∧ (∀ (d : Nat) (os : Array Obj), (grow (redrawn w d) os).cell? a1 = some v1) ∧ (∀ (d : Nat) (os : Array Obj), (grow (redrawn w d) os).cell? a2 = some v2) ∧ (∀ (d : Nat) (os : Array Obj), (grow (redrawn w d) os).cell? a3 = some v3) ∧ (∀ (d : Nat) (os : Array Obj), (grow (redrawn w d) os).cell? a4 = some v4) :=
  ⟨cell_regrown h0, cell_regrown h1, cell_regrown h2, cell_regrown h3, cell_regrown h4⟩
theorem reg7 {w : World} {a0 a1 a2 a3 a4 a5 a6 : Addr} {v0 v1 v2 v3 v4 v5 v6 : Value} (h0 : w.cell? a0 = some v0) (h1 : w.cell? a1 = some v1) (h2 : w.cell? a2 = some v2) (h3 : w.cell? a3 = some v3) (h4 : w.cell? a4 = some v4) (h5 : w.cell? a5 = some v5) (h6 : w.cell? a6 = some v6) : (∀ (d : Nat) (os : Array Obj), (grow (redrawn w d) os).cell? a0 = some v0) ∧ (∀ (d : Nat) (os : Array Obj), (grow (redrawn w d) os).cell? a1 = some v1) ∧ (∀ (d : Nat) (os : Array Obj), (grow (redrawn w d) os).cell? a2 = some v2) ∧ (∀ (d : Nat) (os : Array Obj), (grow (redrawn w d) os).cell? a3 = some v3) ∧ (∀ (d : Nat) (os : Array Obj), (grow (redrawn w d) os).cell? a4 = some v4) ∧ (∀ (d : Nat) (os : Array Obj), (grow (redrawn w d) os).cell? a5 = some v5) ∧ (∀ (d : Nat) (os : Array Obj), (grow (redrawn w d) os).cell? a6 = some v6) :=
  ⟨cell_regrown h0, cell_regrown h1, cell_regrown h2, cell_regrown h3, cell_regrown h4, cell_regrown h5, cell_regrown h6⟩
end Go.Proofs.Ytlkjpnlpankhpaa.X
