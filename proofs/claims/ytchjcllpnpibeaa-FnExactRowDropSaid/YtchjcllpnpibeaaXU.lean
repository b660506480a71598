/- What is proved here: a region that draws its order and ends with one operation that writes: one order, readers first, serves every order. Conditions: none. -/
import Derived.Test.YtchjcllpnpibeaaX1
namespace Go.Proofs.Ytchjcllpnpibeaa.X
open Go.RowKit Go.Sort Go.Proofs.YtchjcllpnpibeaaW.PrintLast
set_option linter.unusedVariables false
set_option linter.unusedSimpArgs false
section
variable {P : Program} {ops : Array Oper} {Q : Exit → Act → World → Prop} {C : World → Prop} {d : Nat}
theorem mixQ_n {next : Act → World → Prop} {a : Act} {w : World} (h : next a w) : mixQ next Q .normal a w := h
theorem wp_gen {c : Code} {a : Act} {w : World} (h : ∀ W, W = w → c.wp P Q a W) : c.wp P Q a w := h w rfl
/-- One order that serves, short of operation d, which comes last and may write. -/
def mixEB (ops : Array Oper) (d : Nat) : Array Bool → List (Bool × Nat) → Bool
  | l, [] => Region.ready .any ops l == [d] && Region.ready .any ops (l.setIfInBounds d true) == []
  | l, (true, i) :: r => (ops[i]?.map (fun o => readsB o.op && o.dst.isSome)).getD false && Region.noSelect ops && Region.free .any ops l i && (Region.ready .any ops l).contains i && Region.closedB .any ops l && Region.lastB .any ops l [d] i && mixEB ops d (l.setIfInBounds i true) r
  | l, (false, i) :: r => (Region.ready .any ops l == [i]) && !([d].contains i) && mixEB ops d (l.setIfInBounds i true) r
/-- What is to be shown, in that order. -/
def wpMixE (P : Program) (ops : Array Oper) (C : World → Prop) (Q : Exit → Act → World → Prop) (d : Nat) : List (Bool × Nat) → Act → World → Prop
  | [], a, w => ∀ o, ops[d]? = some o → if Region.wanted o (yielded ops a.tmps) then Oper.wp P o a w (fun a' w' => Q .normal a' w') Q else Q .normal (a.put o.dst undef) w
  | (true, i) :: r, a, w => ∀ o, ops[i]? = some o → wpQuiet P ops C (fun a' => wpMixE P ops C Q d r a' w) [o] a
  | (false, i) :: r, a, w => ∀ o, ops[i]? = some o → if Region.wanted o (yielded ops a.tmps) then Oper.wp P o a w (fun a' w' => C w' ∧ wpMixE P ops C Q d r a' w') Q else wpMixE P ops C Q d r (a.put o.dst undef) w
theorem mixE_last (hQ : ∀ c a n v w, Q (.panic c) (a.put (some n) v) w → Q (.panic c) a w) : ∀ (r : List (Bool × Nat)) (l : Array Bool) (a : Act) (w : World), mixEB ops d l r = true → C w → wpMixE P ops C Q d r a w → wpAnyLast P .any ops Q C [d] (r.length + 1) l a w
  | [], l, a, w, hc, hw, h => by
    simp only [mixEB, Bool.and_eq_true, beq_iff_eq] at hc
    obtain ⟨h1, h2⟩ := hc
    cases ho : ops[d]? with
    | none =>
      have : d ∈ Region.ready .any ops l := by rw [h1]; simp
      obtain ⟨_, oj, hoj, _⟩ := mem_ready.1 this
      rw [ho] at hoj; cases hoj
    | some o =>
      refine wpAnyLast_ready h1 (by simp) (AllReadyL.cons_last ho (by simp) (fun K hK => ?_) AllReadyL.nil)
      have h7 := h o ho
      split at h7
      · rename_i hw2
        rw [if_pos hw2]
        refine Oper.wp_mono ?_ h7
        intro a' w' h8
        exact hK _ _ ⟨h2, h8⟩
      · rename_i hw2
        rw [if_neg hw2]
        exact hK _ _ ⟨h2, h7⟩
  | (true, i) :: r, l, a, w, hc, hw, h => by
    simp only [mixEB, Bool.and_eq_true] at hc
    obtain ⟨⟨⟨⟨⟨⟨h0, h1⟩, h2⟩, h3⟩, h4⟩, h5⟩, h6⟩ := hc
    cases ho : ops[i]? with
    | none => rw [ho] at h0; cases h0
    | some o =>
      rw [ho] at h0
      simp only [Option.map_some, Option.getD_some, Bool.and_eq_true] at h0
      obtain ⟨hr, hdst⟩ := h0
      obtain ⟨nd, hnd⟩ := Option.isSome_iff_exists.1 hdst
      have hQ' : ∀ v c a w, Q (.panic c) (a.put o.dst v) w → Q (.panic c) a w := fun v c a w h => hQ c a nd v w (by rw [hnd] at h; exact h)
      have h7 := h o ho
      simp only [wpQuiet] at h7
      split at h7
      · rename_i hw2
        obtain ⟨v, hv, hk⟩ := h7
        refine wpAnyLast_take ho h1 h2 h3 h4 h5 (hQ' _) (.inl ⟨hw2, fun w' hw' => ?_⟩) hw (mixE_last hQ r _ _ _ h6 hw hk)
        have h8 := hv w' hw'
        unfold Oper.quietAt at h8
        cases hrun : (execOp a.eval o).run P w' with
        | ok n w2 =>
          obtain ⟨u, rfl⟩ := reads_value hr hrun
          rw [hrun] at h8
          obtain ⟨e1, e2⟩ := h8
          rw [e1, e2]
        | halt x w2 => rw [hrun] at h8; exact h8.elim
      · rename_i hw2
        exact wpAnyLast_take ho h1 h2 h3 h4 h5 (hQ' _) (.inr ⟨by simpa using hw2, rfl⟩) hw (mixE_last hQ r _ _ _ h6 hw h7)
  | (false, i) :: r, l, a, w, hc, hw, h => by
    simp only [mixEB, Bool.and_eq_true, beq_iff_eq, Bool.not_eq_true'] at hc
    obtain ⟨⟨h1, h2⟩, h3⟩ := hc
    cases ho : ops[i]? with
    | none =>
      have : i ∈ Region.ready .any ops l := by rw [h1]; simp
      obtain ⟨_, oj, hoj, _⟩ := mem_ready.1 this
      rw [ho] at hoj; cases hoj
    | some o =>
      refine wpAnyLast_ready h1 (by simp) (AllReadyL.cons ho (by simpa using h2) (fun K hK => ?_) AllReadyL.nil)
      have h7 := h o ho
      split at h7
      · rename_i hw2
        rw [if_pos hw2]
        refine Oper.wp_mono ?_ h7
        intro a' w' h8
        exact hK _ _ h8.1 (fun _ => mixE_last hQ r _ _ _ h3 h8.1 h8.2)
      · rename_i hw2
        rw [if_neg hw2]
        exact hK _ _ hw (fun _ => mixE_last hQ r _ _ _ h3 hw h7)
theorem mixE_q {i : Nat} {o : Oper} {r : List (Bool × Nat)} {a : Act} {w : World} (hi : ops.toList[i]? = some o) (h : wpQuiet P ops C (fun a' => wpMixE P ops C Q d r a' w) [o] a) : wpMixE P ops C Q d ((true, i) :: r) a w := by
  rw [Array.getElem?_toList] at hi
  intro o' ho
  rw [hi] at ho; injection ho with ho; subst ho
  exact h
theorem mixE_b {i : Nat} {o : Oper} {r : List (Bool × Nat)} {a : Act} {w : World} (hi : ops.toList[i]? = some o) (h : wpList P ops (mixQ (fun a' w' => C w' ∧ wpMixE P ops C Q d r a' w') Q) [o] a w) (hs : Region.wanted o (yielded ops a.tmps) = true) : wpMixE P ops C Q d ((false, i) :: r) a w := by
  rw [Array.getElem?_toList] at hi
  intro o' ho
  rw [hi] at ho; injection ho with ho; subst ho
  rw [if_pos hs]
  simp only [wpList, hs, if_true] at h
  rcases h with h | h
  · exact wp_of_mixQ (Oper.wp_mono (fun a' w' h' => h') h)
  · obtain ⟨a', w', h'⟩ := h.2
    exact h'.elim
theorem mixE_end {o : Oper} {a : Act} {w : World} (hi : ops.toList[d]? = some o) (h : wpList P ops (mixQ (fun a' w' => Q .normal a' w') Q) [o] a w) (hs : Region.wanted o (yielded ops a.tmps) = true) : wpMixE P ops C Q d [] a w := by
  rw [Array.getElem?_toList] at hi
  intro o' ho
  rw [hi] at ho; injection ho with ho; subst ho
  rw [if_pos hs]
  simp only [wpList, hs, if_true] at h
  rcases h with h | h
  · exact wp_of_mixQ (Oper.wp_mono (fun a' w' h' => h') h)
  · obtain ⟨a', w', h'⟩ := h.2
    exact h'.elim
theorem region_mixE {id : Nat} {a : Act} {w : World} (order : List (Bool × Nat)) (d : Nat) (hm : P.follows .mixedOrders = true) (hc : (mixEB ops d (Array.replicate ops.size false) order && order.length + 1 == ops.size) = true)
    (hQ : ∀ c a n v w, Q (.panic c) (a.put (some n) v) w → Q (.panic c) a w) (h : wpMixE P ops (fun w' => ∃ p : Regrown, w' = grow (redrawn w p.d) p.os) Q d order a w.drew) : (Code.region id ops true).wp P Q a w := by
  simp only [Bool.and_eq_true, beq_iff_eq] at hc
  refine wp_region_last_drew (S := cls w) (ds := [d]) hm (cls_drew w) (fun hS => ?_)
  have := mixE_last hQ order _ a w.drew hc.1 (cls_drew w) h
  rwa [hc.2] at this
end
end Go.Proofs.Ytchjcllpnpibeaa.X
