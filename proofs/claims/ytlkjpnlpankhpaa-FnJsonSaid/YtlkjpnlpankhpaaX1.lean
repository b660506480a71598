/- What is proved here: a region that draws its order, whose readers (loads, moves, arithmetic) look at elder memory alone: one order, readers first, serves every order. Conditions: none. -/
import Derived.Test.YtlkjpnlpankhpaaX0
import Derived.Test.YtlkjpnlpankhpaaWLast
namespace Go.Proofs.Ytlkjpnlpankhpaa.X
open Go.RowKit Go.Sort Go.Proofs.YtlkjpnlpankhpaaW.PrintLast
set_option linter.unusedVariables false
set_option linter.unusedSimpArgs false

/-- It yields a value or ends the run. -/
def readsB : Op → Bool
  | .move _ | .assign _ | .pick .. | .load .. | .binOp .. | .unOp .. | .fieldAddr .. | .field .. | .indexAddr .. | .index .. | .extract .. | .slice .. | .convert .. => true
  | .call c => match c.callee with
    | .builtin .len => true
    | _ => false
  | _ => false
theorem andThen_value {s : Sem Value} {P : Program} {w w' : World} {n : Next} (h : ((do pure (Next.value (← s)) : Sem Next)).run P w = .ok n w') : ∃ u, n = .value u := by
  simp only [Sem.run_bind, Sem.run_pure] at h
  cases hs : s.run P w with
  | ok x w2 => rw [hs] at h; simp only [Result.andThen_ok] at h; injection h with h1 h2; exact ⟨x, h1.symm⟩
  | halt x w2 => rw [hs] at h; simp [Result.andThen] at h
theorem reads_value {ρ : Operand → Value} {o : Oper} {P : Program} {w w' : World} {n : Next} (hr : readsB o.op = true) (h : (execOp ρ o).run P w = .ok n w') : ∃ u, n = .value u := by
  unfold execOp at h
  unfold readsB at hr
  split at hr <;> rename_i he <;> simp only [he] at h <;> try (first | exact andThen_value h | cases hr)
  · simp only [Sem.run_pure] at h; injection h with h1 _; exact ⟨_, h1.symm⟩
  · simp only [Sem.run_pure] at h; injection h with h1 _; exact ⟨_, h1.symm⟩
  · simp only [Sem.run_bind, Sem.run_pure] at h
    generalize Sem.run P (asBool _) w = r at h
    cases r with
    | ok x w2 => simp only [Result.andThen_ok] at h; cases x <;> (simp at h; exact ⟨_, h.1.symm⟩)
    | halt x w2 => simp [Result.andThen] at h
  · rename_i c
    split at hr
    · rename_i hc
      simp only [resolve, hc, Sem.run_bind, Sem.run_pure, Result.andThen_ok, invoke, builtin] at h
      generalize Sem.run P (Builtin.len_ _ _ _) w = r at h
      cases r with
      | ok x w2 => simp only [Result.andThen_ok] at h; injection h with h1 _; exact ⟨_, h1.symm⟩
      | halt x w2 => simp [Result.andThen] at h
    · cases hr
section
variable {P : Program} {ops : Array Oper} {Q : Exit → Act → World → Prop} {C : World → Prop} {ds : List Nat}
/-- One order that serves: (true, i): operation i, a reader, is taken; (false, i): operation i alone may come up. -/
def mixB (ops : Array Oper) (ds : List Nat) : Array Bool → List (Bool × Nat) → Bool
  | l, [] => Region.ready .any ops l == []
  | l, (true, i) :: r => (ops[i]?.map (fun o => readsB o.op && o.dst.isSome)).getD false && Region.noSelect ops && Region.free .any ops l i && (Region.ready .any ops l).contains i && Region.closedB .any ops l && Region.lastB .any ops l ds i && mixB ops ds (l.setIfInBounds i true) r
  | l, (false, i) :: r => (Region.ready .any ops l == [i]) && !(ds.contains i) && mixB ops ds (l.setIfInBounds i true) r
/-- What is to be shown, in that order. -/
def wpMix (P : Program) (ops : Array Oper) (C : World → Prop) (Q : Exit → Act → World → Prop) : List (Bool × Nat) → Act → World → Prop
  | [], a, w => Q .normal a w
  | (true, i) :: r, a, w => ∀ o, ops[i]? = some o → wpQuiet P ops C (fun a' => wpMix P ops C Q r a' w) [o] a
  | (false, i) :: r, a, w => ∀ o, ops[i]? = some o → if Region.wanted o (yielded ops a.tmps) then Oper.wp P o a w (fun a' w' => C w' ∧ wpMix P ops C Q r a' w') Q else wpMix P ops C Q r (a.put o.dst undef) w
theorem mix_last (hQ : ∀ c n a v w, Q (.panic c) (a.put (some n) v) w → Q (.panic c) a w) : ∀ (r : List (Bool × Nat)) (l : Array Bool) (a : Act) (w : World), mixB ops ds l r = true → C w → wpMix P ops C Q r a w → wpAnyLast P .any ops Q C ds r.length l a w
  | [], l, a, w, hc, hw, h => by
    simp only [mixB, beq_iff_eq] at hc
    exact ⟨hc, h⟩
  | (true, i) :: r, l, a, w, hc, hw, h => by
    simp only [mixB, Bool.and_eq_true] at hc
    obtain ⟨⟨⟨⟨⟨⟨h0, h1⟩, h2⟩, h3⟩, h4⟩, h5⟩, h6⟩ := hc
    cases ho : ops[i]? with
    | none => rw [ho] at h0; cases h0
    | some o =>
      rw [ho] at h0
      simp only [Option.map_some, Option.getD_some, Bool.and_eq_true] at h0
      obtain ⟨hr, hdst⟩ := h0
      obtain ⟨nd, hnd⟩ := Option.isSome_iff_exists.1 hdst
      have hQ' : ∀ v c a w, Q (.panic c) (a.put o.dst v) w → Q (.panic c) a w := fun v c a w h => hQ c nd a v w (by rw [hnd] at h; exact h)
      have h7 := h o ho
      simp only [wpQuiet] at h7
      split at h7
      · rename_i hw2
        obtain ⟨v, hv, hk⟩ := h7
        refine wpAnyLast_take ho h1 h2 h3 h4 h5 (hQ' _) (.inl ⟨hw2, fun w' hw' => ?_⟩) hw (mix_last hQ r _ _ _ h6 hw hk)
        have h8 := hv w' hw'
        unfold Oper.quietAt at h8
        cases hrun : (execOp a.eval o).run P w' with
        | ok n w2 =>
          obtain ⟨u, rfl⟩ := reads_value hr hrun
          rw [hrun] at h8
          obtain ⟨e1, e2⟩ := h8
          rw [e1, e2]
        | halt x w2 => rw [hrun] at h8; exact h8.elim
      · rename_i hw2
        exact wpAnyLast_take ho h1 h2 h3 h4 h5 (hQ' _) (.inr ⟨by simpa using hw2, rfl⟩) hw (mix_last hQ r _ _ _ h6 hw h7)
  | (false, i) :: r, l, a, w, hc, hw, h => by
    simp only [mixB, Bool.and_eq_true, beq_iff_eq, Bool.not_eq_true'] at hc
    obtain ⟨⟨h1, h2⟩, h3⟩ := hc
    cases ho : ops[i]? with
    | none =>
      have : i ∈ Region.ready .any ops l := by rw [h1]; simp
      obtain ⟨_, oj, hoj, _⟩ := mem_ready.1 this
      rw [ho] at hoj; cases hoj
    | some o =>
      refine wpAnyLast_ready h1 (by simp) (AllReadyL.cons ho (by simpa using h2) (fun K hK => ?_) AllReadyL.nil)
      have h7 := h o ho
      split at h7
      · rename_i hw2
        rw [if_pos hw2]
        refine Oper.wp_mono ?_ h7
        intro a' w' h8
        exact hK _ _ h8.1 (fun _ => mix_last hQ r _ _ _ h3 h8.1 h8.2)
      · rename_i hw2
        rw [if_neg hw2]
        exact hK _ _ hw (fun _ => mix_last hQ r _ _ _ h3 hw h7)
/-- What the steps of one operation lead to. -/
def mixQ (next : Act → World → Prop) (Q : Exit → Act → World → Prop) : Exit → Act → World → Prop
  | .normal, a, w => next a w
  | .panic c, a, w => Q (.panic c) a w
  | _, _, _ => False
theorem wp_of_mixQ {o : Oper} {a : Act} {w : World} {K : Act → World → Prop} (h : o.wp P a w K (mixQ K Q)) : o.wp P a w K Q := by
  unfold Oper.wp at h ⊢
  generalize (execOp a.eval o).run P w = r at h ⊢
  cases r with
  | ok n w' =>
    cases n with
    | enter f args =>
      simp only [Oper.upon_enter] at h ⊢
      refine h.mono fun e w'' he => ?_
      cases e with
      | returned v => exact he
      | panicked c => exact he
      | outgrown => obtain ⟨a', w2, h2⟩ := he; exact h2.elim
    | _ => exact h
  | halt x w' =>
    cases x with
    | panic v => exact h
    | _ => exact h
theorem mix_nil {a : Act} {w : World} (h : Q .normal a w) : wpMix P ops C Q [] a w := h
theorem mix_q {i : Nat} {o : Oper} {r : List (Bool × Nat)} {a : Act} {w : World} (hi : ops.toList[i]? = some o) (h : wpQuiet P ops C (fun a' => wpMix P ops C Q r a' w) [o] a) : wpMix P ops C Q ((true, i) :: r) a w := by
  rw [Array.getElem?_toList] at hi
  intro o' ho
  rw [hi] at ho; injection ho with ho; subst ho
  exact h
theorem mix_b {i : Nat} {o : Oper} {r : List (Bool × Nat)} {a : Act} {w : World} (hi : ops.toList[i]? = some o) (h : wpList P ops (mixQ (fun a' w' => C w' ∧ wpMix P ops C Q r a' w') Q) [o] a w) (hs : Region.wanted o (yielded ops a.tmps) = true) : wpMix P ops C Q ((false, i) :: r) a w := by
  rw [Array.getElem?_toList] at hi
  intro o' ho
  rw [hi] at ho; injection ho with ho; subst ho
  rw [if_pos hs]
  simp only [wpList, hs, if_true] at h
  rcases h with h | h
  · exact wp_of_mixQ (Oper.wp_mono (fun a' w' h' => h') h)
  · obtain ⟨a', w', h'⟩ := h.2
    exact h'.elim
theorem mix_s {i : Nat} {o : Oper} {r : List (Bool × Nat)} {a : Act} {w : World} (hi : ops.toList[i]? = some o) (hs : Region.wanted o (yielded ops a.tmps) = false) (h : wpMix P ops C Q r (a.put o.dst undef) w) : wpMix P ops C Q ((false, i) :: r) a w := by
  rw [Array.getElem?_toList] at hi
  intro o' ho
  rw [hi] at ho; injection ho with ho; subst ho
  rw [if_neg (by rw [hs]; simp)]
  exact h
theorem mix_z {i : Nat} {o : Oper} {r : List (Bool × Nat)} {a : Act} {w : World} (hi : ops.toList[i]? = some o) (hs : Region.wanted o (yielded ops a.tmps) = false) (h : wpQuiet P ops C (fun a' => wpMix P ops C Q r a' w) [o] a) : wpMix P ops C Q ((false, i) :: r) a w := by
  refine mix_s hi hs ?_
  simp only [wpQuiet] at h
  rw [if_neg (by rw [hs]; simp)] at h
  exact h
/-- The worlds that leave w as it is. -/
def cls (w : World) : World → Prop := fun w' => ∃ p : Regrown, w' = grow (redrawn w p.d) p.os
theorem cls_below {w w' : World} (h : Below w.heap.size w w') : cls w w' := regrown_of_below h
theorem cls_drew (w : World) : cls w w.drew := cls_below (below_drew (Below.refl _ _))
theorem region_mix {id : Nat} {a : Act} {w : World} (order : List (Bool × Nat)) (hm : P.follows .mixedOrders = true) (hc : (mixB ops [] (Array.replicate ops.size false) order && order.length == ops.size) = true)
    (hQ : ∀ c n a v w, Q (.panic c) (a.put (some n) v) w → Q (.panic c) a w) (h : wpMix P ops (fun w' => ∃ p : Regrown, w' = grow (redrawn w p.d) p.os) Q order a w.drew) : (Code.region id ops true).wp P Q a w := by
  simp only [Bool.and_eq_true, beq_iff_eq] at hc
  refine wp_region_last_drew (S := cls w) (ds := []) hm (cls_drew w) (fun hS => ?_)
  have := mix_last hQ order _ a w.drew hc.1 (cls_drew w) h
  rwa [hc.2] at this
end
end Go.Proofs.Ytlkjpnlpankhpaa.X
