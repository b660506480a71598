/- What is proved here: the law FnExactBack answers true at every input, and leaves its arguments as they read. Conditions: none. -/
import Derived.Test.YtnpogfhfjofbmaaRows
import Derived.Test.YtnpogfhfjofbmaaXLFnExactBack
import Derived.Test.YtnpogfhfjofbmaaX2
import Derived.WalkKit
import Derived.ProofKit
import Derived.OpenShut
import Derived.ShutString
import Derived.ChangeOld
import Derived.Below
import Derived.SizedLaws
namespace Go.Proofs.Ytnpogfhfjofbmaa.fnExactBack
open Go.ChangeShapes Go.WideShapes Go.ChangeAt Go.RowKit Go.Proofs.Ytnpogfhfjofbmaa.X Go.Proofs.Ytnpogfhfjofbmaa.X.Ty
open Go.ChangeMaps (open_string shut_string)
set_option linter.unusedVariables false
theorem own : ownKnob Try.prog.godebug = none := by kernel_rfl
theorem laidOut : laidOutB Try.prog = true := by kernel_rfl
set_option maxRecDepth 100000 in
theorem lifted (os : Os) (started : os.Started) (H : Type) (enc : TypeId × Value → H) :
    ReturnsInHanded {} Try.checked os 3 .any (Rows.fnExactBackSpec.pre6 enc Try.prog Try.f3 Rows.fnExactBackRow.domain false) (Rows.fnExactBackSpec.post enc Try.prog Try.f3 false true false false) := by
  refine returnsInHanded_of_change_sized (C := Try.checked) own started (by as_aux_lemma => kernel_rfl) Try.func3
    (ChangeSpec.witness6 (enc := enc) (C := Try.checked) false ⟨#[], #[.agg #[.slice none 0 0, .int .i64 0, .slice none 0 0], .agg #[.int .i64 0, .bool false, .bool false, .int .i64 0, .slice none 0 0, .int .i64 0, .slice none 0 0]], []⟩ 8 (by as_aux_lemma => kernel_rfl) (by as_aux_lemma => kernel_rfl) (by as_aux_lemma => kernel_rfl) (by as_aux_lemma => kernel_rfl)) ?_
  intro W base args ds gs before hval0 hW hcnd hsz0 _
  have hsz : (DataW.weightsEach Try.prog (Try.f3.params.toList ++ Rows.fnExactBackSpec.plain.varTypes Try.prog) (ds ++ gs)).all (· ≤ reachBytes) = true := hsz0
  have hval : ∀ (j : Nat) t v, Try.f3.params[j]? = some t → args[j]? = some v → Value.okWide Try.prog W .any base t v := hval0
  have hW' := hW
  obtain ⟨p, q, hA0, hV, rfl, hfz, hnd⟩ := hW
  have hA : DataW.TrodAll enc Try.prog W 0 (fun _ => true) true Try.f3.params.toList args.toList ds p := hA0
  rw [Try.params3] at hA hval hsz
  obtain ⟨v0, vs0, d0, ds0, p0, q0, hargs, rfl, rfl, h0, r0⟩ := trodAll_cons hA
  obtain ⟨v1, vs1, d1, ds1, p1, q1, rfl, rfl, rfl, h1, r1⟩ := trodAll_cons r0
  obtain ⟨rfl, rfl, rfl⟩ := trodAll_nil r1
  obtain rfl : args = #[v0, v1] := by cases args; simp_all
  obtain ⟨rfl, rfl⟩ := trodVars_none hV
  have k0 := h0
  have lt0 : ∀ x ∈ p0, x.block < W.heap.size := by obtain ⟨m, hm⟩ := k0; exact DataW.trod_lt m _ _ _ hm
  obtain ⟨c0, rfl, _⟩ := okWide_struct Try.underlying27 (hval 0 27 v0 rfl rfl)
  obtain ⟨B0, hB0⟩ := h0
  obtain ⟨x0, K0, _⟩ := o_Store B0 H enc W _ _ _ B0 (Nat.le_refl _) _ _ hB0
  have K0 : tStore.K W x0 c0.toList := by simpa [Value.cells] using K0
  obtain ⟨l0, rfl⟩ : ∃ l : List Value, c0 = l.toArray := ⟨c0.toList, by simp⟩
  have k1 := h1
  have lt1 : ∀ x ∈ p1, x.block < W.heap.size := by obtain ⟨m, hm⟩ := k1; exact DataW.trod_lt m _ _ _ hm
  obtain ⟨c1, rfl, _⟩ := okWide_struct Try.underlying31 (hval 1 31 v1 rfl rfl)
  obtain ⟨B1, hB1⟩ := h1
  obtain ⟨x1, K1, _⟩ := o_Change B1 H enc W _ _ _ B1 (Nat.le_refl _) _ _ hB1
  have K1 : tChange.K W x1 c1.toList := by simpa [Value.cells] using K1
  obtain ⟨l1, rfl⟩ : ∃ l : List Value, c1 = l.toArray := ⟨c1.toList, by simp⟩
  clear hA0 hval0 hsz0 hsz
  refine (laws_FnExactBack x0 l0 (by simpa using K0) x1 l1 (by simpa using K1)).mono fun e W' ⟨he, bel⟩ => ?_
  subst he
  exact ⟨_, rfl, _, _, _, [], _, [], hW', trodAll_mk1 (shut_bool Try.underlying4 _), (trodAll_cons_mk (Below.trod laidOut (by as_aux_lemma => kernel_rfl) (of_decide_eq_true (by as_aux_lemma => kernel_rfl)) k0 bel lt0) (trodAll_cons_mk (Below.trod laidOut (by as_aux_lemma => kernel_rfl) (of_decide_eq_true (by as_aux_lemma => kernel_rfl)) k1 bel lt1) trodAll_mk0)), rfl, bel.frame _, fun h => by cases h⟩
theorem fin : (Rows.fnExactBackRow.lifted == Try.prog.liftsFinal) = true := final_
theorem mk : (Try.prog.make == some Rows.fnExactBackRow.make) = true := make_
set_option maxHeartbeats 2000000 in
set_option maxRecDepth 100000 in
theorem facts : joinedFacts Try.prog 3 Try.f3 Rows.fnExactBackSpec Rows.fnExactBackRow = true := by
  unfold joinedFacts
  repeat' (with_reducible refine andB ?_ ?_)
  all_goals (first | (with_reducible exact enter_) | (with_reducible exact fin) | (with_reducible exact mk) | (as_aux_lemma => kernel_rfl))
theorem over : Rows.fnExactBackRow.holds Try.pinned (OpenSpec.ofChange Rows.fnExactBackSpec) :=
  OpenClaim.holds_of_wide 3 Try.f3 rfl rfl rfl rfl rfl rfl rfl ⟨rfl, rfl, rfl, rfl, rfl⟩ rfl rfl rfl rfl rfl (by as_aux_lemma => kernel_rfl) Try.func3 facts
    (of_decide_eq_true (by as_aux_lemma => kernel_rfl)) (by unfold Func.isWrapper; first | (rw [if_pos (by decide +kernel)]; kernel_rfl) | (rw [if_neg (by decide +kernel)]; exact ⟨rfl, rfl⟩))
    (fun os started H enc _ => lifted os started H enc)
theorem proved : Rows.FnExactBackSaid := over
end Go.Proofs.Ytnpogfhfjofbmaa.fnExactBack
namespace Go.Proofs.Ytnpogfhfjofbmaa
theorem fnExactBack_holds : Rows.FnExactBackSaid := fnExactBack.proved
#print axioms fnExactBack_holds
end Go.Proofs.Ytnpogfhfjofbmaa
