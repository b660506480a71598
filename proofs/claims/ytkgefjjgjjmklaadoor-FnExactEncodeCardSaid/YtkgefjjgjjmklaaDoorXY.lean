/- What is proved here: contracts of copies of texts and values. Conditions: none. -/
import Derived.Test.YtkgefjjgjjmklaaDoorXR
import Derived.Test.YtkgefjjgjjmklaaDoorXS
import Derived.Test.YtkgefjjgjjmklaaDoorXU
namespace Go.Proofs.YtkgefjjgjjmklaaDoor.X
open Go.RowKit Go.Sort
set_option linter.unusedVariables false
set_option linter.unusedSimpArgs false
open Ty
section
variable {P : Program} {ops : Array Oper} {rest : List Oper} {o : Oper} {a : Act} {Q : Exit → Act → World → Prop}
/-- append(v, ys...), ys strings that are read. -/
theorem append_str {W : World} (hgd : o.guard = none) (s x : Operand) (t e : TypeId) (z : Value) (bytes : Nat)
    (ho : o.op = .call { callee := .builtin .append, args := #[s, x], argTypes := #[t, t] })
    (ht : P.underlying t = some (.slice e)) (hinfo : (P.info? e).map (fun i => (i.zero, i.size, i.bytes)) = some (some z, 1, bytes)) (hz : z.cells.size = 1) (hb0 : 0 < bytes)
    {S S' : Nat → Prop} {v : Value} {xs ys : List ByteArray} {A : Option Addr} {c : Nat}
    (hs : a.eval s = v) (hx : a.eval x = .slice A ys.length c) (HR : str.R e W S v xs) (HC : str.C W A ys)
    (hS : ∀ k, S k → S' k) (hnew : ∀ k, W.heap.size ≤ k → S' k) (hbytes : (xs.length + ys.length) * bytes ≤ 140737488355328)
    (h : ∀ v1 w1, str.R e w1 S' v1 (xs ++ ys) → Fr W w1 S → wpList P ops Q rest (a.put o.dst v1) w1) :
    wpList P ops Q (o :: rest) a W := by
  refine append_gen str (S := S) (S' := S') (v := v) (xs := xs) (ys := ys) hgd s x t e z bytes ho ht hinfo hz (Nat.le_refl 1) hb0 (fun i k => False) A ys.length c (ys.map Value.string) hs hx HR rfl (by simp [str]) (fun j u hu => ?_) (fun u hu => ?_) (fun i y hi => ?_)
    (fun i j k h1 h2 => h1.elim) (fun i k hk => hk.elim) hS (fun i k hk => hk.elim) hnew hbytes h
  · rw [List.getElem?_map] at hu
    obtain ⟨y, hy, rfl⟩ := Option.map_eq_some_iff.1 hu
    obtain ⟨ad, cs, e1, hk, hc⟩ := HC.2 j y hy
    refine ⟨ad, e1, ?_⟩
    have := hc 0 (.string y) (by rw [hk.1]; rfl)
    simpa [str] using this
  · obtain ⟨y, _, rfl⟩ := List.mem_map.1 hu
    rfl
  · have hil := (List.getElem?_eq_some_iff.1 hi).1
    obtain ⟨ad, cs, e1, hk, hc⟩ := HC.2 i y hi
    refine ⟨?_, hk.2⟩
    show ((ys.map Value.string).drop (i * 1)).take 1 = [.string y]
    rw [Nat.mul_one, ← List.map_drop, ← List.map_take, List.drop_eq_getElem_cons hil]
    simp [(List.getElem?_eq_some_iff.1 hi).2]
end
theorem below_frS {w w1 w2 : World} {S : Nat → Prop} (h : Below w.heap.size w w1) (hf : Fr w1 w2 S) (hs : ∀ k, S k → w.heap.size ≤ k) : Below w.heap.size w w2 :=
  ((Fr.of_below h S).trans hf).below hs
end Go.Proofs.YtkgefjjgjjmklaaDoor.X
