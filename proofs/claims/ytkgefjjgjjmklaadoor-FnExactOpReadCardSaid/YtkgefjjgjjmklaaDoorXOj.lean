/- What is proved here: the value of a step of a patch (pure), the tables of its names. Conditions: none. -/
import Derived.Test.YtkgefjjgjjmklaaDoorXPv
import Derived.Test.YtkgefjjgjjmklaaDoorXWt
import Derived.Test.YtkgefjjgjjmklaaDoorXR
import Derived.Test.YtkgefjjgjjmklaaDoorXGg
namespace Go.Proofs.YtkgefjjgjjmklaaDoor.X
open Go.RowKit Go.Sort
set_option linter.unusedVariables false
set_option linter.unusedSimpArgs false
open Ty
theorem R_strsN {W0 : World} (l : List ByteArray) (hl : l.length ≤ 1000) (hs : ∀ s ∈ l, s.size ≤ 1000) : str.R 9 (W0.alloc (.cells (l.map Value.string).toArray 9)) (fun k => k = W0.heap.size) (.slice (some ⟨W0.heap.size, 0, none⟩) l.length l.length) l := by
  refine R_block (cap := l.length) (heap_alloc_new W0 _) rfl (Nat.le_refl _) (by omega) (by simp [show str.sz = 1 from rfl]) (fun _ => 0) (fun i x h => ?_)
  have hi := (List.getElem?_eq_some_iff.1 h).1
  have hx := (List.getElem?_eq_some_iff.1 h).2
  have hz := hs x (by rw [← hx]; exact List.getElem_mem hi)
  show (((l.map Value.string).toArray.toList).drop (i * 1)).take 1 = [.string x] ∧ x.size ≤ 9223372036854775807
  refine ⟨?_, by omega⟩
  rw [Nat.mul_one, List.drop_eq_getElem_cons (by simpa using hi)]
  simp [hx]
def nmOp : ByteArray := ⟨#[111, 112]⟩
def nmPath : ByteArray := ⟨#[112, 97, 116, 104]⟩
def nmValue : ByteArray := ⟨#[118, 97, 108, 117, 101]⟩
/-- The names of the kinds. -/
def kindL : List ByteArray := [⟨#[97, 100, 100]⟩, ⟨#[114, 101, 109, 111, 118, 101]⟩, ⟨#[114, 101, 112, 108, 97, 99, 101]⟩, ⟨#[116, 101, 115, 116]⟩]
def kindL0 : List ByteArray := ⟨#[]⟩ :: kindL
def kindNm (k : Int) : ByteArray := kindL.getD (k - 1).toNat ⟨#[]⟩
def txt (s : ByteArray) : J := ⟨3, 0, s, [], []⟩
/-- A step of a patch as a value, before it is judged. -/
def opRaw0 (o : JOp) : J := ⟨5, 0, ⟨#[]⟩, [txt (kindNm o.kind), txt ⟨(wayB o.way).toArray⟩], [nmOp, nmPath]⟩
def opRaw (o : JOp) : J := if o.kind = 2 then opRaw0 o else ⟨5, 0, ⟨#[]⟩, [txt (kindNm o.kind), txt ⟨(wayB o.way).toArray⟩, o.value], [nmOp, nmPath, nmValue]⟩
noncomputable def opJ (o : JOp) : J := if opOk o = true ∧ jsonOk (opRaw o) = true then opRaw o else J.null
theorem toList_mk (l : Array UInt8) : (⟨l⟩ : ByteArray).toList = l.toList := by rw [ByteArray.toList_eq]
theorem lt_op : ltB nmOp nmValue = true := by unfold ltB nmOp nmValue; rw [toList_mk, toList_mk]; decide
theorem lt_path : ltB nmPath nmValue = true := by unfold ltB nmPath nmValue; rw [toList_mk, toList_mk]; decide
theorem ne_op : (nmOp.toList == nmValue.toList) = false := by unfold nmOp nmValue; rw [toList_mk, toList_mk]; decide
theorem ne_path : (nmPath.toList == nmValue.toList) = false := by unfold nmPath nmValue; rw [toList_mk, toList_mk]; decide
theorem put_value (o : JOp) (h : o.kind ≠ 2) : putJ (opRaw0 o) o.value nmValue = opRaw o := by
  have hE : putE (opRaw0 o).names nmValue (opRaw0 o).list.length = ([nmOp, nmPath, nmValue], [0, 1, 2]) := by
    show putE [nmOp, nmPath] nmValue 2 = _
    unfold putE
    simp [putS, putIn, putOn, lt_op, lt_path, ne_op, ne_path]
  unfold putJ opRaw
  rw [hE, if_neg h]
  simp [putSrc, opRaw0]
set_option maxRecDepth 100000 in
theorem spec_l4Names (w : World) : Calls Tryd.prog 69 #[] w fun e w' => ∃ A, e = .returned (.slice A 5 5) ∧ str.C w' A kindL0 ∧ Below w.heap.size w w' := by
  have HR := Hd.mk (R_strsN (W0 := w) kindL0 (by decide) (by decide))
  go_enter Tryd.func69, Tryd.ntmps69
  go_wp2_with fail
  go_ret
  exact ⟨_, rfl, R_Cv HR.out, below_alloc (Below.refl _ _) _⟩
set_option maxRecDepth 100000 in
theorem impl_opNames (w : World) : Calls Tryd.prog 73 #[] w fun e w' => ∃ A, e = .returned (.slice A 4 4) ∧ str.C w' A kindL ∧ Below w.heap.size w w' := by
  have HR := Hd.mk (R_strsN (W0 := w) kindL (by decide) (by decide))
  go_enter Tryd.func73, Tryd.ntmps73
  go_wp2_with fail
  go_ret
  exact ⟨_, rfl, R_Cv HR.out, below_alloc (Below.refl _ _) _⟩
end Go.Proofs.YtkgefjjgjjmklaaDoor.X
