/- What is proved here: a world in which the library's own variables hold what their initialisers lay, and what the list of a row says of a world. Conditions: none. -/
import Derived.Test.YtkgefjjgjjmklaaDoorRows
import Derived.Test.YtkgefjjgjjmklaaDoorXEn
import Derived.WalkKit
import Derived.ProofKit
import Derived.OpenShut
import Derived.Deep.DeepHandedRow
import Derived.Lib.LaidTab
import Derived.Stop.LaidErr
import Derived.Shelf.Vars
namespace Go.Proofs.YtkgefjjgjjmklaaDoor.X
open Go.ChangeShapes Go.WideShapes Go.ChangeAt Go.RowKit
set_option linter.unusedVariables false
def flat1 : DataW Unit → List Value
  | .agg ps => ps.map fun
    | .lit (.int k z) => .int k z
    | _ => undef
  | _ => []
def flat2 : DataW Unit → List Value
  | .agg ps => ps.flatMap flat1
  | _ => []
def setG (g : Nat) (cs : List Value) (h : Array Obj) : Array Obj := h.modify g fun
  | .cells _ t frozen => .cells cs.toArray t frozen
  | o => o
abbrev synS : ByteArray := { data := #[105, 110, 118, 97, 108, 105, 100, 32, 115, 121, 110, 116, 97, 120] }
abbrev rngS : ByteArray := { data := #[118, 97, 108, 117, 101, 32, 111, 117, 116, 32, 111, 102, 32, 114, 97, 110, 103, 101] }
/-- So many blocks has the settled world. -/
noncomputable def low : Nat := (World.holding Tryd.prog default ⟨#[], #[], []⟩).heap.size
/-- The settled world, the listed variables as their initialisers lay them. -/
noncomputable def laidWorld (os : Os) : World :=
  let w0 := World.holding Tryd.prog os ⟨#[.cells #[.string synS] 156, .cells #[.string rngS] 156], #[], []⟩
  { w0 with heap := setG 0 [.iface 154 (.pointer (some ⟨low, 0, none⟩))] (setG 1 [.iface 154 (.pointer (some ⟨low + 1, 0, none⟩))]
      (setG 5 (flat1 Rows.laid_internal_strconv_uint64pow10) (setG 6 (flat1 Rows.laid_math_bits_deBruijn32tab) (setG 7 (flat1 Rows.laid_math_bits_deBruijn64tab)
      (setG 3 (flat1 Rows.laid_unicode_utf8_first) (setG 4 (flat2 Rows.laid_unicode_utf8_acceptRanges) w0.heap)))))) }
theorem gES : Tryd.prog.globalNamed "strconv.ErrSyntax" = some 0 := by kernel_rfl
theorem gER : Tryd.prog.globalNamed "strconv.ErrRange" = some 1 := by kernel_rfl
theorem gPT : Tryd.prog.globalNamed "internal/strconv.uint64pow10" = some 5 := by kernel_rfl
theorem star : "*" ++ "errors.errorString" = "*errors.errorString" := by decide
theorem rowES (u : TypeId) (h : Tryd.prog.typeName? 3 u = some "*errors.errorString") : u = 154 :=
  typeName_ptr_named (nm := "errors.errorString") (by rw [star]; kernel_rfl) (by kernel_rfl) (by decide) u (by rw [star]; exact h)
theorem envM_of {W : World} (h : W.ShapedOpen Tryd.prog) : EnvM W :=
  Go.Proofs.cell_of_shapedOpen_int (zero := #[.int .i64 0]) (t := 3) h (of_decide_eq_true (by kernel_rfl)) (by kernel_rfl) rfl (by kernel_rfl) (by kernel_rfl) Tryd.underlying3
theorem envT_of {rest : List (String × DataW Unit)} {W : World} (h : laidMet Tryd.prog (("internal/strconv.uint64pow10", Rows.laid_internal_strconv_uint64pow10) :: rest) W) : EnvT W :=
  Lib.tabIs_of_head (k := .u64) (zs := Lib.pow10Tab) (rest := rest) (t := 158) (e := 131) (n := 20) gPT (by kernel_rfl) (by kernel_rfl) (by kernel_rfl) (by kernel_rfl) (by kernel_rfl) h
theorem envE_of {rest : List (String × DataW Unit)} {W : World} (h : laidMet Tryd.prog (("strconv.ErrRange", Rows.laid_strconv_ErrRange) :: ("strconv.ErrSyntax", Rows.laid_strconv_ErrSyntax) :: rest) W) : EnvE W := by
  obtain ⟨a1, s1, hv1, -, -, -⟩ := laid_sentinel (ti := 79) (tp := 154) (te := 156) (ts := 9) h gER (by kernel_rfl) Tryd.underlying79 rowES Tryd.underlying154 Tryd.underlying156 rfl rfl Tryd.underlying9 (by kernel_rfl) (by kernel_rfl)
  obtain ⟨a0, s0, hv0, -, -, -⟩ := laid_sentinel (ti := 79) (tp := 154) (te := 156) (ts := 9) h.tail gES (by kernel_rfl) Tryd.underlying79 rowES Tryd.underlying154 Tryd.underlying156 rfl rfl Tryd.underlying9 (by kernel_rfl) (by kernel_rfl)
  exact ⟨⟨_, _, hv0⟩, _, _, hv1⟩
end Go.Proofs.YtkgefjjgjjmklaaDoor.X
