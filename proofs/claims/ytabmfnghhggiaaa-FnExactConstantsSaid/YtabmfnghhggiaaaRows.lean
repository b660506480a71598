/-
  NARROWER THAN 'FOR EVERY INPUT', by the rows' own cells (each row's printed sentence says how): FnExactJsonOk: loops · FnExactJsonSize: loops.
  DERIVED. THE GIVEN ROWS OF THIS SEAT. 11 by the template 'for every input the law returns true; each argument reads behind the call as it read before'; 0 by the template 'total and deterministic' (their statements: YtabmfnghhggiaaaTotals.lean).
  GIVEN WITH THE SEED: the statements are not yours to turn. If you find one false, say at which input.
  Laid BY PROGRAM, IN A SANDBOX (cutbox-rows.mjs): the forced cells as the released guide's own fill.sh prints them over the translation add8699f42a7d4ad… (all of the seat's roots in one cut). By AI agents, Wed Nov 11 2026. No macro, syntax, notation, axiom, sorry.
-/
import Derived.Test.YtabmfnghhggiaaaChecked
import GoSem.Claim
import GoSem.ClaimJoined
import GoSem.ClaimMapViews
import Derived.JoinedTies
import Derived.KernelRfl
namespace Go.Proofs.Ytabmfnghhggiaaa
/- THE CELL 'sum', in the pinned program and in every row, IS THE sha256 OF THE DUMP (.gsa) THAT YtabmfnghhggiaaaProg.lean LOADS. Nothing in Lean hashes anything: it is a label: what it is worth is what the hold of that sum in a sandbox is worth. -/
noncomputable def Try.pinned : Pinned := { name := "ytabmfnghhggiaaa", sum := "add8699f42a7d4ad9d44ce76b8394c5f0548157cd0c765f7da3bcff0c90b1f44", checked := Try.checked }
namespace Rows
def none {H : Type} : Left H := { results := [], args := [] }

/-- 'laws.FnExactConstants': WHATEVER THE INPUT: true; the input reads as it did. -/
def fnExactConstantsSpec : ChangeSpec := { name := "fnExactConstants", fn := fun _ => fun
  | [] => { results := [.lit (.bool true)], args := [] }
  | _ => none }
def fnExactConstantsRow : OpenClaim := { program := "ytabmfnghhggiaaa", sum := "add8699f42a7d4ad9d44ce76b8394c5f0548157cd0c765f7da3bcff0c90b1f44", func := "loop.example/g00198/laws.FnExactConstants", spec := "fnExactConstants", apart := false }
def FnExactConstantsSaid : Prop := fnExactConstantsRow.holds Try.pinned (OpenSpec.ofChange fnExactConstantsSpec)

/-- ITS FALSE NEIGHBOUR: 'it returns false'. Refute it at one input. -/
def fnExactConstantsWrong : ChangeSpec := { name := "fnExactConstants", fn := fun _ => fun
  | [] => { results := [.lit (.bool false)], args := [] }
  | _ => none }
def FnExactConstantsWrongFalsely : Prop := fnExactConstantsRow.holds Try.pinned (OpenSpec.ofChange fnExactConstantsWrong)

/-- 'laws.FnExactSchemaOk': WHATEVER THE INPUT: true; the input reads as it did. -/
def fnExactSchemaOkSpec : ChangeSpec := { name := "fnExactSchemaOk", fn := fun _ => fun
  | [d] => { results := [.lit (.bool true)], args := [d] }
  | _ => none }
def fnExactSchemaOkRow : OpenClaim := { program := "ytabmfnghhggiaaa", sum := "add8699f42a7d4ad9d44ce76b8394c5f0548157cd0c765f7da3bcff0c90b1f44", func := "loop.example/g00198/laws.FnExactSchemaOk", spec := "fnExactSchemaOk", apart := false }
def FnExactSchemaOkSaid : Prop := fnExactSchemaOkRow.holds Try.pinned (OpenSpec.ofChange fnExactSchemaOkSpec)

/-- ITS FALSE NEIGHBOUR: 'it returns false'. Refute it at one input. -/
def fnExactSchemaOkWrong : ChangeSpec := { name := "fnExactSchemaOk", fn := fun _ => fun
  | [d] => { results := [.lit (.bool false)], args := [d] }
  | _ => none }
def FnExactSchemaOkWrongFalsely : Prop := fnExactSchemaOkRow.holds Try.pinned (OpenSpec.ofChange fnExactSchemaOkWrong)

/-- 'laws.FnExactRowSame': WHATEVER THE INPUT: true; the input reads as it did. -/
def fnExactRowSameSpec : ChangeSpec := { name := "fnExactRowSame", fn := fun _ => fun
  | [d1, d2] => { results := [.lit (.bool true)], args := [d1, d2] }
  | _ => none }
def fnExactRowSameRow : OpenClaim := { program := "ytabmfnghhggiaaa", sum := "add8699f42a7d4ad9d44ce76b8394c5f0548157cd0c765f7da3bcff0c90b1f44", func := "loop.example/g00198/laws.FnExactRowSame", spec := "fnExactRowSame", apart := false }
def FnExactRowSameSaid : Prop := fnExactRowSameRow.holds Try.pinned (OpenSpec.ofChange fnExactRowSameSpec)

/-- ITS FALSE NEIGHBOUR: 'it returns false'. Refute it at one input. -/
def fnExactRowSameWrong : ChangeSpec := { name := "fnExactRowSame", fn := fun _ => fun
  | [d1, d2] => { results := [.lit (.bool false)], args := [d1, d2] }
  | _ => none }
def FnExactRowSameWrongFalsely : Prop := fnExactRowSameRow.holds Try.pinned (OpenSpec.ofChange fnExactRowSameWrong)

/-- 'laws.FnExactRowAt': WHATEVER THE INPUT: true; the input reads as it did. -/
def fnExactRowAtSpec : ChangeSpec := { name := "fnExactRowAt", fn := fun _ => fun
  | [d1, d2] => { results := [.lit (.bool true)], args := [d1, d2] }
  | _ => none }
def fnExactRowAtRow : OpenClaim := { program := "ytabmfnghhggiaaa", sum := "add8699f42a7d4ad9d44ce76b8394c5f0548157cd0c765f7da3bcff0c90b1f44", func := "loop.example/g00198/laws.FnExactRowAt", spec := "fnExactRowAt", unfollowed := true, recurses := true, apart := false }
def FnExactRowAtSaid : Prop := fnExactRowAtRow.holds Try.pinned (OpenSpec.ofChange fnExactRowAtSpec)

/-- ITS FALSE NEIGHBOUR: 'it returns false'. Refute it at one input. -/
def fnExactRowAtWrong : ChangeSpec := { name := "fnExactRowAt", fn := fun _ => fun
  | [d1, d2] => { results := [.lit (.bool false)], args := [d1, d2] }
  | _ => none }
def FnExactRowAtWrongFalsely : Prop := fnExactRowAtRow.holds Try.pinned (OpenSpec.ofChange fnExactRowAtWrong)

/-- 'laws.FnExactRowOk': WHATEVER THE INPUT: true; the input reads as it did. -/
def fnExactRowOkSpec : ChangeSpec := { name := "fnExactRowOk", fn := fun _ => fun
  | [d1, d2, d3] => { results := [.lit (.bool true)], args := [d1, d2, d3] }
  | _ => none }
def fnExactRowOkRow : OpenClaim := { program := "ytabmfnghhggiaaa", sum := "add8699f42a7d4ad9d44ce76b8394c5f0548157cd0c765f7da3bcff0c90b1f44", func := "loop.example/g00198/laws.FnExactRowOk", spec := "fnExactRowOk", apart := false }
def FnExactRowOkSaid : Prop := fnExactRowOkRow.holds Try.pinned (OpenSpec.ofChange fnExactRowOkSpec)

/-- ITS FALSE NEIGHBOUR: 'it returns false'. Refute it at one input. -/
def fnExactRowOkWrong : ChangeSpec := { name := "fnExactRowOk", fn := fun _ => fun
  | [d1, d2, d3] => { results := [.lit (.bool false)], args := [d1, d2, d3] }
  | _ => none }
def FnExactRowOkWrongFalsely : Prop := fnExactRowOkRow.holds Try.pinned (OpenSpec.ofChange fnExactRowOkWrong)

/-- 'laws.FnExactMutOk': WHATEVER THE INPUT: true; the input reads as it did. -/
def fnExactMutOkSpec : ChangeSpec := { name := "fnExactMutOk", fn := fun _ => fun
  | [d1, d2] => { results := [.lit (.bool true)], args := [d1, d2] }
  | _ => none }
def fnExactMutOkRow : OpenClaim := { program := "ytabmfnghhggiaaa", sum := "add8699f42a7d4ad9d44ce76b8394c5f0548157cd0c765f7da3bcff0c90b1f44", func := "loop.example/g00198/laws.FnExactMutOk", spec := "fnExactMutOk", apart := false }
def FnExactMutOkSaid : Prop := fnExactMutOkRow.holds Try.pinned (OpenSpec.ofChange fnExactMutOkSpec)

/-- ITS FALSE NEIGHBOUR: 'it returns false'. Refute it at one input. -/
def fnExactMutOkWrong : ChangeSpec := { name := "fnExactMutOk", fn := fun _ => fun
  | [d1, d2] => { results := [.lit (.bool false)], args := [d1, d2] }
  | _ => none }
def FnExactMutOkWrongFalsely : Prop := fnExactMutOkRow.holds Try.pinned (OpenSpec.ofChange fnExactMutOkWrong)

/-- 'laws.FnExactRowsOk': WHATEVER THE INPUT: true; the input reads as it did. -/
def fnExactRowsOkSpec : ChangeSpec := { name := "fnExactRowsOk", fn := fun _ => fun
  | [d1, d2, d3] => { results := [.lit (.bool true)], args := [d1, d2, d3] }
  | _ => none }
def fnExactRowsOkRow : OpenClaim := { program := "ytabmfnghhggiaaa", sum := "add8699f42a7d4ad9d44ce76b8394c5f0548157cd0c765f7da3bcff0c90b1f44", func := "loop.example/g00198/laws.FnExactRowsOk", spec := "fnExactRowsOk", apart := false }
def FnExactRowsOkSaid : Prop := fnExactRowsOkRow.holds Try.pinned (OpenSpec.ofChange fnExactRowsOkSpec)

/-- ITS FALSE NEIGHBOUR: 'it returns false'. Refute it at one input. -/
def fnExactRowsOkWrong : ChangeSpec := { name := "fnExactRowsOk", fn := fun _ => fun
  | [d1, d2, d3] => { results := [.lit (.bool false)], args := [d1, d2, d3] }
  | _ => none }
def FnExactRowsOkWrongFalsely : Prop := fnExactRowsOkRow.holds Try.pinned (OpenSpec.ofChange fnExactRowsOkWrong)

/-- 'laws.FnExactRowDrop': WHATEVER THE INPUT: true; the input reads as it did. -/
def fnExactRowDropSpec : ChangeSpec := { name := "fnExactRowDrop", fn := fun _ => fun
  | [d1, d2] => { results := [.lit (.bool true)], args := [d1, d2] }
  | _ => none }
def fnExactRowDropRow : OpenClaim := { program := "ytabmfnghhggiaaa", sum := "add8699f42a7d4ad9d44ce76b8394c5f0548157cd0c765f7da3bcff0c90b1f44", func := "loop.example/g00198/laws.FnExactRowDrop", spec := "fnExactRowDrop", unfollowed := true, recurses := true, apart := false }
def FnExactRowDropSaid : Prop := fnExactRowDropRow.holds Try.pinned (OpenSpec.ofChange fnExactRowDropSpec)

/-- ITS FALSE NEIGHBOUR: 'it returns false'. Refute it at one input. -/
def fnExactRowDropWrong : ChangeSpec := { name := "fnExactRowDrop", fn := fun _ => fun
  | [d1, d2] => { results := [.lit (.bool false)], args := [d1, d2] }
  | _ => none }
def FnExactRowDropWrongFalsely : Prop := fnExactRowDropRow.holds Try.pinned (OpenSpec.ofChange fnExactRowDropWrong)

/-- 'laws.FnExactJsonOk': WHATEVER THE INPUT: true; the input reads as it did. -/
def fnExactJsonOkSpec : ChangeSpec := { name := "fnExactJsonOk", fn := fun _ => fun
  | [d] => { results := [.lit (.bool true)], args := [d] }
  | _ => none }
def fnExactJsonOkRow : OpenClaim := { program := "ytabmfnghhggiaaa", sum := "add8699f42a7d4ad9d44ce76b8394c5f0548157cd0c765f7da3bcff0c90b1f44", func := "loop.example/g00198/laws.FnExactJsonOk", spec := "fnExactJsonOk", recurses := true, loops := true, apart := false }
def FnExactJsonOkSaid : Prop := fnExactJsonOkRow.holds Try.pinned (OpenSpec.ofChange fnExactJsonOkSpec)

/-- ITS FALSE NEIGHBOUR: 'it returns false'. Refute it at one input. -/
def fnExactJsonOkWrong : ChangeSpec := { name := "fnExactJsonOk", fn := fun _ => fun
  | [d] => { results := [.lit (.bool false)], args := [d] }
  | _ => none }
def FnExactJsonOkWrongFalsely : Prop := fnExactJsonOkRow.holds Try.pinned (OpenSpec.ofChange fnExactJsonOkWrong)

/-- 'laws.FnSchema': WHATEVER THE INPUT: true; the input reads as it did. -/
def fnSchemaSpec : ChangeSpec := { name := "fnSchema", fn := fun _ => fun
  | [d] => { results := [.lit (.bool true)], args := [d] }
  | _ => none }
def fnSchemaRow : OpenClaim := { program := "ytabmfnghhggiaaa", sum := "add8699f42a7d4ad9d44ce76b8394c5f0548157cd0c765f7da3bcff0c90b1f44", func := "loop.example/g00198/laws.FnSchema", spec := "fnSchema", unfollowed := true, recurses := true, apart := false }
def FnSchemaSaid : Prop := fnSchemaRow.holds Try.pinned (OpenSpec.ofChange fnSchemaSpec)

/-- ITS FALSE NEIGHBOUR: 'it returns false'. Refute it at one input. -/
def fnSchemaWrong : ChangeSpec := { name := "fnSchema", fn := fun _ => fun
  | [d] => { results := [.lit (.bool false)], args := [d] }
  | _ => none }
def FnSchemaWrongFalsely : Prop := fnSchemaRow.holds Try.pinned (OpenSpec.ofChange fnSchemaWrong)

/-- 'laws.FnExactJsonSize': WHATEVER THE INPUT: true; the input reads as it did. -/
def fnExactJsonSizeSpec : ChangeSpec := { name := "fnExactJsonSize", fn := fun _ => fun
  | [d] => { results := [.lit (.bool true)], args := [d] }
  | _ => none }
def fnExactJsonSizeRow : OpenClaim := { program := "ytabmfnghhggiaaa", sum := "add8699f42a7d4ad9d44ce76b8394c5f0548157cd0c765f7da3bcff0c90b1f44", func := "loop.example/g00198/laws.FnExactJsonSize", spec := "fnExactJsonSize", recurses := true, loops := true, apart := false }
def FnExactJsonSizeSaid : Prop := fnExactJsonSizeRow.holds Try.pinned (OpenSpec.ofChange fnExactJsonSizeSpec)

/-- ITS FALSE NEIGHBOUR: 'it returns false'. Refute it at one input. -/
def fnExactJsonSizeWrong : ChangeSpec := { name := "fnExactJsonSize", fn := fun _ => fun
  | [d] => { results := [.lit (.bool false)], args := [d] }
  | _ => none }
def FnExactJsonSizeWrongFalsely : Prop := fnExactJsonSizeRow.holds Try.pinned (OpenSpec.ofChange fnExactJsonSizeWrong)

/- THE SECOND FORM. 'bulk': how many values and letters a reading holds, each counted each time it is reached (what is shared counts as often as it is met; a slice's spare places count too). A statement '..UptoSaid' is the law's where the arguments, and the package variables that the reading takes, are together of bulk at most 1048576: NARROWER than '..Said'. Prove '..Said' where nothing that the law and all that it calls make is longer than what came in: it says more and counts as full. Else prove '..UptoSaid'. A law counts once. -/
mutual
def uptoBulk {H : Type} : DataW H → Nat
  | .lit (.string bytes) => bytes.length + 1
  | .lit _ => 1
  | .nil => 1
  | .ptr d => uptoBulk d + 1
  | .slice elems spare => uptoBulkAll elems + uptoBulkAll spare + 1
  | .agg parts => uptoBulkAll parts + 1
  | .iface _ d => uptoBulk d + 1
  | .map entries => uptoBulkEntries entries + 1
  | .held _ => 1
def uptoBulkAll {H : Type} : List (DataW H) → Nat
  | [] => 0
  | d :: r => uptoBulk d + uptoBulkAll r
def uptoBulkEntries {H : Type} : List (Lit × DataW H) → Nat
  | [] => 0
  | x :: r => uptoBulkEntry x + uptoBulkEntries r
def uptoBulkEntry {H : Type} : Lit × DataW H → Nat
  | (.string bytes, d) => bytes.length + uptoBulk d + 1
  | (_, d) => uptoBulk d + 1
 end
def uptoSmall : (H : Type) → List (DataW H) → Bool := fun _ ds => decide (uptoBulkAll ds ≤ 1048576)
def OpenSpec.upto (s : _root_.Go.ChangeSpec) : _root_.Go.OpenSpec := { _root_.Go.OpenSpec.ofChange s with cond := some uptoSmall }

/-- 'laws.FnExactConstants', WHERE WHAT IT READS IS OF BULK AT MOST 1048576: true; the input reads as it did. -/
def fnExactConstantsUptoRow : OpenClaim := { program := "ytabmfnghhggiaaa", sum := "add8699f42a7d4ad9d44ce76b8394c5f0548157cd0c765f7da3bcff0c90b1f44", func := "loop.example/g00198/laws.FnExactConstants", spec := "fnExactConstants", apart := false, narrowed := true }
def FnExactConstantsUptoSaid : Prop := fnExactConstantsUptoRow.holds Try.pinned (OpenSpec.upto fnExactConstantsSpec)

/-- 'laws.FnExactSchemaOk', WHERE WHAT IT READS IS OF BULK AT MOST 1048576: true; the input reads as it did. -/
def fnExactSchemaOkUptoRow : OpenClaim := { program := "ytabmfnghhggiaaa", sum := "add8699f42a7d4ad9d44ce76b8394c5f0548157cd0c765f7da3bcff0c90b1f44", func := "loop.example/g00198/laws.FnExactSchemaOk", spec := "fnExactSchemaOk", apart := false, narrowed := true }
def FnExactSchemaOkUptoSaid : Prop := fnExactSchemaOkUptoRow.holds Try.pinned (OpenSpec.upto fnExactSchemaOkSpec)

/-- 'laws.FnExactRowSame', WHERE WHAT IT READS IS OF BULK AT MOST 1048576: true; the input reads as it did. -/
def fnExactRowSameUptoRow : OpenClaim := { program := "ytabmfnghhggiaaa", sum := "add8699f42a7d4ad9d44ce76b8394c5f0548157cd0c765f7da3bcff0c90b1f44", func := "loop.example/g00198/laws.FnExactRowSame", spec := "fnExactRowSame", apart := false, narrowed := true }
def FnExactRowSameUptoSaid : Prop := fnExactRowSameUptoRow.holds Try.pinned (OpenSpec.upto fnExactRowSameSpec)

/-- 'laws.FnExactRowAt', WHERE WHAT IT READS IS OF BULK AT MOST 1048576: true; the input reads as it did. -/
def fnExactRowAtUptoRow : OpenClaim := { program := "ytabmfnghhggiaaa", sum := "add8699f42a7d4ad9d44ce76b8394c5f0548157cd0c765f7da3bcff0c90b1f44", func := "loop.example/g00198/laws.FnExactRowAt", spec := "fnExactRowAt", unfollowed := true, recurses := true, apart := false, narrowed := true }
def FnExactRowAtUptoSaid : Prop := fnExactRowAtUptoRow.holds Try.pinned (OpenSpec.upto fnExactRowAtSpec)

/-- 'laws.FnExactRowOk', WHERE WHAT IT READS IS OF BULK AT MOST 1048576: true; the input reads as it did. -/
def fnExactRowOkUptoRow : OpenClaim := { program := "ytabmfnghhggiaaa", sum := "add8699f42a7d4ad9d44ce76b8394c5f0548157cd0c765f7da3bcff0c90b1f44", func := "loop.example/g00198/laws.FnExactRowOk", spec := "fnExactRowOk", apart := false, narrowed := true }
def FnExactRowOkUptoSaid : Prop := fnExactRowOkUptoRow.holds Try.pinned (OpenSpec.upto fnExactRowOkSpec)

/-- 'laws.FnExactMutOk', WHERE WHAT IT READS IS OF BULK AT MOST 1048576: true; the input reads as it did. -/
def fnExactMutOkUptoRow : OpenClaim := { program := "ytabmfnghhggiaaa", sum := "add8699f42a7d4ad9d44ce76b8394c5f0548157cd0c765f7da3bcff0c90b1f44", func := "loop.example/g00198/laws.FnExactMutOk", spec := "fnExactMutOk", apart := false, narrowed := true }
def FnExactMutOkUptoSaid : Prop := fnExactMutOkUptoRow.holds Try.pinned (OpenSpec.upto fnExactMutOkSpec)

/-- 'laws.FnExactRowsOk', WHERE WHAT IT READS IS OF BULK AT MOST 1048576: true; the input reads as it did. -/
def fnExactRowsOkUptoRow : OpenClaim := { program := "ytabmfnghhggiaaa", sum := "add8699f42a7d4ad9d44ce76b8394c5f0548157cd0c765f7da3bcff0c90b1f44", func := "loop.example/g00198/laws.FnExactRowsOk", spec := "fnExactRowsOk", apart := false, narrowed := true }
def FnExactRowsOkUptoSaid : Prop := fnExactRowsOkUptoRow.holds Try.pinned (OpenSpec.upto fnExactRowsOkSpec)

/-- 'laws.FnExactRowDrop', WHERE WHAT IT READS IS OF BULK AT MOST 1048576: true; the input reads as it did. -/
def fnExactRowDropUptoRow : OpenClaim := { program := "ytabmfnghhggiaaa", sum := "add8699f42a7d4ad9d44ce76b8394c5f0548157cd0c765f7da3bcff0c90b1f44", func := "loop.example/g00198/laws.FnExactRowDrop", spec := "fnExactRowDrop", unfollowed := true, recurses := true, apart := false, narrowed := true }
def FnExactRowDropUptoSaid : Prop := fnExactRowDropUptoRow.holds Try.pinned (OpenSpec.upto fnExactRowDropSpec)

/-- 'laws.FnExactJsonOk', WHERE WHAT IT READS IS OF BULK AT MOST 1048576: true; the input reads as it did. -/
def fnExactJsonOkUptoRow : OpenClaim := { program := "ytabmfnghhggiaaa", sum := "add8699f42a7d4ad9d44ce76b8394c5f0548157cd0c765f7da3bcff0c90b1f44", func := "loop.example/g00198/laws.FnExactJsonOk", spec := "fnExactJsonOk", recurses := true, loops := true, apart := false, narrowed := true }
def FnExactJsonOkUptoSaid : Prop := fnExactJsonOkUptoRow.holds Try.pinned (OpenSpec.upto fnExactJsonOkSpec)

/-- 'laws.FnSchema', WHERE WHAT IT READS IS OF BULK AT MOST 1048576: true; the input reads as it did. -/
def fnSchemaUptoRow : OpenClaim := { program := "ytabmfnghhggiaaa", sum := "add8699f42a7d4ad9d44ce76b8394c5f0548157cd0c765f7da3bcff0c90b1f44", func := "loop.example/g00198/laws.FnSchema", spec := "fnSchema", unfollowed := true, recurses := true, apart := false, narrowed := true }
def FnSchemaUptoSaid : Prop := fnSchemaUptoRow.holds Try.pinned (OpenSpec.upto fnSchemaSpec)

/-- 'laws.FnExactJsonSize', WHERE WHAT IT READS IS OF BULK AT MOST 1048576: true; the input reads as it did. -/
def fnExactJsonSizeUptoRow : OpenClaim := { program := "ytabmfnghhggiaaa", sum := "add8699f42a7d4ad9d44ce76b8394c5f0548157cd0c765f7da3bcff0c90b1f44", func := "loop.example/g00198/laws.FnExactJsonSize", spec := "fnExactJsonSize", recurses := true, loops := true, apart := false, narrowed := true }
def FnExactJsonSizeUptoSaid : Prop := fnExactJsonSizeUptoRow.holds Try.pinned (OpenSpec.upto fnExactJsonSizeSpec)

end Rows
end Go.Proofs.Ytabmfnghhggiaaa
