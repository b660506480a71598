/-
  No cell of these rows narrows 'for every input' (looked for: loops, veiled, ifaces, maps, wideKeys, modest, calm, conditions, laid).
  DERIVED. THE GIVEN ROWS OF THIS SEAT. 4 by the template 'for every input the law returns true; each argument reads behind the call as it read before'; 0 by the template 'total and deterministic' (their statements: YtlkjpnlpankhpaaTotals.lean).
  GIVEN WITH THE SEED: the statements are not yours to turn. If you find one false, say at which input.
  Laid BY PROGRAM, IN A SANDBOX (cutbox-rows.mjs): the forced cells as the released guide's own fill.sh prints them over the translation 8bf6038e1e95076b… (all of the seat's roots in one cut). By AI agents, Wed Nov 11 2026. No macro, syntax, notation, axiom, sorry.
-/
import Derived.Test.YtlkjpnlpankhpaaChecked
import GoSem.Claim
import GoSem.ClaimJoined
import GoSem.ClaimMapViews
import Derived.JoinedTies
import Derived.KernelRfl
namespace Go.Proofs.Ytlkjpnlpankhpaa
/- THE CELL 'sum', in the pinned program and in every row, IS THE sha256 OF THE DUMP (.gsa) THAT YtlkjpnlpankhpaaProg.lean LOADS. Nothing in Lean hashes anything: it is a label: what it is worth is what the hold of that sum in a sandbox is worth. -/
noncomputable def Try.pinned : Pinned := { name := "ytlkjpnlpankhpaa", sum := "8bf6038e1e95076bcb0aeea41e76f9f747978033282c0eb3fc0ad6c2ebd13920", checked := Try.checked }
namespace Rows
def none {H : Type} : Left H := { results := [], args := [] }

/-- 'laws.FnJson': WHATEVER THE INPUT: true; the input reads as it did. -/
def fnJsonSpec : ChangeSpec := { name := "fnJson", fn := fun _ => fun
  | [d] => { results := [.lit (.bool true)], args := [d] }
  | _ => none }
def fnJsonRow : OpenClaim := { program := "ytlkjpnlpankhpaa", sum := "8bf6038e1e95076bcb0aeea41e76f9f747978033282c0eb3fc0ad6c2ebd13920", func := "loop.example/g00198/laws.FnJson", spec := "fnJson", unfollowed := true, recurses := true, apart := false }
def FnJsonSaid : Prop := fnJsonRow.holds Try.pinned (OpenSpec.ofChange fnJsonSpec)

/-- ITS FALSE NEIGHBOUR: 'it returns false'. Refute it at one input. -/
def fnJsonWrong : ChangeSpec := { name := "fnJson", fn := fun _ => fun
  | [d] => { results := [.lit (.bool false)], args := [d] }
  | _ => none }
def FnJsonWrongFalsely : Prop := fnJsonRow.holds Try.pinned (OpenSpec.ofChange fnJsonWrong)

/-- 'laws.FnUnder': WHATEVER THE INPUT: true; the input reads as it did. -/
def fnUnderSpec : ChangeSpec := { name := "fnUnder", fn := fun _ => fun
  | [d] => { results := [.lit (.bool true)], args := [d] }
  | _ => none }
def fnUnderRow : OpenClaim := { program := "ytlkjpnlpankhpaa", sum := "8bf6038e1e95076bcb0aeea41e76f9f747978033282c0eb3fc0ad6c2ebd13920", func := "loop.example/g00198/laws.FnUnder", spec := "fnUnder", recurses := true, apart := false }
def FnUnderSaid : Prop := fnUnderRow.holds Try.pinned (OpenSpec.ofChange fnUnderSpec)

/-- ITS FALSE NEIGHBOUR: 'it returns false'. Refute it at one input. -/
def fnUnderWrong : ChangeSpec := { name := "fnUnder", fn := fun _ => fun
  | [d] => { results := [.lit (.bool false)], args := [d] }
  | _ => none }
def FnUnderWrongFalsely : Prop := fnUnderRow.holds Try.pinned (OpenSpec.ofChange fnUnderWrong)

/-- 'laws.FnMut': WHATEVER THE INPUT: true; the input reads as it did. -/
def fnMutSpec : ChangeSpec := { name := "fnMut", fn := fun _ => fun
  | [d] => { results := [.lit (.bool true)], args := [d] }
  | _ => none }
def fnMutRow : OpenClaim := { program := "ytlkjpnlpankhpaa", sum := "8bf6038e1e95076bcb0aeea41e76f9f747978033282c0eb3fc0ad6c2ebd13920", func := "loop.example/g00198/laws.FnMut", spec := "fnMut", inPlace := ["slices.overlaps[loop.example/g00198/impl.Row]"], unfollowed := true, recurses := true, apart := false }
def FnMutSaid : Prop := fnMutRow.holds Try.pinned (OpenSpec.ofChange fnMutSpec)

/-- ITS FALSE NEIGHBOUR: 'it returns false'. Refute it at one input. -/
def fnMutWrong : ChangeSpec := { name := "fnMut", fn := fun _ => fun
  | [d] => { results := [.lit (.bool false)], args := [d] }
  | _ => none }
def FnMutWrongFalsely : Prop := fnMutRow.holds Try.pinned (OpenSpec.ofChange fnMutWrong)

/-- 'laws.FnBatch': WHATEVER THE INPUT: true; the input reads as it did. -/
def fnBatchSpec : ChangeSpec := { name := "fnBatch", fn := fun _ => fun
  | [d] => { results := [.lit (.bool true)], args := [d] }
  | _ => none }
def fnBatchRow : OpenClaim := { program := "ytlkjpnlpankhpaa", sum := "8bf6038e1e95076bcb0aeea41e76f9f747978033282c0eb3fc0ad6c2ebd13920", func := "loop.example/g00198/laws.FnBatch", spec := "fnBatch", inPlace := ["slices.overlaps[loop.example/g00198/impl.Row]"], unfollowed := true, recurses := true, apart := false }
def FnBatchSaid : Prop := fnBatchRow.holds Try.pinned (OpenSpec.ofChange fnBatchSpec)

/-- ITS FALSE NEIGHBOUR: 'it returns false'. Refute it at one input. -/
def fnBatchWrong : ChangeSpec := { name := "fnBatch", fn := fun _ => fun
  | [d] => { results := [.lit (.bool false)], args := [d] }
  | _ => none }
def FnBatchWrongFalsely : Prop := fnBatchRow.holds Try.pinned (OpenSpec.ofChange fnBatchWrong)

/- THE SECOND FORM. 'bulk': how many values and letters a reading holds, each counted each time it is reached (what is shared counts as often as it is met; a slice's spare places count too). A statement '..UptoSaid' is the law's where the arguments, and the package variables that the reading takes, are together of bulk at most 1048576: NARROWER than '..Said'. Prove '..Said' where nothing that the law and all that it calls make is longer than what came in: it says more and counts as full. Else prove '..UptoSaid'. A law counts once. -/
mutual
def uptoBulk {H : Type} : DataW H → Nat
  | .lit (.string bytes) => bytes.length + 1
  | .lit _ => 1
  | .nil => 1
  | .ptr d => uptoBulk d + 1
  | .slice elems spare => uptoBulkAll elems + uptoBulkAll spare + 1
  | .agg parts => uptoBulkAll parts + 1
  | .iface _ d => uptoBulk d + 1
  | .map entries => uptoBulkEntries entries + 1
  | .held _ => 1
def uptoBulkAll {H : Type} : List (DataW H) → Nat
  | [] => 0
  | d :: r => uptoBulk d + uptoBulkAll r
def uptoBulkEntries {H : Type} : List (Lit × DataW H) → Nat
  | [] => 0
  | x :: r => uptoBulkEntry x + uptoBulkEntries r
def uptoBulkEntry {H : Type} : Lit × DataW H → Nat
  | (.string bytes, d) => bytes.length + uptoBulk d + 1
  | (_, d) => uptoBulk d + 1
 end
def uptoSmall : (H : Type) → List (DataW H) → Bool := fun _ ds => decide (uptoBulkAll ds ≤ 1048576)
def OpenSpec.upto (s : _root_.Go.ChangeSpec) : _root_.Go.OpenSpec := { _root_.Go.OpenSpec.ofChange s with cond := some uptoSmall }

/-- 'laws.FnJson', WHERE WHAT IT READS IS OF BULK AT MOST 1048576: true; the input reads as it did. -/
def fnJsonUptoRow : OpenClaim := { program := "ytlkjpnlpankhpaa", sum := "8bf6038e1e95076bcb0aeea41e76f9f747978033282c0eb3fc0ad6c2ebd13920", func := "loop.example/g00198/laws.FnJson", spec := "fnJson", unfollowed := true, recurses := true, apart := false, narrowed := true }
def FnJsonUptoSaid : Prop := fnJsonUptoRow.holds Try.pinned (OpenSpec.upto fnJsonSpec)

/-- 'laws.FnUnder', WHERE WHAT IT READS IS OF BULK AT MOST 1048576: true; the input reads as it did. -/
def fnUnderUptoRow : OpenClaim := { program := "ytlkjpnlpankhpaa", sum := "8bf6038e1e95076bcb0aeea41e76f9f747978033282c0eb3fc0ad6c2ebd13920", func := "loop.example/g00198/laws.FnUnder", spec := "fnUnder", recurses := true, apart := false, narrowed := true }
def FnUnderUptoSaid : Prop := fnUnderUptoRow.holds Try.pinned (OpenSpec.upto fnUnderSpec)

/-- 'laws.FnMut', WHERE WHAT IT READS IS OF BULK AT MOST 1048576: true; the input reads as it did. -/
def fnMutUptoRow : OpenClaim := { program := "ytlkjpnlpankhpaa", sum := "8bf6038e1e95076bcb0aeea41e76f9f747978033282c0eb3fc0ad6c2ebd13920", func := "loop.example/g00198/laws.FnMut", spec := "fnMut", inPlace := ["slices.overlaps[loop.example/g00198/impl.Row]"], unfollowed := true, recurses := true, apart := false, narrowed := true }
def FnMutUptoSaid : Prop := fnMutUptoRow.holds Try.pinned (OpenSpec.upto fnMutSpec)

/-- 'laws.FnBatch', WHERE WHAT IT READS IS OF BULK AT MOST 1048576: true; the input reads as it did. -/
def fnBatchUptoRow : OpenClaim := { program := "ytlkjpnlpankhpaa", sum := "8bf6038e1e95076bcb0aeea41e76f9f747978033282c0eb3fc0ad6c2ebd13920", func := "loop.example/g00198/laws.FnBatch", spec := "fnBatch", inPlace := ["slices.overlaps[loop.example/g00198/impl.Row]"], unfollowed := true, recurses := true, apart := false, narrowed := true }
def FnBatchUptoSaid : Prop := fnBatchUptoRow.holds Try.pinned (OpenSpec.upto fnBatchSpec)

end Rows
end Go.Proofs.Ytlkjpnlpankhpaa
