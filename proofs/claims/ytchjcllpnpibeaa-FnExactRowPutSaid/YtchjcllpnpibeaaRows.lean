/-
  NARROWER THAN 'FOR EVERY INPUT', by the rows' own cells (each row's printed sentence says how): FnExactJsonOk: loops · FnExactJsonSize: loops · FnExactJsonDepth: loops · FnExactJsonSame: loops · FnExactOpOk: loops · FnExactUnder: loops · FnExactField: loops · FnExactDiff: loops.
  DERIVED. THE GIVEN ROWS OF THIS SEAT. 28 by the template 'for every input the law returns true; each argument reads behind the call as it read before'; 0 by the template 'total and deterministic' (their statements: YtchjcllpnpibeaaTotals.lean).
  GIVEN WITH THE SEED: the statements are not yours to turn. If you find one false, say at which input.
  Laid BY PROGRAM, IN A SANDBOX (cutbox-rows.mjs): the forced cells as the released guide's own fill.sh prints them over the translation 5b8909f74949cd9d… (all of the seat's roots in one cut). By AI agents, Wed Nov 11 2026. No macro, syntax, notation, axiom, sorry.
-/
import Derived.Test.YtchjcllpnpibeaaChecked
import GoSem.Claim
import GoSem.ClaimJoined
import GoSem.ClaimMapViews
import Derived.JoinedTies
import Derived.KernelRfl
namespace Go.Proofs.Ytchjcllpnpibeaa
/- THE CELL 'sum', in the pinned program and in every row, IS THE sha256 OF THE DUMP (.gsa) THAT YtchjcllpnpibeaaProg.lean LOADS. Nothing in Lean hashes anything: it is a label: what it is worth is what the hold of that sum in a sandbox is worth. -/
noncomputable def Try.pinned : Pinned := { name := "ytchjcllpnpibeaa", sum := "5b8909f74949cd9d230ed7e4297bf8d252a1fd30ed5fa64467951db438c79e13", checked := Try.checked }
namespace Rows
def none {H : Type} : Left H := { results := [], args := [] }

/-- 'laws.FnExactConstants': WHATEVER THE INPUT: true; the input reads as it did. -/
def fnExactConstantsSpec : ChangeSpec := { name := "fnExactConstants", fn := fun _ => fun
  | [] => { results := [.lit (.bool true)], args := [] }
  | _ => none }
def fnExactConstantsRow : OpenClaim := { program := "ytchjcllpnpibeaa", sum := "5b8909f74949cd9d230ed7e4297bf8d252a1fd30ed5fa64467951db438c79e13", func := "loop.example/g00198/laws.FnExactConstants", spec := "fnExactConstants", apart := false }
def FnExactConstantsSaid : Prop := fnExactConstantsRow.holds Try.pinned (OpenSpec.ofChange fnExactConstantsSpec)

/-- ITS FALSE NEIGHBOUR: 'it returns false'. Refute it at one input. -/
def fnExactConstantsWrong : ChangeSpec := { name := "fnExactConstants", fn := fun _ => fun
  | [] => { results := [.lit (.bool false)], args := [] }
  | _ => none }
def FnExactConstantsWrongFalsely : Prop := fnExactConstantsRow.holds Try.pinned (OpenSpec.ofChange fnExactConstantsWrong)

/-- 'laws.FnExactSchemaOk': WHATEVER THE INPUT: true; the input reads as it did. -/
def fnExactSchemaOkSpec : ChangeSpec := { name := "fnExactSchemaOk", fn := fun _ => fun
  | [d] => { results := [.lit (.bool true)], args := [d] }
  | _ => none }
def fnExactSchemaOkRow : OpenClaim := { program := "ytchjcllpnpibeaa", sum := "5b8909f74949cd9d230ed7e4297bf8d252a1fd30ed5fa64467951db438c79e13", func := "loop.example/g00198/laws.FnExactSchemaOk", spec := "fnExactSchemaOk", apart := false }
def FnExactSchemaOkSaid : Prop := fnExactSchemaOkRow.holds Try.pinned (OpenSpec.ofChange fnExactSchemaOkSpec)

/-- ITS FALSE NEIGHBOUR: 'it returns false'. Refute it at one input. -/
def fnExactSchemaOkWrong : ChangeSpec := { name := "fnExactSchemaOk", fn := fun _ => fun
  | [d] => { results := [.lit (.bool false)], args := [d] }
  | _ => none }
def FnExactSchemaOkWrongFalsely : Prop := fnExactSchemaOkRow.holds Try.pinned (OpenSpec.ofChange fnExactSchemaOkWrong)

/-- 'laws.FnExactRowSame': WHATEVER THE INPUT: true; the input reads as it did. -/
def fnExactRowSameSpec : ChangeSpec := { name := "fnExactRowSame", fn := fun _ => fun
  | [d1, d2] => { results := [.lit (.bool true)], args := [d1, d2] }
  | _ => none }
def fnExactRowSameRow : OpenClaim := { program := "ytchjcllpnpibeaa", sum := "5b8909f74949cd9d230ed7e4297bf8d252a1fd30ed5fa64467951db438c79e13", func := "loop.example/g00198/laws.FnExactRowSame", spec := "fnExactRowSame", apart := false }
def FnExactRowSameSaid : Prop := fnExactRowSameRow.holds Try.pinned (OpenSpec.ofChange fnExactRowSameSpec)

/-- ITS FALSE NEIGHBOUR: 'it returns false'. Refute it at one input. -/
def fnExactRowSameWrong : ChangeSpec := { name := "fnExactRowSame", fn := fun _ => fun
  | [d1, d2] => { results := [.lit (.bool false)], args := [d1, d2] }
  | _ => none }
def FnExactRowSameWrongFalsely : Prop := fnExactRowSameRow.holds Try.pinned (OpenSpec.ofChange fnExactRowSameWrong)

/-- 'laws.FnExactRowAt': WHATEVER THE INPUT: true; the input reads as it did. -/
def fnExactRowAtSpec : ChangeSpec := { name := "fnExactRowAt", fn := fun _ => fun
  | [d1, d2] => { results := [.lit (.bool true)], args := [d1, d2] }
  | _ => none }
def fnExactRowAtRow : OpenClaim := { program := "ytchjcllpnpibeaa", sum := "5b8909f74949cd9d230ed7e4297bf8d252a1fd30ed5fa64467951db438c79e13", func := "loop.example/g00198/laws.FnExactRowAt", spec := "fnExactRowAt", unfollowed := true, recurses := true, apart := false }
def FnExactRowAtSaid : Prop := fnExactRowAtRow.holds Try.pinned (OpenSpec.ofChange fnExactRowAtSpec)

/-- ITS FALSE NEIGHBOUR: 'it returns false'. Refute it at one input. -/
def fnExactRowAtWrong : ChangeSpec := { name := "fnExactRowAt", fn := fun _ => fun
  | [d1, d2] => { results := [.lit (.bool false)], args := [d1, d2] }
  | _ => none }
def FnExactRowAtWrongFalsely : Prop := fnExactRowAtRow.holds Try.pinned (OpenSpec.ofChange fnExactRowAtWrong)

/-- 'laws.FnExactRowOk': WHATEVER THE INPUT: true; the input reads as it did. -/
def fnExactRowOkSpec : ChangeSpec := { name := "fnExactRowOk", fn := fun _ => fun
  | [d1, d2, d3] => { results := [.lit (.bool true)], args := [d1, d2, d3] }
  | _ => none }
def fnExactRowOkRow : OpenClaim := { program := "ytchjcllpnpibeaa", sum := "5b8909f74949cd9d230ed7e4297bf8d252a1fd30ed5fa64467951db438c79e13", func := "loop.example/g00198/laws.FnExactRowOk", spec := "fnExactRowOk", apart := false }
def FnExactRowOkSaid : Prop := fnExactRowOkRow.holds Try.pinned (OpenSpec.ofChange fnExactRowOkSpec)

/-- ITS FALSE NEIGHBOUR: 'it returns false'. Refute it at one input. -/
def fnExactRowOkWrong : ChangeSpec := { name := "fnExactRowOk", fn := fun _ => fun
  | [d1, d2, d3] => { results := [.lit (.bool false)], args := [d1, d2, d3] }
  | _ => none }
def FnExactRowOkWrongFalsely : Prop := fnExactRowOkRow.holds Try.pinned (OpenSpec.ofChange fnExactRowOkWrong)

/-- 'laws.FnExactMutOk': WHATEVER THE INPUT: true; the input reads as it did. -/
def fnExactMutOkSpec : ChangeSpec := { name := "fnExactMutOk", fn := fun _ => fun
  | [d1, d2] => { results := [.lit (.bool true)], args := [d1, d2] }
  | _ => none }
def fnExactMutOkRow : OpenClaim := { program := "ytchjcllpnpibeaa", sum := "5b8909f74949cd9d230ed7e4297bf8d252a1fd30ed5fa64467951db438c79e13", func := "loop.example/g00198/laws.FnExactMutOk", spec := "fnExactMutOk", apart := false }
def FnExactMutOkSaid : Prop := fnExactMutOkRow.holds Try.pinned (OpenSpec.ofChange fnExactMutOkSpec)

/-- ITS FALSE NEIGHBOUR: 'it returns false'. Refute it at one input. -/
def fnExactMutOkWrong : ChangeSpec := { name := "fnExactMutOk", fn := fun _ => fun
  | [d1, d2] => { results := [.lit (.bool false)], args := [d1, d2] }
  | _ => none }
def FnExactMutOkWrongFalsely : Prop := fnExactMutOkRow.holds Try.pinned (OpenSpec.ofChange fnExactMutOkWrong)

/-- 'laws.FnExactRowsOk': WHATEVER THE INPUT: true; the input reads as it did. -/
def fnExactRowsOkSpec : ChangeSpec := { name := "fnExactRowsOk", fn := fun _ => fun
  | [d1, d2, d3] => { results := [.lit (.bool true)], args := [d1, d2, d3] }
  | _ => none }
def fnExactRowsOkRow : OpenClaim := { program := "ytchjcllpnpibeaa", sum := "5b8909f74949cd9d230ed7e4297bf8d252a1fd30ed5fa64467951db438c79e13", func := "loop.example/g00198/laws.FnExactRowsOk", spec := "fnExactRowsOk", apart := false }
def FnExactRowsOkSaid : Prop := fnExactRowsOkRow.holds Try.pinned (OpenSpec.ofChange fnExactRowsOkSpec)

/-- ITS FALSE NEIGHBOUR: 'it returns false'. Refute it at one input. -/
def fnExactRowsOkWrong : ChangeSpec := { name := "fnExactRowsOk", fn := fun _ => fun
  | [d1, d2, d3] => { results := [.lit (.bool false)], args := [d1, d2, d3] }
  | _ => none }
def FnExactRowsOkWrongFalsely : Prop := fnExactRowsOkRow.holds Try.pinned (OpenSpec.ofChange fnExactRowsOkWrong)

/-- 'laws.FnExactRowDrop': WHATEVER THE INPUT: true; the input reads as it did. -/
def fnExactRowDropSpec : ChangeSpec := { name := "fnExactRowDrop", fn := fun _ => fun
  | [d1, d2] => { results := [.lit (.bool true)], args := [d1, d2] }
  | _ => none }
def fnExactRowDropRow : OpenClaim := { program := "ytchjcllpnpibeaa", sum := "5b8909f74949cd9d230ed7e4297bf8d252a1fd30ed5fa64467951db438c79e13", func := "loop.example/g00198/laws.FnExactRowDrop", spec := "fnExactRowDrop", unfollowed := true, recurses := true, apart := false }
def FnExactRowDropSaid : Prop := fnExactRowDropRow.holds Try.pinned (OpenSpec.ofChange fnExactRowDropSpec)

/-- ITS FALSE NEIGHBOUR: 'it returns false'. Refute it at one input. -/
def fnExactRowDropWrong : ChangeSpec := { name := "fnExactRowDrop", fn := fun _ => fun
  | [d1, d2] => { results := [.lit (.bool false)], args := [d1, d2] }
  | _ => none }
def FnExactRowDropWrongFalsely : Prop := fnExactRowDropRow.holds Try.pinned (OpenSpec.ofChange fnExactRowDropWrong)

/-- 'laws.FnExactJsonOk': WHATEVER THE INPUT: true; the input reads as it did. -/
def fnExactJsonOkSpec : ChangeSpec := { name := "fnExactJsonOk", fn := fun _ => fun
  | [d] => { results := [.lit (.bool true)], args := [d] }
  | _ => none }
def fnExactJsonOkRow : OpenClaim := { program := "ytchjcllpnpibeaa", sum := "5b8909f74949cd9d230ed7e4297bf8d252a1fd30ed5fa64467951db438c79e13", func := "loop.example/g00198/laws.FnExactJsonOk", spec := "fnExactJsonOk", recurses := true, loops := true, apart := false }
def FnExactJsonOkSaid : Prop := fnExactJsonOkRow.holds Try.pinned (OpenSpec.ofChange fnExactJsonOkSpec)

/-- ITS FALSE NEIGHBOUR: 'it returns false'. Refute it at one input. -/
def fnExactJsonOkWrong : ChangeSpec := { name := "fnExactJsonOk", fn := fun _ => fun
  | [d] => { results := [.lit (.bool false)], args := [d] }
  | _ => none }
def FnExactJsonOkWrongFalsely : Prop := fnExactJsonOkRow.holds Try.pinned (OpenSpec.ofChange fnExactJsonOkWrong)

/-- 'laws.FnSchema': WHATEVER THE INPUT: true; the input reads as it did. -/
def fnSchemaSpec : ChangeSpec := { name := "fnSchema", fn := fun _ => fun
  | [d] => { results := [.lit (.bool true)], args := [d] }
  | _ => none }
def fnSchemaRow : OpenClaim := { program := "ytchjcllpnpibeaa", sum := "5b8909f74949cd9d230ed7e4297bf8d252a1fd30ed5fa64467951db438c79e13", func := "loop.example/g00198/laws.FnSchema", spec := "fnSchema", unfollowed := true, recurses := true, apart := false }
def FnSchemaSaid : Prop := fnSchemaRow.holds Try.pinned (OpenSpec.ofChange fnSchemaSpec)

/-- ITS FALSE NEIGHBOUR: 'it returns false'. Refute it at one input. -/
def fnSchemaWrong : ChangeSpec := { name := "fnSchema", fn := fun _ => fun
  | [d] => { results := [.lit (.bool false)], args := [d] }
  | _ => none }
def FnSchemaWrongFalsely : Prop := fnSchemaRow.holds Try.pinned (OpenSpec.ofChange fnSchemaWrong)

/-- 'laws.FnExactJsonSize': WHATEVER THE INPUT: true; the input reads as it did. -/
def fnExactJsonSizeSpec : ChangeSpec := { name := "fnExactJsonSize", fn := fun _ => fun
  | [d] => { results := [.lit (.bool true)], args := [d] }
  | _ => none }
def fnExactJsonSizeRow : OpenClaim := { program := "ytchjcllpnpibeaa", sum := "5b8909f74949cd9d230ed7e4297bf8d252a1fd30ed5fa64467951db438c79e13", func := "loop.example/g00198/laws.FnExactJsonSize", spec := "fnExactJsonSize", recurses := true, loops := true, apart := false }
def FnExactJsonSizeSaid : Prop := fnExactJsonSizeRow.holds Try.pinned (OpenSpec.ofChange fnExactJsonSizeSpec)

/-- ITS FALSE NEIGHBOUR: 'it returns false'. Refute it at one input. -/
def fnExactJsonSizeWrong : ChangeSpec := { name := "fnExactJsonSize", fn := fun _ => fun
  | [d] => { results := [.lit (.bool false)], args := [d] }
  | _ => none }
def FnExactJsonSizeWrongFalsely : Prop := fnExactJsonSizeRow.holds Try.pinned (OpenSpec.ofChange fnExactJsonSizeWrong)

/-- 'laws.FnExactStoreNew': WHATEVER THE INPUT: true; the input reads as it did. -/
def fnExactStoreNewSpec : ChangeSpec := { name := "fnExactStoreNew", fn := fun _ => fun
  | [d] => { results := [.lit (.bool true)], args := [d] }
  | _ => none }
def fnExactStoreNewRow : OpenClaim := { program := "ytchjcllpnpibeaa", sum := "5b8909f74949cd9d230ed7e4297bf8d252a1fd30ed5fa64467951db438c79e13", func := "loop.example/g00198/laws.FnExactStoreNew", spec := "fnExactStoreNew", apart := false }
def FnExactStoreNewSaid : Prop := fnExactStoreNewRow.holds Try.pinned (OpenSpec.ofChange fnExactStoreNewSpec)

/-- ITS FALSE NEIGHBOUR: 'it returns false'. Refute it at one input. -/
def fnExactStoreNewWrong : ChangeSpec := { name := "fnExactStoreNew", fn := fun _ => fun
  | [d] => { results := [.lit (.bool false)], args := [d] }
  | _ => none }
def FnExactStoreNewWrongFalsely : Prop := fnExactStoreNewRow.holds Try.pinned (OpenSpec.ofChange fnExactStoreNewWrong)

/-- 'laws.FnExactStoreOk': WHATEVER THE INPUT: true; the input reads as it did. -/
def fnExactStoreOkSpec : ChangeSpec := { name := "fnExactStoreOk", fn := fun _ => fun
  | [d] => { results := [.lit (.bool true)], args := [d] }
  | _ => none }
def fnExactStoreOkRow : OpenClaim := { program := "ytchjcllpnpibeaa", sum := "5b8909f74949cd9d230ed7e4297bf8d252a1fd30ed5fa64467951db438c79e13", func := "loop.example/g00198/laws.FnExactStoreOk", spec := "fnExactStoreOk", apart := false }
def FnExactStoreOkSaid : Prop := fnExactStoreOkRow.holds Try.pinned (OpenSpec.ofChange fnExactStoreOkSpec)

/-- ITS FALSE NEIGHBOUR: 'it returns false'. Refute it at one input. -/
def fnExactStoreOkWrong : ChangeSpec := { name := "fnExactStoreOk", fn := fun _ => fun
  | [d] => { results := [.lit (.bool false)], args := [d] }
  | _ => none }
def FnExactStoreOkWrongFalsely : Prop := fnExactStoreOkRow.holds Try.pinned (OpenSpec.ofChange fnExactStoreOkWrong)

/-- 'laws.FnExactNumOf': WHATEVER THE INPUT: true; the input reads as it did. -/
def fnExactNumOfSpec : ChangeSpec := { name := "fnExactNumOf", fn := fun _ => fun
  | [d] => { results := [.lit (.bool true)], args := [d] }
  | _ => none }
def fnExactNumOfRow : OpenClaim := { program := "ytchjcllpnpibeaa", sum := "5b8909f74949cd9d230ed7e4297bf8d252a1fd30ed5fa64467951db438c79e13", func := "loop.example/g00198/laws.FnExactNumOf", spec := "fnExactNumOf", recurses := true, apart := false }
def FnExactNumOfSaid : Prop := fnExactNumOfRow.holds Try.pinned (OpenSpec.ofChange fnExactNumOfSpec)

/-- ITS FALSE NEIGHBOUR: 'it returns false'. Refute it at one input. -/
def fnExactNumOfWrong : ChangeSpec := { name := "fnExactNumOf", fn := fun _ => fun
  | [d] => { results := [.lit (.bool false)], args := [d] }
  | _ => none }
def FnExactNumOfWrongFalsely : Prop := fnExactNumOfRow.holds Try.pinned (OpenSpec.ofChange fnExactNumOfWrong)

/-- 'laws.FnExactTextOf': WHATEVER THE INPUT: true; the input reads as it did. -/
def fnExactTextOfSpec : ChangeSpec := { name := "fnExactTextOf", fn := fun _ => fun
  | [d] => { results := [.lit (.bool true)], args := [d] }
  | _ => none }
def fnExactTextOfRow : OpenClaim := { program := "ytchjcllpnpibeaa", sum := "5b8909f74949cd9d230ed7e4297bf8d252a1fd30ed5fa64467951db438c79e13", func := "loop.example/g00198/laws.FnExactTextOf", spec := "fnExactTextOf", recurses := true, apart := false }
def FnExactTextOfSaid : Prop := fnExactTextOfRow.holds Try.pinned (OpenSpec.ofChange fnExactTextOfSpec)

/-- ITS FALSE NEIGHBOUR: 'it returns false'. Refute it at one input. -/
def fnExactTextOfWrong : ChangeSpec := { name := "fnExactTextOf", fn := fun _ => fun
  | [d] => { results := [.lit (.bool false)], args := [d] }
  | _ => none }
def FnExactTextOfWrongFalsely : Prop := fnExactTextOfRow.holds Try.pinned (OpenSpec.ofChange fnExactTextOfWrong)

/-- 'laws.FnExactJsonDepth': WHATEVER THE INPUT: true; the input reads as it did. -/
def fnExactJsonDepthSpec : ChangeSpec := { name := "fnExactJsonDepth", fn := fun _ => fun
  | [d] => { results := [.lit (.bool true)], args := [d] }
  | _ => none }
def fnExactJsonDepthRow : OpenClaim := { program := "ytchjcllpnpibeaa", sum := "5b8909f74949cd9d230ed7e4297bf8d252a1fd30ed5fa64467951db438c79e13", func := "loop.example/g00198/laws.FnExactJsonDepth", spec := "fnExactJsonDepth", recurses := true, loops := true, apart := false }
def FnExactJsonDepthSaid : Prop := fnExactJsonDepthRow.holds Try.pinned (OpenSpec.ofChange fnExactJsonDepthSpec)

/-- ITS FALSE NEIGHBOUR: 'it returns false'. Refute it at one input. -/
def fnExactJsonDepthWrong : ChangeSpec := { name := "fnExactJsonDepth", fn := fun _ => fun
  | [d] => { results := [.lit (.bool false)], args := [d] }
  | _ => none }
def FnExactJsonDepthWrongFalsely : Prop := fnExactJsonDepthRow.holds Try.pinned (OpenSpec.ofChange fnExactJsonDepthWrong)

/-- 'laws.FnExactJsonSame': WHATEVER THE INPUT: true; the input reads as it did. -/
def fnExactJsonSameSpec : ChangeSpec := { name := "fnExactJsonSame", fn := fun _ => fun
  | [d1, d2] => { results := [.lit (.bool true)], args := [d1, d2] }
  | _ => none }
def fnExactJsonSameRow : OpenClaim := { program := "ytchjcllpnpibeaa", sum := "5b8909f74949cd9d230ed7e4297bf8d252a1fd30ed5fa64467951db438c79e13", func := "loop.example/g00198/laws.FnExactJsonSame", spec := "fnExactJsonSame", unfollowed := true, recurses := true, loops := true, apart := false }
def FnExactJsonSameSaid : Prop := fnExactJsonSameRow.holds Try.pinned (OpenSpec.ofChange fnExactJsonSameSpec)

/-- ITS FALSE NEIGHBOUR: 'it returns false'. Refute it at one input. -/
def fnExactJsonSameWrong : ChangeSpec := { name := "fnExactJsonSame", fn := fun _ => fun
  | [d1, d2] => { results := [.lit (.bool false)], args := [d1, d2] }
  | _ => none }
def FnExactJsonSameWrongFalsely : Prop := fnExactJsonSameRow.holds Try.pinned (OpenSpec.ofChange fnExactJsonSameWrong)

/-- 'laws.FnExactOpOk': WHATEVER THE INPUT: true; the input reads as it did. -/
def fnExactOpOkSpec : ChangeSpec := { name := "fnExactOpOk", fn := fun _ => fun
  | [d] => { results := [.lit (.bool true)], args := [d] }
  | _ => none }
def fnExactOpOkRow : OpenClaim := { program := "ytchjcllpnpibeaa", sum := "5b8909f74949cd9d230ed7e4297bf8d252a1fd30ed5fa64467951db438c79e13", func := "loop.example/g00198/laws.FnExactOpOk", spec := "fnExactOpOk", recurses := true, loops := true, apart := false }
def FnExactOpOkSaid : Prop := fnExactOpOkRow.holds Try.pinned (OpenSpec.ofChange fnExactOpOkSpec)

/-- ITS FALSE NEIGHBOUR: 'it returns false'. Refute it at one input. -/
def fnExactOpOkWrong : ChangeSpec := { name := "fnExactOpOk", fn := fun _ => fun
  | [d] => { results := [.lit (.bool false)], args := [d] }
  | _ => none }
def FnExactOpOkWrongFalsely : Prop := fnExactOpOkRow.holds Try.pinned (OpenSpec.ofChange fnExactOpOkWrong)

/-- 'laws.FnTable': WHATEVER THE INPUT: true; the input reads as it did. -/
def fnTableSpec : ChangeSpec := { name := "fnTable", fn := fun _ => fun
  | [d] => { results := [.lit (.bool true)], args := [d] }
  | _ => none }
def fnTableRow : OpenClaim := { program := "ytchjcllpnpibeaa", sum := "5b8909f74949cd9d230ed7e4297bf8d252a1fd30ed5fa64467951db438c79e13", func := "loop.example/g00198/laws.FnTable", spec := "fnTable", inPlace := ["slices.overlaps[loop.example/g00198/impl.Row]"], unfollowed := true, recurses := true, apart := false }
def FnTableSaid : Prop := fnTableRow.holds Try.pinned (OpenSpec.ofChange fnTableSpec)

/-- ITS FALSE NEIGHBOUR: 'it returns false'. Refute it at one input. -/
def fnTableWrong : ChangeSpec := { name := "fnTable", fn := fun _ => fun
  | [d] => { results := [.lit (.bool false)], args := [d] }
  | _ => none }
def FnTableWrongFalsely : Prop := fnTableRow.holds Try.pinned (OpenSpec.ofChange fnTableWrong)

/-- 'laws.FnExactRowPut': WHATEVER THE INPUT: true; the input reads as it did. -/
def fnExactRowPutSpec : ChangeSpec := { name := "fnExactRowPut", fn := fun _ => fun
  | [d1, d2] => { results := [.lit (.bool true)], args := [d1, d2] }
  | _ => none }
def fnExactRowPutRow : OpenClaim := { program := "ytchjcllpnpibeaa", sum := "5b8909f74949cd9d230ed7e4297bf8d252a1fd30ed5fa64467951db438c79e13", func := "loop.example/g00198/laws.FnExactRowPut", spec := "fnExactRowPut", inPlace := ["slices.overlaps[loop.example/g00198/impl.Row]"], unfollowed := true, recurses := true, apart := false }
def FnExactRowPutSaid : Prop := fnExactRowPutRow.holds Try.pinned (OpenSpec.ofChange fnExactRowPutSpec)

/-- ITS FALSE NEIGHBOUR: 'it returns false'. Refute it at one input. -/
def fnExactRowPutWrong : ChangeSpec := { name := "fnExactRowPut", fn := fun _ => fun
  | [d1, d2] => { results := [.lit (.bool false)], args := [d1, d2] }
  | _ => none }
def FnExactRowPutWrongFalsely : Prop := fnExactRowPutRow.holds Try.pinned (OpenSpec.ofChange fnExactRowPutWrong)

/-- 'laws.FnExactUnder': WHATEVER THE INPUT: true; the input reads as it did. -/
def fnExactUnderSpec : ChangeSpec := { name := "fnExactUnder", fn := fun _ => fun
  | [d1, d2] => { results := [.lit (.bool true)], args := [d1, d2] }
  | _ => none }
def fnExactUnderRow : OpenClaim := { program := "ytchjcllpnpibeaa", sum := "5b8909f74949cd9d230ed7e4297bf8d252a1fd30ed5fa64467951db438c79e13", func := "loop.example/g00198/laws.FnExactUnder", spec := "fnExactUnder", recurses := true, loops := true, apart := false }
def FnExactUnderSaid : Prop := fnExactUnderRow.holds Try.pinned (OpenSpec.ofChange fnExactUnderSpec)

/-- ITS FALSE NEIGHBOUR: 'it returns false'. Refute it at one input. -/
def fnExactUnderWrong : ChangeSpec := { name := "fnExactUnder", fn := fun _ => fun
  | [d1, d2] => { results := [.lit (.bool false)], args := [d1, d2] }
  | _ => none }
def FnExactUnderWrongFalsely : Prop := fnExactUnderRow.holds Try.pinned (OpenSpec.ofChange fnExactUnderWrong)

/-- 'laws.FnJson': WHATEVER THE INPUT: true; the input reads as it did. -/
def fnJsonSpec : ChangeSpec := { name := "fnJson", fn := fun _ => fun
  | [d] => { results := [.lit (.bool true)], args := [d] }
  | _ => none }
def fnJsonRow : OpenClaim := { program := "ytchjcllpnpibeaa", sum := "5b8909f74949cd9d230ed7e4297bf8d252a1fd30ed5fa64467951db438c79e13", func := "loop.example/g00198/laws.FnJson", spec := "fnJson", unfollowed := true, recurses := true, apart := false }
def FnJsonSaid : Prop := fnJsonRow.holds Try.pinned (OpenSpec.ofChange fnJsonSpec)

/-- ITS FALSE NEIGHBOUR: 'it returns false'. Refute it at one input. -/
def fnJsonWrong : ChangeSpec := { name := "fnJson", fn := fun _ => fun
  | [d] => { results := [.lit (.bool false)], args := [d] }
  | _ => none }
def FnJsonWrongFalsely : Prop := fnJsonRow.holds Try.pinned (OpenSpec.ofChange fnJsonWrong)

/-- 'laws.FnExactField': WHATEVER THE INPUT: true; the input reads as it did. -/
def fnExactFieldSpec : ChangeSpec := { name := "fnExactField", fn := fun _ => fun
  | [d1, d2] => { results := [.lit (.bool true)], args := [d1, d2] }
  | _ => none }
def fnExactFieldRow : OpenClaim := { program := "ytchjcllpnpibeaa", sum := "5b8909f74949cd9d230ed7e4297bf8d252a1fd30ed5fa64467951db438c79e13", func := "loop.example/g00198/laws.FnExactField", spec := "fnExactField", recurses := true, loops := true, apart := false }
def FnExactFieldSaid : Prop := fnExactFieldRow.holds Try.pinned (OpenSpec.ofChange fnExactFieldSpec)

/-- ITS FALSE NEIGHBOUR: 'it returns false'. Refute it at one input. -/
def fnExactFieldWrong : ChangeSpec := { name := "fnExactField", fn := fun _ => fun
  | [d1, d2] => { results := [.lit (.bool false)], args := [d1, d2] }
  | _ => none }
def FnExactFieldWrongFalsely : Prop := fnExactFieldRow.holds Try.pinned (OpenSpec.ofChange fnExactFieldWrong)

/-- 'laws.FnUnder': WHATEVER THE INPUT: true; the input reads as it did. -/
def fnUnderSpec : ChangeSpec := { name := "fnUnder", fn := fun _ => fun
  | [d] => { results := [.lit (.bool true)], args := [d] }
  | _ => none }
def fnUnderRow : OpenClaim := { program := "ytchjcllpnpibeaa", sum := "5b8909f74949cd9d230ed7e4297bf8d252a1fd30ed5fa64467951db438c79e13", func := "loop.example/g00198/laws.FnUnder", spec := "fnUnder", recurses := true, apart := false }
def FnUnderSaid : Prop := fnUnderRow.holds Try.pinned (OpenSpec.ofChange fnUnderSpec)

/-- ITS FALSE NEIGHBOUR: 'it returns false'. Refute it at one input. -/
def fnUnderWrong : ChangeSpec := { name := "fnUnder", fn := fun _ => fun
  | [d] => { results := [.lit (.bool false)], args := [d] }
  | _ => none }
def FnUnderWrongFalsely : Prop := fnUnderRow.holds Try.pinned (OpenSpec.ofChange fnUnderWrong)

/-- 'laws.FnExactDiff': WHATEVER THE INPUT: true; the input reads as it did. -/
def fnExactDiffSpec : ChangeSpec := { name := "fnExactDiff", fn := fun _ => fun
  | [d1, d2] => { results := [.lit (.bool true)], args := [d1, d2] }
  | _ => none }
def fnExactDiffRow : OpenClaim := { program := "ytchjcllpnpibeaa", sum := "5b8909f74949cd9d230ed7e4297bf8d252a1fd30ed5fa64467951db438c79e13", func := "loop.example/g00198/laws.FnExactDiff", spec := "fnExactDiff", unfollowed := true, recurses := true, loops := true, apart := false }
def FnExactDiffSaid : Prop := fnExactDiffRow.holds Try.pinned (OpenSpec.ofChange fnExactDiffSpec)

/-- ITS FALSE NEIGHBOUR: 'it returns false'. Refute it at one input. -/
def fnExactDiffWrong : ChangeSpec := { name := "fnExactDiff", fn := fun _ => fun
  | [d1, d2] => { results := [.lit (.bool false)], args := [d1, d2] }
  | _ => none }
def FnExactDiffWrongFalsely : Prop := fnExactDiffRow.holds Try.pinned (OpenSpec.ofChange fnExactDiffWrong)

/-- 'laws.FnMut': WHATEVER THE INPUT: true; the input reads as it did. -/
def fnMutSpec : ChangeSpec := { name := "fnMut", fn := fun _ => fun
  | [d] => { results := [.lit (.bool true)], args := [d] }
  | _ => none }
def fnMutRow : OpenClaim := { program := "ytchjcllpnpibeaa", sum := "5b8909f74949cd9d230ed7e4297bf8d252a1fd30ed5fa64467951db438c79e13", func := "loop.example/g00198/laws.FnMut", spec := "fnMut", inPlace := ["slices.overlaps[loop.example/g00198/impl.Row]"], unfollowed := true, recurses := true, apart := false }
def FnMutSaid : Prop := fnMutRow.holds Try.pinned (OpenSpec.ofChange fnMutSpec)

/-- ITS FALSE NEIGHBOUR: 'it returns false'. Refute it at one input. -/
def fnMutWrong : ChangeSpec := { name := "fnMut", fn := fun _ => fun
  | [d] => { results := [.lit (.bool false)], args := [d] }
  | _ => none }
def FnMutWrongFalsely : Prop := fnMutRow.holds Try.pinned (OpenSpec.ofChange fnMutWrong)

/-- 'laws.FnBatch': WHATEVER THE INPUT: true; the input reads as it did. -/
def fnBatchSpec : ChangeSpec := { name := "fnBatch", fn := fun _ => fun
  | [d] => { results := [.lit (.bool true)], args := [d] }
  | _ => none }
def fnBatchRow : OpenClaim := { program := "ytchjcllpnpibeaa", sum := "5b8909f74949cd9d230ed7e4297bf8d252a1fd30ed5fa64467951db438c79e13", func := "loop.example/g00198/laws.FnBatch", spec := "fnBatch", inPlace := ["slices.overlaps[loop.example/g00198/impl.Row]"], unfollowed := true, recurses := true, apart := false }
def FnBatchSaid : Prop := fnBatchRow.holds Try.pinned (OpenSpec.ofChange fnBatchSpec)

/-- ITS FALSE NEIGHBOUR: 'it returns false'. Refute it at one input. -/
def fnBatchWrong : ChangeSpec := { name := "fnBatch", fn := fun _ => fun
  | [d] => { results := [.lit (.bool false)], args := [d] }
  | _ => none }
def FnBatchWrongFalsely : Prop := fnBatchRow.holds Try.pinned (OpenSpec.ofChange fnBatchWrong)

/-- 'laws.FnExactBack': WHATEVER THE INPUT: true; the input reads as it did. -/
def fnExactBackSpec : ChangeSpec := { name := "fnExactBack", fn := fun _ => fun
  | [d1, d2] => { results := [.lit (.bool true)], args := [d1, d2] }
  | _ => none }
def fnExactBackRow : OpenClaim := { program := "ytchjcllpnpibeaa", sum := "5b8909f74949cd9d230ed7e4297bf8d252a1fd30ed5fa64467951db438c79e13", func := "loop.example/g00198/laws.FnExactBack", spec := "fnExactBack", inPlace := ["slices.overlaps[loop.example/g00198/impl.Row]"], unfollowed := true, recurses := true, apart := false }
def FnExactBackSaid : Prop := fnExactBackRow.holds Try.pinned (OpenSpec.ofChange fnExactBackSpec)

/-- ITS FALSE NEIGHBOUR: 'it returns false'. Refute it at one input. -/
def fnExactBackWrong : ChangeSpec := { name := "fnExactBack", fn := fun _ => fun
  | [d1, d2] => { results := [.lit (.bool false)], args := [d1, d2] }
  | _ => none }
def FnExactBackWrongFalsely : Prop := fnExactBackRow.holds Try.pinned (OpenSpec.ofChange fnExactBackWrong)

/- THE SECOND FORM. 'bulk': how many values and letters a reading holds, each counted each time it is reached (what is shared counts as often as it is met; a slice's spare places count too). A statement '..UptoSaid' is the law's where the arguments, and the package variables that the reading takes, are together of bulk at most 1048576: NARROWER than '..Said'. Prove '..Said' where nothing that the law and all that it calls make is longer than what came in: it says more and counts as full. Else prove '..UptoSaid'. A law counts once. -/
mutual
def uptoBulk {H : Type} : DataW H → Nat
  | .lit (.string bytes) => bytes.length + 1
  | .lit _ => 1
  | .nil => 1
  | .ptr d => uptoBulk d + 1
  | .slice elems spare => uptoBulkAll elems + uptoBulkAll spare + 1
  | .agg parts => uptoBulkAll parts + 1
  | .iface _ d => uptoBulk d + 1
  | .map entries => uptoBulkEntries entries + 1
  | .held _ => 1
def uptoBulkAll {H : Type} : List (DataW H) → Nat
  | [] => 0
  | d :: r => uptoBulk d + uptoBulkAll r
def uptoBulkEntries {H : Type} : List (Lit × DataW H) → Nat
  | [] => 0
  | x :: r => uptoBulkEntry x + uptoBulkEntries r
def uptoBulkEntry {H : Type} : Lit × DataW H → Nat
  | (.string bytes, d) => bytes.length + uptoBulk d + 1
  | (_, d) => uptoBulk d + 1
 end
def uptoSmall : (H : Type) → List (DataW H) → Bool := fun _ ds => decide (uptoBulkAll ds ≤ 1048576)
def OpenSpec.upto (s : _root_.Go.ChangeSpec) : _root_.Go.OpenSpec := { _root_.Go.OpenSpec.ofChange s with cond := some uptoSmall }

/-- 'laws.FnExactConstants', WHERE WHAT IT READS IS OF BULK AT MOST 1048576: true; the input reads as it did. -/
def fnExactConstantsUptoRow : OpenClaim := { program := "ytchjcllpnpibeaa", sum := "5b8909f74949cd9d230ed7e4297bf8d252a1fd30ed5fa64467951db438c79e13", func := "loop.example/g00198/laws.FnExactConstants", spec := "fnExactConstants", apart := false, narrowed := true }
def FnExactConstantsUptoSaid : Prop := fnExactConstantsUptoRow.holds Try.pinned (OpenSpec.upto fnExactConstantsSpec)

/-- 'laws.FnExactSchemaOk', WHERE WHAT IT READS IS OF BULK AT MOST 1048576: true; the input reads as it did. -/
def fnExactSchemaOkUptoRow : OpenClaim := { program := "ytchjcllpnpibeaa", sum := "5b8909f74949cd9d230ed7e4297bf8d252a1fd30ed5fa64467951db438c79e13", func := "loop.example/g00198/laws.FnExactSchemaOk", spec := "fnExactSchemaOk", apart := false, narrowed := true }
def FnExactSchemaOkUptoSaid : Prop := fnExactSchemaOkUptoRow.holds Try.pinned (OpenSpec.upto fnExactSchemaOkSpec)

/-- 'laws.FnExactRowSame', WHERE WHAT IT READS IS OF BULK AT MOST 1048576: true; the input reads as it did. -/
def fnExactRowSameUptoRow : OpenClaim := { program := "ytchjcllpnpibeaa", sum := "5b8909f74949cd9d230ed7e4297bf8d252a1fd30ed5fa64467951db438c79e13", func := "loop.example/g00198/laws.FnExactRowSame", spec := "fnExactRowSame", apart := false, narrowed := true }
def FnExactRowSameUptoSaid : Prop := fnExactRowSameUptoRow.holds Try.pinned (OpenSpec.upto fnExactRowSameSpec)

/-- 'laws.FnExactRowAt', WHERE WHAT IT READS IS OF BULK AT MOST 1048576: true; the input reads as it did. -/
def fnExactRowAtUptoRow : OpenClaim := { program := "ytchjcllpnpibeaa", sum := "5b8909f74949cd9d230ed7e4297bf8d252a1fd30ed5fa64467951db438c79e13", func := "loop.example/g00198/laws.FnExactRowAt", spec := "fnExactRowAt", unfollowed := true, recurses := true, apart := false, narrowed := true }
def FnExactRowAtUptoSaid : Prop := fnExactRowAtUptoRow.holds Try.pinned (OpenSpec.upto fnExactRowAtSpec)

/-- 'laws.FnExactRowOk', WHERE WHAT IT READS IS OF BULK AT MOST 1048576: true; the input reads as it did. -/
def fnExactRowOkUptoRow : OpenClaim := { program := "ytchjcllpnpibeaa", sum := "5b8909f74949cd9d230ed7e4297bf8d252a1fd30ed5fa64467951db438c79e13", func := "loop.example/g00198/laws.FnExactRowOk", spec := "fnExactRowOk", apart := false, narrowed := true }
def FnExactRowOkUptoSaid : Prop := fnExactRowOkUptoRow.holds Try.pinned (OpenSpec.upto fnExactRowOkSpec)

/-- 'laws.FnExactMutOk', WHERE WHAT IT READS IS OF BULK AT MOST 1048576: true; the input reads as it did. -/
def fnExactMutOkUptoRow : OpenClaim := { program := "ytchjcllpnpibeaa", sum := "5b8909f74949cd9d230ed7e4297bf8d252a1fd30ed5fa64467951db438c79e13", func := "loop.example/g00198/laws.FnExactMutOk", spec := "fnExactMutOk", apart := false, narrowed := true }
def FnExactMutOkUptoSaid : Prop := fnExactMutOkUptoRow.holds Try.pinned (OpenSpec.upto fnExactMutOkSpec)

/-- 'laws.FnExactRowsOk', WHERE WHAT IT READS IS OF BULK AT MOST 1048576: true; the input reads as it did. -/
def fnExactRowsOkUptoRow : OpenClaim := { program := "ytchjcllpnpibeaa", sum := "5b8909f74949cd9d230ed7e4297bf8d252a1fd30ed5fa64467951db438c79e13", func := "loop.example/g00198/laws.FnExactRowsOk", spec := "fnExactRowsOk", apart := false, narrowed := true }
def FnExactRowsOkUptoSaid : Prop := fnExactRowsOkUptoRow.holds Try.pinned (OpenSpec.upto fnExactRowsOkSpec)

/-- 'laws.FnExactRowDrop', WHERE WHAT IT READS IS OF BULK AT MOST 1048576: true; the input reads as it did. -/
def fnExactRowDropUptoRow : OpenClaim := { program := "ytchjcllpnpibeaa", sum := "5b8909f74949cd9d230ed7e4297bf8d252a1fd30ed5fa64467951db438c79e13", func := "loop.example/g00198/laws.FnExactRowDrop", spec := "fnExactRowDrop", unfollowed := true, recurses := true, apart := false, narrowed := true }
def FnExactRowDropUptoSaid : Prop := fnExactRowDropUptoRow.holds Try.pinned (OpenSpec.upto fnExactRowDropSpec)

/-- 'laws.FnExactJsonOk', WHERE WHAT IT READS IS OF BULK AT MOST 1048576: true; the input reads as it did. -/
def fnExactJsonOkUptoRow : OpenClaim := { program := "ytchjcllpnpibeaa", sum := "5b8909f74949cd9d230ed7e4297bf8d252a1fd30ed5fa64467951db438c79e13", func := "loop.example/g00198/laws.FnExactJsonOk", spec := "fnExactJsonOk", recurses := true, loops := true, apart := false, narrowed := true }
def FnExactJsonOkUptoSaid : Prop := fnExactJsonOkUptoRow.holds Try.pinned (OpenSpec.upto fnExactJsonOkSpec)

/-- 'laws.FnSchema', WHERE WHAT IT READS IS OF BULK AT MOST 1048576: true; the input reads as it did. -/
def fnSchemaUptoRow : OpenClaim := { program := "ytchjcllpnpibeaa", sum := "5b8909f74949cd9d230ed7e4297bf8d252a1fd30ed5fa64467951db438c79e13", func := "loop.example/g00198/laws.FnSchema", spec := "fnSchema", unfollowed := true, recurses := true, apart := false, narrowed := true }
def FnSchemaUptoSaid : Prop := fnSchemaUptoRow.holds Try.pinned (OpenSpec.upto fnSchemaSpec)

/-- 'laws.FnExactJsonSize', WHERE WHAT IT READS IS OF BULK AT MOST 1048576: true; the input reads as it did. -/
def fnExactJsonSizeUptoRow : OpenClaim := { program := "ytchjcllpnpibeaa", sum := "5b8909f74949cd9d230ed7e4297bf8d252a1fd30ed5fa64467951db438c79e13", func := "loop.example/g00198/laws.FnExactJsonSize", spec := "fnExactJsonSize", recurses := true, loops := true, apart := false, narrowed := true }
def FnExactJsonSizeUptoSaid : Prop := fnExactJsonSizeUptoRow.holds Try.pinned (OpenSpec.upto fnExactJsonSizeSpec)

/-- 'laws.FnExactStoreNew', WHERE WHAT IT READS IS OF BULK AT MOST 1048576: true; the input reads as it did. -/
def fnExactStoreNewUptoRow : OpenClaim := { program := "ytchjcllpnpibeaa", sum := "5b8909f74949cd9d230ed7e4297bf8d252a1fd30ed5fa64467951db438c79e13", func := "loop.example/g00198/laws.FnExactStoreNew", spec := "fnExactStoreNew", apart := false, narrowed := true }
def FnExactStoreNewUptoSaid : Prop := fnExactStoreNewUptoRow.holds Try.pinned (OpenSpec.upto fnExactStoreNewSpec)

/-- 'laws.FnExactStoreOk', WHERE WHAT IT READS IS OF BULK AT MOST 1048576: true; the input reads as it did. -/
def fnExactStoreOkUptoRow : OpenClaim := { program := "ytchjcllpnpibeaa", sum := "5b8909f74949cd9d230ed7e4297bf8d252a1fd30ed5fa64467951db438c79e13", func := "loop.example/g00198/laws.FnExactStoreOk", spec := "fnExactStoreOk", apart := false, narrowed := true }
def FnExactStoreOkUptoSaid : Prop := fnExactStoreOkUptoRow.holds Try.pinned (OpenSpec.upto fnExactStoreOkSpec)

/-- 'laws.FnExactNumOf', WHERE WHAT IT READS IS OF BULK AT MOST 1048576: true; the input reads as it did. -/
def fnExactNumOfUptoRow : OpenClaim := { program := "ytchjcllpnpibeaa", sum := "5b8909f74949cd9d230ed7e4297bf8d252a1fd30ed5fa64467951db438c79e13", func := "loop.example/g00198/laws.FnExactNumOf", spec := "fnExactNumOf", recurses := true, apart := false, narrowed := true }
def FnExactNumOfUptoSaid : Prop := fnExactNumOfUptoRow.holds Try.pinned (OpenSpec.upto fnExactNumOfSpec)

/-- 'laws.FnExactTextOf', WHERE WHAT IT READS IS OF BULK AT MOST 1048576: true; the input reads as it did. -/
def fnExactTextOfUptoRow : OpenClaim := { program := "ytchjcllpnpibeaa", sum := "5b8909f74949cd9d230ed7e4297bf8d252a1fd30ed5fa64467951db438c79e13", func := "loop.example/g00198/laws.FnExactTextOf", spec := "fnExactTextOf", recurses := true, apart := false, narrowed := true }
def FnExactTextOfUptoSaid : Prop := fnExactTextOfUptoRow.holds Try.pinned (OpenSpec.upto fnExactTextOfSpec)

/-- 'laws.FnExactJsonDepth', WHERE WHAT IT READS IS OF BULK AT MOST 1048576: true; the input reads as it did. -/
def fnExactJsonDepthUptoRow : OpenClaim := { program := "ytchjcllpnpibeaa", sum := "5b8909f74949cd9d230ed7e4297bf8d252a1fd30ed5fa64467951db438c79e13", func := "loop.example/g00198/laws.FnExactJsonDepth", spec := "fnExactJsonDepth", recurses := true, loops := true, apart := false, narrowed := true }
def FnExactJsonDepthUptoSaid : Prop := fnExactJsonDepthUptoRow.holds Try.pinned (OpenSpec.upto fnExactJsonDepthSpec)

/-- 'laws.FnExactJsonSame', WHERE WHAT IT READS IS OF BULK AT MOST 1048576: true; the input reads as it did. -/
def fnExactJsonSameUptoRow : OpenClaim := { program := "ytchjcllpnpibeaa", sum := "5b8909f74949cd9d230ed7e4297bf8d252a1fd30ed5fa64467951db438c79e13", func := "loop.example/g00198/laws.FnExactJsonSame", spec := "fnExactJsonSame", unfollowed := true, recurses := true, loops := true, apart := false, narrowed := true }
def FnExactJsonSameUptoSaid : Prop := fnExactJsonSameUptoRow.holds Try.pinned (OpenSpec.upto fnExactJsonSameSpec)

/-- 'laws.FnExactOpOk', WHERE WHAT IT READS IS OF BULK AT MOST 1048576: true; the input reads as it did. -/
def fnExactOpOkUptoRow : OpenClaim := { program := "ytchjcllpnpibeaa", sum := "5b8909f74949cd9d230ed7e4297bf8d252a1fd30ed5fa64467951db438c79e13", func := "loop.example/g00198/laws.FnExactOpOk", spec := "fnExactOpOk", recurses := true, loops := true, apart := false, narrowed := true }
def FnExactOpOkUptoSaid : Prop := fnExactOpOkUptoRow.holds Try.pinned (OpenSpec.upto fnExactOpOkSpec)

/-- 'laws.FnTable', WHERE WHAT IT READS IS OF BULK AT MOST 1048576: true; the input reads as it did. -/
def fnTableUptoRow : OpenClaim := { program := "ytchjcllpnpibeaa", sum := "5b8909f74949cd9d230ed7e4297bf8d252a1fd30ed5fa64467951db438c79e13", func := "loop.example/g00198/laws.FnTable", spec := "fnTable", inPlace := ["slices.overlaps[loop.example/g00198/impl.Row]"], unfollowed := true, recurses := true, apart := false, narrowed := true }
def FnTableUptoSaid : Prop := fnTableUptoRow.holds Try.pinned (OpenSpec.upto fnTableSpec)

/-- 'laws.FnExactRowPut', WHERE WHAT IT READS IS OF BULK AT MOST 1048576: true; the input reads as it did. -/
def fnExactRowPutUptoRow : OpenClaim := { program := "ytchjcllpnpibeaa", sum := "5b8909f74949cd9d230ed7e4297bf8d252a1fd30ed5fa64467951db438c79e13", func := "loop.example/g00198/laws.FnExactRowPut", spec := "fnExactRowPut", inPlace := ["slices.overlaps[loop.example/g00198/impl.Row]"], unfollowed := true, recurses := true, apart := false, narrowed := true }
def FnExactRowPutUptoSaid : Prop := fnExactRowPutUptoRow.holds Try.pinned (OpenSpec.upto fnExactRowPutSpec)

/-- 'laws.FnExactUnder', WHERE WHAT IT READS IS OF BULK AT MOST 1048576: true; the input reads as it did. -/
def fnExactUnderUptoRow : OpenClaim := { program := "ytchjcllpnpibeaa", sum := "5b8909f74949cd9d230ed7e4297bf8d252a1fd30ed5fa64467951db438c79e13", func := "loop.example/g00198/laws.FnExactUnder", spec := "fnExactUnder", recurses := true, loops := true, apart := false, narrowed := true }
def FnExactUnderUptoSaid : Prop := fnExactUnderUptoRow.holds Try.pinned (OpenSpec.upto fnExactUnderSpec)

/-- 'laws.FnJson', WHERE WHAT IT READS IS OF BULK AT MOST 1048576: true; the input reads as it did. -/
def fnJsonUptoRow : OpenClaim := { program := "ytchjcllpnpibeaa", sum := "5b8909f74949cd9d230ed7e4297bf8d252a1fd30ed5fa64467951db438c79e13", func := "loop.example/g00198/laws.FnJson", spec := "fnJson", unfollowed := true, recurses := true, apart := false, narrowed := true }
def FnJsonUptoSaid : Prop := fnJsonUptoRow.holds Try.pinned (OpenSpec.upto fnJsonSpec)

/-- 'laws.FnExactField', WHERE WHAT IT READS IS OF BULK AT MOST 1048576: true; the input reads as it did. -/
def fnExactFieldUptoRow : OpenClaim := { program := "ytchjcllpnpibeaa", sum := "5b8909f74949cd9d230ed7e4297bf8d252a1fd30ed5fa64467951db438c79e13", func := "loop.example/g00198/laws.FnExactField", spec := "fnExactField", recurses := true, loops := true, apart := false, narrowed := true }
def FnExactFieldUptoSaid : Prop := fnExactFieldUptoRow.holds Try.pinned (OpenSpec.upto fnExactFieldSpec)

/-- 'laws.FnUnder', WHERE WHAT IT READS IS OF BULK AT MOST 1048576: true; the input reads as it did. -/
def fnUnderUptoRow : OpenClaim := { program := "ytchjcllpnpibeaa", sum := "5b8909f74949cd9d230ed7e4297bf8d252a1fd30ed5fa64467951db438c79e13", func := "loop.example/g00198/laws.FnUnder", spec := "fnUnder", recurses := true, apart := false, narrowed := true }
def FnUnderUptoSaid : Prop := fnUnderUptoRow.holds Try.pinned (OpenSpec.upto fnUnderSpec)

/-- 'laws.FnExactDiff', WHERE WHAT IT READS IS OF BULK AT MOST 1048576: true; the input reads as it did. -/
def fnExactDiffUptoRow : OpenClaim := { program := "ytchjcllpnpibeaa", sum := "5b8909f74949cd9d230ed7e4297bf8d252a1fd30ed5fa64467951db438c79e13", func := "loop.example/g00198/laws.FnExactDiff", spec := "fnExactDiff", unfollowed := true, recurses := true, loops := true, apart := false, narrowed := true }
def FnExactDiffUptoSaid : Prop := fnExactDiffUptoRow.holds Try.pinned (OpenSpec.upto fnExactDiffSpec)

/-- 'laws.FnMut', WHERE WHAT IT READS IS OF BULK AT MOST 1048576: true; the input reads as it did. -/
def fnMutUptoRow : OpenClaim := { program := "ytchjcllpnpibeaa", sum := "5b8909f74949cd9d230ed7e4297bf8d252a1fd30ed5fa64467951db438c79e13", func := "loop.example/g00198/laws.FnMut", spec := "fnMut", inPlace := ["slices.overlaps[loop.example/g00198/impl.Row]"], unfollowed := true, recurses := true, apart := false, narrowed := true }
def FnMutUptoSaid : Prop := fnMutUptoRow.holds Try.pinned (OpenSpec.upto fnMutSpec)

/-- 'laws.FnBatch', WHERE WHAT IT READS IS OF BULK AT MOST 1048576: true; the input reads as it did. -/
def fnBatchUptoRow : OpenClaim := { program := "ytchjcllpnpibeaa", sum := "5b8909f74949cd9d230ed7e4297bf8d252a1fd30ed5fa64467951db438c79e13", func := "loop.example/g00198/laws.FnBatch", spec := "fnBatch", inPlace := ["slices.overlaps[loop.example/g00198/impl.Row]"], unfollowed := true, recurses := true, apart := false, narrowed := true }
def FnBatchUptoSaid : Prop := fnBatchUptoRow.holds Try.pinned (OpenSpec.upto fnBatchSpec)

/-- 'laws.FnExactBack', WHERE WHAT IT READS IS OF BULK AT MOST 1048576: true; the input reads as it did. -/
def fnExactBackUptoRow : OpenClaim := { program := "ytchjcllpnpibeaa", sum := "5b8909f74949cd9d230ed7e4297bf8d252a1fd30ed5fa64467951db438c79e13", func := "loop.example/g00198/laws.FnExactBack", spec := "fnExactBack", inPlace := ["slices.overlaps[loop.example/g00198/impl.Row]"], unfollowed := true, recurses := true, apart := false, narrowed := true }
def FnExactBackUptoSaid : Prop := fnExactBackUptoRow.holds Try.pinned (OpenSpec.upto fnExactBackSpec)

end Rows
end Go.Proofs.Ytchjcllpnpibeaa
