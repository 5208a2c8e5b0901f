/-
  NARROWER THAN 'FOR EVERY INPUT', by the rows' own cells (each row's printed sentence says how): FnExactSheetSafe: loops · FnExactOrderTopo: loops · FnExactRowOk: loops · FnExactCloudOk: loops · FnExactDirtyKeys: loops · FnExactOrderRestart: loops · FnExactBuildKey: loops · FnExactWorkOrder: loops · FnExactWorkTries: loops · FnExactWorkWanted: loops · FnExactWorkValues: loops.
  DERIVED. THE GIVEN ROWS OF THIS SEAT. 11 by the template 'for every input the law returns true; each argument reads behind the call as it read before'; 0 by the template 'total and deterministic' (their statements: YthfemojaabejiaaTotals.lean).
  GIVEN WITH THE SEED: the statements are not yours to turn. If you find one false, say at which input.
  Laid BY PROGRAM, IN A SANDBOX (cutbox-rows.mjs): the forced cells as the released guide's own fill.sh prints them over the translation b166a00f40dd6dd8… (all of the seat's roots in one cut). By AI agents, Wed Nov 11 2026. No macro, syntax, notation, axiom, sorry.
-/
import Derived.Test.YthfemojaabejiaaChecked
import GoSem.Claim
import GoSem.ClaimJoined
import GoSem.ClaimMapViews
import Derived.JoinedTies
import Derived.KernelRfl
namespace Go.Proofs.Ythfemojaabejiaa
/- THE CELL 'sum', in the pinned program and in every row, IS THE sha256 OF THE DUMP (.gsa) THAT YthfemojaabejiaaProg.lean LOADS. Nothing in Lean hashes anything: it is a label: what it is worth is what the hold of that sum in a sandbox is worth. -/
noncomputable def Try.pinned : Pinned := { name := "ythfemojaabejiaa", sum := "b166a00f40dd6dd81302ce1615fc4a205347b23ad02d44e4548ddb1a00a24df9", checked := Try.checked }
namespace Rows
def none {H : Type} : Left H := { results := [], args := [] }

/-- 'laws.FnExactSheetSafe': WHATEVER THE INPUT: true; the input reads as it did. -/
def fnExactSheetSafeSpec : ChangeSpec := { name := "fnExactSheetSafe", fn := fun _ => fun
  | [d] => { results := [.lit (.bool true)], args := [d] }
  | _ => none }
def fnExactSheetSafeRow : OpenClaim := { program := "ythfemojaabejiaa", sum := "b166a00f40dd6dd81302ce1615fc4a205347b23ad02d44e4548ddb1a00a24df9", func := "loop.example/buildroads/laws.FnExactSheetSafe", spec := "fnExactSheetSafe", unfollowed := true, recurses := true, loops := true, apart := false }
def FnExactSheetSafeSaid : Prop := fnExactSheetSafeRow.holds Try.pinned (OpenSpec.ofChange fnExactSheetSafeSpec)

/-- ITS FALSE NEIGHBOUR: 'it returns false'. Refute it at one input. -/
def fnExactSheetSafeWrong : ChangeSpec := { name := "fnExactSheetSafe", fn := fun _ => fun
  | [d] => { results := [.lit (.bool false)], args := [d] }
  | _ => none }
def FnExactSheetSafeWrongFalsely : Prop := fnExactSheetSafeRow.holds Try.pinned (OpenSpec.ofChange fnExactSheetSafeWrong)

/-- 'laws.FnExactOrderTopo': WHATEVER THE INPUT: true; the input reads as it did. -/
def fnExactOrderTopoSpec : ChangeSpec := { name := "fnExactOrderTopo", fn := fun _ => fun
  | [d1, d2] => { results := [.lit (.bool true)], args := [d1, d2] }
  | _ => none }
def fnExactOrderTopoRow : OpenClaim := { program := "ythfemojaabejiaa", sum := "b166a00f40dd6dd81302ce1615fc4a205347b23ad02d44e4548ddb1a00a24df9", func := "loop.example/buildroads/laws.FnExactOrderTopo", spec := "fnExactOrderTopo", unfollowed := true, recurses := true, loops := true, apart := false }
def FnExactOrderTopoSaid : Prop := fnExactOrderTopoRow.holds Try.pinned (OpenSpec.ofChange fnExactOrderTopoSpec)

/-- ITS FALSE NEIGHBOUR: 'it returns false'. Refute it at one input. -/
def fnExactOrderTopoWrong : ChangeSpec := { name := "fnExactOrderTopo", fn := fun _ => fun
  | [d1, d2] => { results := [.lit (.bool false)], args := [d1, d2] }
  | _ => none }
def FnExactOrderTopoWrongFalsely : Prop := fnExactOrderTopoRow.holds Try.pinned (OpenSpec.ofChange fnExactOrderTopoWrong)

/-- 'laws.FnExactRowOk': WHATEVER THE INPUT: true; the input reads as it did. -/
def fnExactRowOkSpec : ChangeSpec := { name := "fnExactRowOk", fn := fun _ => fun
  | [d1, d2] => { results := [.lit (.bool true)], args := [d1, d2] }
  | _ => none }
def fnExactRowOkRow : OpenClaim := { program := "ythfemojaabejiaa", sum := "b166a00f40dd6dd81302ce1615fc4a205347b23ad02d44e4548ddb1a00a24df9", func := "loop.example/buildroads/laws.FnExactRowOk", spec := "fnExactRowOk", unfollowed := true, recurses := true, loops := true, apart := false }
def FnExactRowOkSaid : Prop := fnExactRowOkRow.holds Try.pinned (OpenSpec.ofChange fnExactRowOkSpec)

/-- ITS FALSE NEIGHBOUR: 'it returns false'. Refute it at one input. -/
def fnExactRowOkWrong : ChangeSpec := { name := "fnExactRowOk", fn := fun _ => fun
  | [d1, d2] => { results := [.lit (.bool false)], args := [d1, d2] }
  | _ => none }
def FnExactRowOkWrongFalsely : Prop := fnExactRowOkRow.holds Try.pinned (OpenSpec.ofChange fnExactRowOkWrong)

/-- 'laws.FnExactCloudOk': WHATEVER THE INPUT: true; the input reads as it did. -/
def fnExactCloudOkSpec : ChangeSpec := { name := "fnExactCloudOk", fn := fun _ => fun
  | [d1, d2] => { results := [.lit (.bool true)], args := [d1, d2] }
  | _ => none }
def fnExactCloudOkRow : OpenClaim := { program := "ythfemojaabejiaa", sum := "b166a00f40dd6dd81302ce1615fc4a205347b23ad02d44e4548ddb1a00a24df9", func := "loop.example/buildroads/laws.FnExactCloudOk", spec := "fnExactCloudOk", unfollowed := true, recurses := true, loops := true, apart := false }
def FnExactCloudOkSaid : Prop := fnExactCloudOkRow.holds Try.pinned (OpenSpec.ofChange fnExactCloudOkSpec)

/-- ITS FALSE NEIGHBOUR: 'it returns false'. Refute it at one input. -/
def fnExactCloudOkWrong : ChangeSpec := { name := "fnExactCloudOk", fn := fun _ => fun
  | [d1, d2] => { results := [.lit (.bool false)], args := [d1, d2] }
  | _ => none }
def FnExactCloudOkWrongFalsely : Prop := fnExactCloudOkRow.holds Try.pinned (OpenSpec.ofChange fnExactCloudOkWrong)

/-- 'laws.FnExactDirtyKeys': WHATEVER THE INPUT: true; the input reads as it did. -/
def fnExactDirtyKeysSpec : ChangeSpec := { name := "fnExactDirtyKeys", fn := fun _ => fun
  | [d1, d2, d3] => { results := [.lit (.bool true)], args := [d1, d2, d3] }
  | _ => none }
def fnExactDirtyKeysRow : OpenClaim := { program := "ythfemojaabejiaa", sum := "b166a00f40dd6dd81302ce1615fc4a205347b23ad02d44e4548ddb1a00a24df9", func := "loop.example/buildroads/laws.FnExactDirtyKeys", spec := "fnExactDirtyKeys", unfollowed := true, recurses := true, loops := true, apart := false }
def FnExactDirtyKeysSaid : Prop := fnExactDirtyKeysRow.holds Try.pinned (OpenSpec.ofChange fnExactDirtyKeysSpec)

/-- ITS FALSE NEIGHBOUR: 'it returns false'. Refute it at one input. -/
def fnExactDirtyKeysWrong : ChangeSpec := { name := "fnExactDirtyKeys", fn := fun _ => fun
  | [d1, d2, d3] => { results := [.lit (.bool false)], args := [d1, d2, d3] }
  | _ => none }
def FnExactDirtyKeysWrongFalsely : Prop := fnExactDirtyKeysRow.holds Try.pinned (OpenSpec.ofChange fnExactDirtyKeysWrong)

/-- 'laws.FnExactOrderRestart': WHATEVER THE INPUT: true; the input reads as it did. -/
def fnExactOrderRestartSpec : ChangeSpec := { name := "fnExactOrderRestart", fn := fun _ => fun
  | [d1, d2, d3] => { results := [.lit (.bool true)], args := [d1, d2, d3] }
  | _ => none }
def fnExactOrderRestartRow : OpenClaim := { program := "ythfemojaabejiaa", sum := "b166a00f40dd6dd81302ce1615fc4a205347b23ad02d44e4548ddb1a00a24df9", func := "loop.example/buildroads/laws.FnExactOrderRestart", spec := "fnExactOrderRestart", unfollowed := true, recurses := true, loops := true, apart := false }
def FnExactOrderRestartSaid : Prop := fnExactOrderRestartRow.holds Try.pinned (OpenSpec.ofChange fnExactOrderRestartSpec)

/-- ITS FALSE NEIGHBOUR: 'it returns false'. Refute it at one input. -/
def fnExactOrderRestartWrong : ChangeSpec := { name := "fnExactOrderRestart", fn := fun _ => fun
  | [d1, d2, d3] => { results := [.lit (.bool false)], args := [d1, d2, d3] }
  | _ => none }
def FnExactOrderRestartWrongFalsely : Prop := fnExactOrderRestartRow.holds Try.pinned (OpenSpec.ofChange fnExactOrderRestartWrong)

/-- 'laws.FnExactBuildKey': WHATEVER THE INPUT: true; the input reads as it did. -/
def fnExactBuildKeySpec : ChangeSpec := { name := "fnExactBuildKey", fn := fun _ => fun
  | [d1, d2, d3] => { results := [.lit (.bool true)], args := [d1, d2, d3] }
  | _ => none }
def fnExactBuildKeyRow : OpenClaim := { program := "ythfemojaabejiaa", sum := "b166a00f40dd6dd81302ce1615fc4a205347b23ad02d44e4548ddb1a00a24df9", func := "loop.example/buildroads/laws.FnExactBuildKey", spec := "fnExactBuildKey", unfollowed := true, recurses := true, loops := true, apart := false }
def FnExactBuildKeySaid : Prop := fnExactBuildKeyRow.holds Try.pinned (OpenSpec.ofChange fnExactBuildKeySpec)

/-- ITS FALSE NEIGHBOUR: 'it returns false'. Refute it at one input. -/
def fnExactBuildKeyWrong : ChangeSpec := { name := "fnExactBuildKey", fn := fun _ => fun
  | [d1, d2, d3] => { results := [.lit (.bool false)], args := [d1, d2, d3] }
  | _ => none }
def FnExactBuildKeyWrongFalsely : Prop := fnExactBuildKeyRow.holds Try.pinned (OpenSpec.ofChange fnExactBuildKeyWrong)

/-- 'laws.FnExactWorkOrder': WHATEVER THE INPUT: true; the input reads as it did. -/
def fnExactWorkOrderSpec : ChangeSpec := { name := "fnExactWorkOrder", fn := fun _ => fun
  | [d1, d2, d3, d4] => { results := [.lit (.bool true)], args := [d1, d2, d3, d4] }
  | _ => none }
def fnExactWorkOrderRow : OpenClaim := { program := "ythfemojaabejiaa", sum := "b166a00f40dd6dd81302ce1615fc4a205347b23ad02d44e4548ddb1a00a24df9", func := "loop.example/buildroads/laws.FnExactWorkOrder", spec := "fnExactWorkOrder", unfollowed := true, recurses := true, loops := true, apart := false }
def FnExactWorkOrderSaid : Prop := fnExactWorkOrderRow.holds Try.pinned (OpenSpec.ofChange fnExactWorkOrderSpec)

/-- ITS FALSE NEIGHBOUR: 'it returns false'. Refute it at one input. -/
def fnExactWorkOrderWrong : ChangeSpec := { name := "fnExactWorkOrder", fn := fun _ => fun
  | [d1, d2, d3, d4] => { results := [.lit (.bool false)], args := [d1, d2, d3, d4] }
  | _ => none }
def FnExactWorkOrderWrongFalsely : Prop := fnExactWorkOrderRow.holds Try.pinned (OpenSpec.ofChange fnExactWorkOrderWrong)

/-- 'laws.FnExactWorkTries': WHATEVER THE INPUT: true; the input reads as it did. -/
def fnExactWorkTriesSpec : ChangeSpec := { name := "fnExactWorkTries", fn := fun _ => fun
  | [d1, d2, d3, d4] => { results := [.lit (.bool true)], args := [d1, d2, d3, d4] }
  | _ => none }
def fnExactWorkTriesRow : OpenClaim := { program := "ythfemojaabejiaa", sum := "b166a00f40dd6dd81302ce1615fc4a205347b23ad02d44e4548ddb1a00a24df9", func := "loop.example/buildroads/laws.FnExactWorkTries", spec := "fnExactWorkTries", unfollowed := true, recurses := true, loops := true, apart := false }
def FnExactWorkTriesSaid : Prop := fnExactWorkTriesRow.holds Try.pinned (OpenSpec.ofChange fnExactWorkTriesSpec)

/-- ITS FALSE NEIGHBOUR: 'it returns false'. Refute it at one input. -/
def fnExactWorkTriesWrong : ChangeSpec := { name := "fnExactWorkTries", fn := fun _ => fun
  | [d1, d2, d3, d4] => { results := [.lit (.bool false)], args := [d1, d2, d3, d4] }
  | _ => none }
def FnExactWorkTriesWrongFalsely : Prop := fnExactWorkTriesRow.holds Try.pinned (OpenSpec.ofChange fnExactWorkTriesWrong)

/-- 'laws.FnExactWorkWanted': WHATEVER THE INPUT: true; the input reads as it did. -/
def fnExactWorkWantedSpec : ChangeSpec := { name := "fnExactWorkWanted", fn := fun _ => fun
  | [d1, d2, d3, d4] => { results := [.lit (.bool true)], args := [d1, d2, d3, d4] }
  | _ => none }
def fnExactWorkWantedRow : OpenClaim := { program := "ythfemojaabejiaa", sum := "b166a00f40dd6dd81302ce1615fc4a205347b23ad02d44e4548ddb1a00a24df9", func := "loop.example/buildroads/laws.FnExactWorkWanted", spec := "fnExactWorkWanted", unfollowed := true, recurses := true, loops := true, apart := false }
def FnExactWorkWantedSaid : Prop := fnExactWorkWantedRow.holds Try.pinned (OpenSpec.ofChange fnExactWorkWantedSpec)

/-- ITS FALSE NEIGHBOUR: 'it returns false'. Refute it at one input. -/
def fnExactWorkWantedWrong : ChangeSpec := { name := "fnExactWorkWanted", fn := fun _ => fun
  | [d1, d2, d3, d4] => { results := [.lit (.bool false)], args := [d1, d2, d3, d4] }
  | _ => none }
def FnExactWorkWantedWrongFalsely : Prop := fnExactWorkWantedRow.holds Try.pinned (OpenSpec.ofChange fnExactWorkWantedWrong)

/-- 'laws.FnExactWorkValues': WHATEVER THE INPUT: true; the input reads as it did. -/
def fnExactWorkValuesSpec : ChangeSpec := { name := "fnExactWorkValues", fn := fun _ => fun
  | [d1, d2, d3, d4] => { results := [.lit (.bool true)], args := [d1, d2, d3, d4] }
  | _ => none }
def fnExactWorkValuesRow : OpenClaim := { program := "ythfemojaabejiaa", sum := "b166a00f40dd6dd81302ce1615fc4a205347b23ad02d44e4548ddb1a00a24df9", func := "loop.example/buildroads/laws.FnExactWorkValues", spec := "fnExactWorkValues", unfollowed := true, recurses := true, loops := true, apart := false }
def FnExactWorkValuesSaid : Prop := fnExactWorkValuesRow.holds Try.pinned (OpenSpec.ofChange fnExactWorkValuesSpec)

/-- ITS FALSE NEIGHBOUR: 'it returns false'. Refute it at one input. -/
def fnExactWorkValuesWrong : ChangeSpec := { name := "fnExactWorkValues", fn := fun _ => fun
  | [d1, d2, d3, d4] => { results := [.lit (.bool false)], args := [d1, d2, d3, d4] }
  | _ => none }
def FnExactWorkValuesWrongFalsely : Prop := fnExactWorkValuesRow.holds Try.pinned (OpenSpec.ofChange fnExactWorkValuesWrong)

/- THE SECOND FORM. 'bulk': how many values and letters a reading holds, each counted each time it is reached (what is shared counts as often as it is met; a slice's spare places count too). A statement '..UptoSaid' is the law's where the arguments, and the package variables that the reading takes, are together of bulk at most 1048576: NARROWER than '..Said'. Prove '..Said' where nothing that the law and all that it calls make is longer than what came in: it says more and counts as full. Else prove '..UptoSaid'. A law counts once. -/
mutual
def uptoBulk {H : Type} : DataW H → Nat
  | .lit (.string bytes) => bytes.length + 1
  | .lit _ => 1
  | .nil => 1
  | .ptr d => uptoBulk d + 1
  | .slice elems spare => uptoBulkAll elems + uptoBulkAll spare + 1
  | .agg parts => uptoBulkAll parts + 1
  | .iface _ d => uptoBulk d + 1
  | .map entries => uptoBulkEntries entries + 1
  | .held _ => 1
def uptoBulkAll {H : Type} : List (DataW H) → Nat
  | [] => 0
  | d :: r => uptoBulk d + uptoBulkAll r
def uptoBulkEntries {H : Type} : List (Lit × DataW H) → Nat
  | [] => 0
  | x :: r => uptoBulkEntry x + uptoBulkEntries r
def uptoBulkEntry {H : Type} : Lit × DataW H → Nat
  | (.string bytes, d) => bytes.length + uptoBulk d + 1
  | (_, d) => uptoBulk d + 1
 end
def uptoSmall : (H : Type) → List (DataW H) → Bool := fun _ ds => decide (uptoBulkAll ds ≤ 1048576)
def OpenSpec.upto (s : _root_.Go.ChangeSpec) : _root_.Go.OpenSpec := { _root_.Go.OpenSpec.ofChange s with cond := some uptoSmall }

/-- 'laws.FnExactSheetSafe', WHERE WHAT IT READS IS OF BULK AT MOST 1048576: true; the input reads as it did. -/
def fnExactSheetSafeUptoRow : OpenClaim := { program := "ythfemojaabejiaa", sum := "b166a00f40dd6dd81302ce1615fc4a205347b23ad02d44e4548ddb1a00a24df9", func := "loop.example/buildroads/laws.FnExactSheetSafe", spec := "fnExactSheetSafe", unfollowed := true, recurses := true, loops := true, apart := false, narrowed := true }
def FnExactSheetSafeUptoSaid : Prop := fnExactSheetSafeUptoRow.holds Try.pinned (OpenSpec.upto fnExactSheetSafeSpec)

/-- 'laws.FnExactOrderTopo', WHERE WHAT IT READS IS OF BULK AT MOST 1048576: true; the input reads as it did. -/
def fnExactOrderTopoUptoRow : OpenClaim := { program := "ythfemojaabejiaa", sum := "b166a00f40dd6dd81302ce1615fc4a205347b23ad02d44e4548ddb1a00a24df9", func := "loop.example/buildroads/laws.FnExactOrderTopo", spec := "fnExactOrderTopo", unfollowed := true, recurses := true, loops := true, apart := false, narrowed := true }
def FnExactOrderTopoUptoSaid : Prop := fnExactOrderTopoUptoRow.holds Try.pinned (OpenSpec.upto fnExactOrderTopoSpec)

/-- 'laws.FnExactRowOk', WHERE WHAT IT READS IS OF BULK AT MOST 1048576: true; the input reads as it did. -/
def fnExactRowOkUptoRow : OpenClaim := { program := "ythfemojaabejiaa", sum := "b166a00f40dd6dd81302ce1615fc4a205347b23ad02d44e4548ddb1a00a24df9", func := "loop.example/buildroads/laws.FnExactRowOk", spec := "fnExactRowOk", unfollowed := true, recurses := true, loops := true, apart := false, narrowed := true }
def FnExactRowOkUptoSaid : Prop := fnExactRowOkUptoRow.holds Try.pinned (OpenSpec.upto fnExactRowOkSpec)

/-- 'laws.FnExactCloudOk', WHERE WHAT IT READS IS OF BULK AT MOST 1048576: true; the input reads as it did. -/
def fnExactCloudOkUptoRow : OpenClaim := { program := "ythfemojaabejiaa", sum := "b166a00f40dd6dd81302ce1615fc4a205347b23ad02d44e4548ddb1a00a24df9", func := "loop.example/buildroads/laws.FnExactCloudOk", spec := "fnExactCloudOk", unfollowed := true, recurses := true, loops := true, apart := false, narrowed := true }
def FnExactCloudOkUptoSaid : Prop := fnExactCloudOkUptoRow.holds Try.pinned (OpenSpec.upto fnExactCloudOkSpec)

/-- 'laws.FnExactDirtyKeys', WHERE WHAT IT READS IS OF BULK AT MOST 1048576: true; the input reads as it did. -/
def fnExactDirtyKeysUptoRow : OpenClaim := { program := "ythfemojaabejiaa", sum := "b166a00f40dd6dd81302ce1615fc4a205347b23ad02d44e4548ddb1a00a24df9", func := "loop.example/buildroads/laws.FnExactDirtyKeys", spec := "fnExactDirtyKeys", unfollowed := true, recurses := true, loops := true, apart := false, narrowed := true }
def FnExactDirtyKeysUptoSaid : Prop := fnExactDirtyKeysUptoRow.holds Try.pinned (OpenSpec.upto fnExactDirtyKeysSpec)

/-- 'laws.FnExactOrderRestart', WHERE WHAT IT READS IS OF BULK AT MOST 1048576: true; the input reads as it did. -/
def fnExactOrderRestartUptoRow : OpenClaim := { program := "ythfemojaabejiaa", sum := "b166a00f40dd6dd81302ce1615fc4a205347b23ad02d44e4548ddb1a00a24df9", func := "loop.example/buildroads/laws.FnExactOrderRestart", spec := "fnExactOrderRestart", unfollowed := true, recurses := true, loops := true, apart := false, narrowed := true }
def FnExactOrderRestartUptoSaid : Prop := fnExactOrderRestartUptoRow.holds Try.pinned (OpenSpec.upto fnExactOrderRestartSpec)

/-- 'laws.FnExactBuildKey', WHERE WHAT IT READS IS OF BULK AT MOST 1048576: true; the input reads as it did. -/
def fnExactBuildKeyUptoRow : OpenClaim := { program := "ythfemojaabejiaa", sum := "b166a00f40dd6dd81302ce1615fc4a205347b23ad02d44e4548ddb1a00a24df9", func := "loop.example/buildroads/laws.FnExactBuildKey", spec := "fnExactBuildKey", unfollowed := true, recurses := true, loops := true, apart := false, narrowed := true }
def FnExactBuildKeyUptoSaid : Prop := fnExactBuildKeyUptoRow.holds Try.pinned (OpenSpec.upto fnExactBuildKeySpec)

/-- 'laws.FnExactWorkOrder', WHERE WHAT IT READS IS OF BULK AT MOST 1048576: true; the input reads as it did. -/
def fnExactWorkOrderUptoRow : OpenClaim := { program := "ythfemojaabejiaa", sum := "b166a00f40dd6dd81302ce1615fc4a205347b23ad02d44e4548ddb1a00a24df9", func := "loop.example/buildroads/laws.FnExactWorkOrder", spec := "fnExactWorkOrder", unfollowed := true, recurses := true, loops := true, apart := false, narrowed := true }
def FnExactWorkOrderUptoSaid : Prop := fnExactWorkOrderUptoRow.holds Try.pinned (OpenSpec.upto fnExactWorkOrderSpec)

/-- 'laws.FnExactWorkTries', WHERE WHAT IT READS IS OF BULK AT MOST 1048576: true; the input reads as it did. -/
def fnExactWorkTriesUptoRow : OpenClaim := { program := "ythfemojaabejiaa", sum := "b166a00f40dd6dd81302ce1615fc4a205347b23ad02d44e4548ddb1a00a24df9", func := "loop.example/buildroads/laws.FnExactWorkTries", spec := "fnExactWorkTries", unfollowed := true, recurses := true, loops := true, apart := false, narrowed := true }
def FnExactWorkTriesUptoSaid : Prop := fnExactWorkTriesUptoRow.holds Try.pinned (OpenSpec.upto fnExactWorkTriesSpec)

/-- 'laws.FnExactWorkWanted', WHERE WHAT IT READS IS OF BULK AT MOST 1048576: true; the input reads as it did. -/
def fnExactWorkWantedUptoRow : OpenClaim := { program := "ythfemojaabejiaa", sum := "b166a00f40dd6dd81302ce1615fc4a205347b23ad02d44e4548ddb1a00a24df9", func := "loop.example/buildroads/laws.FnExactWorkWanted", spec := "fnExactWorkWanted", unfollowed := true, recurses := true, loops := true, apart := false, narrowed := true }
def FnExactWorkWantedUptoSaid : Prop := fnExactWorkWantedUptoRow.holds Try.pinned (OpenSpec.upto fnExactWorkWantedSpec)

/-- 'laws.FnExactWorkValues', WHERE WHAT IT READS IS OF BULK AT MOST 1048576: true; the input reads as it did. -/
def fnExactWorkValuesUptoRow : OpenClaim := { program := "ythfemojaabejiaa", sum := "b166a00f40dd6dd81302ce1615fc4a205347b23ad02d44e4548ddb1a00a24df9", func := "loop.example/buildroads/laws.FnExactWorkValues", spec := "fnExactWorkValues", unfollowed := true, recurses := true, loops := true, apart := false, narrowed := true }
def FnExactWorkValuesUptoSaid : Prop := fnExactWorkValuesUptoRow.holds Try.pinned (OpenSpec.upto fnExactWorkValuesSpec)

end Rows
end Go.Proofs.Ythfemojaabejiaa
