/-
  No cell of these rows narrows 'for every input' (looked for: loops, veiled, ifaces, maps, wideKeys, modest, calm, conditions, laid).
  DERIVED. THE GIVEN ROWS OF THIS SEAT. 6 by the template 'for every input the law returns true; each argument reads behind the call as it read before'; 0 by the template 'total and deterministic' (their statements: YtjceelmehekpaaaTotals.lean).
  GIVEN WITH THE SEED: the statements are not yours to turn. If you find one false, say at which input.
  Laid BY PROGRAM, IN A SANDBOX (cutbox-rows.mjs): the forced cells as the released guide's own fill.sh prints them over the translation b775374f245a3781… (all of the seat's roots in one cut). By AI agents, Wed Nov 11 2026. No macro, syntax, notation, axiom, sorry.
-/
import Derived.Test.YtjceelmehekpaaaChecked
import GoSem.Claim
import GoSem.ClaimJoined
import GoSem.ClaimMapViews
import Derived.JoinedTies
import Derived.KernelRfl
namespace Go.Proofs.Ytjceelmehekpaaa
/- THE CELL 'sum', in the pinned program and in every row, IS THE sha256 OF THE DUMP (.gsa) THAT YtjceelmehekpaaaProg.lean LOADS. Nothing in Lean hashes anything: it is a label: what it is worth is what the hold of that sum in a sandbox is worth. -/
noncomputable def Try.pinned : Pinned := { name := "ytjceelmehekpaaa", sum := "b775374f245a3781213c3babb1546ccbc7d6dcb29ceae4d83defadad76c4a1c7", checked := Try.checked }
namespace Rows
def none {H : Type} : Left H := { results := [], args := [] }

/-- 'laws.FnSheetOk': WHATEVER THE INPUT: true; the input reads as it did. -/
def fnSheetOkSpec : ChangeSpec := { name := "fnSheetOk", fn := fun _ => fun
  | [d] => { results := [.lit (.bool true)], args := [d] }
  | _ => none }
def fnSheetOkRow : OpenClaim := { program := "ytjceelmehekpaaa", sum := "b775374f245a3781213c3babb1546ccbc7d6dcb29ceae4d83defadad76c4a1c7", func := "loop.example/buildroads/laws.FnSheetOk", spec := "fnSheetOk", recurses := true, apart := false }
def FnSheetOkSaid : Prop := fnSheetOkRow.holds Try.pinned (OpenSpec.ofChange fnSheetOkSpec)

/-- ITS FALSE NEIGHBOUR: 'it returns false'. Refute it at one input. -/
def fnSheetOkWrong : ChangeSpec := { name := "fnSheetOk", fn := fun _ => fun
  | [d] => { results := [.lit (.bool false)], args := [d] }
  | _ => none }
def FnSheetOkWrongFalsely : Prop := fnSheetOkRow.holds Try.pinned (OpenSpec.ofChange fnSheetOkWrong)

/-- 'laws.FnSheetFixed': WHATEVER THE INPUT: true; the input reads as it did. -/
def fnSheetFixedSpec : ChangeSpec := { name := "fnSheetFixed", fn := fun _ => fun
  | [d] => { results := [.lit (.bool true)], args := [d] }
  | _ => none }
def fnSheetFixedRow : OpenClaim := { program := "ytjceelmehekpaaa", sum := "b775374f245a3781213c3babb1546ccbc7d6dcb29ceae4d83defadad76c4a1c7", func := "loop.example/buildroads/laws.FnSheetFixed", spec := "fnSheetFixed", unfollowed := true, recurses := true, apart := false }
def FnSheetFixedSaid : Prop := fnSheetFixedRow.holds Try.pinned (OpenSpec.ofChange fnSheetFixedSpec)

/-- ITS FALSE NEIGHBOUR: 'it returns false'. Refute it at one input. -/
def fnSheetFixedWrong : ChangeSpec := { name := "fnSheetFixed", fn := fun _ => fun
  | [d] => { results := [.lit (.bool false)], args := [d] }
  | _ => none }
def FnSheetFixedWrongFalsely : Prop := fnSheetFixedRow.holds Try.pinned (OpenSpec.ofChange fnSheetFixedWrong)

/-- 'laws.FnSheetEdit': WHATEVER THE INPUT: true; the input reads as it did. -/
def fnSheetEditSpec : ChangeSpec := { name := "fnSheetEdit", fn := fun _ => fun
  | [d] => { results := [.lit (.bool true)], args := [d] }
  | _ => none }
def fnSheetEditRow : OpenClaim := { program := "ytjceelmehekpaaa", sum := "b775374f245a3781213c3babb1546ccbc7d6dcb29ceae4d83defadad76c4a1c7", func := "loop.example/buildroads/laws.FnSheetEdit", spec := "fnSheetEdit", recurses := true, apart := false }
def FnSheetEditSaid : Prop := fnSheetEditRow.holds Try.pinned (OpenSpec.ofChange fnSheetEditSpec)

/-- ITS FALSE NEIGHBOUR: 'it returns false'. Refute it at one input. -/
def fnSheetEditWrong : ChangeSpec := { name := "fnSheetEdit", fn := fun _ => fun
  | [d] => { results := [.lit (.bool false)], args := [d] }
  | _ => none }
def FnSheetEditWrongFalsely : Prop := fnSheetEditRow.holds Try.pinned (OpenSpec.ofChange fnSheetEditWrong)

/-- 'laws.FnRowOk': WHATEVER THE INPUT: true; the input reads as it did. -/
def fnRowOkSpec : ChangeSpec := { name := "fnRowOk", fn := fun _ => fun
  | [d] => { results := [.lit (.bool true)], args := [d] }
  | _ => none }
def fnRowOkRow : OpenClaim := { program := "ytjceelmehekpaaa", sum := "b775374f245a3781213c3babb1546ccbc7d6dcb29ceae4d83defadad76c4a1c7", func := "loop.example/buildroads/laws.FnRowOk", spec := "fnRowOk", unfollowed := true, recurses := true, apart := false }
def FnRowOkSaid : Prop := fnRowOkRow.holds Try.pinned (OpenSpec.ofChange fnRowOkSpec)

/-- ITS FALSE NEIGHBOUR: 'it returns false'. Refute it at one input. -/
def fnRowOkWrong : ChangeSpec := { name := "fnRowOk", fn := fun _ => fun
  | [d] => { results := [.lit (.bool false)], args := [d] }
  | _ => none }
def FnRowOkWrongFalsely : Prop := fnRowOkRow.holds Try.pinned (OpenSpec.ofChange fnRowOkWrong)

/-- 'laws.FnCloudOk': WHATEVER THE INPUT: true; the input reads as it did. -/
def fnCloudOkSpec : ChangeSpec := { name := "fnCloudOk", fn := fun _ => fun
  | [d] => { results := [.lit (.bool true)], args := [d] }
  | _ => none }
def fnCloudOkRow : OpenClaim := { program := "ytjceelmehekpaaa", sum := "b775374f245a3781213c3babb1546ccbc7d6dcb29ceae4d83defadad76c4a1c7", func := "loop.example/buildroads/laws.FnCloudOk", spec := "fnCloudOk", unfollowed := true, recurses := true, apart := false }
def FnCloudOkSaid : Prop := fnCloudOkRow.holds Try.pinned (OpenSpec.ofChange fnCloudOkSpec)

/-- ITS FALSE NEIGHBOUR: 'it returns false'. Refute it at one input. -/
def fnCloudOkWrong : ChangeSpec := { name := "fnCloudOk", fn := fun _ => fun
  | [d] => { results := [.lit (.bool false)], args := [d] }
  | _ => none }
def FnCloudOkWrongFalsely : Prop := fnCloudOkRow.holds Try.pinned (OpenSpec.ofChange fnCloudOkWrong)

/-- 'laws.FnDirtyKeys': WHATEVER THE INPUT: true; the input reads as it did. -/
def fnDirtyKeysSpec : ChangeSpec := { name := "fnDirtyKeys", fn := fun _ => fun
  | [d] => { results := [.lit (.bool true)], args := [d] }
  | _ => none }
def fnDirtyKeysRow : OpenClaim := { program := "ytjceelmehekpaaa", sum := "b775374f245a3781213c3babb1546ccbc7d6dcb29ceae4d83defadad76c4a1c7", func := "loop.example/buildroads/laws.FnDirtyKeys", spec := "fnDirtyKeys", unfollowed := true, recurses := true, apart := false }
def FnDirtyKeysSaid : Prop := fnDirtyKeysRow.holds Try.pinned (OpenSpec.ofChange fnDirtyKeysSpec)

/-- ITS FALSE NEIGHBOUR: 'it returns false'. Refute it at one input. -/
def fnDirtyKeysWrong : ChangeSpec := { name := "fnDirtyKeys", fn := fun _ => fun
  | [d] => { results := [.lit (.bool false)], args := [d] }
  | _ => none }
def FnDirtyKeysWrongFalsely : Prop := fnDirtyKeysRow.holds Try.pinned (OpenSpec.ofChange fnDirtyKeysWrong)

/- THE SECOND FORM. 'bulk': how many values and letters a reading holds, each counted each time it is reached (what is shared counts as often as it is met; a slice's spare places count too). A statement '..UptoSaid' is the law's where the arguments, and the package variables that the reading takes, are together of bulk at most 1048576: NARROWER than '..Said'. Prove '..Said' where nothing that the law and all that it calls make is longer than what came in: it says more and counts as full. Else prove '..UptoSaid'. A law counts once. -/
mutual
def uptoBulk {H : Type} : DataW H → Nat
  | .lit (.string bytes) => bytes.length + 1
  | .lit _ => 1
  | .nil => 1
  | .ptr d => uptoBulk d + 1
  | .slice elems spare => uptoBulkAll elems + uptoBulkAll spare + 1
  | .agg parts => uptoBulkAll parts + 1
  | .iface _ d => uptoBulk d + 1
  | .map entries => uptoBulkEntries entries + 1
  | .held _ => 1
def uptoBulkAll {H : Type} : List (DataW H) → Nat
  | [] => 0
  | d :: r => uptoBulk d + uptoBulkAll r
def uptoBulkEntries {H : Type} : List (Lit × DataW H) → Nat
  | [] => 0
  | x :: r => uptoBulkEntry x + uptoBulkEntries r
def uptoBulkEntry {H : Type} : Lit × DataW H → Nat
  | (.string bytes, d) => bytes.length + uptoBulk d + 1
  | (_, d) => uptoBulk d + 1
 end
def uptoSmall : (H : Type) → List (DataW H) → Bool := fun _ ds => decide (uptoBulkAll ds ≤ 1048576)
def OpenSpec.upto (s : _root_.Go.ChangeSpec) : _root_.Go.OpenSpec := { _root_.Go.OpenSpec.ofChange s with cond := some uptoSmall }

/-- 'laws.FnSheetOk', WHERE WHAT IT READS IS OF BULK AT MOST 1048576: true; the input reads as it did. -/
def fnSheetOkUptoRow : OpenClaim := { program := "ytjceelmehekpaaa", sum := "b775374f245a3781213c3babb1546ccbc7d6dcb29ceae4d83defadad76c4a1c7", func := "loop.example/buildroads/laws.FnSheetOk", spec := "fnSheetOk", recurses := true, apart := false, narrowed := true }
def FnSheetOkUptoSaid : Prop := fnSheetOkUptoRow.holds Try.pinned (OpenSpec.upto fnSheetOkSpec)

/-- 'laws.FnSheetFixed', WHERE WHAT IT READS IS OF BULK AT MOST 1048576: true; the input reads as it did. -/
def fnSheetFixedUptoRow : OpenClaim := { program := "ytjceelmehekpaaa", sum := "b775374f245a3781213c3babb1546ccbc7d6dcb29ceae4d83defadad76c4a1c7", func := "loop.example/buildroads/laws.FnSheetFixed", spec := "fnSheetFixed", unfollowed := true, recurses := true, apart := false, narrowed := true }
def FnSheetFixedUptoSaid : Prop := fnSheetFixedUptoRow.holds Try.pinned (OpenSpec.upto fnSheetFixedSpec)

/-- 'laws.FnSheetEdit', WHERE WHAT IT READS IS OF BULK AT MOST 1048576: true; the input reads as it did. -/
def fnSheetEditUptoRow : OpenClaim := { program := "ytjceelmehekpaaa", sum := "b775374f245a3781213c3babb1546ccbc7d6dcb29ceae4d83defadad76c4a1c7", func := "loop.example/buildroads/laws.FnSheetEdit", spec := "fnSheetEdit", recurses := true, apart := false, narrowed := true }
def FnSheetEditUptoSaid : Prop := fnSheetEditUptoRow.holds Try.pinned (OpenSpec.upto fnSheetEditSpec)

/-- 'laws.FnRowOk', WHERE WHAT IT READS IS OF BULK AT MOST 1048576: true; the input reads as it did. -/
def fnRowOkUptoRow : OpenClaim := { program := "ytjceelmehekpaaa", sum := "b775374f245a3781213c3babb1546ccbc7d6dcb29ceae4d83defadad76c4a1c7", func := "loop.example/buildroads/laws.FnRowOk", spec := "fnRowOk", unfollowed := true, recurses := true, apart := false, narrowed := true }
def FnRowOkUptoSaid : Prop := fnRowOkUptoRow.holds Try.pinned (OpenSpec.upto fnRowOkSpec)

/-- 'laws.FnCloudOk', WHERE WHAT IT READS IS OF BULK AT MOST 1048576: true; the input reads as it did. -/
def fnCloudOkUptoRow : OpenClaim := { program := "ytjceelmehekpaaa", sum := "b775374f245a3781213c3babb1546ccbc7d6dcb29ceae4d83defadad76c4a1c7", func := "loop.example/buildroads/laws.FnCloudOk", spec := "fnCloudOk", unfollowed := true, recurses := true, apart := false, narrowed := true }
def FnCloudOkUptoSaid : Prop := fnCloudOkUptoRow.holds Try.pinned (OpenSpec.upto fnCloudOkSpec)

/-- 'laws.FnDirtyKeys', WHERE WHAT IT READS IS OF BULK AT MOST 1048576: true; the input reads as it did. -/
def fnDirtyKeysUptoRow : OpenClaim := { program := "ytjceelmehekpaaa", sum := "b775374f245a3781213c3babb1546ccbc7d6dcb29ceae4d83defadad76c4a1c7", func := "loop.example/buildroads/laws.FnDirtyKeys", spec := "fnDirtyKeys", unfollowed := true, recurses := true, apart := false, narrowed := true }
def FnDirtyKeysUptoSaid : Prop := fnDirtyKeysUptoRow.holds Try.pinned (OpenSpec.upto fnDirtyKeysSpec)

end Rows
end Go.Proofs.Ytjceelmehekpaaa
