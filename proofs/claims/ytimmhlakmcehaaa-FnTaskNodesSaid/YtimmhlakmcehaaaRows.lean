/-
  NARROWER THAN 'FOR EVERY INPUT', by the rows' own cells (each row's printed sentence says how): FnExactTaskOk: loops · FnExactTaskNodes: loops · FnExactTaskFixed: loops · FnExactSheetOk: loops · FnExactTaskMay: loops.
  DERIVED. THE GIVEN ROWS OF THIS SEAT. 12 by the template 'for every input the law returns true; each argument reads behind the call as it read before'; 0 by the template 'total and deterministic' (their statements: YtimmhlakmcehaaaTotals.lean).
  GIVEN WITH THE SEED: the statements are not yours to turn. If you find one false, say at which input.
  Laid BY PROGRAM, IN A SANDBOX (cutbox-rows.mjs): the forced cells as the released guide's own fill.sh prints them over the translation e210a686b9051e76… (all of the seat's roots in one cut). By AI agents, Wed Nov 11 2026. No macro, syntax, notation, axiom, sorry.
-/
import Derived.Test.YtimmhlakmcehaaaChecked
import GoSem.Claim
import GoSem.ClaimJoined
import GoSem.ClaimMapViews
import Derived.JoinedTies
import Derived.KernelRfl
namespace Go.Proofs.Ytimmhlakmcehaaa
/- THE CELL 'sum', in the pinned program and in every row, IS THE sha256 OF THE DUMP (.gsa) THAT YtimmhlakmcehaaaProg.lean LOADS. Nothing in Lean hashes anything: it is a label: what it is worth is what the hold of that sum in a sandbox is worth. -/
noncomputable def Try.pinned : Pinned := { name := "ytimmhlakmcehaaa", sum := "e210a686b9051e767fa0aeede302c41a010e1cc7daf3021f76f68d2a1b30357b", checked := Try.checked }
namespace Rows
def none {H : Type} : Left H := { results := [], args := [] }

/-- 'laws.FnExactConstants': WHATEVER THE INPUT: true; the input reads as it did. -/
def fnExactConstantsSpec : ChangeSpec := { name := "fnExactConstants", fn := fun _ => fun
  | [] => { results := [.lit (.bool true)], args := [] }
  | _ => none }
def fnExactConstantsRow : OpenClaim := { program := "ytimmhlakmcehaaa", sum := "e210a686b9051e767fa0aeede302c41a010e1cc7daf3021f76f68d2a1b30357b", func := "loop.example/buildroads/laws.FnExactConstants", spec := "fnExactConstants", apart := false }
def FnExactConstantsSaid : Prop := fnExactConstantsRow.holds Try.pinned (OpenSpec.ofChange fnExactConstantsSpec)

/-- ITS FALSE NEIGHBOUR: 'it returns false'. Refute it at one input. -/
def fnExactConstantsWrong : ChangeSpec := { name := "fnExactConstants", fn := fun _ => fun
  | [] => { results := [.lit (.bool false)], args := [] }
  | _ => none }
def FnExactConstantsWrongFalsely : Prop := fnExactConstantsRow.holds Try.pinned (OpenSpec.ofChange fnExactConstantsWrong)

/-- 'laws.FnExactTaskOk': WHATEVER THE INPUT: true; the input reads as it did. -/
def fnExactTaskOkSpec : ChangeSpec := { name := "fnExactTaskOk", fn := fun _ => fun
  | [d] => { results := [.lit (.bool true)], args := [d] }
  | _ => none }
def fnExactTaskOkRow : OpenClaim := { program := "ytimmhlakmcehaaa", sum := "e210a686b9051e767fa0aeede302c41a010e1cc7daf3021f76f68d2a1b30357b", func := "loop.example/buildroads/laws.FnExactTaskOk", spec := "fnExactTaskOk", recurses := true, loops := true, apart := false }
def FnExactTaskOkSaid : Prop := fnExactTaskOkRow.holds Try.pinned (OpenSpec.ofChange fnExactTaskOkSpec)

/-- ITS FALSE NEIGHBOUR: 'it returns false'. Refute it at one input. -/
def fnExactTaskOkWrong : ChangeSpec := { name := "fnExactTaskOk", fn := fun _ => fun
  | [d] => { results := [.lit (.bool false)], args := [d] }
  | _ => none }
def FnExactTaskOkWrongFalsely : Prop := fnExactTaskOkRow.holds Try.pinned (OpenSpec.ofChange fnExactTaskOkWrong)

/-- 'laws.FnExactTaskNodes': WHATEVER THE INPUT: true; the input reads as it did. -/
def fnExactTaskNodesSpec : ChangeSpec := { name := "fnExactTaskNodes", fn := fun _ => fun
  | [d] => { results := [.lit (.bool true)], args := [d] }
  | _ => none }
def fnExactTaskNodesRow : OpenClaim := { program := "ytimmhlakmcehaaa", sum := "e210a686b9051e767fa0aeede302c41a010e1cc7daf3021f76f68d2a1b30357b", func := "loop.example/buildroads/laws.FnExactTaskNodes", spec := "fnExactTaskNodes", recurses := true, loops := true, apart := false }
def FnExactTaskNodesSaid : Prop := fnExactTaskNodesRow.holds Try.pinned (OpenSpec.ofChange fnExactTaskNodesSpec)

/-- ITS FALSE NEIGHBOUR: 'it returns false'. Refute it at one input. -/
def fnExactTaskNodesWrong : ChangeSpec := { name := "fnExactTaskNodes", fn := fun _ => fun
  | [d] => { results := [.lit (.bool false)], args := [d] }
  | _ => none }
def FnExactTaskNodesWrongFalsely : Prop := fnExactTaskNodesRow.holds Try.pinned (OpenSpec.ofChange fnExactTaskNodesWrong)

/-- 'laws.FnExactTaskFixed': WHATEVER THE INPUT: true; the input reads as it did. -/
def fnExactTaskFixedSpec : ChangeSpec := { name := "fnExactTaskFixed", fn := fun _ => fun
  | [d] => { results := [.lit (.bool true)], args := [d] }
  | _ => none }
def fnExactTaskFixedRow : OpenClaim := { program := "ytimmhlakmcehaaa", sum := "e210a686b9051e767fa0aeede302c41a010e1cc7daf3021f76f68d2a1b30357b", func := "loop.example/buildroads/laws.FnExactTaskFixed", spec := "fnExactTaskFixed", recurses := true, loops := true, apart := false }
def FnExactTaskFixedSaid : Prop := fnExactTaskFixedRow.holds Try.pinned (OpenSpec.ofChange fnExactTaskFixedSpec)

/-- ITS FALSE NEIGHBOUR: 'it returns false'. Refute it at one input. -/
def fnExactTaskFixedWrong : ChangeSpec := { name := "fnExactTaskFixed", fn := fun _ => fun
  | [d] => { results := [.lit (.bool false)], args := [d] }
  | _ => none }
def FnExactTaskFixedWrongFalsely : Prop := fnExactTaskFixedRow.holds Try.pinned (OpenSpec.ofChange fnExactTaskFixedWrong)

/-- 'laws.FnExactTracesOk': WHATEVER THE INPUT: true; the input reads as it did. -/
def fnExactTracesOkSpec : ChangeSpec := { name := "fnExactTracesOk", fn := fun _ => fun
  | [d] => { results := [.lit (.bool true)], args := [d] }
  | _ => none }
def fnExactTracesOkRow : OpenClaim := { program := "ytimmhlakmcehaaa", sum := "e210a686b9051e767fa0aeede302c41a010e1cc7daf3021f76f68d2a1b30357b", func := "loop.example/buildroads/laws.FnExactTracesOk", spec := "fnExactTracesOk", unfollowed := true, recurses := true, apart := false }
def FnExactTracesOkSaid : Prop := fnExactTracesOkRow.holds Try.pinned (OpenSpec.ofChange fnExactTracesOkSpec)

/-- ITS FALSE NEIGHBOUR: 'it returns false'. Refute it at one input. -/
def fnExactTracesOkWrong : ChangeSpec := { name := "fnExactTracesOk", fn := fun _ => fun
  | [d] => { results := [.lit (.bool false)], args := [d] }
  | _ => none }
def FnExactTracesOkWrongFalsely : Prop := fnExactTracesOkRow.holds Try.pinned (OpenSpec.ofChange fnExactTracesOkWrong)

/-- 'laws.FnTaskNodes': WHATEVER THE INPUT: true; the input reads as it did. -/
def fnTaskNodesSpec : ChangeSpec := { name := "fnTaskNodes", fn := fun _ => fun
  | [d] => { results := [.lit (.bool true)], args := [d] }
  | _ => none }
def fnTaskNodesRow : OpenClaim := { program := "ytimmhlakmcehaaa", sum := "e210a686b9051e767fa0aeede302c41a010e1cc7daf3021f76f68d2a1b30357b", func := "loop.example/buildroads/laws.FnTaskNodes", spec := "fnTaskNodes", recurses := true, apart := false }
def FnTaskNodesSaid : Prop := fnTaskNodesRow.holds Try.pinned (OpenSpec.ofChange fnTaskNodesSpec)

/-- ITS FALSE NEIGHBOUR: 'it returns false'. Refute it at one input. -/
def fnTaskNodesWrong : ChangeSpec := { name := "fnTaskNodes", fn := fun _ => fun
  | [d] => { results := [.lit (.bool false)], args := [d] }
  | _ => none }
def FnTaskNodesWrongFalsely : Prop := fnTaskNodesRow.holds Try.pinned (OpenSpec.ofChange fnTaskNodesWrong)

/-- 'laws.FnExactTraceHolds': WHATEVER THE INPUT: true; the input reads as it did. -/
def fnExactTraceHoldsSpec : ChangeSpec := { name := "fnExactTraceHolds", fn := fun _ => fun
  | [d1, d2] => { results := [.lit (.bool true)], args := [d1, d2] }
  | _ => none }
def fnExactTraceHoldsRow : OpenClaim := { program := "ytimmhlakmcehaaa", sum := "e210a686b9051e767fa0aeede302c41a010e1cc7daf3021f76f68d2a1b30357b", func := "loop.example/buildroads/laws.FnExactTraceHolds", spec := "fnExactTraceHolds", unfollowed := true, recurses := true, apart := false }
def FnExactTraceHoldsSaid : Prop := fnExactTraceHoldsRow.holds Try.pinned (OpenSpec.ofChange fnExactTraceHoldsSpec)

/-- ITS FALSE NEIGHBOUR: 'it returns false'. Refute it at one input. -/
def fnExactTraceHoldsWrong : ChangeSpec := { name := "fnExactTraceHolds", fn := fun _ => fun
  | [d1, d2] => { results := [.lit (.bool false)], args := [d1, d2] }
  | _ => none }
def FnExactTraceHoldsWrongFalsely : Prop := fnExactTraceHoldsRow.holds Try.pinned (OpenSpec.ofChange fnExactTraceHoldsWrong)

/-- 'laws.FnSheetOk': WHATEVER THE INPUT: true; the input reads as it did. -/
def fnSheetOkSpec : ChangeSpec := { name := "fnSheetOk", fn := fun _ => fun
  | [d] => { results := [.lit (.bool true)], args := [d] }
  | _ => none }
def fnSheetOkRow : OpenClaim := { program := "ytimmhlakmcehaaa", sum := "e210a686b9051e767fa0aeede302c41a010e1cc7daf3021f76f68d2a1b30357b", func := "loop.example/buildroads/laws.FnSheetOk", spec := "fnSheetOk", recurses := true, apart := false }
def FnSheetOkSaid : Prop := fnSheetOkRow.holds Try.pinned (OpenSpec.ofChange fnSheetOkSpec)

/-- ITS FALSE NEIGHBOUR: 'it returns false'. Refute it at one input. -/
def fnSheetOkWrong : ChangeSpec := { name := "fnSheetOk", fn := fun _ => fun
  | [d] => { results := [.lit (.bool false)], args := [d] }
  | _ => none }
def FnSheetOkWrongFalsely : Prop := fnSheetOkRow.holds Try.pinned (OpenSpec.ofChange fnSheetOkWrong)

/-- 'laws.FnExactSheetOk': WHATEVER THE INPUT: true; the input reads as it did. -/
def fnExactSheetOkSpec : ChangeSpec := { name := "fnExactSheetOk", fn := fun _ => fun
  | [d] => { results := [.lit (.bool true)], args := [d] }
  | _ => none }
def fnExactSheetOkRow : OpenClaim := { program := "ytimmhlakmcehaaa", sum := "e210a686b9051e767fa0aeede302c41a010e1cc7daf3021f76f68d2a1b30357b", func := "loop.example/buildroads/laws.FnExactSheetOk", spec := "fnExactSheetOk", recurses := true, loops := true, apart := false }
def FnExactSheetOkSaid : Prop := fnExactSheetOkRow.holds Try.pinned (OpenSpec.ofChange fnExactSheetOkSpec)

/-- ITS FALSE NEIGHBOUR: 'it returns false'. Refute it at one input. -/
def fnExactSheetOkWrong : ChangeSpec := { name := "fnExactSheetOk", fn := fun _ => fun
  | [d] => { results := [.lit (.bool false)], args := [d] }
  | _ => none }
def FnExactSheetOkWrongFalsely : Prop := fnExactSheetOkRow.holds Try.pinned (OpenSpec.ofChange fnExactSheetOkWrong)

/-- 'laws.FnExactTaskMay': WHATEVER THE INPUT: true; the input reads as it did. -/
def fnExactTaskMaySpec : ChangeSpec := { name := "fnExactTaskMay", fn := fun _ => fun
  | [d] => { results := [.lit (.bool true)], args := [d] }
  | _ => none }
def fnExactTaskMayRow : OpenClaim := { program := "ytimmhlakmcehaaa", sum := "e210a686b9051e767fa0aeede302c41a010e1cc7daf3021f76f68d2a1b30357b", func := "loop.example/buildroads/laws.FnExactTaskMay", spec := "fnExactTaskMay", recurses := true, loops := true, apart := false }
def FnExactTaskMaySaid : Prop := fnExactTaskMayRow.holds Try.pinned (OpenSpec.ofChange fnExactTaskMaySpec)

/-- ITS FALSE NEIGHBOUR: 'it returns false'. Refute it at one input. -/
def fnExactTaskMayWrong : ChangeSpec := { name := "fnExactTaskMay", fn := fun _ => fun
  | [d] => { results := [.lit (.bool false)], args := [d] }
  | _ => none }
def FnExactTaskMayWrongFalsely : Prop := fnExactTaskMayRow.holds Try.pinned (OpenSpec.ofChange fnExactTaskMayWrong)

/-- 'laws.FnSheetFixed': WHATEVER THE INPUT: true; the input reads as it did. -/
def fnSheetFixedSpec : ChangeSpec := { name := "fnSheetFixed", fn := fun _ => fun
  | [d] => { results := [.lit (.bool true)], args := [d] }
  | _ => none }
def fnSheetFixedRow : OpenClaim := { program := "ytimmhlakmcehaaa", sum := "e210a686b9051e767fa0aeede302c41a010e1cc7daf3021f76f68d2a1b30357b", func := "loop.example/buildroads/laws.FnSheetFixed", spec := "fnSheetFixed", unfollowed := true, recurses := true, apart := false }
def FnSheetFixedSaid : Prop := fnSheetFixedRow.holds Try.pinned (OpenSpec.ofChange fnSheetFixedSpec)

/-- ITS FALSE NEIGHBOUR: 'it returns false'. Refute it at one input. -/
def fnSheetFixedWrong : ChangeSpec := { name := "fnSheetFixed", fn := fun _ => fun
  | [d] => { results := [.lit (.bool false)], args := [d] }
  | _ => none }
def FnSheetFixedWrongFalsely : Prop := fnSheetFixedRow.holds Try.pinned (OpenSpec.ofChange fnSheetFixedWrong)

/-- 'laws.FnTaskMay': WHATEVER THE INPUT: true; the input reads as it did. -/
def fnTaskMaySpec : ChangeSpec := { name := "fnTaskMay", fn := fun _ => fun
  | [d] => { results := [.lit (.bool true)], args := [d] }
  | _ => none }
def fnTaskMayRow : OpenClaim := { program := "ytimmhlakmcehaaa", sum := "e210a686b9051e767fa0aeede302c41a010e1cc7daf3021f76f68d2a1b30357b", func := "loop.example/buildroads/laws.FnTaskMay", spec := "fnTaskMay", recurses := true, apart := false }
def FnTaskMaySaid : Prop := fnTaskMayRow.holds Try.pinned (OpenSpec.ofChange fnTaskMaySpec)

/-- ITS FALSE NEIGHBOUR: 'it returns false'. Refute it at one input. -/
def fnTaskMayWrong : ChangeSpec := { name := "fnTaskMay", fn := fun _ => fun
  | [d] => { results := [.lit (.bool false)], args := [d] }
  | _ => none }
def FnTaskMayWrongFalsely : Prop := fnTaskMayRow.holds Try.pinned (OpenSpec.ofChange fnTaskMayWrong)

/- THE SECOND FORM. 'bulk': how many values and letters a reading holds, each counted each time it is reached (what is shared counts as often as it is met; a slice's spare places count too). A statement '..UptoSaid' is the law's where the arguments, and the package variables that the reading takes, are together of bulk at most 1048576: NARROWER than '..Said'. Prove '..Said' where nothing that the law and all that it calls make is longer than what came in: it says more and counts as full. Else prove '..UptoSaid'. A law counts once. -/
mutual
def uptoBulk {H : Type} : DataW H → Nat
  | .lit (.string bytes) => bytes.length + 1
  | .lit _ => 1
  | .nil => 1
  | .ptr d => uptoBulk d + 1
  | .slice elems spare => uptoBulkAll elems + uptoBulkAll spare + 1
  | .agg parts => uptoBulkAll parts + 1
  | .iface _ d => uptoBulk d + 1
  | .map entries => uptoBulkEntries entries + 1
  | .held _ => 1
def uptoBulkAll {H : Type} : List (DataW H) → Nat
  | [] => 0
  | d :: r => uptoBulk d + uptoBulkAll r
def uptoBulkEntries {H : Type} : List (Lit × DataW H) → Nat
  | [] => 0
  | x :: r => uptoBulkEntry x + uptoBulkEntries r
def uptoBulkEntry {H : Type} : Lit × DataW H → Nat
  | (.string bytes, d) => bytes.length + uptoBulk d + 1
  | (_, d) => uptoBulk d + 1
 end
def uptoSmall : (H : Type) → List (DataW H) → Bool := fun _ ds => decide (uptoBulkAll ds ≤ 1048576)
def OpenSpec.upto (s : _root_.Go.ChangeSpec) : _root_.Go.OpenSpec := { _root_.Go.OpenSpec.ofChange s with cond := some uptoSmall }

/-- 'laws.FnExactConstants', WHERE WHAT IT READS IS OF BULK AT MOST 1048576: true; the input reads as it did. -/
def fnExactConstantsUptoRow : OpenClaim := { program := "ytimmhlakmcehaaa", sum := "e210a686b9051e767fa0aeede302c41a010e1cc7daf3021f76f68d2a1b30357b", func := "loop.example/buildroads/laws.FnExactConstants", spec := "fnExactConstants", apart := false, narrowed := true }
def FnExactConstantsUptoSaid : Prop := fnExactConstantsUptoRow.holds Try.pinned (OpenSpec.upto fnExactConstantsSpec)

/-- 'laws.FnExactTaskOk', WHERE WHAT IT READS IS OF BULK AT MOST 1048576: true; the input reads as it did. -/
def fnExactTaskOkUptoRow : OpenClaim := { program := "ytimmhlakmcehaaa", sum := "e210a686b9051e767fa0aeede302c41a010e1cc7daf3021f76f68d2a1b30357b", func := "loop.example/buildroads/laws.FnExactTaskOk", spec := "fnExactTaskOk", recurses := true, loops := true, apart := false, narrowed := true }
def FnExactTaskOkUptoSaid : Prop := fnExactTaskOkUptoRow.holds Try.pinned (OpenSpec.upto fnExactTaskOkSpec)

/-- 'laws.FnExactTaskNodes', WHERE WHAT IT READS IS OF BULK AT MOST 1048576: true; the input reads as it did. -/
def fnExactTaskNodesUptoRow : OpenClaim := { program := "ytimmhlakmcehaaa", sum := "e210a686b9051e767fa0aeede302c41a010e1cc7daf3021f76f68d2a1b30357b", func := "loop.example/buildroads/laws.FnExactTaskNodes", spec := "fnExactTaskNodes", recurses := true, loops := true, apart := false, narrowed := true }
def FnExactTaskNodesUptoSaid : Prop := fnExactTaskNodesUptoRow.holds Try.pinned (OpenSpec.upto fnExactTaskNodesSpec)

/-- 'laws.FnExactTaskFixed', WHERE WHAT IT READS IS OF BULK AT MOST 1048576: true; the input reads as it did. -/
def fnExactTaskFixedUptoRow : OpenClaim := { program := "ytimmhlakmcehaaa", sum := "e210a686b9051e767fa0aeede302c41a010e1cc7daf3021f76f68d2a1b30357b", func := "loop.example/buildroads/laws.FnExactTaskFixed", spec := "fnExactTaskFixed", recurses := true, loops := true, apart := false, narrowed := true }
def FnExactTaskFixedUptoSaid : Prop := fnExactTaskFixedUptoRow.holds Try.pinned (OpenSpec.upto fnExactTaskFixedSpec)

/-- 'laws.FnExactTracesOk', WHERE WHAT IT READS IS OF BULK AT MOST 1048576: true; the input reads as it did. -/
def fnExactTracesOkUptoRow : OpenClaim := { program := "ytimmhlakmcehaaa", sum := "e210a686b9051e767fa0aeede302c41a010e1cc7daf3021f76f68d2a1b30357b", func := "loop.example/buildroads/laws.FnExactTracesOk", spec := "fnExactTracesOk", unfollowed := true, recurses := true, apart := false, narrowed := true }
def FnExactTracesOkUptoSaid : Prop := fnExactTracesOkUptoRow.holds Try.pinned (OpenSpec.upto fnExactTracesOkSpec)

/-- 'laws.FnTaskNodes', WHERE WHAT IT READS IS OF BULK AT MOST 1048576: true; the input reads as it did. -/
def fnTaskNodesUptoRow : OpenClaim := { program := "ytimmhlakmcehaaa", sum := "e210a686b9051e767fa0aeede302c41a010e1cc7daf3021f76f68d2a1b30357b", func := "loop.example/buildroads/laws.FnTaskNodes", spec := "fnTaskNodes", recurses := true, apart := false, narrowed := true }
def FnTaskNodesUptoSaid : Prop := fnTaskNodesUptoRow.holds Try.pinned (OpenSpec.upto fnTaskNodesSpec)

/-- 'laws.FnExactTraceHolds', WHERE WHAT IT READS IS OF BULK AT MOST 1048576: true; the input reads as it did. -/
def fnExactTraceHoldsUptoRow : OpenClaim := { program := "ytimmhlakmcehaaa", sum := "e210a686b9051e767fa0aeede302c41a010e1cc7daf3021f76f68d2a1b30357b", func := "loop.example/buildroads/laws.FnExactTraceHolds", spec := "fnExactTraceHolds", unfollowed := true, recurses := true, apart := false, narrowed := true }
def FnExactTraceHoldsUptoSaid : Prop := fnExactTraceHoldsUptoRow.holds Try.pinned (OpenSpec.upto fnExactTraceHoldsSpec)

/-- 'laws.FnSheetOk', WHERE WHAT IT READS IS OF BULK AT MOST 1048576: true; the input reads as it did. -/
def fnSheetOkUptoRow : OpenClaim := { program := "ytimmhlakmcehaaa", sum := "e210a686b9051e767fa0aeede302c41a010e1cc7daf3021f76f68d2a1b30357b", func := "loop.example/buildroads/laws.FnSheetOk", spec := "fnSheetOk", recurses := true, apart := false, narrowed := true }
def FnSheetOkUptoSaid : Prop := fnSheetOkUptoRow.holds Try.pinned (OpenSpec.upto fnSheetOkSpec)

/-- 'laws.FnExactSheetOk', WHERE WHAT IT READS IS OF BULK AT MOST 1048576: true; the input reads as it did. -/
def fnExactSheetOkUptoRow : OpenClaim := { program := "ytimmhlakmcehaaa", sum := "e210a686b9051e767fa0aeede302c41a010e1cc7daf3021f76f68d2a1b30357b", func := "loop.example/buildroads/laws.FnExactSheetOk", spec := "fnExactSheetOk", recurses := true, loops := true, apart := false, narrowed := true }
def FnExactSheetOkUptoSaid : Prop := fnExactSheetOkUptoRow.holds Try.pinned (OpenSpec.upto fnExactSheetOkSpec)

/-- 'laws.FnExactTaskMay', WHERE WHAT IT READS IS OF BULK AT MOST 1048576: true; the input reads as it did. -/
def fnExactTaskMayUptoRow : OpenClaim := { program := "ytimmhlakmcehaaa", sum := "e210a686b9051e767fa0aeede302c41a010e1cc7daf3021f76f68d2a1b30357b", func := "loop.example/buildroads/laws.FnExactTaskMay", spec := "fnExactTaskMay", recurses := true, loops := true, apart := false, narrowed := true }
def FnExactTaskMayUptoSaid : Prop := fnExactTaskMayUptoRow.holds Try.pinned (OpenSpec.upto fnExactTaskMaySpec)

/-- 'laws.FnSheetFixed', WHERE WHAT IT READS IS OF BULK AT MOST 1048576: true; the input reads as it did. -/
def fnSheetFixedUptoRow : OpenClaim := { program := "ytimmhlakmcehaaa", sum := "e210a686b9051e767fa0aeede302c41a010e1cc7daf3021f76f68d2a1b30357b", func := "loop.example/buildroads/laws.FnSheetFixed", spec := "fnSheetFixed", unfollowed := true, recurses := true, apart := false, narrowed := true }
def FnSheetFixedUptoSaid : Prop := fnSheetFixedUptoRow.holds Try.pinned (OpenSpec.upto fnSheetFixedSpec)

/-- 'laws.FnTaskMay', WHERE WHAT IT READS IS OF BULK AT MOST 1048576: true; the input reads as it did. -/
def fnTaskMayUptoRow : OpenClaim := { program := "ytimmhlakmcehaaa", sum := "e210a686b9051e767fa0aeede302c41a010e1cc7daf3021f76f68d2a1b30357b", func := "loop.example/buildroads/laws.FnTaskMay", spec := "fnTaskMay", recurses := true, apart := false, narrowed := true }
def FnTaskMayUptoSaid : Prop := fnTaskMayUptoRow.holds Try.pinned (OpenSpec.upto fnTaskMaySpec)

end Rows
end Go.Proofs.Ytimmhlakmcehaaa
