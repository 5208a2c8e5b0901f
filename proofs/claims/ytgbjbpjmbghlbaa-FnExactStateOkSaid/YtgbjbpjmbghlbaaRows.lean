/-
  NARROWER THAN 'FOR EVERY INPUT', by the rows' own cells (each row's printed sentence says how): FnExactTaskMay: loops · FnExactStateOk: loops · FnExactTracesHonest: loops · FnExactHiddenOf: loops · FnExactIdleOf: loops · FnExactSheetEdit: loops.
  DERIVED. THE GIVEN ROWS OF THIS SEAT. 12 by the template 'for every input the law returns true; each argument reads behind the call as it read before'; 0 by the template 'total and deterministic' (their statements: YtgbjbpjmbghlbaaTotals.lean).
  GIVEN WITH THE SEED: the statements are not yours to turn. If you find one false, say at which input.
  Laid BY PROGRAM, IN A SANDBOX (cutbox-rows.mjs): the forced cells as the released guide's own fill.sh prints them over the translation 87ca8834aad686f6… (all of the seat's roots in one cut). By AI agents, Wed Nov 11 2026. No macro, syntax, notation, axiom, sorry.
-/
import Derived.Test.YtgbjbpjmbghlbaaChecked
import GoSem.Claim
import GoSem.ClaimJoined
import GoSem.ClaimMapViews
import Derived.JoinedTies
import Derived.KernelRfl
namespace Go.Proofs.Ytgbjbpjmbghlbaa
/- THE CELL 'sum', in the pinned program and in every row, IS THE sha256 OF THE DUMP (.gsa) THAT YtgbjbpjmbghlbaaProg.lean LOADS. Nothing in Lean hashes anything: it is a label: what it is worth is what the hold of that sum in a sandbox is worth. -/
noncomputable def Try.pinned : Pinned := { name := "ytgbjbpjmbghlbaa", sum := "87ca8834aad686f67f759aa8d3d82b513c417d9b7f28b36b0c9c4b47eeb6a0ae", checked := Try.checked }
namespace Rows
def none {H : Type} : Left H := { results := [], args := [] }

/-- 'laws.FnExactTaskMay': WHATEVER THE INPUT: true; the input reads as it did. -/
def fnExactTaskMaySpec : ChangeSpec := { name := "fnExactTaskMay", fn := fun _ => fun
  | [d] => { results := [.lit (.bool true)], args := [d] }
  | _ => none }
def fnExactTaskMayRow : OpenClaim := { program := "ytgbjbpjmbghlbaa", sum := "87ca8834aad686f67f759aa8d3d82b513c417d9b7f28b36b0c9c4b47eeb6a0ae", func := "loop.example/buildroads/laws.FnExactTaskMay", spec := "fnExactTaskMay", recurses := true, loops := true, apart := false }
def FnExactTaskMaySaid : Prop := fnExactTaskMayRow.holds Try.pinned (OpenSpec.ofChange fnExactTaskMaySpec)

/-- ITS FALSE NEIGHBOUR: 'it returns false'. Refute it at one input. -/
def fnExactTaskMayWrong : ChangeSpec := { name := "fnExactTaskMay", fn := fun _ => fun
  | [d] => { results := [.lit (.bool false)], args := [d] }
  | _ => none }
def FnExactTaskMayWrongFalsely : Prop := fnExactTaskMayRow.holds Try.pinned (OpenSpec.ofChange fnExactTaskMayWrong)

/-- 'laws.FnTaskMay': WHATEVER THE INPUT: true; the input reads as it did. -/
def fnTaskMaySpec : ChangeSpec := { name := "fnTaskMay", fn := fun _ => fun
  | [d] => { results := [.lit (.bool true)], args := [d] }
  | _ => none }
def fnTaskMayRow : OpenClaim := { program := "ytgbjbpjmbghlbaa", sum := "87ca8834aad686f67f759aa8d3d82b513c417d9b7f28b36b0c9c4b47eeb6a0ae", func := "loop.example/buildroads/laws.FnTaskMay", spec := "fnTaskMay", recurses := true, apart := false }
def FnTaskMaySaid : Prop := fnTaskMayRow.holds Try.pinned (OpenSpec.ofChange fnTaskMaySpec)

/-- ITS FALSE NEIGHBOUR: 'it returns false'. Refute it at one input. -/
def fnTaskMayWrong : ChangeSpec := { name := "fnTaskMay", fn := fun _ => fun
  | [d] => { results := [.lit (.bool false)], args := [d] }
  | _ => none }
def FnTaskMayWrongFalsely : Prop := fnTaskMayRow.holds Try.pinned (OpenSpec.ofChange fnTaskMayWrong)

/-- 'laws.FnTaskUses': WHATEVER THE INPUT: true; the input reads as it did. -/
def fnTaskUsesSpec : ChangeSpec := { name := "fnTaskUses", fn := fun _ => fun
  | [d] => { results := [.lit (.bool true)], args := [d] }
  | _ => none }
def fnTaskUsesRow : OpenClaim := { program := "ytgbjbpjmbghlbaa", sum := "87ca8834aad686f67f759aa8d3d82b513c417d9b7f28b36b0c9c4b47eeb6a0ae", func := "loop.example/buildroads/laws.FnTaskUses", spec := "fnTaskUses", unfollowed := true, recurses := true, apart := false }
def FnTaskUsesSaid : Prop := fnTaskUsesRow.holds Try.pinned (OpenSpec.ofChange fnTaskUsesSpec)

/-- ITS FALSE NEIGHBOUR: 'it returns false'. Refute it at one input. -/
def fnTaskUsesWrong : ChangeSpec := { name := "fnTaskUses", fn := fun _ => fun
  | [d] => { results := [.lit (.bool false)], args := [d] }
  | _ => none }
def FnTaskUsesWrongFalsely : Prop := fnTaskUsesRow.holds Try.pinned (OpenSpec.ofChange fnTaskUsesWrong)

/-- 'laws.FnExactStateOk': WHATEVER THE INPUT: true; the input reads as it did. -/
def fnExactStateOkSpec : ChangeSpec := { name := "fnExactStateOk", fn := fun _ => fun
  | [d1, d2] => { results := [.lit (.bool true)], args := [d1, d2] }
  | _ => none }
def fnExactStateOkRow : OpenClaim := { program := "ytgbjbpjmbghlbaa", sum := "87ca8834aad686f67f759aa8d3d82b513c417d9b7f28b36b0c9c4b47eeb6a0ae", func := "loop.example/buildroads/laws.FnExactStateOk", spec := "fnExactStateOk", unfollowed := true, recurses := true, loops := true, apart := false }
def FnExactStateOkSaid : Prop := fnExactStateOkRow.holds Try.pinned (OpenSpec.ofChange fnExactStateOkSpec)

/-- ITS FALSE NEIGHBOUR: 'it returns false'. Refute it at one input. -/
def fnExactStateOkWrong : ChangeSpec := { name := "fnExactStateOk", fn := fun _ => fun
  | [d1, d2] => { results := [.lit (.bool false)], args := [d1, d2] }
  | _ => none }
def FnExactStateOkWrongFalsely : Prop := fnExactStateOkRow.holds Try.pinned (OpenSpec.ofChange fnExactStateOkWrong)

/-- 'laws.FnExactTracesHonest': WHATEVER THE INPUT: true; the input reads as it did. -/
def fnExactTracesHonestSpec : ChangeSpec := { name := "fnExactTracesHonest", fn := fun _ => fun
  | [d1, d2] => { results := [.lit (.bool true)], args := [d1, d2] }
  | _ => none }
def fnExactTracesHonestRow : OpenClaim := { program := "ytgbjbpjmbghlbaa", sum := "87ca8834aad686f67f759aa8d3d82b513c417d9b7f28b36b0c9c4b47eeb6a0ae", func := "loop.example/buildroads/laws.FnExactTracesHonest", spec := "fnExactTracesHonest", unfollowed := true, recurses := true, loops := true, apart := false }
def FnExactTracesHonestSaid : Prop := fnExactTracesHonestRow.holds Try.pinned (OpenSpec.ofChange fnExactTracesHonestSpec)

/-- ITS FALSE NEIGHBOUR: 'it returns false'. Refute it at one input. -/
def fnExactTracesHonestWrong : ChangeSpec := { name := "fnExactTracesHonest", fn := fun _ => fun
  | [d1, d2] => { results := [.lit (.bool false)], args := [d1, d2] }
  | _ => none }
def FnExactTracesHonestWrongFalsely : Prop := fnExactTracesHonestRow.holds Try.pinned (OpenSpec.ofChange fnExactTracesHonestWrong)

/-- 'laws.FnExactHiddenOf': WHATEVER THE INPUT: true; the input reads as it did. -/
def fnExactHiddenOfSpec : ChangeSpec := { name := "fnExactHiddenOf", fn := fun _ => fun
  | [d1, d2, d3] => { results := [.lit (.bool true)], args := [d1, d2, d3] }
  | _ => none }
def fnExactHiddenOfRow : OpenClaim := { program := "ytgbjbpjmbghlbaa", sum := "87ca8834aad686f67f759aa8d3d82b513c417d9b7f28b36b0c9c4b47eeb6a0ae", func := "loop.example/buildroads/laws.FnExactHiddenOf", spec := "fnExactHiddenOf", unfollowed := true, recurses := true, loops := true, apart := false }
def FnExactHiddenOfSaid : Prop := fnExactHiddenOfRow.holds Try.pinned (OpenSpec.ofChange fnExactHiddenOfSpec)

/-- ITS FALSE NEIGHBOUR: 'it returns false'. Refute it at one input. -/
def fnExactHiddenOfWrong : ChangeSpec := { name := "fnExactHiddenOf", fn := fun _ => fun
  | [d1, d2, d3] => { results := [.lit (.bool false)], args := [d1, d2, d3] }
  | _ => none }
def FnExactHiddenOfWrongFalsely : Prop := fnExactHiddenOfRow.holds Try.pinned (OpenSpec.ofChange fnExactHiddenOfWrong)

/-- 'laws.FnHiddenOf': WHATEVER THE INPUT: true; the input reads as it did. -/
def fnHiddenOfSpec : ChangeSpec := { name := "fnHiddenOf", fn := fun _ => fun
  | [d] => { results := [.lit (.bool true)], args := [d] }
  | _ => none }
def fnHiddenOfRow : OpenClaim := { program := "ytgbjbpjmbghlbaa", sum := "87ca8834aad686f67f759aa8d3d82b513c417d9b7f28b36b0c9c4b47eeb6a0ae", func := "loop.example/buildroads/laws.FnHiddenOf", spec := "fnHiddenOf", unfollowed := true, recurses := true, apart := false }
def FnHiddenOfSaid : Prop := fnHiddenOfRow.holds Try.pinned (OpenSpec.ofChange fnHiddenOfSpec)

/-- ITS FALSE NEIGHBOUR: 'it returns false'. Refute it at one input. -/
def fnHiddenOfWrong : ChangeSpec := { name := "fnHiddenOf", fn := fun _ => fun
  | [d] => { results := [.lit (.bool false)], args := [d] }
  | _ => none }
def FnHiddenOfWrongFalsely : Prop := fnHiddenOfRow.holds Try.pinned (OpenSpec.ofChange fnHiddenOfWrong)

/-- 'laws.FnExactIdleOf': WHATEVER THE INPUT: true; the input reads as it did. -/
def fnExactIdleOfSpec : ChangeSpec := { name := "fnExactIdleOf", fn := fun _ => fun
  | [d1, d2] => { results := [.lit (.bool true)], args := [d1, d2] }
  | _ => none }
def fnExactIdleOfRow : OpenClaim := { program := "ytgbjbpjmbghlbaa", sum := "87ca8834aad686f67f759aa8d3d82b513c417d9b7f28b36b0c9c4b47eeb6a0ae", func := "loop.example/buildroads/laws.FnExactIdleOf", spec := "fnExactIdleOf", unfollowed := true, recurses := true, loops := true, apart := false }
def FnExactIdleOfSaid : Prop := fnExactIdleOfRow.holds Try.pinned (OpenSpec.ofChange fnExactIdleOfSpec)

/-- ITS FALSE NEIGHBOUR: 'it returns false'. Refute it at one input. -/
def fnExactIdleOfWrong : ChangeSpec := { name := "fnExactIdleOf", fn := fun _ => fun
  | [d1, d2] => { results := [.lit (.bool false)], args := [d1, d2] }
  | _ => none }
def FnExactIdleOfWrongFalsely : Prop := fnExactIdleOfRow.holds Try.pinned (OpenSpec.ofChange fnExactIdleOfWrong)

/-- 'laws.FnIdleOf': WHATEVER THE INPUT: true; the input reads as it did. -/
def fnIdleOfSpec : ChangeSpec := { name := "fnIdleOf", fn := fun _ => fun
  | [d] => { results := [.lit (.bool true)], args := [d] }
  | _ => none }
def fnIdleOfRow : OpenClaim := { program := "ytgbjbpjmbghlbaa", sum := "87ca8834aad686f67f759aa8d3d82b513c417d9b7f28b36b0c9c4b47eeb6a0ae", func := "loop.example/buildroads/laws.FnIdleOf", spec := "fnIdleOf", unfollowed := true, recurses := true, apart := false }
def FnIdleOfSaid : Prop := fnIdleOfRow.holds Try.pinned (OpenSpec.ofChange fnIdleOfSpec)

/-- ITS FALSE NEIGHBOUR: 'it returns false'. Refute it at one input. -/
def fnIdleOfWrong : ChangeSpec := { name := "fnIdleOf", fn := fun _ => fun
  | [d] => { results := [.lit (.bool false)], args := [d] }
  | _ => none }
def FnIdleOfWrongFalsely : Prop := fnIdleOfRow.holds Try.pinned (OpenSpec.ofChange fnIdleOfWrong)

/-- 'laws.FnExactTracesPut': WHATEVER THE INPUT: true; the input reads as it did. -/
def fnExactTracesPutSpec : ChangeSpec := { name := "fnExactTracesPut", fn := fun _ => fun
  | [d1, d2] => { results := [.lit (.bool true)], args := [d1, d2] }
  | _ => none }
def fnExactTracesPutRow : OpenClaim := { program := "ytgbjbpjmbghlbaa", sum := "87ca8834aad686f67f759aa8d3d82b513c417d9b7f28b36b0c9c4b47eeb6a0ae", func := "loop.example/buildroads/laws.FnExactTracesPut", spec := "fnExactTracesPut", unfollowed := true, recurses := true, apart := false }
def FnExactTracesPutSaid : Prop := fnExactTracesPutRow.holds Try.pinned (OpenSpec.ofChange fnExactTracesPutSpec)

/-- ITS FALSE NEIGHBOUR: 'it returns false'. Refute it at one input. -/
def fnExactTracesPutWrong : ChangeSpec := { name := "fnExactTracesPut", fn := fun _ => fun
  | [d1, d2] => { results := [.lit (.bool false)], args := [d1, d2] }
  | _ => none }
def FnExactTracesPutWrongFalsely : Prop := fnExactTracesPutRow.holds Try.pinned (OpenSpec.ofChange fnExactTracesPutWrong)

/-- 'laws.FnTracesPut': WHATEVER THE INPUT: true; the input reads as it did. -/
def fnTracesPutSpec : ChangeSpec := { name := "fnTracesPut", fn := fun _ => fun
  | [d] => { results := [.lit (.bool true)], args := [d] }
  | _ => none }
def fnTracesPutRow : OpenClaim := { program := "ytgbjbpjmbghlbaa", sum := "87ca8834aad686f67f759aa8d3d82b513c417d9b7f28b36b0c9c4b47eeb6a0ae", func := "loop.example/buildroads/laws.FnTracesPut", spec := "fnTracesPut", unfollowed := true, recurses := true, apart := false }
def FnTracesPutSaid : Prop := fnTracesPutRow.holds Try.pinned (OpenSpec.ofChange fnTracesPutSpec)

/-- ITS FALSE NEIGHBOUR: 'it returns false'. Refute it at one input. -/
def fnTracesPutWrong : ChangeSpec := { name := "fnTracesPut", fn := fun _ => fun
  | [d] => { results := [.lit (.bool false)], args := [d] }
  | _ => none }
def FnTracesPutWrongFalsely : Prop := fnTracesPutRow.holds Try.pinned (OpenSpec.ofChange fnTracesPutWrong)

/-- 'laws.FnExactSheetEdit': WHATEVER THE INPUT: true; the input reads as it did. -/
def fnExactSheetEditSpec : ChangeSpec := { name := "fnExactSheetEdit", fn := fun _ => fun
  | [d1, d2, d3] => { results := [.lit (.bool true)], args := [d1, d2, d3] }
  | _ => none }
def fnExactSheetEditRow : OpenClaim := { program := "ytgbjbpjmbghlbaa", sum := "87ca8834aad686f67f759aa8d3d82b513c417d9b7f28b36b0c9c4b47eeb6a0ae", func := "loop.example/buildroads/laws.FnExactSheetEdit", spec := "fnExactSheetEdit", recurses := true, loops := true, apart := false }
def FnExactSheetEditSaid : Prop := fnExactSheetEditRow.holds Try.pinned (OpenSpec.ofChange fnExactSheetEditSpec)

/-- ITS FALSE NEIGHBOUR: 'it returns false'. Refute it at one input. -/
def fnExactSheetEditWrong : ChangeSpec := { name := "fnExactSheetEdit", fn := fun _ => fun
  | [d1, d2, d3] => { results := [.lit (.bool false)], args := [d1, d2, d3] }
  | _ => none }
def FnExactSheetEditWrongFalsely : Prop := fnExactSheetEditRow.holds Try.pinned (OpenSpec.ofChange fnExactSheetEditWrong)

/- THE SECOND FORM. 'bulk': how many values and letters a reading holds, each counted each time it is reached (what is shared counts as often as it is met; a slice's spare places count too). A statement '..UptoSaid' is the law's where the arguments, and the package variables that the reading takes, are together of bulk at most 1048576: NARROWER than '..Said'. Prove '..Said' where nothing that the law and all that it calls make is longer than what came in: it says more and counts as full. Else prove '..UptoSaid'. A law counts once. -/
mutual
def uptoBulk {H : Type} : DataW H → Nat
  | .lit (.string bytes) => bytes.length + 1
  | .lit _ => 1
  | .nil => 1
  | .ptr d => uptoBulk d + 1
  | .slice elems spare => uptoBulkAll elems + uptoBulkAll spare + 1
  | .agg parts => uptoBulkAll parts + 1
  | .iface _ d => uptoBulk d + 1
  | .map entries => uptoBulkEntries entries + 1
  | .held _ => 1
def uptoBulkAll {H : Type} : List (DataW H) → Nat
  | [] => 0
  | d :: r => uptoBulk d + uptoBulkAll r
def uptoBulkEntries {H : Type} : List (Lit × DataW H) → Nat
  | [] => 0
  | x :: r => uptoBulkEntry x + uptoBulkEntries r
def uptoBulkEntry {H : Type} : Lit × DataW H → Nat
  | (.string bytes, d) => bytes.length + uptoBulk d + 1
  | (_, d) => uptoBulk d + 1
 end
def uptoSmall : (H : Type) → List (DataW H) → Bool := fun _ ds => decide (uptoBulkAll ds ≤ 1048576)
def OpenSpec.upto (s : _root_.Go.ChangeSpec) : _root_.Go.OpenSpec := { _root_.Go.OpenSpec.ofChange s with cond := some uptoSmall }

/-- 'laws.FnExactTaskMay', WHERE WHAT IT READS IS OF BULK AT MOST 1048576: true; the input reads as it did. -/
def fnExactTaskMayUptoRow : OpenClaim := { program := "ytgbjbpjmbghlbaa", sum := "87ca8834aad686f67f759aa8d3d82b513c417d9b7f28b36b0c9c4b47eeb6a0ae", func := "loop.example/buildroads/laws.FnExactTaskMay", spec := "fnExactTaskMay", recurses := true, loops := true, apart := false, narrowed := true }
def FnExactTaskMayUptoSaid : Prop := fnExactTaskMayUptoRow.holds Try.pinned (OpenSpec.upto fnExactTaskMaySpec)

/-- 'laws.FnTaskMay', WHERE WHAT IT READS IS OF BULK AT MOST 1048576: true; the input reads as it did. -/
def fnTaskMayUptoRow : OpenClaim := { program := "ytgbjbpjmbghlbaa", sum := "87ca8834aad686f67f759aa8d3d82b513c417d9b7f28b36b0c9c4b47eeb6a0ae", func := "loop.example/buildroads/laws.FnTaskMay", spec := "fnTaskMay", recurses := true, apart := false, narrowed := true }
def FnTaskMayUptoSaid : Prop := fnTaskMayUptoRow.holds Try.pinned (OpenSpec.upto fnTaskMaySpec)

/-- 'laws.FnTaskUses', WHERE WHAT IT READS IS OF BULK AT MOST 1048576: true; the input reads as it did. -/
def fnTaskUsesUptoRow : OpenClaim := { program := "ytgbjbpjmbghlbaa", sum := "87ca8834aad686f67f759aa8d3d82b513c417d9b7f28b36b0c9c4b47eeb6a0ae", func := "loop.example/buildroads/laws.FnTaskUses", spec := "fnTaskUses", unfollowed := true, recurses := true, apart := false, narrowed := true }
def FnTaskUsesUptoSaid : Prop := fnTaskUsesUptoRow.holds Try.pinned (OpenSpec.upto fnTaskUsesSpec)

/-- 'laws.FnExactStateOk', WHERE WHAT IT READS IS OF BULK AT MOST 1048576: true; the input reads as it did. -/
def fnExactStateOkUptoRow : OpenClaim := { program := "ytgbjbpjmbghlbaa", sum := "87ca8834aad686f67f759aa8d3d82b513c417d9b7f28b36b0c9c4b47eeb6a0ae", func := "loop.example/buildroads/laws.FnExactStateOk", spec := "fnExactStateOk", unfollowed := true, recurses := true, loops := true, apart := false, narrowed := true }
def FnExactStateOkUptoSaid : Prop := fnExactStateOkUptoRow.holds Try.pinned (OpenSpec.upto fnExactStateOkSpec)

/-- 'laws.FnExactTracesHonest', WHERE WHAT IT READS IS OF BULK AT MOST 1048576: true; the input reads as it did. -/
def fnExactTracesHonestUptoRow : OpenClaim := { program := "ytgbjbpjmbghlbaa", sum := "87ca8834aad686f67f759aa8d3d82b513c417d9b7f28b36b0c9c4b47eeb6a0ae", func := "loop.example/buildroads/laws.FnExactTracesHonest", spec := "fnExactTracesHonest", unfollowed := true, recurses := true, loops := true, apart := false, narrowed := true }
def FnExactTracesHonestUptoSaid : Prop := fnExactTracesHonestUptoRow.holds Try.pinned (OpenSpec.upto fnExactTracesHonestSpec)

/-- 'laws.FnExactHiddenOf', WHERE WHAT IT READS IS OF BULK AT MOST 1048576: true; the input reads as it did. -/
def fnExactHiddenOfUptoRow : OpenClaim := { program := "ytgbjbpjmbghlbaa", sum := "87ca8834aad686f67f759aa8d3d82b513c417d9b7f28b36b0c9c4b47eeb6a0ae", func := "loop.example/buildroads/laws.FnExactHiddenOf", spec := "fnExactHiddenOf", unfollowed := true, recurses := true, loops := true, apart := false, narrowed := true }
def FnExactHiddenOfUptoSaid : Prop := fnExactHiddenOfUptoRow.holds Try.pinned (OpenSpec.upto fnExactHiddenOfSpec)

/-- 'laws.FnHiddenOf', WHERE WHAT IT READS IS OF BULK AT MOST 1048576: true; the input reads as it did. -/
def fnHiddenOfUptoRow : OpenClaim := { program := "ytgbjbpjmbghlbaa", sum := "87ca8834aad686f67f759aa8d3d82b513c417d9b7f28b36b0c9c4b47eeb6a0ae", func := "loop.example/buildroads/laws.FnHiddenOf", spec := "fnHiddenOf", unfollowed := true, recurses := true, apart := false, narrowed := true }
def FnHiddenOfUptoSaid : Prop := fnHiddenOfUptoRow.holds Try.pinned (OpenSpec.upto fnHiddenOfSpec)

/-- 'laws.FnExactIdleOf', WHERE WHAT IT READS IS OF BULK AT MOST 1048576: true; the input reads as it did. -/
def fnExactIdleOfUptoRow : OpenClaim := { program := "ytgbjbpjmbghlbaa", sum := "87ca8834aad686f67f759aa8d3d82b513c417d9b7f28b36b0c9c4b47eeb6a0ae", func := "loop.example/buildroads/laws.FnExactIdleOf", spec := "fnExactIdleOf", unfollowed := true, recurses := true, loops := true, apart := false, narrowed := true }
def FnExactIdleOfUptoSaid : Prop := fnExactIdleOfUptoRow.holds Try.pinned (OpenSpec.upto fnExactIdleOfSpec)

/-- 'laws.FnIdleOf', WHERE WHAT IT READS IS OF BULK AT MOST 1048576: true; the input reads as it did. -/
def fnIdleOfUptoRow : OpenClaim := { program := "ytgbjbpjmbghlbaa", sum := "87ca8834aad686f67f759aa8d3d82b513c417d9b7f28b36b0c9c4b47eeb6a0ae", func := "loop.example/buildroads/laws.FnIdleOf", spec := "fnIdleOf", unfollowed := true, recurses := true, apart := false, narrowed := true }
def FnIdleOfUptoSaid : Prop := fnIdleOfUptoRow.holds Try.pinned (OpenSpec.upto fnIdleOfSpec)

/-- 'laws.FnExactTracesPut', WHERE WHAT IT READS IS OF BULK AT MOST 1048576: true; the input reads as it did. -/
def fnExactTracesPutUptoRow : OpenClaim := { program := "ytgbjbpjmbghlbaa", sum := "87ca8834aad686f67f759aa8d3d82b513c417d9b7f28b36b0c9c4b47eeb6a0ae", func := "loop.example/buildroads/laws.FnExactTracesPut", spec := "fnExactTracesPut", unfollowed := true, recurses := true, apart := false, narrowed := true }
def FnExactTracesPutUptoSaid : Prop := fnExactTracesPutUptoRow.holds Try.pinned (OpenSpec.upto fnExactTracesPutSpec)

/-- 'laws.FnTracesPut', WHERE WHAT IT READS IS OF BULK AT MOST 1048576: true; the input reads as it did. -/
def fnTracesPutUptoRow : OpenClaim := { program := "ytgbjbpjmbghlbaa", sum := "87ca8834aad686f67f759aa8d3d82b513c417d9b7f28b36b0c9c4b47eeb6a0ae", func := "loop.example/buildroads/laws.FnTracesPut", spec := "fnTracesPut", unfollowed := true, recurses := true, apart := false, narrowed := true }
def FnTracesPutUptoSaid : Prop := fnTracesPutUptoRow.holds Try.pinned (OpenSpec.upto fnTracesPutSpec)

/-- 'laws.FnExactSheetEdit', WHERE WHAT IT READS IS OF BULK AT MOST 1048576: true; the input reads as it did. -/
def fnExactSheetEditUptoRow : OpenClaim := { program := "ytgbjbpjmbghlbaa", sum := "87ca8834aad686f67f759aa8d3d82b513c417d9b7f28b36b0c9c4b47eeb6a0ae", func := "loop.example/buildroads/laws.FnExactSheetEdit", spec := "fnExactSheetEdit", recurses := true, loops := true, apart := false, narrowed := true }
def FnExactSheetEditUptoSaid : Prop := fnExactSheetEditUptoRow.holds Try.pinned (OpenSpec.upto fnExactSheetEditSpec)

end Rows
end Go.Proofs.Ytgbjbpjmbghlbaa
