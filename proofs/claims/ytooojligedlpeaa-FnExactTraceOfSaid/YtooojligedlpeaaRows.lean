/-
  NARROWER THAN 'FOR EVERY INPUT', by the rows' own cells (each row's printed sentence says how): FnExactTaskValue: loops · FnExactTaskSame: loops · FnExactTaskFetches: loops · FnExactTaskUses: loops · FnExactTraceOf: loops · FnExactTracesHonest: loops.
  DERIVED. THE GIVEN ROWS OF THIS SEAT. 12 by the template 'for every input the law returns true; each argument reads behind the call as it read before'; 0 by the template 'total and deterministic' (their statements: YtooojligedlpeaaTotals.lean).
  GIVEN WITH THE SEED: the statements are not yours to turn. If you find one false, say at which input.
  Laid BY PROGRAM, IN A SANDBOX (cutbox-rows.mjs): the forced cells as the released guide's own fill.sh prints them over the translation b6fbdfbf3f22af72… (all of the seat's roots in one cut). By AI agents, Wed Nov 11 2026. No macro, syntax, notation, axiom, sorry.
-/
import Derived.Test.YtooojligedlpeaaChecked
import GoSem.Claim
import GoSem.ClaimJoined
import GoSem.ClaimMapViews
import Derived.JoinedTies
import Derived.KernelRfl
namespace Go.Proofs.Ytooojligedlpeaa
/- THE CELL 'sum', in the pinned program and in every row, IS THE sha256 OF THE DUMP (.gsa) THAT YtooojligedlpeaaProg.lean LOADS. Nothing in Lean hashes anything: it is a label: what it is worth is what the hold of that sum in a sandbox is worth. -/
noncomputable def Try.pinned : Pinned := { name := "ytooojligedlpeaa", sum := "b6fbdfbf3f22af72c49d4aea4a73b193d0f1d3b68a91907dc84702a7541f1c6d", checked := Try.checked }
namespace Rows
def none {H : Type} : Left H := { results := [], args := [] }

/-- 'laws.FnTaskFixed': WHATEVER THE INPUT: true; the input reads as it did. -/
def fnTaskFixedSpec : ChangeSpec := { name := "fnTaskFixed", fn := fun _ => fun
  | [d] => { results := [.lit (.bool true)], args := [d] }
  | _ => none }
def fnTaskFixedRow : OpenClaim := { program := "ytooojligedlpeaa", sum := "b6fbdfbf3f22af72c49d4aea4a73b193d0f1d3b68a91907dc84702a7541f1c6d", func := "loop.example/buildroads/laws.FnTaskFixed", spec := "fnTaskFixed", unfollowed := true, recurses := true, apart := false }
def FnTaskFixedSaid : Prop := fnTaskFixedRow.holds Try.pinned (OpenSpec.ofChange fnTaskFixedSpec)

/-- ITS FALSE NEIGHBOUR: 'it returns false'. Refute it at one input. -/
def fnTaskFixedWrong : ChangeSpec := { name := "fnTaskFixed", fn := fun _ => fun
  | [d] => { results := [.lit (.bool false)], args := [d] }
  | _ => none }
def FnTaskFixedWrongFalsely : Prop := fnTaskFixedRow.holds Try.pinned (OpenSpec.ofChange fnTaskFixedWrong)

/-- 'laws.FnExactTaskValue': WHATEVER THE INPUT: true; the input reads as it did. -/
def fnExactTaskValueSpec : ChangeSpec := { name := "fnExactTaskValue", fn := fun _ => fun
  | [d1, d2] => { results := [.lit (.bool true)], args := [d1, d2] }
  | _ => none }
def fnExactTaskValueRow : OpenClaim := { program := "ytooojligedlpeaa", sum := "b6fbdfbf3f22af72c49d4aea4a73b193d0f1d3b68a91907dc84702a7541f1c6d", func := "loop.example/buildroads/laws.FnExactTaskValue", spec := "fnExactTaskValue", unfollowed := true, recurses := true, loops := true, apart := false }
def FnExactTaskValueSaid : Prop := fnExactTaskValueRow.holds Try.pinned (OpenSpec.ofChange fnExactTaskValueSpec)

/-- ITS FALSE NEIGHBOUR: 'it returns false'. Refute it at one input. -/
def fnExactTaskValueWrong : ChangeSpec := { name := "fnExactTaskValue", fn := fun _ => fun
  | [d1, d2] => { results := [.lit (.bool false)], args := [d1, d2] }
  | _ => none }
def FnExactTaskValueWrongFalsely : Prop := fnExactTaskValueRow.holds Try.pinned (OpenSpec.ofChange fnExactTaskValueWrong)

/-- 'laws.FnTaskValue': WHATEVER THE INPUT: true; the input reads as it did. -/
def fnTaskValueSpec : ChangeSpec := { name := "fnTaskValue", fn := fun _ => fun
  | [d] => { results := [.lit (.bool true)], args := [d] }
  | _ => none }
def fnTaskValueRow : OpenClaim := { program := "ytooojligedlpeaa", sum := "b6fbdfbf3f22af72c49d4aea4a73b193d0f1d3b68a91907dc84702a7541f1c6d", func := "loop.example/buildroads/laws.FnTaskValue", spec := "fnTaskValue", unfollowed := true, recurses := true, apart := false }
def FnTaskValueSaid : Prop := fnTaskValueRow.holds Try.pinned (OpenSpec.ofChange fnTaskValueSpec)

/-- ITS FALSE NEIGHBOUR: 'it returns false'. Refute it at one input. -/
def fnTaskValueWrong : ChangeSpec := { name := "fnTaskValue", fn := fun _ => fun
  | [d] => { results := [.lit (.bool false)], args := [d] }
  | _ => none }
def FnTaskValueWrongFalsely : Prop := fnTaskValueRow.holds Try.pinned (OpenSpec.ofChange fnTaskValueWrong)

/-- 'laws.FnTaskFetches': WHATEVER THE INPUT: true; the input reads as it did. -/
def fnTaskFetchesSpec : ChangeSpec := { name := "fnTaskFetches", fn := fun _ => fun
  | [d] => { results := [.lit (.bool true)], args := [d] }
  | _ => none }
def fnTaskFetchesRow : OpenClaim := { program := "ytooojligedlpeaa", sum := "b6fbdfbf3f22af72c49d4aea4a73b193d0f1d3b68a91907dc84702a7541f1c6d", func := "loop.example/buildroads/laws.FnTaskFetches", spec := "fnTaskFetches", unfollowed := true, recurses := true, apart := false }
def FnTaskFetchesSaid : Prop := fnTaskFetchesRow.holds Try.pinned (OpenSpec.ofChange fnTaskFetchesSpec)

/-- ITS FALSE NEIGHBOUR: 'it returns false'. Refute it at one input. -/
def fnTaskFetchesWrong : ChangeSpec := { name := "fnTaskFetches", fn := fun _ => fun
  | [d] => { results := [.lit (.bool false)], args := [d] }
  | _ => none }
def FnTaskFetchesWrongFalsely : Prop := fnTaskFetchesRow.holds Try.pinned (OpenSpec.ofChange fnTaskFetchesWrong)

/-- 'laws.FnExactTaskSame': WHATEVER THE INPUT: true; the input reads as it did. -/
def fnExactTaskSameSpec : ChangeSpec := { name := "fnExactTaskSame", fn := fun _ => fun
  | [d1, d2, d3] => { results := [.lit (.bool true)], args := [d1, d2, d3] }
  | _ => none }
def fnExactTaskSameRow : OpenClaim := { program := "ytooojligedlpeaa", sum := "b6fbdfbf3f22af72c49d4aea4a73b193d0f1d3b68a91907dc84702a7541f1c6d", func := "loop.example/buildroads/laws.FnExactTaskSame", spec := "fnExactTaskSame", unfollowed := true, recurses := true, loops := true, apart := false }
def FnExactTaskSameSaid : Prop := fnExactTaskSameRow.holds Try.pinned (OpenSpec.ofChange fnExactTaskSameSpec)

/-- ITS FALSE NEIGHBOUR: 'it returns false'. Refute it at one input. -/
def fnExactTaskSameWrong : ChangeSpec := { name := "fnExactTaskSame", fn := fun _ => fun
  | [d1, d2, d3] => { results := [.lit (.bool false)], args := [d1, d2, d3] }
  | _ => none }
def FnExactTaskSameWrongFalsely : Prop := fnExactTaskSameRow.holds Try.pinned (OpenSpec.ofChange fnExactTaskSameWrong)

/-- 'laws.FnExactTaskFetches': WHATEVER THE INPUT: true; the input reads as it did. -/
def fnExactTaskFetchesSpec : ChangeSpec := { name := "fnExactTaskFetches", fn := fun _ => fun
  | [d1, d2] => { results := [.lit (.bool true)], args := [d1, d2] }
  | _ => none }
def fnExactTaskFetchesRow : OpenClaim := { program := "ytooojligedlpeaa", sum := "b6fbdfbf3f22af72c49d4aea4a73b193d0f1d3b68a91907dc84702a7541f1c6d", func := "loop.example/buildroads/laws.FnExactTaskFetches", spec := "fnExactTaskFetches", unfollowed := true, recurses := true, loops := true, apart := false }
def FnExactTaskFetchesSaid : Prop := fnExactTaskFetchesRow.holds Try.pinned (OpenSpec.ofChange fnExactTaskFetchesSpec)

/-- ITS FALSE NEIGHBOUR: 'it returns false'. Refute it at one input. -/
def fnExactTaskFetchesWrong : ChangeSpec := { name := "fnExactTaskFetches", fn := fun _ => fun
  | [d1, d2] => { results := [.lit (.bool false)], args := [d1, d2] }
  | _ => none }
def FnExactTaskFetchesWrongFalsely : Prop := fnExactTaskFetchesRow.holds Try.pinned (OpenSpec.ofChange fnExactTaskFetchesWrong)

/-- 'laws.FnExactTaskUses': WHATEVER THE INPUT: true; the input reads as it did. -/
def fnExactTaskUsesSpec : ChangeSpec := { name := "fnExactTaskUses", fn := fun _ => fun
  | [d1, d2] => { results := [.lit (.bool true)], args := [d1, d2] }
  | _ => none }
def fnExactTaskUsesRow : OpenClaim := { program := "ytooojligedlpeaa", sum := "b6fbdfbf3f22af72c49d4aea4a73b193d0f1d3b68a91907dc84702a7541f1c6d", func := "loop.example/buildroads/laws.FnExactTaskUses", spec := "fnExactTaskUses", unfollowed := true, recurses := true, loops := true, apart := false }
def FnExactTaskUsesSaid : Prop := fnExactTaskUsesRow.holds Try.pinned (OpenSpec.ofChange fnExactTaskUsesSpec)

/-- ITS FALSE NEIGHBOUR: 'it returns false'. Refute it at one input. -/
def fnExactTaskUsesWrong : ChangeSpec := { name := "fnExactTaskUses", fn := fun _ => fun
  | [d1, d2] => { results := [.lit (.bool false)], args := [d1, d2] }
  | _ => none }
def FnExactTaskUsesWrongFalsely : Prop := fnExactTaskUsesRow.holds Try.pinned (OpenSpec.ofChange fnExactTaskUsesWrong)

/-- 'laws.FnTaskSame': WHATEVER THE INPUT: true; the input reads as it did. -/
def fnTaskSameSpec : ChangeSpec := { name := "fnTaskSame", fn := fun _ => fun
  | [d] => { results := [.lit (.bool true)], args := [d] }
  | _ => none }
def fnTaskSameRow : OpenClaim := { program := "ytooojligedlpeaa", sum := "b6fbdfbf3f22af72c49d4aea4a73b193d0f1d3b68a91907dc84702a7541f1c6d", func := "loop.example/buildroads/laws.FnTaskSame", spec := "fnTaskSame", unfollowed := true, recurses := true, apart := false }
def FnTaskSameSaid : Prop := fnTaskSameRow.holds Try.pinned (OpenSpec.ofChange fnTaskSameSpec)

/-- ITS FALSE NEIGHBOUR: 'it returns false'. Refute it at one input. -/
def fnTaskSameWrong : ChangeSpec := { name := "fnTaskSame", fn := fun _ => fun
  | [d] => { results := [.lit (.bool false)], args := [d] }
  | _ => none }
def FnTaskSameWrongFalsely : Prop := fnTaskSameRow.holds Try.pinned (OpenSpec.ofChange fnTaskSameWrong)

/-- 'laws.FnTaskUses': WHATEVER THE INPUT: true; the input reads as it did. -/
def fnTaskUsesSpec : ChangeSpec := { name := "fnTaskUses", fn := fun _ => fun
  | [d] => { results := [.lit (.bool true)], args := [d] }
  | _ => none }
def fnTaskUsesRow : OpenClaim := { program := "ytooojligedlpeaa", sum := "b6fbdfbf3f22af72c49d4aea4a73b193d0f1d3b68a91907dc84702a7541f1c6d", func := "loop.example/buildroads/laws.FnTaskUses", spec := "fnTaskUses", unfollowed := true, recurses := true, apart := false }
def FnTaskUsesSaid : Prop := fnTaskUsesRow.holds Try.pinned (OpenSpec.ofChange fnTaskUsesSpec)

/-- ITS FALSE NEIGHBOUR: 'it returns false'. Refute it at one input. -/
def fnTaskUsesWrong : ChangeSpec := { name := "fnTaskUses", fn := fun _ => fun
  | [d] => { results := [.lit (.bool false)], args := [d] }
  | _ => none }
def FnTaskUsesWrongFalsely : Prop := fnTaskUsesRow.holds Try.pinned (OpenSpec.ofChange fnTaskUsesWrong)

/-- 'laws.FnTraceOf': WHATEVER THE INPUT: true; the input reads as it did. -/
def fnTraceOfSpec : ChangeSpec := { name := "fnTraceOf", fn := fun _ => fun
  | [d] => { results := [.lit (.bool true)], args := [d] }
  | _ => none }
def fnTraceOfRow : OpenClaim := { program := "ytooojligedlpeaa", sum := "b6fbdfbf3f22af72c49d4aea4a73b193d0f1d3b68a91907dc84702a7541f1c6d", func := "loop.example/buildroads/laws.FnTraceOf", spec := "fnTraceOf", unfollowed := true, recurses := true, apart := false }
def FnTraceOfSaid : Prop := fnTraceOfRow.holds Try.pinned (OpenSpec.ofChange fnTraceOfSpec)

/-- ITS FALSE NEIGHBOUR: 'it returns false'. Refute it at one input. -/
def fnTraceOfWrong : ChangeSpec := { name := "fnTraceOf", fn := fun _ => fun
  | [d] => { results := [.lit (.bool false)], args := [d] }
  | _ => none }
def FnTraceOfWrongFalsely : Prop := fnTraceOfRow.holds Try.pinned (OpenSpec.ofChange fnTraceOfWrong)

/-- 'laws.FnExactTraceOf': WHATEVER THE INPUT: true; the input reads as it did. -/
def fnExactTraceOfSpec : ChangeSpec := { name := "fnExactTraceOf", fn := fun _ => fun
  | [d1, d2, d3] => { results := [.lit (.bool true)], args := [d1, d2, d3] }
  | _ => none }
def fnExactTraceOfRow : OpenClaim := { program := "ytooojligedlpeaa", sum := "b6fbdfbf3f22af72c49d4aea4a73b193d0f1d3b68a91907dc84702a7541f1c6d", func := "loop.example/buildroads/laws.FnExactTraceOf", spec := "fnExactTraceOf", unfollowed := true, recurses := true, loops := true, apart := false }
def FnExactTraceOfSaid : Prop := fnExactTraceOfRow.holds Try.pinned (OpenSpec.ofChange fnExactTraceOfSpec)

/-- ITS FALSE NEIGHBOUR: 'it returns false'. Refute it at one input. -/
def fnExactTraceOfWrong : ChangeSpec := { name := "fnExactTraceOf", fn := fun _ => fun
  | [d1, d2, d3] => { results := [.lit (.bool false)], args := [d1, d2, d3] }
  | _ => none }
def FnExactTraceOfWrongFalsely : Prop := fnExactTraceOfRow.holds Try.pinned (OpenSpec.ofChange fnExactTraceOfWrong)

/-- 'laws.FnExactTracesHonest': WHATEVER THE INPUT: true; the input reads as it did. -/
def fnExactTracesHonestSpec : ChangeSpec := { name := "fnExactTracesHonest", fn := fun _ => fun
  | [d1, d2] => { results := [.lit (.bool true)], args := [d1, d2] }
  | _ => none }
def fnExactTracesHonestRow : OpenClaim := { program := "ytooojligedlpeaa", sum := "b6fbdfbf3f22af72c49d4aea4a73b193d0f1d3b68a91907dc84702a7541f1c6d", func := "loop.example/buildroads/laws.FnExactTracesHonest", spec := "fnExactTracesHonest", unfollowed := true, recurses := true, loops := true, apart := false }
def FnExactTracesHonestSaid : Prop := fnExactTracesHonestRow.holds Try.pinned (OpenSpec.ofChange fnExactTracesHonestSpec)

/-- ITS FALSE NEIGHBOUR: 'it returns false'. Refute it at one input. -/
def fnExactTracesHonestWrong : ChangeSpec := { name := "fnExactTracesHonest", fn := fun _ => fun
  | [d1, d2] => { results := [.lit (.bool false)], args := [d1, d2] }
  | _ => none }
def FnExactTracesHonestWrongFalsely : Prop := fnExactTracesHonestRow.holds Try.pinned (OpenSpec.ofChange fnExactTracesHonestWrong)

/- THE SECOND FORM. 'bulk': how many values and letters a reading holds, each counted each time it is reached (what is shared counts as often as it is met; a slice's spare places count too). A statement '..UptoSaid' is the law's where the arguments, and the package variables that the reading takes, are together of bulk at most 1048576: NARROWER than '..Said'. Prove '..Said' where nothing that the law and all that it calls make is longer than what came in: it says more and counts as full. Else prove '..UptoSaid'. A law counts once. -/
mutual
def uptoBulk {H : Type} : DataW H → Nat
  | .lit (.string bytes) => bytes.length + 1
  | .lit _ => 1
  | .nil => 1
  | .ptr d => uptoBulk d + 1
  | .slice elems spare => uptoBulkAll elems + uptoBulkAll spare + 1
  | .agg parts => uptoBulkAll parts + 1
  | .iface _ d => uptoBulk d + 1
  | .map entries => uptoBulkEntries entries + 1
  | .held _ => 1
def uptoBulkAll {H : Type} : List (DataW H) → Nat
  | [] => 0
  | d :: r => uptoBulk d + uptoBulkAll r
def uptoBulkEntries {H : Type} : List (Lit × DataW H) → Nat
  | [] => 0
  | x :: r => uptoBulkEntry x + uptoBulkEntries r
def uptoBulkEntry {H : Type} : Lit × DataW H → Nat
  | (.string bytes, d) => bytes.length + uptoBulk d + 1
  | (_, d) => uptoBulk d + 1
 end
def uptoSmall : (H : Type) → List (DataW H) → Bool := fun _ ds => decide (uptoBulkAll ds ≤ 1048576)
def OpenSpec.upto (s : _root_.Go.ChangeSpec) : _root_.Go.OpenSpec := { _root_.Go.OpenSpec.ofChange s with cond := some uptoSmall }

/-- 'laws.FnTaskFixed', WHERE WHAT IT READS IS OF BULK AT MOST 1048576: true; the input reads as it did. -/
def fnTaskFixedUptoRow : OpenClaim := { program := "ytooojligedlpeaa", sum := "b6fbdfbf3f22af72c49d4aea4a73b193d0f1d3b68a91907dc84702a7541f1c6d", func := "loop.example/buildroads/laws.FnTaskFixed", spec := "fnTaskFixed", unfollowed := true, recurses := true, apart := false, narrowed := true }
def FnTaskFixedUptoSaid : Prop := fnTaskFixedUptoRow.holds Try.pinned (OpenSpec.upto fnTaskFixedSpec)

/-- 'laws.FnExactTaskValue', WHERE WHAT IT READS IS OF BULK AT MOST 1048576: true; the input reads as it did. -/
def fnExactTaskValueUptoRow : OpenClaim := { program := "ytooojligedlpeaa", sum := "b6fbdfbf3f22af72c49d4aea4a73b193d0f1d3b68a91907dc84702a7541f1c6d", func := "loop.example/buildroads/laws.FnExactTaskValue", spec := "fnExactTaskValue", unfollowed := true, recurses := true, loops := true, apart := false, narrowed := true }
def FnExactTaskValueUptoSaid : Prop := fnExactTaskValueUptoRow.holds Try.pinned (OpenSpec.upto fnExactTaskValueSpec)

/-- 'laws.FnTaskValue', WHERE WHAT IT READS IS OF BULK AT MOST 1048576: true; the input reads as it did. -/
def fnTaskValueUptoRow : OpenClaim := { program := "ytooojligedlpeaa", sum := "b6fbdfbf3f22af72c49d4aea4a73b193d0f1d3b68a91907dc84702a7541f1c6d", func := "loop.example/buildroads/laws.FnTaskValue", spec := "fnTaskValue", unfollowed := true, recurses := true, apart := false, narrowed := true }
def FnTaskValueUptoSaid : Prop := fnTaskValueUptoRow.holds Try.pinned (OpenSpec.upto fnTaskValueSpec)

/-- 'laws.FnTaskFetches', WHERE WHAT IT READS IS OF BULK AT MOST 1048576: true; the input reads as it did. -/
def fnTaskFetchesUptoRow : OpenClaim := { program := "ytooojligedlpeaa", sum := "b6fbdfbf3f22af72c49d4aea4a73b193d0f1d3b68a91907dc84702a7541f1c6d", func := "loop.example/buildroads/laws.FnTaskFetches", spec := "fnTaskFetches", unfollowed := true, recurses := true, apart := false, narrowed := true }
def FnTaskFetchesUptoSaid : Prop := fnTaskFetchesUptoRow.holds Try.pinned (OpenSpec.upto fnTaskFetchesSpec)

/-- 'laws.FnExactTaskSame', WHERE WHAT IT READS IS OF BULK AT MOST 1048576: true; the input reads as it did. -/
def fnExactTaskSameUptoRow : OpenClaim := { program := "ytooojligedlpeaa", sum := "b6fbdfbf3f22af72c49d4aea4a73b193d0f1d3b68a91907dc84702a7541f1c6d", func := "loop.example/buildroads/laws.FnExactTaskSame", spec := "fnExactTaskSame", unfollowed := true, recurses := true, loops := true, apart := false, narrowed := true }
def FnExactTaskSameUptoSaid : Prop := fnExactTaskSameUptoRow.holds Try.pinned (OpenSpec.upto fnExactTaskSameSpec)

/-- 'laws.FnExactTaskFetches', WHERE WHAT IT READS IS OF BULK AT MOST 1048576: true; the input reads as it did. -/
def fnExactTaskFetchesUptoRow : OpenClaim := { program := "ytooojligedlpeaa", sum := "b6fbdfbf3f22af72c49d4aea4a73b193d0f1d3b68a91907dc84702a7541f1c6d", func := "loop.example/buildroads/laws.FnExactTaskFetches", spec := "fnExactTaskFetches", unfollowed := true, recurses := true, loops := true, apart := false, narrowed := true }
def FnExactTaskFetchesUptoSaid : Prop := fnExactTaskFetchesUptoRow.holds Try.pinned (OpenSpec.upto fnExactTaskFetchesSpec)

/-- 'laws.FnExactTaskUses', WHERE WHAT IT READS IS OF BULK AT MOST 1048576: true; the input reads as it did. -/
def fnExactTaskUsesUptoRow : OpenClaim := { program := "ytooojligedlpeaa", sum := "b6fbdfbf3f22af72c49d4aea4a73b193d0f1d3b68a91907dc84702a7541f1c6d", func := "loop.example/buildroads/laws.FnExactTaskUses", spec := "fnExactTaskUses", unfollowed := true, recurses := true, loops := true, apart := false, narrowed := true }
def FnExactTaskUsesUptoSaid : Prop := fnExactTaskUsesUptoRow.holds Try.pinned (OpenSpec.upto fnExactTaskUsesSpec)

/-- 'laws.FnTaskSame', WHERE WHAT IT READS IS OF BULK AT MOST 1048576: true; the input reads as it did. -/
def fnTaskSameUptoRow : OpenClaim := { program := "ytooojligedlpeaa", sum := "b6fbdfbf3f22af72c49d4aea4a73b193d0f1d3b68a91907dc84702a7541f1c6d", func := "loop.example/buildroads/laws.FnTaskSame", spec := "fnTaskSame", unfollowed := true, recurses := true, apart := false, narrowed := true }
def FnTaskSameUptoSaid : Prop := fnTaskSameUptoRow.holds Try.pinned (OpenSpec.upto fnTaskSameSpec)

/-- 'laws.FnTaskUses', WHERE WHAT IT READS IS OF BULK AT MOST 1048576: true; the input reads as it did. -/
def fnTaskUsesUptoRow : OpenClaim := { program := "ytooojligedlpeaa", sum := "b6fbdfbf3f22af72c49d4aea4a73b193d0f1d3b68a91907dc84702a7541f1c6d", func := "loop.example/buildroads/laws.FnTaskUses", spec := "fnTaskUses", unfollowed := true, recurses := true, apart := false, narrowed := true }
def FnTaskUsesUptoSaid : Prop := fnTaskUsesUptoRow.holds Try.pinned (OpenSpec.upto fnTaskUsesSpec)

/-- 'laws.FnTraceOf', WHERE WHAT IT READS IS OF BULK AT MOST 1048576: true; the input reads as it did. -/
def fnTraceOfUptoRow : OpenClaim := { program := "ytooojligedlpeaa", sum := "b6fbdfbf3f22af72c49d4aea4a73b193d0f1d3b68a91907dc84702a7541f1c6d", func := "loop.example/buildroads/laws.FnTraceOf", spec := "fnTraceOf", unfollowed := true, recurses := true, apart := false, narrowed := true }
def FnTraceOfUptoSaid : Prop := fnTraceOfUptoRow.holds Try.pinned (OpenSpec.upto fnTraceOfSpec)

/-- 'laws.FnExactTraceOf', WHERE WHAT IT READS IS OF BULK AT MOST 1048576: true; the input reads as it did. -/
def fnExactTraceOfUptoRow : OpenClaim := { program := "ytooojligedlpeaa", sum := "b6fbdfbf3f22af72c49d4aea4a73b193d0f1d3b68a91907dc84702a7541f1c6d", func := "loop.example/buildroads/laws.FnExactTraceOf", spec := "fnExactTraceOf", unfollowed := true, recurses := true, loops := true, apart := false, narrowed := true }
def FnExactTraceOfUptoSaid : Prop := fnExactTraceOfUptoRow.holds Try.pinned (OpenSpec.upto fnExactTraceOfSpec)

/-- 'laws.FnExactTracesHonest', WHERE WHAT IT READS IS OF BULK AT MOST 1048576: true; the input reads as it did. -/
def fnExactTracesHonestUptoRow : OpenClaim := { program := "ytooojligedlpeaa", sum := "b6fbdfbf3f22af72c49d4aea4a73b193d0f1d3b68a91907dc84702a7541f1c6d", func := "loop.example/buildroads/laws.FnExactTracesHonest", spec := "fnExactTracesHonest", unfollowed := true, recurses := true, loops := true, apart := false, narrowed := true }
def FnExactTracesHonestUptoSaid : Prop := fnExactTracesHonestUptoRow.holds Try.pinned (OpenSpec.upto fnExactTracesHonestSpec)

end Rows
end Go.Proofs.Ytooojligedlpeaa
