/-
  NARROWER THAN 'FOR EVERY INPUT', by the rows' own cells (each row's printed sentence says how): FnExactSheetFixed: loops · FnExactStateStart: loops · FnExactStateOk: loops · FnExactSheetEdit: loops.
  DERIVED. THE GIVEN ROWS OF THIS SEAT. 11 by the template 'for every input the law returns true; each argument reads behind the call as it read before'; 0 by the template 'total and deterministic' (their statements: YtofieekbhbkliaaTotals.lean).
  GIVEN WITH THE SEED: the statements are not yours to turn. If you find one false, say at which input.
  Laid BY PROGRAM, IN A SANDBOX (cutbox-rows.mjs): the forced cells as the released guide's own fill.sh prints them over the translation 3bf1a9012dc51b4a… (all of the seat's roots in one cut). By AI agents, Wed Nov 11 2026. No macro, syntax, notation, axiom, sorry.
-/
import Derived.Test.YtofieekbhbkliaaChecked
import GoSem.Claim
import GoSem.ClaimJoined
import GoSem.ClaimMapViews
import Derived.JoinedTies
import Derived.KernelRfl
namespace Go.Proofs.Ytofieekbhbkliaa
/- THE CELL 'sum', in the pinned program and in every row, IS THE sha256 OF THE DUMP (.gsa) THAT YtofieekbhbkliaaProg.lean LOADS. Nothing in Lean hashes anything: it is a label: what it is worth is what the hold of that sum in a sandbox is worth. -/
noncomputable def Try.pinned : Pinned := { name := "ytofieekbhbkliaa", sum := "3bf1a9012dc51b4a7e81f31e1d0c222b2801e81daa280a7b2547ff6fe2f71bf3", checked := Try.checked }
namespace Rows
def none {H : Type} : Left H := { results := [], args := [] }

/-- 'laws.FnTracesOk': WHATEVER THE INPUT: true; the input reads as it did. -/
def fnTracesOkSpec : ChangeSpec := { name := "fnTracesOk", fn := fun _ => fun
  | [d] => { results := [.lit (.bool true)], args := [d] }
  | _ => none }
def fnTracesOkRow : OpenClaim := { program := "ytofieekbhbkliaa", sum := "3bf1a9012dc51b4a7e81f31e1d0c222b2801e81daa280a7b2547ff6fe2f71bf3", func := "loop.example/buildroads/laws.FnTracesOk", spec := "fnTracesOk", unfollowed := true, recurses := true, apart := false }
def FnTracesOkSaid : Prop := fnTracesOkRow.holds Try.pinned (OpenSpec.ofChange fnTracesOkSpec)

/-- ITS FALSE NEIGHBOUR: 'it returns false'. Refute it at one input. -/
def fnTracesOkWrong : ChangeSpec := { name := "fnTracesOk", fn := fun _ => fun
  | [d] => { results := [.lit (.bool false)], args := [d] }
  | _ => none }
def FnTracesOkWrongFalsely : Prop := fnTracesOkRow.holds Try.pinned (OpenSpec.ofChange fnTracesOkWrong)

/-- 'laws.FnTraceHolds': WHATEVER THE INPUT: true; the input reads as it did. -/
def fnTraceHoldsSpec : ChangeSpec := { name := "fnTraceHolds", fn := fun _ => fun
  | [d] => { results := [.lit (.bool true)], args := [d] }
  | _ => none }
def fnTraceHoldsRow : OpenClaim := { program := "ytofieekbhbkliaa", sum := "3bf1a9012dc51b4a7e81f31e1d0c222b2801e81daa280a7b2547ff6fe2f71bf3", func := "loop.example/buildroads/laws.FnTraceHolds", spec := "fnTraceHolds", unfollowed := true, recurses := true, apart := false }
def FnTraceHoldsSaid : Prop := fnTraceHoldsRow.holds Try.pinned (OpenSpec.ofChange fnTraceHoldsSpec)

/-- ITS FALSE NEIGHBOUR: 'it returns false'. Refute it at one input. -/
def fnTraceHoldsWrong : ChangeSpec := { name := "fnTraceHolds", fn := fun _ => fun
  | [d] => { results := [.lit (.bool false)], args := [d] }
  | _ => none }
def FnTraceHoldsWrongFalsely : Prop := fnTraceHoldsRow.holds Try.pinned (OpenSpec.ofChange fnTraceHoldsWrong)

/-- 'laws.FnExactTracesPut': WHATEVER THE INPUT: true; the input reads as it did. -/
def fnExactTracesPutSpec : ChangeSpec := { name := "fnExactTracesPut", fn := fun _ => fun
  | [d1, d2] => { results := [.lit (.bool true)], args := [d1, d2] }
  | _ => none }
def fnExactTracesPutRow : OpenClaim := { program := "ytofieekbhbkliaa", sum := "3bf1a9012dc51b4a7e81f31e1d0c222b2801e81daa280a7b2547ff6fe2f71bf3", func := "loop.example/buildroads/laws.FnExactTracesPut", spec := "fnExactTracesPut", unfollowed := true, recurses := true, apart := false }
def FnExactTracesPutSaid : Prop := fnExactTracesPutRow.holds Try.pinned (OpenSpec.ofChange fnExactTracesPutSpec)

/-- ITS FALSE NEIGHBOUR: 'it returns false'. Refute it at one input. -/
def fnExactTracesPutWrong : ChangeSpec := { name := "fnExactTracesPut", fn := fun _ => fun
  | [d1, d2] => { results := [.lit (.bool false)], args := [d1, d2] }
  | _ => none }
def FnExactTracesPutWrongFalsely : Prop := fnExactTracesPutRow.holds Try.pinned (OpenSpec.ofChange fnExactTracesPutWrong)

/-- 'laws.FnTracesPut': WHATEVER THE INPUT: true; the input reads as it did. -/
def fnTracesPutSpec : ChangeSpec := { name := "fnTracesPut", fn := fun _ => fun
  | [d] => { results := [.lit (.bool true)], args := [d] }
  | _ => none }
def fnTracesPutRow : OpenClaim := { program := "ytofieekbhbkliaa", sum := "3bf1a9012dc51b4a7e81f31e1d0c222b2801e81daa280a7b2547ff6fe2f71bf3", func := "loop.example/buildroads/laws.FnTracesPut", spec := "fnTracesPut", unfollowed := true, recurses := true, apart := false }
def FnTracesPutSaid : Prop := fnTracesPutRow.holds Try.pinned (OpenSpec.ofChange fnTracesPutSpec)

/-- ITS FALSE NEIGHBOUR: 'it returns false'. Refute it at one input. -/
def fnTracesPutWrong : ChangeSpec := { name := "fnTracesPut", fn := fun _ => fun
  | [d] => { results := [.lit (.bool false)], args := [d] }
  | _ => none }
def FnTracesPutWrongFalsely : Prop := fnTracesPutRow.holds Try.pinned (OpenSpec.ofChange fnTracesPutWrong)

/-- 'laws.FnExactTracesFind': WHATEVER THE INPUT: true; the input reads as it did. -/
def fnExactTracesFindSpec : ChangeSpec := { name := "fnExactTracesFind", fn := fun _ => fun
  | [d1, d2, d3] => { results := [.lit (.bool true)], args := [d1, d2, d3] }
  | _ => none }
def fnExactTracesFindRow : OpenClaim := { program := "ytofieekbhbkliaa", sum := "3bf1a9012dc51b4a7e81f31e1d0c222b2801e81daa280a7b2547ff6fe2f71bf3", func := "loop.example/buildroads/laws.FnExactTracesFind", spec := "fnExactTracesFind", unfollowed := true, recurses := true, apart := false }
def FnExactTracesFindSaid : Prop := fnExactTracesFindRow.holds Try.pinned (OpenSpec.ofChange fnExactTracesFindSpec)

/-- ITS FALSE NEIGHBOUR: 'it returns false'. Refute it at one input. -/
def fnExactTracesFindWrong : ChangeSpec := { name := "fnExactTracesFind", fn := fun _ => fun
  | [d1, d2, d3] => { results := [.lit (.bool false)], args := [d1, d2, d3] }
  | _ => none }
def FnExactTracesFindWrongFalsely : Prop := fnExactTracesFindRow.holds Try.pinned (OpenSpec.ofChange fnExactTracesFindWrong)

/-- 'laws.FnTracesFind': WHATEVER THE INPUT: true; the input reads as it did. -/
def fnTracesFindSpec : ChangeSpec := { name := "fnTracesFind", fn := fun _ => fun
  | [d] => { results := [.lit (.bool true)], args := [d] }
  | _ => none }
def fnTracesFindRow : OpenClaim := { program := "ytofieekbhbkliaa", sum := "3bf1a9012dc51b4a7e81f31e1d0c222b2801e81daa280a7b2547ff6fe2f71bf3", func := "loop.example/buildroads/laws.FnTracesFind", spec := "fnTracesFind", unfollowed := true, recurses := true, apart := false }
def FnTracesFindSaid : Prop := fnTracesFindRow.holds Try.pinned (OpenSpec.ofChange fnTracesFindSpec)

/-- ITS FALSE NEIGHBOUR: 'it returns false'. Refute it at one input. -/
def fnTracesFindWrong : ChangeSpec := { name := "fnTracesFind", fn := fun _ => fun
  | [d] => { results := [.lit (.bool false)], args := [d] }
  | _ => none }
def FnTracesFindWrongFalsely : Prop := fnTracesFindRow.holds Try.pinned (OpenSpec.ofChange fnTracesFindWrong)

/-- 'laws.FnExactSheetFixed': WHATEVER THE INPUT: true; the input reads as it did. -/
def fnExactSheetFixedSpec : ChangeSpec := { name := "fnExactSheetFixed", fn := fun _ => fun
  | [d] => { results := [.lit (.bool true)], args := [d] }
  | _ => none }
def fnExactSheetFixedRow : OpenClaim := { program := "ytofieekbhbkliaa", sum := "3bf1a9012dc51b4a7e81f31e1d0c222b2801e81daa280a7b2547ff6fe2f71bf3", func := "loop.example/buildroads/laws.FnExactSheetFixed", spec := "fnExactSheetFixed", unfollowed := true, recurses := true, loops := true, apart := false }
def FnExactSheetFixedSaid : Prop := fnExactSheetFixedRow.holds Try.pinned (OpenSpec.ofChange fnExactSheetFixedSpec)

/-- ITS FALSE NEIGHBOUR: 'it returns false'. Refute it at one input. -/
def fnExactSheetFixedWrong : ChangeSpec := { name := "fnExactSheetFixed", fn := fun _ => fun
  | [d] => { results := [.lit (.bool false)], args := [d] }
  | _ => none }
def FnExactSheetFixedWrongFalsely : Prop := fnExactSheetFixedRow.holds Try.pinned (OpenSpec.ofChange fnExactSheetFixedWrong)

/-- 'laws.FnExactStateStart': WHATEVER THE INPUT: true; the input reads as it did. -/
def fnExactStateStartSpec : ChangeSpec := { name := "fnExactStateStart", fn := fun _ => fun
  | [d] => { results := [.lit (.bool true)], args := [d] }
  | _ => none }
def fnExactStateStartRow : OpenClaim := { program := "ytofieekbhbkliaa", sum := "3bf1a9012dc51b4a7e81f31e1d0c222b2801e81daa280a7b2547ff6fe2f71bf3", func := "loop.example/buildroads/laws.FnExactStateStart", spec := "fnExactStateStart", recurses := true, loops := true, apart := false }
def FnExactStateStartSaid : Prop := fnExactStateStartRow.holds Try.pinned (OpenSpec.ofChange fnExactStateStartSpec)

/-- ITS FALSE NEIGHBOUR: 'it returns false'. Refute it at one input. -/
def fnExactStateStartWrong : ChangeSpec := { name := "fnExactStateStart", fn := fun _ => fun
  | [d] => { results := [.lit (.bool false)], args := [d] }
  | _ => none }
def FnExactStateStartWrongFalsely : Prop := fnExactStateStartRow.holds Try.pinned (OpenSpec.ofChange fnExactStateStartWrong)

/-- 'laws.FnExactStateOk': WHATEVER THE INPUT: true; the input reads as it did. -/
def fnExactStateOkSpec : ChangeSpec := { name := "fnExactStateOk", fn := fun _ => fun
  | [d1, d2] => { results := [.lit (.bool true)], args := [d1, d2] }
  | _ => none }
def fnExactStateOkRow : OpenClaim := { program := "ytofieekbhbkliaa", sum := "3bf1a9012dc51b4a7e81f31e1d0c222b2801e81daa280a7b2547ff6fe2f71bf3", func := "loop.example/buildroads/laws.FnExactStateOk", spec := "fnExactStateOk", unfollowed := true, recurses := true, loops := true, apart := false }
def FnExactStateOkSaid : Prop := fnExactStateOkRow.holds Try.pinned (OpenSpec.ofChange fnExactStateOkSpec)

/-- ITS FALSE NEIGHBOUR: 'it returns false'. Refute it at one input. -/
def fnExactStateOkWrong : ChangeSpec := { name := "fnExactStateOk", fn := fun _ => fun
  | [d1, d2] => { results := [.lit (.bool false)], args := [d1, d2] }
  | _ => none }
def FnExactStateOkWrongFalsely : Prop := fnExactStateOkRow.holds Try.pinned (OpenSpec.ofChange fnExactStateOkWrong)

/-- 'laws.FnExactSheetEdit': WHATEVER THE INPUT: true; the input reads as it did. -/
def fnExactSheetEditSpec : ChangeSpec := { name := "fnExactSheetEdit", fn := fun _ => fun
  | [d1, d2, d3] => { results := [.lit (.bool true)], args := [d1, d2, d3] }
  | _ => none }
def fnExactSheetEditRow : OpenClaim := { program := "ytofieekbhbkliaa", sum := "3bf1a9012dc51b4a7e81f31e1d0c222b2801e81daa280a7b2547ff6fe2f71bf3", func := "loop.example/buildroads/laws.FnExactSheetEdit", spec := "fnExactSheetEdit", recurses := true, loops := true, apart := false }
def FnExactSheetEditSaid : Prop := fnExactSheetEditRow.holds Try.pinned (OpenSpec.ofChange fnExactSheetEditSpec)

/-- ITS FALSE NEIGHBOUR: 'it returns false'. Refute it at one input. -/
def fnExactSheetEditWrong : ChangeSpec := { name := "fnExactSheetEdit", fn := fun _ => fun
  | [d1, d2, d3] => { results := [.lit (.bool false)], args := [d1, d2, d3] }
  | _ => none }
def FnExactSheetEditWrongFalsely : Prop := fnExactSheetEditRow.holds Try.pinned (OpenSpec.ofChange fnExactSheetEditWrong)

/-- 'laws.FnSheetEdit': WHATEVER THE INPUT: true; the input reads as it did. -/
def fnSheetEditSpec : ChangeSpec := { name := "fnSheetEdit", fn := fun _ => fun
  | [d] => { results := [.lit (.bool true)], args := [d] }
  | _ => none }
def fnSheetEditRow : OpenClaim := { program := "ytofieekbhbkliaa", sum := "3bf1a9012dc51b4a7e81f31e1d0c222b2801e81daa280a7b2547ff6fe2f71bf3", func := "loop.example/buildroads/laws.FnSheetEdit", spec := "fnSheetEdit", recurses := true, apart := false }
def FnSheetEditSaid : Prop := fnSheetEditRow.holds Try.pinned (OpenSpec.ofChange fnSheetEditSpec)

/-- ITS FALSE NEIGHBOUR: 'it returns false'. Refute it at one input. -/
def fnSheetEditWrong : ChangeSpec := { name := "fnSheetEdit", fn := fun _ => fun
  | [d] => { results := [.lit (.bool false)], args := [d] }
  | _ => none }
def FnSheetEditWrongFalsely : Prop := fnSheetEditRow.holds Try.pinned (OpenSpec.ofChange fnSheetEditWrong)

/- THE SECOND FORM. 'bulk': how many values and letters a reading holds, each counted each time it is reached (what is shared counts as often as it is met; a slice's spare places count too). A statement '..UptoSaid' is the law's where the arguments, and the package variables that the reading takes, are together of bulk at most 1048576: NARROWER than '..Said'. Prove '..Said' where nothing that the law and all that it calls make is longer than what came in: it says more and counts as full. Else prove '..UptoSaid'. A law counts once. -/
mutual
def uptoBulk {H : Type} : DataW H → Nat
  | .lit (.string bytes) => bytes.length + 1
  | .lit _ => 1
  | .nil => 1
  | .ptr d => uptoBulk d + 1
  | .slice elems spare => uptoBulkAll elems + uptoBulkAll spare + 1
  | .agg parts => uptoBulkAll parts + 1
  | .iface _ d => uptoBulk d + 1
  | .map entries => uptoBulkEntries entries + 1
  | .held _ => 1
def uptoBulkAll {H : Type} : List (DataW H) → Nat
  | [] => 0
  | d :: r => uptoBulk d + uptoBulkAll r
def uptoBulkEntries {H : Type} : List (Lit × DataW H) → Nat
  | [] => 0
  | x :: r => uptoBulkEntry x + uptoBulkEntries r
def uptoBulkEntry {H : Type} : Lit × DataW H → Nat
  | (.string bytes, d) => bytes.length + uptoBulk d + 1
  | (_, d) => uptoBulk d + 1
 end
def uptoSmall : (H : Type) → List (DataW H) → Bool := fun _ ds => decide (uptoBulkAll ds ≤ 1048576)
def OpenSpec.upto (s : _root_.Go.ChangeSpec) : _root_.Go.OpenSpec := { _root_.Go.OpenSpec.ofChange s with cond := some uptoSmall }

/-- 'laws.FnTracesOk', WHERE WHAT IT READS IS OF BULK AT MOST 1048576: true; the input reads as it did. -/
def fnTracesOkUptoRow : OpenClaim := { program := "ytofieekbhbkliaa", sum := "3bf1a9012dc51b4a7e81f31e1d0c222b2801e81daa280a7b2547ff6fe2f71bf3", func := "loop.example/buildroads/laws.FnTracesOk", spec := "fnTracesOk", unfollowed := true, recurses := true, apart := false, narrowed := true }
def FnTracesOkUptoSaid : Prop := fnTracesOkUptoRow.holds Try.pinned (OpenSpec.upto fnTracesOkSpec)

/-- 'laws.FnTraceHolds', WHERE WHAT IT READS IS OF BULK AT MOST 1048576: true; the input reads as it did. -/
def fnTraceHoldsUptoRow : OpenClaim := { program := "ytofieekbhbkliaa", sum := "3bf1a9012dc51b4a7e81f31e1d0c222b2801e81daa280a7b2547ff6fe2f71bf3", func := "loop.example/buildroads/laws.FnTraceHolds", spec := "fnTraceHolds", unfollowed := true, recurses := true, apart := false, narrowed := true }
def FnTraceHoldsUptoSaid : Prop := fnTraceHoldsUptoRow.holds Try.pinned (OpenSpec.upto fnTraceHoldsSpec)

/-- 'laws.FnExactTracesPut', WHERE WHAT IT READS IS OF BULK AT MOST 1048576: true; the input reads as it did. -/
def fnExactTracesPutUptoRow : OpenClaim := { program := "ytofieekbhbkliaa", sum := "3bf1a9012dc51b4a7e81f31e1d0c222b2801e81daa280a7b2547ff6fe2f71bf3", func := "loop.example/buildroads/laws.FnExactTracesPut", spec := "fnExactTracesPut", unfollowed := true, recurses := true, apart := false, narrowed := true }
def FnExactTracesPutUptoSaid : Prop := fnExactTracesPutUptoRow.holds Try.pinned (OpenSpec.upto fnExactTracesPutSpec)

/-- 'laws.FnTracesPut', WHERE WHAT IT READS IS OF BULK AT MOST 1048576: true; the input reads as it did. -/
def fnTracesPutUptoRow : OpenClaim := { program := "ytofieekbhbkliaa", sum := "3bf1a9012dc51b4a7e81f31e1d0c222b2801e81daa280a7b2547ff6fe2f71bf3", func := "loop.example/buildroads/laws.FnTracesPut", spec := "fnTracesPut", unfollowed := true, recurses := true, apart := false, narrowed := true }
def FnTracesPutUptoSaid : Prop := fnTracesPutUptoRow.holds Try.pinned (OpenSpec.upto fnTracesPutSpec)

/-- 'laws.FnExactTracesFind', WHERE WHAT IT READS IS OF BULK AT MOST 1048576: true; the input reads as it did. -/
def fnExactTracesFindUptoRow : OpenClaim := { program := "ytofieekbhbkliaa", sum := "3bf1a9012dc51b4a7e81f31e1d0c222b2801e81daa280a7b2547ff6fe2f71bf3", func := "loop.example/buildroads/laws.FnExactTracesFind", spec := "fnExactTracesFind", unfollowed := true, recurses := true, apart := false, narrowed := true }
def FnExactTracesFindUptoSaid : Prop := fnExactTracesFindUptoRow.holds Try.pinned (OpenSpec.upto fnExactTracesFindSpec)

/-- 'laws.FnTracesFind', WHERE WHAT IT READS IS OF BULK AT MOST 1048576: true; the input reads as it did. -/
def fnTracesFindUptoRow : OpenClaim := { program := "ytofieekbhbkliaa", sum := "3bf1a9012dc51b4a7e81f31e1d0c222b2801e81daa280a7b2547ff6fe2f71bf3", func := "loop.example/buildroads/laws.FnTracesFind", spec := "fnTracesFind", unfollowed := true, recurses := true, apart := false, narrowed := true }
def FnTracesFindUptoSaid : Prop := fnTracesFindUptoRow.holds Try.pinned (OpenSpec.upto fnTracesFindSpec)

/-- 'laws.FnExactSheetFixed', WHERE WHAT IT READS IS OF BULK AT MOST 1048576: true; the input reads as it did. -/
def fnExactSheetFixedUptoRow : OpenClaim := { program := "ytofieekbhbkliaa", sum := "3bf1a9012dc51b4a7e81f31e1d0c222b2801e81daa280a7b2547ff6fe2f71bf3", func := "loop.example/buildroads/laws.FnExactSheetFixed", spec := "fnExactSheetFixed", unfollowed := true, recurses := true, loops := true, apart := false, narrowed := true }
def FnExactSheetFixedUptoSaid : Prop := fnExactSheetFixedUptoRow.holds Try.pinned (OpenSpec.upto fnExactSheetFixedSpec)

/-- 'laws.FnExactStateStart', WHERE WHAT IT READS IS OF BULK AT MOST 1048576: true; the input reads as it did. -/
def fnExactStateStartUptoRow : OpenClaim := { program := "ytofieekbhbkliaa", sum := "3bf1a9012dc51b4a7e81f31e1d0c222b2801e81daa280a7b2547ff6fe2f71bf3", func := "loop.example/buildroads/laws.FnExactStateStart", spec := "fnExactStateStart", recurses := true, loops := true, apart := false, narrowed := true }
def FnExactStateStartUptoSaid : Prop := fnExactStateStartUptoRow.holds Try.pinned (OpenSpec.upto fnExactStateStartSpec)

/-- 'laws.FnExactStateOk', WHERE WHAT IT READS IS OF BULK AT MOST 1048576: true; the input reads as it did. -/
def fnExactStateOkUptoRow : OpenClaim := { program := "ytofieekbhbkliaa", sum := "3bf1a9012dc51b4a7e81f31e1d0c222b2801e81daa280a7b2547ff6fe2f71bf3", func := "loop.example/buildroads/laws.FnExactStateOk", spec := "fnExactStateOk", unfollowed := true, recurses := true, loops := true, apart := false, narrowed := true }
def FnExactStateOkUptoSaid : Prop := fnExactStateOkUptoRow.holds Try.pinned (OpenSpec.upto fnExactStateOkSpec)

/-- 'laws.FnExactSheetEdit', WHERE WHAT IT READS IS OF BULK AT MOST 1048576: true; the input reads as it did. -/
def fnExactSheetEditUptoRow : OpenClaim := { program := "ytofieekbhbkliaa", sum := "3bf1a9012dc51b4a7e81f31e1d0c222b2801e81daa280a7b2547ff6fe2f71bf3", func := "loop.example/buildroads/laws.FnExactSheetEdit", spec := "fnExactSheetEdit", recurses := true, loops := true, apart := false, narrowed := true }
def FnExactSheetEditUptoSaid : Prop := fnExactSheetEditUptoRow.holds Try.pinned (OpenSpec.upto fnExactSheetEditSpec)

/-- 'laws.FnSheetEdit', WHERE WHAT IT READS IS OF BULK AT MOST 1048576: true; the input reads as it did. -/
def fnSheetEditUptoRow : OpenClaim := { program := "ytofieekbhbkliaa", sum := "3bf1a9012dc51b4a7e81f31e1d0c222b2801e81daa280a7b2547ff6fe2f71bf3", func := "loop.example/buildroads/laws.FnSheetEdit", spec := "fnSheetEdit", recurses := true, apart := false, narrowed := true }
def FnSheetEditUptoSaid : Prop := fnSheetEditUptoRow.holds Try.pinned (OpenSpec.upto fnSheetEditSpec)

end Rows
end Go.Proofs.Ytofieekbhbkliaa
