/- The law FnExactConstants: it answers true. No condition. -/
import Derived.Test.YtimmhlakmcehaaaG1
namespace Go.Proofs.Ytimmhlakmcehaaa.Pure
open Go.RowKit Go.Proofs.Ytimmhlakmcehaaa.G Go.Proofs.YtimmhlakmcehaaaW.PrintWords Go.Proofs.YtimmhlakmcehaaaW.PrintLast

/-- YOURS: laws_FnExactConstants.f  = some true
What it reaches (each with k first where it has rounds; `.mono`: more rounds tell the same; `.l0`, ..: its loops, with `.mono_l`): laws_FnExactConstants.f -/
theorem FnExactConstants : laws_FnExactConstants.Pure := by
  rfl

end Go.Proofs.Ytimmhlakmcehaaa.Pure
