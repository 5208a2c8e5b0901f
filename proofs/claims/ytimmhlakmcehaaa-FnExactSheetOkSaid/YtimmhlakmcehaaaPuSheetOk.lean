import Derived.Test.YtimmhlakmcehaaaG19
import Derived.Test.YtimmhlakmcehaaaPuSheet
/- The law FnExactSheetOk, plainly: it answers true. -/
namespace Go.Proofs.Ytimmhlakmcehaaa.G
open Go.RowKit Go.Proofs.YtimmhlakmcehaaaW.PrintWords
set_option linter.unusedVariables false
set_option linter.unusedSimpArgs false
theorem pure_FnExactSheetOk (made : List Bool) (hm : made.length ≤ 9223372036854775807 ∧ ∀ x ∈ made, True) (tasks : List Lk) (hb : tasks.length ≤ 9223372036854775807 ∧ ∀ x ∈ tasks, bdT x) : ∃ k, laws_FnExactSheetOk.f k made tasks = some true := by
  refine Ev.rounds ?_
  unfold laws_FnExactSheetOk.f
  refine Ev.bind (szSheet_ev made tasks hm.1 hb.1 (bdL_of hb.2) 1048576 (by omega) (by omega)) ?_
  by_cases hc : ((szSh made tasks : Nat) : Int) ≤ 1048576
  · rw [leftOf_yes hc]
    simp only [if_neg (show ¬ ((1048576 : Int) - (szSh made tasks : Int) < 0) by omega)]
    have hs : szSh made tasks ≤ 1048576 := by omega
    have hml : made.length ≤ 1048576 := by unfold szSh at hs; omega
    have hto := toSheet_ev made tasks hs
    have hnl : nodL (cvL tasks) ≤ 1048576 := nod_le_of_szSh hs
    refine Ev.bind hto ?_
    refine Ev.bind (specSheet_ev made (cvL tasks) (nod_mem_of_szSh hs)) ?_
    refine Ev.bind hto ?_
    refine Ev.bind (implSheet_ev made (cvL tasks)) ?_
    simp only [bne_self_eq_false, Bool.false_eq_true, if_false]
    refine Ev.bind hto ?_
    refine Ev.bind (eqSheet_ev made (cvL tasks) (by omega) (by omega)) ?_
    simp only [if_true]
    exact Ev.now true
  · rw [leftOf_no hc]
    simp only [if_pos (show (-1 : Int) < 0 by omega)]
    exact Ev.now true
end Go.Proofs.Ytimmhlakmcehaaa.G
