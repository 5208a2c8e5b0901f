import Derived.Test.YtimmhlakmcehaaaG7
import Derived.Test.YtimmhlakmcehaaaPuLawTask
import Derived.Test.YtimmhlakmcehaaaPuFixed
/- The law FnExactTaskFixed, plainly: it answers true. -/
namespace Go.Proofs.Ytimmhlakmcehaaa.G
open Go.RowKit Go.Proofs.YtimmhlakmcehaaaW.PrintWords
set_option linter.unusedVariables false
set_option linter.unusedSimpArgs false
theorem ev_TaskFixed (t : Lk) (hb : bdT t) : Ev (fun k => laws_FnExactTaskFixed.f k t.f0 t.f1 t.f2) true := by
  unfold laws_FnExactTaskFixed.f
  refine Ev.bind (sz_ev t hb 1048576 (by omega) (by omega)) ?_
  by_cases hc : ((szT t : Nat) : Int) ≤ 1048576
  · rw [leftOf_yes hc]
    simp only [if_neg (show ¬ ((1048576 : Int) - (szT t : Int) < 0) by omega)]
    have hto := to_ev t (by omega)
    have hn : nodT (⟨t.f0, t.f1, cvL t.f2⟩ : Tk) ≤ 4000000000 := by rw [← cvT_eq, nod_cv]; omega
    refine Ev.bind hto ?_
    refine Ev.bind (specFixed_ev ⟨t.f0, t.f1, cvL t.f2⟩ (by omega)) ?_
    refine Ev.bind hto ?_
    refine Ev.bind (implFixed_ev ⟨t.f0, t.f1, cvL t.f2⟩ (by omega)) ?_
    simp only [bne_self_eq_false, Bool.false_eq_true, if_false]
    refine Ev.bind hto ?_
    refine Ev.bind (eqT_ev ⟨t.f0, t.f1, cvL t.f2⟩ hn) ?_
    simp only [if_true]
    exact Ev.now true
  · rw [leftOf_no hc]
    simp only [if_pos (show (-1 : Int) < 0 by omega)]
    exact Ev.now true
theorem pure_FnExactTaskFixed (a0 : Int) (w0 : (Lit.int .i64 a0).wf = true) (a1 : Int) (w1 : (Lit.int .i64 a1).wf = true) (l : List Lk) (hb : l.length ≤ 9223372036854775807 ∧ ∀ x ∈ l, bdT x) : ∃ k, laws_FnExactTaskFixed.f k a0 a1 l = some true :=
  Ev.rounds (ev_TaskFixed ⟨a0, a1, l⟩ (by rw [bdT_eq]; exact ⟨hb.1, bdL_of hb.2⟩))
end Go.Proofs.Ytimmhlakmcehaaa.G
