import Derived.Test.YtimmhlakmcehaaaG6
import Derived.Test.YtimmhlakmcehaaaPuTaskB
/- Plain facts on fixed tasks. -/
namespace Go.Proofs.Ytimmhlakmcehaaa.G
open Go.RowKit Go.Proofs.YtimmhlakmcehaaaW.PrintWords
set_option linter.unusedVariables false
set_option linter.unusedSimpArgs false
mutual
def fixT : Tk → Bool
  | ⟨k, _, ps⟩ => (k != 4 && k != 5) && fixL ps
def fixL : List Tk → Bool
  | [] => true
  | p :: ps => fixT p && fixL ps
end
theorem fixT_eq (t : Tk) : fixT t = ((t.f0 != 4 && t.f0 != 5) && fixL t.f2) := by cases t; simp [fixT]
theorem l1Fixed_loop (a b : Int) (ps : List Tk) (hlen : ps.length ≤ 4000000000) (ih : ∀ p ∈ ps, Ev (fun k => spec_l1Fixed.f k p.f0 p.f1 p.f2) (fixT p)) :
    ∀ (d i : Nat), d = ps.length - i → i ≤ ps.length → Ev (fun k => spec_l1Fixed.l0 k (i : Int) a b ps) (fixL (ps.drop i) && (a != 4 && a != 5)) := by
  intro d
  induction d with
  | zero =>
    intro i hd hi
    have e : i = ps.length := by omega
    subst e
    refine Ev.step (fun k => by rw [spec_l1Fixed.l0]) ?_
    simp only [if_neg (show ¬ ((ps.length : Int) < (ps.length : Int)) by omega), List.drop_length, fixL, Bool.true_and]
    by_cases h4 : a = 4
    · simp only [if_pos h4]
      exact Ev.eq (Ev.now false) (by simp [h4])
    · simp only [if_neg h4]
      exact Ev.eq (Ev.now _) (by simp [h4])
  | succ d ihd =>
    intro i hd hi
    have hlt : i < ps.length := by omega
    have hrd := rd_tk ps i hlt
    have hmem : ps[i] ∈ ps := List.getElem_mem hlt
    rw [drop_tk ps i hlt]
    refine Ev.step (fun k => by rw [spec_l1Fixed.l0]) ?_
    simp only [if_pos (show (i : Int) < (ps.length : Int) by omega), if_pos (show (0 : Int) ≤ (i : Int) by omega), hrd]
    refine Ev.bind (ih _ hmem) ?_
    rw [fixL]
    cases h : fixT ps[i] with
    | true =>
      simp only [if_true, Bool.true_and, wrap_nat i (by omega)]
      exact ihd (i + 1) (by omega) (by omega)
    | false =>
      simp only [Bool.false_eq_true, if_false, Bool.false_and]
      exact Ev.now false
theorem l1Fixed_ev : ∀ t : Tk, (nodT t : Int) ≤ 4000000000 → Ev (fun k => spec_l1Fixed.f k t.f0 t.f1 t.f2) (fixT t) := by
  refine tk_ind fun t ih hb => ?_
  rw [nodT_eq] at hb
  have hl := nodL_len t.f2
  refine Ev.step (fun k => by rw [spec_l1Fixed.f]) ?_
  refine Ev.eq (l1Fixed_loop t.f0 t.f1 t.f2 (by omega) (fun p hp => ih p hp (by have := nodL_mem p hp; omega)) t.f2.length 0 (by omega) (by omega)) ?_
  rw [List.drop_zero, fixT_eq, Bool.and_comm]
theorem implFixed_loop (ps : List Tk) (hlen : ps.length ≤ 4000000000) (ih : ∀ p ∈ ps, Ev (fun k => impl_Task_fixed.f k p.f0 p.f1 p.f2) (fixT p)) :
    ∀ (d i : Nat), d = ps.length - i → i ≤ ps.length → Ev (fun k => impl_Task_fixed.l0 k ps (ps.length : Int) (i : Int)) (fixL (ps.drop i)) := by
  intro d
  induction d with
  | zero =>
    intro i hd hi
    have e : i = ps.length := by omega
    subst e
    refine Ev.step (fun k => by rw [impl_Task_fixed.l0]) ?_
    simp only [if_neg (show ¬ ((ps.length : Int) < (ps.length : Int)) by omega), List.drop_length, fixL]
    exact Ev.now true
  | succ d ihd =>
    intro i hd hi
    have hlt : i < ps.length := by omega
    have hrd := rd_tk ps i hlt
    have hmem : ps[i] ∈ ps := List.getElem_mem hlt
    rw [drop_tk ps i hlt]
    refine Ev.step (fun k => by rw [impl_Task_fixed.l0]) ?_
    simp only [if_pos (show (i : Int) < (ps.length : Int) by omega), if_pos (show (0 : Int) ≤ (i : Int) by omega), hrd]
    refine Ev.bind (ih _ hmem) ?_
    rw [fixL]
    cases h : fixT ps[i] with
    | true =>
      simp only [if_true, Bool.true_and, wrap_nat i (by omega)]
      exact ihd (i + 1) (by omega) (by omega)
    | false =>
      simp only [Bool.false_eq_true, if_false, Bool.false_and]
      exact Ev.now false
theorem implFixedT_ev : ∀ t : Tk, (nodT t : Int) ≤ 4000000000 → Ev (fun k => impl_Task_fixed.f k t.f0 t.f1 t.f2) (fixT t) := by
  refine tk_ind fun t ih hb => ?_
  rw [nodT_eq] at hb
  have hl := nodL_len t.f2
  refine Ev.step (fun k => by rw [impl_Task_fixed.f]) ?_
  rw [fixT_eq]
  by_cases h4 : t.f0 = 4
  · simp only [if_pos h4]
    refine Ev.step (fun k => by rw [impl_Task_fixed.j0]) ?_
    simp only [if_true]
    exact Ev.eq (Ev.now false) (by simp [h4])
  · simp only [if_neg h4]
    refine Ev.step (fun k => by rw [impl_Task_fixed.j0]) ?_
    by_cases h5 : t.f0 = 5
    · simp only [h5, show ((5 : Int) == 5) = true by decide, if_true]
      exact Ev.eq (Ev.now false) (by simp)
    · have h5b : (t.f0 == 5) = false := beq_eq_false_iff_ne.mpr h5
      simp only [h5b, Bool.false_eq_true, if_false]
      refine Ev.eq (implFixed_loop t.f2 (by omega) (fun p hp => ih p hp (by have := nodL_mem p hp; omega)) t.f2.length 0 (by omega) (by omega)) ?_
      rw [List.drop_zero]
      simp [h4, h5]
theorem specFixed_ev (t : Tk) (hb : (nodT t : Int) ≤ 4000000000) : Ev (fun k => spec_TaskFixed.f k t.f0 t.f1 t.f2) (okT t && fixT t) := by
  unfold spec_TaskFixed.f
  refine Ev.bind (specOk_ev t hb) ?_
  cases h : okT t with
  | true =>
    simp only [if_true, Bool.true_and]
    exact Ev.bind (l1Fixed_ev t hb) (Ev.now _)
  | false =>
    simp only [Bool.false_eq_true, if_false, Bool.false_and]
    exact Ev.now _
theorem implFixed_ev (t : Tk) (hb : (nodT t : Int) ≤ 4000000000) : Ev (fun k => impl_TaskFixed.f k t.f0 t.f1 t.f2) (okT t && fixT t) := by
  unfold impl_TaskFixed.f
  refine Ev.bind (implOk_ev t) ?_
  cases h : okT t with
  | true =>
    simp only [if_true, Bool.true_and]
    exact Ev.bind (implFixedT_ev t hb) (Ev.now _)
  | false =>
    simp only [Bool.false_eq_true, if_false, Bool.false_and]
    exact Ev.now _
end Go.Proofs.Ytimmhlakmcehaaa.G
