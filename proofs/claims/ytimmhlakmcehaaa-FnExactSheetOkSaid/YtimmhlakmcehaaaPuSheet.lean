import Derived.Test.YtimmhlakmcehaaaG17
import Derived.Test.YtimmhlakmcehaaaG18
import Derived.Test.YtimmhlakmcehaaaPuLawTask
/- Plain facts on sheets. -/
namespace Go.Proofs.Ytimmhlakmcehaaa.G
open Go.RowKit Go.Proofs.YtimmhlakmcehaaaW.PrintWords
set_option linter.unusedVariables false
set_option linter.unusedSimpArgs false
def rowsOk : List Bool → List Tk → Bool
  | m :: ms, t :: ts => (okT t && (m || ((t.f0 == 0) && (t.f1 == 0)))) && rowsOk ms ts
  | _, _ => true
def sheetOk (made : List Bool) (tasks : List Tk) : Bool := (decide (made.length = tasks.length) && decide (made.length ≤ 10)) && rowsOk made tasks
theorem rd_bool (l : List Bool) (i : Nat) (h : i < l.length) : rdOf false l (i : Int) = l[i] := by
  simp only [rdOf, Int.toNat_natCast, List.getD_eq_getElem?_getD, List.getElem?_eq_getElem h, Option.getD_some]
theorem sheetOk_len {made : List Bool} {tasks : List Tk} (h : sheetOk made tasks = true) : made.length = tasks.length ∧ made.length ≤ 10 := by
  simp only [sheetOk, Bool.and_eq_true, decide_eq_true_eq] at h
  exact h.1
theorem rowsOk_at : ∀ {made : List Bool} {tasks : List Tk}, rowsOk made tasks = true → ∀ i (h1 : i < made.length) (h2 : i < tasks.length), okT tasks[i] = true ∧ (made[i] = false → tasks[i].f0 = 0 ∧ tasks[i].f1 = 0)
  | m :: ms, t :: ts, h, 0, _, _ => by
    simp only [rowsOk, Bool.and_eq_true, Bool.or_eq_true, beq_iff_eq] at h
    refine ⟨h.1.1, fun hm => ?_⟩
    simp only [List.getElem_cons_zero] at hm ⊢
    rcases h.1.2 with h2 | h2
    · rw [hm] at h2; cases h2
    · exact h2
  | m :: ms, t :: ts, h, i + 1, h1, h2 => by
    simp only [rowsOk, Bool.and_eq_true] at h
    simp only [List.getElem_cons_succ]
    exact rowsOk_at h.2 i (by simpa using h1) (by simpa using h2)
  | [], _, _, i, h1, _ => by simp at h1
  | _ :: _, [], _, i, _, h2 => by simp at h2
theorem sheetOk_at {made : List Bool} {tasks : List Tk} (h : sheetOk made tasks = true) : ∀ i (h1 : i < made.length) (h2 : i < tasks.length), okT tasks[i] = true ∧ (made[i] = false → tasks[i].f0 = 0 ∧ tasks[i].f1 = 0) := by
  simp only [sheetOk, Bool.and_eq_true] at h
  exact rowsOk_at h.2
theorem sheetOk_mem {made : List Bool} {tasks : List Tk} (h : sheetOk made tasks = true) : ∀ t ∈ tasks, okT t = true := by
  intro t ht
  obtain ⟨i, hi, rfl⟩ := List.mem_iff_getElem.1 ht
  exact (sheetOk_at h i (by have := sheetOk_len h; omega) hi).1
theorem implSheet_loop (made : List Bool) (tasks : List Tk) (he : made.length = tasks.length) (hl : made.length ≤ 10) :
    ∀ (d i : Nat), d = tasks.length - i → i ≤ tasks.length → Ev (fun k => impl_SheetOk.l0 k tasks (tasks.length : Int) (i : Int) made tasks) (rowsOk (made.drop i) (tasks.drop i)) := by
  intro d
  induction d with
  | zero =>
    intro i hd hi
    have e : i = tasks.length := by omega
    subst e
    refine Ev.step (fun k => by rw [impl_SheetOk.l0]) ?_
    simp only [if_neg (show ¬ ((tasks.length : Int) < (tasks.length : Int)) by omega), List.drop_length]
    exact Ev.eq (Ev.now true) (by unfold rowsOk; split <;> simp_all)
  | succ d ihd =>
    intro i hd hi
    have hlt : i < tasks.length := by omega
    have hlm : i < made.length := by omega
    rw [drop_tk made i hlm, drop_tk tasks i hlt, rowsOk]
    refine Ev.step (fun k => by rw [impl_SheetOk.l0]) ?_
    simp only [if_pos (show (i : Int) < (tasks.length : Int) by omega), if_pos (show (0 : Int) ≤ (i : Int) by omega), if_pos (show (i : Int) < (made.length : Int) by omega), rd_tk tasks i hlt, rd_bool made i hlm]
    refine Ev.bind (implOk_ev _) ?_
    have hn := ihd (i + 1) (by omega) (by omega)
    cases h : okT tasks[i] with
    | false =>
      simp only [Bool.false_eq_true, if_false, Bool.false_and]
      exact Ev.now false
    | true =>
      cases hm : made[i] with
      | true =>
        simp only [if_true, Bool.true_and, Bool.true_or, wrap_nat i (by omega)]
        exact hn
      | false =>
        simp only [if_true, Bool.true_and, Bool.false_or, Bool.false_eq_true, if_false, wrap_nat i (by omega)]
        by_cases h0 : tasks[i].f0 = 0
        · by_cases h1 : tasks[i].f1 = 0
          · simp only [h0, h1, if_true, beq_self_eq_true, Bool.true_and]
            exact hn
          · simp only [h0, h1, if_true, if_false, beq_self_eq_true, beq_eq_false_iff_ne.mpr h1, Bool.true_and, Bool.and_false, Bool.false_and]
            exact Ev.now false
        · simp only [h0, if_false, beq_eq_false_iff_ne.mpr h0, Bool.false_and]
          exact Ev.now false
theorem implSheet_ev (made : List Bool) (tasks : List Tk) : Ev (fun k => impl_SheetOk.f k made tasks) (sheetOk made tasks) := by
  unfold impl_SheetOk.f
  by_cases he : made.length = tasks.length
  · simp only [if_pos (show (made.length : Int) = (tasks.length : Int) by omega)]
    refine Ev.step (fun k => by rw [impl_SheetOk.j0]) ?_
    by_cases hl : made.length ≤ 10
    · simp only [decide_eq_false (show ¬ ((made.length : Int) > 10) by omega), Bool.false_eq_true, if_false]
      refine Ev.eq (implSheet_loop made tasks he hl tasks.length 0 (by omega) (by omega)) ?_
      rw [List.drop_zero, List.drop_zero, sheetOk, decide_eq_true he, decide_eq_true hl]
      simp
    · simp only [decide_eq_true (show ((made.length : Int) > 10) by omega), if_true]
      exact Ev.eq (Ev.now false) (by rw [sheetOk, decide_eq_false hl]; simp)
  · simp only [if_neg (show ¬ ((made.length : Int) = (tasks.length : Int)) by omega)]
    refine Ev.step (fun k => by rw [impl_SheetOk.j0]) ?_
    simp only [if_true]
    exact Ev.eq (Ev.now false) (by rw [sheetOk, decide_eq_false he]; simp)
theorem specSheet_loop (made : List Bool) (tasks : List Tk) (he : made.length = tasks.length) (hl : made.length ≤ 10) (hb : ∀ t ∈ tasks, (nodT t : Int) ≤ 4000000000) :
    ∀ (d i : Nat), d = made.length - i → i ≤ made.length → Ev (fun k => spec_SheetOk.l0 k (i : Int) made tasks) (rowsOk (made.drop i) (tasks.drop i)) := by
  intro d
  induction d with
  | zero =>
    intro i hd hi
    have e : i = made.length := by omega
    subst e
    refine Ev.step (fun k => by rw [spec_SheetOk.l0]) ?_
    simp only [if_neg (show ¬ ((made.length : Int) < (made.length : Int)) by omega), List.drop_length]
    exact Ev.eq (Ev.now true) (by unfold rowsOk; rfl)
  | succ d ihd =>
    intro i hd hi
    have hlt : i < tasks.length := by omega
    have hlm : i < made.length := by omega
    rw [drop_tk made i hlm, drop_tk tasks i hlt, rowsOk]
    refine Ev.step (fun k => by rw [spec_SheetOk.l0]) ?_
    simp only [if_pos (show (i : Int) < (tasks.length : Int) by omega), if_pos (show (0 : Int) ≤ (i : Int) by omega), if_pos (show (i : Int) < (made.length : Int) by omega), rd_tk tasks i hlt, rd_bool made i hlm]
    refine Ev.bind (specOk_ev _ (hb _ (List.getElem_mem hlt))) ?_
    have hn := ihd (i + 1) (by omega) (by omega)
    cases h : okT tasks[i] with
    | false =>
      simp only [Bool.false_eq_true, if_false, Bool.false_and]
      exact Ev.now false
    | true =>
      cases hm : made[i] with
      | true =>
        simp only [if_true, Bool.true_and, Bool.true_or, wrap_nat i (by omega)]
        exact hn
      | false =>
        simp only [if_true, Bool.true_and, Bool.false_or, Bool.false_eq_true, if_false, wrap_nat i (by omega)]
        by_cases h0 : tasks[i].f0 = 0
        · by_cases h1 : tasks[i].f1 = 0
          · simp only [h0, h1, if_true, beq_self_eq_true, Bool.true_and]
            exact hn
          · simp only [h0, h1, if_true, if_false, beq_self_eq_true, beq_eq_false_iff_ne.mpr h1, Bool.true_and, Bool.and_false, Bool.false_and]
            exact Ev.now false
        · simp only [h0, if_false, beq_eq_false_iff_ne.mpr h0, Bool.false_and]
          exact Ev.now false
theorem specSheet_ev (made : List Bool) (tasks : List Tk) (hb : ∀ t ∈ tasks, (nodT t : Int) ≤ 4000000000) : Ev (fun k => spec_SheetOk.f k made tasks) (sheetOk made tasks) := by
  unfold spec_SheetOk.f
  by_cases he : made.length = tasks.length
  · simp only [if_pos (show (made.length : Int) = (tasks.length : Int) by omega)]
    refine Ev.step (fun k => by rw [spec_SheetOk.j0]) ?_
    by_cases hl : made.length ≤ 10
    · simp only [decide_eq_false (show ¬ ((made.length : Int) > 10) by omega), Bool.false_eq_true, if_false]
      refine Ev.eq (specSheet_loop made tasks he hl hb made.length 0 (by omega) (by omega)) ?_
      rw [List.drop_zero, List.drop_zero, sheetOk, decide_eq_true he, decide_eq_true hl]
      simp
    · simp only [decide_eq_true (show ((made.length : Int) > 10) by omega), if_true]
      exact Ev.eq (Ev.now false) (by rw [sheetOk, decide_eq_false hl]; simp)
  · simp only [if_neg (show ¬ ((made.length : Int) = (tasks.length : Int)) by omega)]
    refine Ev.step (fun k => by rw [spec_SheetOk.j0]) ?_
    simp only [if_true]
    exact Ev.eq (Ev.now false) (by rw [sheetOk, decide_eq_false he]; simp)

/-! what the laws do with sheets -/
theorem szB_ev (l : List Bool) (hlen : l.length ≤ 9223372036854775807) (left : Int) (h0 : 0 ≤ left) (h1 : left ≤ 1048576) : laws_szBoolS.f l left = some (leftOf l.length left) := by
  unfold laws_szBoolS.f
  rw [wrap_id (left - (l.length : Int)) (by omega) (by omega)]
  by_cases hc : (l.length : Int) ≤ left
  · rw [if_neg (by omega), leftOf_yes hc]
  · rw [if_pos (by omega), leftOf_no hc]
/-- How much room a sheet takes. -/
def szSh (made : List Bool) (tasks : List Lk) : Nat := made.length + (tasks.length + szC tasks)
theorem szSheet_ev (made : List Bool) (tasks : List Lk) (hm : made.length ≤ 9223372036854775807) (hlen : tasks.length ≤ 9223372036854775807) (hbd : bdL tasks) (left : Int) (h0 : 0 ≤ left) (h1 : left ≤ 1048576) :
    Ev (fun k => laws_szSheet.f k made tasks left) (leftOf (szSh made tasks) left) := by
  unfold laws_szSheet.f
  simp only [szB_ev made hm left h0 h1, Option.bind_some]
  unfold szSh
  by_cases hc : (made.length : Int) ≤ left
  · rw [leftOf_yes hc]
    simp only [if_neg (show ¬ (left - (made.length : Int) < 0) by omega)]
    refine Ev.bind (szL_ev tasks hlen hbd (left - made.length) (by omega) (by omega)) ?_
    rw [leftOf_add hc]
    by_cases hn : leftOf (made.length + (tasks.length + szC tasks)) left < 0
    · simp only [if_pos hn]
      rw [leftOf_no ((leftOf_neg h0).1 hn)]
      exact Ev.now _
    · simp only [if_neg hn]
      exact Ev.now _
  · rw [leftOf_no hc]
    simp only [if_pos (show (-1 : Int) < 0 by omega)]
    exact Ev.eq (Ev.now (-1)) (leftOf_no (by omega)).symm
theorem toB_ev (l : List Bool) (hb : l.length ≤ 1048576) : Ev (fun k => laws_toBoolS.f k l) l := by
  have loop : ∀ (d i : Nat), d = l.length - i → i ≤ l.length → Ev (fun k => laws_toBoolS.l0 k l (l.take i ++ List.replicate (l.length - i) false) (i : Int)) l := by
    intro d
    induction d with
    | zero =>
      intro i hd hi
      have e : i = l.length := by omega
      subst e
      refine Ev.step (fun k => by rw [laws_toBoolS.l0]) ?_
      simp only [if_neg (show ¬ ((l.length : Int) < (l.length : Int)) by omega), Nat.sub_self, List.replicate_zero, List.append_nil, List.take_length]
      exact Ev.now _
    | succ d ihd =>
      intro i hd hi
      have hlt : i < l.length := by omega
      have hl : (l.take i ++ List.replicate (l.length - i) false).length = l.length := by simp; omega
      refine Ev.step (fun k => by rw [laws_toBoolS.l0]) ?_
      simp only [if_pos (show (i : Int) < (l.length : Int) by omega), if_pos (show (0 : Int) ≤ (i : Int) by omega), rd_bool l i hlt, hl]
      simp only [wrap_nat i (by omega), Int.toNat_natCast]
      have e : (l.take i ++ List.replicate (l.length - i) false).set i l[i] = l.take (i + 1) ++ List.replicate (l.length - (i + 1)) false := by
        rw [List.set_append_right _ _ (by rw [List.length_take]; omega), List.length_take, Nat.min_eq_left (by omega), Nat.sub_self]
        rw [show l.length - i = (l.length - (i + 1)) + 1 by omega, List.replicate_succ, List.set_cons_zero, List.take_succ_eq_append_getElem hlt, List.append_assoc, List.singleton_append]
      rw [e]
      exact ihd (i + 1) (by omega) (by omega)
  unfold laws_toBoolS.f
  simp only [if_pos (show (0 : Int) ≤ (l.length : Int) by omega), Int.toNat_natCast, if_pos (show l.length ≤ 281474976710656 by omega)]
  have h := loop l.length 0 (by omega) (by omega)
  simp only [List.take_zero, List.nil_append, Nat.sub_zero, Int.natCast_zero, Int.ofNat_zero] at h
  exact h
theorem toSheet_ev (made : List Bool) (tasks : List Lk) (hb : szSh made tasks ≤ 1048576) : Ev (fun k => laws_toSheet.f k made tasks) (made, cvL tasks) := by
  unfold szSh at hb
  unfold laws_toSheet.f
  refine Ev.bind (toB_ev made (by omega)) ?_
  refine Ev.bind (toL_ev tasks (by omega)) ?_
  exact Ev.now _
theorem eqB_ev (l : List Bool) (hb : l.length ≤ 4000000000) : Ev (fun k => laws_eqBoolS.f k l l) true := by
  have loop : ∀ (d i : Nat), d = l.length - i → i ≤ l.length → Ev (fun k => laws_eqBoolS.l0 k l l (i : Int)) true := by
    intro d
    induction d with
    | zero =>
      intro i hd hi
      have e : i = l.length := by omega
      subst e
      refine Ev.step (fun k => by rw [laws_eqBoolS.l0]) ?_
      simp only [if_neg (show ¬ ((l.length : Int) < (l.length : Int)) by omega)]
      exact Ev.now true
    | succ d ihd =>
      intro i hd hi
      have hlt : i < l.length := by omega
      refine Ev.step (fun k => by rw [laws_eqBoolS.l0]) ?_
      simp only [if_pos (show (i : Int) < (l.length : Int) by omega), if_pos (show (0 : Int) ≤ (i : Int) by omega), bne_self_eq_false, Bool.false_eq_true, if_false, wrap_nat i (by omega)]
      exact ihd (i + 1) (by omega) (by omega)
  unfold laws_eqBoolS.f
  simp only [if_true]
  exact loop l.length 0 (by omega) (by omega)
theorem eqSheet_ev (made : List Bool) (tasks : List Tk) (hm : made.length ≤ 4000000000) (hb : nodL tasks ≤ 4000000000) : Ev (fun k => laws_eqSheet.f k made tasks made tasks) true := by
  unfold laws_eqSheet.f
  refine Ev.bind (eqB_ev made hm) ?_
  simp only [if_true]
  refine Ev.bind (eqL_ev tasks hb) ?_
  simp only [if_true]
  exact Ev.now true
theorem nod_le_of_szSh {made : List Bool} {tasks : List Lk} (hb : szSh made tasks ≤ 1048576) : nodL (cvL tasks) ≤ 1048576 := by
  unfold szSh at hb
  rw [nodL_cv]
  omega
theorem nod_mem_of_szSh {made : List Bool} {tasks : List Lk} (hb : szSh made tasks ≤ 1048576) : ∀ t ∈ cvL tasks, (nodT t : Int) ≤ 4000000000 := by
  intro t ht
  have h1 := nod_le_of_szSh hb
  have h2 := nodL_mem t ht
  omega
end Go.Proofs.Ytimmhlakmcehaaa.G
