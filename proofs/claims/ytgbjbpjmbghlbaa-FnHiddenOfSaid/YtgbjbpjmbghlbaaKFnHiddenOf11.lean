-- Written by pack.py (ours): the claim's texts, cut down to what its theorem reaches.
import Derived.Test.YtgbjbpjmbghlbaaKFnHiddenOf10
section
namespace Go.Proofs.Ytgbjbpjmbghlbaa.G
open Go.RowKit Go.Proofs.YtgbjbpjmbghlbaaW.PrintWords
set_option linter.unusedVariables false
set_option linter.unusedSimpArgs false
theorem rd_intU (l : List Int) (i : Nat) (h : i < l.length) : rd l (i : Int) = l[i] := by
  simp only [rd, Int.toNat_natCast, List.getD_eq_getElem?_getD, List.getElem?_eq_getElem h, Option.getD_some]
theorem l2Has_loop (l : List Int) (n : Int) (hl : l.length ≤ 4000000000) : ∀ (d i : Nat), d = l.length - i → i ≤ l.length → Ev (fun k => spec_l2Has.l0 k l n (i : Int)) (decide (n ∈ l.drop i)) := by
  intro d
  induction d with
  | zero =>
    intro i hd hi
    have e : i = l.length := by omega
    subst e
    refine Ev.step (fun k => by rw [spec_l2Has.l0]) ?_
    simp only [if_neg (show ¬ ((l.length : Int) < (l.length : Int)) by omega), List.drop_length]
    exact Ev.eq (Ev.now _) (by simp)
  | succ d ih =>
    intro i hd hi
    have hlt : i < l.length := by omega
    have h := ih (i + 1) (by omega) (by omega)
    refine Ev.step (fun k => by rw [spec_l2Has.l0]) ?_
    simp only [if_pos (show (i : Int) < (l.length : Int) by omega), if_pos (show (0 : Int) ≤ (i : Int) by omega), rd_intU l i hlt, wrap_nat i (by omega)]
    rw [drop_tk l i hlt]
    by_cases e : l[i] = n
    · simp only [if_pos e]
      exact Ev.eq (Ev.now _) (by simp [e])
    · simp only [if_neg e]
      refine Ev.eq h ?_
      have : ¬ n = l[i] := fun h => e h.symm
      simp only [List.mem_cons, this, false_or]
theorem l2Has_ev (l : List Int) (n : Int) (hl : l.length ≤ 4000000000) : Ev (fun k => spec_l2Has.f k l n) (decide (n ∈ l)) := by
  unfold spec_l2Has.f
  have h := l2Has_loop l n hl l.length 0 (by omega) (by omega)
  simpa using h
theorem l2Uses_loop (l : List Fk) (hl : l.length ≤ 1000000) : ∀ (d i : Nat), d = l.length - i → i ≤ l.length → Ev (fun k => spec_l2Uses.l0 k l (((l.take i).foldl onceF []).map (·.f0)) (i : Int)) ((onceL l).map (·.f0)) := by
  intro d
  induction d with
  | zero =>
    intro i hd hi
    have e : i = l.length := by omega
    subst e
    refine Ev.step (fun k => by rw [spec_l2Uses.l0]) ?_
    simp only [if_neg (show ¬ ((l.length : Int) < (l.length : Int)) by omega), List.take_length]
    exact Ev.now _
  | succ d ih =>
    intro i hd hi
    have hlt : i < l.length := by omega
    have h := ih (i + 1) (by omega) (by omega)
    rw [onceL_take l i hlt] at h
    have hol := onceL_len l i (by omega)
    generalize (l.take i).foldl onceF [] = out at h hol ⊢
    refine Ev.step (fun k => by rw [spec_l2Uses.l0]) ?_
    simp only [if_pos (show (i : Int) < (l.length : Int) by omega), if_pos (show (0 : Int) ≤ (i : Int) by omega), rd_fkf l i hlt, wrap_nat i (by omega)]
    refine Ev.bind (l2Has_ev _ _ (by rw [List.length_map]; omega)) ?_
    have hiff : (out.any fun g => g.f0 == l[i].f0) = decide (l[i].f0 ∈ out.map (·.f0)) := by
      rw [Bool.eq_iff_iff, List.any_eq_true, decide_eq_true_eq, List.mem_map]
      constructor
      · rintro ⟨g, hg, he⟩; exact ⟨g, hg, by simpa using he⟩
      · rintro ⟨g, hg, he⟩; exact ⟨g, hg, by simpa using he⟩
    unfold onceF at h
    rw [hiff] at h
    by_cases hm : l[i].f0 ∈ out.map (·.f0)
    · simp only [decide_eq_true hm, if_true] at h ⊢
      exact h
    · simp only [decide_eq_false hm, Bool.false_eq_true, if_false] at h ⊢
      simp only [if_pos (show (out.map (·.f0)).length < 17592186044416 by rw [List.length_map]; omega)]
      rw [List.map_append, List.map_singleton] at h
      exact h
theorem l2Uses_ev (l : List Fk) (hl : l.length ≤ 1000000) : Ev (fun k => spec_l2Uses.f k l) ((onceL l).map (·.f0)) := by
  unfold spec_l2Uses.f
  have h := l2Uses_loop l hl l.length 0 (by omega) (by omega)
  simpa using h
theorem specFetU_ev (t : Tk) (hb : (nodT t : Int) ≤ 4000000000) (vs : List Int) : Ev (fun k => spec_TaskFetches.f k t.f0 t.f1 t.f2 vs) (fetL t vs, okT t && valsOkF vs) := by
  unfold spec_TaskFetches.f
  refine Ev.bind (specOk_ev t hb) ?_
  cases ht : okT t with
  | false =>
    simp only [Bool.false_eq_true, if_false, Bool.false_and]
    exact Ev.eq (Ev.now _) (by simp [fetL, ht])
  | true =>
    simp only [if_true, Bool.true_and]
    refine Ev.bind (specValsR_ev vs) ?_
    cases hv : valsOkF vs with
    | false =>
      simp only [Bool.false_eq_true, if_false]
      exact Ev.eq (Ev.now _) (by simp [fetL, hv])
    | true =>
      simp only [if_true]
      have hva : vs.all isVal = true := by simp only [valsOkF, Bool.and_eq_true] at hv; exact hv.2
      refine Ev.bind (l2Run_ev vs hva t (okT_fit ht) (by have := okT_nod ht; omega)) ?_
      exact Ev.eq (Ev.now _) (by simp [fetL, ht, hv])
theorem specUses_ev (t : Tk) (hb : (nodT t : Int) ≤ 4000000000) (vs : List Int) : Ev (fun k => spec_TaskUses.f k t.f0 t.f1 t.f2 vs) (usesL t vs, okT t && valsOkF vs) := by
  unfold spec_TaskUses.f
  refine Ev.bind (specFetU_ev t hb vs) ?_
  have := fetL_len t vs
  exact Ev.bind (l2Uses_ev (fetL t vs) (by omega)) (Ev.now _)
theorem onceFet_mem (l : List Fk) : ∀ g ∈ onceL l, g ∈ l := by
  have key : ∀ (l out : List Fk), ∀ g ∈ l.foldl onceF out, g ∈ out ∨ g ∈ l := by
    intro l
    induction l with
    | nil => intro out g h; exact .inl h
    | cons f l ih =>
      intro out g h
      rw [List.foldl_cons] at h
      rcases ih _ g h with h | h
      · unfold onceF at h
        split at h
        · exact .inl h
        · rcases List.mem_append.1 h with h | h
          · exact .inl h
          · exact .inr (by simp at h; simp [h])
      · exact .inr (by simp [h])
  intro g hg
  rcases key l [] g hg with h | h
  · cases h
  · exact h
theorem fetL_keysU (t : Tk) (vs : List Int) : ∀ f ∈ fetL t vs, 0 ≤ f.f0 ∧ f.f0 ≤ 9 ∧ f.f1 = atV vs f.f0 := by
  unfold fetL
  split
  · rename_i h
    have hva : vs.all isVal = true := by have h2 := h.2; simp only [valsOkF, Bool.and_eq_true] at h2; exact h2.2
    exact runT_keys hva (fits_of t (okT_fit h.1))
  · intro f hf; cases hf
end Go.Proofs.Ytgbjbpjmbghlbaa.G
end
section
namespace Go.Proofs.Ytgbjbpjmbghlbaa.G
open Go.RowKit Go.Proofs.YtgbjbpjmbghlbaaW.PrintWords
set_option linter.unusedVariables false
set_option linter.unusedSimpArgs false
theorem implMay_ev (t : Tk) : Ev (fun k => impl_TaskMay.f k t.f0 t.f1 t.f2) (mayK t) := by
  have h := implOk_ev t
  unfold impl_TaskMay.f
  refine Ev.bind h ?_
  cases ht : okT t with
  | false =>
    simp only [Bool.false_eq_true, if_false]
    exact Ev.eq (Ev.now _) (by simp [mayK, ht])
  | true =>
    have hf := okT_fit ht
    have e : (⟨t.f0, t.f1, t.f2⟩ : Tk) = t := by cases t; rfl
    simp only [if_true, e, hf]
    exact Ev.eq (Ev.now _) (by simp [mayK, ht])
theorem specMay_ev (t : Tk) (hb : (nodT t : Int) ≤ 4000000000) : Ev (fun k => spec_TaskMay.f k t.f0 t.f1 t.f2) (mayK t) := by
  have h := specOk_ev t hb
  unfold spec_TaskMay.f
  refine Ev.bind h ?_
  cases ht : okT t with
  | false =>
    simp only [Bool.false_eq_true, if_false]
    exact Ev.eq (Ev.now _) (by simp [mayK, ht])
  | true =>
    have hf := okT_fit ht
    have e : (⟨t.f0, t.f1, t.f2⟩ : Tk) = t := by cases t; rfl
    simp only [if_true, e, hf]
    exact Ev.eq (Ev.now _) (by simp [mayK, ht])
end Go.Proofs.Ytgbjbpjmbghlbaa.G
end
section
namespace Go.Proofs.Ytgbjbpjmbghlbaa.G
open Go.RowKit Go.Proofs.YtgbjbpjmbghlbaaW.PrintWords
set_option linter.unusedVariables false
set_option linter.unusedSimpArgs false
def w12To (l m : List Int) (i : Nat) : List Int := ((List.range i).map fun n : Nat => (n : Int)).filter fun n => decide (n ∈ l) && !decide (n ∈ m)
theorem w12To_succ (l m : List Int) (i : Nat) : w12To l m (i + 1) = if (decide ((i : Int) ∈ l) && !decide ((i : Int) ∈ m)) = true then w12To l m i ++ [(i : Int)] else w12To l m i := by
  unfold w12To
  rw [List.range_succ, List.map_append, List.filter_append, List.map_singleton]
  cases h : (decide ((i : Int) ∈ l) && !decide ((i : Int) ∈ m)) with
  | true => rw [List.filter_cons, if_pos (by exact h), List.filter_nil, if_pos rfl]
  | false => rw [List.filter_cons, if_neg (by rw [h]; decide), List.filter_nil, List.append_nil, if_neg (by decide)]
theorem without_ev (l m : List Int) (hl : l.length ≤ 4000000000) (hm : m.length ≤ 4000000000) : Ev (fun k => spec_l12Without.f k l m) (w12 l m) := by
  have loop : ∀ (d i : Nat), d = 10 - i → i ≤ 10 → Ev (fun k => spec_l12Without.l0 k l m (w12To l m i) (i : Int)) (w12 l m) := by
    intro d
    induction d with
    | zero =>
      intro i hd hi
      have e : i = 10 := by omega
      subst e
      refine Ev.step (fun k => by rw [spec_l12Without.l0]) ?_
      simp only [if_neg (show ¬ (((10 : Nat) : Int) < 10) by omega)]
      exact Ev.now _
    | succ d ih =>
      intro i hd hi
      have h := ih (i + 1) (by omega) (by omega)
      rw [w12To_succ] at h
      refine Ev.step (fun k => by rw [spec_l12Without.l0]) ?_
      simp only [if_pos (show (i : Int) < 10 by omega), wrap_nat i (by omega)]
      refine Ev.bind (l2Has_ev l (i : Int) hl) ?_
      by_cases h1 : (i : Int) ∈ l
      · simp only [decide_eq_true h1, if_true]
        refine Ev.bind (l2Has_ev m (i : Int) hm) ?_
        by_cases h2 : (i : Int) ∈ m
        · simp only [decide_eq_true h2, if_true]
          simp only [decide_eq_true h1, decide_eq_true h2, Bool.not_true, Bool.and_false, Bool.false_eq_true, if_false] at h
          exact h
        · have hlen : (w12To l m i).length ≤ i := by
            unfold w12To
            refine Nat.le_trans (List.length_filter_le _ _) ?_
            simp
          simp only [decide_eq_false h2, Bool.false_eq_true, if_false, if_pos (show (w12To l m i).length < 17592186044416 by omega)]
          simp only [decide_eq_true h1, decide_eq_false h2, Bool.not_false, Bool.and_true, if_true] at h
          exact h
      · simp only [decide_eq_false h1, Bool.false_eq_true, if_false]
        simp only [decide_eq_false h1, Bool.false_and, Bool.false_eq_true, if_false] at h
        exact h
  exact loop 10 0 (by omega) (by omega)
theorem usesL_len15 (t : Tk) (vs : List Int) : (usesL t vs).length ≤ 15 := by
  have h1 := onceFet_len (fetL t vs)
  have h2 := fetL_len t vs
  simp only [usesL, List.length_map]
  omega
theorem usesL_rng (t : Tk) (vs : List Int) : ∀ x ∈ usesL t vs, 0 ≤ x ∧ x < 10 := by
  intro x hx
  unfold usesL at hx
  obtain ⟨f, hf, rfl⟩ := List.mem_map.1 hx
  have hk := fetL_keysU t vs f (onceFet_mem _ f hf)
  omega
theorem usesL_no {t : Tk} {vs : List Int} (h : (okT t && valsOkF vs) = false) : usesL t vs = [] := by
  unfold usesL fetL
  rw [if_neg (fun hh => by rw [hh.1, hh.2] at h; cases h)]
  rfl
def hidL (told : List Int) (t : Tk) (vs : List Int) : List Int := w12 (usesL t vs) told
theorem specHidden_ev (told : List Int) (ht : told.length ≤ 4000000000) (t : Tk) (hb : (nodT t : Int) ≤ 4000000000) (vs : List Int) : Ev (fun k => spec_HiddenOf.f k told t.f0 t.f1 t.f2 vs) (hidL told t vs, okT t && valsOkF vs) := by
  unfold spec_HiddenOf.f
  refine Ev.bind (specUses_ev t hb vs) ?_
  exact Ev.bind (without_ev (usesL t vs) told (by have := usesL_len15 t vs; omega) ht) (Ev.now _)
theorem implHidden_ev (told : List Int) (t : Tk) (vs : List Int) : Ev (fun k => impl_HiddenOf.f k told t.f0 t.f1 t.f2 vs) (hidL told t vs, okT t && valsOkF vs) := by
  unfold impl_HiddenOf.f
  refine Ev.bind (implUses_ev t vs) ?_
  cases h : (okT t && valsOkF vs) with
  | true =>
    have hl := usesL_len15 t vs
    simp only [if_true, impl_minus.f, if_pos (show (usesL t vs).length < 17592186044416 by omega), Option.bind_some, minus_w12 (usesL_rng t vs)]
    exact Ev.now _
  | false =>
    simp only [Bool.false_eq_true, if_false]
    refine Ev.eq (Ev.now _) ?_
    unfold hidL
    rw [usesL_no h]
    have e : w12 [] told = [] := by
      refine List.eq_nil_iff_forall_not_mem.2 (fun x hx => ?_)
      have := ((w12_mem [] told x).1 hx).2.1
      cases this
    rw [e]
end Go.Proofs.Ytgbjbpjmbghlbaa.G
end
section
namespace Go.Proofs.Ytgbjbpjmbghlbaa.G
open Go.RowKit Go.Proofs.YtgbjbpjmbghlbaaW.PrintWords
set_option linter.unusedVariables false
set_option linter.unusedSimpArgs false
theorem rd_intB (l : List Int) (i : Nat) (h : i < l.length) : rd l (i : Int) = l[i] := by
  simp only [rd, Int.toNat_natCast, List.getD_eq_getElem?_getD, List.getElem?_eq_getElem h, Option.getD_some]
theorem brHas_loop (l : List Int) (n : Int) (hl : l.length ≤ 4000000000) : ∀ (d i : Nat), d = l.length - i → i ≤ l.length → Ev (fun k => laws_brHas.l0 k l n (i : Int)) (decide (n ∈ l.drop i)) := by
  intro d
  induction d with
  | zero =>
    intro i hd hi
    have e : i = l.length := by omega
    subst e
    refine Ev.step (fun k => by rw [laws_brHas.l0]) ?_
    simp only [if_neg (show ¬ ((l.length : Int) < (l.length : Int)) by omega), List.drop_length]
    exact Ev.eq (Ev.now false) (by simp)
  | succ d ihd =>
    intro i hd hi
    have hlt : i < l.length := by omega
    refine Ev.step (fun k => by rw [laws_brHas.l0]) ?_
    simp only [if_pos (show (i : Int) < (l.length : Int) by omega), if_pos (show (0 : Int) ≤ (i : Int) by omega), rd_intB l i hlt]
    rw [drop_tk l i hlt]
    by_cases hc : l[i] = n
    · simp only [if_pos hc]
      exact Ev.eq (Ev.now true) (by simp only [hc, List.mem_cons, true_or, decide_true])
    · simp only [if_neg hc, wrap_nat i (by omega)]
      refine Ev.eq (ihd (i + 1) (by omega) (by omega)) ?_
      have hc' : ¬ n = l[i] := fun h => hc h.symm
      simp only [List.mem_cons, hc', false_or]
theorem brHas_ev (l : List Int) (n : Int) (hl : l.length ≤ 4000000000) : Ev (fun k => laws_brHas.f k l n) (decide (n ∈ l)) := by
  unfold laws_brHas.f
  have h := brHas_loop l n hl l.length 0 (by omega) (by omega)
  rw [List.drop_zero] at h
  exact h
theorem brIntsB (l : List Int) (hl : l.length ≤ 4000000000) : Ev (fun k => laws_brInts.f k l l) true := by
  unfold laws_brInts.f
  simp only [if_true]
  exact eqLoop l (fun k i => laws_brInts.l0 k l l i) (fun _ x => some true)
    (fun k => by simp only [laws_brInts.l0, if_neg (show ¬ ((l.length : Int) < (l.length : Int)) by omega)])
    (fun k i hi => by simp only [laws_brInts.l0, if_pos (show (i : Int) < (l.length : Int) by omega), if_pos (show (0 : Int) ≤ (i : Int) by omega), rd_intB l i hi, wrap_nat i (by omega), Option.bind_some, if_true])
    (fun x hx => Ev.of_eq rfl)
end Go.Proofs.Ytgbjbpjmbghlbaa.G
end
section
namespace Go.Proofs.Ytgbjbpjmbghlbaa.G
open Go.RowKit Go.Proofs.YtgbjbpjmbghlbaaW.PrintWords
set_option linter.unusedVariables false
set_option linter.unusedSimpArgs false
theorem usesM_may (t : Tk) (vs : List Int) : ∀ j ∈ usesL t vs, j ∈ mayK t := by
  intro j hj
  unfold usesL at hj
  obtain ⟨f, hf, rfl⟩ := List.mem_map.1 hj
  have hm := onceFet_mem _ f hf
  have hk := fetL_keysU t vs f hm
  unfold fetL at hm
  split at hm
  · rename_i h
    have hva : vs.all isVal = true := by have h2 := h.2; simp only [valsOkF, Bool.and_eq_true] at h2; exact h2.2
    refine (mayK_mem h.1 f.f0).2 ⟨f.f0.toNat, by omega, by omega, runT_may vs hva (fits_of t (okT_fit h.1)) f hm⟩
  · cases hm
theorem hid_none (t : Tk) (vs : List Int) : hidL (mayK t) t vs = [] := by
  refine List.eq_nil_iff_forall_not_mem.2 (fun x hx => ?_)
  have h := (w12_mem _ _ x).1 hx
  exact h.2.2 (usesM_may t vs x h.2.1)
theorem hidden_l0 (told xs : List Int) (ht : told.length ≤ 4000000000) (hx : xs.length ≤ 1000) (hn : ∀ x ∈ xs, x ∉ told) : Ev (fun k => laws_FnHiddenOf.l0 k told xs [] 0) true := by
  have loop : ∀ (d i : Nat), d = xs.length - i → i ≤ xs.length → Ev (fun k => laws_FnHiddenOf.l0 k told xs [] (i : Int)) true := by
    intro d
    induction d with
    | zero =>
      intro i hd hi
      refine Ev.step (fun k => by rw [laws_FnHiddenOf.l0]) ?_
      simp only [if_neg (show ¬ ((i : Int) < (xs.length : Int)) by omega)]
      exact Ev.now _
    | succ d ih =>
      intro i hd hi
      have hlt : i < xs.length := by omega
      refine Ev.step (fun k => by rw [laws_FnHiddenOf.l0]) ?_
      simp only [if_pos (show (i : Int) < (xs.length : Int) by omega), if_pos (show (0 : Int) ≤ (i : Int) by omega), rd_intB xs i hlt, wrap_nat i (by omega)]
      refine Ev.bind (brHas_ev told xs[i] ht) ?_
      simp only [decide_eq_false (hn _ (List.getElem_mem hlt)), Bool.false_eq_true, if_false]
      exact ih (i + 1) (by omega) (by omega)
  exact loop xs.length 0 (by omega) (by omega)
theorem hidden_draw {l : List Int} (hl : byteL l) : ∃ (told : List Int) (t : Tk) (vs : List Int), Ev (fun k => spec_DrawHiddenOf.f k l) (told, t.f0, t.f1, t.f2, vs) ∧ told.length ≤ 10 ∧ (nodT t : Int) ≤ 1000000 := by
  obtain ⟨l', ho, hl', hlen'⟩ := open_ev hl
  obtain ⟨t, p', ht, a, b, hn⟩ := any_task_ev hl' (by omega) 0 (by omega) (by omega)
  obtain ⟨vs, p2, hvs, a2, b2, hvl⟩ := values_ev hl' (by omega) p' (by omega) (by omega)
  have hml := mayK_len t
  by_cases hm : ((mayK t).length : Int) > 0
  · obtain ⟨c, hc, c0, c1, c2⟩ := pick_ev hl' (by omega) p2 2 (by omega) (by omega)
    by_cases hz : c = 0
    · obtain ⟨x, hx, x0, x1, x2⟩ := pick_ev hl' (by omega) (p2 + 1) ((mayK t).length : Int) (by omega) (by omega)
      have x3 := x1 (by omega)
      refine ⟨(mayK t).drop x.toNat, t, vs, ?_, by rw [List.length_drop]; omega, by omega⟩
      unfold spec_DrawHiddenOf.f
      refine Ev.bind (Ev.of_eq ho) ?_
      refine Ev.bind ht ?_
      refine Ev.bind hvs ?_
      refine Ev.bind (specMay_ev t (by omega)) ?_
      simp only [if_pos hm]
      refine Ev.bind hc ?_
      simp only [if_pos hz]
      refine Ev.bind hx ?_
      simp only [if_pos x0, if_pos (show x ≤ ((mayK t).length : Int) by omega)]
      exact Ev.now _
    · refine ⟨mayK t, t, vs, ?_, hml, by omega⟩
      unfold spec_DrawHiddenOf.f
      refine Ev.bind (Ev.of_eq ho) ?_
      refine Ev.bind ht ?_
      refine Ev.bind hvs ?_
      refine Ev.bind (specMay_ev t (by omega)) ?_
      simp only [if_pos hm]
      refine Ev.bind hc ?_
      simp only [if_neg hz]
      exact Ev.now _
  · refine ⟨mayK t, t, vs, ?_, hml, by omega⟩
    unfold spec_DrawHiddenOf.f
    refine Ev.bind (Ev.of_eq ho) ?_
    refine Ev.bind ht ?_
    refine Ev.bind hvs ?_
    refine Ev.bind (specMay_ev t (by omega)) ?_
    simp only [if_neg hm]
    exact Ev.now _
theorem ev_FnHiddenOf (l : List Int) (hl : byteL l) : Ev (fun k => laws_FnHiddenOf.f k l) true := by
  unfold laws_FnHiddenOf.f
  by_cases h20 : (l.length : Int) > 1048576
  · simp only [if_pos h20]; exact Ev.now true
  · simp only [if_neg h20]
    obtain ⟨told, t, vs, hdraw, htl, hn⟩ := hidden_draw hl
    have hll : (hidL told t vs).length ≤ 10 := w12_len _ _
    refine Ev.bind hdraw ?_
    refine Ev.bind (implHidden_ev told t vs) ?_
    refine Ev.bind (specHidden_ev told (by omega) t (by omega) vs) ?_
    refine Ev.bind (brIntsB _ (by (try dsimp only); omega)) ?_
    simp only [if_true, bne_self_eq_false]
    refine Ev.step (fun k => by rw [laws_FnHiddenOf.j0]) ?_
    simp only [Bool.false_eq_true, if_false]
    refine Ev.bind (implMay_ev t) ?_
    refine Ev.bind (implHidden_ev (mayK t) t vs) ?_
    rw [hid_none]
    exact hidden_l0 told _ (by omega) (by omega) (fun x hx => ((w12_mem _ _ x).1 hx).2.2)
end Go.Proofs.Ytgbjbpjmbghlbaa.G
namespace Go.Proofs.Ytgbjbpjmbghlbaa.Pure
open Go.RowKit Go.Proofs.Ytgbjbpjmbghlbaa.G Go.Proofs.YtgbjbpjmbghlbaaW.PrintWords Go.Proofs.YtgbjbpjmbghlbaaW.PrintLast
theorem FnHiddenOf : laws_FnHiddenOf.Pure := fun l0 _ _ hw => Ev.rounds (ev_FnHiddenOf l0 (byteL_of hw))
end Go.Proofs.Ytgbjbpjmbghlbaa.Pure
end
