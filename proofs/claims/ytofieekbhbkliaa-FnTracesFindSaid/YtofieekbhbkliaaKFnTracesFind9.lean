-- Written by pack.py (ours): the claim's texts, cut down to what its theorem reaches.
import Derived.Test.YtofieekbhbkliaaKFnTracesFind8
section
namespace Go.Proofs.Ytofieekbhbkliaa.G
open Go.RowKit Go.Proofs.YtofieekbhbkliaaW.PrintWords
set_option linter.unusedVariables false
set_option linter.unusedSimpArgs false
theorem allLoop {α : Type} (l : List α) (F : Nat → Int → Option Bool) (one : Nat → α → Option Bool) (p : α → Bool)
    (hend : ∀ k, F (k + 1) (l.length : Int) = some true)
    (hstep : ∀ k (i : Nat) (h : i < l.length), F (k + 1) (i : Int) = (one k l[i]).bind fun t => if t = true then F k ((i + 1 : Nat) : Int) else some false)
    (hone : ∀ x ∈ l, Ev (fun k => one k x) (p x)) : ∀ (d i : Nat), d = l.length - i → i ≤ l.length → Ev (fun k => F k (i : Int)) ((l.drop i).all p) := by
  intro d
  induction d with
  | zero =>
    intro i hd hi
    have e : i = l.length := by omega
    subst e
    refine Ev.step (fun k => hend k) ?_
    simp only [List.drop_length, List.all_nil]
    exact Ev.now true
  | succ d ihd =>
    intro i hd hi
    have hlt : i < l.length := by omega
    rw [drop_tk l i hlt, List.all_cons]
    refine Ev.step (fun k => hstep k i hlt) ?_
    refine Ev.bind (hone _ (List.getElem_mem hlt)) ?_
    cases hp : p l[i] with
    | true => simp only [if_true, Bool.true_and]; exact ihd (i + 1) (by omega) (by omega)
    | false => simp only [Bool.false_eq_true, if_false, Bool.false_and]; exact Ev.now false
theorem eqLoop {α : Type} (l : List α) (F : Nat → Int → Option Bool) (one : Nat → α → Option Bool)
    (hend : ∀ k, F (k + 1) (l.length : Int) = some true)
    (hstep : ∀ k (i : Nat) (h : i < l.length), F (k + 1) (i : Int) = (one k l[i]).bind fun t => if t = true then F k ((i + 1 : Nat) : Int) else some false)
    (hone : ∀ x ∈ l, Ev (fun k => one k x) true) : Ev (fun k => F k 0) true := by
  have h := allLoop l F one (fun _ => true) hend hstep hone l.length 0 (by omega) (by omega)
  simp only [List.drop_zero, List.all_eq_true, implies_true] at h
  exact Ev.eq h (by simp)
end Go.Proofs.Ytofieekbhbkliaa.G
end
section
namespace Go.Proofs.Ytofieekbhbkliaa.G
open Go.RowKit Go.Proofs.YtofieekbhbkliaaW.PrintWords
set_option linter.unusedVariables false
set_option linter.unusedSimpArgs false
theorem l2OfR_ev (l : List Int) (k : Int) (h : 0 ≤ k) : spec_l2Of.f l k = some (atV l k) := by
  unfold spec_l2Of.f atV
  by_cases h2 : k < (l.length : Int)
  · rw [if_pos h2, if_pos h, if_pos ⟨h, h2⟩]
  · rw [if_neg h2, if_neg (by omega)]
end Go.Proofs.Ytofieekbhbkliaa.G
end
section
namespace Go.Proofs.Ytofieekbhbkliaa.G
open Go.RowKit Go.Proofs.YtofieekbhbkliaaW.PrintWords
set_option linter.unusedVariables false
set_option linter.unusedSimpArgs false
theorem next_f (t : Tk) (hf : fitT t = true) (got : List Int) (hg : got.all isVal = true) (hl : got.length ≤ 1000000) : spec_l2Next.f t.f0 t.f1 t.f2 got = some ((doT got t 0 0).1, (doT got t 0 0).2.2.2, (doT got t 0 0).2.1) := by
  have e : (⟨t.f0, t.f1, t.f2⟩ : Tk) = t := by cases t; rfl
  unfold spec_l2Next.f
  rw [e, if_pos ⟨hf, hg, hl⟩]
theorem run_loop (vs : List Int) (hv : vs.all isVal = true) (t : Tk) (hf : fitT t = true) (hn : (runT vs t).2.length ≤ 1000) :
    ∀ (d i : Nat), d = (runT vs t).2.length - i → i ≤ (runT vs t).2.length →
      Ev (fun k => spec_l2Run.l0 k vs ((runT vs t).2.take i) (((runT vs t).2.take i).map (·.f1)) (doT (((runT vs t).2.take i).map (·.f1)) t 0 0).1 (doT (((runT vs t).2.take i).map (·.f1)) t 0 0).2.2.2 (doT (((runT vs t).2.take i).map (·.f1)) t 0 0).2.1 t.f0 t.f1 t.f2) (runT vs t) := by
  have hrep := rep_doT vs (fits_of t hf)
  have hkeys := runT_keys hv (fits_of t hf)
  have hall : ∀ i, (((runT vs t).2.take i).map (·.f1)).all isVal = true := by
    intro i
    rw [List.all_eq_true]
    intro x hx
    obtain ⟨f, hfm, rfl⟩ := List.mem_map.1 hx
    have h1 := hkeys f (List.mem_of_mem_take hfm)
    have h2 := atV_val hv f.f0
    simp only [isVal, decide_eq_true_eq]
    rw [h1.2.2]
    exact h2
  intro d
  induction d with
  | zero =>
    intro i hd hi
    have e : i = (runT vs t).2.length := by omega
    subst e
    rw [List.take_length]
    have h := hrep.1 [] [] 0
    simp only [List.nil_append, List.append_nil, List.length_nil, Int.natCast_zero, Int.ofNat_zero] at h
    have h' : doT ((runT vs t).2.map (·.f1)) t 0 0 = ((runT vs t).1, true, ((0 + (runT vs t).2.length : Nat) : Int), 0) := h
    rw [h']
    refine Ev.step (fun k => by rw [spec_l2Run.l0]) ?_
    simp only [if_true]
    exact Ev.now _
  | succ d ihd =>
    intro i hd hi
    have hlt : i < (runT vs t).2.length := by omega
    have h := hrep.2 [] i (runT vs t).2[i] 0 (List.getElem?_eq_getElem hlt)
    simp only [List.nil_append, List.length_nil, Int.natCast_zero, Int.ofNat_zero] at h
    rw [← List.map_take] at h
    have h' : doT (((runT vs t).2.take i).map (·.f1)) t 0 0 = (0, false, ((0 + i : Nat) : Int), ((runT vs t).2[i]).f0) := h
    rw [h']
    have hk := hkeys _ (List.getElem_mem hlt)
    have e1 : ((runT vs t).2.take i).map (·.f1) ++ [atV vs ((runT vs t).2[i]).f0] = ((runT vs t).2.take (i + 1)).map (·.f1) := by
      rw [List.take_succ_eq_append_getElem hlt, List.map_append, List.map_singleton, hk.2.2]
    have e2 : (runT vs t).2.take i ++ [(⟨((runT vs t).2[i]).f0, atV vs ((runT vs t).2[i]).f0⟩ : Fk)] = (runT vs t).2.take (i + 1) := by
      rw [List.take_succ_eq_append_getElem hlt]
      congr 2
      rw [← hk.2.2]
    refine Ev.step (fun k => by rw [spec_l2Run.l0]) ?_
    simp only [Bool.false_eq_true, if_false, l2OfR_ev vs _ hk.1, Option.bind_some]
    simp only [if_pos (show ((runT vs t).2.take i).length < 8796093022208 by rw [List.length_take]; omega), if_pos (show (((runT vs t).2.take i).map (·.f1)).length < 17592186044416 by rw [List.length_map, List.length_take]; omega), e1, e2]
    simp only [next_f t hf _ (hall (i + 1)) (by rw [List.length_map, List.length_take]; omega), Option.bind_some]
    exact ihd (i + 1) (by omega) (by omega)
theorem l2Run_ev (vs : List Int) (hv : vs.all isVal = true) (t : Tk) (hf : fitT t = true) (hn : nodT t ≤ 1000) : Ev (fun k => spec_l2Run.f k t.f0 t.f1 t.f2 vs) (runT vs t) := by
  unfold spec_l2Run.f
  have hl := runT_len vs (fits_of t hf)
  simp only [Option.bind_some, next_f t hf [] (by rfl) (by simp)]
  have h := run_loop vs hv t hf (by omega) (runT vs t).2.length 0 (by omega) (by omega)
  simp only [List.take_zero, List.map_nil] at h
  exact h
end Go.Proofs.Ytofieekbhbkliaa.G
end
section
namespace Go.Proofs.Ytofieekbhbkliaa.G
open Go.RowKit Go.Proofs.YtofieekbhbkliaaW.PrintWords
set_option linter.unusedVariables false
set_option linter.unusedSimpArgs false
abbrev Trc := S29
theorem rd_fk (l : List Fk) (i : Nat) (h : i < l.length) : rd_T108 l (i : Int) = l[i] := by
  simp only [rd_T108, Int.toNat_natCast, List.getD_eq_getElem?_getD, List.getElem?_eq_getElem h, Option.getD_some]
theorem rd_trc (l : List Trc) (i : Nat) (h : i < l.length) : rd_T29 l (i : Int) = l[i] := by
  simp only [rd_T29, Int.toNat_natCast, List.getD_eq_getElem?_getD, List.getElem?_eq_getElem h, Option.getD_some]
def fkOk (f : Fk) : Bool := decide (0 ≤ f.f0 ∧ f.f0 < 10) && decide (0 ≤ f.f1 ∧ f.f1 ≤ 96)
def trOk (t : Trc) : Bool := ((decide (0 ≤ t.f0 ∧ t.f0 < 10) && decide (0 ≤ t.f2 ∧ t.f2 ≤ 96)) && decide ((onceL t.f1).length = t.f1.length)) && t.f1.all fkOk
theorem onceF_nodup (out : List Fk) (f : Fk) (h : (out.map (·.f0)).Nodup) : ((onceF out f).map (·.f0)).Nodup := by
  unfold onceF
  split
  · exact h
  · rename_i hn
    rw [List.map_append, List.map_singleton, List.nodup_append]
    refine ⟨h, by simp, ?_⟩
    intro a ha b hb
    have hb' : b = f.f0 := by simpa using hb
    subst hb'
    rintro rfl
    apply hn
    obtain ⟨g, hg, he⟩ := List.mem_map.1 ha
    exact List.any_eq_true.2 ⟨g, hg, by simp [he]⟩
theorem onceF_mem (out : List Fk) (f g : Fk) (h : g ∈ onceF out f) : g ∈ out ∨ g = f := by
  unfold onceF at h
  split at h
  · exact .inl h
  · simpa using h
theorem fold_once (l : List Fk) : ∀ out : List Fk, (out.map (·.f0)).Nodup → ((l.foldl onceF out).map (·.f0)).Nodup ∧ ∀ g ∈ l.foldl onceF out, g ∈ out ∨ g ∈ l := by
  induction l with
  | nil => intro out h; exact ⟨h, fun g hg => .inl hg⟩
  | cons f l ih =>
    intro out h
    obtain ⟨h1, h2⟩ := ih (onceF out f) (onceF_nodup out f h)
    refine ⟨h1, fun g hg => ?_⟩
    rcases h2 g hg with h3 | h3
    · rcases onceF_mem out f g h3 with h4 | h4
      · exact .inl h4
      · exact .inr (by simp [h4])
    · exact .inr (by simp [h3])
theorem onceL_nodup (l : List Fk) : ((onceL l).map (·.f0)).Nodup := (fold_once l [] (by simp)).1
theorem onceL_mem (l : List Fk) : ∀ g ∈ onceL l, g ∈ l := by
  intro g hg
  rcases (fold_once l [] (by simp)).2 g hg with h | h
  · cases h
  · exact h
theorem onceL_length (l : List Fk) : (onceL l).length ≤ l.length := by
  have := onceL_len l l.length (Nat.le_refl _)
  rwa [List.take_length] at this
theorem few_keys : ∀ (n : Nat) (l : List Int), l.Nodup → (∀ x ∈ l, 0 ≤ x ∧ x < (n : Int)) → l.length ≤ n := by
  intro n
  induction n with
  | zero =>
    intro l _ h
    cases l with
    | nil => simp
    | cons x xs => have := h x (by simp); omega
  | succ n ih =>
    intro l hn h
    by_cases hm : (n : Int) ∈ l
    · have h1 := List.length_erase_of_mem hm
      have h2 : ∀ x ∈ l.erase (n : Int), 0 ≤ x ∧ x < (n : Int) := by
        intro x hx
        have h3 := (List.Nodup.mem_erase_iff hn).1 hx
        have h4 := h x h3.2
        have h5 := h3.1
        omega
      have h6 := ih _ (hn.erase (n : Int)) h2
      have h7 : 0 < l.length := List.length_pos_of_mem hm
      omega
    · have h2 : ∀ x ∈ l, 0 ≤ x ∧ x < (n : Int) := by
        intro x hx
        have h4 := h x hx
        have h5 : x ≠ (n : Int) := fun e => hm (e ▸ hx)
        omega
      have := ih l hn h2
      omega
theorem trOk_len {t : Trc} (h : trOk t = true) : t.f1.length ≤ 10 := by
  simp only [trOk, Bool.and_eq_true, decide_eq_true_eq] at h
  have h1 := few_keys 10 ((onceL t.f1).map (·.f0)) (onceL_nodup t.f1) (fun x hx => by
    obtain ⟨g, hg, rfl⟩ := List.mem_map.1 hx
    have h2 := List.all_eq_true.1 h.2 g (onceL_mem t.f1 g hg)
    simp only [fkOk, Bool.and_eq_true, decide_eq_true_eq] at h2
    exact h2.1)
  rw [List.length_map] at h1
  omega
theorem implFk_ev (a b : Int) : impl_Trace_ok_1.f a b = some (!fkOk ⟨a, b⟩) := by
  unfold impl_Trace_ok_1.f fkOk
  simp only [isKey_ev, isValue_ev, Option.bind_some]
  by_cases h : 0 ≤ a ∧ a < 10
  · simp [h]
  · simp [h]
theorem implFks_ev (l : List Fk) : impl_Trace_ok_1_any.f l = some (!(l.all fkOk)) := by
  unfold impl_Trace_ok_1_any.f
  rw [if_pos (fun x _ => by rw [implFk_ev]; rfl)]
  congr 1
  rw [List.all_eq_not_any_not, Bool.not_not]
  congr 1
  funext x
  rw [implFk_ev]
  rfl
theorem implTr_ev (t : Trc) (h : t.f1.length < 8796093022208) : impl_Trace_ok.f t.f0 t.f1 t.f2 = some (trOk t) := by
  unfold impl_Trace_ok.f trOk
  simp only [isKey_ev, isValue_ev, Option.bind_some, impl_once.f, if_pos h, implFks_ev, Bool.not_not]
  have e : ((onceL t.f1).length : Int) = (t.f1.length : Int) ↔ (onceL t.f1).length = t.f1.length := by omega
  simp only [e]
  by_cases h1 : 0 ≤ t.f0 ∧ t.f0 < 10
  · by_cases h2 : 0 ≤ t.f2 ∧ t.f2 ≤ 96
    · by_cases h3 : (onceL t.f1).length = t.f1.length
      · simp [h1, h2, h3]
      · simp [h1, h2, h3]
    · simp [h1, h2]
  · simp [h1]
def trsOk (l : List Trc) : Bool := decide (l.length ≤ 60) && l.all trOk
theorem implTrs_ev (l : List Trc) (h : ∀ t ∈ l, t.f1.length < 8796093022208) : impl_TracesOk.f l = some (trsOk l) := by
  have h1 : ∀ t ∈ l, impl_TracesOk_1.f t.f0 t.f1 t.f2 = some (!trOk t) := by
    intro t ht
    unfold impl_TracesOk_1.f
    rw [implTr_ev t (h t ht), Option.bind_some]
  have h2 : impl_TracesOk_1_any.f l = some (!(l.all trOk)) := by
    unfold impl_TracesOk_1_any.f
    rw [if_pos (fun x hx => by rw [h1 x hx]; rfl)]
    congr 1
    rw [List.all_eq_not_any_not, Bool.not_not]
    clear h
    induction l with
    | nil => rfl
    | cons t l ih =>
      simp only [List.any_cons]
      rw [h1 t (by simp), ih (fun x hx => h1 x (by simp [hx]))]
      rfl
  unfold impl_TracesOk.f trsOk
  by_cases hl : l.length ≤ 60
  · rw [if_pos (by omega), h2]
    simp [hl]
  · rw [if_neg (by omega)]
    simp [hl]
theorem l5Once_inner (l out : List Fk) (i : Nat) (hi : i < l.length) (hol : out.length ≤ 4000000000) (rest : Ev (fun k => spec_l5Once.l0 k l (onceF out l[i]) (wrap64 ((i : Int) + 1))) (onceL l)) :
    ∀ (d j : Nat) (b : Bool), d = out.length - j → j ≤ out.length → (b || (out.drop j).any fun g => g.f0 == l[i].f0) = (out.any fun g => g.f0 == l[i].f0) → Ev (fun k => spec_l5Once.l1 k l out (i : Int) b (j : Int)) (onceL l) := by
  intro d
  induction d with
  | zero =>
    intro j b hd hj hb
    have e : j = out.length := by omega
    subst e
    rw [List.drop_length, List.any_nil, Bool.or_false] at hb
    refine Ev.step (fun k => by rw [spec_l5Once.l1]) ?_
    simp only [if_neg (show ¬ ((out.length : Int) < (out.length : Int)) by omega)]
    unfold onceF at rest
    cases b with
    | true =>
      rw [if_pos hb.symm] at rest
      simp only [if_true]
      exact rest
    | false =>
      rw [if_neg (by rw [← hb]; decide)] at rest
      simp only [Bool.false_eq_true, if_false, if_pos (show (0 : Int) ≤ (i : Int) by omega), if_pos (show (i : Int) < (l.length : Int) by omega), if_pos (show out.length < 8796093022208 by omega), rd_fk l i hi]
      exact rest
  | succ d ihd =>
    intro j b hd hj hb
    have hlt : j < out.length := by omega
    refine Ev.step (fun k => by rw [spec_l5Once.l1]) ?_
    rw [drop_tk out j hlt, List.any_cons] at hb
    simp only [if_pos (show (j : Int) < (out.length : Int) by omega), wrap_nat j (by omega)]
    cases b with
    | true =>
      simp only [if_true]
      exact ihd (j + 1) true (by omega) (by omega) (by rw [← hb]; simp)
    | false =>
      simp only [Bool.false_eq_true, if_false, if_pos (show (0 : Int) ≤ (j : Int) by omega), if_pos (show (0 : Int) ≤ (i : Int) by omega), if_pos (show (i : Int) < (l.length : Int) by omega), rd_fk l i hi, rd_fk out j hlt]
      exact ihd (j + 1) _ (by omega) (by omega) (by rw [← hb, Bool.false_or])
theorem l5Once_loop (l : List Fk) (hl : l.length ≤ 4000000000) : ∀ (d i : Nat), d = l.length - i → i ≤ l.length → Ev (fun k => spec_l5Once.l0 k l ((l.take i).foldl onceF []) (i : Int)) (onceL l) := by
  intro d
  induction d with
  | zero =>
    intro i hd hi
    have e : i = l.length := by omega
    subst e
    refine Ev.step (fun k => by rw [spec_l5Once.l0]) ?_
    simp only [if_neg (show ¬ ((l.length : Int) < (l.length : Int)) by omega), List.take_length]
    exact Ev.now _
  | succ d ihd =>
    intro i hd hi
    have hlt : i < l.length := by omega
    refine Ev.step (fun k => by rw [spec_l5Once.l0]) ?_
    simp only [if_pos (show (i : Int) < (l.length : Int) by omega)]
    have h := ihd (i + 1) (by omega) (by omega)
    rw [onceL_take l i hlt] at h
    have hol := onceL_len l i (by omega)
    refine l5Once_inner l _ i hlt (by omega) (by rw [wrap_nat i (by omega)]; exact h) _ 0 false rfl (by omega) ?_
    rw [List.drop_zero, Bool.false_or]
theorem l5Once_ev (l : List Fk) (hl : l.length ≤ 4000000000) : Ev (fun k => spec_l5Once.f k l) (onceL l) := by
  unfold spec_l5Once.f
  exact l5Once_loop l hl l.length 0 (by omega) (by omega)
theorem l5One_loop (t : Trc) (hl : t.f1.length ≤ 10) : ∀ (d i : Nat), d = t.f1.length - i → i ≤ t.f1.length → Ev (fun k => spec_l5One.l0 k (i : Int) t.f0 t.f1 t.f2) ((t.f1.drop i).all fkOk && decide ((onceL t.f1).length = t.f1.length)) := by
  intro d
  induction d with
  | zero =>
    intro i hd hi
    have e : i = t.f1.length := by omega
    subst e
    refine Ev.step (fun k => by rw [spec_l5One.l0]) ?_
    simp only [if_neg (show ¬ ((t.f1.length : Int) < (t.f1.length : Int)) by omega), List.drop_length, List.all_nil, Bool.true_and]
    refine Ev.bind (l5Once_ev t.f1 (by omega)) ?_
    refine Ev.of_eq ?_
    congr 1
    rw [Bool.eq_iff_iff]
    simp only [beq_iff_eq, decide_eq_true_eq]
    omega
  | succ d ihd =>
    intro i hd hi
    have hlt : i < t.f1.length := by omega
    refine Ev.step (fun k => by rw [spec_l5One.l0]) ?_
    rw [drop_tk t.f1 i hlt, List.all_cons]
    simp only [if_pos (show (i : Int) < (t.f1.length : Int) by omega), if_pos (show (0 : Int) ≤ (i : Int) by omega), rd_fk t.f1 i hlt, l6In_ev, Option.bind_some, wrap_nat i (by omega)]
    have e9 : (0 ≤ t.f1[i].f0 ∧ t.f1[i].f0 ≤ 9) ↔ (0 ≤ t.f1[i].f0 ∧ t.f1[i].f0 < 10) := by omega
    simp only [fkOk, decide_eq_true_eq, e9]
    by_cases h1 : 0 ≤ t.f1[i].f0 ∧ t.f1[i].f0 < 10
    · by_cases h2 : 0 ≤ t.f1[i].f1 ∧ t.f1[i].f1 ≤ 96
      · simp only [if_pos h1, if_pos h2, decide_eq_true h1, decide_eq_true h2, Bool.true_and]
        exact ihd (i + 1) (by omega) (by omega)
      · simp only [if_pos h1, if_neg h2, decide_eq_true h1, decide_eq_false h2, Bool.and_false, Bool.false_and]
        exact Ev.now false
    · simp only [if_neg h1, decide_eq_false h1, Bool.false_and]
      exact Ev.now false
theorem l5One_ev (t : Trc) : Ev (fun k => spec_l5One.f k t.f0 t.f1 t.f2) (trOk t) := by
  unfold spec_l5One.f
  have bad : Ev (fun k => spec_l5One.j0 k true t.f0 t.f1 t.f2) false := by
    refine Ev.step (fun k => by rw [spec_l5One.j0]) ?_
    simp only [if_true]
    exact Ev.now false
  by_cases hl : t.f1.length ≤ 10
  · simp only [if_neg (show ¬ ((t.f1.length : Int) > 10) by omega), l6In_ev, Option.bind_some]
    have e9 : (0 ≤ t.f0 ∧ t.f0 ≤ 9) ↔ (0 ≤ t.f0 ∧ t.f0 < 10) := by omega
    simp only [decide_eq_true_eq, e9]
    by_cases h1 : 0 ≤ t.f0 ∧ t.f0 < 10
    · simp only [if_pos h1]
      refine Ev.step (fun k => by rw [spec_l5One.j0]) ?_
      by_cases h2 : 0 ≤ t.f2 ∧ t.f2 ≤ 96
      · simp only [decide_eq_true h2, Bool.not_true, Bool.false_eq_true, if_false]
        refine Ev.eq (l5One_loop t hl t.f1.length 0 (by omega) (by omega)) ?_
        rw [List.drop_zero, trOk, decide_eq_true h1, decide_eq_true h2, Bool.and_comm]
        simp
      · simp only [decide_eq_false h2, Bool.not_false, if_true]
        exact Ev.eq (Ev.now false) (by rw [trOk, decide_eq_false h2]; simp)
    · simp only [if_neg h1]
      exact Ev.eq bad (by rw [trOk, decide_eq_false h1]; simp)
  · simp only [if_pos (show ((t.f1.length : Int) > 10) by omega)]
    refine Ev.eq bad ?_
    cases h : trOk t with
    | false => rfl
    | true => exact absurd (trOk_len h) hl
theorem specTrs_loop (l : List Trc) (hl : l.length ≤ 60) : ∀ (d i : Nat), d = l.length - i → i ≤ l.length → Ev (fun k => spec_TracesOk.l0 k l (i : Int)) ((l.drop i).all trOk) := by
  intro d
  induction d with
  | zero =>
    intro i hd hi
    have e : i = l.length := by omega
    subst e
    refine Ev.step (fun k => by rw [spec_TracesOk.l0]) ?_
    simp only [if_neg (show ¬ ((l.length : Int) < (l.length : Int)) by omega), List.drop_length, List.all_nil]
    exact Ev.now true
  | succ d ihd =>
    intro i hd hi
    have hlt : i < l.length := by omega
    refine Ev.step (fun k => by rw [spec_TracesOk.l0]) ?_
    rw [drop_tk l i hlt, List.all_cons]
    simp only [if_pos (show (i : Int) < (l.length : Int) by omega), if_pos (show (0 : Int) ≤ (i : Int) by omega), rd_trc l i hlt]
    refine Ev.bind (l5One_ev _) ?_
    cases h : trOk l[i] with
    | true =>
      simp only [if_true, Bool.true_and, wrap_nat i (by omega)]
      exact ihd (i + 1) (by omega) (by omega)
    | false =>
      simp only [Bool.false_eq_true, if_false, Bool.false_and]
      exact Ev.now false
theorem specTrs_ev (l : List Trc) : Ev (fun k => spec_TracesOk.f k l) (trsOk l) := by
  unfold spec_TracesOk.f trsOk
  by_cases hl : l.length ≤ 60
  · simp only [if_neg (show ¬ ((l.length : Int) > 60) by omega), decide_eq_true hl, Bool.true_and]
    exact specTrs_loop l hl l.length 0 (by omega) (by omega)
  · simp only [if_pos (show ((l.length : Int) > 60) by omega), decide_eq_false hl, Bool.false_and]
    exact Ev.now false
end Go.Proofs.Ytofieekbhbkliaa.G
end
section
namespace Go.Proofs.Ytofieekbhbkliaa.G
open Go.RowKit Go.Proofs.YtofieekbhbkliaaW.PrintWords
set_option linter.unusedVariables false
set_option linter.unusedSimpArgs false
theorem of_ev (key : Int) (t : Tk) (ht : okT t = true) (vs : List Int) (hv : vs.all isVal = true) : Ev (fun k => spec_l5Of.f k key t.f0 t.f1 t.f2 vs) (key, onceL (runT vs t).2, (runT vs t).1) := by
  have h1 := runT_len vs (fits_of t (okT_fit ht))
  have h2 := okT_nod ht
  unfold spec_l5Of.f
  refine Ev.bind (l2Run_ev vs hv t (okT_fit ht) (by omega)) ?_
  exact Ev.bind (l5Once_ev _ (by omega)) (Ev.now _)
def TrDrawn (t : Trc) : Prop := t.f1.length ≤ 20 ∧ ∀ f ∈ t.f1, 0 ≤ f.f0 ∧ f.f0 ≤ 10
theorem trace_end {l : List Int} (hl : byteL l) (hlen : l.length ≤ 1048576) (p : Int) (h0 : 0 ≤ p) (h1 : p + 10 ≤ 1099511627776) (t : Trc) (ht : TrDrawn t) :
    ∃ (u : Trc) (p' : Int), Ev (fun k => spec_l91Trace.j1 k l p t.f0 t.f1 t.f2) (u.f0, u.f1, u.f2, p') ∧ p ≤ p' ∧ p' ≤ p + 2 ∧ TrDrawn u := by
  obtain ⟨v, hv, v0, v1, v2⟩ := pick_ev hl hlen p 20 h0 (by omega)
  by_cases hz : v = 0
  · obtain ⟨x, _, hx⟩ := num_ev hl hlen (p + 1) (by omega) (by omega) [97, -1, 0] (by simp)
    refine ⟨⟨t.f0, t.f1, x⟩, p + 1 + 1, ?_, by omega, by omega, ht⟩
    refine Ev.step (fun k => by rw [spec_l91Trace.j1]) ?_
    refine Ev.bind hv ?_
    simp only [if_pos hz]
    exact Ev.bind hx (Ev.now _)
  · refine ⟨t, p + 1, ?_, by omega, by omega, ht⟩
    refine Ev.step (fun k => by rw [spec_l91Trace.j1]) ?_
    refine Ev.bind hv ?_
    simp only [if_neg hz]
    exact Ev.now _
theorem trace_loop {l : List Int} (hl : byteL l) (hlen : l.length ≤ 1048576) : ∀ (d : Nat) (out : List Int) (p : Int), d ≤ 10 → out.length + d ≤ 10 → out.all isVal = true → 0 ≤ p → p + d + 3000 ≤ 1099511627776 →
    ∃ (u : Trc) (p' : Int), Ev (fun k => spec_l91Trace.l0 k out (d : Int) l p) (u.f0, u.f1, u.f2, p') ∧ p ≤ p' ∧ p' ≤ p + d + 200 ∧ TrDrawn u := by
  intro d
  induction d with
  | zero =>
    intro out p hd ho hv h0 h1
    obtain ⟨key, hk, k0, k1, k2⟩ := pick_ev hl hlen p 10 h0 (by omega)
    obtain ⟨t, p1, ht, a, b, hok⟩ := fit_ev hl hlen 10 (by omega) (p + 1) (by omega) (by omega)
    obtain ⟨c, hc, c0, c1, c2⟩ := pick_ev hl hlen p1 8 (by omega) (by omega)
    have hof := of_ev key t hok out hv
    have hlen1 := runT_len out (fits_of t (okT_fit hok))
    have hnod := okT_nod hok
    have hol := onceL_length (runT out t).2
    have hkeys : ∀ f ∈ onceL (runT out t).2, 0 ≤ f.f0 ∧ f.f0 ≤ 10 := by
      intro f hf
      have h := runT_keys hv (fits_of t (okT_fit hok)) f (onceL_mem _ f hf)
      omega
    by_cases hz : c = 0
    · obtain ⟨x, hx, x0, x1, x2⟩ := pick_ev hl hlen (p1 + 1) 11 (by omega) (by omega)
      obtain ⟨y, hy, y0, y1, y2⟩ := pick_ev hl hlen (p1 + 1 + 1) 5 (by omega) (by omega)
      have x3 := x1 (by omega)
      obtain ⟨u, p', hu, a2, b2, hd2⟩ := trace_end hl hlen (p1 + 1 + 1 + 1) (by omega) (by omega) ⟨key, onceL (runT out t).2 ++ [⟨x, y⟩], (runT out t).1⟩ ⟨by simp only [List.length_append, List.length_singleton]; omega, by
        intro f hf
        rcases List.mem_append.1 hf with hf | hf
        · exact hkeys f hf
        · simp only [List.mem_singleton] at hf
          subst hf
          simp only
          omega⟩
      refine ⟨u, p', ?_, by omega, by omega, hd2⟩
      refine Ev.step (fun k => by rw [spec_l91Trace.l0]) ?_
      simp only [if_neg (show ¬ (((0 : Nat) : Int) > 0) by omega)]
      refine Ev.bind hk (Ev.bind ht (Ev.bind hof (Ev.bind hc ?_)))
      simp only [if_pos hz]
      refine Ev.bind hx (Ev.bind hy ?_)
      simp only [if_pos (show (onceL (runT out t).2).length < 8796093022208 by omega)]
      exact hu
    · obtain ⟨u, p', hu, a2, b2, hd2⟩ := trace_end hl hlen (p1 + 1) (by omega) (by omega) ⟨key, onceL (runT out t).2, (runT out t).1⟩ ⟨by simp only; omega, hkeys⟩
      refine ⟨u, p', ?_, by omega, by omega, hd2⟩
      refine Ev.step (fun k => by rw [spec_l91Trace.l0]) ?_
      simp only [if_neg (show ¬ (((0 : Nat) : Int) > 0) by omega)]
      refine Ev.bind hk (Ev.bind ht (Ev.bind hof (Ev.bind hc ?_)))
      simp only [if_neg hz]
      exact hu
  | succ d ih =>
    intro out p hd ho hv h0 h1
    obtain ⟨x, hx, x0, x1, x2⟩ := pick_ev hl hlen p 5 h0 (by omega)
    have x3 := x1 (by omega)
    have hv2 : (out ++ [x]).all isVal = true := by
      rw [List.all_append, hv]
      simp [isVal]
      omega
    obtain ⟨u, p', hu, a, b, hd2⟩ := ih (out ++ [x]) (p + 1) (by omega) (by simp; omega) hv2 (by omega) (by omega)
    refine ⟨u, p', ?_, by omega, by omega, hd2⟩
    refine Ev.step (fun k => by rw [spec_l91Trace.l0]) ?_
    simp only [if_pos (show (((d + 1 : Nat) : Int) > 0) by omega)]
    refine Ev.bind hx ?_
    have ew : wrap64 (((d + 1 : Nat) : Int) - 1) = (d : Int) := by rw [wrap_id (((d + 1 : Nat) : Int) - 1) (by omega) (by omega)]; omega
    simp only [if_pos (show out.length < 17592186044416 by omega), ew]
    exact hu
theorem trace_ev {l : List Int} (hl : byteL l) (hlen : l.length ≤ 1048576) (p : Int) (h0 : 0 ≤ p) (h1 : p + 4000 ≤ 1099511627776) :
    ∃ (u : Trc) (p' : Int), Ev (fun k => spec_l91Trace.f k l p) (u.f0, u.f1, u.f2, p') ∧ p ≤ p' ∧ p' ≤ p + 300 ∧ TrDrawn u := by
  obtain ⟨v, hv, v0, v1, v2⟩ := pick_ev hl hlen p 11 h0 (by omega)
  have v3 := v1 (by omega)
  obtain ⟨d, rfl⟩ := Int.eq_ofNat_of_zero_le v0
  obtain ⟨u, p', hu, a, b, hd⟩ := trace_loop hl hlen d [] (p + 1) (by omega) (by simp; omega) (by rfl) (by omega) (by omega)
  refine ⟨u, p', ?_, by omega, by omega, hd⟩
  unfold spec_l91Trace.f
  exact Ev.bind hv hu
theorem traces_loop {l : List Int} (hl : byteL l) (hlen : l.length ≤ 1048576) : ∀ (d : Nat) (out : List Trc) (p : Int), d ≤ 10 → out.length + d ≤ 10 → (∀ t ∈ out, TrDrawn t) → 0 ≤ p → p + 300 * d + 4000 ≤ 1099511627776 →
    ∃ (ts : List Trc) (p' : Int), Ev (fun k => spec_l91Traces.l0 k out (d : Int) l p) (ts, p') ∧ p ≤ p' ∧ p' ≤ p + 300 * d ∧ ts.length ≤ 10 ∧ ∀ t ∈ ts, TrDrawn t := by
  intro d
  induction d with
  | zero =>
    intro out p hd ho hT h0 h1
    refine ⟨out, p, ?_, by omega, by omega, by omega, hT⟩
    refine Ev.step (fun k => by rw [spec_l91Traces.l0]) ?_
    simp only [if_neg (show ¬ (((0 : Nat) : Int) > 0) by omega)]
    exact Ev.now _
  | succ d ih =>
    intro out p hd ho hT h0 h1
    obtain ⟨u, p1, hu, a, b, hdu⟩ := trace_ev hl hlen p h0 (by omega)
    obtain ⟨ts, p', hts, a2, b2, c2, d2⟩ := ih (out ++ [u]) p1 (by omega) (by simp; omega) (fun t ht => by
      rcases List.mem_append.1 ht with ht | ht
      · exact hT t ht
      · simp only [List.mem_singleton] at ht
        exact ht ▸ hdu) (by omega) (by omega)
    refine ⟨ts, p', ?_, by omega, by omega, c2, d2⟩
    refine Ev.step (fun k => by rw [spec_l91Traces.l0]) ?_
    simp only [if_pos (show (((d + 1 : Nat) : Int) > 0) by omega)]
    refine Ev.bind hu ?_
    have ew : wrap64 (((d + 1 : Nat) : Int) - 1) = (d : Int) := by rw [wrap_id (((d + 1 : Nat) : Int) - 1) (by omega) (by omega)]; omega
    simp only [if_pos (show out.length < 3518437208883 by omega), ew]
    exact hts
theorem traces_ev {l : List Int} (hl : byteL l) (hlen : l.length ≤ 1048576) (p : Int) (h0 : 0 ≤ p) (h1 : p + 8000 ≤ 1099511627776) :
    ∃ (ts : List Trc) (p' : Int), Ev (fun k => spec_l91Traces.f k l p) (ts, p') ∧ p ≤ p' ∧ p' ≤ p + 2000 ∧ ts.length ≤ 10 ∧ ∀ t ∈ ts, TrDrawn t := by
  obtain ⟨v, hv, v0, v1, v2⟩ := pick_ev hl hlen p 6 h0 (by omega)
  have v3 := v1 (by omega)
  obtain ⟨d, rfl⟩ := Int.eq_ofNat_of_zero_le v0
  obtain ⟨ts, p', hts, a, b, c, e⟩ := traces_loop hl hlen d [] (p + 1) (by omega) (by simp; omega) (fun t ht => by cases ht) (by omega) (by omega)
  refine ⟨ts, p', ?_, by omega, by omega, c, e⟩
  unfold spec_l91Traces.f
  exact Ev.bind hv hts
end Go.Proofs.Ytofieekbhbkliaa.G
end
section
namespace Go.Proofs.Ytofieekbhbkliaa.G
open Go.RowKit Go.Proofs.YtofieekbhbkliaaW.PrintWords
set_option linter.unusedVariables false
set_option linter.unusedSimpArgs false
theorem rd_intH (l : List Int) (i : Nat) (h : i < l.length) : rd l (i : Int) = l[i] := by
  simp only [rd, Int.toNat_natCast, List.getD_eq_getElem?_getD, List.getElem?_eq_getElem h, Option.getD_some]
def valsOk (l : List Int) : Bool := decide (l.length ≤ 10) && l.all isVal
theorem implVals_ev (l : List Int) : impl_valuesOk.f l = some (valsOk l) := by
  unfold impl_valuesOk.f valsOk impl_areValues.f
  by_cases h : l.length ≤ 10
  · rw [if_pos (by omega)]; simp [h]
  · rw [if_neg (by omega)]; simp [h]
theorem specVals_ev (l : List Int) : Ev (fun k => spec_l2Values.f k l) (valsOk l) := by
  unfold spec_l2Values.f valsOk
  by_cases h : l.length ≤ 10
  · simp only [if_neg (show ¬ ((l.length : Int) > 10) by omega)]
    have h1 := allLoop l (fun k i => spec_l2Values.l0 k l i) (fun _ x => spec_l6In.f x 0 96) isVal
      (fun k => by simp only [spec_l2Values.l0, if_neg (show ¬ ((l.length : Int) < (l.length : Int)) by omega)])
      (fun k i hi => by simp only [spec_l2Values.l0, if_pos (show (i : Int) < (l.length : Int) by omega), if_pos (show (0 : Int) ≤ (i : Int) by omega), rd_intH l i hi, wrap_nat i (by omega)])
      (fun x hx => Ev.of_eq (by
        unfold spec_l6In.f isVal
        by_cases g : x ≥ 0
        · rw [if_pos g]; simp only [ge_iff_le] at g; simp [g]
        · rw [if_neg g]; simp only [ge_iff_le] at g; simp [g]))
      l.length 0 (by omega) (by omega)
    refine Ev.eq h1 ?_
    simp [h]
  · simp only [if_pos (show (l.length : Int) > 10 by omega)]
    refine Ev.eq (Ev.now false) ?_
    simp [h]
theorem l2Of_ev (l : List Int) (k : Int) (h : 0 ≤ k) : spec_l2Of.f l k = some (atV l k) := by
  unfold spec_l2Of.f atV
  by_cases h2 : k < (l.length : Int)
  · rw [if_pos h2, if_pos h, if_pos ⟨h, h2⟩]
  · rw [if_neg h2, if_neg (by omega)]
theorem trOk_keys {t : Trc} (h : trOk t = true) : ∀ f ∈ t.f1, 0 ≤ f.f0 ∧ f.f0 < 10 := by
  simp only [trOk, Bool.and_eq_true, decide_eq_true_eq] at h
  intro f hf
  have h2 := List.all_eq_true.1 h.2 f hf
  simp only [fkOk, Bool.and_eq_true, decide_eq_true_eq] at h2
  exact h2.1
theorem specHolds_ev (t : Trc) (l : List Int) (h : ∀ f ∈ t.f1, 0 ≤ f.f0) (hl : t.f1.length ≤ 4000000000) : Ev (fun k => spec_l5Holds.f k t.f0 t.f1 t.f2 l) (holdsL t.f1 l) := by
  unfold spec_l5Holds.f
  have h1 := allLoop t.f1 (fun k i => spec_l5Holds.l0 k l i t.f0 t.f1 t.f2) (fun _ f => (spec_l2Of.f l f.f0).bind fun v => some (decide (v = f.f1))) (fun f => decide (atV l f.f0 = f.f1))
      (fun k => by simp only [spec_l5Holds.l0, if_neg (show ¬ ((t.f1.length : Int) < (t.f1.length : Int)) by omega)])
      (fun k i hi => by simp only [spec_l5Holds.l0, if_pos (show (i : Int) < (t.f1.length : Int) by omega), if_pos (show (0 : Int) ≤ (i : Int) by omega), rd_fk t.f1 i hi, wrap_nat i (by omega), Option.bind_assoc, Option.bind_some, decide_eq_true_eq])
      (fun f hf => Ev.of_eq (by rw [l2Of_ev l f.f0 (h f hf)]; rfl))
      t.f1.length 0 (by omega) (by omega)
  refine Ev.eq h1 ?_
  rw [List.drop_zero, holdsL, List.all_eq_not_any_not]
  congr 1
def holdsT (t : Trc) (l : List Int) : Bool := trOk t && (valsOk l && holdsL t.f1 l)
theorem implTH_ev (t : Trc) (l : List Int) (hl : t.f1.length < 8796093022208) : impl_TraceHolds.f t.f0 t.f1 t.f2 l = some (holdsT t l) := by
  unfold impl_TraceHolds.f holdsT
  rw [implTr_ev t hl, Option.bind_some]
  cases ht : trOk t with
  | false => simp
  | true =>
    rw [implVals_ev, Option.bind_some]
    cases hv : valsOk l with
    | false => simp
    | true => simp [impl_Trace_holds.f]
end Go.Proofs.Ytofieekbhbkliaa.G
end
section
namespace Go.Proofs.Ytofieekbhbkliaa.G
open Go.RowKit Go.Proofs.YtofieekbhbkliaaW.PrintWords
set_option linter.unusedVariables false
set_option linter.unusedSimpArgs false
def firstT (l : List Trc) (key : Int) (vs : List Int) : Option Trc := l.find? fun t => decide (t.f0 = key) && holdsL t.f1 vs
def findR (l : List Trc) (key : Int) (vs : List Int) : Int × List Fk × Int × Bool :=
  if trsOk l = true ∧ valsOk vs = true then
    match firstT l key vs with
    | some t => (t.f0, t.f1, t.f2, true)
    | none => (0, [], 0, false)
  else (0, [], 0, false)
theorem trsOk_len {l : List Trc} (h : trsOk l = true) : l.length ≤ 60 := by
  simp only [trsOk, Bool.and_eq_true, decide_eq_true_eq] at h
  exact h.1
theorem trsOk_mem {l : List Trc} (h : trsOk l = true) : ∀ t ∈ l, trOk t = true := by
  simp only [trsOk, Bool.and_eq_true] at h
  exact List.all_eq_true.1 h.2
theorem find_loop (l : List Trc) (key : Int) (vs : List Int) (ho : trsOk l = true) : ∀ (d i : Nat), d = l.length - i → i ≤ l.length →
    ∃ r, Ev (fun k => spec_l5Find.l0 k l key vs (i : Int)) r ∧ ((r = -1 ∧ firstT (l.drop i) key vs = none) ∨ ∃ (j : Nat) (h : j < l.length), r = (j : Int) ∧ firstT (l.drop i) key vs = some l[j]) := by
  intro d
  induction d with
  | zero =>
    intro i hd hi
    have e : i = l.length := by omega
    subst e
    refine ⟨-1, ?_, .inl ⟨rfl, by rw [List.drop_length]; rfl⟩⟩
    refine Ev.step (fun k => by rw [spec_l5Find.l0]) ?_
    simp only [if_neg (show ¬ ((l.length : Int) < (l.length : Int)) by omega)]
    exact Ev.now _
  | succ d ih =>
    intro i hd hi
    have hlt : i < l.length := by omega
    have hmem := trsOk_mem ho _ (List.getElem_mem hlt)
    have hll := trsOk_len ho
    obtain ⟨r, hr, hc⟩ := ih (i + 1) (by omega) (by omega)
    have hdrop : firstT (l.drop i) key vs = if (decide (l[i].f0 = key) && holdsL l[i].f1 vs) = true then some l[i] else firstT (l.drop (i + 1)) key vs := by
      rw [drop_tk l i hlt, firstT, List.find?_cons]
      cases decide (l[i].f0 = key) && holdsL l[i].f1 vs <;> rfl
    by_cases hk : l[i].f0 = key
    · cases hh : holdsL l[i].f1 vs with
      | true =>
        refine ⟨(i : Int), ?_, .inr ⟨i, hlt, rfl, by rw [hdrop, if_pos (by simp [hk, hh])]⟩⟩
        refine Ev.step (fun k => by rw [spec_l5Find.l0]) ?_
        simp only [if_pos (show (i : Int) < (l.length : Int) by omega), if_pos (show (0 : Int) ≤ (i : Int) by omega), rd_trc l i hlt, if_pos hk]
        refine Ev.bind (specHolds_ev l[i] vs (fun f hf => (trOk_keys hmem f hf).1) (by have := trOk_len hmem; omega)) ?_
        rw [hh]
        simp only [if_true]
        exact Ev.now _
      | false =>
        refine ⟨r, ?_, by rw [hdrop, if_neg (by simp [hh])]; exact hc⟩
        refine Ev.step (fun k => by rw [spec_l5Find.l0]) ?_
        simp only [if_pos (show (i : Int) < (l.length : Int) by omega), if_pos (show (0 : Int) ≤ (i : Int) by omega), rd_trc l i hlt, if_pos hk]
        refine Ev.bind (specHolds_ev l[i] vs (fun f hf => (trOk_keys hmem f hf).1) (by have := trOk_len hmem; omega)) ?_
        rw [hh]
        simp only [Bool.false_eq_true, if_false, wrap_nat i (by omega)]
        exact hr
    · refine ⟨r, ?_, by rw [hdrop, if_neg (by simp [hk])]; exact hc⟩
      refine Ev.step (fun k => by rw [spec_l5Find.l0]) ?_
      simp only [if_pos (show (i : Int) < (l.length : Int) by omega), if_pos (show (0 : Int) ≤ (i : Int) by omega), rd_trc l i hlt, if_neg hk, wrap_nat i (by omega)]
      exact hr
theorem specFind_ev (l : List Trc) (key : Int) (vs : List Int) : Ev (fun k => spec_TracesFind.f k l key vs) (findR l key vs) := by
  unfold spec_TracesFind.f
  refine Ev.bind (specTrs_ev l) ?_
  have bad : ¬ (trsOk l = true ∧ valsOk vs = true) → Ev (fun k => spec_TracesFind.j0 k l key vs true) (findR l key vs) := by
    intro hn
    refine Ev.step (fun k => by rw [spec_TracesFind.j0]) ?_
    simp only [if_true]
    exact Ev.eq (Ev.now _) (by rw [findR, if_neg hn])
  cases ht : trsOk l with
  | false =>
    simp only [Bool.false_eq_true, if_false]
    exact bad (by simp [ht])
  | true =>
    simp only [if_true]
    refine Ev.bind (specVals_ev vs) ?_
    cases hv : valsOk vs with
    | false => exact bad (by simp [hv])
    | true =>
      simp only [Bool.not_true]
      refine Ev.step (fun k => by rw [spec_TracesFind.j0]) ?_
      simp only [Bool.false_eq_true, if_false]
      obtain ⟨r, hr, hc⟩ := find_loop l key vs ht l.length 0 (by omega) (by omega)
      have hf : Ev (fun k => spec_l5Find.f k l key vs) r := by unfold spec_l5Find.f; exact hr
      refine Ev.bind hf ?_
      rw [List.drop_zero] at hc
      rcases hc with ⟨rfl, hn⟩ | ⟨j, hj, rfl, hs⟩
      · simp only [if_pos (show (-1 : Int) < 0 by omega)]
        exact Ev.eq (Ev.now _) (by rw [findR, if_pos ⟨ht, hv⟩, hn])
      · have hlen := trOk_len (trsOk_mem ht _ (List.getElem_mem hj))
        simp only [if_neg (show ¬ ((j : Int) < 0) by omega), if_pos (show (0 : Int) ≤ (j : Int) by omega), if_pos (show (j : Int) < (l.length : Int) by omega), rd_trc l j hj, spec_l5Copy.f, Option.bind_some, List.length_nil, Nat.zero_add, if_pos (show l[j].f1.length < 8796093022208 by omega), List.nil_append]
        exact Ev.eq (Ev.now _) (by rw [findR, if_pos ⟨ht, hv⟩, hs])
theorem findI_loop (l : List Trc) (key : Int) (vs : List Int) (hl : l.length ≤ 60) (hT : ∀ t ∈ l, t.f1.length < 8796093022208) : ∀ (d i : Nat), d = l.length - i → i ≤ l.length →
    Ev (fun k => impl_TracesFind.l0 k key vs l (l.length : Int) (i : Int)) (match firstT (l.drop i) key vs with | some t => (t.f0, t.f1, t.f2, true) | none => (0, [], 0, false)) := by
  intro d
  induction d with
  | zero =>
    intro i hd hi
    have e : i = l.length := by omega
    subst e
    refine Ev.step (fun k => by rw [impl_TracesFind.l0]) ?_
    simp only [if_neg (show ¬ ((l.length : Int) < (l.length : Int)) by omega)]
    exact Ev.eq (Ev.now _) (by rw [List.drop_length]; rfl)
  | succ d ih =>
    intro i hd hi
    have hlt : i < l.length := by omega
    have hll := hT _ (List.getElem_mem hlt)
    have hr := ih (i + 1) (by omega) (by omega)
    have hdrop : firstT (l.drop i) key vs = if (decide (l[i].f0 = key) && holdsL l[i].f1 vs) = true then some l[i] else firstT (l.drop (i + 1)) key vs := by
      rw [drop_tk l i hlt, firstT, List.find?_cons]
      cases decide (l[i].f0 = key) && holdsL l[i].f1 vs <;> rfl
    refine Ev.step (fun k => by rw [impl_TracesFind.l0]) ?_
    simp only [if_pos (show (i : Int) < (l.length : Int) by omega), if_pos (show (0 : Int) ≤ (i : Int) by omega), rd_trc l i hlt, wrap_nat i (by omega)]
    by_cases hk : l[i].f0 = key
    · simp only [if_pos hk, impl_Trace_holds.f, Option.bind_some]
      cases hh : holdsL l[i].f1 vs with
      | true =>
        simp only [if_true, impl_Trace_copy.f, slices_Clone_Fetch.f, if_pos hll, Option.bind_some]
        exact Ev.eq (Ev.now _) (by rw [hdrop, if_pos (by simp [hk, hh])])
      | false =>
        simp only [Bool.false_eq_true, if_false]
        exact Ev.eq hr (by rw [hdrop, if_neg (by simp [hh])])
    · simp only [if_neg hk]
      exact Ev.eq hr (by rw [hdrop, if_neg (by simp [hk])])
theorem implFind_ev (l : List Trc) (key : Int) (vs : List Int) (hT : ∀ t ∈ l, t.f1.length < 8796093022208) : Ev (fun k => impl_TracesFind.f k l key vs) (findR l key vs) := by
  unfold impl_TracesFind.f
  refine Ev.bind (Ev.of_eq (implTrs_ev l hT)) ?_
  have bad : ¬ (trsOk l = true ∧ valsOk vs = true) → Ev (fun k => impl_TracesFind.j0 k l key vs true) (findR l key vs) := by
    intro hn
    refine Ev.step (fun k => by rw [impl_TracesFind.j0]) ?_
    simp only [if_true]
    exact Ev.eq (Ev.now _) (by rw [findR, if_neg hn])
  cases ht : trsOk l with
  | false =>
    simp only [Bool.false_eq_true, if_false]
    exact bad (by simp [ht])
  | true =>
    simp only [if_true, implVals_ev, Option.bind_some]
    cases hv : valsOk vs with
    | false => exact bad (by simp [hv])
    | true =>
      simp only [Bool.not_true]
      refine Ev.step (fun k => by rw [impl_TracesFind.j0]) ?_
      simp only [Bool.false_eq_true, if_false]
      have h := findI_loop l key vs (trsOk_len ht) hT l.length 0 (by omega) (by omega)
      refine Ev.eq h ?_
      rw [findR, if_pos ⟨ht, hv⟩, List.drop_zero]
theorem findR_len (l : List Trc) (key : Int) (vs : List Int) : (findR l key vs).2.1.length ≤ 10 := by
  unfold findR
  split
  · rename_i h
    cases hf : firstT l key vs with
    | none => simp
    | some t =>
      have hm : t ∈ l := List.mem_of_find?_eq_some hf
      exact trOk_len (trsOk_mem h.1 t hm)
  · simp
theorem brFetchesT (l : List Fk) (hl : l.length ≤ 4000000000) : Ev (fun k => laws_brFetches.f k l l) true := by
  unfold laws_brFetches.f
  simp only [if_true]
  exact eqLoop l (fun k i => laws_brFetches.l0 k l l i) (fun _ x => some true)
    (fun k => by simp only [laws_brFetches.l0, if_neg (show ¬ ((l.length : Int) < (l.length : Int)) by omega)])
    (fun k i hi => by simp only [laws_brFetches.l0, if_pos (show (i : Int) < (l.length : Int) by omega), if_pos (show (0 : Int) ≤ (i : Int) by omega), rd_fk l i hi, wrap_nat i (by omega), Option.bind_some, if_true, beq_self_eq_true, Bool.not_true, Bool.or_self, Bool.false_eq_true, if_false])
    (fun x hx => Ev.of_eq rfl)
theorem brTrace_self (a : Int) (l : List Fk) (b : Int) (hl : l.length ≤ 4000000000) : Ev (fun k => laws_brTrace.f k a l b a l b) true := by
  unfold laws_brTrace.f
  simp only [if_true]
  exact Ev.bind (brFetchesT l hl) (Ev.now _)
end Go.Proofs.Ytofieekbhbkliaa.G
end
section
namespace Go.Proofs.Ytofieekbhbkliaa.G
open Go.RowKit Go.Proofs.YtofieekbhbkliaaW.PrintWords
set_option linter.unusedVariables false
set_option linter.unusedSimpArgs false
theorem back_loop (t : Trc) (hk : ∀ f ∈ t.f1, 0 ≤ f.f0 ∧ f.f0 < 10) (hl : t.f1.length ≤ 1000) : ∀ (d i : Nat) (arr : List Int), d = t.f1.length - i → i ≤ t.f1.length → arr.length = 10 →
    ∃ arr', Ev (fun k => spec_l5Back.l0 k arr (i : Int) t.f0 t.f1 t.f2) arr' ∧ arr'.length = 10 := by
  intro d
  induction d with
  | zero =>
    intro i arr hd hi ha
    have e : i = t.f1.length := by omega
    subst e
    refine ⟨arr, ?_, ha⟩
    refine Ev.step (fun k => by rw [spec_l5Back.l0]) ?_
    simp only [if_neg (show ¬ ((t.f1.length : Int) < (t.f1.length : Int)) by omega)]
    exact Ev.now _
  | succ d ih =>
    intro i arr hd hi ha
    have hlt : i < t.f1.length := by omega
    have hkk := hk _ (List.getElem_mem hlt)
    obtain ⟨arr', h1, h2⟩ := ih (i + 1) (arr.set (t.f1[i].f0).toNat t.f1[i].f1) (by omega) (by omega) (by rw [List.length_set]; exact ha)
    refine ⟨arr', ?_, h2⟩
    refine Ev.step (fun k => by rw [spec_l5Back.l0]) ?_
    simp only [if_pos (show (i : Int) < (t.f1.length : Int) by omega), if_pos (show (0 : Int) ≤ (i : Int) by omega), rd_fk t.f1 i hlt, if_pos hkk.1, if_pos (show t.f1[i].f0 < (arr.length : Int) by omega), wrap_nat i (by omega)]
    exact h1
theorem back_ev (t : Trc) (ht : trOk t = true) : ∃ arr, Ev (fun k => spec_l5Back.f k t.f0 t.f1 t.f2) arr ∧ arr.length = 10 := by
  obtain ⟨arr, h1, h2⟩ := back_loop t (trOk_keys ht) (by have := trOk_len ht; omega) t.f1.length 0 (List.replicate 10 0) (by omega) (by omega) (by simp)
  refine ⟨arr, ?_, h2⟩
  unfold spec_l5Back.f
  simp only [if_pos (show 10 ≤ 35184372088832 by omega)]
  exact h1
theorem draw_find {l : List Int} (hl : byteL l) (h20 : ¬ (l.length : Int) > 1048576) : ∃ (ts : List Trc) (key : Int) (vs : List Int), Ev (fun k => spec_DrawTracesFind.f k l) (ts, key, vs) ∧ ∀ t ∈ ts, TrDrawn t := by
  obtain ⟨l', ho, hl', hlen'⟩ := open_ev hl
  obtain ⟨ts, p', hts, a, b, hn, hT⟩ := traces_ev hl' (by omega) 0 (by omega) (by omega)
  obtain ⟨key, hkey, k0, k1, k2⟩ := pick_ev hl' (by omega) p' 10 (by omega) (by omega)
  obtain ⟨vs, p2, hvs, a2, b2, hvl⟩ := values_ev hl' (by omega) (p' + 1) (by omega) (by omega)
  have plain : ∀ p, Ev (fun k => spec_DrawTracesFind.j0 k ts key vs false l' p) (ts, key, vs) := by
    intro p
    refine Ev.step (fun k => by rw [spec_DrawTracesFind.j0]) ?_
    simp only [Bool.false_eq_true, if_false]
    exact Ev.now _
  by_cases hz : (ts.length : Int) > 0
  · obtain ⟨v, hv, v0, v1, v2⟩ := pick_ev hl' (by omega) p2 3 (by omega) (by omega)
    by_cases h3 : v > 0
    · obtain ⟨j, hj, j0, j1, j2⟩ := pick_ev hl' (by omega) (p2 + 1) (ts.length : Int) (by omega) (by omega)
      have j3 := j1 (by omega)
      obtain ⟨jn, rfl⟩ := Int.eq_ofNat_of_zero_le j0
      have hjl : jn < ts.length := by omega
      have hj0 : ∀ r : List Trc × Int × List Int, Ev (fun k => (spec_l5One.f k ts[jn].f0 ts[jn].f1 ts[jn].f2).bind fun t690 => if t690 = true then (spec_l5Back.f k ts[jn].f0 ts[jn].f1 ts[jn].f2).bind fun t691 => some (ts, ts[jn].f0, t691) else some (ts, ts[jn].f0, vs)) r → Ev (fun k => spec_DrawTracesFind.f k l) r := by
        intro r h
        unfold spec_DrawTracesFind.f
        refine Ev.bind (Ev.of_eq ho) (Ev.bind hts (Ev.bind hkey (Ev.bind hvs ?_)))
        simp only [if_pos hz]
        refine Ev.bind hv ?_
        simp only [decide_eq_true h3]
        refine Ev.step (fun k => by rw [spec_DrawTracesFind.j0]) ?_
        simp only [if_true]
        refine Ev.bind hj ?_
        simp only [if_pos (show (0 : Int) ≤ (jn : Int) by omega), if_pos j3, rd_trc ts jn hjl]
        exact h
      cases hok : trOk ts[jn] with
      | true =>
        obtain ⟨arr, ha, _⟩ := back_ev ts[jn] hok
        refine ⟨ts, ts[jn].f0, arr, hj0 _ ?_, hT⟩
        refine Ev.bind (l5One_ev ts[jn]) ?_
        rw [hok]
        simp only [if_true]
        exact Ev.bind ha (Ev.now _)
      | false =>
        refine ⟨ts, ts[jn].f0, vs, hj0 _ ?_, hT⟩
        refine Ev.bind (l5One_ev ts[jn]) ?_
        rw [hok]
        simp only [Bool.false_eq_true, if_false]
        exact Ev.now _
    · refine ⟨ts, key, vs, ?_, hT⟩
      unfold spec_DrawTracesFind.f
      refine Ev.bind (Ev.of_eq ho) (Ev.bind hts (Ev.bind hkey (Ev.bind hvs ?_)))
      simp only [if_pos hz]
      refine Ev.bind hv ?_
      simp only [decide_eq_false h3]
      exact plain _
  · refine ⟨ts, key, vs, ?_, hT⟩
    unfold spec_DrawTracesFind.f
    refine Ev.bind (Ev.of_eq ho) (Ev.bind hts (Ev.bind hkey (Ev.bind hvs ?_)))
    simp only [if_neg hz]
    exact plain _
theorem ev_FnTracesFind (l : List Int) (hl : byteL l) : Ev (fun k => laws_FnTracesFind.f k l) true := by
  unfold laws_FnTracesFind.f
  by_cases h20 : (l.length : Int) > 1048576
  · simp only [if_pos h20]; exact Ev.now true
  · simp only [if_neg h20]
    obtain ⟨ts, key, vs, hd, hT⟩ := draw_find hl h20
    have hT' : ∀ t ∈ ts, t.f1.length < 8796093022208 := fun t ht => by have := (hT t ht).1; omega
    refine Ev.bind hd ?_
    refine Ev.bind (implFind_ev ts key vs hT') ?_
    refine Ev.bind (specFind_ev ts key vs) ?_
    have hlen := findR_len ts key vs
    refine Ev.bind (brTrace_self (findR ts key vs).1 (findR ts key vs).2.1 (findR ts key vs).2.2.1 (by omega)) ?_
    simp only [if_true, bne_self_eq_false, Bool.false_eq_true, if_false]
    by_cases hok : trsOk ts = true ∧ valsOk vs = true
    · cases hf : firstT ts key vs with
      | none =>
        have e : findR ts key vs = (0, [], 0, false) := by rw [findR, if_pos hok, hf]
        rw [e]
        simp only [Bool.false_eq_true, if_false]
        exact Ev.now true
      | some t =>
        have e : findR ts key vs = (t.f0, t.f1, t.f2, true) := by rw [findR, if_pos hok, hf]
        rw [e]
        have hm : t ∈ ts := List.mem_of_find?_eq_some hf
        have hp := List.find?_some hf
        simp only [Bool.and_eq_true, decide_eq_true_eq] at hp
        simp only [if_true, if_pos hp.1]
        have hth := implTH_ev t vs (hT' t hm)
        have e2 : holdsT t vs = true := by
          simp only [holdsT, Bool.and_eq_true]
          exact ⟨trsOk_mem hok.1 t hm, hok.2, hp.2⟩
        rw [e2] at hth
        refine Ev.of_eq ?_
        rw [hth]
        rfl
    · have e : findR ts key vs = (0, [], 0, false) := by rw [findR, if_neg hok]
      rw [e]
      simp only [Bool.false_eq_true, if_false]
      exact Ev.now true
end Go.Proofs.Ytofieekbhbkliaa.G
namespace Go.Proofs.Ytofieekbhbkliaa.Pure
open Go.RowKit Go.Proofs.Ytofieekbhbkliaa.G Go.Proofs.YtofieekbhbkliaaW.PrintWords Go.Proofs.YtofieekbhbkliaaW.PrintLast
theorem FnTracesFind : laws_FnTracesFind.Pure := fun l0 _ _ hw => Ev.rounds (ev_FnTracesFind l0 (byteL_of hw))
end Go.Proofs.Ytofieekbhbkliaa.Pure
end
