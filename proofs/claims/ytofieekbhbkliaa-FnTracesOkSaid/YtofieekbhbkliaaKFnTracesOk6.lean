-- Written by pack.py (ours): the claim's texts, cut down to what its theorem reaches.
import Derived.Test.YtofieekbhbkliaaKFnTracesOk5
section
namespace Go.Proofs.Ytofieekbhbkliaa.G
open Go.RowKit Go.Proofs.YtofieekbhbkliaaW.PrintWords
set_option linter.unusedVariables false
set_option linter.unusedSimpArgs false
abbrev Trc := S29
theorem rd_fk (l : List Fk) (i : Nat) (h : i < l.length) : rd_T108 l (i : Int) = l[i] := by
  simp only [rd_T108, Int.toNat_natCast, List.getD_eq_getElem?_getD, List.getElem?_eq_getElem h, Option.getD_some]
theorem rd_trc (l : List Trc) (i : Nat) (h : i < l.length) : rd_T29 l (i : Int) = l[i] := by
  simp only [rd_T29, Int.toNat_natCast, List.getD_eq_getElem?_getD, List.getElem?_eq_getElem h, Option.getD_some]
def fkOk (f : Fk) : Bool := decide (0 ≤ f.f0 ∧ f.f0 < 10) && decide (0 ≤ f.f1 ∧ f.f1 ≤ 96)
def trOk (t : Trc) : Bool := ((decide (0 ≤ t.f0 ∧ t.f0 < 10) && decide (0 ≤ t.f2 ∧ t.f2 ≤ 96)) && decide ((onceL t.f1).length = t.f1.length)) && t.f1.all fkOk
theorem onceF_nodup (out : List Fk) (f : Fk) (h : (out.map (·.f0)).Nodup) : ((onceF out f).map (·.f0)).Nodup := by
  unfold onceF
  split
  · exact h
  · rename_i hn
    rw [List.map_append, List.map_singleton, List.nodup_append]
    refine ⟨h, by simp, ?_⟩
    intro a ha b hb
    have hb' : b = f.f0 := by simpa using hb
    subst hb'
    rintro rfl
    apply hn
    obtain ⟨g, hg, he⟩ := List.mem_map.1 ha
    exact List.any_eq_true.2 ⟨g, hg, by simp [he]⟩
theorem onceF_mem (out : List Fk) (f g : Fk) (h : g ∈ onceF out f) : g ∈ out ∨ g = f := by
  unfold onceF at h
  split at h
  · exact .inl h
  · simpa using h
theorem fold_once (l : List Fk) : ∀ out : List Fk, (out.map (·.f0)).Nodup → ((l.foldl onceF out).map (·.f0)).Nodup ∧ ∀ g ∈ l.foldl onceF out, g ∈ out ∨ g ∈ l := by
  induction l with
  | nil => intro out h; exact ⟨h, fun g hg => .inl hg⟩
  | cons f l ih =>
    intro out h
    obtain ⟨h1, h2⟩ := ih (onceF out f) (onceF_nodup out f h)
    refine ⟨h1, fun g hg => ?_⟩
    rcases h2 g hg with h3 | h3
    · rcases onceF_mem out f g h3 with h4 | h4
      · exact .inl h4
      · exact .inr (by simp [h4])
    · exact .inr (by simp [h3])
theorem onceL_nodup (l : List Fk) : ((onceL l).map (·.f0)).Nodup := (fold_once l [] (by simp)).1
theorem onceL_mem (l : List Fk) : ∀ g ∈ onceL l, g ∈ l := by
  intro g hg
  rcases (fold_once l [] (by simp)).2 g hg with h | h
  · cases h
  · exact h
theorem onceL_length (l : List Fk) : (onceL l).length ≤ l.length := by
  have := onceL_len l l.length (Nat.le_refl _)
  rwa [List.take_length] at this
theorem few_keys : ∀ (n : Nat) (l : List Int), l.Nodup → (∀ x ∈ l, 0 ≤ x ∧ x < (n : Int)) → l.length ≤ n := by
  intro n
  induction n with
  | zero =>
    intro l _ h
    cases l with
    | nil => simp
    | cons x xs => have := h x (by simp); omega
  | succ n ih =>
    intro l hn h
    by_cases hm : (n : Int) ∈ l
    · have h1 := List.length_erase_of_mem hm
      have h2 : ∀ x ∈ l.erase (n : Int), 0 ≤ x ∧ x < (n : Int) := by
        intro x hx
        have h3 := (List.Nodup.mem_erase_iff hn).1 hx
        have h4 := h x h3.2
        have h5 := h3.1
        omega
      have h6 := ih _ (hn.erase (n : Int)) h2
      have h7 : 0 < l.length := List.length_pos_of_mem hm
      omega
    · have h2 : ∀ x ∈ l, 0 ≤ x ∧ x < (n : Int) := by
        intro x hx
        have h4 := h x hx
        have h5 : x ≠ (n : Int) := fun e => hm (e ▸ hx)
        omega
      have := ih l hn h2
      omega
theorem trOk_len {t : Trc} (h : trOk t = true) : t.f1.length ≤ 10 := by
  simp only [trOk, Bool.and_eq_true, decide_eq_true_eq] at h
  have h1 := few_keys 10 ((onceL t.f1).map (·.f0)) (onceL_nodup t.f1) (fun x hx => by
    obtain ⟨g, hg, rfl⟩ := List.mem_map.1 hx
    have h2 := List.all_eq_true.1 h.2 g (onceL_mem t.f1 g hg)
    simp only [fkOk, Bool.and_eq_true, decide_eq_true_eq] at h2
    exact h2.1)
  rw [List.length_map] at h1
  omega
theorem implFk_ev (a b : Int) : impl_Trace_ok_1.f a b = some (!fkOk ⟨a, b⟩) := by
  unfold impl_Trace_ok_1.f fkOk
  simp only [isKey_ev, isValue_ev, Option.bind_some]
  by_cases h : 0 ≤ a ∧ a < 10
  · simp [h]
  · simp [h]
theorem implFks_ev (l : List Fk) : impl_Trace_ok_1_any.f l = some (!(l.all fkOk)) := by
  unfold impl_Trace_ok_1_any.f
  rw [if_pos (fun x _ => by rw [implFk_ev]; rfl)]
  congr 1
  rw [List.all_eq_not_any_not, Bool.not_not]
  congr 1
  funext x
  rw [implFk_ev]
  rfl
theorem implTr_ev (t : Trc) (h : t.f1.length < 8796093022208) : impl_Trace_ok.f t.f0 t.f1 t.f2 = some (trOk t) := by
  unfold impl_Trace_ok.f trOk
  simp only [isKey_ev, isValue_ev, Option.bind_some, impl_once.f, if_pos h, implFks_ev, Bool.not_not]
  have e : ((onceL t.f1).length : Int) = (t.f1.length : Int) ↔ (onceL t.f1).length = t.f1.length := by omega
  simp only [e]
  by_cases h1 : 0 ≤ t.f0 ∧ t.f0 < 10
  · by_cases h2 : 0 ≤ t.f2 ∧ t.f2 ≤ 96
    · by_cases h3 : (onceL t.f1).length = t.f1.length
      · simp [h1, h2, h3]
      · simp [h1, h2, h3]
    · simp [h1, h2]
  · simp [h1]
def trsOk (l : List Trc) : Bool := decide (l.length ≤ 60) && l.all trOk
theorem implTrs_ev (l : List Trc) (h : ∀ t ∈ l, t.f1.length < 8796093022208) : impl_TracesOk.f l = some (trsOk l) := by
  have h1 : ∀ t ∈ l, impl_TracesOk_1.f t.f0 t.f1 t.f2 = some (!trOk t) := by
    intro t ht
    unfold impl_TracesOk_1.f
    rw [implTr_ev t (h t ht), Option.bind_some]
  have h2 : impl_TracesOk_1_any.f l = some (!(l.all trOk)) := by
    unfold impl_TracesOk_1_any.f
    rw [if_pos (fun x hx => by rw [h1 x hx]; rfl)]
    congr 1
    rw [List.all_eq_not_any_not, Bool.not_not]
    clear h
    induction l with
    | nil => rfl
    | cons t l ih =>
      simp only [List.any_cons]
      rw [h1 t (by simp), ih (fun x hx => h1 x (by simp [hx]))]
      rfl
  unfold impl_TracesOk.f trsOk
  by_cases hl : l.length ≤ 60
  · rw [if_pos (by omega), h2]
    simp [hl]
  · rw [if_neg (by omega)]
    simp [hl]
theorem l5Once_inner (l out : List Fk) (i : Nat) (hi : i < l.length) (hol : out.length ≤ 4000000000) (rest : Ev (fun k => spec_l5Once.l0 k l (onceF out l[i]) (wrap64 ((i : Int) + 1))) (onceL l)) :
    ∀ (d j : Nat) (b : Bool), d = out.length - j → j ≤ out.length → (b || (out.drop j).any fun g => g.f0 == l[i].f0) = (out.any fun g => g.f0 == l[i].f0) → Ev (fun k => spec_l5Once.l1 k l out (i : Int) b (j : Int)) (onceL l) := by
  intro d
  induction d with
  | zero =>
    intro j b hd hj hb
    have e : j = out.length := by omega
    subst e
    rw [List.drop_length, List.any_nil, Bool.or_false] at hb
    refine Ev.step (fun k => by rw [spec_l5Once.l1]) ?_
    simp only [if_neg (show ¬ ((out.length : Int) < (out.length : Int)) by omega)]
    unfold onceF at rest
    cases b with
    | true =>
      rw [if_pos hb.symm] at rest
      simp only [if_true]
      exact rest
    | false =>
      rw [if_neg (by rw [← hb]; decide)] at rest
      simp only [Bool.false_eq_true, if_false, if_pos (show (0 : Int) ≤ (i : Int) by omega), if_pos (show (i : Int) < (l.length : Int) by omega), if_pos (show out.length < 8796093022208 by omega), rd_fk l i hi]
      exact rest
  | succ d ihd =>
    intro j b hd hj hb
    have hlt : j < out.length := by omega
    refine Ev.step (fun k => by rw [spec_l5Once.l1]) ?_
    rw [drop_tk out j hlt, List.any_cons] at hb
    simp only [if_pos (show (j : Int) < (out.length : Int) by omega), wrap_nat j (by omega)]
    cases b with
    | true =>
      simp only [if_true]
      exact ihd (j + 1) true (by omega) (by omega) (by rw [← hb]; simp)
    | false =>
      simp only [Bool.false_eq_true, if_false, if_pos (show (0 : Int) ≤ (j : Int) by omega), if_pos (show (0 : Int) ≤ (i : Int) by omega), if_pos (show (i : Int) < (l.length : Int) by omega), rd_fk l i hi, rd_fk out j hlt]
      exact ihd (j + 1) _ (by omega) (by omega) (by rw [← hb, Bool.false_or])
theorem l5Once_loop (l : List Fk) (hl : l.length ≤ 4000000000) : ∀ (d i : Nat), d = l.length - i → i ≤ l.length → Ev (fun k => spec_l5Once.l0 k l ((l.take i).foldl onceF []) (i : Int)) (onceL l) := by
  intro d
  induction d with
  | zero =>
    intro i hd hi
    have e : i = l.length := by omega
    subst e
    refine Ev.step (fun k => by rw [spec_l5Once.l0]) ?_
    simp only [if_neg (show ¬ ((l.length : Int) < (l.length : Int)) by omega), List.take_length]
    exact Ev.now _
  | succ d ihd =>
    intro i hd hi
    have hlt : i < l.length := by omega
    refine Ev.step (fun k => by rw [spec_l5Once.l0]) ?_
    simp only [if_pos (show (i : Int) < (l.length : Int) by omega)]
    have h := ihd (i + 1) (by omega) (by omega)
    rw [onceL_take l i hlt] at h
    have hol := onceL_len l i (by omega)
    refine l5Once_inner l _ i hlt (by omega) (by rw [wrap_nat i (by omega)]; exact h) _ 0 false rfl (by omega) ?_
    rw [List.drop_zero, Bool.false_or]
theorem l5Once_ev (l : List Fk) (hl : l.length ≤ 4000000000) : Ev (fun k => spec_l5Once.f k l) (onceL l) := by
  unfold spec_l5Once.f
  exact l5Once_loop l hl l.length 0 (by omega) (by omega)
theorem l5One_loop (t : Trc) (hl : t.f1.length ≤ 10) : ∀ (d i : Nat), d = t.f1.length - i → i ≤ t.f1.length → Ev (fun k => spec_l5One.l0 k (i : Int) t.f0 t.f1 t.f2) ((t.f1.drop i).all fkOk && decide ((onceL t.f1).length = t.f1.length)) := by
  intro d
  induction d with
  | zero =>
    intro i hd hi
    have e : i = t.f1.length := by omega
    subst e
    refine Ev.step (fun k => by rw [spec_l5One.l0]) ?_
    simp only [if_neg (show ¬ ((t.f1.length : Int) < (t.f1.length : Int)) by omega), List.drop_length, List.all_nil, Bool.true_and]
    refine Ev.bind (l5Once_ev t.f1 (by omega)) ?_
    refine Ev.of_eq ?_
    congr 1
    rw [Bool.eq_iff_iff]
    simp only [beq_iff_eq, decide_eq_true_eq]
    omega
  | succ d ihd =>
    intro i hd hi
    have hlt : i < t.f1.length := by omega
    refine Ev.step (fun k => by rw [spec_l5One.l0]) ?_
    rw [drop_tk t.f1 i hlt, List.all_cons]
    simp only [if_pos (show (i : Int) < (t.f1.length : Int) by omega), if_pos (show (0 : Int) ≤ (i : Int) by omega), rd_fk t.f1 i hlt, l6In_ev, Option.bind_some, wrap_nat i (by omega)]
    have e9 : (0 ≤ t.f1[i].f0 ∧ t.f1[i].f0 ≤ 9) ↔ (0 ≤ t.f1[i].f0 ∧ t.f1[i].f0 < 10) := by omega
    simp only [fkOk, decide_eq_true_eq, e9]
    by_cases h1 : 0 ≤ t.f1[i].f0 ∧ t.f1[i].f0 < 10
    · by_cases h2 : 0 ≤ t.f1[i].f1 ∧ t.f1[i].f1 ≤ 96
      · simp only [if_pos h1, if_pos h2, decide_eq_true h1, decide_eq_true h2, Bool.true_and]
        exact ihd (i + 1) (by omega) (by omega)
      · simp only [if_pos h1, if_neg h2, decide_eq_true h1, decide_eq_false h2, Bool.and_false, Bool.false_and]
        exact Ev.now false
    · simp only [if_neg h1, decide_eq_false h1, Bool.false_and]
      exact Ev.now false
theorem l5One_ev (t : Trc) : Ev (fun k => spec_l5One.f k t.f0 t.f1 t.f2) (trOk t) := by
  unfold spec_l5One.f
  have bad : Ev (fun k => spec_l5One.j0 k true t.f0 t.f1 t.f2) false := by
    refine Ev.step (fun k => by rw [spec_l5One.j0]) ?_
    simp only [if_true]
    exact Ev.now false
  by_cases hl : t.f1.length ≤ 10
  · simp only [if_neg (show ¬ ((t.f1.length : Int) > 10) by omega), l6In_ev, Option.bind_some]
    have e9 : (0 ≤ t.f0 ∧ t.f0 ≤ 9) ↔ (0 ≤ t.f0 ∧ t.f0 < 10) := by omega
    simp only [decide_eq_true_eq, e9]
    by_cases h1 : 0 ≤ t.f0 ∧ t.f0 < 10
    · simp only [if_pos h1]
      refine Ev.step (fun k => by rw [spec_l5One.j0]) ?_
      by_cases h2 : 0 ≤ t.f2 ∧ t.f2 ≤ 96
      · simp only [decide_eq_true h2, Bool.not_true, Bool.false_eq_true, if_false]
        refine Ev.eq (l5One_loop t hl t.f1.length 0 (by omega) (by omega)) ?_
        rw [List.drop_zero, trOk, decide_eq_true h1, decide_eq_true h2, Bool.and_comm]
        simp
      · simp only [decide_eq_false h2, Bool.not_false, if_true]
        exact Ev.eq (Ev.now false) (by rw [trOk, decide_eq_false h2]; simp)
    · simp only [if_neg h1]
      exact Ev.eq bad (by rw [trOk, decide_eq_false h1]; simp)
  · simp only [if_pos (show ((t.f1.length : Int) > 10) by omega)]
    refine Ev.eq bad ?_
    cases h : trOk t with
    | false => rfl
    | true => exact absurd (trOk_len h) hl
theorem specTrs_loop (l : List Trc) (hl : l.length ≤ 60) : ∀ (d i : Nat), d = l.length - i → i ≤ l.length → Ev (fun k => spec_TracesOk.l0 k l (i : Int)) ((l.drop i).all trOk) := by
  intro d
  induction d with
  | zero =>
    intro i hd hi
    have e : i = l.length := by omega
    subst e
    refine Ev.step (fun k => by rw [spec_TracesOk.l0]) ?_
    simp only [if_neg (show ¬ ((l.length : Int) < (l.length : Int)) by omega), List.drop_length, List.all_nil]
    exact Ev.now true
  | succ d ihd =>
    intro i hd hi
    have hlt : i < l.length := by omega
    refine Ev.step (fun k => by rw [spec_TracesOk.l0]) ?_
    rw [drop_tk l i hlt, List.all_cons]
    simp only [if_pos (show (i : Int) < (l.length : Int) by omega), if_pos (show (0 : Int) ≤ (i : Int) by omega), rd_trc l i hlt]
    refine Ev.bind (l5One_ev _) ?_
    cases h : trOk l[i] with
    | true =>
      simp only [if_true, Bool.true_and, wrap_nat i (by omega)]
      exact ihd (i + 1) (by omega) (by omega)
    | false =>
      simp only [Bool.false_eq_true, if_false, Bool.false_and]
      exact Ev.now false
theorem specTrs_ev (l : List Trc) : Ev (fun k => spec_TracesOk.f k l) (trsOk l) := by
  unfold spec_TracesOk.f trsOk
  by_cases hl : l.length ≤ 60
  · simp only [if_neg (show ¬ ((l.length : Int) > 60) by omega), decide_eq_true hl, Bool.true_and]
    exact specTrs_loop l hl l.length 0 (by omega) (by omega)
  · simp only [if_pos (show ((l.length : Int) > 60) by omega), decide_eq_false hl, Bool.false_and]
    exact Ev.now false
end Go.Proofs.Ytofieekbhbkliaa.G
end
section
namespace Go.Proofs.Ytofieekbhbkliaa.G
open Go.RowKit Go.Proofs.YtofieekbhbkliaaW.PrintWords
set_option linter.unusedVariables false
set_option linter.unusedSimpArgs false
theorem of_ev (key : Int) (t : Tk) (ht : okT t = true) (vs : List Int) (hv : vs.all isVal = true) : Ev (fun k => spec_l5Of.f k key t.f0 t.f1 t.f2 vs) (key, onceL (runT vs t).2, (runT vs t).1) := by
  have h1 := runT_len vs (fits_of t (okT_fit ht))
  have h2 := okT_nod ht
  unfold spec_l5Of.f
  refine Ev.bind (l2Run_ev vs hv t (okT_fit ht) (by omega)) ?_
  exact Ev.bind (l5Once_ev _ (by omega)) (Ev.now _)
def TrDrawn (t : Trc) : Prop := t.f1.length ≤ 20 ∧ ∀ f ∈ t.f1, 0 ≤ f.f0 ∧ f.f0 ≤ 10
theorem trace_end {l : List Int} (hl : byteL l) (hlen : l.length ≤ 1048576) (p : Int) (h0 : 0 ≤ p) (h1 : p + 10 ≤ 1099511627776) (t : Trc) (ht : TrDrawn t) :
    ∃ (u : Trc) (p' : Int), Ev (fun k => spec_l91Trace.j1 k l p t.f0 t.f1 t.f2) (u.f0, u.f1, u.f2, p') ∧ p ≤ p' ∧ p' ≤ p + 2 ∧ TrDrawn u := by
  obtain ⟨v, hv, v0, v1, v2⟩ := pick_ev hl hlen p 20 h0 (by omega)
  by_cases hz : v = 0
  · obtain ⟨x, _, hx⟩ := num_ev hl hlen (p + 1) (by omega) (by omega) [97, -1, 0] (by simp)
    refine ⟨⟨t.f0, t.f1, x⟩, p + 1 + 1, ?_, by omega, by omega, ht⟩
    refine Ev.step (fun k => by rw [spec_l91Trace.j1]) ?_
    refine Ev.bind hv ?_
    simp only [if_pos hz]
    exact Ev.bind hx (Ev.now _)
  · refine ⟨t, p + 1, ?_, by omega, by omega, ht⟩
    refine Ev.step (fun k => by rw [spec_l91Trace.j1]) ?_
    refine Ev.bind hv ?_
    simp only [if_neg hz]
    exact Ev.now _
theorem trace_loop {l : List Int} (hl : byteL l) (hlen : l.length ≤ 1048576) : ∀ (d : Nat) (out : List Int) (p : Int), d ≤ 10 → out.length + d ≤ 10 → out.all isVal = true → 0 ≤ p → p + d + 3000 ≤ 1099511627776 →
    ∃ (u : Trc) (p' : Int), Ev (fun k => spec_l91Trace.l0 k out (d : Int) l p) (u.f0, u.f1, u.f2, p') ∧ p ≤ p' ∧ p' ≤ p + d + 200 ∧ TrDrawn u := by
  intro d
  induction d with
  | zero =>
    intro out p hd ho hv h0 h1
    obtain ⟨key, hk, k0, k1, k2⟩ := pick_ev hl hlen p 10 h0 (by omega)
    obtain ⟨t, p1, ht, a, b, hok⟩ := fit_ev hl hlen 10 (by omega) (p + 1) (by omega) (by omega)
    obtain ⟨c, hc, c0, c1, c2⟩ := pick_ev hl hlen p1 8 (by omega) (by omega)
    have hof := of_ev key t hok out hv
    have hlen1 := runT_len out (fits_of t (okT_fit hok))
    have hnod := okT_nod hok
    have hol := onceL_length (runT out t).2
    have hkeys : ∀ f ∈ onceL (runT out t).2, 0 ≤ f.f0 ∧ f.f0 ≤ 10 := by
      intro f hf
      have h := runT_keys hv (fits_of t (okT_fit hok)) f (onceL_mem _ f hf)
      omega
    by_cases hz : c = 0
    · obtain ⟨x, hx, x0, x1, x2⟩ := pick_ev hl hlen (p1 + 1) 11 (by omega) (by omega)
      obtain ⟨y, hy, y0, y1, y2⟩ := pick_ev hl hlen (p1 + 1 + 1) 5 (by omega) (by omega)
      have x3 := x1 (by omega)
      obtain ⟨u, p', hu, a2, b2, hd2⟩ := trace_end hl hlen (p1 + 1 + 1 + 1) (by omega) (by omega) ⟨key, onceL (runT out t).2 ++ [⟨x, y⟩], (runT out t).1⟩ ⟨by simp only [List.length_append, List.length_singleton]; omega, by
        intro f hf
        rcases List.mem_append.1 hf with hf | hf
        · exact hkeys f hf
        · simp only [List.mem_singleton] at hf
          subst hf
          simp only
          omega⟩
      refine ⟨u, p', ?_, by omega, by omega, hd2⟩
      refine Ev.step (fun k => by rw [spec_l91Trace.l0]) ?_
      simp only [if_neg (show ¬ (((0 : Nat) : Int) > 0) by omega)]
      refine Ev.bind hk (Ev.bind ht (Ev.bind hof (Ev.bind hc ?_)))
      simp only [if_pos hz]
      refine Ev.bind hx (Ev.bind hy ?_)
      simp only [if_pos (show (onceL (runT out t).2).length < 8796093022208 by omega)]
      exact hu
    · obtain ⟨u, p', hu, a2, b2, hd2⟩ := trace_end hl hlen (p1 + 1) (by omega) (by omega) ⟨key, onceL (runT out t).2, (runT out t).1⟩ ⟨by simp only; omega, hkeys⟩
      refine ⟨u, p', ?_, by omega, by omega, hd2⟩
      refine Ev.step (fun k => by rw [spec_l91Trace.l0]) ?_
      simp only [if_neg (show ¬ (((0 : Nat) : Int) > 0) by omega)]
      refine Ev.bind hk (Ev.bind ht (Ev.bind hof (Ev.bind hc ?_)))
      simp only [if_neg hz]
      exact hu
  | succ d ih =>
    intro out p hd ho hv h0 h1
    obtain ⟨x, hx, x0, x1, x2⟩ := pick_ev hl hlen p 5 h0 (by omega)
    have x3 := x1 (by omega)
    have hv2 : (out ++ [x]).all isVal = true := by
      rw [List.all_append, hv]
      simp [isVal]
      omega
    obtain ⟨u, p', hu, a, b, hd2⟩ := ih (out ++ [x]) (p + 1) (by omega) (by simp; omega) hv2 (by omega) (by omega)
    refine ⟨u, p', ?_, by omega, by omega, hd2⟩
    refine Ev.step (fun k => by rw [spec_l91Trace.l0]) ?_
    simp only [if_pos (show (((d + 1 : Nat) : Int) > 0) by omega)]
    refine Ev.bind hx ?_
    have ew : wrap64 (((d + 1 : Nat) : Int) - 1) = (d : Int) := by rw [wrap_id (((d + 1 : Nat) : Int) - 1) (by omega) (by omega)]; omega
    simp only [if_pos (show out.length < 17592186044416 by omega), ew]
    exact hu
theorem trace_ev {l : List Int} (hl : byteL l) (hlen : l.length ≤ 1048576) (p : Int) (h0 : 0 ≤ p) (h1 : p + 4000 ≤ 1099511627776) :
    ∃ (u : Trc) (p' : Int), Ev (fun k => spec_l91Trace.f k l p) (u.f0, u.f1, u.f2, p') ∧ p ≤ p' ∧ p' ≤ p + 300 ∧ TrDrawn u := by
  obtain ⟨v, hv, v0, v1, v2⟩ := pick_ev hl hlen p 11 h0 (by omega)
  have v3 := v1 (by omega)
  obtain ⟨d, rfl⟩ := Int.eq_ofNat_of_zero_le v0
  obtain ⟨u, p', hu, a, b, hd⟩ := trace_loop hl hlen d [] (p + 1) (by omega) (by simp; omega) (by rfl) (by omega) (by omega)
  refine ⟨u, p', ?_, by omega, by omega, hd⟩
  unfold spec_l91Trace.f
  exact Ev.bind hv hu
theorem traces_loop {l : List Int} (hl : byteL l) (hlen : l.length ≤ 1048576) : ∀ (d : Nat) (out : List Trc) (p : Int), d ≤ 10 → out.length + d ≤ 10 → (∀ t ∈ out, TrDrawn t) → 0 ≤ p → p + 300 * d + 4000 ≤ 1099511627776 →
    ∃ (ts : List Trc) (p' : Int), Ev (fun k => spec_l91Traces.l0 k out (d : Int) l p) (ts, p') ∧ p ≤ p' ∧ p' ≤ p + 300 * d ∧ ts.length ≤ 10 ∧ ∀ t ∈ ts, TrDrawn t := by
  intro d
  induction d with
  | zero =>
    intro out p hd ho hT h0 h1
    refine ⟨out, p, ?_, by omega, by omega, by omega, hT⟩
    refine Ev.step (fun k => by rw [spec_l91Traces.l0]) ?_
    simp only [if_neg (show ¬ (((0 : Nat) : Int) > 0) by omega)]
    exact Ev.now _
  | succ d ih =>
    intro out p hd ho hT h0 h1
    obtain ⟨u, p1, hu, a, b, hdu⟩ := trace_ev hl hlen p h0 (by omega)
    obtain ⟨ts, p', hts, a2, b2, c2, d2⟩ := ih (out ++ [u]) p1 (by omega) (by simp; omega) (fun t ht => by
      rcases List.mem_append.1 ht with ht | ht
      · exact hT t ht
      · simp only [List.mem_singleton] at ht
        exact ht ▸ hdu) (by omega) (by omega)
    refine ⟨ts, p', ?_, by omega, by omega, c2, d2⟩
    refine Ev.step (fun k => by rw [spec_l91Traces.l0]) ?_
    simp only [if_pos (show (((d + 1 : Nat) : Int) > 0) by omega)]
    refine Ev.bind hu ?_
    have ew : wrap64 (((d + 1 : Nat) : Int) - 1) = (d : Int) := by rw [wrap_id (((d + 1 : Nat) : Int) - 1) (by omega) (by omega)]; omega
    simp only [if_pos (show out.length < 3518437208883 by omega), ew]
    exact hts
theorem traces_ev {l : List Int} (hl : byteL l) (hlen : l.length ≤ 1048576) (p : Int) (h0 : 0 ≤ p) (h1 : p + 8000 ≤ 1099511627776) :
    ∃ (ts : List Trc) (p' : Int), Ev (fun k => spec_l91Traces.f k l p) (ts, p') ∧ p ≤ p' ∧ p' ≤ p + 2000 ∧ ts.length ≤ 10 ∧ ∀ t ∈ ts, TrDrawn t := by
  obtain ⟨v, hv, v0, v1, v2⟩ := pick_ev hl hlen p 6 h0 (by omega)
  have v3 := v1 (by omega)
  obtain ⟨d, rfl⟩ := Int.eq_ofNat_of_zero_le v0
  obtain ⟨ts, p', hts, a, b, c, e⟩ := traces_loop hl hlen d [] (p + 1) (by omega) (by simp; omega) (fun t ht => by cases ht) (by omega) (by omega)
  refine ⟨ts, p', ?_, by omega, by omega, c, e⟩
  unfold spec_l91Traces.f
  exact Ev.bind hv hts
end Go.Proofs.Ytofieekbhbkliaa.G
end
section
namespace Go.Proofs.Ytofieekbhbkliaa.G
open Go.RowKit Go.Proofs.YtofieekbhbkliaaW.PrintWords
set_option linter.unusedVariables false
set_option linter.unusedSimpArgs false
theorem ev_FnTracesOk (l : List Int) (hl : byteL l) : Ev (fun k => laws_FnTracesOk.f k l) true := by
  unfold laws_FnTracesOk.f
  by_cases h20 : (l.length : Int) > 1048576
  · simp only [if_pos h20]; exact Ev.now true
  · simp only [if_neg h20]
    obtain ⟨l', ho, hl', hlen'⟩ := open_ev hl
    obtain ⟨ts, p', hts, a, b, hn, hT⟩ := traces_ev hl' (by omega) 0 (by omega) (by omega)
    have hdraw : Ev (fun k => spec_DrawTracesOk.f k l) ts := by
      unfold spec_DrawTracesOk.f
      refine Ev.bind (Ev.of_eq ho) ?_
      exact Ev.bind hts (Ev.now _)
    have himpl : ∀ us : List Trc, (∀ t ∈ us, t ∈ ts) → impl_TracesOk.f us = some (trsOk us) := fun us h => implTrs_ev us (fun t ht => by have := (hT t (h t ht)).1; omega)
    refine Ev.bind hdraw ?_
    refine Ev.bind (Ev.of_eq (himpl ts (fun _ h => h))) ?_
    refine Ev.bind (specTrs_ev ts) ?_
    simp only [bne_self_eq_false, Bool.false_eq_true, if_false]
    cases hok : trsOk ts with
    | false => simp only [Bool.false_eq_true, if_false]; exact Ev.now true
    | true =>
      simp only [if_true]
      by_cases hz : (ts.length : Int) = 0
      · simp only [if_pos hz]; exact Ev.now true
      · simp only [if_neg hz, if_pos (show (1 : Int) ≤ (ts.length : Int) by omega)]
        refine Ev.bind (Ev.of_eq (himpl (ts.drop 1) (fun t h => List.mem_of_mem_drop h))) ?_
        have e : trsOk (ts.drop 1) = true := by
          simp only [trsOk, Bool.and_eq_true, decide_eq_true_eq, List.all_eq_true] at hok ⊢
          exact ⟨by rw [List.length_drop]; omega, fun t ht => hok.2 t (List.mem_of_mem_drop ht)⟩
        rw [e]
        exact Ev.now true
end Go.Proofs.Ytofieekbhbkliaa.G
namespace Go.Proofs.Ytofieekbhbkliaa.Pure
open Go.RowKit Go.Proofs.Ytofieekbhbkliaa.G Go.Proofs.YtofieekbhbkliaaW.PrintWords Go.Proofs.YtofieekbhbkliaaW.PrintLast
theorem FnTracesOk : laws_FnTracesOk.Pure := fun l0 _ _ hw => Ev.rounds (ev_FnTracesOk l0 (byteL_of hw))
end Go.Proofs.Ytofieekbhbkliaa.Pure
end
