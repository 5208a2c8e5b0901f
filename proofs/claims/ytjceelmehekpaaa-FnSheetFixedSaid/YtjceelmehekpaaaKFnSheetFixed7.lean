-- Written by pack.py (ours): the claim's texts, cut down to what its theorem reaches.
import Derived.Test.YtjceelmehekpaaaKFnSheetFixed6
section
namespace Go.Proofs.Ytjceelmehekpaaa.G
open Go.RowKit Go.Proofs.YtjceelmehekpaaaW.PrintWords
set_option linter.unusedVariables false
set_option linter.unusedSimpArgs false
theorem implTF_ev (t : Tk) (hb : (nodT t : Int) ≤ 4000000000) : Ev (fun k => impl_TaskFixed.f k t.f0 t.f1 t.f2) (okT t && fixT t) := by
  unfold impl_TaskFixed.f
  refine Ev.bind (implOk_ev t) ?_
  cases h : okT t with
  | true =>
    simp only [if_true, Bool.true_and]
    exact Ev.bind (implFixedT_ev t hb) (Ev.now _)
  | false =>
    simp only [Bool.false_eq_true, if_false, Bool.false_and]
    exact Ev.now _
theorem fixed_loop (made : List Bool) (ts : List Tk) (hl : ts.length ≤ 1000) (b : Bool) (hn : ∀ t ∈ ts, nodT t ≤ 15) (hb : b = true → ∀ t ∈ ts, okT t = true ∧ fixT t = true) : ∀ (d i : Nat), d = ts.length - i → i ≤ ts.length → Ev (fun k => laws_FnSheetFixed.l0 k b (i : Int) made ts) true := by
  intro d
  induction d with
  | zero =>
    intro i hd hi
    have e : i = ts.length := by omega
    subst e
    refine Ev.step (fun k => by rw [laws_FnSheetFixed.l0]) ?_
    simp only [if_neg (show ¬ ((ts.length : Int) < (ts.length : Int)) by omega)]
    refine Ev.step (fun k => by rw [laws_FnSheetFixed.j1]) ?_
    simp only [Bool.false_eq_true, if_false]
    exact Ev.now true
  | succ d ihd =>
    intro i hd hi
    have hlt : i < ts.length := by omega
    refine Ev.step (fun k => by rw [laws_FnSheetFixed.l0]) ?_
    simp only [if_pos (show (i : Int) < (ts.length : Int) by omega)]
    refine Ev.step (fun k => by rw [laws_FnSheetFixed.j1]) ?_
    cases b with
    | false => simp only [Bool.false_eq_true, if_false]; exact Ev.now true
    | true =>
      simp only [if_true, if_pos (show (0 : Int) ≤ (i : Int) by omega), if_pos (show (i : Int) < (ts.length : Int) by omega), rd_tk ts i hlt, wrap_nat i (by omega)]
      have hm := List.getElem_mem hlt
      have h2 := hn _ hm
      refine Ev.bind (implTF_ev ts[i] (by omega)) ?_
      rw [(hb rfl _ hm).1, (hb rfl _ hm).2]
      simp only [Bool.and_self, if_true]
      exact ihd (i + 1) (by omega) (by omega)
theorem ev_FnSheetFixed (l : List Int) (hl : byteL l) : Ev (fun k => laws_FnSheetFixed.f k l) true := by
  unfold laws_FnSheetFixed.f
  by_cases h20 : (l.length : Int) > 1048576
  · simp only [if_pos h20]; exact Ev.now true
  · simp only [if_neg h20]
    obtain ⟨l', ho, hl', hlen'⟩ := open_ev hl
    obtain ⟨made, ts, p1, n, hs, a, b, hn, hd⟩ := sheet_ev hl' (by omega) 0 (by omega) (by omega)
    have hdraw : Ev (fun k => spec_DrawSheetFixed.f k l) (made, ts) := by
      unfold spec_DrawSheetFixed.f
      refine Ev.bind (Ev.of_eq ho) ?_
      exact Ev.bind hs (Ev.now _)
    have hnb : ∀ t ∈ ts, (nodT t : Int) ≤ 4000000000 := fun t ht => by have := hd.2.2 t ht; omega
    refine Ev.bind hdraw ?_
    refine Ev.bind (implSheetFixed_ev made ts hnb) ?_
    refine Ev.bind (specSheetFixed_ev made ts hnb) ?_
    simp only [bne_self_eq_false, Bool.false_eq_true, if_false]
    have h3 := hd.2.1
    exact fixed_loop made ts (by omega) (sheetOk made ts && ts.all fixT) hd.2.2 (fun hb t ht => by
      rw [Bool.and_eq_true] at hb
      exact ⟨sheetOk_mem hb.1 t ht, List.all_eq_true.1 hb.2 t ht⟩) ts.length 0 (by omega) (by omega)
end Go.Proofs.Ytjceelmehekpaaa.G
namespace Go.Proofs.Ytjceelmehekpaaa.Pure
open Go.RowKit Go.Proofs.Ytjceelmehekpaaa.G Go.Proofs.YtjceelmehekpaaaW.PrintWords Go.Proofs.YtjceelmehekpaaaW.PrintLast
theorem FnSheetFixed : laws_FnSheetFixed.Pure := fun l0 _ _ hw => Ev.rounds (ev_FnSheetFixed l0 (byteL_of hw))
end Go.Proofs.Ytjceelmehekpaaa.Pure
end
