-- Written by pack.py (ours): the claim's texts, cut down to what its theorem reaches.
import Derived.Test.YtooojligedlpeaaKFnTraceOf6
section
namespace Go.Proofs.Ytooojligedlpeaa.G
open Go.RowKit Go.Proofs.YtooojligedlpeaaW.PrintWords Go.Proofs.YtooojligedlpeaaW.PrintLast Go.Proofs.YtooojligedlpeaaW.PrintMore
attribute [local go_sem] max2_int min2_int max_two min_two max_three min_three max_four min_four
set_option linter.unusedVariables false
set_option linter.unusedSimpArgs false
def impl_TraceHolds.f (a0_0 : Int) (l0_1 : List (S49)) (a0_2 : Int) (l1 : List Int) : Option (Bool) := (impl_Trace_ok.f a0_0 l0_1 a0_2).bind fun t850 => (if t850 = true then ((impl_valuesOk.f l1).bind fun t851 => (if t851 = true then ((impl_Trace_holds.f a0_0 l0_1 a0_2 l1).bind fun t852 => (some t852)) else (some false))) else (some false))
set_option maxHeartbeats 8000000 in
set_option maxRecDepth 100000 in
theorem impl_TraceHolds.calls (a0_0 : Int) (A0_1 : Option Addr) (c0_1 : Nat) (l0_1 : List (S49)) (a0_2 : Int) (A1 : Option Addr) (c1 : Nat) (l1 : List Int) (r : Bool) (w : World) (hr0_1 : Kd.C k49 w A0_1 l0_1.length l0_1) (hc0_1 : l0_1.length ≤ c0_1) (hr1 : Kd.C (Kd.int .i64) w A1 l1.length l1) (hc1 : l1.length ≤ c1) (h : impl_TraceHolds.f a0_0 l0_1 a0_2 l1 = some r) :
    Calls Try.prog 50 #[.agg #[.int .i64 a0_0, .slice A0_1 l0_1.length c0_1, .int .i64 a0_2], .slice A1 l1.length c1] w fun e w' => e = .returned (.bool r) ∧ Below w.heap.size w w' := by
  have hu63 := Try.underlying63
  have HR0_1 := Aside0.mk hr0_1
  have HC0_1 := Aside0.mk hc0_1
  clear hr0_1 hc0_1
  have HR1 := Aside0.mk hr1
  have HC1 := Aside0.mk hc1
  clear hr1 hc1
  have HB := Aside0.mk (Below.refl w.heap.size w)
  have H : ((impl_Trace_ok.f a0_0 l0_1 a0_2).bind fun t850 => (if t850 = true then ((impl_valuesOk.f l1).bind fun t851 => (if t851 = true then ((impl_Trace_holds.f a0_0 l0_1 a0_2 l1).bind fun t852 => (some t852)) else (some false))) else (some false))) = some r := h
  clear h
  replace H := Option.bind_eq_some_iff.mp H
  obtain ⟨t850, A30, H⟩ := H
  replace H : (if t850 = true then ((impl_valuesOk.f l1).bind fun t851 => (if t851 = true then ((impl_Trace_holds.f a0_0 l0_1 a0_2 l1).bind fun t852 => (some t852)) else (some false))) else (some false)) = some r := H
  have A3 := Aside0.mk A30
  clear A30
  by_cases c4 : t850 = true
  · subst c4
    have H1 : ((impl_valuesOk.f l1).bind fun t851 => (if t851 = true then ((impl_Trace_holds.f a0_0 l0_1 a0_2 l1).bind fun t852 => (some t852)) else (some false))) = some r := by rw [if_pos rfl] at H; exact H
    clear H
    have H := H1
    clear H1
    replace H := Option.bind_eq_some_iff.mp H
    obtain ⟨t851, A50, H⟩ := H
    replace H : (if t851 = true then ((impl_Trace_holds.f a0_0 l0_1 a0_2 l1).bind fun t852 => (some t852)) else (some false)) = some r := H
    have A5 := Aside0.mk A50
    clear A50
    by_cases c6 : t851 = true
    · subst c6
      have H1 : ((impl_Trace_holds.f a0_0 l0_1 a0_2 l1).bind fun t852 => (some t852)) = some r := by rw [if_pos rfl] at H; exact H
      clear H
      have H := H1
      clear H1
      replace H := Option.bind_eq_some_iff.mp H
      obtain ⟨t852, A70, H⟩ := H
      replace H : (some t852) = some r := H
      have A7 := Aside0.mk A70
      clear A70
      obtain rfl := Option.some.inj H
      go_enter Try.func50, Try.ntmps50
      go_wp2_with (first | ((with_reducible refine gate_dst (N := 2) rfl ?_); refine box_event ?hg (N := 2) ?hd (cs := #[.int .i64 a0_0, .slice A0_1 l0_1.length c0_1, .int .i64 a0_2]) (t := 63) ?hr ?_; (case hd => rfl); (case hg => rfl); (case hr => first | (go_simp; done) | (go_simp; rfl)); intro gb849 hg w8 hbox hb; have n0_ := Aside0.mk (below_step (by repeat (first | (with_reducible first | exact HB.out | apply below_alloc | apply pw_below_drewN | apply below_drew1) | exact HB.out)) hb); have n1_ := Aside0.mk (hbox); have n2_ := Aside0.mk ((by rw [hg]; exact (below_size (by repeat (first | (with_reducible first | exact HB.out | apply below_alloc | apply pw_below_drewN | apply below_drew1) | exact HB.out))) : w.heap.size ≤ gb849)); have n3_ := Aside0.mk ((by rw [hg]; exact (below_size (by repeat (first | (with_reducible first | exact HB.out | apply below_alloc | apply pw_below_drewN | apply below_drew1) | exact HB.out))) : w.heap.size ≤ gb849)); clear HB; have HB := n0_; have BK849 := n1_; have GW849 := n2_; have GE849 := n3_; clear n0_ n1_ n2_ n3_; clear hb hbox hg; have hcz9_0 : w8.cell? ⟨gb849, 0, none⟩ = some (.int .i64 a0_0) := (blk_cell BK849.out 0).trans rfl; have hcz9_1 : w8.cell? ⟨gb849, 1, none⟩ = some (.slice A0_1 l0_1.length c0_1) := (blk_cell BK849.out 1).trans rfl; have hcz9_2 : w8.cell? ⟨gb849, 2, none⟩ = some (.int .i64 a0_2) := (blk_cell BK849.out 2).trans rfl; have hfz9_0 := blk_frozen BK849.out 0; have hfz9_1 := blk_frozen BK849.out 1; have hfz9_2 := blk_frozen BK849.out 2) | ((with_reducible refine gate_callee (f := 90) rfl ?_); refine goesL_ (some 6) rfl rfl Try.func90 (by kernel_rfl) rfl #[.agg #[.int .i64 a0_0, .slice A0_1 l0_1.length c0_1, .int .i64 a0_2]] rfl (by (try simp only [List.map_toArray, List.map_cons, List.map_nil]); first | done | rfl | (simp only [List.length_drop, List.length_take]; rfl)) ?_; (with_reducible refine (impl_Trace_ok.calls a0_0 _ _ l0_1 a0_2 true _ ?side1 ?side2 A3.out).mono ?_); (case side1 => repeat (first | exact (Kd.C_below HR0_1.out HB.out) | (with_reducible refine Kd.C_alloc ?_ _) | (with_reducible refine Kd.C_drewN ?_ _) | (with_reducible refine Kd.C_drew ?_))); (case side2 => exact HC0_1.out); rintro e w10 ⟨rfl, hb⟩; refine ⟨_, rfl, ?_⟩; have n0_ := Aside0.mk (blk_below (g := gb849) (o := .cells #[.int .i64 a0_0, .slice A0_1 l0_1.length c0_1, .int .i64 a0_2] 63 (0, 0)) (by (with_reducible repeat (first | refine blk_drewN ?_ _ | refine blk_drew ?_ | refine blk_alloc ?_ _)); exact BK849.out) hb); have n1_ := Aside0.mk (below_step (by repeat (first | (with_reducible first | exact HB.out | apply below_alloc | apply pw_below_drewN | apply below_drew1 | refine below_set ?_ GE849.out) | exact HB.out)) hb); clear BK849; clear HB; have BK849 := n0_; have HB := n1_; clear n0_ n1_; (try clear hb); (try clear hb2); (try clear hk); (try clear hi)) | (go_at_call 73; (with_reducible refine (impl_valuesOk.calls _ _ l1 true _ ?side1 ?side2 A5.out).mono ?_); (case side1 => repeat (first | exact (Kd.C_below HR1.out HB.out) | (with_reducible refine Kd.C_alloc ?_ _) | (with_reducible refine Kd.C_drewN ?_ _) | (with_reducible refine Kd.C_drew ?_))); (case side2 => exact HC1.out); rintro e w11 ⟨rfl, hb⟩; have n0_ := Aside0.mk (blk_below (g := gb849) (o := .cells #[.int .i64 a0_0, .slice A0_1 l0_1.length c0_1, .int .i64 a0_2] 63 (0, 0)) (by (with_reducible repeat (first | refine blk_drewN ?_ _ | refine blk_drew ?_ | refine blk_alloc ?_ _)); exact BK849.out) hb); have n1_ := Aside0.mk (below_step (by repeat (first | (with_reducible first | exact HB.out | apply below_alloc | apply pw_below_drewN | apply below_drew1 | refine below_set ?_ GE849.out) | exact HB.out)) hb); clear BK849; clear HB; have BK849 := n0_; have HB := n1_; clear n0_ n1_; (try clear hb); (try clear hb2); (try clear hk); (try clear hi); have hcz12_0 : w11.cell? ⟨gb849, 0, none⟩ = some (.int .i64 a0_0) := (blk_cell BK849.out 0).trans rfl; have hcz12_1 : w11.cell? ⟨gb849, 1, none⟩ = some (.slice A0_1 l0_1.length c0_1) := (blk_cell BK849.out 1).trans rfl; have hcz12_2 : w11.cell? ⟨gb849, 2, none⟩ = some (.int .i64 a0_2) := (blk_cell BK849.out 2).trans rfl; have hfz12_0 := blk_frozen BK849.out 0; have hfz12_1 := blk_frozen BK849.out 1; have hfz12_2 := blk_frozen BK849.out 2) | (go_at_call 91; (with_reducible refine (impl_Trace_holds.calls a0_0 _ _ l0_1 a0_2 _ _ l1 t852 _ ?side1 ?side2 ?side3 ?side4 A7.out).mono ?_); (case side1 => repeat (first | exact (Kd.C_below HR0_1.out HB.out) | (with_reducible refine Kd.C_alloc ?_ _) | (with_reducible refine Kd.C_drewN ?_ _) | (with_reducible refine Kd.C_drew ?_))); (case side2 => exact HC0_1.out); (case side3 => repeat (first | exact (Kd.C_below HR1.out HB.out) | (with_reducible refine Kd.C_alloc ?_ _) | (with_reducible refine Kd.C_drewN ?_ _) | (with_reducible refine Kd.C_drew ?_))); (case side4 => exact HC1.out); rintro e w13 ⟨rfl, hb⟩; have n0_ := Aside0.mk (blk_below (g := gb849) (o := .cells #[.int .i64 a0_0, .slice A0_1 l0_1.length c0_1, .int .i64 a0_2] 63 (0, 0)) (by (with_reducible repeat (first | refine blk_drewN ?_ _ | refine blk_drew ?_ | refine blk_alloc ?_ _)); exact BK849.out) hb); have n1_ := Aside0.mk (below_step (by repeat (first | (with_reducible first | exact HB.out | apply below_alloc | apply pw_below_drewN | apply below_drew1 | refine below_set ?_ GE849.out) | exact HB.out)) hb); clear BK849; clear HB; have BK849 := n0_; have HB := n1_; clear n0_ n1_; (try clear hb); (try clear hb2); (try clear hk); (try clear hi)))
      go_ret
      exact ⟨by first | rfl | (simp [errW_none, errW_some] <;> rfl) | (simp [*, errW_none, errW_some] <;> rfl), by repeat (first | (with_reducible first | exact HB.out | apply below_alloc | apply pw_below_drewN | apply below_drew1 | refine below_set ?_ GE849.out) | exact HB.out)⟩
    · replace c6 := Bool.eq_false_iff.mpr c6
      subst c6
      have H1 : (some false) = some r := by rw [if_neg (show ¬ (false = true) by decide)] at H; exact H
      clear H
      have H := H1
      clear H1
      obtain rfl := Option.some.inj H
      go_enter Try.func50, Try.ntmps50
      go_wp2_with (first | ((with_reducible refine gate_dst (N := 2) rfl ?_); refine box_event ?hg (N := 2) ?hd (cs := #[.int .i64 a0_0, .slice A0_1 l0_1.length c0_1, .int .i64 a0_2]) (t := 63) ?hr ?_; (case hd => rfl); (case hg => rfl); (case hr => first | (go_simp; done) | (go_simp; rfl)); intro gb849 hg w14 hbox hb; have n0_ := Aside0.mk (below_step (by repeat (first | (with_reducible first | exact HB.out | apply below_alloc | apply pw_below_drewN | apply below_drew1) | exact HB.out)) hb); have n1_ := Aside0.mk (hbox); have n2_ := Aside0.mk ((by rw [hg]; exact (below_size (by repeat (first | (with_reducible first | exact HB.out | apply below_alloc | apply pw_below_drewN | apply below_drew1) | exact HB.out))) : w.heap.size ≤ gb849)); have n3_ := Aside0.mk ((by rw [hg]; exact (below_size (by repeat (first | (with_reducible first | exact HB.out | apply below_alloc | apply pw_below_drewN | apply below_drew1) | exact HB.out))) : w.heap.size ≤ gb849)); clear HB; have HB := n0_; have BK849 := n1_; have GW849 := n2_; have GE849 := n3_; clear n0_ n1_ n2_ n3_; clear hb hbox hg; have hcz15_0 : w14.cell? ⟨gb849, 0, none⟩ = some (.int .i64 a0_0) := (blk_cell BK849.out 0).trans rfl; have hcz15_1 : w14.cell? ⟨gb849, 1, none⟩ = some (.slice A0_1 l0_1.length c0_1) := (blk_cell BK849.out 1).trans rfl; have hcz15_2 : w14.cell? ⟨gb849, 2, none⟩ = some (.int .i64 a0_2) := (blk_cell BK849.out 2).trans rfl; have hfz15_0 := blk_frozen BK849.out 0; have hfz15_1 := blk_frozen BK849.out 1; have hfz15_2 := blk_frozen BK849.out 2) | ((with_reducible refine gate_callee (f := 90) rfl ?_); refine goesL_ (some 6) rfl rfl Try.func90 (by kernel_rfl) rfl #[.agg #[.int .i64 a0_0, .slice A0_1 l0_1.length c0_1, .int .i64 a0_2]] rfl (by (try simp only [List.map_toArray, List.map_cons, List.map_nil]); first | done | rfl | (simp only [List.length_drop, List.length_take]; rfl)) ?_; (with_reducible refine (impl_Trace_ok.calls a0_0 _ _ l0_1 a0_2 true _ ?side1 ?side2 A3.out).mono ?_); (case side1 => repeat (first | exact (Kd.C_below HR0_1.out HB.out) | (with_reducible refine Kd.C_alloc ?_ _) | (with_reducible refine Kd.C_drewN ?_ _) | (with_reducible refine Kd.C_drew ?_))); (case side2 => exact HC0_1.out); rintro e w16 ⟨rfl, hb⟩; refine ⟨_, rfl, ?_⟩; have n0_ := Aside0.mk (blk_below (g := gb849) (o := .cells #[.int .i64 a0_0, .slice A0_1 l0_1.length c0_1, .int .i64 a0_2] 63 (0, 0)) (by (with_reducible repeat (first | refine blk_drewN ?_ _ | refine blk_drew ?_ | refine blk_alloc ?_ _)); exact BK849.out) hb); have n1_ := Aside0.mk (below_step (by repeat (first | (with_reducible first | exact HB.out | apply below_alloc | apply pw_below_drewN | apply below_drew1 | refine below_set ?_ GE849.out) | exact HB.out)) hb); clear BK849; clear HB; have BK849 := n0_; have HB := n1_; clear n0_ n1_; (try clear hb); (try clear hb2); (try clear hk); (try clear hi)) | (go_at_call 73; (with_reducible refine (impl_valuesOk.calls _ _ l1 false _ ?side1 ?side2 A5.out).mono ?_); (case side1 => repeat (first | exact (Kd.C_below HR1.out HB.out) | (with_reducible refine Kd.C_alloc ?_ _) | (with_reducible refine Kd.C_drewN ?_ _) | (with_reducible refine Kd.C_drew ?_))); (case side2 => exact HC1.out); rintro e w17 ⟨rfl, hb⟩; have n0_ := Aside0.mk (blk_below (g := gb849) (o := .cells #[.int .i64 a0_0, .slice A0_1 l0_1.length c0_1, .int .i64 a0_2] 63 (0, 0)) (by (with_reducible repeat (first | refine blk_drewN ?_ _ | refine blk_drew ?_ | refine blk_alloc ?_ _)); exact BK849.out) hb); have n1_ := Aside0.mk (below_step (by repeat (first | (with_reducible first | exact HB.out | apply below_alloc | apply pw_below_drewN | apply below_drew1 | refine below_set ?_ GE849.out) | exact HB.out)) hb); clear BK849; clear HB; have BK849 := n0_; have HB := n1_; clear n0_ n1_; (try clear hb); (try clear hb2); (try clear hk); (try clear hi)))
      go_ret
      exact ⟨by first | rfl | (simp [errW_none, errW_some] <;> rfl) | (simp [*, errW_none, errW_some] <;> rfl), by repeat (first | (with_reducible first | exact HB.out | apply below_alloc | apply pw_below_drewN | apply below_drew1 | refine below_set ?_ GE849.out) | exact HB.out)⟩
  · replace c4 := Bool.eq_false_iff.mpr c4
    subst c4
    have H1 : (some false) = some r := by rw [if_neg (show ¬ (false = true) by decide)] at H; exact H
    clear H
    have H := H1
    clear H1
    obtain rfl := Option.some.inj H
    go_enter Try.func50, Try.ntmps50
    go_wp2_with (first | ((with_reducible refine gate_dst (N := 2) rfl ?_); refine box_event ?hg (N := 2) ?hd (cs := #[.int .i64 a0_0, .slice A0_1 l0_1.length c0_1, .int .i64 a0_2]) (t := 63) ?hr ?_; (case hd => rfl); (case hg => rfl); (case hr => first | (go_simp; done) | (go_simp; rfl)); intro gb849 hg w18 hbox hb; have n0_ := Aside0.mk (below_step (by repeat (first | (with_reducible first | exact HB.out | apply below_alloc | apply pw_below_drewN | apply below_drew1) | exact HB.out)) hb); have n1_ := Aside0.mk (hbox); have n2_ := Aside0.mk ((by rw [hg]; exact (below_size (by repeat (first | (with_reducible first | exact HB.out | apply below_alloc | apply pw_below_drewN | apply below_drew1) | exact HB.out))) : w.heap.size ≤ gb849)); have n3_ := Aside0.mk ((by rw [hg]; exact (below_size (by repeat (first | (with_reducible first | exact HB.out | apply below_alloc | apply pw_below_drewN | apply below_drew1) | exact HB.out))) : w.heap.size ≤ gb849)); clear HB; have HB := n0_; have BK849 := n1_; have GW849 := n2_; have GE849 := n3_; clear n0_ n1_ n2_ n3_; clear hb hbox hg; have hcz19_0 : w18.cell? ⟨gb849, 0, none⟩ = some (.int .i64 a0_0) := (blk_cell BK849.out 0).trans rfl; have hcz19_1 : w18.cell? ⟨gb849, 1, none⟩ = some (.slice A0_1 l0_1.length c0_1) := (blk_cell BK849.out 1).trans rfl; have hcz19_2 : w18.cell? ⟨gb849, 2, none⟩ = some (.int .i64 a0_2) := (blk_cell BK849.out 2).trans rfl; have hfz19_0 := blk_frozen BK849.out 0; have hfz19_1 := blk_frozen BK849.out 1; have hfz19_2 := blk_frozen BK849.out 2) | ((with_reducible refine gate_callee (f := 90) rfl ?_); refine goesL_ (some 6) rfl rfl Try.func90 (by kernel_rfl) rfl #[.agg #[.int .i64 a0_0, .slice A0_1 l0_1.length c0_1, .int .i64 a0_2]] rfl (by (try simp only [List.map_toArray, List.map_cons, List.map_nil]); first | done | rfl | (simp only [List.length_drop, List.length_take]; rfl)) ?_; (with_reducible refine (impl_Trace_ok.calls a0_0 _ _ l0_1 a0_2 false _ ?side1 ?side2 A3.out).mono ?_); (case side1 => repeat (first | exact (Kd.C_below HR0_1.out HB.out) | (with_reducible refine Kd.C_alloc ?_ _) | (with_reducible refine Kd.C_drewN ?_ _) | (with_reducible refine Kd.C_drew ?_))); (case side2 => exact HC0_1.out); rintro e w20 ⟨rfl, hb⟩; refine ⟨_, rfl, ?_⟩; have n0_ := Aside0.mk (blk_below (g := gb849) (o := .cells #[.int .i64 a0_0, .slice A0_1 l0_1.length c0_1, .int .i64 a0_2] 63 (0, 0)) (by (with_reducible repeat (first | refine blk_drewN ?_ _ | refine blk_drew ?_ | refine blk_alloc ?_ _)); exact BK849.out) hb); have n1_ := Aside0.mk (below_step (by repeat (first | (with_reducible first | exact HB.out | apply below_alloc | apply pw_below_drewN | apply below_drew1 | refine below_set ?_ GE849.out) | exact HB.out)) hb); clear BK849; clear HB; have BK849 := n0_; have HB := n1_; clear n0_ n1_; (try clear hb); (try clear hb2); (try clear hk); (try clear hi)))
    go_ret
    exact ⟨by first | rfl | (simp [errW_none, errW_some] <;> rfl) | (simp [*, errW_none, errW_some] <;> rfl), by repeat (first | (with_reducible first | exact HB.out | apply below_alloc | apply pw_below_drewN | apply below_drew1 | refine below_set ?_ GE849.out) | exact HB.out)⟩
def laws_FnTraceOf.j0 : Nat → List Int → Bool → Bool → Int → Int → List (S25) → Int → List (S49) → Int → Option (Bool)
  | 0, _, _, _, _, _, _, _, _, _ => none
  | k + 1, x5, x7, x43, x863000, x863001, x863002, x870000, x870001, x870002 => if x43 = true then (some false) else ((impl_TaskValue.f k x863000 x863001 x863002 x5).bind fun bt878 => (if x7 = true then ((impl_TraceHolds.f x870000 x870001 x870002 x5).bind fun t880 => (if t880 = true then (some (bt878.1 == x870002)) else (some false))) else (some true)))
def laws_FnTraceOf.f (k : Nat) (l0 : List Int) : Option (Bool) := if (l0.length : Int) > 1048576 then (some true) else ((spec_DrawTraceOf.f k l0).bind fun bt853 => ((impl_TraceOf.f k bt853.1 bt853.2.1 bt853.2.2.1 bt853.2.2.2.1 bt853.2.2.2.2).bind fun bt863 => ((spec_TraceOf.f k bt853.1 bt853.2.1 bt853.2.2.1 bt853.2.2.2.1 bt853.2.2.2.2).bind fun bt870 => ((laws_brTrace.f k bt863.1 bt863.2.1 bt863.2.2.1 bt870.1 bt870.2.1 bt870.2.2.1).bind fun t877 => (if t877 = true then (laws_FnTraceOf.j0 k bt853.2.2.2.2 bt863.2.2.2 (bt863.2.2.2 != bt870.2.2.2) bt853.2.1 bt853.2.2.1 bt853.2.2.2.1 bt863.1 bt863.2.1 bt863.2.2.1) else (laws_FnTraceOf.j0 k bt853.2.2.2.2 bt863.2.2.2 true bt853.2.1 bt853.2.2.1 bt853.2.2.2.1 bt863.1 bt863.2.1 bt863.2.2.1))))))
set_option maxHeartbeats 8000000 in
set_option maxRecDepth 100000 in
theorem laws_FnTraceOf.calls (k : Nat) (A0 : Option Addr) (c0 : Nat) (l0 : List Int) (r : Bool) (w : World) (hr0 : Kd.C (Kd.int .u8) w A0 l0.length l0) (hc0 : l0.length ≤ c0) (h : laws_FnTraceOf.f k l0 = some r) :
    Calls Try.prog 12 #[.slice A0 l0.length c0] w fun e w' => e = .returned (.bool r) ∧ Below w.heap.size w w' := by
  have hu25 := Try.underlying25
  have hu63 := Try.underlying63
  have HR0 := Aside0.mk hr0
  have HC0 := Aside0.mk hc0
  clear hr0 hc0
  have HB := Aside0.mk (Below.refl w.heap.size w)
  have H : (if (l0.length : Int) > 1048576 then (some true) else ((spec_DrawTraceOf.f k l0).bind fun bt853 => ((impl_TraceOf.f k bt853.1 bt853.2.1 bt853.2.2.1 bt853.2.2.2.1 bt853.2.2.2.2).bind fun bt863 => ((spec_TraceOf.f k bt853.1 bt853.2.1 bt853.2.2.1 bt853.2.2.2.1 bt853.2.2.2.2).bind fun bt870 => ((laws_brTrace.f k bt863.1 bt863.2.1 bt863.2.2.1 bt870.1 bt870.2.1 bt870.2.2.1).bind fun t877 => (if t877 = true then (laws_FnTraceOf.j0 k bt853.2.2.2.2 bt863.2.2.2 (bt863.2.2.2 != bt870.2.2.2) bt853.2.1 bt853.2.2.1 bt853.2.2.2.1 bt863.1 bt863.2.1 bt863.2.2.1) else (laws_FnTraceOf.j0 k bt853.2.2.2.2 bt863.2.2.2 true bt853.2.1 bt853.2.2.1 bt853.2.2.2.1 bt863.1 bt863.2.1 bt863.2.2.1))))))) = some r := h
  clear h
  by_cases c2 : (l0.length : Int) > 1048576
  · rw [if_pos c2] at H
    have c2b0 : decide (1048576 < (l0.length : Int)) = true := decide_eq_true c2
    have c2b1 : decide (1048576 < l0.length) = true := decide_eq_true (by omega)
    clear c2
    obtain rfl := Option.some.inj H
    go_enter Try.func12, Try.ntmps12
    go_wp2
    go_ret
    exact ⟨by first | rfl | (simp [errW_none, errW_some] <;> rfl) | (simp [*, errW_none, errW_some] <;> rfl), by repeat (first | (with_reducible first | exact HB.out | apply below_alloc | apply pw_below_drewN | apply below_drew1) | exact HB.out)⟩
  · rw [if_neg c2] at H
    have c2b0 : decide (1048576 < (l0.length : Int)) = false := decide_eq_false c2
    have c2b1 : decide (1048576 < l0.length) = false := decide_eq_false (by omega)
    clear c2
    replace H := Option.bind_eq_some_iff.mp H
    obtain ⟨⟨t853, t854, t855, t856, t859⟩, A30, H⟩ := H
    replace H : ((impl_TraceOf.f k t853 t854 t855 t856 t859).bind fun bt863 => ((spec_TraceOf.f k t853 t854 t855 t856 t859).bind fun bt870 => ((laws_brTrace.f k bt863.1 bt863.2.1 bt863.2.2.1 bt870.1 bt870.2.1 bt870.2.2.1).bind fun t877 => (if t877 = true then (laws_FnTraceOf.j0 k t859 bt863.2.2.2 (bt863.2.2.2 != bt870.2.2.2) t854 t855 t856 bt863.1 bt863.2.1 bt863.2.2.1) else (laws_FnTraceOf.j0 k t859 bt863.2.2.2 true t854 t855 t856 bt863.1 bt863.2.1 bt863.2.2.1))))) = some r := H
    have A3 := Aside0.mk A30
    clear A30
    replace H := Option.bind_eq_some_iff.mp H
    obtain ⟨⟨t863, t864, t867, t868⟩, A40, H⟩ := H
    replace H : ((spec_TraceOf.f k t853 t854 t855 t856 t859).bind fun bt870 => ((laws_brTrace.f k t863 t864 t867 bt870.1 bt870.2.1 bt870.2.2.1).bind fun t877 => (if t877 = true then (laws_FnTraceOf.j0 k t859 t868 (t868 != bt870.2.2.2) t854 t855 t856 t863 t864 t867) else (laws_FnTraceOf.j0 k t859 t868 true t854 t855 t856 t863 t864 t867)))) = some r := H
    have A4 := Aside0.mk A40
    clear A40
    replace H := Option.bind_eq_some_iff.mp H
    obtain ⟨⟨t870, t871, t874, t875⟩, A50, H⟩ := H
    replace H : ((laws_brTrace.f k t863 t864 t867 t870 t871 t874).bind fun t877 => (if t877 = true then (laws_FnTraceOf.j0 k t859 t868 (t868 != t875) t854 t855 t856 t863 t864 t867) else (laws_FnTraceOf.j0 k t859 t868 true t854 t855 t856 t863 t864 t867))) = some r := H
    have A5 := Aside0.mk A50
    clear A50
    have HC6 := Aside0.mk H
    clear H
    go_enter Try.func12, Try.ntmps12
    go_upto_region 6 with (first | ((with_reducible refine gate_callee (f := 46) rfl ?_); refine goesL_ (some 17) rfl rfl Try.func46 (by kernel_rfl) rfl #[.slice A0 l0.length c0] rfl (by (try simp only [List.map_toArray, List.map_cons, List.map_nil]); first | done | rfl | (simp only [List.length_drop, List.length_take]; rfl)) ?_; (with_reducible refine (spec_DrawTraceOf.calls k _ _ l0 t853 t854 t855 t856 t859 _ ?side1 ?side2 A3.out).mono ?_); (case side1 => repeat (first | exact HR0.out | (with_reducible refine Kd.C_alloc ?_ _) | (with_reducible refine Kd.C_drewN ?_ _) | (with_reducible refine Kd.C_drew ?_))); (case side2 => exact HC0.out); rintro e w7 ⟨v857, v860, rfl, ho0, ho1, hb⟩; refine ⟨_, rfl, ?_⟩; have n0_ := Aside0.mk (Kd.N_lower (Kd.N_mono (ok' := fun k_ => some k_ ≠ (v860 : Value).ownBlock) ho0 (fun k_ hk_ => hk_.2)) (below_size (by repeat (first | (with_reducible first | exact HB.out | apply below_alloc | apply pw_below_drewN | apply below_drew1) | exact HB.out)))); have n1_ := Aside0.mk (Kd.R_lower (Kd.R_mono (ok' := fun k_ => True) ho1 (fun _ hk_ => trivial)) (below_size (by repeat (first | (with_reducible first | exact HB.out | apply below_alloc | apply pw_below_drewN | apply below_drew1) | exact HB.out)))); have n2_ := Aside0.mk (below_step (by repeat (first | (with_reducible first | exact HB.out | apply below_alloc | apply pw_below_drewN | apply below_drew1) | exact HB.out)) hb); clear HB; have HO858 := n0_; have HO861 := n1_; have HB := n2_; clear n0_ n1_ n2_; (try clear hb); (try clear hb2); (try clear hk); (try clear hi); (try clear ho0); (try clear ho1)) | ((with_reducible refine gate_dst (N := 4) rfl ?_); refine box_event ?hg (N := 4) ?hd (cs := #[.int .i64 0, .int .i64 0, .slice none 0 0]) (t := 25) ?hr ?_; (case hd => rfl); (case hg => rfl); (case hr => first | (go_simp; done) | (go_simp; rfl)); intro gb862 hg w8 hbox hb; have n0_ := Aside0.mk (Kd.N_below (Kd.N_elderB (by (with_reducible repeat (first | apply Kd.N_alloc | apply Kd.N_drewN | apply Kd.N_drew)); exact HO858.out) gb862 (Nat.le_of_eq hg.symm)) hb); have n1_ := Aside0.mk (Kd.R_below (by (with_reducible repeat (first | apply Kd.R_alloc | apply Kd.R_drewN | apply Kd.R_drew)); exact HO861.out) hb); have n2_ := Aside0.mk (below_step (by repeat (first | (with_reducible first | exact HB.out | apply below_alloc | apply pw_below_drewN | apply below_drew1) | exact HB.out)) hb); have n3_ := Aside0.mk (hbox); have n4_ := Aside0.mk ((by rw [hg]; exact (below_size (by repeat (first | (with_reducible first | exact HB.out | apply below_alloc | apply pw_below_drewN | apply below_drew1) | exact HB.out))) : w.heap.size ≤ gb862)); have n5_ := Aside0.mk ((by rw [hg]; exact (below_size (by repeat (first | (with_reducible first | exact HB.out | apply below_alloc | apply pw_below_drewN | apply below_drew1) | exact HB.out))) : w.heap.size ≤ gb862)); clear HO858; clear HO861; clear HB; have HO858 := n0_; have HO861 := n1_; have HB := n2_; have BK862 := n3_; have GW862 := n4_; have GE862 := n5_; clear n0_ n1_ n2_ n3_ n4_ n5_; clear hb hbox hg; have hcz9_0 : w8.cell? ⟨gb862, 0, none⟩ = some (.int .i64 0) := (blk_cell BK862.out 0).trans rfl; have hcz9_1 : w8.cell? ⟨gb862, 1, none⟩ = some (.int .i64 0) := (blk_cell BK862.out 1).trans rfl; have hcz9_2 : w8.cell? ⟨gb862, 2, none⟩ = some (.slice none 0 0) := (blk_cell BK862.out 2).trans rfl; have hfz9_0 := blk_frozen BK862.out 0; have hfz9_1 := blk_frozen BK862.out 1; have hfz9_2 := blk_frozen BK862.out 2; obtain ⟨Ao10, co10, eo10⟩ := Kd.N_slice HO858.out; subst eo10; obtain ⟨Ao11, co11, eo11⟩ := Kd.R_slice HO861.out; subst eo11) | ((with_reducible refine gate_callee (f := 47) rfl ?_); refine goesL_ (some 25) rfl rfl Try.func47 (by kernel_rfl) rfl #[.int .i64 t853, .agg #[.int .i64 t854, .int .i64 t855, .slice Ao10 t856.length co10], .slice Ao11 t859.length co11] rfl (by (try simp only [List.map_toArray, List.map_cons, List.map_nil]); first | done | rfl | (simp only [List.length_drop, List.length_take]; rfl)) ?_; (with_reducible refine (impl_TraceOf.calls k t853 t854 t855 _ _ t856 _ _ t859 t863 t864 t867 t868 _ ?side1 ?side2 ?side3 ?side4 A4.out).mono ?_); (case side1 => refine (Kd.N_reads' (e := 25) (base := w.heap.size) (ok := fun k_ => (some k_ ≠ (.slice Ao11 t859.length co11 : Value).ownBlock ∧ k_ ≠ gb862)) (n := t856.length) (c := co10) ?_).2.2; exact (by (with_reducible repeat (first | apply Kd.N_alloc | apply Kd.N_drewN | apply Kd.N_drew)); exact (Kd.N_mono (Kd.N_far (p := ⟨gb862, 2, none⟩) (Kd.N_far (p := ⟨gb862, 1, none⟩) (Kd.N_far (p := ⟨gb862, 0, none⟩) (Kd.N_mono HO858.out (fun k_ hk => (⟨hk, hk.2⟩ : _ ∧ k_ ≠ gb862))) (fun _ hk => hk.2) (.int .i64 t854)) (fun _ hk => hk.2) (.int .i64 t855)) (fun _ hk => hk.2) (.slice Ao10 t856.length co10)) (fun _ h_ => h_.1)))); (case side2 => exact (Kd.N_reads' HO858.out).2.1); (case side3 => refine (Kd.R_reads' (e := 3) (base := w.heap.size) (ok := fun k_ => True) (n := t859.length) (c := co11) ?_).2.2; exact (by (with_reducible repeat (first | apply Kd.R_alloc | apply Kd.R_drewN | apply Kd.R_drew)); exact (Kd.R_mono (Kd.R_far (p := ⟨gb862, 2, none⟩) (Kd.R_far (p := ⟨gb862, 1, none⟩) (Kd.R_far (p := ⟨gb862, 0, none⟩) (Kd.R_types HO861.out BK862.out (by decide)) (fun _ hk => hk.2) (.int .i64 t854)) (fun _ hk => hk.2) (.int .i64 t855)) (fun _ hk => hk.2) (.slice Ao10 t856.length co10)) (fun _ h_ => h_.1)))); (case side4 => exact (Kd.R_reads' HO861.out).2.1); rintro e w12 ⟨v865, rfl, ho0, hb⟩; refine ⟨_, rfl, ?_⟩; have n0_ := Aside0.mk (Kd.N_elder' (by (with_reducible repeat (first | apply Kd.N_alloc | apply Kd.N_drewN | apply Kd.N_drew)); exact (Kd.N_mono (Kd.N_far (p := ⟨gb862, 2, none⟩) (Kd.N_far (p := ⟨gb862, 1, none⟩) (Kd.N_far (p := ⟨gb862, 0, none⟩) (Kd.N_mono HO858.out (fun k_ hk => (⟨hk, hk.2⟩ : _ ∧ k_ ≠ gb862))) (fun _ hk => hk.2) (.int .i64 t854)) (fun _ hk => hk.2) (.int .i64 t855)) (fun _ hk => hk.2) (.slice Ao10 t856.length co10)) (fun _ h_ => h_.1))) (Kd.R_base ho0) hb); have n1_ := Aside0.mk (Kd.R_below (by (with_reducible repeat (first | apply Kd.R_alloc | apply Kd.R_drewN | apply Kd.R_drew)); exact (Kd.R_mono (Kd.R_far (p := ⟨gb862, 2, none⟩) (Kd.R_far (p := ⟨gb862, 1, none⟩) (Kd.R_far (p := ⟨gb862, 0, none⟩) (Kd.R_types HO861.out BK862.out (by decide)) (fun _ hk => hk.2) (.int .i64 t854)) (fun _ hk => hk.2) (.int .i64 t855)) (fun _ hk => hk.2) (.slice Ao10 t856.length co10)) (fun _ h_ => h_.1))) hb); have n2_ := Aside0.mk (Kd.R_lower ho0 (below_size (by repeat (first | (with_reducible first | exact HB.out | apply below_alloc | apply pw_below_drewN | apply below_drew1 | refine below_set ?_ GE862.out) | exact HB.out)))); have n3_ := Aside0.mk (blk_below (g := gb862) (o := .cells #[.int .i64 t854, .int .i64 t855, .slice Ao10 t856.length co10] 25 (0, 0)) (by (with_reducible repeat (first | refine blk_drewN ?_ _ | refine blk_drew ?_ | refine blk_alloc ?_ _)); refine blk_put (cs := #[.int .i64 t854, .int .i64 t855, .slice none 0 0]) ?_ 2 _ rfl; (with_reducible repeat (first | refine blk_drewN ?_ _ | refine blk_drew ?_ | refine blk_alloc ?_ _)); refine blk_put (cs := #[.int .i64 t854, .int .i64 0, .slice none 0 0]) ?_ 1 _ rfl; (with_reducible repeat (first | refine blk_drewN ?_ _ | refine blk_drew ?_ | refine blk_alloc ?_ _)); refine blk_put (cs := #[.int .i64 0, .int .i64 0, .slice none 0 0]) ?_ 0 _ rfl; (with_reducible repeat (first | refine blk_drewN ?_ _ | refine blk_drew ?_ | refine blk_alloc ?_ _)); exact BK862.out) hb); have n4_ := Aside0.mk (below_step (by repeat (first | (with_reducible first | exact HB.out | apply below_alloc | apply pw_below_drewN | apply below_drew1 | refine below_set ?_ GE862.out) | exact HB.out)) hb); clear HO858; clear HO861; clear BK862; clear HB; have HO858 := n0_; have HO861 := n1_; have HO866 := n2_; have BK862 := n3_; have HB := n4_; clear n0_ n1_ n2_ n3_ n4_; (try clear hb); (try clear hb2); (try clear hk); (try clear hi); (try clear ho0)) | ((with_reducible refine gate_dst (N := 6) rfl ?_); refine box_event ?hg (N := 6) ?hd (cs := #[.int .i64 0, .slice none 0 0, .int .i64 0]) (t := 63) ?hr ?_; (case hd => rfl); (case hg => rfl); (case hr => first | (go_simp; done) | (go_simp; rfl)); intro gb869 hg w13 hbox hb; have n0_ := Aside0.mk (Kd.N_below (Kd.N_elderB (by (with_reducible repeat (first | apply Kd.N_alloc | apply Kd.N_drewN | apply Kd.N_drew)); exact HO858.out) gb869 (Nat.le_of_eq hg.symm)) hb); have n1_ := Aside0.mk (Kd.R_below (by (with_reducible repeat (first | apply Kd.R_alloc | apply Kd.R_drewN | apply Kd.R_drew)); exact HO861.out) hb); have n2_ := Aside0.mk (Kd.R_below (by (with_reducible repeat (first | apply Kd.R_alloc | apply Kd.R_drewN | apply Kd.R_drew)); exact HO866.out) hb); have n3_ := Aside0.mk (blk_below (g := gb862) (o := .cells #[.int .i64 t854, .int .i64 t855, .slice Ao10 t856.length co10] 25 (0, 0)) (by (with_reducible repeat (first | refine blk_drewN ?_ _ | refine blk_drew ?_ | refine blk_alloc ?_ _)); exact BK862.out) hb); have n4_ := Aside0.mk (below_step (by repeat (first | (with_reducible first | exact HB.out | apply below_alloc | apply pw_below_drewN | apply below_drew1 | refine below_set ?_ GE862.out) | exact HB.out)) hb); have n5_ := Aside0.mk (hbox); have n6_ := Aside0.mk ((by rw [hg]; exact (below_size (by repeat (first | (with_reducible first | exact HB.out | apply below_alloc | apply pw_below_drewN | apply below_drew1 | refine below_set ?_ GE862.out) | exact HB.out))) : w.heap.size ≤ gb869)); have n7_ := Aside0.mk ((by rw [hg]; exact (below_size (by repeat (first | (with_reducible first | exact HB.out | apply below_alloc | apply pw_below_drewN | apply below_drew1 | refine below_set ?_ GE862.out) | exact HB.out))) : w.heap.size ≤ gb869)); have n8_ := Aside0.mk ((by rw [hg]; exact Nat.ne_of_lt (blk_lt (g := gb862) (o := .cells #[.int .i64 t854, .int .i64 t855, .slice Ao10 t856.length co10] 25 (0, 0)) (by (with_reducible repeat (first | refine blk_drewN ?_ _ | refine blk_drew ?_ | refine blk_alloc ?_ _)); exact BK862.out)) : gb862 ≠ gb869)); have n9_ := Aside0.mk ((by rw [hg]; exact Nat.ne_of_gt (blk_lt (g := gb862) (o := .cells #[.int .i64 t854, .int .i64 t855, .slice Ao10 t856.length co10] 25 (0, 0)) (by (with_reducible repeat (first | refine blk_drewN ?_ _ | refine blk_drew ?_ | refine blk_alloc ?_ _)); exact BK862.out)) : gb869 ≠ gb862)); clear HO858; clear HO861; clear HO866; clear BK862; clear HB; have HO858 := n0_; have HO861 := n1_; have HO866 := n2_; have BK862 := n3_; have HB := n4_; have BK869 := n5_; have GW869 := n6_; have GE869 := n7_; have NB862_869 := n8_; have NB869_862 := n9_; clear n0_ n1_ n2_ n3_ n4_ n5_ n6_ n7_ n8_ n9_; clear hb hbox hg; have hnb14 := NB869_862.out; have hnc14 := NB862_869.out; have hcz15_0 : w13.cell? ⟨gb869, 0, none⟩ = some (.int .i64 0) := (blk_cell BK869.out 0).trans rfl; have hcz15_1 : w13.cell? ⟨gb869, 1, none⟩ = some (.slice none 0 0) := (blk_cell BK869.out 1).trans rfl; have hcz15_2 : w13.cell? ⟨gb869, 2, none⟩ = some (.int .i64 0) := (blk_cell BK869.out 2).trans rfl; have hfz15_0 := blk_frozen BK869.out 0; have hfz15_1 := blk_frozen BK869.out 1; have hfz15_2 := blk_frozen BK869.out 2; obtain ⟨Ao16, co16, eo16⟩ := Kd.R_slice HO866.out; subst eo16; have hcz17_0 : w13.cell? ⟨gb862, 0, none⟩ = some (.int .i64 t854) := (blk_cell BK862.out 0).trans rfl; have hcz17_1 : w13.cell? ⟨gb862, 1, none⟩ = some (.int .i64 t855) := (blk_cell BK862.out 1).trans rfl; have hcz17_2 : w13.cell? ⟨gb862, 2, none⟩ = some (.slice Ao10 t856.length co10) := (blk_cell BK862.out 2).trans rfl; have hfz17_0 := blk_frozen BK862.out 0; have hfz17_1 := blk_frozen BK862.out 1; have hfz17_2 := blk_frozen BK862.out 2) | ((with_reducible refine gate_callee (f := 48) rfl ?_); refine goesL_ (some 32) rfl rfl Try.func48 (by kernel_rfl) rfl #[.int .i64 t853, .agg #[.int .i64 t854, .int .i64 t855, .slice Ao10 t856.length co10], .slice Ao11 t859.length co11] rfl (by (try simp only [List.map_toArray, List.map_cons, List.map_nil]); first | done | rfl | (simp only [List.length_drop, List.length_take]; rfl)) ?_; (with_reducible refine (spec_TraceOf.calls k t853 t854 t855 _ _ t856 _ _ t859 t870 t871 t874 t875 _ ?side1 ?side2 ?side3 ?side4 A5.out).mono ?_); (case side1 => refine (Kd.N_reads' (e := 25) (base := w.heap.size) (ok := fun k_ => (((some k_ ≠ (.slice Ao11 t859.length co11 : Value).ownBlock ∧ k_ ≠ gb862) ∧ some k_ ≠ (.slice Ao16 t864.length co16 : Value).ownBlock) ∧ k_ ≠ gb869)) (n := t856.length) (c := co10) ?_).2.2; exact (by (with_reducible repeat (first | apply Kd.N_alloc | apply Kd.N_drewN | apply Kd.N_drew)); exact (Kd.N_mono (Kd.N_far (p := ⟨gb869, 2, none⟩) (Kd.N_far (p := ⟨gb869, 1, none⟩) (Kd.N_far (p := ⟨gb869, 0, none⟩) (Kd.N_mono HO858.out (fun k_ hk => (⟨hk, hk.2⟩ : _ ∧ k_ ≠ gb869))) (fun _ hk => hk.2) (.int .i64 t863)) (fun _ hk => hk.2) (.slice Ao16 t864.length co16)) (fun _ hk => hk.2) (.int .i64 t867)) (fun _ h_ => h_.1)))); (case side2 => exact (Kd.N_reads' HO858.out).2.1); (case side3 => refine (Kd.R_reads' (e := 3) (base := w.heap.size) (ok := fun k_ => True) (n := t859.length) (c := co11) ?_).2.2; exact (by (with_reducible repeat (first | apply Kd.R_alloc | apply Kd.R_drewN | apply Kd.R_drew)); exact (Kd.R_mono (Kd.R_far (p := ⟨gb869, 2, none⟩) (Kd.R_far (p := ⟨gb869, 1, none⟩) (Kd.R_far (p := ⟨gb869, 0, none⟩) (Kd.R_types HO861.out BK869.out (by decide)) (fun _ hk => hk.2) (.int .i64 t863)) (fun _ hk => hk.2) (.slice Ao16 t864.length co16)) (fun _ hk => hk.2) (.int .i64 t867)) (fun _ h_ => h_.1)))); (case side4 => exact (Kd.R_reads' HO861.out).2.1); rintro e w18 ⟨v872, rfl, ho0, hb⟩; refine ⟨_, rfl, ?_⟩; have n0_ := Aside0.mk (Kd.N_elder' (by (with_reducible repeat (first | apply Kd.N_alloc | apply Kd.N_drewN | apply Kd.N_drew)); exact (Kd.N_mono (Kd.N_far (p := ⟨gb869, 2, none⟩) (Kd.N_far (p := ⟨gb869, 1, none⟩) (Kd.N_far (p := ⟨gb869, 0, none⟩) (Kd.N_mono HO858.out (fun k_ hk => (⟨hk, hk.2⟩ : _ ∧ k_ ≠ gb869))) (fun _ hk => hk.2) (.int .i64 t863)) (fun _ hk => hk.2) (.slice Ao16 t864.length co16)) (fun _ hk => hk.2) (.int .i64 t867)) (fun _ h_ => h_.1))) (Kd.R_base ho0) hb); have n1_ := Aside0.mk (Kd.R_below (by (with_reducible repeat (first | apply Kd.R_alloc | apply Kd.R_drewN | apply Kd.R_drew)); exact (Kd.R_mono (Kd.R_far (p := ⟨gb869, 2, none⟩) (Kd.R_far (p := ⟨gb869, 1, none⟩) (Kd.R_far (p := ⟨gb869, 0, none⟩) (Kd.R_types HO861.out BK869.out (by decide)) (fun _ hk => hk.2) (.int .i64 t863)) (fun _ hk => hk.2) (.slice Ao16 t864.length co16)) (fun _ hk => hk.2) (.int .i64 t867)) (fun _ h_ => h_.1))) hb); have n2_ := Aside0.mk (Kd.R_elder' (by (with_reducible repeat (first | apply Kd.R_alloc | apply Kd.R_drewN | apply Kd.R_drew)); exact (Kd.R_mono (Kd.R_far (p := ⟨gb869, 2, none⟩) (Kd.R_far (p := ⟨gb869, 1, none⟩) (Kd.R_far (p := ⟨gb869, 0, none⟩) (Kd.R_types HO866.out BK869.out (by decide)) (fun _ hk => hk.2) (.int .i64 t863)) (fun _ hk => hk.2) (.slice Ao16 t864.length co16)) (fun _ hk => hk.2) (.int .i64 t867)) (fun _ h_ => h_.1))) (Kd.R_base ho0) hb); have n3_ := Aside0.mk (Kd.R_lower (Kd.R_new' ho0 (Kd.R_lt (by (with_reducible repeat (first | apply Kd.R_alloc | apply Kd.R_drewN | apply Kd.R_drew)); exact (Kd.R_mono (Kd.R_far (p := ⟨gb869, 2, none⟩) (Kd.R_far (p := ⟨gb869, 1, none⟩) (Kd.R_far (p := ⟨gb869, 0, none⟩) (Kd.R_types HO866.out BK869.out (by decide)) (fun _ hk => hk.2) (.int .i64 t863)) (fun _ hk => hk.2) (.slice Ao16 t864.length co16)) (fun _ hk => hk.2) (.int .i64 t867)) (fun _ h_ => h_.1))))) (below_size (by repeat (first | (with_reducible first | exact HB.out | apply below_alloc | apply pw_below_drewN | apply below_drew1 | refine below_set ?_ GE862.out | refine below_set ?_ GE869.out) | exact HB.out)))); have n4_ := Aside0.mk (blk_below (g := gb862) (o := .cells #[.int .i64 t854, .int .i64 t855, .slice Ao10 t856.length co10] 25 (0, 0)) (by (with_reducible repeat (first | refine blk_drewN ?_ _ | refine blk_drew ?_ | refine blk_alloc ?_ _)); refine blk_far ?_ NB862_869.out _; (with_reducible repeat (first | refine blk_drewN ?_ _ | refine blk_drew ?_ | refine blk_alloc ?_ _)); refine blk_far ?_ NB862_869.out _; (with_reducible repeat (first | refine blk_drewN ?_ _ | refine blk_drew ?_ | refine blk_alloc ?_ _)); refine blk_far ?_ NB862_869.out _; (with_reducible repeat (first | refine blk_drewN ?_ _ | refine blk_drew ?_ | refine blk_alloc ?_ _)); exact BK862.out) hb); have n5_ := Aside0.mk (blk_below (g := gb869) (o := .cells #[.int .i64 t863, .slice Ao16 t864.length co16, .int .i64 t867] 63 (0, 0)) (by (with_reducible repeat (first | refine blk_drewN ?_ _ | refine blk_drew ?_ | refine blk_alloc ?_ _)); refine blk_put (cs := #[.int .i64 t863, .slice Ao16 t864.length co16, .int .i64 0]) ?_ 2 _ rfl; (with_reducible repeat (first | refine blk_drewN ?_ _ | refine blk_drew ?_ | refine blk_alloc ?_ _)); refine blk_put (cs := #[.int .i64 t863, .slice none 0 0, .int .i64 0]) ?_ 1 _ rfl; (with_reducible repeat (first | refine blk_drewN ?_ _ | refine blk_drew ?_ | refine blk_alloc ?_ _)); refine blk_put (cs := #[.int .i64 0, .slice none 0 0, .int .i64 0]) ?_ 0 _ rfl; (with_reducible repeat (first | refine blk_drewN ?_ _ | refine blk_drew ?_ | refine blk_alloc ?_ _)); exact BK869.out) hb); have n6_ := Aside0.mk (below_step (by repeat (first | (with_reducible first | exact HB.out | apply below_alloc | apply pw_below_drewN | apply below_drew1 | refine below_set ?_ GE862.out | refine below_set ?_ GE869.out) | exact HB.out)) hb); clear HO858; clear HO861; clear HO866; clear BK862; clear BK869; clear HB; have HO858 := n0_; have HO861 := n1_; have HO866 := n2_; have HO873 := n3_; have BK862 := n4_; have BK869 := n5_; have HB := n6_; clear n0_ n1_ n2_ n3_ n4_ n5_ n6_; (try clear hb); (try clear hb2); (try clear hk); (try clear hi); (try clear ho0)) | ((with_reducible refine gate_dst (N := 8) rfl ?_); refine box_event ?hg (N := 8) ?hd (cs := #[.int .i64 0, .slice none 0 0, .int .i64 0]) (t := 63) ?hr ?_; (case hd => rfl); (case hg => rfl); (case hr => first | (go_simp; done) | (go_simp; rfl)); intro gb876 hg w19 hbox hb; have n0_ := Aside0.mk (Kd.N_below (Kd.N_elderB (by (with_reducible repeat (first | apply Kd.N_alloc | apply Kd.N_drewN | apply Kd.N_drew)); exact HO858.out) gb876 (Nat.le_of_eq hg.symm)) hb); have n1_ := Aside0.mk (Kd.R_below (by (with_reducible repeat (first | apply Kd.R_alloc | apply Kd.R_drewN | apply Kd.R_drew)); exact HO861.out) hb); have n2_ := Aside0.mk (Kd.R_below (by (with_reducible repeat (first | apply Kd.R_alloc | apply Kd.R_drewN | apply Kd.R_drew)); exact HO866.out) hb); have n3_ := Aside0.mk (Kd.R_below (by (with_reducible repeat (first | apply Kd.R_alloc | apply Kd.R_drewN | apply Kd.R_drew)); exact HO873.out) hb); have n4_ := Aside0.mk (blk_below (g := gb862) (o := .cells #[.int .i64 t854, .int .i64 t855, .slice Ao10 t856.length co10] 25 (0, 0)) (by (with_reducible repeat (first | refine blk_drewN ?_ _ | refine blk_drew ?_ | refine blk_alloc ?_ _)); exact BK862.out) hb); have n5_ := Aside0.mk (blk_below (g := gb869) (o := .cells #[.int .i64 t863, .slice Ao16 t864.length co16, .int .i64 t867] 63 (0, 0)) (by (with_reducible repeat (first | refine blk_drewN ?_ _ | refine blk_drew ?_ | refine blk_alloc ?_ _)); exact BK869.out) hb); have n6_ := Aside0.mk (below_step (by repeat (first | (with_reducible first | exact HB.out | apply below_alloc | apply pw_below_drewN | apply below_drew1 | refine below_set ?_ GE862.out | refine below_set ?_ GE869.out) | exact HB.out)) hb); have n7_ := Aside0.mk (hbox); have n8_ := Aside0.mk ((by rw [hg]; exact (below_size (by repeat (first | (with_reducible first | exact HB.out | apply below_alloc | apply pw_below_drewN | apply below_drew1 | refine below_set ?_ GE862.out | refine below_set ?_ GE869.out) | exact HB.out))) : w.heap.size ≤ gb876)); have n9_ := Aside0.mk ((by rw [hg]; exact (below_size (by repeat (first | (with_reducible first | exact HB.out | apply below_alloc | apply pw_below_drewN | apply below_drew1 | refine below_set ?_ GE862.out | refine below_set ?_ GE869.out) | exact HB.out))) : w.heap.size ≤ gb876)); have n10_ := Aside0.mk ((by rw [hg]; exact Nat.ne_of_lt (blk_lt (g := gb862) (o := .cells #[.int .i64 t854, .int .i64 t855, .slice Ao10 t856.length co10] 25 (0, 0)) (by (with_reducible repeat (first | refine blk_drewN ?_ _ | refine blk_drew ?_ | refine blk_alloc ?_ _)); exact BK862.out)) : gb862 ≠ gb876)); have n11_ := Aside0.mk ((by rw [hg]; exact Nat.ne_of_gt (blk_lt (g := gb862) (o := .cells #[.int .i64 t854, .int .i64 t855, .slice Ao10 t856.length co10] 25 (0, 0)) (by (with_reducible repeat (first | refine blk_drewN ?_ _ | refine blk_drew ?_ | refine blk_alloc ?_ _)); exact BK862.out)) : gb876 ≠ gb862)); have n12_ := Aside0.mk ((by rw [hg]; exact Nat.ne_of_lt (blk_lt (g := gb869) (o := .cells #[.int .i64 t863, .slice Ao16 t864.length co16, .int .i64 t867] 63 (0, 0)) (by (with_reducible repeat (first | refine blk_drewN ?_ _ | refine blk_drew ?_ | refine blk_alloc ?_ _)); exact BK869.out)) : gb869 ≠ gb876)); have n13_ := Aside0.mk ((by rw [hg]; exact Nat.ne_of_gt (blk_lt (g := gb869) (o := .cells #[.int .i64 t863, .slice Ao16 t864.length co16, .int .i64 t867] 63 (0, 0)) (by (with_reducible repeat (first | refine blk_drewN ?_ _ | refine blk_drew ?_ | refine blk_alloc ?_ _)); exact BK869.out)) : gb876 ≠ gb869)); clear HO858; clear HO861; clear HO866; clear HO873; clear BK862; clear BK869; clear HB; have HO858 := n0_; have HO861 := n1_; have HO866 := n2_; have HO873 := n3_; have BK862 := n4_; have BK869 := n5_; have HB := n6_; have BK876 := n7_; have GW876 := n8_; have GE876 := n9_; have NB862_876 := n10_; have NB876_862 := n11_; have NB869_876 := n12_; have NB876_869 := n13_; clear n0_ n1_ n2_ n3_ n4_ n5_ n6_ n7_ n8_ n9_ n10_ n11_ n12_ n13_; clear hb hbox hg; have hnb20 := NB876_862.out; have hnc20 := NB862_876.out; have hnb21 := NB876_869.out; have hnc21 := NB869_876.out; have hcz22_0 : w19.cell? ⟨gb876, 0, none⟩ = some (.int .i64 0) := (blk_cell BK876.out 0).trans rfl; have hcz22_1 : w19.cell? ⟨gb876, 1, none⟩ = some (.slice none 0 0) := (blk_cell BK876.out 1).trans rfl; have hcz22_2 : w19.cell? ⟨gb876, 2, none⟩ = some (.int .i64 0) := (blk_cell BK876.out 2).trans rfl; have hfz22_0 := blk_frozen BK876.out 0; have hfz22_1 := blk_frozen BK876.out 1; have hfz22_2 := blk_frozen BK876.out 2; obtain ⟨Ao23, co23, eo23⟩ := Kd.R_slice HO873.out; subst eo23))
    (try simp only [Act.put, List.setIfInBounds_toArray, List.set_cons_zero, List.set_cons_succ])
    go_cut [43] (fun v43 wc => ∃ (kq : Nat) (x43_5 : Bool), v43 = .bool x43_5 ∧ Aside0 (laws_FnTraceOf.j0 kq t859 t868 x43_5 t854 t855 t856 t863 t864 t867 = some r) ∧ Aside0 (kq ≤ k) ∧ Aside0 (Kd.R (Kd.int .i64) 3 wc w.heap.size (fun _ => True) (.slice Ao11 t859.length co11) t859) ∧ Aside0 (Kd.N k25 25 wc w.heap.size (fun k_ => some k_ ≠ ((.slice Ao11 t859.length co11) : Value).ownBlock ∧ some k_ ≠ ((.slice Ao16 t864.length co16) : Value).ownBlock ∧ some k_ ≠ ((.slice Ao23 t871.length co23) : Value).ownBlock ∧ k_ ≠ gb862 ∧ k_ ≠ gb869 ∧ k_ ≠ gb876) (.slice Ao10 t856.length co10) t856) ∧ Aside0 (Kd.R k49 49 wc w.heap.size (fun k_ => some k_ ≠ ((.slice Ao23 t871.length co23) : Value).ownBlock) (.slice Ao16 t864.length co16) t864) ∧ Aside0 (Kd.R k49 49 wc w.heap.size (fun k_ => some k_ ≠ ((.slice Ao16 t864.length co16) : Value).ownBlock) (.slice Ao23 t871.length co23) t871) ∧ Aside0 (wc.heap[gb862]? = some (.cells #[.int .i64 t854, .int .i64 t855, (.slice Ao10 t856.length co10)] 25 (0, 0))) ∧ Aside0 (wc.heap[gb869]? = some (.cells #[.int .i64 t863, (.slice Ao16 t864.length co16), .int .i64 t867] 63 (0, 0))) ∧ Aside0 (wc.heap[gb876]? = some (.cells #[.int .i64 t870, (.slice Ao23 t871.length co23), .int .i64 t874] 63 (0, 0))) ∧ Aside0 (Below w.heap.size w wc))
    case first =>
      have H := HC6.out
      clear HC6
      replace H := Option.bind_eq_some_iff.mp H
      obtain ⟨t877, A240, H⟩ := H
      replace H : (if t877 = true then (laws_FnTraceOf.j0 k t859 t868 (t868 != t875) t854 t855 t856 t863 t864 t867) else (laws_FnTraceOf.j0 k t859 t868 true t854 t855 t856 t863 t864 t867)) = some r := H
      have A24 := Aside0.mk A240
      clear A240
      by_cases c25 : t877 = true
      · subst c25
        have H1 : (laws_FnTraceOf.j0 k t859 t868 (t868 != t875) t854 t855 t856 t863 t864 t867) = some r := by rw [if_pos rfl] at H; exact H
        clear H
        have H := H1
        clear H1
        have H' := Aside0.mk H
        clear H
        have hnb26 := NB869_862.out
        have hnc26 := NB862_869.out
        have hnb27 := NB869_876.out
        have hnc27 := NB876_869.out
        have hcz28_0 : w19.cell? ⟨gb869, 0, none⟩ = some (.int .i64 t863) := (blk_cell BK869.out 0).trans rfl
        have hcz28_1 : w19.cell? ⟨gb869, 1, none⟩ = some (.slice Ao16 t864.length co16) := (blk_cell BK869.out 1).trans rfl
        have hcz28_2 : w19.cell? ⟨gb869, 2, none⟩ = some (.int .i64 t867) := (blk_cell BK869.out 2).trans rfl
        have hfz28_0 := blk_frozen BK869.out 0
        have hfz28_1 := blk_frozen BK869.out 1
        have hfz28_2 := blk_frozen BK869.out 2
        have hnb29 := NB876_862.out
        have hnc29 := NB862_876.out
        have hcz30_0 : w19.cell? ⟨gb876, 0, none⟩ = some (.int .i64 0) := (blk_cell BK876.out 0).trans rfl
        have hcz30_1 : w19.cell? ⟨gb876, 1, none⟩ = some (.slice none 0 0) := (blk_cell BK876.out 1).trans rfl
        have hcz30_2 : w19.cell? ⟨gb876, 2, none⟩ = some (.int .i64 0) := (blk_cell BK876.out 2).trans rfl
        have hfz30_0 := blk_frozen BK876.out 0
        have hfz30_1 := blk_frozen BK876.out 1
        have hfz30_2 := blk_frozen BK876.out 2
        go_wp2_with (first | ((with_reducible refine gate_callee (f := 49) rfl ?_); refine goesL_ (some 37) rfl rfl Try.func49 (by kernel_rfl) rfl #[.agg #[.int .i64 t863, .slice Ao16 t864.length co16, .int .i64 t867], .agg #[.int .i64 t870, .slice Ao23 t871.length co23, .int .i64 t874]] rfl (by (try simp only [List.map_toArray, List.map_cons, List.map_nil]); first | done | rfl | (simp only [List.length_drop, List.length_take]; rfl)) ?_; (with_reducible refine (laws_brTrace.calls k t863 _ _ t864 t867 t870 _ _ t871 t874 true _ ?side1 ?side2 ?side3 ?side4 A24.out).mono ?_); (case side1 => refine (Kd.R_reads' (e := 49) (base := w.heap.size) (ok := fun k_ => (True ∧ some k_ ≠ (.slice Ao23 t871.length co23 : Value).ownBlock)) (n := t864.length) (c := co16) ?_).2.2; exact (by (with_reducible repeat (first | apply Kd.R_alloc | apply Kd.R_drewN | apply Kd.R_drew)); exact (Kd.R_mono (Kd.R_far (p := ⟨gb876, 2, none⟩) (Kd.R_far (p := ⟨gb876, 1, none⟩) (Kd.R_far (p := ⟨gb876, 0, none⟩) (Kd.R_types HO866.out BK876.out (by decide)) (fun _ hk => hk.2) (.int .i64 t870)) (fun _ hk => hk.2) (.slice Ao23 t871.length co23)) (fun _ hk => hk.2) (.int .i64 t874)) (fun _ h_ => h_.1)))); (case side2 => exact (Kd.R_reads' HO866.out).2.1); (case side3 => refine (Kd.R_reads' (e := 49) (base := w.heap.size) (ok := fun k_ => (True ∧ some k_ ≠ (.slice Ao16 t864.length co16 : Value).ownBlock)) (n := t871.length) (c := co23) ?_).2.2; exact (by (with_reducible repeat (first | apply Kd.R_alloc | apply Kd.R_drewN | apply Kd.R_drew)); exact (Kd.R_mono (Kd.R_far (p := ⟨gb876, 2, none⟩) (Kd.R_far (p := ⟨gb876, 1, none⟩) (Kd.R_far (p := ⟨gb876, 0, none⟩) (Kd.R_types HO873.out BK876.out (by decide)) (fun _ hk => hk.2) (.int .i64 t870)) (fun _ hk => hk.2) (.slice Ao23 t871.length co23)) (fun _ hk => hk.2) (.int .i64 t874)) (fun _ h_ => h_.1)))); (case side4 => exact (Kd.R_reads' HO873.out).2.1); rintro e w31 ⟨rfl, hb⟩; refine ⟨_, rfl, ?_⟩; have n0_ := Aside0.mk (Kd.N_below (by (with_reducible repeat (first | apply Kd.N_alloc | apply Kd.N_drewN | apply Kd.N_drew)); exact (Kd.N_mono (Kd.N_far (p := ⟨gb876, 2, none⟩) (Kd.N_far (p := ⟨gb876, 1, none⟩) (Kd.N_far (p := ⟨gb876, 0, none⟩) (Kd.N_mono HO858.out (fun k_ hk => (⟨hk, hk.2⟩ : _ ∧ k_ ≠ gb876))) (fun _ hk => hk.2) (.int .i64 t870)) (fun _ hk => hk.2) (.slice Ao23 t871.length co23)) (fun _ hk => hk.2) (.int .i64 t874)) (fun _ h_ => h_.1))) hb); have n1_ := Aside0.mk (Kd.R_below (by (with_reducible repeat (first | apply Kd.R_alloc | apply Kd.R_drewN | apply Kd.R_drew)); exact (Kd.R_mono (Kd.R_far (p := ⟨gb876, 2, none⟩) (Kd.R_far (p := ⟨gb876, 1, none⟩) (Kd.R_far (p := ⟨gb876, 0, none⟩) (Kd.R_types HO861.out BK876.out (by decide)) (fun _ hk => hk.2) (.int .i64 t870)) (fun _ hk => hk.2) (.slice Ao23 t871.length co23)) (fun _ hk => hk.2) (.int .i64 t874)) (fun _ h_ => h_.1))) hb); have n2_ := Aside0.mk (Kd.R_below (by (with_reducible repeat (first | apply Kd.R_alloc | apply Kd.R_drewN | apply Kd.R_drew)); exact (Kd.R_mono (Kd.R_far (p := ⟨gb876, 2, none⟩) (Kd.R_far (p := ⟨gb876, 1, none⟩) (Kd.R_far (p := ⟨gb876, 0, none⟩) (Kd.R_types HO866.out BK876.out (by decide)) (fun _ hk => hk.2) (.int .i64 t870)) (fun _ hk => hk.2) (.slice Ao23 t871.length co23)) (fun _ hk => hk.2) (.int .i64 t874)) (fun _ h_ => h_.1))) hb); have n3_ := Aside0.mk (Kd.R_below (by (with_reducible repeat (first | apply Kd.R_alloc | apply Kd.R_drewN | apply Kd.R_drew)); exact (Kd.R_mono (Kd.R_far (p := ⟨gb876, 2, none⟩) (Kd.R_far (p := ⟨gb876, 1, none⟩) (Kd.R_far (p := ⟨gb876, 0, none⟩) (Kd.R_types HO873.out BK876.out (by decide)) (fun _ hk => hk.2) (.int .i64 t870)) (fun _ hk => hk.2) (.slice Ao23 t871.length co23)) (fun _ hk => hk.2) (.int .i64 t874)) (fun _ h_ => h_.1))) hb); have n4_ := Aside0.mk (blk_below (g := gb862) (o := .cells #[.int .i64 t854, .int .i64 t855, .slice Ao10 t856.length co10] 25 (0, 0)) (by (with_reducible repeat (first | refine blk_drewN ?_ _ | refine blk_drew ?_ | refine blk_alloc ?_ _)); refine blk_far ?_ NB862_876.out _; (with_reducible repeat (first | refine blk_drewN ?_ _ | refine blk_drew ?_ | refine blk_alloc ?_ _)); refine blk_far ?_ NB862_876.out _; (with_reducible repeat (first | refine blk_drewN ?_ _ | refine blk_drew ?_ | refine blk_alloc ?_ _)); refine blk_far ?_ NB862_876.out _; (with_reducible repeat (first | refine blk_drewN ?_ _ | refine blk_drew ?_ | refine blk_alloc ?_ _)); exact BK862.out) hb); have n5_ := Aside0.mk (blk_below (g := gb869) (o := .cells #[.int .i64 t863, .slice Ao16 t864.length co16, .int .i64 t867] 63 (0, 0)) (by (with_reducible repeat (first | refine blk_drewN ?_ _ | refine blk_drew ?_ | refine blk_alloc ?_ _)); refine blk_far ?_ NB869_876.out _; (with_reducible repeat (first | refine blk_drewN ?_ _ | refine blk_drew ?_ | refine blk_alloc ?_ _)); refine blk_far ?_ NB869_876.out _; (with_reducible repeat (first | refine blk_drewN ?_ _ | refine blk_drew ?_ | refine blk_alloc ?_ _)); refine blk_far ?_ NB869_876.out _; (with_reducible repeat (first | refine blk_drewN ?_ _ | refine blk_drew ?_ | refine blk_alloc ?_ _)); exact BK869.out) hb); have n6_ := Aside0.mk (blk_below (g := gb876) (o := .cells #[.int .i64 t870, .slice Ao23 t871.length co23, .int .i64 t874] 63 (0, 0)) (by (with_reducible repeat (first | refine blk_drewN ?_ _ | refine blk_drew ?_ | refine blk_alloc ?_ _)); refine blk_put (cs := #[.int .i64 t870, .slice Ao23 t871.length co23, .int .i64 0]) ?_ 2 _ rfl; (with_reducible repeat (first | refine blk_drewN ?_ _ | refine blk_drew ?_ | refine blk_alloc ?_ _)); refine blk_put (cs := #[.int .i64 t870, .slice none 0 0, .int .i64 0]) ?_ 1 _ rfl; (with_reducible repeat (first | refine blk_drewN ?_ _ | refine blk_drew ?_ | refine blk_alloc ?_ _)); refine blk_put (cs := #[.int .i64 0, .slice none 0 0, .int .i64 0]) ?_ 0 _ rfl; (with_reducible repeat (first | refine blk_drewN ?_ _ | refine blk_drew ?_ | refine blk_alloc ?_ _)); exact BK876.out) hb); have n7_ := Aside0.mk (below_step (by repeat (first | (with_reducible first | exact HB.out | apply below_alloc | apply pw_below_drewN | apply below_drew1 | refine below_set ?_ GE862.out | refine below_set ?_ GE869.out | refine below_set ?_ GE876.out) | exact HB.out)) hb); clear HO858; clear HO861; clear HO866; clear HO873; clear BK862; clear BK869; clear BK876; clear HB; have HO858 := n0_; have HO861 := n1_; have HO866 := n2_; have HO873 := n3_; have BK862 := n4_; have BK869 := n5_; have BK876 := n6_; have HB := n7_; clear n0_ n1_ n2_ n3_ n4_ n5_ n6_ n7_; (try clear hb); (try clear hb2); (try clear hk); (try clear hi)))
        go_meet
        case rel => exact ⟨_, ((t868 != t875)), (by first | rfl | (simp; done) | (simp [*]; done)), H', ⟨by first | omega | exact Nat.le_refl _⟩, ⟨by (with_reducible repeat (first | apply Kd.R_alloc | apply Kd.R_drewN | apply Kd.R_drew)); exact HO861.out⟩, ⟨by (with_reducible repeat (first | apply Kd.N_alloc | apply Kd.N_drewN | apply Kd.N_drew)); exact Kd.N_mono HO858.out (fun _ hk => ⟨hk.1.1.1.1.1, ⟨hk.1.1.1.2, ⟨hk.1.2, ⟨hk.1.1.1.1.2, ⟨hk.1.1.2, hk.2⟩⟩⟩⟩⟩)⟩, ⟨by (with_reducible repeat (first | apply Kd.R_alloc | apply Kd.R_drewN | apply Kd.R_drew)); exact Kd.R_mono HO866.out (fun _ hk => hk.2)⟩, ⟨by (with_reducible repeat (first | apply Kd.R_alloc | apply Kd.R_drewN | apply Kd.R_drew)); exact Kd.R_mono HO873.out (fun _ hk => hk.2)⟩, ⟨by (with_reducible repeat (first | refine blk_drewN ?_ _ | refine blk_drew ?_ | refine blk_alloc ?_ _)); exact BK862.out⟩, ⟨by (with_reducible repeat (first | refine blk_drewN ?_ _ | refine blk_drew ?_ | refine blk_alloc ?_ _)); exact BK869.out⟩, ⟨by (with_reducible repeat (first | refine blk_drewN ?_ _ | refine blk_drew ?_ | refine blk_alloc ?_ _)); exact BK876.out⟩, ⟨by repeat (first | (with_reducible first | exact HB.out | apply below_alloc | apply pw_below_drewN | apply below_drew1 | refine below_set ?_ GE862.out | refine below_set ?_ GE869.out | refine below_set ?_ GE876.out) | exact HB.out)⟩⟩
      · replace c25 := Bool.eq_false_iff.mpr c25
        subst c25
        have H1 : (laws_FnTraceOf.j0 k t859 t868 true t854 t855 t856 t863 t864 t867) = some r := by rw [if_neg (show ¬ (false = true) by decide)] at H; exact H
        clear H
        have H := H1
        clear H1
        have H' := Aside0.mk H
        clear H
        have hnb32 := NB869_862.out
        have hnc32 := NB862_869.out
        have hnb33 := NB869_876.out
        have hnc33 := NB876_869.out
        have hcz34_0 : w19.cell? ⟨gb869, 0, none⟩ = some (.int .i64 t863) := (blk_cell BK869.out 0).trans rfl
        have hcz34_1 : w19.cell? ⟨gb869, 1, none⟩ = some (.slice Ao16 t864.length co16) := (blk_cell BK869.out 1).trans rfl
        have hcz34_2 : w19.cell? ⟨gb869, 2, none⟩ = some (.int .i64 t867) := (blk_cell BK869.out 2).trans rfl
        have hfz34_0 := blk_frozen BK869.out 0
        have hfz34_1 := blk_frozen BK869.out 1
        have hfz34_2 := blk_frozen BK869.out 2
        have hnb35 := NB876_862.out
        have hnc35 := NB862_876.out
        have hcz36_0 : w19.cell? ⟨gb876, 0, none⟩ = some (.int .i64 0) := (blk_cell BK876.out 0).trans rfl
        have hcz36_1 : w19.cell? ⟨gb876, 1, none⟩ = some (.slice none 0 0) := (blk_cell BK876.out 1).trans rfl
        have hcz36_2 : w19.cell? ⟨gb876, 2, none⟩ = some (.int .i64 0) := (blk_cell BK876.out 2).trans rfl
        have hfz36_0 := blk_frozen BK876.out 0
        have hfz36_1 := blk_frozen BK876.out 1
        have hfz36_2 := blk_frozen BK876.out 2
        go_wp2_with (first | ((with_reducible refine gate_callee (f := 49) rfl ?_); refine goesL_ (some 37) rfl rfl Try.func49 (by kernel_rfl) rfl #[.agg #[.int .i64 t863, .slice Ao16 t864.length co16, .int .i64 t867], .agg #[.int .i64 t870, .slice Ao23 t871.length co23, .int .i64 t874]] rfl (by (try simp only [List.map_toArray, List.map_cons, List.map_nil]); first | done | rfl | (simp only [List.length_drop, List.length_take]; rfl)) ?_; (with_reducible refine (laws_brTrace.calls k t863 _ _ t864 t867 t870 _ _ t871 t874 false _ ?side1 ?side2 ?side3 ?side4 A24.out).mono ?_); (case side1 => refine (Kd.R_reads' (e := 49) (base := w.heap.size) (ok := fun k_ => (True ∧ some k_ ≠ (.slice Ao23 t871.length co23 : Value).ownBlock)) (n := t864.length) (c := co16) ?_).2.2; exact (by (with_reducible repeat (first | apply Kd.R_alloc | apply Kd.R_drewN | apply Kd.R_drew)); exact (Kd.R_mono (Kd.R_far (p := ⟨gb876, 2, none⟩) (Kd.R_far (p := ⟨gb876, 1, none⟩) (Kd.R_far (p := ⟨gb876, 0, none⟩) (Kd.R_types HO866.out BK876.out (by decide)) (fun _ hk => hk.2) (.int .i64 t870)) (fun _ hk => hk.2) (.slice Ao23 t871.length co23)) (fun _ hk => hk.2) (.int .i64 t874)) (fun _ h_ => h_.1)))); (case side2 => exact (Kd.R_reads' HO866.out).2.1); (case side3 => refine (Kd.R_reads' (e := 49) (base := w.heap.size) (ok := fun k_ => (True ∧ some k_ ≠ (.slice Ao16 t864.length co16 : Value).ownBlock)) (n := t871.length) (c := co23) ?_).2.2; exact (by (with_reducible repeat (first | apply Kd.R_alloc | apply Kd.R_drewN | apply Kd.R_drew)); exact (Kd.R_mono (Kd.R_far (p := ⟨gb876, 2, none⟩) (Kd.R_far (p := ⟨gb876, 1, none⟩) (Kd.R_far (p := ⟨gb876, 0, none⟩) (Kd.R_types HO873.out BK876.out (by decide)) (fun _ hk => hk.2) (.int .i64 t870)) (fun _ hk => hk.2) (.slice Ao23 t871.length co23)) (fun _ hk => hk.2) (.int .i64 t874)) (fun _ h_ => h_.1)))); (case side4 => exact (Kd.R_reads' HO873.out).2.1); rintro e w37 ⟨rfl, hb⟩; refine ⟨_, rfl, ?_⟩; have n0_ := Aside0.mk (Kd.N_below (by (with_reducible repeat (first | apply Kd.N_alloc | apply Kd.N_drewN | apply Kd.N_drew)); exact (Kd.N_mono (Kd.N_far (p := ⟨gb876, 2, none⟩) (Kd.N_far (p := ⟨gb876, 1, none⟩) (Kd.N_far (p := ⟨gb876, 0, none⟩) (Kd.N_mono HO858.out (fun k_ hk => (⟨hk, hk.2⟩ : _ ∧ k_ ≠ gb876))) (fun _ hk => hk.2) (.int .i64 t870)) (fun _ hk => hk.2) (.slice Ao23 t871.length co23)) (fun _ hk => hk.2) (.int .i64 t874)) (fun _ h_ => h_.1))) hb); have n1_ := Aside0.mk (Kd.R_below (by (with_reducible repeat (first | apply Kd.R_alloc | apply Kd.R_drewN | apply Kd.R_drew)); exact (Kd.R_mono (Kd.R_far (p := ⟨gb876, 2, none⟩) (Kd.R_far (p := ⟨gb876, 1, none⟩) (Kd.R_far (p := ⟨gb876, 0, none⟩) (Kd.R_types HO861.out BK876.out (by decide)) (fun _ hk => hk.2) (.int .i64 t870)) (fun _ hk => hk.2) (.slice Ao23 t871.length co23)) (fun _ hk => hk.2) (.int .i64 t874)) (fun _ h_ => h_.1))) hb); have n2_ := Aside0.mk (Kd.R_below (by (with_reducible repeat (first | apply Kd.R_alloc | apply Kd.R_drewN | apply Kd.R_drew)); exact (Kd.R_mono (Kd.R_far (p := ⟨gb876, 2, none⟩) (Kd.R_far (p := ⟨gb876, 1, none⟩) (Kd.R_far (p := ⟨gb876, 0, none⟩) (Kd.R_types HO866.out BK876.out (by decide)) (fun _ hk => hk.2) (.int .i64 t870)) (fun _ hk => hk.2) (.slice Ao23 t871.length co23)) (fun _ hk => hk.2) (.int .i64 t874)) (fun _ h_ => h_.1))) hb); have n3_ := Aside0.mk (Kd.R_below (by (with_reducible repeat (first | apply Kd.R_alloc | apply Kd.R_drewN | apply Kd.R_drew)); exact (Kd.R_mono (Kd.R_far (p := ⟨gb876, 2, none⟩) (Kd.R_far (p := ⟨gb876, 1, none⟩) (Kd.R_far (p := ⟨gb876, 0, none⟩) (Kd.R_types HO873.out BK876.out (by decide)) (fun _ hk => hk.2) (.int .i64 t870)) (fun _ hk => hk.2) (.slice Ao23 t871.length co23)) (fun _ hk => hk.2) (.int .i64 t874)) (fun _ h_ => h_.1))) hb); have n4_ := Aside0.mk (blk_below (g := gb862) (o := .cells #[.int .i64 t854, .int .i64 t855, .slice Ao10 t856.length co10] 25 (0, 0)) (by (with_reducible repeat (first | refine blk_drewN ?_ _ | refine blk_drew ?_ | refine blk_alloc ?_ _)); refine blk_far ?_ NB862_876.out _; (with_reducible repeat (first | refine blk_drewN ?_ _ | refine blk_drew ?_ | refine blk_alloc ?_ _)); refine blk_far ?_ NB862_876.out _; (with_reducible repeat (first | refine blk_drewN ?_ _ | refine blk_drew ?_ | refine blk_alloc ?_ _)); refine blk_far ?_ NB862_876.out _; (with_reducible repeat (first | refine blk_drewN ?_ _ | refine blk_drew ?_ | refine blk_alloc ?_ _)); exact BK862.out) hb); have n5_ := Aside0.mk (blk_below (g := gb869) (o := .cells #[.int .i64 t863, .slice Ao16 t864.length co16, .int .i64 t867] 63 (0, 0)) (by (with_reducible repeat (first | refine blk_drewN ?_ _ | refine blk_drew ?_ | refine blk_alloc ?_ _)); refine blk_far ?_ NB869_876.out _; (with_reducible repeat (first | refine blk_drewN ?_ _ | refine blk_drew ?_ | refine blk_alloc ?_ _)); refine blk_far ?_ NB869_876.out _; (with_reducible repeat (first | refine blk_drewN ?_ _ | refine blk_drew ?_ | refine blk_alloc ?_ _)); refine blk_far ?_ NB869_876.out _; (with_reducible repeat (first | refine blk_drewN ?_ _ | refine blk_drew ?_ | refine blk_alloc ?_ _)); exact BK869.out) hb); have n6_ := Aside0.mk (blk_below (g := gb876) (o := .cells #[.int .i64 t870, .slice Ao23 t871.length co23, .int .i64 t874] 63 (0, 0)) (by (with_reducible repeat (first | refine blk_drewN ?_ _ | refine blk_drew ?_ | refine blk_alloc ?_ _)); refine blk_put (cs := #[.int .i64 t870, .slice Ao23 t871.length co23, .int .i64 0]) ?_ 2 _ rfl; (with_reducible repeat (first | refine blk_drewN ?_ _ | refine blk_drew ?_ | refine blk_alloc ?_ _)); refine blk_put (cs := #[.int .i64 t870, .slice none 0 0, .int .i64 0]) ?_ 1 _ rfl; (with_reducible repeat (first | refine blk_drewN ?_ _ | refine blk_drew ?_ | refine blk_alloc ?_ _)); refine blk_put (cs := #[.int .i64 0, .slice none 0 0, .int .i64 0]) ?_ 0 _ rfl; (with_reducible repeat (first | refine blk_drewN ?_ _ | refine blk_drew ?_ | refine blk_alloc ?_ _)); exact BK876.out) hb); have n7_ := Aside0.mk (below_step (by repeat (first | (with_reducible first | exact HB.out | apply below_alloc | apply pw_below_drewN | apply below_drew1 | refine below_set ?_ GE862.out | refine below_set ?_ GE869.out | refine below_set ?_ GE876.out) | exact HB.out)) hb); clear HO858; clear HO861; clear HO866; clear HO873; clear BK862; clear BK869; clear BK876; clear HB; have HO858 := n0_; have HO861 := n1_; have HO866 := n2_; have HO873 := n3_; have BK862 := n4_; have BK869 := n5_; have BK876 := n6_; have HB := n7_; clear n0_ n1_ n2_ n3_ n4_ n5_ n6_ n7_; (try clear hb); (try clear hb2); (try clear hk); (try clear hi)))
        go_meet
        case rel => exact ⟨_, (true), (by first | rfl | (simp; done) | (simp [*]; done)), H', ⟨by first | omega | exact Nat.le_refl _⟩, ⟨by (with_reducible repeat (first | apply Kd.R_alloc | apply Kd.R_drewN | apply Kd.R_drew)); exact HO861.out⟩, ⟨by (with_reducible repeat (first | apply Kd.N_alloc | apply Kd.N_drewN | apply Kd.N_drew)); exact Kd.N_mono HO858.out (fun _ hk => ⟨hk.1.1.1.1.1, ⟨hk.1.1.1.2, ⟨hk.1.2, ⟨hk.1.1.1.1.2, ⟨hk.1.1.2, hk.2⟩⟩⟩⟩⟩)⟩, ⟨by (with_reducible repeat (first | apply Kd.R_alloc | apply Kd.R_drewN | apply Kd.R_drew)); exact Kd.R_mono HO866.out (fun _ hk => hk.2)⟩, ⟨by (with_reducible repeat (first | apply Kd.R_alloc | apply Kd.R_drewN | apply Kd.R_drew)); exact Kd.R_mono HO873.out (fun _ hk => hk.2)⟩, ⟨by (with_reducible repeat (first | refine blk_drewN ?_ _ | refine blk_drew ?_ | refine blk_alloc ?_ _)); exact BK862.out⟩, ⟨by (with_reducible repeat (first | refine blk_drewN ?_ _ | refine blk_drew ?_ | refine blk_alloc ?_ _)); exact BK869.out⟩, ⟨by (with_reducible repeat (first | refine blk_drewN ?_ _ | refine blk_drew ?_ | refine blk_alloc ?_ _)); exact BK876.out⟩, ⟨by repeat (first | (with_reducible first | exact HB.out | apply below_alloc | apply pw_below_drewN | apply below_drew1 | refine below_set ?_ GE862.out | refine below_set ?_ GE869.out | refine below_set ?_ GE876.out) | exact HB.out)⟩⟩
    case rest =>
      clear HC6
      try clear c1
      try clear c2
      try clear c2b0
      try clear c2b1
      try clear p2
      try clear c3
      try clear c4
      try clear c12
      try clear c14
      try clear c20
      try clear c21
      try clear c25
      try clear c26
      try clear c27
      try clear c29
      try clear c32
      try clear c33
      try clear c35
      try clear hcz15_0
      try clear hcz15_1
      try clear hcz15_2
      try clear hcz17_0
      try clear hcz17_1
      try clear hcz17_2
      try clear hcz22_0
      try clear hcz22_1
      try clear hcz22_2
      try clear hcz28_0
      try clear hcz28_1
      try clear hcz28_2
      try clear hcz30_0
      try clear hcz30_1
      try clear hcz30_2
      try clear hcz34_0
      try clear hcz34_1
      try clear hcz34_2
      try clear hcz36_0
      try clear hcz36_1
      try clear hcz36_2
      try clear hcz9_0
      try clear hcz9_1
      try clear hcz9_2
      try clear hfz15_0
      try clear hfz15_1
      try clear hfz15_2
      try clear hfz17_0
      try clear hfz17_1
      try clear hfz17_2
      try clear hfz22_0
      try clear hfz22_1
      try clear hfz22_2
      try clear hfz28_0
      try clear hfz28_1
      try clear hfz28_2
      try clear hfz30_0
      try clear hfz30_1
      try clear hfz30_2
      try clear hfz34_0
      try clear hfz34_1
      try clear hfz34_2
      try clear hfz36_0
      try clear hfz36_1
      try clear hfz36_2
      try clear hfz9_0
      try clear hfz9_1
      try clear hfz9_2
      obtain ⟨kq, x43_5, rfl, HA, HJ5, HO_5, HO_863002, HO_870001, HO_877001, BK862, BK869, BK876, HB⟩ := hcut
      cases kq with
      | zero => exact absurd HA.out (by simp [laws_FnTraceOf.j0])
      | succ kj5 =>
        have H := HA.out
        clear HA
        simp only [laws_FnTraceOf.j0] at H
        by_cases c38 : x43_5 = true
        · subst c38
          have H1 : (some false) = some r := by rw [if_pos rfl] at H; exact H
          clear H
          have H := H1
          clear H1
          obtain rfl := Option.some.inj H
          go_wp2
          go_ret
          exact ⟨by first | rfl | (simp [errW_none, errW_some] <;> rfl) | (simp [*, errW_none, errW_some] <;> rfl), by repeat (first | (with_reducible first | exact HB.out | apply below_alloc | apply pw_below_drewN | apply below_drew1 | refine below_set ?_ GE862.out | refine below_set ?_ GE869.out | refine below_set ?_ GE876.out) | exact HB.out)⟩
        · replace c38 := Bool.eq_false_iff.mpr c38
          subst c38
          have H1 : ((impl_TaskValue.f kj5 t854 t855 t856 t859).bind fun bt878 => (if t868 = true then ((impl_TraceHolds.f t863 t864 t867 t859).bind fun t880 => (if t880 = true then (some (bt878.1 == t867)) else (some false))) else (some true))) = some r := by rw [if_neg (show ¬ (false = true) by decide)] at H; exact H
          clear H
          have H := H1
          clear H1
          replace H := Option.bind_eq_some_iff.mp H
          obtain ⟨⟨t878, t879⟩, A390, H⟩ := H
          replace H : (if t868 = true then ((impl_TraceHolds.f t863 t864 t867 t859).bind fun t880 => (if t880 = true then (some (t878 == t867)) else (some false))) else (some true)) = some r := H
          have A39 := Aside0.mk A390
          clear A390
          by_cases c40 : t868 = true
          · subst c40
            have H1 : ((impl_TraceHolds.f t863 t864 t867 t859).bind fun t880 => (if t880 = true then (some (t878 == t867)) else (some false))) = some r := by rw [if_pos rfl] at H; exact H
            clear H
            have H := H1
            clear H1
            replace H := Option.bind_eq_some_iff.mp H
            obtain ⟨t880, A410, H⟩ := H
            replace H : (if t880 = true then (some (t878 == t867)) else (some false)) = some r := H
            have A41 := Aside0.mk A410
            clear A410
            by_cases c42 : t880 = true
            · subst c42
              have H1 : (some (t878 == t867)) = some r := by rw [if_pos rfl] at H; exact H
              clear H
              have H := H1
              clear H1
              obtain rfl := Option.some.inj H
              have hnb43 := NB862_869.out
              have hnc43 := NB869_862.out
              have hnb44 := NB862_876.out
              have hnc44 := NB876_862.out
              have hcz45_0 : wc.cell? ⟨gb862, 0, none⟩ = some (.int .i64 t854) := (blk_cell BK862.out 0).trans rfl
              have hcz45_1 : wc.cell? ⟨gb862, 1, none⟩ = some (.int .i64 t855) := (blk_cell BK862.out 1).trans rfl
              have hcz45_2 : wc.cell? ⟨gb862, 2, none⟩ = some (.slice Ao10 t856.length co10) := (blk_cell BK862.out 2).trans rfl
              have hfz45_0 := blk_frozen BK862.out 0
              have hfz45_1 := blk_frozen BK862.out 1
              have hfz45_2 := blk_frozen BK862.out 2
              go_wp2_with (first | ((with_reducible refine gate_callee (f := 24) rfl ?_); refine goesL_ (some 47) rfl rfl Try.func24 (by kernel_rfl) rfl #[.agg #[.int .i64 t854, .int .i64 t855, .slice Ao10 t856.length co10], .slice Ao11 t859.length co11] rfl (by (try simp only [List.map_toArray, List.map_cons, List.map_nil]); first | done | rfl | (simp only [List.length_drop, List.length_take]; rfl)) ?_; (with_reducible refine (impl_TaskValue.calls kj5 t854 t855 _ _ t856 _ _ t859 t878 t879 _ ?side1 ?side2 ?side3 ?side4 A39.out).mono ?_); (case side1 => repeat (first | exact (Kd.N_reads' HO_863002.out).2.2 | (with_reducible refine Kd.C_alloc ?_ _) | (with_reducible refine Kd.C_drewN ?_ _) | (with_reducible refine Kd.C_drew ?_))); (case side2 => exact (Kd.N_reads' HO_863002.out).2.1); (case side3 => repeat (first | exact (Kd.R_reads' HO_5.out).2.2 | (with_reducible refine Kd.C_alloc ?_ _) | (with_reducible refine Kd.C_drewN ?_ _) | (with_reducible refine Kd.C_drew ?_))); (case side4 => exact (Kd.R_reads' HO_5.out).2.1); rintro e w46 ⟨rfl, hb⟩; refine ⟨_, rfl, ?_⟩; have n0_ := Aside0.mk (Kd.R_below (by (with_reducible repeat (first | apply Kd.R_alloc | apply Kd.R_drewN | apply Kd.R_drew)); exact HO_5.out) hb); have n1_ := Aside0.mk (Kd.N_below (by (with_reducible repeat (first | apply Kd.N_alloc | apply Kd.N_drewN | apply Kd.N_drew)); exact HO_863002.out) hb); have n2_ := Aside0.mk (Kd.R_below (by (with_reducible repeat (first | apply Kd.R_alloc | apply Kd.R_drewN | apply Kd.R_drew)); exact HO_870001.out) hb); have n3_ := Aside0.mk (Kd.R_below (by (with_reducible repeat (first | apply Kd.R_alloc | apply Kd.R_drewN | apply Kd.R_drew)); exact HO_877001.out) hb); have n4_ := Aside0.mk (blk_below (g := gb862) (o := .cells #[.int .i64 t854, .int .i64 t855, .slice Ao10 t856.length co10] 25 (0, 0)) (by (with_reducible repeat (first | refine blk_drewN ?_ _ | refine blk_drew ?_ | refine blk_alloc ?_ _)); exact BK862.out) hb); have n5_ := Aside0.mk (blk_below (g := gb869) (o := .cells #[.int .i64 t863, .slice Ao16 t864.length co16, .int .i64 t867] 63 (0, 0)) (by (with_reducible repeat (first | refine blk_drewN ?_ _ | refine blk_drew ?_ | refine blk_alloc ?_ _)); exact BK869.out) hb); have n6_ := Aside0.mk (blk_below (g := gb876) (o := .cells #[.int .i64 t870, .slice Ao23 t871.length co23, .int .i64 t874] 63 (0, 0)) (by (with_reducible repeat (first | refine blk_drewN ?_ _ | refine blk_drew ?_ | refine blk_alloc ?_ _)); exact BK876.out) hb); have n7_ := Aside0.mk (below_step (by repeat (first | (with_reducible first | exact HB.out | apply below_alloc | apply pw_below_drewN | apply below_drew1 | refine below_set ?_ GE862.out | refine below_set ?_ GE869.out | refine below_set ?_ GE876.out) | exact HB.out)) hb); clear HO_5; clear HO_863002; clear HO_870001; clear HO_877001; clear BK862; clear BK869; clear BK876; clear HB; have HO_5 := n0_; have HO_863002 := n1_; have HO_870001 := n2_; have HO_877001 := n3_; have BK862 := n4_; have BK869 := n5_; have BK876 := n6_; have HB := n7_; clear n0_ n1_ n2_ n3_ n4_ n5_ n6_ n7_; (try clear hb); (try clear hb2); (try clear hk); (try clear hi); have hnb47 := NB869_876.out; have hnc47 := NB876_869.out; have hcz48_0 : w46.cell? ⟨gb869, 0, none⟩ = some (.int .i64 t863) := (blk_cell BK869.out 0).trans rfl; have hcz48_1 : w46.cell? ⟨gb869, 1, none⟩ = some (.slice Ao16 t864.length co16) := (blk_cell BK869.out 1).trans rfl; have hcz48_2 : w46.cell? ⟨gb869, 2, none⟩ = some (.int .i64 t867) := (blk_cell BK869.out 2).trans rfl; have hfz48_0 := blk_frozen BK869.out 0; have hfz48_1 := blk_frozen BK869.out 1; have hfz48_2 := blk_frozen BK869.out 2) | (go_at_call 50; (with_reducible refine (impl_TraceHolds.calls t863 _ _ t864 t867 _ _ t859 true _ ?side1 ?side2 ?side3 ?side4 A41.out).mono ?_); (case side1 => repeat (first | exact (Kd.R_reads' HO_870001.out).2.2 | (with_reducible refine Kd.C_alloc ?_ _) | (with_reducible refine Kd.C_drewN ?_ _) | (with_reducible refine Kd.C_drew ?_))); (case side2 => exact (Kd.R_reads' HO_870001.out).2.1); (case side3 => repeat (first | exact (Kd.R_reads' HO_5.out).2.2 | (with_reducible refine Kd.C_alloc ?_ _) | (with_reducible refine Kd.C_drewN ?_ _) | (with_reducible refine Kd.C_drew ?_))); (case side4 => exact (Kd.R_reads' HO_5.out).2.1); rintro e w49 ⟨rfl, hb⟩; have n0_ := Aside0.mk (Kd.R_below (by (with_reducible repeat (first | apply Kd.R_alloc | apply Kd.R_drewN | apply Kd.R_drew)); exact HO_5.out) hb); have n1_ := Aside0.mk (Kd.N_below (by (with_reducible repeat (first | apply Kd.N_alloc | apply Kd.N_drewN | apply Kd.N_drew)); exact HO_863002.out) hb); have n2_ := Aside0.mk (Kd.R_below (by (with_reducible repeat (first | apply Kd.R_alloc | apply Kd.R_drewN | apply Kd.R_drew)); exact HO_870001.out) hb); have n3_ := Aside0.mk (Kd.R_below (by (with_reducible repeat (first | apply Kd.R_alloc | apply Kd.R_drewN | apply Kd.R_drew)); exact HO_877001.out) hb); have n4_ := Aside0.mk (blk_below (g := gb862) (o := .cells #[.int .i64 t854, .int .i64 t855, .slice Ao10 t856.length co10] 25 (0, 0)) (by (with_reducible repeat (first | refine blk_drewN ?_ _ | refine blk_drew ?_ | refine blk_alloc ?_ _)); exact BK862.out) hb); have n5_ := Aside0.mk (blk_below (g := gb869) (o := .cells #[.int .i64 t863, .slice Ao16 t864.length co16, .int .i64 t867] 63 (0, 0)) (by (with_reducible repeat (first | refine blk_drewN ?_ _ | refine blk_drew ?_ | refine blk_alloc ?_ _)); exact BK869.out) hb); have n6_ := Aside0.mk (blk_below (g := gb876) (o := .cells #[.int .i64 t870, .slice Ao23 t871.length co23, .int .i64 t874] 63 (0, 0)) (by (with_reducible repeat (first | refine blk_drewN ?_ _ | refine blk_drew ?_ | refine blk_alloc ?_ _)); exact BK876.out) hb); have n7_ := Aside0.mk (below_step (by repeat (first | (with_reducible first | exact HB.out | apply below_alloc | apply pw_below_drewN | apply below_drew1 | refine below_set ?_ GE862.out | refine below_set ?_ GE869.out | refine below_set ?_ GE876.out) | exact HB.out)) hb); clear HO_5; clear HO_863002; clear HO_870001; clear HO_877001; clear BK862; clear BK869; clear BK876; clear HB; have HO_5 := n0_; have HO_863002 := n1_; have HO_870001 := n2_; have HO_877001 := n3_; have BK862 := n4_; have BK869 := n5_; have BK876 := n6_; have HB := n7_; clear n0_ n1_ n2_ n3_ n4_ n5_ n6_ n7_; (try clear hb); (try clear hb2); (try clear hk); (try clear hi); have hcz50_0 : w49.cell? ⟨gb869, 0, none⟩ = some (.int .i64 t863) := (blk_cell BK869.out 0).trans rfl; have hcz50_1 : w49.cell? ⟨gb869, 1, none⟩ = some (.slice Ao16 t864.length co16) := (blk_cell BK869.out 1).trans rfl; have hcz50_2 : w49.cell? ⟨gb869, 2, none⟩ = some (.int .i64 t867) := (blk_cell BK869.out 2).trans rfl; have hfz50_0 := blk_frozen BK869.out 0; have hfz50_1 := blk_frozen BK869.out 1; have hfz50_2 := blk_frozen BK869.out 2))
              go_ret
              exact ⟨by first | rfl | (simp [errW_none, errW_some] <;> rfl) | (simp [*, errW_none, errW_some] <;> rfl), by repeat (first | (with_reducible first | exact HB.out | apply below_alloc | apply pw_below_drewN | apply below_drew1 | refine below_set ?_ GE862.out | refine below_set ?_ GE869.out | refine below_set ?_ GE876.out) | exact HB.out)⟩
            · replace c42 := Bool.eq_false_iff.mpr c42
              subst c42
              have H1 : (some false) = some r := by rw [if_neg (show ¬ (false = true) by decide)] at H; exact H
              clear H
              have H := H1
              clear H1
              obtain rfl := Option.some.inj H
              have hnb51 := NB862_869.out
              have hnc51 := NB869_862.out
              have hnb52 := NB862_876.out
              have hnc52 := NB876_862.out
              have hcz53_0 : wc.cell? ⟨gb862, 0, none⟩ = some (.int .i64 t854) := (blk_cell BK862.out 0).trans rfl
              have hcz53_1 : wc.cell? ⟨gb862, 1, none⟩ = some (.int .i64 t855) := (blk_cell BK862.out 1).trans rfl
              have hcz53_2 : wc.cell? ⟨gb862, 2, none⟩ = some (.slice Ao10 t856.length co10) := (blk_cell BK862.out 2).trans rfl
              have hfz53_0 := blk_frozen BK862.out 0
              have hfz53_1 := blk_frozen BK862.out 1
              have hfz53_2 := blk_frozen BK862.out 2
              go_wp2_with (first | ((with_reducible refine gate_callee (f := 24) rfl ?_); refine goesL_ (some 47) rfl rfl Try.func24 (by kernel_rfl) rfl #[.agg #[.int .i64 t854, .int .i64 t855, .slice Ao10 t856.length co10], .slice Ao11 t859.length co11] rfl (by (try simp only [List.map_toArray, List.map_cons, List.map_nil]); first | done | rfl | (simp only [List.length_drop, List.length_take]; rfl)) ?_; (with_reducible refine (impl_TaskValue.calls kj5 t854 t855 _ _ t856 _ _ t859 t878 t879 _ ?side1 ?side2 ?side3 ?side4 A39.out).mono ?_); (case side1 => repeat (first | exact (Kd.N_reads' HO_863002.out).2.2 | (with_reducible refine Kd.C_alloc ?_ _) | (with_reducible refine Kd.C_drewN ?_ _) | (with_reducible refine Kd.C_drew ?_))); (case side2 => exact (Kd.N_reads' HO_863002.out).2.1); (case side3 => repeat (first | exact (Kd.R_reads' HO_5.out).2.2 | (with_reducible refine Kd.C_alloc ?_ _) | (with_reducible refine Kd.C_drewN ?_ _) | (with_reducible refine Kd.C_drew ?_))); (case side4 => exact (Kd.R_reads' HO_5.out).2.1); rintro e w54 ⟨rfl, hb⟩; refine ⟨_, rfl, ?_⟩; have n0_ := Aside0.mk (Kd.R_below (by (with_reducible repeat (first | apply Kd.R_alloc | apply Kd.R_drewN | apply Kd.R_drew)); exact HO_5.out) hb); have n1_ := Aside0.mk (Kd.N_below (by (with_reducible repeat (first | apply Kd.N_alloc | apply Kd.N_drewN | apply Kd.N_drew)); exact HO_863002.out) hb); have n2_ := Aside0.mk (Kd.R_below (by (with_reducible repeat (first | apply Kd.R_alloc | apply Kd.R_drewN | apply Kd.R_drew)); exact HO_870001.out) hb); have n3_ := Aside0.mk (Kd.R_below (by (with_reducible repeat (first | apply Kd.R_alloc | apply Kd.R_drewN | apply Kd.R_drew)); exact HO_877001.out) hb); have n4_ := Aside0.mk (blk_below (g := gb862) (o := .cells #[.int .i64 t854, .int .i64 t855, .slice Ao10 t856.length co10] 25 (0, 0)) (by (with_reducible repeat (first | refine blk_drewN ?_ _ | refine blk_drew ?_ | refine blk_alloc ?_ _)); exact BK862.out) hb); have n5_ := Aside0.mk (blk_below (g := gb869) (o := .cells #[.int .i64 t863, .slice Ao16 t864.length co16, .int .i64 t867] 63 (0, 0)) (by (with_reducible repeat (first | refine blk_drewN ?_ _ | refine blk_drew ?_ | refine blk_alloc ?_ _)); exact BK869.out) hb); have n6_ := Aside0.mk (blk_below (g := gb876) (o := .cells #[.int .i64 t870, .slice Ao23 t871.length co23, .int .i64 t874] 63 (0, 0)) (by (with_reducible repeat (first | refine blk_drewN ?_ _ | refine blk_drew ?_ | refine blk_alloc ?_ _)); exact BK876.out) hb); have n7_ := Aside0.mk (below_step (by repeat (first | (with_reducible first | exact HB.out | apply below_alloc | apply pw_below_drewN | apply below_drew1 | refine below_set ?_ GE862.out | refine below_set ?_ GE869.out | refine below_set ?_ GE876.out) | exact HB.out)) hb); clear HO_5; clear HO_863002; clear HO_870001; clear HO_877001; clear BK862; clear BK869; clear BK876; clear HB; have HO_5 := n0_; have HO_863002 := n1_; have HO_870001 := n2_; have HO_877001 := n3_; have BK862 := n4_; have BK869 := n5_; have BK876 := n6_; have HB := n7_; clear n0_ n1_ n2_ n3_ n4_ n5_ n6_ n7_; (try clear hb); (try clear hb2); (try clear hk); (try clear hi); have hnb55 := NB869_876.out; have hnc55 := NB876_869.out; have hcz56_0 : w54.cell? ⟨gb869, 0, none⟩ = some (.int .i64 t863) := (blk_cell BK869.out 0).trans rfl; have hcz56_1 : w54.cell? ⟨gb869, 1, none⟩ = some (.slice Ao16 t864.length co16) := (blk_cell BK869.out 1).trans rfl; have hcz56_2 : w54.cell? ⟨gb869, 2, none⟩ = some (.int .i64 t867) := (blk_cell BK869.out 2).trans rfl; have hfz56_0 := blk_frozen BK869.out 0; have hfz56_1 := blk_frozen BK869.out 1; have hfz56_2 := blk_frozen BK869.out 2) | (go_at_call 50; (with_reducible refine (impl_TraceHolds.calls t863 _ _ t864 t867 _ _ t859 false _ ?side1 ?side2 ?side3 ?side4 A41.out).mono ?_); (case side1 => repeat (first | exact (Kd.R_reads' HO_870001.out).2.2 | (with_reducible refine Kd.C_alloc ?_ _) | (with_reducible refine Kd.C_drewN ?_ _) | (with_reducible refine Kd.C_drew ?_))); (case side2 => exact (Kd.R_reads' HO_870001.out).2.1); (case side3 => repeat (first | exact (Kd.R_reads' HO_5.out).2.2 | (with_reducible refine Kd.C_alloc ?_ _) | (with_reducible refine Kd.C_drewN ?_ _) | (with_reducible refine Kd.C_drew ?_))); (case side4 => exact (Kd.R_reads' HO_5.out).2.1); rintro e w57 ⟨rfl, hb⟩; have n0_ := Aside0.mk (Kd.R_below (by (with_reducible repeat (first | apply Kd.R_alloc | apply Kd.R_drewN | apply Kd.R_drew)); exact HO_5.out) hb); have n1_ := Aside0.mk (Kd.N_below (by (with_reducible repeat (first | apply Kd.N_alloc | apply Kd.N_drewN | apply Kd.N_drew)); exact HO_863002.out) hb); have n2_ := Aside0.mk (Kd.R_below (by (with_reducible repeat (first | apply Kd.R_alloc | apply Kd.R_drewN | apply Kd.R_drew)); exact HO_870001.out) hb); have n3_ := Aside0.mk (Kd.R_below (by (with_reducible repeat (first | apply Kd.R_alloc | apply Kd.R_drewN | apply Kd.R_drew)); exact HO_877001.out) hb); have n4_ := Aside0.mk (blk_below (g := gb862) (o := .cells #[.int .i64 t854, .int .i64 t855, .slice Ao10 t856.length co10] 25 (0, 0)) (by (with_reducible repeat (first | refine blk_drewN ?_ _ | refine blk_drew ?_ | refine blk_alloc ?_ _)); exact BK862.out) hb); have n5_ := Aside0.mk (blk_below (g := gb869) (o := .cells #[.int .i64 t863, .slice Ao16 t864.length co16, .int .i64 t867] 63 (0, 0)) (by (with_reducible repeat (first | refine blk_drewN ?_ _ | refine blk_drew ?_ | refine blk_alloc ?_ _)); exact BK869.out) hb); have n6_ := Aside0.mk (blk_below (g := gb876) (o := .cells #[.int .i64 t870, .slice Ao23 t871.length co23, .int .i64 t874] 63 (0, 0)) (by (with_reducible repeat (first | refine blk_drewN ?_ _ | refine blk_drew ?_ | refine blk_alloc ?_ _)); exact BK876.out) hb); have n7_ := Aside0.mk (below_step (by repeat (first | (with_reducible first | exact HB.out | apply below_alloc | apply pw_below_drewN | apply below_drew1 | refine below_set ?_ GE862.out | refine below_set ?_ GE869.out | refine below_set ?_ GE876.out) | exact HB.out)) hb); clear HO_5; clear HO_863002; clear HO_870001; clear HO_877001; clear BK862; clear BK869; clear BK876; clear HB; have HO_5 := n0_; have HO_863002 := n1_; have HO_870001 := n2_; have HO_877001 := n3_; have BK862 := n4_; have BK869 := n5_; have BK876 := n6_; have HB := n7_; clear n0_ n1_ n2_ n3_ n4_ n5_ n6_ n7_; (try clear hb); (try clear hb2); (try clear hk); (try clear hi)))
              go_ret
              exact ⟨by first | rfl | (simp [errW_none, errW_some] <;> rfl) | (simp [*, errW_none, errW_some] <;> rfl), by repeat (first | (with_reducible first | exact HB.out | apply below_alloc | apply pw_below_drewN | apply below_drew1 | refine below_set ?_ GE862.out | refine below_set ?_ GE869.out | refine below_set ?_ GE876.out) | exact HB.out)⟩
          · replace c40 := Bool.eq_false_iff.mpr c40
            subst c40
            have H1 : (some true) = some r := by rw [if_neg (show ¬ (false = true) by decide)] at H; exact H
            clear H
            have H := H1
            clear H1
            obtain rfl := Option.some.inj H
            have hnb58 := NB862_869.out
            have hnc58 := NB869_862.out
            have hnb59 := NB862_876.out
            have hnc59 := NB876_862.out
            have hcz60_0 : wc.cell? ⟨gb862, 0, none⟩ = some (.int .i64 t854) := (blk_cell BK862.out 0).trans rfl
            have hcz60_1 : wc.cell? ⟨gb862, 1, none⟩ = some (.int .i64 t855) := (blk_cell BK862.out 1).trans rfl
            have hcz60_2 : wc.cell? ⟨gb862, 2, none⟩ = some (.slice Ao10 t856.length co10) := (blk_cell BK862.out 2).trans rfl
            have hfz60_0 := blk_frozen BK862.out 0
            have hfz60_1 := blk_frozen BK862.out 1
            have hfz60_2 := blk_frozen BK862.out 2
            go_wp2_with (first | ((with_reducible refine gate_callee (f := 24) rfl ?_); refine goesL_ (some 47) rfl rfl Try.func24 (by kernel_rfl) rfl #[.agg #[.int .i64 t854, .int .i64 t855, .slice Ao10 t856.length co10], .slice Ao11 t859.length co11] rfl (by (try simp only [List.map_toArray, List.map_cons, List.map_nil]); first | done | rfl | (simp only [List.length_drop, List.length_take]; rfl)) ?_; (with_reducible refine (impl_TaskValue.calls kj5 t854 t855 _ _ t856 _ _ t859 t878 t879 _ ?side1 ?side2 ?side3 ?side4 A39.out).mono ?_); (case side1 => repeat (first | exact (Kd.N_reads' HO_863002.out).2.2 | (with_reducible refine Kd.C_alloc ?_ _) | (with_reducible refine Kd.C_drewN ?_ _) | (with_reducible refine Kd.C_drew ?_))); (case side2 => exact (Kd.N_reads' HO_863002.out).2.1); (case side3 => repeat (first | exact (Kd.R_reads' HO_5.out).2.2 | (with_reducible refine Kd.C_alloc ?_ _) | (with_reducible refine Kd.C_drewN ?_ _) | (with_reducible refine Kd.C_drew ?_))); (case side4 => exact (Kd.R_reads' HO_5.out).2.1); rintro e w61 ⟨rfl, hb⟩; refine ⟨_, rfl, ?_⟩; have n0_ := Aside0.mk (Kd.R_below (by (with_reducible repeat (first | apply Kd.R_alloc | apply Kd.R_drewN | apply Kd.R_drew)); exact HO_5.out) hb); have n1_ := Aside0.mk (Kd.N_below (by (with_reducible repeat (first | apply Kd.N_alloc | apply Kd.N_drewN | apply Kd.N_drew)); exact HO_863002.out) hb); have n2_ := Aside0.mk (Kd.R_below (by (with_reducible repeat (first | apply Kd.R_alloc | apply Kd.R_drewN | apply Kd.R_drew)); exact HO_870001.out) hb); have n3_ := Aside0.mk (Kd.R_below (by (with_reducible repeat (first | apply Kd.R_alloc | apply Kd.R_drewN | apply Kd.R_drew)); exact HO_877001.out) hb); have n4_ := Aside0.mk (blk_below (g := gb862) (o := .cells #[.int .i64 t854, .int .i64 t855, .slice Ao10 t856.length co10] 25 (0, 0)) (by (with_reducible repeat (first | refine blk_drewN ?_ _ | refine blk_drew ?_ | refine blk_alloc ?_ _)); exact BK862.out) hb); have n5_ := Aside0.mk (blk_below (g := gb869) (o := .cells #[.int .i64 t863, .slice Ao16 t864.length co16, .int .i64 t867] 63 (0, 0)) (by (with_reducible repeat (first | refine blk_drewN ?_ _ | refine blk_drew ?_ | refine blk_alloc ?_ _)); exact BK869.out) hb); have n6_ := Aside0.mk (blk_below (g := gb876) (o := .cells #[.int .i64 t870, .slice Ao23 t871.length co23, .int .i64 t874] 63 (0, 0)) (by (with_reducible repeat (first | refine blk_drewN ?_ _ | refine blk_drew ?_ | refine blk_alloc ?_ _)); exact BK876.out) hb); have n7_ := Aside0.mk (below_step (by repeat (first | (with_reducible first | exact HB.out | apply below_alloc | apply pw_below_drewN | apply below_drew1 | refine below_set ?_ GE862.out | refine below_set ?_ GE869.out | refine below_set ?_ GE876.out) | exact HB.out)) hb); clear HO_5; clear HO_863002; clear HO_870001; clear HO_877001; clear BK862; clear BK869; clear BK876; clear HB; have HO_5 := n0_; have HO_863002 := n1_; have HO_870001 := n2_; have HO_877001 := n3_; have BK862 := n4_; have BK869 := n5_; have BK876 := n6_; have HB := n7_; clear n0_ n1_ n2_ n3_ n4_ n5_ n6_ n7_; (try clear hb); (try clear hb2); (try clear hk); (try clear hi)))
            go_ret
            exact ⟨by first | rfl | (simp [errW_none, errW_some] <;> rfl) | (simp [*, errW_none, errW_some] <;> rfl), by repeat (first | (with_reducible first | exact HB.out | apply below_alloc | apply pw_below_drewN | apply below_drew1 | refine below_set ?_ GE862.out | refine below_set ?_ GE869.out | refine below_set ?_ GE876.out) | exact HB.out)⟩
def laws_FnTraceOf.Pure : Prop := ∀ (l0 : List Int), l0.length ≤ maxLen → l0.length * 1 ≤ 140737488351232 → (∀ x ∈ l0, (Lit.int .u8 x).wf = true) → ∃ k, laws_FnTraceOf.f k l0 = some true
theorem laws_FnTraceOf.walk (P : laws_FnTraceOf.Pure) (a0 : Option Addr) (len0 cap0 : Nat) (z0 : List Int) (w : World) (w0 : (a0 = none ∧ len0 = 0 ∧ cap0 = 0 ∧ z0 = []) ∨ ∃ x, a0 = some x ∧ len0 ≤ cap0 ∧ cap0 ≤ maxLen ∧ z0.length = cap0 ∧ (∀ i, i < z0.length → w.cell? (x.add i) = some (.int .u8 (z0.getD i 0))) ∧ ∀ n ∈ z0, (Lit.int .u8 n).wf = true) (y0 : len0 * 1 ≤ 140737488351232) :
    Calls Try.prog 12 #[.slice a0 len0 cap0] w fun e w' => e = .returned (.bool true) ∧ Below w.heap.size w w' := by
  obtain ⟨l0, rfl, hr0, hm0, hw0, hc0⟩ := ReadsInt.ofRowC w0
  obtain ⟨k, h⟩ := P l0 hm0 y0 hw0
  refine (laws_FnTraceOf.calls k _ _ l0 true w (Kd.C_of_reads (d := (0 : Int)) (h1 := fun _ => rfl) hr0) hc0 h).mono ?_
  rintro e w' ⟨rfl, hd⟩
  exact ⟨rfl, hd⟩
end Go.Proofs.Ytooojligedlpeaa.G
end
section
namespace Go.Proofs.Ytooojligedlpeaa.G
open Go.RowKit Go.Proofs.YtooojligedlpeaaW.PrintWords
set_option linter.unusedVariables false
set_option linter.unusedSimpArgs false
theorem isKey_ev (a : Int) : impl_isKey.f a = some (decide (0 ≤ a ∧ a < 10)) := by
  unfold impl_isKey.f
  by_cases h : a ≥ 0
  · rw [if_pos h]; simp only [ge_iff_le] at h; simp [h]
  · rw [if_neg h]; simp only [ge_iff_le] at h; simp [h]
theorem isValue_ev (a : Int) : impl_isValue.f a = some (decide (0 ≤ a ∧ a ≤ 96)) := by
  unfold impl_isValue.f
  by_cases h : a ≥ 0
  · rw [if_pos h]; simp only [ge_iff_le] at h; simp [h]
  · rw [if_neg h]; simp only [ge_iff_le] at h; simp [h]
theorem ite_prop (P : Prop) [Decidable P] (c : Bool) : (if P then some c else some false) = some (decide P && c) := by by_cases h : P <;> simp [h]
theorem fits_now (k : Nat) (a b : Int) (l : List Tk) : impl_Task_fits.f (k + 1) a b l = some (shapeB a b l.length) := by
  unfold impl_Task_fits.f
  have e0 : ∀ m : Nat, ((l.length : Int) == (m : Int)) = decide (l.length = m) := fun m => by rw [Bool.eq_iff_iff]; simp only [beq_iff_eq, decide_eq_true_eq]; omega
  have e1 : ((l.length : Int) == 0) = decide (l.length = 0) := e0 0
  have e2 : ((l.length : Int) == 1) = decide (l.length = 1) := e0 1
  have e3 : ((l.length : Int) == 2) = decide (l.length = 2) := e0 2
  have e4 : ((l.length : Int) == 3) = decide (l.length = 3) := e0 3
  simp only [impl_Task_fits.j0, isKey_ev, isValue_ev, Option.bind_some, e1, e2, e3, e4, ite_prop, Bool.decide_eq_true]
  clear e0 e1 e2 e3 e4
  unfold shapeB
  by_cases h0 : a = 0
  · simp only [h0, if_true]
  by_cases h1 : a = 1
  · simp only [h0, h1, if_true, if_false, show ¬ ((1 : Int) = 0) by decide]
  by_cases h2 : a = 2
  · simp only [h2, if_true, if_false, show ¬ ((2 : Int) = 0) by decide, show ¬ ((2 : Int) = 1) by decide, show ((2 : Int) == 2) = true by decide]
  by_cases h3 : a = 3
  · simp only [h3, if_true, if_false, show ¬ ((3 : Int) = 0) by decide, show ¬ ((3 : Int) = 1) by decide, show ¬ ((3 : Int) = 2) by decide, show ((3 : Int) == 3) = true by decide]
  have h3b : (a == 3) = false := beq_eq_false_iff_ne.mpr h3
  by_cases h4 : a = 4
  · simp only [h4, if_true, if_false, show ¬ ((4 : Int) = 0) by decide, show ¬ ((4 : Int) = 1) by decide, show ¬ ((4 : Int) = 2) by decide, show ¬ ((4 : Int) = 3) by decide, show ((4 : Int) == 3) = false by decide, Bool.false_eq_true, decide_true, Bool.true_and]
  by_cases h5 : a = 5
  · simp only [h5, if_true, if_false, show ¬ ((5 : Int) = 0) by decide, show ¬ ((5 : Int) = 1) by decide, show ¬ ((5 : Int) = 2) by decide, show ¬ ((5 : Int) = 3) by decide, show ¬ ((5 : Int) = 4) by decide, show ((5 : Int) == 3) = false by decide, Bool.false_eq_true, decide_true, Bool.true_and]
  simp only [h0, h1, h2, h3, h4, h5, h3b, if_false, Bool.false_eq_true, decide_false, Bool.false_and]
theorem fits_ev (a b : Int) (l : List Tk) : Ev (fun k => impl_Task_fits.f k a b l) (shapeB a b l.length) := ⟨1, fun k hk => by
  obtain ⟨m, rfl⟩ : ∃ m, k = m + 1 := ⟨k - 1, by omega⟩
  exact fits_now m a b l⟩
end Go.Proofs.Ytooojligedlpeaa.G
end
section
namespace Go.Proofs.Ytooojligedlpeaa.G
open Go.RowKit Go.Proofs.YtooojligedlpeaaW.PrintWords
set_option linter.unusedVariables false
set_option linter.unusedSimpArgs false
theorem Ev.eq {α : Type} {g : Nat → Option α} {r r' : α} (h : Ev g r) (e : r = r') : Ev g r' := e ▸ h
theorem Ev.of_eq {α : Type} {o : Option α} {r : α} (h : o = some r) : Ev (fun _ => o) r := ⟨0, fun _ _ => h⟩
def CountsTo (t : Tk) (room r : Int) : Prop := ((fitT t = true ∧ (nodT t : Int) ≤ room) → r = nodT t) ∧ (¬ (fitT t = true ∧ (nodT t : Int) ≤ room) → room < r) ∧ 1 ≤ r ∧ r ≤ 16 + 16 * room
theorem countTo_loop (ps : List Tk) (hlen : ps.length ≤ 3) (room : Int) (h0 : 0 ≤ room) (h1 : room ≤ 15)
    (ih : ∀ p ∈ ps, ∀ rm : Int, 0 ≤ rm → rm ≤ 15 → ∃ r, Ev (fun k => impl_Task_countTo.f k p.f0 p.f1 p.f2 rm) r ∧ CountsTo p rm r) :
    ∀ (d i : Nat) (n : Int), d = ps.length - i → i ≤ ps.length → 1 ≤ n → n ≤ 16 + 16 * room →
      ∃ r, Ev (fun k => impl_Task_countTo.l0 k room n ps (ps.length : Int) (i : Int)) r ∧ ((fitL (ps.drop i) = true ∧ n + (nodL (ps.drop i) : Int) ≤ room) → r = n + nodL (ps.drop i)) ∧ (¬ (fitL (ps.drop i) = true ∧ n + (nodL (ps.drop i) : Int) ≤ room) → room < r) ∧ 1 ≤ r ∧ r ≤ 16 + 16 * room := by
  intro d
  induction d with
  | zero =>
    intro i n hd hi hn hn2
    have e : i = ps.length := by omega
    subst e
    refine ⟨n, Ev.step (fun k => by rw [impl_Task_countTo.l0]) ?_, ?_⟩
    · simp only [if_neg (show ¬ ((ps.length : Int) < (ps.length : Int)) by omega)]
      exact Ev.now n
    · simp only [List.drop_length, fitL, nodL]
      refine ⟨fun _ => by simp, fun h => ?_, hn, hn2⟩
      simp at h
      omega
  | succ d ihd =>
    intro i n hd hi hn hn2
    have hlt : i < ps.length := by omega
    have hrd := rd_tk ps i hlt
    have hdr := drop_tk ps i hlt
    have hmem : ps[i] ∈ ps := List.getElem_mem hlt
    by_cases hg : n > room
    · refine ⟨16, Ev.step (fun k => by rw [impl_Task_countTo.l0]) ?_, fun h => ?_, fun _ => by omega, by omega, by omega⟩
      · simp only [if_pos (show (i : Int) < (ps.length : Int) by omega), if_pos (show (0 : Int) ≤ (i : Int) by omega), if_pos hg]
        exact Ev.now 16
      · exfalso
        have := h.2
        omega
    · obtain ⟨c, hc, hc1, hc2, hc3, hc4⟩ := ih ps[i] hmem (room - n) (by omega) (by omega)
      obtain ⟨r, hr, hr1, hr2, hr3, hr4⟩ := ihd (i + 1) (n + c) (by omega) (by omega) (by omega) (by omega)
      refine ⟨r, Ev.step (fun k => by rw [impl_Task_countTo.l0]) ?_, ?_, ?_, hr3, hr4⟩
      · simp only [if_pos (show (i : Int) < (ps.length : Int) by omega), if_pos (show (0 : Int) ≤ (i : Int) by omega), if_neg hg, hrd]
        rw [wrap_id (room - n) (by omega) (by omega), wrap_nat i (by omega)]
        refine Ev.bind hc ?_
        simp only [wrap_id (n + c) (by omega) (by omega)]
        exact hr
      · rw [hdr]
        simp only [fitL, nodL, Bool.and_eq_true]
        rintro ⟨⟨f1, f2⟩, h3⟩
        have e := hc1 ⟨f1, by omega⟩
        rw [hr1 ⟨f2, by omega⟩]
        omega
      · rw [hdr]
        simp only [fitL, nodL, Bool.and_eq_true]
        intro hno
        by_cases hp : fitT ps[i] = true ∧ (nodT ps[i] : Int) ≤ room - n
        · have e := hc1 hp
          exact hr2 (fun h => hno ⟨⟨hp.1, h.1⟩, by have := h.2; omega⟩)
        · have := hc2 hp
          exact hr2 (fun h => by have := h.2; omega)
theorem countTo_ev : ∀ t : Tk, ∀ room : Int, 0 ≤ room → room ≤ 15 → ∃ r, Ev (fun k => impl_Task_countTo.f k t.f0 t.f1 t.f2 room) r ∧ CountsTo t room r := by
  refine tk_ind fun t ih room h0 h1 => ?_
  by_cases hr : room < 1
  · refine ⟨16, Ev.step (fun k => by rw [impl_Task_countTo.f]) ?_, ?_, ?_, by omega, by omega⟩
    · simp only [if_pos hr]
      refine Ev.step (fun k => by rw [impl_Task_countTo.j0]) ?_
      simp only [if_true]
      exact Ev.now 16
    · rintro ⟨_, h⟩
      have := nodT_pos t
      omega
    · intro _
      omega
  · have hshape := fits_ev t.f0 t.f1 t.f2
    by_cases hf : shapeB t.f0 t.f1 t.f2.length = true
    · obtain ⟨r, hr1, hr2, hr3, hr4, hr5⟩ := countTo_loop t.f2 (shapeB_len hf) room h0 h1 ih t.f2.length 0 1 (by omega) (by omega) (by omega) (by omega)
      refine ⟨r, Ev.step (fun k => by rw [impl_Task_countTo.f]) ?_, ?_, ?_, hr4, hr5⟩
      · simp only [if_neg hr]
        refine Ev.bind hshape ?_
        simp only [hf, Bool.not_true]
        refine Ev.step (fun k => by rw [impl_Task_countTo.j0]) ?_
        simp only [Bool.false_eq_true, if_false]
        exact hr1
      · rw [fitT_eq, nodT_eq, hf]
        simp only [List.drop_zero, Bool.true_and] at hr2 ⊢
        rintro ⟨a, b⟩
        rw [hr2 ⟨a, by omega⟩]
        omega
      · rw [fitT_eq, nodT_eq, hf]
        simp only [List.drop_zero, Bool.true_and] at hr3 ⊢
        intro h
        exact hr3 (fun ⟨a, b⟩ => h ⟨a, by omega⟩)
    · refine ⟨16, Ev.step (fun k => by rw [impl_Task_countTo.f]) ?_, ?_, ?_, by omega, by omega⟩
      · simp only [if_neg hr]
        refine Ev.bind hshape ?_
        simp only [Bool.not_eq_true] at hf
        simp only [hf, Bool.not_false]
        refine Ev.step (fun k => by rw [impl_Task_countTo.j0]) ?_
        simp only [if_true]
        exact Ev.now 16
      · rw [fitT_eq]
        intro h
        simp [hf] at h
      · intro _
        omega
theorem count_loop (ps : List Tk) (hlen : ps.length ≤ 3) :
    ∀ (d i : Nat) (n : Int), d = ps.length - i → i ≤ ps.length → 1 ≤ n → n ≤ 300 →
      ∃ r, Ev (fun k => impl_Task_count.l0 k n ps (ps.length : Int) (i : Int)) r ∧ ((fitL (ps.drop i) = true ∧ n + (nodL (ps.drop i) : Int) ≤ 15) → r = n + nodL (ps.drop i)) ∧ (¬ (fitL (ps.drop i) = true ∧ n + (nodL (ps.drop i) : Int) ≤ 15) → 15 < r) := by
  intro d
  induction d with
  | zero =>
    intro i n hd hi hn hn2
    have e : i = ps.length := by omega
    subst e
    refine ⟨n, Ev.step (fun k => by rw [impl_Task_count.l0]) ?_, ?_⟩
    · simp only [if_neg (show ¬ ((ps.length : Int) < (ps.length : Int)) by omega)]
      exact Ev.now n
    · simp only [List.drop_length, fitL, nodL]
      refine ⟨fun _ => by simp, fun h => ?_⟩
      simp at h
      omega
  | succ d ihd =>
    intro i n hd hi hn hn2
    have hlt : i < ps.length := by omega
    have hrd := rd_tk ps i hlt
    have hdr := drop_tk ps i hlt
    by_cases hg : n > 15
    · refine ⟨n, Ev.step (fun k => by rw [impl_Task_count.l0]) ?_, fun h => ?_, fun _ => by omega⟩
      · simp only [if_pos (show (i : Int) < (ps.length : Int) by omega), if_pos (show (0 : Int) ≤ (i : Int) by omega), if_pos hg]
        exact Ev.now n
      · exfalso
        have := h.2
        omega
    · obtain ⟨c, hc, hc1, hc2, hc3, hc4⟩ := countTo_ev ps[i] (15 - n) (by omega) (by omega)
      obtain ⟨r, hr, hr1, hr2⟩ := ihd (i + 1) (n + c) (by omega) (by omega) (by omega) (by omega)
      refine ⟨r, Ev.step (fun k => by rw [impl_Task_count.l0]) ?_, ?_, ?_⟩
      · simp only [if_pos (show (i : Int) < (ps.length : Int) by omega), if_pos (show (0 : Int) ≤ (i : Int) by omega), if_neg hg, hrd]
        rw [wrap_id (15 - n) (by omega) (by omega), wrap_nat i (by omega)]
        refine Ev.bind hc ?_
        simp only [wrap_id (n + c) (by omega) (by omega)]
        exact hr
      · rw [hdr]
        simp only [fitL, nodL, Bool.and_eq_true]
        rintro ⟨⟨f1, f2⟩, h3⟩
        have e := hc1 ⟨f1, by omega⟩
        rw [hr1 ⟨f2, by omega⟩]
        omega
      · rw [hdr]
        simp only [fitL, nodL, Bool.and_eq_true]
        intro hno
        by_cases hp : fitT ps[i] = true ∧ (nodT ps[i] : Int) ≤ 15 - n
        · have e := hc1 hp
          exact hr2 (fun h => hno ⟨⟨hp.1, h.1⟩, by have := h.2; omega⟩)
        · have := hc2 hp
          exact hr2 (fun h => by have := h.2; omega)
theorem count_ev (t : Tk) : ∃ r, Ev (fun k => impl_Task_count.f k t.f0 t.f1 t.f2) r ∧ (okT t = true → r = nodT t) ∧ (okT t = false → 15 < r) := by
  have hshape := fits_ev t.f0 t.f1 t.f2
  by_cases hf : shapeB t.f0 t.f1 t.f2.length = true
  · obtain ⟨r, hr1, hr2, hr3⟩ := count_loop t.f2 (shapeB_len hf) t.f2.length 0 1 (by omega) (by omega) (by omega) (by omega)
    refine ⟨r, ?_, ?_, ?_⟩
    · unfold impl_Task_count.f
      refine Ev.bind hshape ?_
      simp only [hf, if_true]
      exact hr1
    · intro h
      have h1 := okT_fit h
      have h2 := okT_nod h
      rw [fitT_eq, Bool.and_eq_true] at h1
      rw [nodT_eq] at h2 ⊢
      simp only [List.drop_zero] at hr2
      rw [hr2 ⟨h1.2, by omega⟩]
      omega
    · intro h
      simp only [List.drop_zero] at hr3
      refine hr3 (fun ⟨a, b⟩ => ?_)
      rw [okT, fitT_eq, nodT_eq, hf, a] at h
      simp at h
      omega
  · refine ⟨16, ?_, ?_, fun _ => by omega⟩
    · unfold impl_Task_count.f
      refine Ev.bind hshape ?_
      simp only [hf, Bool.false_eq_true, if_false]
      exact Ev.now 16
    · intro h
      have h1 := okT_fit h
      rw [fitT_eq, Bool.and_eq_true] at h1
      exact absurd h1.1 hf
theorem implOk_ev (t : Tk) : Ev (fun k => impl_TaskOk.f k t.f0 t.f1 t.f2) (okT t) := by
  obtain ⟨r, hr, h1, h2⟩ := count_ev t
  unfold impl_TaskOk.f
  refine Ev.bind hr ?_
  refine Ev.of_eq ?_
  cases h : okT t with
  | true => have := h1 h; have := okT_nod h; simp; omega
  | false => have := h2 h; simp; omega
theorem l1Shape_now (k : Nat) (a : Int) : spec_l1Shape.f (k + 1) a = some (if a = 0 then (0, 96, true) else if a = 1 then (0, 9, true) else if a = 2 then (2, 0, true) else if a = 3 then (2, 0, true) else if a = 4 then (3, 0, true) else if a = 5 then (1, 9, true) else (0, 0, false)) := by
  unfold spec_l1Shape.f
  simp only [spec_l1Shape.j0]
  repeat' split
  all_goals simp_all
theorem l1Shape_ev (a : Int) : Ev (fun k => spec_l1Shape.f k a) (if a = 0 then (0, 96, true) else if a = 1 then (0, 9, true) else if a = 2 then (2, 0, true) else if a = 3 then (2, 0, true) else if a = 4 then (3, 0, true) else if a = 5 then (1, 9, true) else (0, 0, false)) := ⟨1, fun k hk => by
  obtain ⟨m, rfl⟩ : ∃ m, k = m + 1 := ⟨k - 1, by omega⟩
  exact l1Shape_now m a⟩
theorem l6In_ev (a b c : Int) : spec_l6In.f a b c = some (decide (b ≤ a ∧ a ≤ c)) := by
  unfold spec_l6In.f
  by_cases h : a ≥ b
  · rw [if_pos h]; simp only [ge_iff_le] at h; simp [h]
  · rw [if_neg h]; simp only [ge_iff_le] at h; simp [h]
theorem l1Fit_loop (a b : Int) (ps : List Tk) (hlen : ps.length ≤ 3) (ih : ∀ p ∈ ps, Ev (fun k => spec_l1Fit.f k p.f0 p.f1 p.f2) (fitT p)) :
    ∀ (d i : Nat), d = ps.length - i → i ≤ ps.length → Ev (fun k => spec_l1Fit.l0 k (i : Int) a b ps) (fitL (ps.drop i)) := by
  intro d
  induction d with
  | zero =>
    intro i hd hi
    have e : i = ps.length := by omega
    subst e
    refine Ev.step (fun k => by rw [spec_l1Fit.l0]) ?_
    simp only [if_neg (show ¬ ((ps.length : Int) < (ps.length : Int)) by omega), List.drop_length, fitL]
    exact Ev.now true
  | succ d ihd =>
    intro i hd hi
    have hlt : i < ps.length := by omega
    have hrd := rd_tk ps i hlt
    have hmem : ps[i] ∈ ps := List.getElem_mem hlt
    rw [drop_tk ps i hlt]
    refine Ev.step (fun k => by rw [spec_l1Fit.l0]) ?_
    simp only [if_pos (show (i : Int) < (ps.length : Int) by omega), if_pos (show (0 : Int) ≤ (i : Int) by omega), hrd]
    refine Ev.bind (ih _ hmem) ?_
    simp only [fitL]
    cases h : fitT ps[i] with
    | true =>
      simp only [if_true, Bool.true_and, wrap_nat i (by omega)]
      exact ihd (i + 1) (by omega) (by omega)
    | false =>
      simp only [Bool.false_eq_true, if_false, Bool.false_and]
      exact Ev.now false
theorem l1Fit_ev : ∀ t : Tk, Ev (fun k => spec_l1Fit.f k t.f0 t.f1 t.f2) (fitT t) := by
  refine tk_ind fun t ih => ?_
  refine Ev.step (fun k => by rw [spec_l1Fit.f]) ?_
  refine Ev.bind (l1Shape_ev t.f0) ?_
  rw [fitT_eq]
  have bad : Ev (fun k => spec_l1Fit.j0 k true t.f0 t.f1 t.f2) false := by
    refine Ev.step (fun k => by rw [spec_l1Fit.j0]) ?_
    simp only [if_true]
    exact Ev.now false
  have good : t.f2.length ≤ 3 → ∀ c : Bool, Ev (fun k => spec_l1Fit.j0 k (!c) t.f0 t.f1 t.f2) (c && fitL t.f2) := by
    intro hl c
    refine Ev.step (fun k => by rw [spec_l1Fit.j0]) ?_
    cases c with
    | false =>
      simp only [Bool.not_false, if_true, Bool.false_and]
      exact Ev.now false
    | true =>
      simp only [Bool.not_true, Bool.false_eq_true, if_false, Bool.true_and]
      exact l1Fit_loop t.f0 t.f1 t.f2 hl ih t.f2.length 0 (by omega) (by omega)
  have e0 : ∀ m : Nat, ((t.f2.length : Int) = (m : Int)) = (t.f2.length = m) := fun m => by rw [eq_iff_iff]; omega
  have e1 : ((t.f2.length : Int) = 0) = (t.f2.length = 0) := e0 0
  have e2 : ((t.f2.length : Int) = 1) = (t.f2.length = 1) := e0 1
  have e3 : ((t.f2.length : Int) = 2) = (t.f2.length = 2) := e0 2
  have e4 : ((t.f2.length : Int) = 3) = (t.f2.length = 3) := e0 3
  simp only [l6In_ev, Option.bind_some]
  unfold shapeB
  by_cases h0 : t.f0 = 0
  · simp only [h0, if_true, e1] at good bad ⊢
    by_cases hl : t.f2.length = 0
    · simp only [hl, if_true, decide_true, Bool.and_true] at good ⊢
      exact good (by omega) _
    · simp only [hl, if_false, decide_false, Bool.and_false, Bool.false_and]
      exact bad
  by_cases h1 : t.f0 = 1
  · have e9 : ∀ x : Int, (0 ≤ x ∧ x < 10) = (0 ≤ x ∧ x ≤ 9) := fun x => by rw [eq_iff_iff]; omega
    simp only [h1, if_true, e1, e9, show ¬ ((1 : Int) = 0) by decide, if_false] at good bad ⊢
    by_cases hl : t.f2.length = 0
    · simp only [hl, if_true, decide_true, Bool.and_true] at good ⊢
      exact good (by omega) _
    · simp only [hl, if_false, decide_false, Bool.and_false, Bool.false_and]
      exact bad
  by_cases h2 : t.f0 = 2
  · have e9 : ∀ x : Int, (x = 0) = (0 ≤ x ∧ x ≤ 0) := fun x => by rw [eq_iff_iff]; omega
    simp only [h2, if_true, e3, e9 t.f1, show ¬ ((2 : Int) = 0) by decide, show ¬ ((2 : Int) = 1) by decide, if_false] at good bad ⊢
    by_cases hl : t.f2.length = 2
    · simp only [hl, if_true, decide_true, Bool.and_true] at good ⊢
      exact good (by omega) _
    · simp only [hl, if_false, decide_false, Bool.and_false, Bool.false_and]
      exact bad
  by_cases h3 : t.f0 = 3
  · have e9 : ∀ x : Int, (x = 0) = (0 ≤ x ∧ x ≤ 0) := fun x => by rw [eq_iff_iff]; omega
    simp only [h3, if_true, e3, e9 t.f1, show ¬ ((3 : Int) = 0) by decide, show ¬ ((3 : Int) = 1) by decide, show ¬ ((3 : Int) = 2) by decide, if_false] at good bad ⊢
    by_cases hl : t.f2.length = 2
    · simp only [hl, if_true, decide_true, Bool.and_true] at good ⊢
      exact good (by omega) _
    · simp only [hl, if_false, decide_false, Bool.and_false, Bool.false_and]
      exact bad
  by_cases h4 : t.f0 = 4
  · have e9 : ∀ x : Int, (x = 0) = (0 ≤ x ∧ x ≤ 0) := fun x => by rw [eq_iff_iff]; omega
    simp only [h4, if_true, e4, e9 t.f1, show ¬ ((4 : Int) = 0) by decide, show ¬ ((4 : Int) = 1) by decide, show ¬ ((4 : Int) = 2) by decide, show ¬ ((4 : Int) = 3) by decide, if_false] at good bad ⊢
    by_cases hl : t.f2.length = 3
    · simp only [hl, if_true, decide_true, Bool.and_true] at good ⊢
      exact good (by omega) _
    · simp only [hl, if_false, decide_false, Bool.and_false, Bool.false_and]
      exact bad
  by_cases h5 : t.f0 = 5
  · have e9 : ∀ x : Int, (0 ≤ x ∧ x < 10) = (0 ≤ x ∧ x ≤ 9) := fun x => by rw [eq_iff_iff]; omega
    simp only [h5, if_true, e2, e9 t.f1, show ¬ ((5 : Int) = 0) by decide, show ¬ ((5 : Int) = 1) by decide, show ¬ ((5 : Int) = 2) by decide, show ¬ ((5 : Int) = 3) by decide, show ¬ ((5 : Int) = 4) by decide, if_false] at good bad ⊢
    by_cases hl : t.f2.length = 1
    · simp only [hl, if_true, decide_true, Bool.and_true] at good ⊢
      exact good (by omega) _
    · simp only [hl, if_false, decide_false, Bool.and_false, Bool.false_and]
      exact bad
  · simp only [h0, h1, h2, h3, h4, h5, if_false, Bool.false_eq_true, Bool.false_and]
    exact bad
theorem l1Nodes_loop (a b : Int) (ps : List Tk) (hlen : ps.length ≤ 4000000000) (ih : ∀ p ∈ ps, (nodT p : Int) ≤ 4000000000 → Ev (fun k => spec_l1Nodes.f k p.f0 p.f1 p.f2) (nodT p : Int)) :
    ∀ (d i : Nat) (n : Int), d = ps.length - i → i ≤ ps.length → 0 ≤ n → n + (nodL (ps.drop i) : Int) ≤ 4000000000 → Ev (fun k => spec_l1Nodes.l0 k n (i : Int) a b ps) (n + nodL (ps.drop i)) := by
  intro d
  induction d with
  | zero =>
    intro i n hd hi hn hb
    have e : i = ps.length := by omega
    subst e
    refine Ev.step (fun k => by rw [spec_l1Nodes.l0]) ?_
    simp only [if_neg (show ¬ ((ps.length : Int) < (ps.length : Int)) by omega), List.drop_length, nodL]
    exact Ev.eq (Ev.now n) (by omega)
  | succ d ihd =>
    intro i n hd hi hn hb
    have hlt : i < ps.length := by omega
    have hrd := rd_tk ps i hlt
    have hmem : ps[i] ∈ ps := List.getElem_mem hlt
    rw [drop_tk ps i hlt] at hb ⊢
    simp only [nodL] at hb ⊢
    refine Ev.step (fun k => by rw [spec_l1Nodes.l0]) ?_
    simp only [if_pos (show (i : Int) < (ps.length : Int) by omega), if_pos (show (0 : Int) ≤ (i : Int) by omega), hrd]
    refine Ev.bind (ih _ hmem (by omega)) ?_
    simp only [wrap_nat i (by omega), wrap_id (n + (nodT ps[i] : Int)) (by omega) (by omega)]
    exact Ev.eq (ihd (i + 1) (n + nodT ps[i]) (by omega) (by omega) (by omega) (by omega)) (by omega)
theorem l1Nodes_ev : ∀ t : Tk, (nodT t : Int) ≤ 4000000000 → Ev (fun k => spec_l1Nodes.f k t.f0 t.f1 t.f2) (nodT t : Int) := by
  refine tk_ind fun t ih hb => ?_
  rw [nodT_eq] at hb ⊢
  have := nodL_len t.f2
  refine Ev.step (fun k => by rw [spec_l1Nodes.f]) ?_
  exact Ev.eq (l1Nodes_loop t.f0 t.f1 t.f2 (by omega) ih t.f2.length 0 1 (by omega) (by omega) (by omega) (by rw [List.drop_zero]; omega)) (by rw [List.drop_zero]; omega)
theorem specOk_ev (t : Tk) (hb : (nodT t : Int) ≤ 4000000000) : Ev (fun k => spec_TaskOk.f k t.f0 t.f1 t.f2) (okT t) := by
  unfold spec_TaskOk.f
  refine Ev.bind (l1Fit_ev t) ?_
  unfold okT
  cases h : fitT t with
  | false =>
    simp only [Bool.false_eq_true, if_false, Bool.false_and]
    exact Ev.now false
  | true =>
    simp only [if_true, Bool.true_and]
    refine Ev.bind (l1Nodes_ev t hb) ?_
    refine Ev.of_eq ?_
    congr 1
    rw [Bool.eq_iff_iff]
    simp only [decide_eq_true_eq]
    omega
end Go.Proofs.Ytooojligedlpeaa.G
end
section
namespace Go.Proofs.Ytooojligedlpeaa.G
open Go.RowKit Go.Proofs.YtooojligedlpeaaW.PrintWords
set_option linter.unusedVariables false
set_option linter.unusedSimpArgs false
theorem xor_nonneg (a b : Int) (ha : 0 ≤ a) (ha2 : a < 4611686018427387904) (hb : 0 ≤ b) (hb2 : b < 4611686018427387904) : 0 ≤ Go.bits .xor .i64 a b := by
  obtain ⟨x, rfl⟩ := Int.eq_ofNat_of_zero_le ha
  obtain ⟨y, rfl⟩ := Int.eq_ofNat_of_zero_le hb
  have hx : x < 2 ^ 62 := by omega
  have hy : y < 2 ^ 62 := by omega
  have hx2 : x % 2 ^ 64 = x := Nat.mod_eq_of_lt (by omega)
  have hy2 : y % 2 ^ 64 = y := Nat.mod_eq_of_lt (by omega)
  have hz : x ^^^ y < 2 ^ 62 := Nat.xor_lt_two_pow hx hy
  have e : Go.bits .xor .i64 (x : Int) (y : Int) = ((x ^^^ y : Nat) : Int) := by
    show IntKind.i64.wrap ((BitVec.ofInt 64 (x : Int) ^^^ BitVec.ofInt 64 (y : Int)).toNat : Int) = _
    rw [BitVec.toNat_xor, BitVec.ofInt_natCast, BitVec.ofInt_natCast, BitVec.toNat_ofNat, BitVec.toNat_ofNat, hx2, hy2, IntKind.wrap_i64]
    omega
  rw [e]
  omega
def byteL (l : List Int) : Prop := ∀ x ∈ l, 0 ≤ x ∧ x ≤ 255
theorem rd_byte {l : List Int} (h : byteL l) (i : Int) : 0 ≤ rd l i ∧ rd l i ≤ 255 := by
  unfold rd
  by_cases hi : i.toNat < l.length
  · rw [List.getD_eq_getElem?_getD, List.getElem?_eq_getElem hi, Option.getD_some]
    exact h _ (List.getElem_mem hi)
  · rw [List.getD_eq_getElem?_getD, List.getElem?_eq_none (by omega), Option.getD_none]
    omega
theorem pick_ev {l : List Int} (hl : byteL l) (hlen : l.length ≤ 1048576) (p n : Int) (h0 : 0 ≤ p) (h1 : p ≤ 1099511627776) :
    ∃ v, Ev (fun k => spec_l6Rd_pick.f k l p n) (v, p + 1) ∧ 0 ≤ v ∧ (1 ≤ n → v < n) ∧ (n < 1 → v = 0) := by
  have e1 : wrap64 (p + 1) = p + 1 := wrap_id _ (by omega) (by omega)
  have e2 : wrap64 (p + 1 - 1) = p := by rw [wrap_id (p + 1 - 1) (by omega) (by omega)]; omega
  by_cases hn : n < 1
  · refine ⟨0, ?_, by omega, by omega, by omega⟩
    unfold spec_l6Rd_pick.f
    simp only [if_pos hn, e1]
    refine Ev.step (fun k => by rw [spec_l6Rd_pick.j0]) ?_
    simp only [if_true]
    exact Ev.now _
  · by_cases hz : l.length = 0
    · refine ⟨0, ?_, by omega, by omega, by omega⟩
      unfold spec_l6Rd_pick.f
      simp only [if_neg hn, e1, show ((l.length : Int) == 0) = true by simp [hz]]
      refine Ev.step (fun k => by rw [spec_l6Rd_pick.j0]) ?_
      simp only [if_true]
      exact Ev.now _
    · have hzb : ((l.length : Int) == 0) = false := beq_eq_false_iff_ne.mpr (by omega)
      by_cases hp : p < (l.length : Int)
      · have hr := rd_byte hl p
        have ew : wrap64 (rd l p) = rd l p := wrap_id _ (by omega) (by omega)
        refine ⟨Int.tmod (rd l p) n, ?_, Int.tmod_nonneg _ hr.1, fun _ => Int.tmod_lt_of_pos _ (by omega), by omega⟩
        unfold spec_l6Rd_pick.f
        simp only [if_neg hn, e1, hzb]
        refine Ev.step (fun k => by rw [spec_l6Rd_pick.j0]) ?_
        simp only [Bool.false_eq_true, if_false, e2, if_pos hp, if_pos h0, if_neg (show ¬ n = 0 by omega), ew]
        exact Ev.now _
      · have hl0 : 0 < (l.length : Int) := by omega
        have t1 := Int.tmod_nonneg (l.length : Int) h0
        have t2 := Int.tmod_lt_of_pos p hl0
        have e3 : wrap64 (p * 7) = p * 7 := wrap_id _ (by omega) (by omega)
        have e4 : wrap64 (p * 7 + 3) = p * 7 + 3 := wrap_id _ (by omega) (by omega)
        have t3 := Int.tmod_nonneg (l.length : Int) (show 0 ≤ p * 7 + 3 by omega)
        have t4 := Int.tmod_lt_of_pos (p * 7 + 3) hl0
        have q1 : 0 ≤ Int.tdiv p (l.length : Int) := Int.tdiv_nonneg h0 (by omega)
        have q2 : Int.tdiv p (l.length : Int) ≤ p := by
          rw [Int.tdiv_eq_ediv_of_nonneg h0]
          exact Int.ediv_le_self _ h0
        have ha := rd_byte hl (Int.tmod p (l.length : Int))
        have hb := rd_byte hl (Int.tmod (p * 7 + 3) (l.length : Int))
        have key : ∃ v, Ev (fun k => spec_l6Rd_pick.j0 k n false l (p + 1)) (v, p + 1) ∧ 0 ≤ v ∧ (1 ≤ n → v < n) := by
          refine ⟨?_, ?_, ?_, ?_⟩
          rotate_left
          · refine Ev.step (fun k => by rw [spec_l6Rd_pick.j0]) ?_
            simp only [Bool.false_eq_true, if_false, e2, if_neg hp, if_neg (show ¬ (l.length : Int) = 0 by omega), if_pos t1, if_pos t2, e3, e4, if_pos t3, if_pos t4, if_neg (show ¬ n = 0 by omega)]
            exact Ev.now _
          · refine Int.tmod_nonneg _ ?_
            generalize rd l (Int.tmod p (l.length : Int)) = a at *
            generalize rd l (Int.tmod (p * 7 + 3) (l.length : Int)) = b at *
            generalize Int.tdiv p (l.length : Int) = q at *
            have hX : 0 ≤ wrap64 (wrap64 (wrap64 (wrap64 (wrap64 a * 131) + wrap64 (wrap64 b * 1117)) + wrap64 (p * 29)) + wrap64 (wrap64 q * 53)) ∧ wrap64 (wrap64 (wrap64 (wrap64 (wrap64 a * 131) + wrap64 (wrap64 b * 1117)) + wrap64 (p * 29)) + wrap64 (wrap64 q * 53)) < 4611686018427387904 := by
              simp only [wrap_id a (by omega) (by omega), wrap_id b (by omega) (by omega), wrap_id q (by omega) (by omega), wrap_id (a * 131) (by omega) (by omega), wrap_id (b * 1117) (by omega) (by omega), wrap_id (q * 53) (by omega) (by omega), wrap_id (p * 29) (by omega) (by omega), wrap_id (a * 131 + b * 1117) (by omega) (by omega), wrap_id (a * 131 + b * 1117 + p * 29) (by omega) (by omega), wrap_id (a * 131 + b * 1117 + p * 29 + q * 53) (by omega) (by omega)]
              omega
            generalize wrap64 (wrap64 (wrap64 (wrap64 (wrap64 a * 131) + wrap64 (wrap64 b * 1117)) + wrap64 (p * 29)) + wrap64 (wrap64 q * 53)) = X at *
            have hY : 0 ≤ Int.tdiv X 64 := Int.tdiv_nonneg hX.1 (by omega)
            have hY2 : Int.tdiv X 64 ≤ X := by
              rw [Int.tdiv_eq_ediv_of_nonneg hX.1]
              exact Int.ediv_le_self _ hX.1
            rw [wrap_id (Int.tdiv X 64) (by omega) (by omega)]
            exact xor_nonneg _ _ hX.1 hX.2 hY (by omega)
          · intro _
            exact Int.tmod_lt_of_pos _ (by omega)
        obtain ⟨v, hv, hv1, hv2⟩ := key
        refine ⟨v, ?_, hv1, hv2, by omega⟩
        unfold spec_l6Rd_pick.f
        simp only [if_neg hn, e1, hzb]
        exact hv
theorem key_ev {l : List Int} (hl : byteL l) (hlen : l.length ≤ 1048576) (p below : Int) (h0 : 0 ≤ p) (h1 : p + 1 ≤ 1099511627776) (hb : below ≤ 10) :
    ∃ v p', Ev (fun k => spec_l91Key.f k l p below) (v, p') ∧ 0 ≤ v ∧ v ≤ 9 ∧ p ≤ p' ∧ p' ≤ p + 2 := by
  obtain ⟨v, hv, v0, v1, v2⟩ := pick_ev hl hlen p 25 h0 (by omega)
  by_cases hz : v = 0
  · refine ⟨9, p + 1, ?_, by omega, by omega, by omega, by omega⟩
    unfold spec_l91Key.f
    refine Ev.bind hv ?_
    simp only [if_pos hz]
    exact Ev.now _
  · obtain ⟨u, hu, u0, u1, u2⟩ := pick_ev hl hlen (p + 1) below (by omega) (by omega)
    refine ⟨u, p + 1 + 1, ?_, by omega, ?_, by omega, by omega⟩
    · unfold spec_l91Key.f
      refine Ev.bind hv ?_
      simp only [if_neg hz]
      exact Ev.bind hu (Ev.now _)
    · by_cases hc : 1 ≤ below
      · have := u1 hc; omega
      · have := u2 (by omega); omega
def room : Nat → Int
  | 0 => 4
  | d + 1 => 4 * room d
theorem room_pos : ∀ d, 4 ≤ room d
  | 0 => by simp [room]
  | d + 1 => by have := room_pos d; simp only [room]; omega
theorem room3 : room 3 = 256 := by decide
theorem room2 : room 2 = 64 := by decide
theorem room_le {d : Nat} (h : d ≤ 3) : room d ≤ 256 := by
  match d, h with
  | 0, _ => decide
  | 1, _ => decide
  | 2, _ => decide
  | 3, _ => decide
theorem tk_eta (t : Tk) : (⟨t.f0, t.f1, t.f2⟩ : Tk) = t := by cases t; rfl
theorem nodT_one (a b : Int) : nodT ⟨a, b, []⟩ = 1 := by simp [nodT, nodL]
theorem task_ev {l : List Int} (hl : byteL l) (hlen : l.length ≤ 1048576) (below : Int) (hb : below ≤ 10) : ∀ (d : Nat) (p : Int), d ≤ 3 → 0 ≤ p → p + 4 * room d + 10 ≤ 1099511627776 →
    ∃ (t : Tk) (p' : Int), Ev (fun k => spec_l91Task.f k l p below (d : Int)) (t.f0, t.f1, t.f2, p') ∧ p ≤ p' ∧ p' ≤ p + room d ∧ (nodT t : Int) ≤ room d := by
  intro d
  induction d with
  | zero =>
    intro p hd h0 h1
    have hr0 : room 0 = 4 := rfl
    obtain ⟨v, hv, v0, v1, v2⟩ := pick_ev hl hlen p 9 h0 (by omega)
    have num : ∃ (t : Tk) (p' : Int), Ev (fun k => spec_l91Task.j1 k below true l (p + 1)) (t.f0, t.f1, t.f2, p') ∧ p ≤ p' ∧ p' ≤ p + room 0 ∧ (nodT t : Int) ≤ room 0 := by
      obtain ⟨u, hu, u0, u1, u2⟩ := pick_ev hl hlen (p + 1) 97 (by omega) (by omega)
      refine ⟨⟨0, u, []⟩, p + 1 + 1, ?_, by omega, by simp only [room]; omega, by rw [nodT_one]; simp [room]⟩
      refine Ev.step (fun k => by rw [spec_l91Task.j1]) ?_
      simp only [if_true]
      exact Ev.bind hu (Ev.now _)
    have key : ∃ (t : Tk) (p' : Int), Ev (fun k => spec_l91Task.j1 k below false l (p + 1)) (t.f0, t.f1, t.f2, p') ∧ p ≤ p' ∧ p' ≤ p + room 0 ∧ (nodT t : Int) ≤ room 0 := by
      obtain ⟨u, p', hu, u0, u1, u2, u3⟩ := key_ev hl hlen (p + 1) below (by omega) (by omega) hb
      refine ⟨⟨1, u, []⟩, p', ?_, by omega, by simp only [room]; omega, by rw [nodT_one]; simp [room]⟩
      refine Ev.step (fun k => by rw [spec_l91Task.j1]) ?_
      simp only [Bool.false_eq_true, if_false]
      exact Ev.bind hu (Ev.now _)
    have both : ∃ (t : Tk) (p' : Int), Ev (fun k => spec_l91Task.j0 k below ((0 : Nat) : Int) v true l (p + 1)) (t.f0, t.f1, t.f2, p') ∧ p ≤ p' ∧ p' ≤ p + room 0 ∧ (nodT t : Int) ≤ room 0 := by
      by_cases h2 : Int.tmod v 2 = 0
      · obtain ⟨t, p', ht, hr⟩ := num
        refine ⟨t, p', ?_, hr⟩
        refine Ev.step (fun k => by rw [spec_l91Task.j0]) ?_
        simp only [if_true, if_pos h2]
        exact ht
      · cases hz : (below == 0) with
        | true =>
          obtain ⟨t, p', ht, hr⟩ := num
          refine ⟨t, p', ?_, hr⟩
          refine Ev.step (fun k => by rw [spec_l91Task.j0]) ?_
          simp only [if_true, if_neg h2, hz]
          exact ht
        | false =>
          obtain ⟨t, p', ht, hr⟩ := key
          refine ⟨t, p', ?_, hr⟩
          refine Ev.step (fun k => by rw [spec_l91Task.j0]) ?_
          simp only [if_true, if_neg h2, hz]
          exact ht
    obtain ⟨t, p', ht, hr⟩ := both
    refine ⟨t, p', ?_, hr⟩
    refine Ev.step (fun k => by rw [spec_l91Task.f]) ?_
    refine Ev.bind hv ?_
    simp only [if_pos (show ((0 : Nat) : Int) = 0 from rfl)]
    exact ht
  | succ d ih =>
    intro p hd h0 h1
    have hr0 := room_pos d
    have hr1 := room_le (show d ≤ 3 by omega)
    have hr2 : room (d + 1) = 4 * room d := rfl
    have ew : wrap64 (((d + 1 : Nat) : Int) - 1) = (d : Int) := by rw [wrap_id (((d + 1 : Nat) : Int) - 1) (by omega) (by omega)]; omega
    obtain ⟨v, hv, v0, v1, v2⟩ := pick_ev hl hlen p 9 h0 (by omega)
    have leaf : ∀ b, ∃ (t : Tk) (p' : Int), Ev (fun k => spec_l91Task.j1 k below b l (p + 1)) (t.f0, t.f1, t.f2, p') ∧ p ≤ p' ∧ p' ≤ p + room (d + 1) ∧ (nodT t : Int) ≤ room (d + 1) := by
      intro b
      cases b with
      | true =>
        obtain ⟨u, hu, u0, u1, u2⟩ := pick_ev hl hlen (p + 1) 97 (by omega) (by omega)
        refine ⟨⟨0, u, []⟩, p + 1 + 1, ?_, by omega, by omega, by rw [nodT_one]; omega⟩
        refine Ev.step (fun k => by rw [spec_l91Task.j1]) ?_
        simp only [if_true]
        exact Ev.bind hu (Ev.now _)
      | false =>
        obtain ⟨u, p', hu, u0, u1, u2, u3⟩ := key_ev hl hlen (p + 1) below (by omega) (by omega) hb
        refine ⟨⟨1, u, []⟩, p', ?_, by omega, by omega, by rw [nodT_one]; omega⟩
        refine Ev.step (fun k => by rw [spec_l91Task.j1]) ?_
        simp only [Bool.false_eq_true, if_false]
        exact Ev.bind hu (Ev.now _)
    have main : ∃ (t : Tk) (p' : Int), Ev (fun k => spec_l91Task.j0 k below ((d + 1 : Nat) : Int) v (decide (v < 3)) l (p + 1)) (t.f0, t.f1, t.f2, p') ∧ p ≤ p' ∧ p' ≤ p + room (d + 1) ∧ (nodT t : Int) ≤ room (d + 1) := by
      by_cases h3 : v < 3
      · by_cases h2 : Int.tmod v 2 = 0
        · obtain ⟨t, p', ht, hr⟩ := leaf true
          refine ⟨t, p', ?_, hr⟩
          refine Ev.step (fun k => by rw [spec_l91Task.j0]) ?_
          simp only [decide_eq_true h3, if_true, if_pos h2]
          exact ht
        · obtain ⟨t, p', ht, hr⟩ := leaf (below == 0)
          refine ⟨t, p', ?_, hr⟩
          refine Ev.step (fun k => by rw [spec_l91Task.j0]) ?_
          simp only [decide_eq_true h3, if_true, if_neg h2]
          exact ht
      · have h3b : decide (v < 3) = false := decide_eq_false h3
        obtain ⟨t1, p1, e1, a1, b1, n1⟩ := ih (p + 1) (by omega) (by omega) (by omega)
        obtain ⟨t2, p2, e2, a2, b2, n2⟩ := ih p1 (by omega) (by omega) (by omega)
        by_cases h5 : v < 5
        · refine ⟨⟨2, 0, [t1, t2]⟩, p2, ?_, by omega, by omega, ?_⟩
          · refine Ev.step (fun k => by rw [spec_l91Task.j0]) ?_
            simp only [h3b, Bool.false_eq_true, if_false, if_pos h5, ew]
            exact Ev.bind e1 (Ev.bind e2 (Ev.eq (Ev.now _) (by simp only [tk_eta])))
          · simp only [nodT, nodL]; omega
        · by_cases h6 : v = 5
          · refine ⟨⟨3, 0, [t1, t2]⟩, p2, ?_, by omega, by omega, ?_⟩
            · refine Ev.step (fun k => by rw [spec_l91Task.j0]) ?_
              simp only [h3b, Bool.false_eq_true, if_false, if_neg h5, if_pos h6, ew]
              exact Ev.bind e1 (Ev.bind e2 (Ev.eq (Ev.now _) (by simp only [tk_eta])))
            · simp only [nodT, nodL]; omega
          · have three : ∀ q : Int, p + 1 ≤ q → q ≤ p + 2 → ∃ (t : Tk) (p' : Int), Ev (fun k => spec_l91Task.j2 k below ((d + 1 : Nat) : Int) true l q) (t.f0, t.f1, t.f2, p') ∧ p ≤ p' ∧ p' ≤ p + room (d + 1) ∧ (nodT t : Int) ≤ room (d + 1) := by
              intro q hq1 hq2
              obtain ⟨t1, p1, e1, a1, b1, n1⟩ := ih q (by omega) (by omega) (by omega)
              obtain ⟨t2, p2, e2, a2, b2, n2⟩ := ih p1 (by omega) (by omega) (by omega)
              obtain ⟨t3, p3, e3, a3, b3, n3⟩ := ih p2 (by omega) (by omega) (by omega)
              refine ⟨⟨4, 0, [t1, t2, t3]⟩, p3, ?_, by omega, by omega, ?_⟩
              · refine Ev.step (fun k => by rw [spec_l91Task.j2]) ?_
                simp only [if_true, ew]
                exact Ev.bind e1 (Ev.bind e2 (Ev.bind e3 (Ev.eq (Ev.now _) (by simp only [tk_eta]))))
              · simp only [nodT, nodL]; omega
            by_cases h8 : v < 8
            · obtain ⟨t, p', ht, hr⟩ := three (p + 1) (by omega) (by omega)
              refine ⟨t, p', ?_, hr⟩
              refine Ev.step (fun k => by rw [spec_l91Task.j0]) ?_
              simp only [h3b, Bool.false_eq_true, if_false, if_neg h5, if_neg h6, if_pos h8]
              exact ht
            · obtain ⟨u, hu, u0, u1, u2⟩ := pick_ev hl hlen (p + 1) 3 (by omega) (by omega)
              by_cases hu0 : u > 0
              · obtain ⟨t, p', ht, hr⟩ := three (p + 1 + 1) (by omega) (by omega)
                refine ⟨t, p', ?_, hr⟩
                refine Ev.step (fun k => by rw [spec_l91Task.j0]) ?_
                simp only [h3b, Bool.false_eq_true, if_false, if_neg h5, if_neg h6, if_neg h8]
                refine Ev.bind hu ?_
                simp only [decide_eq_true hu0]
                exact ht
              · obtain ⟨x, hx, x0, x1, x2⟩ := pick_ev hl hlen (p + 1 + 1) 10 (by omega) (by omega)
                obtain ⟨t1, p1, e1, a1, b1, n1⟩ := ih (p + 1 + 1 + 1) (by omega) (by omega) (by omega)
                refine ⟨⟨5, x, [t1]⟩, p1, ?_, by omega, by omega, ?_⟩
                · refine Ev.step (fun k => by rw [spec_l91Task.j0]) ?_
                  simp only [h3b, Bool.false_eq_true, if_false, if_neg h5, if_neg h6, if_neg h8]
                  refine Ev.bind hu ?_
                  simp only [decide_eq_false hu0]
                  refine Ev.step (fun k => by rw [spec_l91Task.j2]) ?_
                  simp only [Bool.false_eq_true, if_false, ew]
                  exact Ev.bind hx (Ev.bind e1 (Ev.eq (Ev.now _) (by simp only [tk_eta])))
                · simp only [nodT, nodL]; omega
    obtain ⟨t, p', ht, hr⟩ := main
    refine ⟨t, p', ?_, hr⟩
    refine Ev.step (fun k => by rw [spec_l91Task.f]) ?_
    refine Ev.bind hv ?_
    simp only [if_neg (show ¬ ((d + 1 : Nat) : Int) = 0 by omega)]
    exact ht
theorem fit_ev {l : List Int} (hl : byteL l) (hlen : l.length ≤ 1048576) (below : Int) (hb : below ≤ 10) (p : Int) (h0 : 0 ≤ p) (h1 : p + 2000 ≤ 1099511627776) :
    ∃ (t : Tk) (p' : Int), Ev (fun k => spec_l91Fit.f k l p below) (t.f0, t.f1, t.f2, p') ∧ p ≤ p' ∧ p' ≤ p + 100 ∧ okT t = true := by
  obtain ⟨t, p', ht, a, b, n⟩ := task_ev hl hlen below hb 2 p (by omega) h0 (by rw [room2]; omega)
  rw [room2] at b n
  cases hok : okT t with
  | true =>
    refine ⟨t, p', ?_, a, by omega, hok⟩
    unfold spec_l91Fit.f
    refine Ev.bind ht ?_
    refine Ev.bind (specOk_ev t (by omega)) ?_
    rw [hok]
    simp only [if_true]
    exact Ev.now _
  | false =>
    obtain ⟨u, hu, u0, u1, u2⟩ := pick_ev hl hlen p' 10 (by omega) (by omega)
    have u3 := u1 (by omega)
    refine ⟨⟨1, u, []⟩, p' + 1, ?_, by omega, by omega, ?_⟩
    · unfold spec_l91Fit.f
      refine Ev.bind ht ?_
      refine Ev.bind (specOk_ev t (by omega)) ?_
      rw [hok]
      simp only [Bool.false_eq_true, if_false]
      exact Ev.bind hu (Ev.now _)
    · simp only [okT, fitT, fitL, nodT, nodL, shapeB, List.length_nil]
      simp
      omega
theorem num_ev {l : List Int} (hl : byteL l) (hlen : l.length ≤ 1048576) (p : Int) (h0 : 0 ≤ p) (h1 : p ≤ 1099511627776) (ns : List Int) (hn : 0 < ns.length) :
    ∃ x ∈ ns, Ev (fun k => spec_l91Num.f k l p ns) (x, p + 1) := by
  obtain ⟨u, hu, u0, u1, u2⟩ := pick_ev hl hlen p (ns.length : Int) h0 h1
  have u3 := u1 (by omega)
  obtain ⟨i, rfl⟩ := Int.eq_ofNat_of_zero_le u0
  have hi : i < ns.length := by omega
  refine ⟨ns[i], List.getElem_mem hi, ?_⟩
  unfold spec_l91Num.f
  refine Ev.bind hu ?_
  simp only [if_pos u0, if_pos u3]
  have e : rd ns (i : Int) = ns[i] := by
    simp only [rd, Int.toNat_natCast, List.getD_eq_getElem?_getD, List.getElem?_eq_getElem hi, Option.getD_some]
  rw [e]
  exact Ev.now _
theorem open_ev {l : List Int} (hl : byteL l) : ∃ l', spec_l6Open.f l = some (l', 0) ∧ byteL l' ∧ l'.length ≤ 2000 := by
  unfold spec_l6Open.f
  by_cases h : (l.length : Int) > 2000
  · refine ⟨l.take 2000, by rw [if_pos h, if_pos (by omega)], fun x hx => hl x (List.mem_of_mem_take hx), by simp; omega⟩
  · exact ⟨l, by rw [if_neg h], hl, by omega⟩
theorem byteL_of {l : List Int} (h : ∀ x ∈ l, (Lit.int .u8 x).wf = true) : byteL l := by
  intro x hx
  have h1 := h x hx
  simp only [Lit.wf, Bool.and_eq_true, decide_eq_true_eq] at h1
  have e1 : IntKind.u8.min = 0 := by decide
  have e2 : IntKind.u8.max = 255 := by decide
  rw [e1, e2] at h1
  exact h1
end Go.Proofs.Ytooojligedlpeaa.G
end
section
namespace Go.Proofs.Ytooojligedlpeaa.G
open Go.RowKit Go.Proofs.YtooojligedlpeaaW.PrintWords
set_option linter.unusedVariables false
set_option linter.unusedSimpArgs false
theorem values_loop {l : List Int} (hl : byteL l) (hlen : l.length ≤ 1048576) : ∀ (d : Nat) (out : List Int) (p : Int), d ≤ 10 → out.length + d ≤ 10 → 0 ≤ p → p + d + 1 ≤ 1099511627776 →
    ∃ vs p', Ev (fun k => spec_l91Values.l0 k out (d : Int) l p) (vs, p') ∧ p ≤ p' ∧ p' ≤ p + d + 1 ∧ vs.length ≤ 11 := by
  intro d
  induction d with
  | zero =>
    intro out p hd ho h0 h1
    obtain ⟨v, hv, v0, v1, v2⟩ := pick_ev hl hlen p 25 h0 (by omega)
    by_cases hz : v = 0
    · refine ⟨out ++ [97], p + 1, ?_, by omega, by omega, by simp; omega⟩
      refine Ev.step (fun k => by rw [spec_l91Values.l0]) ?_
      simp only [if_neg (show ¬ (((0 : Nat) : Int) > 0) by omega)]
      refine Ev.bind hv ?_
      simp only [if_pos hz, if_pos (show out.length < 17592186044416 by omega)]
      exact Ev.now _
    · refine ⟨out, p + 1, ?_, by omega, by omega, by omega⟩
      refine Ev.step (fun k => by rw [spec_l91Values.l0]) ?_
      simp only [if_neg (show ¬ (((0 : Nat) : Int) > 0) by omega)]
      refine Ev.bind hv ?_
      simp only [if_neg hz]
      exact Ev.now _
  | succ d ih =>
    intro out p hd ho h0 h1
    obtain ⟨v, hv, v0, v1, v2⟩ := pick_ev hl hlen p 5 h0 (by omega)
    obtain ⟨vs, p', hvs, a, b, c⟩ := ih (out ++ [v]) (p + 1) (by omega) (by simp; omega) (by omega) (by omega)
    refine ⟨vs, p', ?_, by omega, by omega, c⟩
    refine Ev.step (fun k => by rw [spec_l91Values.l0]) ?_
    simp only [if_pos (show (((d + 1 : Nat) : Int) > 0) by omega)]
    refine Ev.bind hv ?_
    have ew : wrap64 (((d + 1 : Nat) : Int) - 1) = (d : Int) := by rw [wrap_id (((d + 1 : Nat) : Int) - 1) (by omega) (by omega)]; omega
    simp only [if_pos (show out.length < 17592186044416 by omega), ew]
    exact hvs
theorem values_ev {l : List Int} (hl : byteL l) (hlen : l.length ≤ 1048576) (p : Int) (h0 : 0 ≤ p) (h1 : p + 20 ≤ 1099511627776) :
    ∃ vs p', Ev (fun k => spec_l91Values.f k l p) (vs, p') ∧ p ≤ p' ∧ p' ≤ p + 20 ∧ vs.length ≤ 11 := by
  obtain ⟨v, hv, v0, v1, v2⟩ := pick_ev hl hlen p 11 h0 (by omega)
  have v3 := v1 (by omega)
  obtain ⟨d, rfl⟩ := Int.eq_ofNat_of_zero_le v0
  obtain ⟨vs, p', hvs, a, b, c⟩ := values_loop hl hlen d [] (p + 1) (by omega) (by simp; omega) (by omega) (by omega)
  refine ⟨vs, p', ?_, by omega, by omega, c⟩
  unfold spec_l91Values.f
  exact Ev.bind hv hvs
end Go.Proofs.Ytooojligedlpeaa.G
end
section
namespace Go.Proofs.Ytooojligedlpeaa.G
open Go.RowKit Go.Proofs.YtooojligedlpeaaW.PrintWords
set_option linter.unusedVariables false
set_option linter.unusedSimpArgs false
theorem any_task_ev {l : List Int} (hl : byteL l) (hlen : l.length ≤ 1048576) (p : Int) (h0 : 0 ≤ p) (h1 : p + 4000 ≤ 1099511627776) :
    ∃ (t : Tk) (p' : Int), Ev (fun k => spec_l91Any.f k l p) (t.f0, t.f1, t.f2, p') ∧ p ≤ p' ∧ p' ≤ p + 1000 ∧ (nodT t : Int) ≤ 1000 := by
  obtain ⟨t, p1, ht, a, b, hok⟩ := fit_ev hl hlen 10 (by omega) p h0 (by omega)
  have hn := okT_nod hok
  obtain ⟨v, hv, v0, v1, v2⟩ := pick_ev hl hlen p1 10 (by omega) (by omega)
  by_cases hz : v = 0
  · obtain ⟨u, hu, u0, u1, u2⟩ := pick_ev hl hlen (p1 + 1) 4 (by omega) (by omega)
    have nn : ∀ x y : Int, nodT ⟨x, y, t.f2⟩ = nodT t := fun x y => by rw [nodT_eq, nodT_eq]
    by_cases h4 : u = 0
    · obtain ⟨x, _, hx⟩ := num_ev hl hlen (p1 + 1 + 1) (by omega) (by omega) [-1, 97, 10, 1] (by simp)
      refine ⟨⟨t.f0, x, t.f2⟩, p1 + 1 + 1 + 1, ?_, by omega, by omega, by rw [nn]; omega⟩
      unfold spec_l91Any.f
      refine Ev.bind ht (Ev.bind hv ?_)
      simp only [if_pos hz]
      refine Ev.bind hu ?_
      simp only [if_pos h4]
      exact Ev.bind hx (Ev.now _)
    · by_cases h5 : u = 1
      · obtain ⟨x, _, hx⟩ := num_ev hl hlen (p1 + 1 + 1) (by omega) (by omega) [6, -1, 2] (by simp)
        refine ⟨⟨x, t.f1, t.f2⟩, p1 + 1 + 1 + 1, ?_, by omega, by omega, by rw [nn]; omega⟩
        unfold spec_l91Any.f
        refine Ev.bind ht (Ev.bind hv ?_)
        simp only [if_pos hz]
        refine Ev.bind hu ?_
        simp only [if_neg h4, if_pos h5]
        exact Ev.bind hx (Ev.now _)
      · by_cases h6 : u = 2
        · obtain ⟨t1, q1, e1, a1, b1, n1⟩ := task_ev hl hlen 10 (by omega) 3 (p1 + 1 + 1) (by omega) (by omega) (by rw [room3]; omega)
          rw [room3] at b1 n1
          obtain ⟨t2, q2, e2, a2, b2, n2⟩ := task_ev hl hlen 10 (by omega) 3 q1 (by omega) (by omega) (by rw [room3]; omega)
          rw [room3] at b2 n2
          refine ⟨⟨2, 0, [t1, t2]⟩, q2, ?_, by omega, by omega, by simp only [nodT, nodL]; omega⟩
          unfold spec_l91Any.f
          refine Ev.bind ht (Ev.bind hv ?_)
          simp only [if_pos hz]
          refine Ev.bind hu ?_
          simp only [if_neg h4, if_neg h5, if_pos h6]
          exact Ev.bind e1 (Ev.bind e2 (Ev.eq (Ev.now _) (by simp only [tk_eta])))
        · have hlen2 : t.f2.length ≤ 15 := by have := nodL_len t.f2; rw [nodT_eq] at hn; omega
          refine ⟨⟨t.f0, t.f1, t.f2 ++ [⟨0, 1, []⟩]⟩, p1 + 1 + 1, ?_, by omega, by omega, ?_⟩
          · unfold spec_l91Any.f
            refine Ev.bind ht (Ev.bind hv ?_)
            simp only [if_pos hz]
            refine Ev.bind hu ?_
            simp only [if_neg h4, if_neg h5, if_neg h6, if_pos (show t.f2.length < 3518437208883 by omega)]
            exact Ev.now _
          · have e : ∀ ps : List Tk, nodL (ps ++ [⟨0, 1, []⟩]) = nodL ps + 1 := by
              intro ps
              induction ps with
              | nil => simp [nodL, nodT]
              | cons q qs ihq => simp only [List.cons_append, nodL, ihq]; omega
            rw [nodT_eq, e]
            rw [nodT_eq] at hn
            omega
  · refine ⟨t, p1 + 1, ?_, by omega, by omega, by omega⟩
    unfold spec_l91Any.f
    refine Ev.bind ht (Ev.bind hv ?_)
    simp only [if_neg hz]
    exact Ev.now _
end Go.Proofs.Ytooojligedlpeaa.G
end
section
namespace Go.Proofs.Ytooojligedlpeaa.G
open Go.RowKit Go.Proofs.YtooojligedlpeaaW.PrintWords
set_option linter.unusedVariables false
set_option linter.unusedSimpArgs false
def Rep (D : List Int → Int → Int → TR) (x : Int) (fs : List Fk) : Prop :=
  (∀ (pre post : List Int) (lk : Int), D (pre ++ (fs.map (·.f1) ++ post)) (pre.length : Int) lk = (x, true, ((pre.length + fs.length : Nat) : Int), lk)) ∧
  (∀ (pre : List Int) (m : Nat) (f : Fk) (lk : Int), fs[m]? = some f → D (pre ++ (fs.map (·.f1)).take m) (pre.length : Int) lk = (0, false, ((pre.length + m : Nat) : Int), f.f0))
theorem rep_get (n x : Int) : Rep (fun got a lk => getT got a lk n) x [⟨n, x⟩] := by
  refine ⟨fun pre post lk => ?_, fun pre m f lk hf => ?_⟩
  · have e : rd (pre ++ ([(⟨n, x⟩ : Fk)].map (·.f1) ++ post)) (pre.length : Int) = x := by
      simp [rd, List.getD_eq_getElem?_getD]
    show getT (pre ++ ([(⟨n, x⟩ : Fk)].map (·.f1) ++ post)) (pre.length : Int) lk n = _
    unfold getT
    rw [if_neg (by simp only [List.length_append, List.map_cons, List.map_nil, List.length_cons, List.length_nil]; omega), e]
    rfl
  · match m, hf with
    | 0, hf =>
      simp only [List.getElem?_cons_zero, Option.some.injEq] at hf
      subst hf
      unfold getT
      simp
    | m + 1, hf => simp at hf
theorem rep_pure (x : Int) : Rep (fun _ a lk => (x, true, a, lk)) x [] := ⟨fun pre post lk => rfl, fun pre m f lk hf => by simp at hf⟩
theorem rep_seq {D : List Int → Int → Int → TR} {E : List Int → Int → Int → Int → TR} {v u : Int} {fs gs : List Fk} (h : Rep D v fs) (g : Rep (fun got a lk => E got v a lk) u gs) : Rep (fun got a lk => seqT (D got a lk) (E got)) u (fs ++ gs) := by
  refine ⟨fun pre post lk => ?_, fun pre m f lk hf => ?_⟩
  · have e1 := h.1 pre (gs.map (·.f1) ++ post) lk
    have e2 := g.1 (pre ++ fs.map (·.f1)) post lk
    simp only at e2
    rw [List.map_append, List.append_assoc]
    simp only [e1, seqT, if_true]
    rw [show pre ++ (fs.map (·.f1) ++ (gs.map (·.f1) ++ post)) = (pre ++ fs.map (·.f1)) ++ (gs.map (·.f1) ++ post) by simp]
    rw [show ((pre.length + fs.length : Nat) : Int) = ((pre ++ fs.map (·.f1)).length : Int) by simp, e2]
    simp only [List.length_append, List.length_map]
    rw [Nat.add_assoc]
  · rw [List.map_append]
    by_cases hm : m < fs.length
    · rw [List.getElem?_append_left hm] at hf
      rw [List.take_append_of_le_length (by rw [List.length_map]; omega)]
      simp only [h.2 pre m f lk hf, seqT, Bool.false_eq_true, if_false]
    · rw [List.getElem?_append_right (by omega)] at hf
      have e0 : (fs.map (·.f1) ++ gs.map (·.f1)).take m = fs.map (·.f1) ++ (gs.map (·.f1)).take (m - fs.length) := by
        rw [List.take_append, List.length_map, List.take_of_length_le (by rw [List.length_map]; omega)]
      rw [e0]
      have e1 := h.1 pre ((gs.map (·.f1)).take (m - fs.length)) lk
      have e2 := g.2 (pre ++ fs.map (·.f1)) (m - fs.length) f lk hf
      simp only at e2
      simp only [e1, seqT, if_true]
      rw [← List.append_assoc]
      rw [show ((pre.length + fs.length : Nat) : Int) = ((pre ++ fs.map (·.f1)).length : Int) by simp, e2]
      simp only [List.length_append, List.length_map]
      rw [show pre.length + fs.length + (m - fs.length) = pre.length + m by omega]
theorem rep_congr {D D' : List Int → Int → Int → TR} {x : Int} {fs : List Fk} (h : Rep D x fs) (e : D' = D) : Rep D' x fs := e ▸ h
theorem rep_doT (vs : List Int) {t : Tk} (h : Fits t) : Rep (fun got a lk => doT got t a lk) (runT vs t).1 (runT vs t).2 := by
  induction h with
  | num n h0 h1 => rw [runT_num]; exact rep_congr (rep_pure n) (by funext got a lk; exact doT_num got n a lk)
  | get n h0 h1 => rw [runT_get]; exact rep_congr (rep_get n _) (by funext got a lk; exact doT_get got n a lk)
  | add x y _ _ ihx ihy =>
    rw [runT_add]
    have h := rep_seq (E := fun got v a lk => seqT (doT got y a lk) fun u a lk => ((v + u) % 97, true, a, lk)) ihx (rep_seq (E := fun got u a lk => (((runT vs x).1 + u) % 97, true, a, lk)) ihy (rep_pure _))
    rw [List.append_nil] at h
    exact rep_congr h (by funext got a lk; exact doT_add got x y a lk)
  | mul x y _ _ ihx ihy =>
    rw [runT_mul]
    have h := rep_seq (E := fun got v a lk => seqT (doT got y a lk) fun u a lk => ((v * u) % 97, true, a, lk)) ihx (rep_seq (E := fun got u a lk => (((runT vs x).1 * u) % 97, true, a, lk)) ihy (rep_pure _))
    rw [List.append_nil] at h
    exact rep_congr h (by funext got a lk; exact doT_mul got x y a lk)
  | iff x y z _ _ _ ihx ihy ihz =>
    by_cases hv : (runT vs x).1 = 0
    · rw [runT_if0 vs x y z hv]
      have h := rep_seq (E := fun got v a lk => if v = 0 then doT got z a lk else doT got y a lk) ihx (rep_congr ihz (by funext got a lk; rw [if_pos hv]))
      exact rep_congr h (by funext got a lk; exact doT_if got x y z a lk)
    · rw [runT_if1 vs x y z hv]
      have h := rep_seq (E := fun got v a lk => if v = 0 then doT got z a lk else doT got y a lk) ihx (rep_congr ihy (by funext got a lk; rw [if_neg hv]))
      exact rep_congr h (by funext got a lk; exact doT_if got x y z a lk)
  | «at» n h0 h1 x _ ihx =>
    rw [runT_at]
    have h := rep_seq (E := fun got v a lk => getT got a lk ((n + v) % 10)) ihx (rep_get ((n + (runT vs x).1) % 10) (atV vs ((n + (runT vs x).1) % 10)))
    exact rep_congr h (by funext got a lk; exact doT_at got n x a lk)
theorem runT_keys {vs : List Int} (hv : vs.all isVal = true) {t : Tk} (h : Fits t) : ∀ f ∈ (runT vs t).2, 0 ≤ f.f0 ∧ f.f0 ≤ 9 ∧ f.f1 = atV vs f.f0 := by
  induction h with
  | num n h0 h1 => rw [runT_num]; intro f hf; cases hf
  | get n h0 h1 =>
    rw [runT_get]
    intro f hf
    simp only [List.mem_singleton] at hf
    subst hf
    exact ⟨h0, h1, rfl⟩
  | add x y _ _ ihx ihy =>
    rw [runT_add]
    intro f hf
    rcases List.mem_append.1 hf with hf | hf
    · exact ihx f hf
    · exact ihy f hf
  | mul x y _ _ ihx ihy =>
    rw [runT_mul]
    intro f hf
    rcases List.mem_append.1 hf with hf | hf
    · exact ihx f hf
    · exact ihy f hf
  | iff x y z _ _ _ ihx ihy ihz =>
    by_cases hz : (runT vs x).1 = 0
    · rw [runT_if0 vs x y z hz]
      intro f hf
      rcases List.mem_append.1 hf with hf | hf
      · exact ihx f hf
      · exact ihz f hf
    · rw [runT_if1 vs x y z hz]
      intro f hf
      rcases List.mem_append.1 hf with hf | hf
      · exact ihx f hf
      · exact ihy f hf
  | «at» n h0 h1 x hx ihx =>
    rw [runT_at]
    have hval := runT_val hv hx
    intro f hf
    rcases List.mem_append.1 hf with hf | hf
    · exact ihx f hf
    · simp only [List.mem_singleton] at hf
      subst hf
      refine ⟨?_, ?_, rfl⟩ <;> simp only <;> omega
end Go.Proofs.Ytooojligedlpeaa.G
end
section
namespace Go.Proofs.Ytooojligedlpeaa.G
open Go.RowKit Go.Proofs.YtooojligedlpeaaW.PrintWords
set_option linter.unusedVariables false
set_option linter.unusedSimpArgs false
theorem allLoop {α : Type} (l : List α) (F : Nat → Int → Option Bool) (one : Nat → α → Option Bool) (p : α → Bool)
    (hend : ∀ k, F (k + 1) (l.length : Int) = some true)
    (hstep : ∀ k (i : Nat) (h : i < l.length), F (k + 1) (i : Int) = (one k l[i]).bind fun t => if t = true then F k ((i + 1 : Nat) : Int) else some false)
    (hone : ∀ x ∈ l, Ev (fun k => one k x) (p x)) : ∀ (d i : Nat), d = l.length - i → i ≤ l.length → Ev (fun k => F k (i : Int)) ((l.drop i).all p) := by
  intro d
  induction d with
  | zero =>
    intro i hd hi
    have e : i = l.length := by omega
    subst e
    refine Ev.step (fun k => hend k) ?_
    simp only [List.drop_length, List.all_nil]
    exact Ev.now true
  | succ d ihd =>
    intro i hd hi
    have hlt : i < l.length := by omega
    rw [drop_tk l i hlt, List.all_cons]
    refine Ev.step (fun k => hstep k i hlt) ?_
    refine Ev.bind (hone _ (List.getElem_mem hlt)) ?_
    cases hp : p l[i] with
    | true => simp only [if_true, Bool.true_and]; exact ihd (i + 1) (by omega) (by omega)
    | false => simp only [Bool.false_eq_true, if_false, Bool.false_and]; exact Ev.now false
theorem eqLoop {α : Type} (l : List α) (F : Nat → Int → Option Bool) (one : Nat → α → Option Bool)
    (hend : ∀ k, F (k + 1) (l.length : Int) = some true)
    (hstep : ∀ k (i : Nat) (h : i < l.length), F (k + 1) (i : Int) = (one k l[i]).bind fun t => if t = true then F k ((i + 1 : Nat) : Int) else some false)
    (hone : ∀ x ∈ l, Ev (fun k => one k x) true) : Ev (fun k => F k 0) true := by
  have h := allLoop l F one (fun _ => true) hend hstep hone l.length 0 (by omega) (by omega)
  simp only [List.drop_zero, List.all_eq_true, implies_true] at h
  exact Ev.eq h (by simp)
end Go.Proofs.Ytooojligedlpeaa.G
end
section
namespace Go.Proofs.Ytooojligedlpeaa.G
open Go.RowKit Go.Proofs.YtooojligedlpeaaW.PrintWords
set_option linter.unusedVariables false
set_option linter.unusedSimpArgs false
def valsOkF (l : List Int) : Bool := decide (l.length ≤ 10) && l.all isVal
theorem implValsF_ev (l : List Int) : impl_valuesOk.f l = some (valsOkF l) := by
  unfold impl_valuesOk.f valsOkF impl_areValues.f
  by_cases h : l.length ≤ 10
  · rw [if_pos (by omega)]; simp [h]
  · rw [if_neg (by omega)]; simp [h]
theorem l2OfR_ev (l : List Int) (k : Int) (h : 0 ≤ k) : spec_l2Of.f l k = some (atV l k) := by
  unfold spec_l2Of.f atV
  by_cases h2 : k < (l.length : Int)
  · rw [if_pos h2, if_pos h, if_pos ⟨h, h2⟩]
  · rw [if_neg h2, if_neg (by omega)]
theorem rd_intR (l : List Int) (i : Nat) (h : i < l.length) : rd l (i : Int) = l[i] := by
  simp only [rd, Int.toNat_natCast, List.getD_eq_getElem?_getD, List.getElem?_eq_getElem h, Option.getD_some]
theorem specValsR_ev (l : List Int) : Ev (fun k => spec_l2Values.f k l) (valsOkF l) := by
  unfold spec_l2Values.f valsOkF
  by_cases h : l.length ≤ 10
  · simp only [if_neg (show ¬ ((l.length : Int) > 10) by omega)]
    have h1 := allLoop l (fun k i => spec_l2Values.l0 k l i) (fun _ x => spec_l6In.f x 0 96) isVal
      (fun k => by simp only [spec_l2Values.l0, if_neg (show ¬ ((l.length : Int) < (l.length : Int)) by omega)])
      (fun k i hi => by simp only [spec_l2Values.l0, if_pos (show (i : Int) < (l.length : Int) by omega), if_pos (show (0 : Int) ≤ (i : Int) by omega), rd_intR l i hi, wrap_nat i (by omega)])
      (fun x hx => Ev.of_eq (by
        unfold spec_l6In.f isVal
        by_cases g : x ≥ 0
        · rw [if_pos g]; simp only [ge_iff_le] at g; simp [g]
        · rw [if_neg g]; simp only [ge_iff_le] at g; simp [g]))
      l.length 0 (by omega) (by omega)
    refine Ev.eq h1 ?_
    simp [h]
  · simp only [if_pos (show (l.length : Int) > 10 by omega)]
    refine Ev.eq (Ev.now false) ?_
    simp [h]
end Go.Proofs.Ytooojligedlpeaa.G
end
section
namespace Go.Proofs.Ytooojligedlpeaa.G
open Go.RowKit Go.Proofs.YtooojligedlpeaaW.PrintWords
set_option linter.unusedVariables false
set_option linter.unusedSimpArgs false
theorem next_f (t : Tk) (hf : fitT t = true) (got : List Int) (hg : got.all isVal = true) (hl : got.length ≤ 1000000) : spec_l2Next.f t.f0 t.f1 t.f2 got = some ((doT got t 0 0).1, (doT got t 0 0).2.2.2, (doT got t 0 0).2.1) := by
  have e : (⟨t.f0, t.f1, t.f2⟩ : Tk) = t := by cases t; rfl
  unfold spec_l2Next.f
  rw [e, if_pos ⟨hf, hg, hl⟩]
theorem run_loop (vs : List Int) (hv : vs.all isVal = true) (t : Tk) (hf : fitT t = true) (hn : (runT vs t).2.length ≤ 1000) :
    ∀ (d i : Nat), d = (runT vs t).2.length - i → i ≤ (runT vs t).2.length →
      Ev (fun k => spec_l2Run.l0 k vs ((runT vs t).2.take i) (((runT vs t).2.take i).map (·.f1)) (doT (((runT vs t).2.take i).map (·.f1)) t 0 0).1 (doT (((runT vs t).2.take i).map (·.f1)) t 0 0).2.2.2 (doT (((runT vs t).2.take i).map (·.f1)) t 0 0).2.1 t.f0 t.f1 t.f2) (runT vs t) := by
  have hrep := rep_doT vs (fits_of t hf)
  have hkeys := runT_keys hv (fits_of t hf)
  have hall : ∀ i, (((runT vs t).2.take i).map (·.f1)).all isVal = true := by
    intro i
    rw [List.all_eq_true]
    intro x hx
    obtain ⟨f, hfm, rfl⟩ := List.mem_map.1 hx
    have h1 := hkeys f (List.mem_of_mem_take hfm)
    have h2 := atV_val hv f.f0
    simp only [isVal, decide_eq_true_eq]
    rw [h1.2.2]
    exact h2
  intro d
  induction d with
  | zero =>
    intro i hd hi
    have e : i = (runT vs t).2.length := by omega
    subst e
    rw [List.take_length]
    have h := hrep.1 [] [] 0
    simp only [List.nil_append, List.append_nil, List.length_nil, Int.natCast_zero, Int.ofNat_zero] at h
    have h' : doT ((runT vs t).2.map (·.f1)) t 0 0 = ((runT vs t).1, true, ((0 + (runT vs t).2.length : Nat) : Int), 0) := h
    rw [h']
    refine Ev.step (fun k => by rw [spec_l2Run.l0]) ?_
    simp only [if_true]
    exact Ev.now _
  | succ d ihd =>
    intro i hd hi
    have hlt : i < (runT vs t).2.length := by omega
    have h := hrep.2 [] i (runT vs t).2[i] 0 (List.getElem?_eq_getElem hlt)
    simp only [List.nil_append, List.length_nil, Int.natCast_zero, Int.ofNat_zero] at h
    rw [← List.map_take] at h
    have h' : doT (((runT vs t).2.take i).map (·.f1)) t 0 0 = (0, false, ((0 + i : Nat) : Int), ((runT vs t).2[i]).f0) := h
    rw [h']
    have hk := hkeys _ (List.getElem_mem hlt)
    have e1 : ((runT vs t).2.take i).map (·.f1) ++ [atV vs ((runT vs t).2[i]).f0] = ((runT vs t).2.take (i + 1)).map (·.f1) := by
      rw [List.take_succ_eq_append_getElem hlt, List.map_append, List.map_singleton, hk.2.2]
    have e2 : (runT vs t).2.take i ++ [(⟨((runT vs t).2[i]).f0, atV vs ((runT vs t).2[i]).f0⟩ : Fk)] = (runT vs t).2.take (i + 1) := by
      rw [List.take_succ_eq_append_getElem hlt]
      congr 2
      rw [← hk.2.2]
    refine Ev.step (fun k => by rw [spec_l2Run.l0]) ?_
    simp only [Bool.false_eq_true, if_false, l2OfR_ev vs _ hk.1, Option.bind_some]
    simp only [if_pos (show ((runT vs t).2.take i).length < 8796093022208 by rw [List.length_take]; omega), if_pos (show (((runT vs t).2.take i).map (·.f1)).length < 17592186044416 by rw [List.length_map, List.length_take]; omega), e1, e2]
    simp only [next_f t hf _ (hall (i + 1)) (by rw [List.length_map, List.length_take]; omega), Option.bind_some]
    exact ihd (i + 1) (by omega) (by omega)
theorem l2Run_ev (vs : List Int) (hv : vs.all isVal = true) (t : Tk) (hf : fitT t = true) (hn : nodT t ≤ 1000) : Ev (fun k => spec_l2Run.f k t.f0 t.f1 t.f2 vs) (runT vs t) := by
  unfold spec_l2Run.f
  have hl := runT_len vs (fits_of t hf)
  simp only [Option.bind_some, next_f t hf [] (by rfl) (by simp)]
  have h := run_loop vs hv t hf (by omega) (runT vs t).2.length 0 (by omega) (by omega)
  simp only [List.take_zero, List.map_nil] at h
  exact h
end Go.Proofs.Ytooojligedlpeaa.G
end
section
namespace Go.Proofs.Ytooojligedlpeaa.G
open Go.RowKit Go.Proofs.YtooojligedlpeaaW.PrintWords
set_option linter.unusedVariables false
set_option linter.unusedSimpArgs false
def valT (t : Tk) (vs : List Int) : Int × Bool := if okT t = true ∧ valsOkF vs = true then ((runT vs t).1, true) else (0, false)
theorem implValue_ev (t : Tk) (vs : List Int) : Ev (fun k => impl_TaskValue.f k t.f0 t.f1 t.f2 vs) (valT t vs) := by
  unfold impl_TaskValue.f
  refine Ev.bind (implOk_ev t) ?_
  cases ht : okT t with
  | false =>
    simp only [Bool.false_eq_true, if_false]
    exact Ev.eq (Ev.now _) (by simp [valT, ht])
  | true =>
    simp only [if_true, implValsF_ev, Option.bind_some]
    cases hv : valsOkF vs with
    | false =>
      simp only [Bool.false_eq_true, if_false]
      exact Ev.eq (Ev.now _) (by simp [valT, hv])
    | true =>
      simp only [if_true]
      have hva : vs.all isVal = true := by simp only [valsOkF, Bool.and_eq_true] at hv; exact hv.2
      have hn := okT_nod ht
      have e : (⟨t.f0, t.f1, t.f2⟩ : Tk) = t := by cases t; rfl
      have hf : impl_Task_fetched.f t.f0 t.f1 t.f2 vs = some (runT vs t) := by
        unfold impl_Task_fetched.f
        rw [e, if_pos ⟨okT_fit ht, hva, by omega⟩]
      simp only [hf, Option.bind_some]
      exact Ev.eq (Ev.now _) (by simp [valT, ht, hv])
end Go.Proofs.Ytooojligedlpeaa.G
end
section
namespace Go.Proofs.Ytooojligedlpeaa.G
open Go.RowKit Go.Proofs.YtooojligedlpeaaW.PrintWords Go.Proofs.YtooojligedlpeaaW.PrintLast Go.Proofs.YtooojligedlpeaaW.PrintMore
attribute [local go_sem] max2_int min2_int max_two min_two max_three min_three max_four min_four
set_option linter.unusedVariables false
set_option linter.unusedSimpArgs false
def impl_TracesOk_1.f (a0_0 : Int) (l0_1 : List (S49)) (a0_2 : Int) : Option (Bool) := (impl_Trace_ok.f a0_0 l0_1 a0_2).bind fun t1032 => (some (!t1032))
set_option maxHeartbeats 8000000 in
set_option maxRecDepth 100000 in
theorem impl_TracesOk_1.calls (a0_0 : Int) (A0_1 : Option Addr) (c0_1 : Nat) (l0_1 : List (S49)) (a0_2 : Int) (r : Bool) (w : World) (hr0_1 : Kd.C k49 w A0_1 l0_1.length l0_1) (hc0_1 : l0_1.length ≤ c0_1) (h : impl_TracesOk_1.f a0_0 l0_1 a0_2 = some r) :
    Calls Try.prog 126 #[.agg #[.int .i64 a0_0, .slice A0_1 l0_1.length c0_1, .int .i64 a0_2]] w fun e w' => e = .returned (.bool r) ∧ Below w.heap.size w w' := by
  have hu63 := Try.underlying63
  have HR0_1 := Aside0.mk hr0_1
  have HC0_1 := Aside0.mk hc0_1
  clear hr0_1 hc0_1
  have HB := Aside0.mk (Below.refl w.heap.size w)
  have H : ((impl_Trace_ok.f a0_0 l0_1 a0_2).bind fun t1032 => (some (!t1032))) = some r := h
  clear h
  replace H := Option.bind_eq_some_iff.mp H
  obtain ⟨t1032, A20, H⟩ := H
  replace H : (some (!t1032)) = some r := H
  have A2 := Aside0.mk A20
  clear A20
  obtain rfl := Option.some.inj H
  go_enter Try.func126, Try.ntmps126
  go_wp2_with (first | ((with_reducible refine gate_dst (N := 1) rfl ?_); refine box_event ?hg (N := 1) ?hd (cs := #[.int .i64 a0_0, .slice A0_1 l0_1.length c0_1, .int .i64 a0_2]) (t := 63) ?hr ?_; (case hd => rfl); (case hg => rfl); (case hr => first | (go_simp; done) | (go_simp; rfl)); intro gb1031 hg w3 hbox hb; have n0_ := Aside0.mk (below_step (by repeat (first | (with_reducible first | exact HB.out | apply below_alloc | apply pw_below_drewN | apply below_drew1) | exact HB.out)) hb); have n1_ := Aside0.mk (hbox); have n2_ := Aside0.mk ((by rw [hg]; exact (below_size (by repeat (first | (with_reducible first | exact HB.out | apply below_alloc | apply pw_below_drewN | apply below_drew1) | exact HB.out))) : w.heap.size ≤ gb1031)); have n3_ := Aside0.mk ((by rw [hg]; exact (below_size (by repeat (first | (with_reducible first | exact HB.out | apply below_alloc | apply pw_below_drewN | apply below_drew1) | exact HB.out))) : w.heap.size ≤ gb1031)); clear HB; have HB := n0_; have BK1031 := n1_; have GW1031 := n2_; have GE1031 := n3_; clear n0_ n1_ n2_ n3_; clear hb hbox hg; have hcz4_0 : w3.cell? ⟨gb1031, 0, none⟩ = some (.int .i64 a0_0) := (blk_cell BK1031.out 0).trans rfl; have hcz4_1 : w3.cell? ⟨gb1031, 1, none⟩ = some (.slice A0_1 l0_1.length c0_1) := (blk_cell BK1031.out 1).trans rfl; have hcz4_2 : w3.cell? ⟨gb1031, 2, none⟩ = some (.int .i64 a0_2) := (blk_cell BK1031.out 2).trans rfl; have hfz4_0 := blk_frozen BK1031.out 0; have hfz4_1 := blk_frozen BK1031.out 1; have hfz4_2 := blk_frozen BK1031.out 2) | ((with_reducible refine gate_callee (f := 90) rfl ?_); refine goesL_ (some 4) rfl rfl Try.func90 (by kernel_rfl) rfl #[.agg #[.int .i64 a0_0, .slice A0_1 l0_1.length c0_1, .int .i64 a0_2]] rfl (by (try simp only [List.map_toArray, List.map_cons, List.map_nil]); first | done | rfl | (simp only [List.length_drop, List.length_take]; rfl)) ?_; (with_reducible refine (impl_Trace_ok.calls a0_0 _ _ l0_1 a0_2 t1032 _ ?side1 ?side2 A2.out).mono ?_); (case side1 => repeat (first | exact (Kd.C_below HR0_1.out HB.out) | (with_reducible refine Kd.C_alloc ?_ _) | (with_reducible refine Kd.C_drewN ?_ _) | (with_reducible refine Kd.C_drew ?_))); (case side2 => exact HC0_1.out); rintro e w5 ⟨rfl, hb⟩; refine ⟨_, rfl, ?_⟩; have n0_ := Aside0.mk (blk_below (g := gb1031) (o := .cells #[.int .i64 a0_0, .slice A0_1 l0_1.length c0_1, .int .i64 a0_2] 63 (0, 0)) (by (with_reducible repeat (first | refine blk_drewN ?_ _ | refine blk_drew ?_ | refine blk_alloc ?_ _)); exact BK1031.out) hb); have n1_ := Aside0.mk (below_step (by repeat (first | (with_reducible first | exact HB.out | apply below_alloc | apply pw_below_drewN | apply below_drew1 | refine below_set ?_ GE1031.out) | exact HB.out)) hb); clear BK1031; clear HB; have BK1031 := n0_; have HB := n1_; clear n0_ n1_; (try clear hb); (try clear hb2); (try clear hk); (try clear hi)))
  go_ret
  exact ⟨by first | rfl | (simp [errW_none, errW_some] <;> rfl) | (simp [*, errW_none, errW_some] <;> rfl), by repeat (first | (with_reducible first | exact HB.out | apply below_alloc | apply pw_below_drewN | apply below_drew1 | refine below_set ?_ GE1031.out) | exact HB.out)⟩
end Go.Proofs.Ytooojligedlpeaa.G
end
section
namespace Go.Proofs.Ytooojligedlpeaa.G
open Go.RowKit Go.Proofs.YtooojligedlpeaaW.PrintWords Go.Proofs.YtooojligedlpeaaW.PrintLast Go.Proofs.YtooojligedlpeaaW.PrintMore
set_option linter.unusedVariables false
set_option linter.unusedSimpArgs false
def TellsTrace (c : Nat) (lb : Array Value) (P : S63 → Bool) (w : World) (l : List (S63)) : Prop :=
  ∀ x ∈ l, ∀ (cs : List Value) (W : World), Below w.heap.size w W → k63.K W x cs → Calls Try.prog c (#[.agg cs.toArray] ++ lb) W fun e W' => e = .returned (.bool (P x)) ∧ Below W.heap.size W W'
theorem rd_atTrace (l : List S63) (i : Nat) (h : i < l.length) : rd_T63 l (i : Int) = l[i] := by
  simp only [rd_T63, Int.toNat_natCast, List.getD_eq_getElem?_getD, List.getElem?_eq_getElem h, Option.getD_some]
set_option maxHeartbeats 8000000 in
set_option maxRecDepth 100000 in
theorem indexFuncTrace (c : Nat) (lb : Array Value) (P : S63 → Bool) (A : Option Addr) (cap : Nat) (l : List S63) (w : World) (hr : Kd.C k63 w A l.length l) (hrun : ∀ (args : Array Value) (W : World), (callFunc c args).run Try.prog W = .ok (.enter c args) W) (hT : TellsTrace c lb P w l) :
    Calls Try.prog 127 #[.slice A l.length cap, .func (.func c) #[] lb] w fun e w' => e = .returned (.int .i64 (idxFrom P l 0)) ∧ Below w.heap.size w w' := by
  have hu := Try.underlying63
  have HR := Aside0.mk hr
  have HT := Aside0.mk hT
  have hE := hrun
  clear hr hT hrun
  go_enter Try.func127, Try.ntmps127
  go_wp2
  go_loopg [8] l.length (fun kq v8 w' => ∃ i : Nat, v8 = .int .i64 (i : Int) ∧ Aside0 (i + kq = l.length) ∧ Aside0 (idxFrom P l 0 = idxFrom P (l.drop i) i) ∧ Aside0 (Below w.heap.size w w'))
  case atStart => exact ⟨0, by simp, ⟨by omega⟩, ⟨by simp⟩, ⟨Below.refl _ _⟩⟩
  case round =>
    obtain ⟨i, rfl, HI, HP, HB⟩ := hrel
    cases gk with
    | zero =>
      have hi : i = l.length := by have := HI.out; omega
      subst hi
      have hb : decide ((l.length : Int) < (l.length : Int)) = false := decide_eq_false (by omega)
      have hres : idxFrom P l 0 = -1 := by rw [HP.out, List.drop_length]; rfl
      have HRes := Aside0.mk hres
      clear hres HP
      go_wp2
      go_ret
      exact ⟨by rw [HRes.out]; rfl, HB.out⟩
    | succ gk =>
      have hlt : i < l.length := by have := HI.out; omega
      have hb : decide ((i : Int) < (l.length : Int)) = true := decide_eq_true (by omega)
      obtain ⟨ad, A1, c1, e, hx0, hx1, hx2, hl1, hC1⟩ := at_T63 HR.out (i : Int) (by omega) (by omega)
      cases e
      have hlen := HR.out.2.1
      have hmax : (i : Int) + 1 ≤ 9223372036854775807 := by omega
      have hc0 : wr.cell? (ad.add (i * 3)) = some (.int .i64 (rd_T63 l (i : Int)).f0) := by
        have h1 := (HB.out.cell (World.block_lt_of_cell? w _ hx0)).trans hx0
        simpa only [Int.toNat_natCast] using h1
      have hc1 : wr.cell? (⟨(ad.add (i * 3)).block, (ad.add (i * 3)).off + 1, none⟩) = some (.slice A1 (rd_T63 l (i : Int)).f1.length c1) := by
        have h1 := (HB.out.cell (World.block_lt_of_cell? w _ hx1)).trans hx1
        simpa only [Int.toNat_natCast] using h1
      have hc2 : wr.cell? (⟨(ad.add (i * 3)).block, (ad.add (i * 3)).off + 2, none⟩) = some (.int .i64 (rd_T63 l (i : Int)).f2) := by
        have h1 := (HB.out.cell (World.block_lt_of_cell? w _ hx2)).trans hx2
        simpa only [Int.toNat_natCast] using h1
      have HK := Aside0.mk (k63_mk wr (rd_T63 l (i : Int)) hl1 (Kd.C_below hC1 HB.out))
      clear hx0 hx1 hx2
      have p0 : (0 ≤ (i : Int)) = True := eq_true (by omega)
      have q0 : ((i : Int) < (l.length : Int)) = True := eq_true (by omega)
      have hstep : idxFrom P l 0 = if P (rd_T63 l (i : Int)) = true then (i : Int) else idxFrom P (l.drop (i + 1)) (i + 1) := by
        rw [HP.out, List.drop_eq_getElem_cons hlt, idxFrom, rd_atTrace l i hlt]
      have HS := Aside0.mk hstep
      clear hstep HP
      go_wp2_with fail
      refine (HT.out _ (by rw [rd_atTrace l i hlt]; exact List.getElem_mem hlt) _ wr HB.out HK.out).mono ?_
      rintro e w1 ⟨rfl, hb1⟩
      have HB1 := Aside0.mk (HB.out.trans (hb1.mono HB.out.size))
      clear hb1 HB hc0 hc1 hc2 HK
      by_cases hP : P (rd_T63 l (i : Int)) = true
      · have HR1 := Aside0.mk (HS.out.trans (if_pos hP))
        go_wp2
        go_ret
        exact ⟨by rw [HR1.out]; rfl, HB1.out⟩
      · have HR1 := Aside0.mk (HS.out.trans (if_neg hP))
        have hP' : P (rd_T63 l (i : Int)) = false := by simpa using hP
        clear hP
        go_wp2
        go_roundg gk
        case measure => omega
        case rel => exact ⟨i + 1, by go_num, ⟨by have := HI.out; omega⟩, ⟨HR1.out⟩, HB1⟩
set_option maxHeartbeats 8000000 in
set_option maxRecDepth 100000 in
theorem containsFuncTrace (c : Nat) (lb : Array Value) (P : S63 → Bool) (A : Option Addr) (cap : Nat) (l : List S63) (w : World) (hr : Kd.C k63 w A l.length l) (hrun : ∀ (args : Array Value) (W : World), (callFunc c args).run Try.prog W = .ok (.enter c args) W) (hT : TellsTrace c lb P w l) :
    Calls Try.prog 102 #[.slice A l.length cap, .func (.func c) #[] lb] w fun e w' => e = .returned (.bool (l.any P)) ∧ Below w.heap.size w w' := by
  have HR := Aside0.mk hr
  have HT := Aside0.mk hT
  have HE := Aside0.mk hrun
  clear hr hT hrun
  have hany : decide (0 ≤ idxFrom P l 0) = l.any P := idx_any P l 0
  have HA := Aside0.mk hany
  clear hany
  generalize hx : l.any P = b at HA ⊢
  clear hx
  go_enter Try.func102, Try.ntmps102
  go_wp2_with (go_at_call 127; refine (indexFuncTrace c lb P A cap l _ HR.out HE.out HT.out).mono ?_; rintro e w1 ⟨rfl, hb1⟩)
  go_ret
  exact ⟨by rw [← HA.out]; rfl, hb1⟩
end Go.Proofs.Ytooojligedlpeaa.G
end
section
namespace Go.Proofs.Ytooojligedlpeaa.G
open Go.RowKit Go.Proofs.YtooojligedlpeaaW.PrintWords Go.Proofs.YtooojligedlpeaaW.PrintLast Go.Proofs.YtooojligedlpeaaW.PrintMore
set_option linter.unusedVariables false
set_option linter.unusedSimpArgs false
def impl_TracesOk_1_any.f (l0 : List S63) : Option Bool := if (∀ x ∈ l0, (impl_TracesOk_1.f x.f0 x.f1 x.f2).isSome = true) then some (l0.any fun x => (impl_TracesOk_1.f x.f0 x.f1 x.f2).getD false) else none
theorem impl_TracesOk_1_any.calls (A0 : Option Addr) (c0 : Nat) (l0 : List S63) (r : Bool) (w : World) (hr0 : Kd.C k63 w A0 l0.length l0) (hc0 : l0.length ≤ c0) (h : impl_TracesOk_1_any.f l0 = some r) :
    Calls Try.prog 102 #[.slice A0 l0.length c0, .func (.func 126) #[] #[]] w fun e w' => e = .returned (.bool r) ∧ Below w.heap.size w w' := by
  unfold impl_TracesOk_1_any.f at h
  split at h
  · rename_i hs
    obtain rfl := Option.some.inj h
    refine containsFuncTrace 126 #[] _ A0 c0 l0 w hr0 (enters_fn Try.func126 (by kernel_rfl) rfl) (fun x hx cs W hb hK => ?_)
    obtain ⟨A1, c1, rfl, hl, hC⟩ := k63_open hK
    obtain ⟨b, hb⟩ := Option.isSome_iff_exists.1 (hs x hx)
    rw [hb]
    exact impl_TracesOk_1.calls x.f0 A1 c1 x.f1 x.f2 b W hC hl hb
  · cases h
end Go.Proofs.Ytooojligedlpeaa.G
end
section
namespace Go.Proofs.Ytooojligedlpeaa.G
open Go.RowKit Go.Proofs.YtooojligedlpeaaW.PrintWords
set_option linter.unusedVariables false
set_option linter.unusedSimpArgs false
abbrev Trc := S63
theorem rd_fk (l : List Fk) (i : Nat) (h : i < l.length) : rd_T49 l (i : Int) = l[i] := by
  simp only [rd_T49, Int.toNat_natCast, List.getD_eq_getElem?_getD, List.getElem?_eq_getElem h, Option.getD_some]
def fkOk (f : Fk) : Bool := decide (0 ≤ f.f0 ∧ f.f0 < 10) && decide (0 ≤ f.f1 ∧ f.f1 ≤ 96)
def trOk (t : Trc) : Bool := ((decide (0 ≤ t.f0 ∧ t.f0 < 10) && decide (0 ≤ t.f2 ∧ t.f2 ≤ 96)) && decide ((onceL t.f1).length = t.f1.length)) && t.f1.all fkOk
theorem onceF_nodup (out : List Fk) (f : Fk) (h : (out.map (·.f0)).Nodup) : ((onceF out f).map (·.f0)).Nodup := by
  unfold onceF
  split
  · exact h
  · rename_i hn
    rw [List.map_append, List.map_singleton, List.nodup_append]
    refine ⟨h, by simp, ?_⟩
    intro a ha b hb
    have hb' : b = f.f0 := by simpa using hb
    subst hb'
    rintro rfl
    apply hn
    obtain ⟨g, hg, he⟩ := List.mem_map.1 ha
    exact List.any_eq_true.2 ⟨g, hg, by simp [he]⟩
theorem onceF_mem (out : List Fk) (f g : Fk) (h : g ∈ onceF out f) : g ∈ out ∨ g = f := by
  unfold onceF at h
  split at h
  · exact .inl h
  · simpa using h
theorem fold_once (l : List Fk) : ∀ out : List Fk, (out.map (·.f0)).Nodup → ((l.foldl onceF out).map (·.f0)).Nodup ∧ ∀ g ∈ l.foldl onceF out, g ∈ out ∨ g ∈ l := by
  induction l with
  | nil => intro out h; exact ⟨h, fun g hg => .inl hg⟩
  | cons f l ih =>
    intro out h
    obtain ⟨h1, h2⟩ := ih (onceF out f) (onceF_nodup out f h)
    refine ⟨h1, fun g hg => ?_⟩
    rcases h2 g hg with h3 | h3
    · rcases onceF_mem out f g h3 with h4 | h4
      · exact .inl h4
      · exact .inr (by simp [h4])
    · exact .inr (by simp [h3])
theorem onceL_nodup (l : List Fk) : ((onceL l).map (·.f0)).Nodup := (fold_once l [] (by simp)).1
theorem onceL_mem (l : List Fk) : ∀ g ∈ onceL l, g ∈ l := by
  intro g hg
  rcases (fold_once l [] (by simp)).2 g hg with h | h
  · cases h
  · exact h
theorem onceL_length (l : List Fk) : (onceL l).length ≤ l.length := by
  have := onceL_len l l.length (Nat.le_refl _)
  rwa [List.take_length] at this
theorem implFk_ev (a b : Int) : impl_Trace_ok_1.f a b = some (!fkOk ⟨a, b⟩) := by
  unfold impl_Trace_ok_1.f fkOk
  simp only [isKey_ev, isValue_ev, Option.bind_some]
  by_cases h : 0 ≤ a ∧ a < 10
  · simp [h]
  · simp [h]
theorem implFks_ev (l : List Fk) : impl_Trace_ok_1_any.f l = some (!(l.all fkOk)) := by
  unfold impl_Trace_ok_1_any.f
  rw [if_pos (fun x _ => by rw [implFk_ev]; rfl)]
  congr 1
  rw [List.all_eq_not_any_not, Bool.not_not]
  congr 1
  funext x
  rw [implFk_ev]
  rfl
theorem implTr_ev (t : Trc) (h : t.f1.length < 8796093022208) : impl_Trace_ok.f t.f0 t.f1 t.f2 = some (trOk t) := by
  unfold impl_Trace_ok.f trOk
  simp only [isKey_ev, isValue_ev, Option.bind_some, impl_once.f, if_pos h, implFks_ev, Bool.not_not]
  have e : ((onceL t.f1).length : Int) = (t.f1.length : Int) ↔ (onceL t.f1).length = t.f1.length := by omega
  simp only [e]
  by_cases h1 : 0 ≤ t.f0 ∧ t.f0 < 10
  · by_cases h2 : 0 ≤ t.f2 ∧ t.f2 ≤ 96
    · by_cases h3 : (onceL t.f1).length = t.f1.length
      · simp [h1, h2, h3]
      · simp [h1, h2, h3]
    · simp [h1, h2]
  · simp [h1]
theorem l5Once_inner (l out : List Fk) (i : Nat) (hi : i < l.length) (hol : out.length ≤ 4000000000) (rest : Ev (fun k => spec_l5Once.l0 k l (onceF out l[i]) (wrap64 ((i : Int) + 1))) (onceL l)) :
    ∀ (d j : Nat) (b : Bool), d = out.length - j → j ≤ out.length → (b || (out.drop j).any fun g => g.f0 == l[i].f0) = (out.any fun g => g.f0 == l[i].f0) → Ev (fun k => spec_l5Once.l1 k l out (i : Int) b (j : Int)) (onceL l) := by
  intro d
  induction d with
  | zero =>
    intro j b hd hj hb
    have e : j = out.length := by omega
    subst e
    rw [List.drop_length, List.any_nil, Bool.or_false] at hb
    refine Ev.step (fun k => by rw [spec_l5Once.l1]) ?_
    simp only [if_neg (show ¬ ((out.length : Int) < (out.length : Int)) by omega)]
    unfold onceF at rest
    cases b with
    | true =>
      rw [if_pos hb.symm] at rest
      simp only [if_true]
      exact rest
    | false =>
      rw [if_neg (by rw [← hb]; decide)] at rest
      simp only [Bool.false_eq_true, if_false, if_pos (show (0 : Int) ≤ (i : Int) by omega), if_pos (show (i : Int) < (l.length : Int) by omega), if_pos (show out.length < 8796093022208 by omega), rd_fk l i hi]
      exact rest
  | succ d ihd =>
    intro j b hd hj hb
    have hlt : j < out.length := by omega
    refine Ev.step (fun k => by rw [spec_l5Once.l1]) ?_
    rw [drop_tk out j hlt, List.any_cons] at hb
    simp only [if_pos (show (j : Int) < (out.length : Int) by omega), wrap_nat j (by omega)]
    cases b with
    | true =>
      simp only [if_true]
      exact ihd (j + 1) true (by omega) (by omega) (by rw [← hb]; simp)
    | false =>
      simp only [Bool.false_eq_true, if_false, if_pos (show (0 : Int) ≤ (j : Int) by omega), if_pos (show (0 : Int) ≤ (i : Int) by omega), if_pos (show (i : Int) < (l.length : Int) by omega), rd_fk l i hi, rd_fk out j hlt]
      exact ihd (j + 1) _ (by omega) (by omega) (by rw [← hb, Bool.false_or])
theorem l5Once_loop (l : List Fk) (hl : l.length ≤ 4000000000) : ∀ (d i : Nat), d = l.length - i → i ≤ l.length → Ev (fun k => spec_l5Once.l0 k l ((l.take i).foldl onceF []) (i : Int)) (onceL l) := by
  intro d
  induction d with
  | zero =>
    intro i hd hi
    have e : i = l.length := by omega
    subst e
    refine Ev.step (fun k => by rw [spec_l5Once.l0]) ?_
    simp only [if_neg (show ¬ ((l.length : Int) < (l.length : Int)) by omega), List.take_length]
    exact Ev.now _
  | succ d ihd =>
    intro i hd hi
    have hlt : i < l.length := by omega
    refine Ev.step (fun k => by rw [spec_l5Once.l0]) ?_
    simp only [if_pos (show (i : Int) < (l.length : Int) by omega)]
    have h := ihd (i + 1) (by omega) (by omega)
    rw [onceL_take l i hlt] at h
    have hol := onceL_len l i (by omega)
    refine l5Once_inner l _ i hlt (by omega) (by rw [wrap_nat i (by omega)]; exact h) _ 0 false rfl (by omega) ?_
    rw [List.drop_zero, Bool.false_or]
theorem l5Once_ev (l : List Fk) (hl : l.length ≤ 4000000000) : Ev (fun k => spec_l5Once.f k l) (onceL l) := by
  unfold spec_l5Once.f
  exact l5Once_loop l hl l.length 0 (by omega) (by omega)
end Go.Proofs.Ytooojligedlpeaa.G
end
section
namespace Go.Proofs.Ytooojligedlpeaa.G
open Go.RowKit Go.Proofs.YtooojligedlpeaaW.PrintWords
set_option linter.unusedVariables false
set_option linter.unusedSimpArgs false
def trOfT (key : Int) (t : Tk) (vs : List Int) : Int × List Fk × Int × Bool := if okT t = true ∧ valsOkF vs = true ∧ 0 ≤ key ∧ key < 10 then (key, onceL (runT vs t).2, (runT vs t).1, true) else (0, [], 0, false)
theorem valsOkF_all {vs : List Int} (hv : valsOkF vs = true) : vs.all isVal = true := by simp only [valsOkF, Bool.and_eq_true] at hv; exact hv.2
theorem run_len15 {t : Tk} (ht : okT t = true) (vs : List Int) : (runT vs t).2.length ≤ 15 := Nat.le_trans (runT_len vs (fits_of t (okT_fit ht))) (okT_nod ht)
theorem implTraceOf_ev (key : Int) (t : Tk) (vs : List Int) : Ev (fun k => impl_TraceOf.f k key t.f0 t.f1 t.f2 vs) (trOfT key t vs) := by
  unfold impl_TraceOf.f
  have bad : ¬ (okT t = true ∧ valsOkF vs = true ∧ 0 ≤ key ∧ key < 10) → Ev (fun k => impl_TraceOf.j0 k key vs true t.f0 t.f1 t.f2) (trOfT key t vs) := by
    intro hn
    refine Ev.step (fun k => by rw [impl_TraceOf.j0]) ?_
    simp only [if_true]
    exact Ev.eq (Ev.now _) (by rw [trOfT, if_neg hn])
  refine Ev.bind (implOk_ev t) ?_
  cases ht : okT t with
  | false =>
    simp only [Bool.false_eq_true, if_false]
    exact bad (by simp [ht])
  | true =>
    simp only [if_true, implValsF_ev, Option.bind_some]
    cases hv : valsOkF vs with
    | false =>
      simp only [Bool.false_eq_true, if_false]
      exact bad (by simp [hv])
    | true =>
      simp only [if_true, isKey_ev, Option.bind_some]
      by_cases hk : 0 ≤ key ∧ key < 10
      · simp only [decide_eq_true hk, Bool.not_true]
        refine Ev.step (fun k => by rw [impl_TraceOf.j0]) ?_
        simp only [Bool.false_eq_true, if_false]
        have e : (⟨t.f0, t.f1, t.f2⟩ : Tk) = t := by cases t; rfl
        have hn := okT_nod ht
        have hf : impl_Task_fetched.f t.f0 t.f1 t.f2 vs = some (runT vs t) := by
          unfold impl_Task_fetched.f
          rw [e, if_pos ⟨okT_fit ht, valsOkF_all hv, by omega⟩]
        have hl := run_len15 ht vs
        simp only [hf, Option.bind_some, impl_once.f, if_pos (show (runT vs t).2.length < 8796093022208 by omega)]
        exact Ev.eq (Ev.now _) (by rw [trOfT, if_pos ⟨ht, hv, hk⟩])
      · simp only [decide_eq_false hk, Bool.not_false]
        exact bad (fun h => hk h.2.2)
theorem specTraceOf_ev (key : Int) (t : Tk) (hb : (nodT t : Int) ≤ 4000000000) (vs : List Int) : Ev (fun k => spec_TraceOf.f k key t.f0 t.f1 t.f2 vs) (trOfT key t vs) := by
  unfold spec_TraceOf.f
  refine Ev.bind (specOk_ev t hb) ?_
  cases ht : okT t with
  | false =>
    simp only [Bool.false_eq_true, if_false]
    exact Ev.eq (Ev.now _) (by rw [trOfT, if_neg (by simp [ht])])
  | true =>
    simp only [if_true]
    refine Ev.bind (specValsR_ev vs) ?_
    cases hv : valsOkF vs with
    | false =>
      simp only [Bool.false_eq_true, if_false]
      exact Ev.eq (Ev.now _) (by rw [trOfT, if_neg (by simp [hv])])
    | true =>
      simp only [if_true, l6In_ev, Option.bind_some]
      by_cases hk : 0 ≤ key ∧ key < 10
      · have hk' : 0 ≤ key ∧ key ≤ 9 := by omega
        have hl := run_len15 ht vs
        simp only [decide_eq_true hk', if_true]
        unfold spec_l5Of.f
        have hrun := l2Run_ev vs (valsOkF_all hv) t (okT_fit ht) (by have := okT_nod ht; omega)
        have h5 : Ev (fun k => (spec_l2Run.f k t.f0 t.f1 t.f2 vs).bind fun b => (spec_l5Once.f k b.2).bind fun o => some (key, o, b.1)) (key, onceL (runT vs t).2, (runT vs t).1) :=
          Ev.bind hrun (Ev.bind (l5Once_ev (runT vs t).2 (by omega)) (Ev.now _))
        refine Ev.bind h5 ?_
        exact Ev.eq (Ev.now _) (by rw [trOfT, if_pos ⟨ht, hv, hk⟩])
      · have hk' : ¬ (0 ≤ key ∧ key ≤ 9) := by omega
        simp only [decide_eq_false hk', Bool.false_eq_true, if_false]
        exact Ev.eq (Ev.now _) (by rw [trOfT, if_neg (fun h => hk h.2.2)])
theorem once_fold (l : List Fk) : ∀ out : List Fk, ((out ++ l).map (·.f0)).Nodup → l.foldl onceF out = out ++ l := by
  induction l with
  | nil => intro out _; simp
  | cons f l ih =>
    intro out h
    have hn : ¬ (out.any fun g => g.f0 == f.f0) = true := by
      intro ha
      obtain ⟨g, hg, he⟩ := List.any_eq_true.1 ha
      rw [List.map_append, List.map_cons, List.nodup_append] at h
      exact h.2.2 g.f0 (List.mem_map.2 ⟨g, hg, rfl⟩) f.f0 (by simp) (by simpa using he)
    have e : onceF out f = out ++ [f] := by unfold onceF; rw [if_neg hn]
    rw [List.foldl_cons, e, ih (out ++ [f]) (by simpa using h)]
    simp
theorem once_id {l : List Fk} (h : (l.map (·.f0)).Nodup) : onceL l = l := by
  have := once_fold l [] (by simpa using h)
  simpa [onceL] using this
theorem once_once (l : List Fk) : onceL (onceL l) = onceL l := once_id (onceL_nodup l)
theorem trOf_ok {key : Int} (hk : 0 ≤ key ∧ key < 10) {t : Tk} (ht : okT t = true) {vs : List Int} (hv : valsOkF vs = true) : trOk ⟨key, onceL (runT vs t).2, (runT vs t).1⟩ = true := by
  have hf := fits_of t (okT_fit ht)
  have hval := runT_val (valsOkF_all hv) hf
  simp only [trOk, Bool.and_eq_true, decide_eq_true_eq]
  refine ⟨⟨⟨hk, hval⟩, by rw [once_once]⟩, ?_⟩
  rw [List.all_eq_true]
  intro f hm
  have h1 := runT_keys (valsOkF_all hv) hf f (onceL_mem _ f hm)
  have h2 := atV_val (valsOkF_all hv) f.f0
  simp only [fkOk, Bool.and_eq_true, decide_eq_true_eq]
  refine ⟨⟨h1.1, by omega⟩, ?_⟩
  rw [h1.2.2]
  exact h2
end Go.Proofs.Ytooojligedlpeaa.G
end
section
namespace Go.Proofs.Ytooojligedlpeaa.G
open Go.RowKit Go.Proofs.YtooojligedlpeaaW.PrintWords
set_option linter.unusedVariables false
set_option linter.unusedSimpArgs false
theorem brFetchesO (l : List Fk) (hl : l.length ≤ 4000000000) : Ev (fun k => laws_brFetches.f k l l) true := by
  unfold laws_brFetches.f
  simp only [if_true]
  exact eqLoop l (fun k i => laws_brFetches.l0 k l l i) (fun _ x => some true)
    (fun k => by simp only [laws_brFetches.l0, if_neg (show ¬ ((l.length : Int) < (l.length : Int)) by omega)])
    (fun k i hi => by simp only [laws_brFetches.l0, if_pos (show (i : Int) < (l.length : Int) by omega), if_pos (show (0 : Int) ≤ (i : Int) by omega), rd_fk l i hi, wrap_nat i (by omega), Option.bind_some, if_true, beq_self_eq_true, Bool.not_true, Bool.or_self, Bool.false_eq_true, if_false])
    (fun x hx => Ev.of_eq rfl)
theorem ev_FnTraceOf (l : List Int) (hl : byteL l) : Ev (fun k => laws_FnTraceOf.f k l) true := by
  unfold laws_FnTraceOf.f
  by_cases h20 : (l.length : Int) > 1048576
  · simp only [if_pos h20]; exact Ev.now true
  · simp only [if_neg h20]
    obtain ⟨l', ho, hl', hlen'⟩ := open_ev hl
    obtain ⟨v, hv, v0, v1, v2⟩ := pick_ev hl' (by omega) 0 12 (by omega) (by omega)
    obtain ⟨t, p', ht, a, b, hn⟩ := any_task_ev hl' (by omega) (0 + 1) (by omega) (by omega)
    obtain ⟨vs, p2, hvs, a2, b2, hvl⟩ := values_ev hl' (by omega) p' (by omega) (by omega)
    have hdraw : Ev (fun k => spec_DrawTraceOf.f k l) (wrap64 (v - 1), t.f0, t.f1, t.f2, vs) := by
      unfold spec_DrawTraceOf.f
      refine Ev.bind (Ev.of_eq ho) ?_
      refine Ev.bind hv ?_
      refine Ev.bind ht ?_
      exact Ev.bind hvs (Ev.now _)
    generalize wrap64 (v - 1) = key at hdraw
    refine Ev.bind hdraw ?_
    refine Ev.bind (implTraceOf_ev key t vs) ?_
    refine Ev.bind (specTraceOf_ev key t (by omega) vs) ?_
    have hbr : Ev (fun k => laws_brTrace.f k (trOfT key t vs).1 (trOfT key t vs).2.1 (trOfT key t vs).2.2.1 (trOfT key t vs).1 (trOfT key t vs).2.1 (trOfT key t vs).2.2.1) true := by
      unfold laws_brTrace.f
      simp only [if_true]
      refine Ev.bind (brFetchesO _ ?_) (Ev.now _)
      unfold trOfT
      split
      · rename_i h
        have h1 := onceL_length (runT vs t).2
        have h2 := run_len15 h.1 vs
        simp only
        omega
      · simp
    refine Ev.bind hbr ?_
    simp only [if_true, bne_self_eq_false]
    refine Ev.step (fun k => by rw [laws_FnTraceOf.j0]) ?_
    simp only [Bool.false_eq_true, if_false]
    refine Ev.bind (implValue_ev t vs) ?_
    by_cases hok : okT t = true ∧ valsOkF vs = true ∧ 0 ≤ key ∧ key < 10
    · have e1 : trOfT key t vs = (key, onceL (runT vs t).2, (runT vs t).1, true) := by rw [trOfT, if_pos hok]
      have e2 : valT t vs = ((runT vs t).1, true) := by rw [valT, if_pos ⟨hok.1, hok.2.1⟩]
      rw [e1, e2]
      simp only [if_true]
      have hll : (onceL (runT vs t).2).length < 8796093022208 := by
        have h1 := onceL_length (runT vs t).2
        have h2 := run_len15 hok.1 vs
        omega
      have hh : holdsL (onceL (runT vs t).2) vs = true := by
        unfold holdsL
        rw [Bool.not_eq_true', List.any_eq_false]
        intro f hm
        have h1 := runT_keys (valsOkF_all hok.2.1) (fits_of t (okT_fit hok.1)) f (onceL_mem _ f hm)
        rw [h1.2.2]
        simp
      have hto := implTr_ev ⟨key, onceL (runT vs t).2, (runT vs t).1⟩ hll
      rw [trOf_ok hok.2.2 hok.1 hok.2.1] at hto
      have hth : impl_TraceHolds.f key (onceL (runT vs t).2) (runT vs t).1 vs = some true := by
        unfold impl_TraceHolds.f
        simp only at hto
        rw [hto, Option.bind_some, if_pos rfl, implValsF_ev, Option.bind_some, if_pos hok.2.1]
        simp only [impl_Trace_holds.f, Option.bind_some, hh]
      simp only [hth, Option.bind_some, if_true, beq_self_eq_true]
      exact Ev.now true
    · have e1 : trOfT key t vs = (0, [], 0, false) := by rw [trOfT, if_neg hok]
      rw [e1]
      simp only [Bool.false_eq_true, if_false]
      exact Ev.now true
end Go.Proofs.Ytooojligedlpeaa.G
namespace Go.Proofs.Ytooojligedlpeaa.Pure
open Go.RowKit Go.Proofs.Ytooojligedlpeaa.G Go.Proofs.YtooojligedlpeaaW.PrintWords Go.Proofs.YtooojligedlpeaaW.PrintLast
theorem FnTraceOf : laws_FnTraceOf.Pure := fun l0 _ _ hw => Ev.rounds (ev_FnTraceOf l0 (byteL_of hw))
end Go.Proofs.Ytooojligedlpeaa.Pure
end
