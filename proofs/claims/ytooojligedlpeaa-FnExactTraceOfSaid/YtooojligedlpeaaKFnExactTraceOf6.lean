-- Written by pack.py (ours): the claim's texts, cut down to what its theorem reaches.
import Derived.Test.YtooojligedlpeaaKFnExactTraceOf5
section
namespace Go.Proofs.Ytooojligedlpeaa.G
open Go.RowKit Go.Proofs.YtooojligedlpeaaW.PrintWords Go.Proofs.YtooojligedlpeaaW.PrintLast Go.Proofs.YtooojligedlpeaaW.PrintMore
attribute [local go_sem] max2_int min2_int max_two min_two max_three min_three max_four min_four
set_option linter.unusedVariables false
set_option linter.unusedSimpArgs false
def laws_eqTrace.f (k : Nat) (a0_0 : Int) (l0_1 : List (S49)) (a0_2 : Int) (a1_0 : Int) (l1_1 : List (S49)) (a1_2 : Int) : Option (Bool) := if a0_0 = a1_0 then ((laws_eqFetchS.f k l0_1 l1_1).bind fun t912 => (if t912 = true then (if a0_2 = a1_2 then (some true) else (some false)) else (some false))) else (some false)
set_option maxHeartbeats 8000000 in
set_option maxRecDepth 100000 in
theorem laws_eqTrace.calls (k : Nat) (a0_0 : Int) (A0_1 : Option Addr) (c0_1 : Nat) (l0_1 : List (S49)) (a0_2 : Int) (a1_0 : Int) (A1_1 : Option Addr) (c1_1 : Nat) (l1_1 : List (S49)) (a1_2 : Int) (r : Bool) (w : World) (hr0_1 : Kd.C k49 w A0_1 l0_1.length l0_1) (hc0_1 : l0_1.length ≤ c0_1) (hr1_1 : Kd.C k49 w A1_1 l1_1.length l1_1) (hc1_1 : l1_1.length ≤ c1_1) (h : laws_eqTrace.f k a0_0 l0_1 a0_2 a1_0 l1_1 a1_2 = some r) :
    Calls Try.prog 51 #[.agg #[.int .i64 a0_0, .slice A0_1 l0_1.length c0_1, .int .i64 a0_2], .agg #[.int .i64 a1_0, .slice A1_1 l1_1.length c1_1, .int .i64 a1_2]] w fun e w' => e = .returned (.bool r) ∧ Below w.heap.size w w' := by
  have hu63 := Try.underlying63
  have HR0_1 := Aside0.mk hr0_1
  have HC0_1 := Aside0.mk hc0_1
  clear hr0_1 hc0_1
  have HR1_1 := Aside0.mk hr1_1
  have HC1_1 := Aside0.mk hc1_1
  clear hr1_1 hc1_1
  have HB := Aside0.mk (Below.refl w.heap.size w)
  have H : (if a0_0 = a1_0 then ((laws_eqFetchS.f k l0_1 l1_1).bind fun t912 => (if t912 = true then (if a0_2 = a1_2 then (some true) else (some false)) else (some false))) else (some false)) = some r := h
  clear h
  by_cases c3 : a0_0 = a1_0
  · rw [if_pos c3] at H
    have c3b0 : (a0_0 == a1_0) = true := beq_iff_eq.mpr c3
    have c3b1 : (a0_0 != a1_0) = false := bne_eq_false_iff_eq.mpr c3
    clear c3
    replace H := Option.bind_eq_some_iff.mp H
    obtain ⟨t912, A40, H⟩ := H
    replace H : (if t912 = true then (if a0_2 = a1_2 then (some true) else (some false)) else (some false)) = some r := H
    have A4 := Aside0.mk A40
    clear A40
    by_cases c5 : t912 = true
    · subst c5
      have H1 : (if a0_2 = a1_2 then (some true) else (some false)) = some r := by rw [if_pos rfl] at H; exact H
      clear H
      have H := H1
      clear H1
      by_cases c6 : a0_2 = a1_2
      · rw [if_pos c6] at H
        have c6b0 : (a0_2 == a1_2) = true := beq_iff_eq.mpr c6
        have c6b1 : (a0_2 != a1_2) = false := bne_eq_false_iff_eq.mpr c6
        clear c6
        obtain rfl := Option.some.inj H
        go_enter Try.func51, Try.ntmps51
        go_wp2_with (first | ((with_reducible refine gate_dst (N := 2) rfl ?_); refine box_event ?hg (N := 2) ?hd (cs := #[.int .i64 a0_0, .slice A0_1 l0_1.length c0_1, .int .i64 a0_2]) (t := 63) ?hr ?_; (case hd => rfl); (case hg => rfl); (case hr => first | (go_simp; done) | (go_simp; rfl)); intro gb910 hg w7 hbox hb; have n0_ := Aside0.mk (below_step (by repeat (first | (with_reducible first | exact HB.out | apply below_alloc | apply pw_below_drewN | apply below_drew1) | exact HB.out)) hb); have n1_ := Aside0.mk (hbox); have n2_ := Aside0.mk ((by rw [hg]; exact (below_size (by repeat (first | (with_reducible first | exact HB.out | apply below_alloc | apply pw_below_drewN | apply below_drew1) | exact HB.out))) : w.heap.size ≤ gb910)); have n3_ := Aside0.mk ((by rw [hg]; exact (below_size (by repeat (first | (with_reducible first | exact HB.out | apply below_alloc | apply pw_below_drewN | apply below_drew1) | exact HB.out))) : w.heap.size ≤ gb910)); clear HB; have HB := n0_; have BK910 := n1_; have GW910 := n2_; have GE910 := n3_; clear n0_ n1_ n2_ n3_; clear hb hbox hg) | ((with_reducible refine gate_dst (N := 3) rfl ?_); refine box_event ?hg (N := 3) ?hd (cs := #[.int .i64 a1_0, .slice A1_1 l1_1.length c1_1, .int .i64 a1_2]) (t := 63) ?hr ?_; (case hd => rfl); (case hg => rfl); (case hr => first | (go_simp; done) | (go_simp; rfl)); intro gb911 hg w8 hbox hb; have n0_ := Aside0.mk (blk_below (g := gb910) (o := .cells #[.int .i64 a0_0, .slice A0_1 l0_1.length c0_1, .int .i64 a0_2] 63 (0, 0)) (by (with_reducible repeat (first | refine blk_drewN ?_ _ | refine blk_drew ?_ | refine blk_alloc ?_ _)); exact BK910.out) hb); have n1_ := Aside0.mk (below_step (by repeat (first | (with_reducible first | exact HB.out | apply below_alloc | apply pw_below_drewN | apply below_drew1 | refine below_set ?_ GE910.out) | exact HB.out)) hb); have n2_ := Aside0.mk (hbox); have n3_ := Aside0.mk ((by rw [hg]; exact (below_size (by repeat (first | (with_reducible first | exact HB.out | apply below_alloc | apply pw_below_drewN | apply below_drew1 | refine below_set ?_ GE910.out) | exact HB.out))) : w.heap.size ≤ gb911)); have n4_ := Aside0.mk ((by rw [hg]; exact (below_size (by repeat (first | (with_reducible first | exact HB.out | apply below_alloc | apply pw_below_drewN | apply below_drew1 | refine below_set ?_ GE910.out) | exact HB.out))) : w.heap.size ≤ gb911)); have n5_ := Aside0.mk ((by rw [hg]; exact Nat.ne_of_lt (blk_lt (g := gb910) (o := .cells #[.int .i64 a0_0, .slice A0_1 l0_1.length c0_1, .int .i64 a0_2] 63 (0, 0)) (by (with_reducible repeat (first | refine blk_drewN ?_ _ | refine blk_drew ?_ | refine blk_alloc ?_ _)); exact BK910.out)) : gb910 ≠ gb911)); have n6_ := Aside0.mk ((by rw [hg]; exact Nat.ne_of_gt (blk_lt (g := gb910) (o := .cells #[.int .i64 a0_0, .slice A0_1 l0_1.length c0_1, .int .i64 a0_2] 63 (0, 0)) (by (with_reducible repeat (first | refine blk_drewN ?_ _ | refine blk_drew ?_ | refine blk_alloc ?_ _)); exact BK910.out)) : gb911 ≠ gb910)); clear BK910; clear HB; have BK910 := n0_; have HB := n1_; have BK911 := n2_; have GW911 := n3_; have GE911 := n4_; have NB910_911 := n5_; have NB911_910 := n6_; clear n0_ n1_ n2_ n3_ n4_ n5_ n6_; clear hb hbox hg; have hnb9 := NB910_911.out; have hnc9 := NB911_910.out; have hcz10_0 : w8.cell? ⟨gb910, 0, none⟩ = some (.int .i64 a0_0) := (blk_cell BK910.out 0).trans rfl; have hcz10_1 : w8.cell? ⟨gb910, 1, none⟩ = some (.slice A0_1 l0_1.length c0_1) := (blk_cell BK910.out 1).trans rfl; have hcz10_2 : w8.cell? ⟨gb910, 2, none⟩ = some (.int .i64 a0_2) := (blk_cell BK910.out 2).trans rfl; have hfz10_0 := blk_frozen BK910.out 0; have hfz10_1 := blk_frozen BK910.out 1; have hfz10_2 := blk_frozen BK910.out 2; have hcz11_0 : w8.cell? ⟨gb911, 0, none⟩ = some (.int .i64 a1_0) := (blk_cell BK911.out 0).trans rfl; have hcz11_1 : w8.cell? ⟨gb911, 1, none⟩ = some (.slice A1_1 l1_1.length c1_1) := (blk_cell BK911.out 1).trans rfl; have hcz11_2 : w8.cell? ⟨gb911, 2, none⟩ = some (.int .i64 a1_2) := (blk_cell BK911.out 2).trans rfl; have hfz11_0 := blk_frozen BK911.out 0; have hfz11_1 := blk_frozen BK911.out 1; have hfz11_2 := blk_frozen BK911.out 2) | ((with_reducible refine gate_callee (f := 34) rfl ?_); refine goesL_ (some 14) rfl rfl Try.func34 (by kernel_rfl) rfl #[.slice A0_1 l0_1.length c0_1, .slice A1_1 l1_1.length c1_1] rfl (by (try simp only [List.map_toArray, List.map_cons, List.map_nil]); first | done | rfl | (simp only [List.length_drop, List.length_take]; rfl)) ?_; (with_reducible refine (laws_eqFetchS.calls k _ _ l0_1 _ _ l1_1 true _ ?side1 ?side2 ?side3 ?side4 A4.out).mono ?_); (case side1 => repeat (first | exact (Kd.C_below HR0_1.out HB.out) | (with_reducible refine Kd.C_alloc ?_ _) | (with_reducible refine Kd.C_drewN ?_ _) | (with_reducible refine Kd.C_drew ?_))); (case side2 => exact HC0_1.out); (case side3 => repeat (first | exact (Kd.C_below HR1_1.out HB.out) | (with_reducible refine Kd.C_alloc ?_ _) | (with_reducible refine Kd.C_drewN ?_ _) | (with_reducible refine Kd.C_drew ?_))); (case side4 => exact HC1_1.out); rintro e w12 ⟨rfl, hb⟩; refine ⟨_, rfl, ?_⟩; have n0_ := Aside0.mk (blk_below (g := gb910) (o := .cells #[.int .i64 a0_0, .slice A0_1 l0_1.length c0_1, .int .i64 a0_2] 63 (0, 0)) (by (with_reducible repeat (first | refine blk_drewN ?_ _ | refine blk_drew ?_ | refine blk_alloc ?_ _)); exact BK910.out) hb); have n1_ := Aside0.mk (blk_below (g := gb911) (o := .cells #[.int .i64 a1_0, .slice A1_1 l1_1.length c1_1, .int .i64 a1_2] 63 (0, 0)) (by (with_reducible repeat (first | refine blk_drewN ?_ _ | refine blk_drew ?_ | refine blk_alloc ?_ _)); exact BK911.out) hb); have n2_ := Aside0.mk (below_step (by repeat (first | (with_reducible first | exact HB.out | apply below_alloc | apply pw_below_drewN | apply below_drew1 | refine below_set ?_ GE910.out | refine below_set ?_ GE911.out) | exact HB.out)) hb); clear BK910; clear BK911; clear HB; have BK910 := n0_; have BK911 := n1_; have HB := n2_; clear n0_ n1_ n2_; (try clear hb); (try clear hb2); (try clear hk); (try clear hi); have hcz13_0 : w12.cell? ⟨gb910, 0, none⟩ = some (.int .i64 a0_0) := (blk_cell BK910.out 0).trans rfl; have hcz13_1 : w12.cell? ⟨gb910, 1, none⟩ = some (.slice A0_1 l0_1.length c0_1) := (blk_cell BK910.out 1).trans rfl; have hcz13_2 : w12.cell? ⟨gb910, 2, none⟩ = some (.int .i64 a0_2) := (blk_cell BK910.out 2).trans rfl; have hfz13_0 := blk_frozen BK910.out 0; have hfz13_1 := blk_frozen BK910.out 1; have hfz13_2 := blk_frozen BK910.out 2; have hcz14_0 : w12.cell? ⟨gb911, 0, none⟩ = some (.int .i64 a1_0) := (blk_cell BK911.out 0).trans rfl; have hcz14_1 : w12.cell? ⟨gb911, 1, none⟩ = some (.slice A1_1 l1_1.length c1_1) := (blk_cell BK911.out 1).trans rfl; have hcz14_2 : w12.cell? ⟨gb911, 2, none⟩ = some (.int .i64 a1_2) := (blk_cell BK911.out 2).trans rfl; have hfz14_0 := blk_frozen BK911.out 0; have hfz14_1 := blk_frozen BK911.out 1; have hfz14_2 := blk_frozen BK911.out 2))
        go_ret
        exact ⟨by first | rfl | (simp [errW_none, errW_some] <;> rfl) | (simp [*, errW_none, errW_some] <;> rfl), by repeat (first | (with_reducible first | exact HB.out | apply below_alloc | apply pw_below_drewN | apply below_drew1 | refine below_set ?_ GE910.out | refine below_set ?_ GE911.out) | exact HB.out)⟩
      · rw [if_neg c6] at H
        have c6b0 : (a0_2 == a1_2) = false := beq_eq_false_iff_ne.mpr c6
        have c6b1 : (a0_2 != a1_2) = true := bne_iff_ne.mpr c6
        obtain rfl := Option.some.inj H
        go_enter Try.func51, Try.ntmps51
        go_wp2_with (first | ((with_reducible refine gate_dst (N := 2) rfl ?_); refine box_event ?hg (N := 2) ?hd (cs := #[.int .i64 a0_0, .slice A0_1 l0_1.length c0_1, .int .i64 a0_2]) (t := 63) ?hr ?_; (case hd => rfl); (case hg => rfl); (case hr => first | (go_simp; done) | (go_simp; rfl)); intro gb910 hg w15 hbox hb; have n0_ := Aside0.mk (below_step (by repeat (first | (with_reducible first | exact HB.out | apply below_alloc | apply pw_below_drewN | apply below_drew1) | exact HB.out)) hb); have n1_ := Aside0.mk (hbox); have n2_ := Aside0.mk ((by rw [hg]; exact (below_size (by repeat (first | (with_reducible first | exact HB.out | apply below_alloc | apply pw_below_drewN | apply below_drew1) | exact HB.out))) : w.heap.size ≤ gb910)); have n3_ := Aside0.mk ((by rw [hg]; exact (below_size (by repeat (first | (with_reducible first | exact HB.out | apply below_alloc | apply pw_below_drewN | apply below_drew1) | exact HB.out))) : w.heap.size ≤ gb910)); clear HB; have HB := n0_; have BK910 := n1_; have GW910 := n2_; have GE910 := n3_; clear n0_ n1_ n2_ n3_; clear hb hbox hg) | ((with_reducible refine gate_dst (N := 3) rfl ?_); refine box_event ?hg (N := 3) ?hd (cs := #[.int .i64 a1_0, .slice A1_1 l1_1.length c1_1, .int .i64 a1_2]) (t := 63) ?hr ?_; (case hd => rfl); (case hg => rfl); (case hr => first | (go_simp; done) | (go_simp; rfl)); intro gb911 hg w16 hbox hb; have n0_ := Aside0.mk (blk_below (g := gb910) (o := .cells #[.int .i64 a0_0, .slice A0_1 l0_1.length c0_1, .int .i64 a0_2] 63 (0, 0)) (by (with_reducible repeat (first | refine blk_drewN ?_ _ | refine blk_drew ?_ | refine blk_alloc ?_ _)); exact BK910.out) hb); have n1_ := Aside0.mk (below_step (by repeat (first | (with_reducible first | exact HB.out | apply below_alloc | apply pw_below_drewN | apply below_drew1 | refine below_set ?_ GE910.out) | exact HB.out)) hb); have n2_ := Aside0.mk (hbox); have n3_ := Aside0.mk ((by rw [hg]; exact (below_size (by repeat (first | (with_reducible first | exact HB.out | apply below_alloc | apply pw_below_drewN | apply below_drew1 | refine below_set ?_ GE910.out) | exact HB.out))) : w.heap.size ≤ gb911)); have n4_ := Aside0.mk ((by rw [hg]; exact (below_size (by repeat (first | (with_reducible first | exact HB.out | apply below_alloc | apply pw_below_drewN | apply below_drew1 | refine below_set ?_ GE910.out) | exact HB.out))) : w.heap.size ≤ gb911)); have n5_ := Aside0.mk ((by rw [hg]; exact Nat.ne_of_lt (blk_lt (g := gb910) (o := .cells #[.int .i64 a0_0, .slice A0_1 l0_1.length c0_1, .int .i64 a0_2] 63 (0, 0)) (by (with_reducible repeat (first | refine blk_drewN ?_ _ | refine blk_drew ?_ | refine blk_alloc ?_ _)); exact BK910.out)) : gb910 ≠ gb911)); have n6_ := Aside0.mk ((by rw [hg]; exact Nat.ne_of_gt (blk_lt (g := gb910) (o := .cells #[.int .i64 a0_0, .slice A0_1 l0_1.length c0_1, .int .i64 a0_2] 63 (0, 0)) (by (with_reducible repeat (first | refine blk_drewN ?_ _ | refine blk_drew ?_ | refine blk_alloc ?_ _)); exact BK910.out)) : gb911 ≠ gb910)); clear BK910; clear HB; have BK910 := n0_; have HB := n1_; have BK911 := n2_; have GW911 := n3_; have GE911 := n4_; have NB910_911 := n5_; have NB911_910 := n6_; clear n0_ n1_ n2_ n3_ n4_ n5_ n6_; clear hb hbox hg; have hnb17 := NB910_911.out; have hnc17 := NB911_910.out; have hcz18_0 : w16.cell? ⟨gb910, 0, none⟩ = some (.int .i64 a0_0) := (blk_cell BK910.out 0).trans rfl; have hcz18_1 : w16.cell? ⟨gb910, 1, none⟩ = some (.slice A0_1 l0_1.length c0_1) := (blk_cell BK910.out 1).trans rfl; have hcz18_2 : w16.cell? ⟨gb910, 2, none⟩ = some (.int .i64 a0_2) := (blk_cell BK910.out 2).trans rfl; have hfz18_0 := blk_frozen BK910.out 0; have hfz18_1 := blk_frozen BK910.out 1; have hfz18_2 := blk_frozen BK910.out 2; have hcz19_0 : w16.cell? ⟨gb911, 0, none⟩ = some (.int .i64 a1_0) := (blk_cell BK911.out 0).trans rfl; have hcz19_1 : w16.cell? ⟨gb911, 1, none⟩ = some (.slice A1_1 l1_1.length c1_1) := (blk_cell BK911.out 1).trans rfl; have hcz19_2 : w16.cell? ⟨gb911, 2, none⟩ = some (.int .i64 a1_2) := (blk_cell BK911.out 2).trans rfl; have hfz19_0 := blk_frozen BK911.out 0; have hfz19_1 := blk_frozen BK911.out 1; have hfz19_2 := blk_frozen BK911.out 2) | ((with_reducible refine gate_callee (f := 34) rfl ?_); refine goesL_ (some 14) rfl rfl Try.func34 (by kernel_rfl) rfl #[.slice A0_1 l0_1.length c0_1, .slice A1_1 l1_1.length c1_1] rfl (by (try simp only [List.map_toArray, List.map_cons, List.map_nil]); first | done | rfl | (simp only [List.length_drop, List.length_take]; rfl)) ?_; (with_reducible refine (laws_eqFetchS.calls k _ _ l0_1 _ _ l1_1 true _ ?side1 ?side2 ?side3 ?side4 A4.out).mono ?_); (case side1 => repeat (first | exact (Kd.C_below HR0_1.out HB.out) | (with_reducible refine Kd.C_alloc ?_ _) | (with_reducible refine Kd.C_drewN ?_ _) | (with_reducible refine Kd.C_drew ?_))); (case side2 => exact HC0_1.out); (case side3 => repeat (first | exact (Kd.C_below HR1_1.out HB.out) | (with_reducible refine Kd.C_alloc ?_ _) | (with_reducible refine Kd.C_drewN ?_ _) | (with_reducible refine Kd.C_drew ?_))); (case side4 => exact HC1_1.out); rintro e w20 ⟨rfl, hb⟩; refine ⟨_, rfl, ?_⟩; have n0_ := Aside0.mk (blk_below (g := gb910) (o := .cells #[.int .i64 a0_0, .slice A0_1 l0_1.length c0_1, .int .i64 a0_2] 63 (0, 0)) (by (with_reducible repeat (first | refine blk_drewN ?_ _ | refine blk_drew ?_ | refine blk_alloc ?_ _)); exact BK910.out) hb); have n1_ := Aside0.mk (blk_below (g := gb911) (o := .cells #[.int .i64 a1_0, .slice A1_1 l1_1.length c1_1, .int .i64 a1_2] 63 (0, 0)) (by (with_reducible repeat (first | refine blk_drewN ?_ _ | refine blk_drew ?_ | refine blk_alloc ?_ _)); exact BK911.out) hb); have n2_ := Aside0.mk (below_step (by repeat (first | (with_reducible first | exact HB.out | apply below_alloc | apply pw_below_drewN | apply below_drew1 | refine below_set ?_ GE910.out | refine below_set ?_ GE911.out) | exact HB.out)) hb); clear BK910; clear BK911; clear HB; have BK910 := n0_; have BK911 := n1_; have HB := n2_; clear n0_ n1_ n2_; (try clear hb); (try clear hb2); (try clear hk); (try clear hi); have hcz21_0 : w20.cell? ⟨gb910, 0, none⟩ = some (.int .i64 a0_0) := (blk_cell BK910.out 0).trans rfl; have hcz21_1 : w20.cell? ⟨gb910, 1, none⟩ = some (.slice A0_1 l0_1.length c0_1) := (blk_cell BK910.out 1).trans rfl; have hcz21_2 : w20.cell? ⟨gb910, 2, none⟩ = some (.int .i64 a0_2) := (blk_cell BK910.out 2).trans rfl; have hfz21_0 := blk_frozen BK910.out 0; have hfz21_1 := blk_frozen BK910.out 1; have hfz21_2 := blk_frozen BK910.out 2; have hcz22_0 : w20.cell? ⟨gb911, 0, none⟩ = some (.int .i64 a1_0) := (blk_cell BK911.out 0).trans rfl; have hcz22_1 : w20.cell? ⟨gb911, 1, none⟩ = some (.slice A1_1 l1_1.length c1_1) := (blk_cell BK911.out 1).trans rfl; have hcz22_2 : w20.cell? ⟨gb911, 2, none⟩ = some (.int .i64 a1_2) := (blk_cell BK911.out 2).trans rfl; have hfz22_0 := blk_frozen BK911.out 0; have hfz22_1 := blk_frozen BK911.out 1; have hfz22_2 := blk_frozen BK911.out 2))
        go_ret
        exact ⟨by first | rfl | (simp [errW_none, errW_some] <;> rfl) | (simp [*, errW_none, errW_some] <;> rfl), by repeat (first | (with_reducible first | exact HB.out | apply below_alloc | apply pw_below_drewN | apply below_drew1 | refine below_set ?_ GE910.out | refine below_set ?_ GE911.out) | exact HB.out)⟩
    · replace c5 := Bool.eq_false_iff.mpr c5
      subst c5
      have H1 : (some false) = some r := by rw [if_neg (show ¬ (false = true) by decide)] at H; exact H
      clear H
      have H := H1
      clear H1
      obtain rfl := Option.some.inj H
      go_enter Try.func51, Try.ntmps51
      go_wp2_with (first | ((with_reducible refine gate_dst (N := 2) rfl ?_); refine box_event ?hg (N := 2) ?hd (cs := #[.int .i64 a0_0, .slice A0_1 l0_1.length c0_1, .int .i64 a0_2]) (t := 63) ?hr ?_; (case hd => rfl); (case hg => rfl); (case hr => first | (go_simp; done) | (go_simp; rfl)); intro gb910 hg w23 hbox hb; have n0_ := Aside0.mk (below_step (by repeat (first | (with_reducible first | exact HB.out | apply below_alloc | apply pw_below_drewN | apply below_drew1) | exact HB.out)) hb); have n1_ := Aside0.mk (hbox); have n2_ := Aside0.mk ((by rw [hg]; exact (below_size (by repeat (first | (with_reducible first | exact HB.out | apply below_alloc | apply pw_below_drewN | apply below_drew1) | exact HB.out))) : w.heap.size ≤ gb910)); have n3_ := Aside0.mk ((by rw [hg]; exact (below_size (by repeat (first | (with_reducible first | exact HB.out | apply below_alloc | apply pw_below_drewN | apply below_drew1) | exact HB.out))) : w.heap.size ≤ gb910)); clear HB; have HB := n0_; have BK910 := n1_; have GW910 := n2_; have GE910 := n3_; clear n0_ n1_ n2_ n3_; clear hb hbox hg) | ((with_reducible refine gate_dst (N := 3) rfl ?_); refine box_event ?hg (N := 3) ?hd (cs := #[.int .i64 a1_0, .slice A1_1 l1_1.length c1_1, .int .i64 a1_2]) (t := 63) ?hr ?_; (case hd => rfl); (case hg => rfl); (case hr => first | (go_simp; done) | (go_simp; rfl)); intro gb911 hg w24 hbox hb; have n0_ := Aside0.mk (blk_below (g := gb910) (o := .cells #[.int .i64 a0_0, .slice A0_1 l0_1.length c0_1, .int .i64 a0_2] 63 (0, 0)) (by (with_reducible repeat (first | refine blk_drewN ?_ _ | refine blk_drew ?_ | refine blk_alloc ?_ _)); exact BK910.out) hb); have n1_ := Aside0.mk (below_step (by repeat (first | (with_reducible first | exact HB.out | apply below_alloc | apply pw_below_drewN | apply below_drew1 | refine below_set ?_ GE910.out) | exact HB.out)) hb); have n2_ := Aside0.mk (hbox); have n3_ := Aside0.mk ((by rw [hg]; exact (below_size (by repeat (first | (with_reducible first | exact HB.out | apply below_alloc | apply pw_below_drewN | apply below_drew1 | refine below_set ?_ GE910.out) | exact HB.out))) : w.heap.size ≤ gb911)); have n4_ := Aside0.mk ((by rw [hg]; exact (below_size (by repeat (first | (with_reducible first | exact HB.out | apply below_alloc | apply pw_below_drewN | apply below_drew1 | refine below_set ?_ GE910.out) | exact HB.out))) : w.heap.size ≤ gb911)); have n5_ := Aside0.mk ((by rw [hg]; exact Nat.ne_of_lt (blk_lt (g := gb910) (o := .cells #[.int .i64 a0_0, .slice A0_1 l0_1.length c0_1, .int .i64 a0_2] 63 (0, 0)) (by (with_reducible repeat (first | refine blk_drewN ?_ _ | refine blk_drew ?_ | refine blk_alloc ?_ _)); exact BK910.out)) : gb910 ≠ gb911)); have n6_ := Aside0.mk ((by rw [hg]; exact Nat.ne_of_gt (blk_lt (g := gb910) (o := .cells #[.int .i64 a0_0, .slice A0_1 l0_1.length c0_1, .int .i64 a0_2] 63 (0, 0)) (by (with_reducible repeat (first | refine blk_drewN ?_ _ | refine blk_drew ?_ | refine blk_alloc ?_ _)); exact BK910.out)) : gb911 ≠ gb910)); clear BK910; clear HB; have BK910 := n0_; have HB := n1_; have BK911 := n2_; have GW911 := n3_; have GE911 := n4_; have NB910_911 := n5_; have NB911_910 := n6_; clear n0_ n1_ n2_ n3_ n4_ n5_ n6_; clear hb hbox hg; have hnb25 := NB910_911.out; have hnc25 := NB911_910.out; have hcz26_0 : w24.cell? ⟨gb910, 0, none⟩ = some (.int .i64 a0_0) := (blk_cell BK910.out 0).trans rfl; have hcz26_1 : w24.cell? ⟨gb910, 1, none⟩ = some (.slice A0_1 l0_1.length c0_1) := (blk_cell BK910.out 1).trans rfl; have hcz26_2 : w24.cell? ⟨gb910, 2, none⟩ = some (.int .i64 a0_2) := (blk_cell BK910.out 2).trans rfl; have hfz26_0 := blk_frozen BK910.out 0; have hfz26_1 := blk_frozen BK910.out 1; have hfz26_2 := blk_frozen BK910.out 2; have hcz27_0 : w24.cell? ⟨gb911, 0, none⟩ = some (.int .i64 a1_0) := (blk_cell BK911.out 0).trans rfl; have hcz27_1 : w24.cell? ⟨gb911, 1, none⟩ = some (.slice A1_1 l1_1.length c1_1) := (blk_cell BK911.out 1).trans rfl; have hcz27_2 : w24.cell? ⟨gb911, 2, none⟩ = some (.int .i64 a1_2) := (blk_cell BK911.out 2).trans rfl; have hfz27_0 := blk_frozen BK911.out 0; have hfz27_1 := blk_frozen BK911.out 1; have hfz27_2 := blk_frozen BK911.out 2) | ((with_reducible refine gate_callee (f := 34) rfl ?_); refine goesL_ (some 14) rfl rfl Try.func34 (by kernel_rfl) rfl #[.slice A0_1 l0_1.length c0_1, .slice A1_1 l1_1.length c1_1] rfl (by (try simp only [List.map_toArray, List.map_cons, List.map_nil]); first | done | rfl | (simp only [List.length_drop, List.length_take]; rfl)) ?_; (with_reducible refine (laws_eqFetchS.calls k _ _ l0_1 _ _ l1_1 false _ ?side1 ?side2 ?side3 ?side4 A4.out).mono ?_); (case side1 => repeat (first | exact (Kd.C_below HR0_1.out HB.out) | (with_reducible refine Kd.C_alloc ?_ _) | (with_reducible refine Kd.C_drewN ?_ _) | (with_reducible refine Kd.C_drew ?_))); (case side2 => exact HC0_1.out); (case side3 => repeat (first | exact (Kd.C_below HR1_1.out HB.out) | (with_reducible refine Kd.C_alloc ?_ _) | (with_reducible refine Kd.C_drewN ?_ _) | (with_reducible refine Kd.C_drew ?_))); (case side4 => exact HC1_1.out); rintro e w28 ⟨rfl, hb⟩; refine ⟨_, rfl, ?_⟩; have n0_ := Aside0.mk (blk_below (g := gb910) (o := .cells #[.int .i64 a0_0, .slice A0_1 l0_1.length c0_1, .int .i64 a0_2] 63 (0, 0)) (by (with_reducible repeat (first | refine blk_drewN ?_ _ | refine blk_drew ?_ | refine blk_alloc ?_ _)); exact BK910.out) hb); have n1_ := Aside0.mk (blk_below (g := gb911) (o := .cells #[.int .i64 a1_0, .slice A1_1 l1_1.length c1_1, .int .i64 a1_2] 63 (0, 0)) (by (with_reducible repeat (first | refine blk_drewN ?_ _ | refine blk_drew ?_ | refine blk_alloc ?_ _)); exact BK911.out) hb); have n2_ := Aside0.mk (below_step (by repeat (first | (with_reducible first | exact HB.out | apply below_alloc | apply pw_below_drewN | apply below_drew1 | refine below_set ?_ GE910.out | refine below_set ?_ GE911.out) | exact HB.out)) hb); clear BK910; clear BK911; clear HB; have BK910 := n0_; have BK911 := n1_; have HB := n2_; clear n0_ n1_ n2_; (try clear hb); (try clear hb2); (try clear hk); (try clear hi)))
      go_ret
      exact ⟨by first | rfl | (simp [errW_none, errW_some] <;> rfl) | (simp [*, errW_none, errW_some] <;> rfl), by repeat (first | (with_reducible first | exact HB.out | apply below_alloc | apply pw_below_drewN | apply below_drew1 | refine below_set ?_ GE910.out | refine below_set ?_ GE911.out) | exact HB.out)⟩
  · rw [if_neg c3] at H
    have c3b0 : (a0_0 == a1_0) = false := beq_eq_false_iff_ne.mpr c3
    have c3b1 : (a0_0 != a1_0) = true := bne_iff_ne.mpr c3
    obtain rfl := Option.some.inj H
    go_enter Try.func51, Try.ntmps51
    go_wp2_with (first | ((with_reducible refine gate_dst (N := 2) rfl ?_); refine box_event ?hg (N := 2) ?hd (cs := #[.int .i64 a0_0, .slice A0_1 l0_1.length c0_1, .int .i64 a0_2]) (t := 63) ?hr ?_; (case hd => rfl); (case hg => rfl); (case hr => first | (go_simp; done) | (go_simp; rfl)); intro gb910 hg w29 hbox hb; have n0_ := Aside0.mk (below_step (by repeat (first | (with_reducible first | exact HB.out | apply below_alloc | apply pw_below_drewN | apply below_drew1) | exact HB.out)) hb); have n1_ := Aside0.mk (hbox); have n2_ := Aside0.mk ((by rw [hg]; exact (below_size (by repeat (first | (with_reducible first | exact HB.out | apply below_alloc | apply pw_below_drewN | apply below_drew1) | exact HB.out))) : w.heap.size ≤ gb910)); have n3_ := Aside0.mk ((by rw [hg]; exact (below_size (by repeat (first | (with_reducible first | exact HB.out | apply below_alloc | apply pw_below_drewN | apply below_drew1) | exact HB.out))) : w.heap.size ≤ gb910)); clear HB; have HB := n0_; have BK910 := n1_; have GW910 := n2_; have GE910 := n3_; clear n0_ n1_ n2_ n3_; clear hb hbox hg) | ((with_reducible refine gate_dst (N := 3) rfl ?_); refine box_event ?hg (N := 3) ?hd (cs := #[.int .i64 a1_0, .slice A1_1 l1_1.length c1_1, .int .i64 a1_2]) (t := 63) ?hr ?_; (case hd => rfl); (case hg => rfl); (case hr => first | (go_simp; done) | (go_simp; rfl)); intro gb911 hg w30 hbox hb; have n0_ := Aside0.mk (blk_below (g := gb910) (o := .cells #[.int .i64 a0_0, .slice A0_1 l0_1.length c0_1, .int .i64 a0_2] 63 (0, 0)) (by (with_reducible repeat (first | refine blk_drewN ?_ _ | refine blk_drew ?_ | refine blk_alloc ?_ _)); exact BK910.out) hb); have n1_ := Aside0.mk (below_step (by repeat (first | (with_reducible first | exact HB.out | apply below_alloc | apply pw_below_drewN | apply below_drew1 | refine below_set ?_ GE910.out) | exact HB.out)) hb); have n2_ := Aside0.mk (hbox); have n3_ := Aside0.mk ((by rw [hg]; exact (below_size (by repeat (first | (with_reducible first | exact HB.out | apply below_alloc | apply pw_below_drewN | apply below_drew1 | refine below_set ?_ GE910.out) | exact HB.out))) : w.heap.size ≤ gb911)); have n4_ := Aside0.mk ((by rw [hg]; exact (below_size (by repeat (first | (with_reducible first | exact HB.out | apply below_alloc | apply pw_below_drewN | apply below_drew1 | refine below_set ?_ GE910.out) | exact HB.out))) : w.heap.size ≤ gb911)); have n5_ := Aside0.mk ((by rw [hg]; exact Nat.ne_of_lt (blk_lt (g := gb910) (o := .cells #[.int .i64 a0_0, .slice A0_1 l0_1.length c0_1, .int .i64 a0_2] 63 (0, 0)) (by (with_reducible repeat (first | refine blk_drewN ?_ _ | refine blk_drew ?_ | refine blk_alloc ?_ _)); exact BK910.out)) : gb910 ≠ gb911)); have n6_ := Aside0.mk ((by rw [hg]; exact Nat.ne_of_gt (blk_lt (g := gb910) (o := .cells #[.int .i64 a0_0, .slice A0_1 l0_1.length c0_1, .int .i64 a0_2] 63 (0, 0)) (by (with_reducible repeat (first | refine blk_drewN ?_ _ | refine blk_drew ?_ | refine blk_alloc ?_ _)); exact BK910.out)) : gb911 ≠ gb910)); clear BK910; clear HB; have BK910 := n0_; have HB := n1_; have BK911 := n2_; have GW911 := n3_; have GE911 := n4_; have NB910_911 := n5_; have NB911_910 := n6_; clear n0_ n1_ n2_ n3_ n4_ n5_ n6_; clear hb hbox hg; have hnb31 := NB910_911.out; have hnc31 := NB911_910.out; have hcz32_0 : w30.cell? ⟨gb910, 0, none⟩ = some (.int .i64 a0_0) := (blk_cell BK910.out 0).trans rfl; have hcz32_1 : w30.cell? ⟨gb910, 1, none⟩ = some (.slice A0_1 l0_1.length c0_1) := (blk_cell BK910.out 1).trans rfl; have hcz32_2 : w30.cell? ⟨gb910, 2, none⟩ = some (.int .i64 a0_2) := (blk_cell BK910.out 2).trans rfl; have hfz32_0 := blk_frozen BK910.out 0; have hfz32_1 := blk_frozen BK910.out 1; have hfz32_2 := blk_frozen BK910.out 2; have hcz33_0 : w30.cell? ⟨gb911, 0, none⟩ = some (.int .i64 a1_0) := (blk_cell BK911.out 0).trans rfl; have hcz33_1 : w30.cell? ⟨gb911, 1, none⟩ = some (.slice A1_1 l1_1.length c1_1) := (blk_cell BK911.out 1).trans rfl; have hcz33_2 : w30.cell? ⟨gb911, 2, none⟩ = some (.int .i64 a1_2) := (blk_cell BK911.out 2).trans rfl; have hfz33_0 := blk_frozen BK911.out 0; have hfz33_1 := blk_frozen BK911.out 1; have hfz33_2 := blk_frozen BK911.out 2))
    go_ret
    exact ⟨by first | rfl | (simp [errW_none, errW_some] <;> rfl) | (simp [*, errW_none, errW_some] <;> rfl), by repeat (first | (with_reducible first | exact HB.out | apply below_alloc | apply pw_below_drewN | apply below_drew1 | refine below_set ?_ GE910.out | refine below_set ?_ GE911.out) | exact HB.out)⟩
def laws_markTrace.f (k : Nat) (a0_0 : Int) (l0_1 : List (S49)) (a0_2 : Int) (a1 : Int) : Option (Int × (List (S49))) := (laws_markFetchS.f k l0_1 a1).bind fun bt914 => (some (bt914.1, bt914.2))
set_option maxHeartbeats 8000000 in
set_option maxRecDepth 100000 in
theorem laws_markTrace.calls (k : Nat) (a0_0 : Int) (P0_1_ : Nat → Prop) (u9000_ : Value) (l0_1 : List (S49)) (a0_2 : Int) (a1 : Int) (r1 : Int) (r2 : List (S49)) (w0 w : World) (hB : Below w0.heap.size w0 w) (ho0_1 : Kd.R k49 49 w w0.heap.size P0_1_ u9000_ l0_1) (h : laws_markTrace.f k a0_0 l0_1 a0_2 a1 = some (r1, r2)) :
    Calls Try.prog 52 #[.agg #[.int .i64 a0_0, u9000_, .int .i64 a0_2], .int .i64 a1] w fun e w' => e = .returned (.int .i64 r1) ∧ Kd.R k49 49 w' w0.heap.size (fun k_ => (P0_1_ k_ ∨ w.heap.size ≤ k_)) u9000_ r2 ∧ Below w0.heap.size w0 w' ∧ Kept w w' (fun k_ => P0_1_ k_) := by
  have hu63 := Try.underlying63
  have HO0_1 := Aside0.mk (show Kd.R k49 49 w w0.heap.size (fun k_ => (P0_1_ k_ ∨ w.heap.size ≤ k_)) u9000_ l0_1 from Kd.R_mono ho0_1 (fun k_ hk => (.inl hk)))
  have HK := Aside0.mk (Kept.refl w (fun k_ => P0_1_ k_))
  have HW0 := Aside0.mk hB.size
  have HB := Aside0.mk hB
  clear hB
  have H : ((laws_markFetchS.f k l0_1 a1).bind fun bt914 => (some (bt914.1, bt914.2))) = some (r1, r2) := h
  clear h
  replace H := Option.bind_eq_some_iff.mp H
  obtain ⟨⟨t914, t915⟩, A30, H⟩ := H
  replace H : (some (t914, t915)) = some (r1, r2) := H
  have A3 := Aside0.mk A30
  clear A30
  simp only [Option.some.injEq, Prod.mk.injEq] at H
  obtain ⟨rfl, rfl⟩ := H
  obtain ⟨Ao4, co4, eo4⟩ := Kd.R_slice HO0_1.out
  subst eo4
  go_enter Try.func52, Try.ntmps52
  go_wp2_with (first | ((with_reducible refine gate_dst (N := 2) rfl ?_); refine box_event ?hg (N := 2) ?hd (cs := #[.int .i64 a0_0, .slice Ao4 l0_1.length co4, .int .i64 a0_2]) (t := 63) ?hr ?_; (case hd => rfl); (case hg => rfl); (case hr => first | (go_simp; done) | (go_simp; rfl)); intro gb913 hg w5 hbox hb; have n0_ := Aside0.mk (Kd.R_below (by (with_reducible repeat (first | apply Kd.R_alloc | apply Kd.R_drewN | apply Kd.R_drew)); exact HO0_1.out) hb); have n1_ := Aside0.mk (Kept.below (S := (fun k_ => P0_1_ k_)) (by repeat (first | (with_reducible first | exact HK.out | apply Kept.alloc | apply Kept.drewN | apply Kept.drew) | exact HK.out)) hb); have n2_ := Aside0.mk (below_step (by repeat (first | (with_reducible first | exact HB.out | apply below_alloc | apply pw_below_drewN | apply below_drew1) | exact HB.out)) hb); have n3_ := Aside0.mk (hbox); have n4_ := Aside0.mk ((by rw [hg]; exact (by first | exact HK.out.1 | exact (show Kept w _ (fun k_ => P0_1_ k_) from by repeat (first | (with_reducible first | exact HK.out | apply Kept.alloc | apply Kept.drewN | apply Kept.drew) | exact HK.out)).1) : w.heap.size ≤ gb913)); have n5_ := Aside0.mk ((by rw [hg]; exact (below_size (by repeat (first | (with_reducible first | exact HB.out | apply below_alloc | apply pw_below_drewN | apply below_drew1) | exact HB.out))) : w0.heap.size ≤ gb913)); clear HO0_1; clear HK; clear HB; have HO0_1 := n0_; have HK := n1_; have HB := n2_; have BK913 := n3_; have GW913 := n4_; have GE913 := n5_; clear n0_ n1_ n2_ n3_ n4_ n5_; clear hb hbox hg; have hcz6_0 : w5.cell? ⟨gb913, 0, none⟩ = some (.int .i64 a0_0) := (blk_cell BK913.out 0).trans rfl; have hcz6_1 : w5.cell? ⟨gb913, 1, none⟩ = some (.slice Ao4 l0_1.length co4) := (blk_cell BK913.out 1).trans rfl; have hcz6_2 : w5.cell? ⟨gb913, 2, none⟩ = some (.int .i64 a0_2) := (blk_cell BK913.out 2).trans rfl; have hfz6_0 := blk_frozen BK913.out 0; have hfz6_1 := blk_frozen BK913.out 1; have hfz6_2 := blk_frozen BK913.out 2) | ((with_reducible refine gate_callee (f := 37) rfl ?_); refine goesL_ (some 8) rfl rfl Try.func37 (by kernel_rfl) rfl #[.slice Ao4 l0_1.length co4, .int .i64 a1] rfl (by (try simp only [List.map_toArray, List.map_cons, List.map_nil]); first | done | rfl | (simp only [List.length_drop, List.length_take]; rfl)) ?_; (with_reducible refine (laws_markFetchS.calls k (fun k_ => some k_ = (.slice Ao4 l0_1.length co4 : Value).ownBlock) (.slice Ao4 l0_1.length co4) l0_1 a1 t914 t915 w0 _ ?side1 ?side2 A3.out).mono ?_); (case side1 => repeat (first | (with_reducible first | exact HB.out | apply below_alloc | apply pw_below_drewN | apply below_drew1 | refine below_set ?_ GE913.out) | exact HB.out)); (case side2 => exact Kd.R_tight rfl HO0_1.out); rintro e w7 ⟨rfl, hy0, hb, hkp⟩; refine ⟨_, rfl, ?_⟩; have n0_ := Aside0.mk (Kd.R_reok rfl hy0 (fun k_ e_ => HO0_1.out.1 k_ e_)); have n1_ := Aside0.mk (blk_kept (by (with_reducible repeat (first | refine blk_drewN ?_ _ | refine blk_drew ?_ | refine blk_alloc ?_ _)); exact BK913.out) hkp (fun hs_ => (fun e_ => (Kd.R_ne HO0_1.out BK913.out (by decide)) e_) hs_)); have n2_ := Aside0.mk (Kept.then_ (S := (fun k_ => P0_1_ k_)) (by repeat (first | (with_reducible first | exact HK.out | apply Kept.alloc | apply Kept.drewN | apply Kept.drew | refine Kept.setCell ?_ (.inr GW913.out) _) | exact HK.out)) hkp (fun k_ hs_ => (fun e_ => (HO0_1.out.1 k_ e_.symm)) hs_)); have n3_ := Aside0.mk (hb); clear HO0_1; clear BK913; clear HK; clear HB; have HO0_1 := n0_; have BK913 := n1_; have HK := n2_; have HB := n3_; clear n0_ n1_ n2_ n3_; (try clear hb); (try clear hkp); (try clear hy0)))
  go_ret
  exact ⟨by first | rfl | (simp [errW_none, errW_some] <;> rfl) | (simp [*, errW_none, errW_some] <;> rfl), by (with_reducible repeat (first | apply Kd.R_alloc | apply Kd.R_drewN | apply Kd.R_drew)); exact HO0_1.out, by repeat (first | (with_reducible first | exact HB.out | apply below_alloc | apply pw_below_drewN | apply below_drew1 | refine below_set ?_ GE913.out) | exact HB.out), by repeat (first | (with_reducible first | exact HK.out | apply Kept.alloc | apply Kept.drewN | apply Kept.drew | refine Kept.setCell ?_ (.inr GW913.out) _) | exact HK.out)⟩
def laws_heldTrace.f (k : Nat) (a0_0 : Int) (l0_1 : List (S49)) (a0_2 : Int) (a1 : Int) : Option (Int) := (laws_heldFetchS.f k l0_1 a1).bind fun t917 => (if t917 < 0 then (some (-1)) else (some t917))
set_option maxHeartbeats 8000000 in
set_option maxRecDepth 100000 in
theorem laws_heldTrace.calls (k : Nat) (a0_0 : Int) (A0_1 : Option Addr) (c0_1 : Nat) (l0_1 : List (S49)) (a0_2 : Int) (a1 : Int) (r : Int) (w : World) (hr0_1 : Kd.C k49 w A0_1 l0_1.length l0_1) (hc0_1 : l0_1.length ≤ c0_1) (h : laws_heldTrace.f k a0_0 l0_1 a0_2 a1 = some r) :
    Calls Try.prog 53 #[.agg #[.int .i64 a0_0, .slice A0_1 l0_1.length c0_1, .int .i64 a0_2], .int .i64 a1] w fun e w' => e = .returned (.int .i64 r) ∧ Below w.heap.size w w' := by
  have hu63 := Try.underlying63
  have HR0_1 := Aside0.mk hr0_1
  have HC0_1 := Aside0.mk hc0_1
  clear hr0_1 hc0_1
  have HB := Aside0.mk (Below.refl w.heap.size w)
  have H : ((laws_heldFetchS.f k l0_1 a1).bind fun t917 => (if t917 < 0 then (some (-1)) else (some t917))) = some r := h
  clear h
  replace H := Option.bind_eq_some_iff.mp H
  obtain ⟨t917, A30, H⟩ := H
  replace H : (if t917 < 0 then (some (-1)) else (some t917)) = some r := H
  have A3 := Aside0.mk A30
  clear A30
  by_cases c4 : t917 < 0
  · rw [if_pos c4] at H
    have c4b0 : decide (t917 < 0) = true := decide_eq_true c4
    clear c4
    obtain rfl := Option.some.inj H
    go_enter Try.func53, Try.ntmps53
    go_wp2_with (first | ((with_reducible refine gate_dst (N := 2) rfl ?_); refine box_event ?hg (N := 2) ?hd (cs := #[.int .i64 a0_0, .slice A0_1 l0_1.length c0_1, .int .i64 a0_2]) (t := 63) ?hr ?_; (case hd => rfl); (case hg => rfl); (case hr => first | (go_simp; done) | (go_simp; rfl)); intro gb916 hg w5 hbox hb; have n0_ := Aside0.mk (below_step (by repeat (first | (with_reducible first | exact HB.out | apply below_alloc | apply pw_below_drewN | apply below_drew1) | exact HB.out)) hb); have n1_ := Aside0.mk (hbox); have n2_ := Aside0.mk ((by rw [hg]; exact (below_size (by repeat (first | (with_reducible first | exact HB.out | apply below_alloc | apply pw_below_drewN | apply below_drew1) | exact HB.out))) : w.heap.size ≤ gb916)); have n3_ := Aside0.mk ((by rw [hg]; exact (below_size (by repeat (first | (with_reducible first | exact HB.out | apply below_alloc | apply pw_below_drewN | apply below_drew1) | exact HB.out))) : w.heap.size ≤ gb916)); clear HB; have HB := n0_; have BK916 := n1_; have GW916 := n2_; have GE916 := n3_; clear n0_ n1_ n2_ n3_; clear hb hbox hg; have hcz6_0 : w5.cell? ⟨gb916, 0, none⟩ = some (.int .i64 a0_0) := (blk_cell BK916.out 0).trans rfl; have hcz6_1 : w5.cell? ⟨gb916, 1, none⟩ = some (.slice A0_1 l0_1.length c0_1) := (blk_cell BK916.out 1).trans rfl; have hcz6_2 : w5.cell? ⟨gb916, 2, none⟩ = some (.int .i64 a0_2) := (blk_cell BK916.out 2).trans rfl; have hfz6_0 := blk_frozen BK916.out 0; have hfz6_1 := blk_frozen BK916.out 1; have hfz6_2 := blk_frozen BK916.out 2) | ((with_reducible refine gate_callee (f := 38) rfl ?_); refine goesL_ (some 8) rfl rfl Try.func38 (by kernel_rfl) rfl #[.slice A0_1 l0_1.length c0_1, .int .i64 a1] rfl (by (try simp only [List.map_toArray, List.map_cons, List.map_nil]); first | done | rfl | (simp only [List.length_drop, List.length_take]; rfl)) ?_; (with_reducible refine (laws_heldFetchS.calls k _ _ l0_1 a1 t917 _ ?side1 ?side2 A3.out).mono ?_); (case side1 => repeat (first | exact (Kd.C_below HR0_1.out HB.out) | (with_reducible refine Kd.C_alloc ?_ _) | (with_reducible refine Kd.C_drewN ?_ _) | (with_reducible refine Kd.C_drew ?_))); (case side2 => exact HC0_1.out); rintro e w' ⟨rfl, ⟨nd, rfl⟩⟩; refine ⟨_, rfl, ?_⟩))
    go_ret
    exact ⟨by first | rfl | (simp [errW_none, errW_some] <;> rfl) | (simp [*, errW_none, errW_some] <;> rfl), by repeat (first | (with_reducible first | exact HB.out | apply below_alloc | apply pw_below_drewN | apply below_drew1 | refine below_set ?_ GE916.out) | exact HB.out)⟩
  · rw [if_neg c4] at H
    have c4b0 : decide (t917 < 0) = false := decide_eq_false c4
    clear c4
    obtain rfl := Option.some.inj H
    go_enter Try.func53, Try.ntmps53
    go_wp2_with (first | ((with_reducible refine gate_dst (N := 2) rfl ?_); refine box_event ?hg (N := 2) ?hd (cs := #[.int .i64 a0_0, .slice A0_1 l0_1.length c0_1, .int .i64 a0_2]) (t := 63) ?hr ?_; (case hd => rfl); (case hg => rfl); (case hr => first | (go_simp; done) | (go_simp; rfl)); intro gb916 hg w7 hbox hb; have n0_ := Aside0.mk (below_step (by repeat (first | (with_reducible first | exact HB.out | apply below_alloc | apply pw_below_drewN | apply below_drew1) | exact HB.out)) hb); have n1_ := Aside0.mk (hbox); have n2_ := Aside0.mk ((by rw [hg]; exact (below_size (by repeat (first | (with_reducible first | exact HB.out | apply below_alloc | apply pw_below_drewN | apply below_drew1) | exact HB.out))) : w.heap.size ≤ gb916)); have n3_ := Aside0.mk ((by rw [hg]; exact (below_size (by repeat (first | (with_reducible first | exact HB.out | apply below_alloc | apply pw_below_drewN | apply below_drew1) | exact HB.out))) : w.heap.size ≤ gb916)); clear HB; have HB := n0_; have BK916 := n1_; have GW916 := n2_; have GE916 := n3_; clear n0_ n1_ n2_ n3_; clear hb hbox hg; have hcz8_0 : w7.cell? ⟨gb916, 0, none⟩ = some (.int .i64 a0_0) := (blk_cell BK916.out 0).trans rfl; have hcz8_1 : w7.cell? ⟨gb916, 1, none⟩ = some (.slice A0_1 l0_1.length c0_1) := (blk_cell BK916.out 1).trans rfl; have hcz8_2 : w7.cell? ⟨gb916, 2, none⟩ = some (.int .i64 a0_2) := (blk_cell BK916.out 2).trans rfl; have hfz8_0 := blk_frozen BK916.out 0; have hfz8_1 := blk_frozen BK916.out 1; have hfz8_2 := blk_frozen BK916.out 2) | ((with_reducible refine gate_callee (f := 38) rfl ?_); refine goesL_ (some 8) rfl rfl Try.func38 (by kernel_rfl) rfl #[.slice A0_1 l0_1.length c0_1, .int .i64 a1] rfl (by (try simp only [List.map_toArray, List.map_cons, List.map_nil]); first | done | rfl | (simp only [List.length_drop, List.length_take]; rfl)) ?_; (with_reducible refine (laws_heldFetchS.calls k _ _ l0_1 a1 t917 _ ?side1 ?side2 A3.out).mono ?_); (case side1 => repeat (first | exact (Kd.C_below HR0_1.out HB.out) | (with_reducible refine Kd.C_alloc ?_ _) | (with_reducible refine Kd.C_drewN ?_ _) | (with_reducible refine Kd.C_drew ?_))); (case side2 => exact HC0_1.out); rintro e w' ⟨rfl, ⟨nd, rfl⟩⟩; refine ⟨_, rfl, ?_⟩))
    go_ret
    exact ⟨by first | rfl | (simp [errW_none, errW_some] <;> rfl) | (simp [*, errW_none, errW_some] <;> rfl), by repeat (first | (with_reducible first | exact HB.out | apply below_alloc | apply pw_below_drewN | apply below_drew1 | refine below_set ?_ GE916.out) | exact HB.out)⟩
end Go.Proofs.Ytooojligedlpeaa.G
end
section
namespace Go.Proofs.Ytooojligedlpeaa.G
open Go.RowKit Go.Proofs.YtooojligedlpeaaW.PrintWords
set_option linter.unusedVariables false
set_option linter.unusedSimpArgs false
structure Ist {α : Type} (d : Kd α) : Prop where
  set : ∀ {w : World} {base : Nat} {ok : Nat → Prop} {x : α} {cs : List Value} {j : Nat} {z0 : Int} (z : Int), cs[j]? = some (.int .i64 z0) → d.M w base ok x cs → d.M w base ok x (cs.set j (.int .i64 z))
  mv : ∀ {w : World} {base : Nat} {ok : Nat → Prop} {x : α} {cs : List Value} {g o : Nat} {z0 : Int} (z : Int), w.cell? ⟨g, o, none⟩ = some (.int .i64 z0) → d.M w base ok x cs → d.M (w.setCell ⟨g, o, none⟩ (.int .i64 z)) base ok x cs
theorem chunk_set {inner : List Value} {o a n : Nat} (u : Value) (h1 : a ≤ o) (h2 : o < a + n) : ((inner.set o u).drop a).take n = ((inner.drop a).take n).set (o - a) u := by
  apply List.ext_getElem?
  intro q
  rw [List.getElem?_take, List.getElem?_drop, List.getElem?_set, List.getElem?_set, List.getElem?_take, List.getElem?_drop, List.length_take, List.length_drop]
  by_cases hq : q < n
  · rw [if_pos hq, if_pos hq]
    by_cases e : o = a + q
    · rw [if_pos e, if_pos (show o - a = q by omega)]
      by_cases hl : o < inner.length
      · rw [if_pos (by omega), if_pos (by omega)]
      · rw [if_neg (by omega), if_neg (by omega)]
    · rw [if_neg e, if_neg (by omega)]
  · rw [if_neg hq, if_neg hq]
    rw [if_neg (by omega)]
theorem chunk_far {inner : List Value} {o a n : Nat} (u : Value) (h : ¬ (a ≤ o ∧ o < a + n)) : ((inner.set o u).drop a).take n = (inner.drop a).take n := by
  apply List.ext_getElem?
  intro q
  rw [List.getElem?_take, List.getElem?_drop, List.getElem?_set, List.getElem?_take, List.getElem?_drop]
  by_cases hq : q < n
  · rw [if_pos hq, if_pos hq, if_neg (by omega)]
  · rw [if_neg hq, if_neg hq]
theorem ist_R {α : Type} {d : Kd α} (hd : Ist d) {e : Nat} {w : World} {base : Nat} {ok : Nat → Prop} {v : Value} {xs : List α} {g o : Nat} {z0 : Int} (z : Int) (hc : w.cell? ⟨g, o, none⟩ = some (.int .i64 z0)) (h : d.R e w base ok v xs) : d.R e (w.setCell ⟨g, o, none⟩ (.int .i64 z)) base ok v xs := by
  obtain ⟨h0, inner, ho, hr⟩ := h
  by_cases hg : v.ownBlock = some g
  · obtain ⟨A, c, rfl⟩ : ∃ A c, v = .slice A xs.length c := own_slice ho
    obtain ⟨gb, ho2⟩ : ∃ ad : Addr, A = some ad := by
      cases A with
      | none => simp [Value.ownBlock] at hg
      | some ad => exact ⟨ad, rfl⟩
    subst ho2
    have hgb : gb = ⟨g, 0, none⟩ := by
      rcases ho.2 with ⟨h1, _⟩ | ⟨g', cap, cur, h1, _⟩
      · cases h1
      · injection h1 with h1 _ _
        injection h1 with h1
        have h2 : gb.block = g := by simpa [Value.ownBlock] using hg
        rw [h1] at h2
        rw [h1, ← h2]
    subst hgb
    refine ⟨h0, inner.set o (.int .i64 z), (ho.stored o _).1, by rw [List.length_set]; exact hr.1, fun j p hj => ?_⟩
    have hM := hr.2 j p hj
    by_cases hin : j * d.sz ≤ o ∧ o < j * d.sz + d.sz
    · rw [chunk_set _ hin.1 hin.2]
      refine hd.mv z hc (hd.set (z0 := z0) z ?_ hM)
      have hlen := d.K_len (d.K_of_M hM)
      rw [List.length_take, List.length_drop] at hlen
      have hol : o < inner.length := by omega
      have h3 := ho.cells (g := g) (by simp [Value.ownBlock]) o _ (List.getElem?_eq_getElem hol)
      rw [add_plain, hc] at h3
      injection h3 with h3
      rw [List.getElem?_take, if_pos (by omega), List.getElem?_drop, show j * d.sz + (o - j * d.sz) = o by omega, List.getElem?_eq_getElem hol, h3]
    · rw [chunk_far _ hin]
      exact hd.mv z hc hM
  · exact ⟨h0, inner, own_setCell ho (fun e => hg e.symm) _, hr.imp_ (fun p c hp => hd.mv z hc hp)⟩
def anyInt : Kd Unit where
  sz := 1
  E := []
  K := fun _ _ cs => ∃ z : Int, cs = [.int .i64 z]
  M := fun _ _ _ _ cs => ∃ z : Int, cs = [.int .i64 z]
  K_len := by rintro w x cs ⟨z, rfl⟩; rfl
  K_one := by
    rintro w x cs ⟨z, rfl⟩ u hu
    rw [List.mem_singleton.1 hu]
    rfl
  K_below := fun _ h => h
  K_of_M := fun h => h
  M_mono := fun _ h => h
  M_bound := fun h => h
  M_move := fun _ h => h
  M_lower := fun _ h => h
theorem ist_anyInt : Ist anyInt := by
  refine ⟨?_, ?_⟩
  · rintro w base ok x cs j z0 z hj ⟨z1, rfl⟩
    cases j with
    | zero => exact ⟨z, rfl⟩
    | succ j => simp at hj
  · rintro w base ok x cs g o z0 z _ h
    exact h
theorem ist_slice {α : Type} {d : Kd α} (e : Nat) (hd : Ist d) : Ist (Kd.slice e d) := by
  refine ⟨?_, ?_⟩
  · rintro w base ok x cs j z0 z hj ⟨v, rfl, h⟩
    obtain ⟨A, c, rfl⟩ := Kd.R_slice h
    cases j with
    | zero => simp at hj
    | succ j => simp at hj
  · rintro w base ok x cs g o z0 z hc ⟨v, rfl, h⟩
    exact ⟨v, rfl, ist_R hd z hc h⟩
theorem ist_pair {α β : Type} {a : Kd α} {b : Kd β} (ha : Ist a) (hb : Ist b) : Ist (Kd.pair a b) := by
  refine ⟨?_, ?_⟩
  · rintro w base ok x cs j z0 z hj ⟨c0, c1, rfl, h0, h1⟩
    by_cases hl : j < c0.length
    · rw [List.getElem?_append_left hl] at hj
      exact ⟨c0.set j (.int .i64 z), c1, by rw [List.set_append_left _ _ hl], ha.set z hj h0, h1⟩
    · rw [List.getElem?_append_right (by omega)] at hj
      exact ⟨c0, c1.set (j - c0.length) (.int .i64 z), by rw [List.set_append_right _ _ (by omega)], h0, hb.set z hj h1⟩
  · rintro w base ok x cs g o z0 z hc ⟨c0, c1, rfl, h0, h1⟩
    exact ⟨c0, c1, rfl, ha.mv z hc h0, hb.mv z hc h1⟩
theorem ist_iso {α β : Type} {d : Kd α} (f : β → α) (hd : Ist d) : Ist (Kd.iso d f) := ⟨fun z hj h => hd.set z hj h, fun z hc h => hd.mv z hc h⟩
theorem ist_bot {α : Type} (sz : Nat) (E : List Nat) : Ist (Kd.bot (α := α) sz E) := ⟨fun _ _ h => h.elim, fun _ _ h => h.elim⟩
theorem ist_upto {α : Type} {F : Kd α → Kd α} {sz : Nat} {E : List Nat} (hF : ∀ d, Ist d → Ist (F d)) : ∀ n, Ist (Kd.upto F sz E n)
  | 0 => ist_bot sz E
  | n + 1 => hF _ (ist_upto hF n)
theorem ist_fix {α : Type} {F : Kd α → Kd α} {sz : Nat} {E : List Nat} {hs : ∀ n, (Kd.upto F sz E n).sz = sz} {hE : ∀ n q, q ∈ (Kd.upto F sz E n).E → q ∈ E} (hF : ∀ d, Ist d → Ist (F d)) : Ist (Kd.fix F sz E hs hE) := by
  refine ⟨?_, ?_⟩
  · rintro w base ok x cs j z0 z hj ⟨n, h⟩
    exact ⟨n, (ist_upto hF n).set z hj h⟩
  · rintro w base ok x cs g o z0 z hc ⟨n, h⟩
    exact ⟨n, (ist_upto hF n).mv z hc h⟩
theorem R_map {α β : Type} {d : Kd α} {d' : Kd β} (f : α → β) (hs : d.sz = d'.sz) (hM : ∀ w base ok x cs, d.M w base ok x cs → d'.M w base ok (f x) cs) {e : Nat} {w : World} {base : Nat} {ok : Nat → Prop} {v : Value} {xs : List α} (h : d.R e w base ok v xs) : d'.R e w base ok v (xs.map f) := by
  obtain ⟨h0, inner, ho, hr⟩ := h
  refine ⟨h0, inner, by rw [List.length_map, ← hs]; exact ho, by rw [List.length_map, ← hs]; exact hr.1, fun j p hj => ?_⟩
  rw [List.getElem?_map] at hj
  obtain ⟨x, hx, rfl⟩ := Option.map_eq_some_iff.1 hj
  rw [← hs]
  exact hM _ _ _ _ _ (hr.2 j x hx)
structure Marked (w w' : World) (base : Nat) (ok : Nat → Prop) : Prop where
  below : Below base w w'
  kept : Kept w w' ok
  size : w'.heap.size = w.heap.size
  rows : ∀ {α : Type} {d : Kd α}, Ist d → ∀ {e b : Nat} {o : Nat → Prop} {v : Value} {xs : List α}, d.R e w b o v xs → d.R e w' b o v xs
theorem Marked.refl (w : World) (base : Nat) (ok : Nat → Prop) : Marked w w base ok := ⟨Below.refl _ _, Kept.refl _ _, rfl, fun _ _ _ _ _ _ h => h⟩
theorem Marked.trans {w w1 w2 : World} {base : Nat} {ok : Nat → Prop} (h : Marked w w1 base ok) (k : Marked w1 w2 base ok) : Marked w w2 base ok :=
  ⟨h.below.trans k.below, h.kept.then_ k.kept (fun _ hk => .inl hk), k.size.trans h.size, fun hd _ _ _ _ _ hr => k.rows hd (h.rows hd hr)⟩
theorem Marked.mono {w w1 : World} {base base' : Nat} {ok ok' : Nat → Prop} (h : Marked w w1 base ok) (hb : base' ≤ base) (hk : ∀ k, ok k → ok' k) : Marked w w1 base' ok' := ⟨h.below.mono hb, h.kept.mono hk, h.size, h.rows⟩
theorem Marked.drew {w w1 : World} {base : Nat} {ok : Nat → Prop} (h : Marked w w1 base ok) (n : Nat) : Marked w (w1.drewN n) base ok := ⟨pw_below_drewN h.below n, h.kept.drewN n, h.size, fun hd _ _ _ _ _ hr => Kd.R_drewN (h.rows hd hr) n⟩
theorem Marked.store {w w1 : World} {base : Nat} {ok : Nat → Prop} (h : Marked w w1 base ok) {g o : Nat} {z0 : Int} (z : Int) (hc : w1.cell? ⟨g, o, none⟩ = some (.int .i64 z0)) (hg : ok g) (hb : base ≤ g) : Marked w (w1.setCell ⟨g, o, none⟩ (.int .i64 z)) base ok :=
  ⟨h.below.setCell hb _, h.kept.setCell (.inl hg) _, by simpa [World.setCell] using h.size, fun hd _ _ _ _ _ hr => ist_R hd z hc (h.rows hd hr)⟩
end Go.Proofs.Ytooojligedlpeaa.G
end
section
namespace Go.Proofs.Ytooojligedlpeaa.G
open Go.RowKit Go.Proofs.YtooojligedlpeaaW.PrintWords
set_option linter.unusedVariables false
set_option linter.unusedSimpArgs false
def OwnI {α : Type} (d : Kd α) (e : Nat) (W0 W : World) (lo hi : Nat) (v : Value) (xs : List α) : Prop := W0.heap.size ≤ lo ∧ hi ≤ W.heap.size ∧ Kd.R d e W W0.heap.size (fun k => lo ≤ k ∧ k < hi) v xs
def OwnS {α : Type} (d : Kd α) (e : Nat) (W0 W : World) (lo hi : Nat) (v : Value) (xs : List α) : Prop := W0.heap.size ≤ lo ∧ hi ≤ W.heap.size ∧ Kd.S d e W W0.heap.size (fun k => lo ≤ k ∧ k < hi) v xs
section
variable {α : Type} {d : Kd α} {e : Nat} {W0 W W' : World} {lo hi lo' hi' : Nat} {ok : Nat → Prop} {v : Value} {xs : List α}
theorem OwnI.new (hB : W0.heap.size ≤ W.heap.size) (hl : W.heap.size ≤ W'.heap.size) (ho : Kd.R d e W' W.heap.size ok v xs) : OwnI d e W0 W' W.heap.size W'.heap.size v xs :=
  ⟨hB, Nat.le_refl _, Kd.R_lower (Kd.R_mono (Kd.R_bound ho) (fun k hk => ⟨hk.2.1, hk.2.2.1⟩)) hB⟩
theorem OwnS.new (hB : W0.heap.size ≤ W.heap.size) (hl : W.heap.size ≤ W'.heap.size) (ho : Kd.S d e W' W.heap.size ok v xs) : OwnS d e W0 W' W.heap.size W'.heap.size v xs :=
  ⟨hB, Nat.le_refl _, Kd.S_lower (Kd.S_mono (Kd.S_bound ho) (fun k hk => ⟨hk.2.1, hk.2.2.1⟩)) hB⟩
theorem OwnI.below (h : OwnI d e W0 W lo hi v xs) (hb : Below W.heap.size W W') : OwnI d e W0 W' lo hi v xs := ⟨h.1, Nat.le_trans h.2.1 hb.size, Kd.R_below h.2.2 hb⟩
theorem OwnS.below (h : OwnS d e W0 W lo hi v xs) (hb : Below W.heap.size W W') : OwnS d e W0 W' lo hi v xs := ⟨h.1, Nat.le_trans h.2.1 hb.size, Kd.S_below h.2.2 hb⟩
theorem OwnI.kept (h : OwnI d e W0 W lo hi v xs) (hk : Kept W W' (fun k => lo' ≤ k ∧ k < hi')) (hd : hi ≤ lo' ∨ hi' ≤ lo) : OwnI d e W0 W' lo hi v xs :=
  ⟨h.1, Nat.le_trans h.2.1 hk.1, Kd.R_kept h.2.2 hk (fun k h1 h2 => by omega)⟩
theorem OwnS.kept (h : OwnS d e W0 W lo hi v xs) (hk : Kept W W' (fun k => lo' ≤ k ∧ k < hi')) (hd : hi ≤ lo' ∨ hi' ≤ lo) : OwnS d e W0 W' lo hi v xs :=
  ⟨h.1, Nat.le_trans h.2.1 hk.1, Kd.S_kept h.2.2 hk (fun k h1 h2 => by omega)⟩
theorem OwnI.reads (h : OwnI d e W0 W lo hi v xs) : ∃ A c, v = .slice A xs.length c ∧ xs.length ≤ c ∧ d.C W A xs.length xs := Kd.R_reads h.2.2
theorem OwnS.reads (h : OwnS d e W0 W lo hi v xs) : ∃ A c, v = .slice A xs.length c ∧ xs.length ≤ c ∧ d.C W A xs.length xs := Kd.S_reads h.2.2
theorem OwnI.slice (h : OwnI d e W0 W lo hi v xs) : ∃ A c, v = .slice A xs.length c := Kd.R_slice h.2.2
theorem OwnS.slice (h : OwnS d e W0 W lo hi v xs) : ∃ A c, v = .slice A xs.length c := Kd.S_slice h.2.2
theorem OwnI.C {A : Option Addr} {n c : Nat} (h : OwnI d e W0 W lo hi (.slice A n c) xs) : d.C W A xs.length xs := (Kd.R_reads' h.2.2).2.2
theorem OwnS.C {A : Option Addr} {n c : Nat} (h : OwnS d e W0 W lo hi (.slice A n c) xs) : d.C W A xs.length xs := (Kd.S_reads' h.2.2).2.2
theorem OwnI.room {A : Option Addr} {n c : Nat} (h : OwnI d e W0 W lo hi (.slice A n c) xs) : xs.length ≤ c := by have h1 := Kd.R_reads' h.2.2; omega
theorem OwnS.room {A : Option Addr} {n c : Nat} (h : OwnS d e W0 W lo hi (.slice A n c) xs) : xs.length ≤ c := by have h1 := Kd.S_reads' h.2.2; omega
theorem OwnI.len {A : Option Addr} {n c : Nat} (h : OwnI d e W0 W lo hi (.slice A n c) xs) : xs.length = n := (Kd.R_reads' h.2.2).1.symm
theorem OwnS.len {A : Option Addr} {n c : Nat} (h : OwnS d e W0 W lo hi (.slice A n c) xs) : xs.length = n := (Kd.S_reads' h.2.2).1.symm
theorem blkI {g : Nat} {o : Obj} (hb : W.heap[g]? = some o) (hk : Kept W W' (fun k => lo' ≤ k ∧ k < hi')) (hd : g < lo' ∨ hi' ≤ g) : W'.heap[g]? = some o := blk_kept hb hk (by omega)
end
theorem own_back {α : Type} {d : Kd α} (hE : d.E = []) {e : Nat} {W0 W W' : World} {lo hi : Nat} {v : Value} {xs ys : List α} {ok : Nat → Prop} (h : OwnI d e W0 W lo hi v xs) (hk : Kept W W' (fun k => lo ≤ k ∧ k < hi)) (h' : Kd.R d e W' W0.heap.size ok v ys) : OwnI d e W0 W' lo hi v ys :=
  ⟨h.1, Nat.le_trans h.2.1 hk.1, Kd.R_mono (Kd.R_tight hE h') (fun k e => h.2.2.1 k e.symm)⟩
end Go.Proofs.Ytooojligedlpeaa.G
end
section
namespace Go.Proofs.Ytooojligedlpeaa.G
open Go.RowKit Go.Proofs.YtooojligedlpeaaW.PrintWords Go.Proofs.YtooojligedlpeaaW.PrintLast Go.Proofs.YtooojligedlpeaaW.PrintMore
set_option linter.unusedVariables false
set_option linter.unusedSimpArgs false
theorem lwInt (k : Nat) {W0 W : World} {lo hi : Nat} {v : Value} {xs ys : List Int} {a r : Int} (hB : Below W0.heap.size W0 W) (h : OwnI (Kd.int .i64) 3 W0 W lo hi v xs) (hf : laws_markIntS.f k xs a = some (r, ys)) :
    Calls Try.prog 36 #[v, .int .i64 a] W fun e W' => e = .returned (.int .i64 r) ∧ OwnI (Kd.int .i64) 3 W0 W' lo hi v ys ∧ Below W0.heap.size W0 W' ∧ Kept W W' (fun k => lo ≤ k ∧ k < hi) :=
  (laws_markIntS.calls k _ v xs a r ys W0 W hB h.2.2 hf).mono fun e W' ⟨h1, h2, h3, h4⟩ => ⟨h1, own_back rfl h h4 h2, h3, h4⟩
end Go.Proofs.Ytooojligedlpeaa.G
end
section
namespace Go.Proofs.Ytooojligedlpeaa.G
open Go.RowKit Go.Proofs.YtooojligedlpeaaW.PrintWords Go.Proofs.YtooojligedlpeaaW.PrintLast Go.Proofs.YtooojligedlpeaaW.PrintMore
set_option linter.unusedVariables false
set_option linter.unusedSimpArgs false
inductive Sh where
  | mk : List Sh → Sh
def Sh.parts : Sh → List Sh
  | .mk ps => ps
mutual
def Sh.cnt : Sh → Nat
  | .mk ps => 1 + Sh.cntL ps
def Sh.cntL : List Sh → Nat
  | [] => 0
  | p :: ps => Sh.cnt p + Sh.cntL ps
end
mutual
def shT : S25 → Sh
  | ⟨_, _, ps⟩ => .mk (shL ps)
def shL : List S25 → List Sh
  | [] => []
  | p :: ps => shT p :: shL ps
end
theorem shL_map (ps : List S25) : shL ps = ps.map shT := by
  induction ps with
  | nil => simp [shL]
  | cons p ps ih => simp [shL, ih]
theorem shT_parts (t : S25) : (shT t).parts = t.f2.map shT := by
  cases t
  simp only [shT, Sh.parts, shL_map]
theorem cnt_parts (s : Sh) : s.cnt = 1 + Sh.cntL s.parts := by cases s; simp [Sh.cnt, Sh.parts]
theorem cntL_take (ss : List Sh) (i : Nat) (h : i < ss.length) : Sh.cntL (ss.take (i + 1)) = Sh.cntL (ss.take i) + ss[i].cnt := by
  induction ss generalizing i with
  | nil => simp at h
  | cons s ss ih =>
    cases i with
    | zero => simp [Sh.cntL]
    | succ i =>
      have := ih i (by simpa using h)
      simp only [List.take_succ_cons, Sh.cntL, List.getElem_cons_succ, this]
      omega
theorem cntL_le (ss : List Sh) (i : Nat) (h : i < ss.length) : Sh.cntL (ss.take i) + ss[i].cnt ≤ Sh.cntL ss := by
  induction ss generalizing i with
  | nil => simp at h
  | cons s ss ih =>
    cases i with
    | zero => simp [Sh.cntL]
    | succ i =>
      have := ih i (by simpa using h)
      simp only [List.take_succ_cons, Sh.cntL, List.getElem_cons_succ]
      omega
def FSh (d : Kd Sh) : Kd Sh := Kd.iso (Kd.pair anyInt (Kd.pair anyInt (Kd.slice 25 d))) (fun s : Sh => ((), (), s.parts))
theorem FSh_sub : Kd.Sub FSh [25] := Kd.sub_iso _ (Kd.sub_pair (Kd.sub_const _ (by decide)) (Kd.sub_pair (Kd.sub_const _ (by decide)) (Kd.sub_slice 25 (by decide) Kd.sub_id)))
theorem FSh_sz : ∀ n, (Kd.upto FSh 3 [25] n).sz = 3 := Kd.upto_sz (fun _ => rfl)
def kSh : Kd Sh := Kd.fix FSh 3 [25] FSh_sz (Kd.upto_E FSh_sub)
theorem ist_FSh (d : Kd Sh) (h : Ist d) : Ist (FSh d) := ist_iso _ (ist_pair ist_anyInt (ist_pair ist_anyInt (ist_slice _ h)))
theorem ist_kSh : Ist kSh := ist_fix ist_FSh
theorem kSh_openM {w : World} {base : Nat} {ok : Nat → Prop} {x : Sh} {cs : List Value} (h : kSh.M w base ok x cs) : ∃ (a b : Int) (v : Value), cs = [.int .i64 a, .int .i64 b, v] ∧ kSh.R 25 w base ok v x.parts := by
  obtain ⟨n, h⟩ := h
  cases n with
  | zero => exact h.elim
  | succ n =>
    obtain ⟨_, _, rfl, ⟨a, rfl⟩, ⟨_, _, rfl, ⟨b, rfl⟩, ⟨v, rfl, g⟩⟩⟩ := h
    exact ⟨a, b, v, rfl, Kd.fix_R g⟩
theorem sh_upto : ∀ (n : Nat) {w : World} {base : Nat} {ok : Nat → Prop} {x : S25} {cs : List Value}, (Kd.upto F25 3 [25] n).M w base ok x cs → (Kd.upto FSh 3 [25] n).M w base ok (shT x) cs := by
  intro n
  induction n with
  | zero => intro w base ok x cs h; exact h.elim
  | succ n ih =>
    intro w base ok x cs h
    obtain ⟨_, _, rfl, rfl, ⟨_, _, rfl, rfl, ⟨v, rfl, g⟩⟩⟩ := h
    refine ⟨_, _, rfl, ⟨_, rfl⟩, ⟨_, _, rfl, ⟨_, rfl⟩, ⟨v, rfl, ?_⟩⟩⟩
    show (Kd.upto FSh 3 [25] n).R _ w base ok v (shT x).parts
    rw [shT_parts]
    exact R_map shT ((sz25 n).trans (FSh_sz n).symm) (fun _ _ _ _ _ h => ih h) g
theorem sh_R {w : World} {base : Nat} {ok : Nat → Prop} {v : Value} {xs : List S25} (h : k25.R 25 w base ok v xs) : kSh.R 25 w base ok v (xs.map shT) :=
  R_map shT rfl (fun w base ok x cs h => by obtain ⟨n, h⟩ := h; exact ⟨n, sh_upto n h⟩) h
set_option maxHeartbeats 8000000 in
set_option maxRecDepth 100000 in
theorem markTask_w : ∀ (N : Nat) (ss : List Sh) (_ : Sh.cntL ss ≤ N) (A : Option Addr) (c : Nat) (k : Int) (w : World) (base : Nat) (ok : Nat → Prop) (_ : kSh.R 25 w base ok (.slice A ss.length c) ss) (_ : 0 ≤ k) (_ : k + 2 * (Sh.cntL ss : Int) ≤ 4611686018427387904),
    Calls Try.prog 82 #[.slice A ss.length c, .int .i64 k] w fun e w' => e = .returned (.int .i64 (k + 2 * (Sh.cntL ss : Int))) ∧ Marked w w' base ok := by
  intro N
  induction N using Nat.strongRecOn with
  | _ N ih =>
  intro ss hN A c k w base ok hR h0 hk
  have HI := Aside0.mk ih
  have HR := Aside0.mk hR
  have HN := Aside0.mk hN
  have H0 := Aside0.mk (And.intro h0 hk)
  clear ih hR hN h0 hk
  go_enter Try.func82, Try.ntmps82
  go_wp2
  go_loopg [1, 5] ss.length (fun kq v1 v5 w' => ∃ (i : Nat) (x1 x5 : Int), v1 = .int .i64 x1 ∧ v5 = .int .i64 x5 ∧ Aside0 (x1 = k + 2 * (Sh.cntL (ss.take i) : Int)) ∧ Aside0 (x5 = (i : Int)) ∧ Aside0 (i + kq = ss.length) ∧ Aside0 (Marked w w' base ok))
  case atStart => exact ⟨0, k, 0, rfl, rfl, ⟨by simp [Sh.cntL]⟩, ⟨rfl⟩, ⟨by omega⟩, ⟨Marked.refl _ _ _⟩⟩
  case round =>
    obtain ⟨i, x1, x5, rfl, rfl, HX1, HX5, HIK, HM⟩ := hrel
    cases gk with
    | zero =>
      have hb : decide (x5 < (ss.length : Int)) = false := decide_eq_false (by have := HX5.out; have := HIK.out; omega)
      have HE : Aside0 (x1 = k + 2 * (Sh.cntL ss : Int)) := ⟨by have h1 := HX1.out; have h2 := HIK.out; rw [List.take_of_length_le (by omega)] at h1; exact h1⟩
      clear HX1
      go_wp2
      go_ret
      exact ⟨by rw [HE.out]; rfl, HM.out⟩
    | succ gk =>
      have HLT : Aside0 (i < ss.length) := ⟨by have := HIK.out; omega⟩
      have hb : decide (x5 < (ss.length : Int)) = true := decide_eq_true (by have := HX5.out; have := HLT.out; omega)
      have HC := Aside0.mk (cntL_le ss i HLT.out)
      have HC2 := Aside0.mk (cntL_take ss i HLT.out)
      have HCP := Aside0.mk (cnt_parts (ss[i]'HLT.out))
      have HRr := Aside0.mk (HM.out.rows ist_kSh HR.out)
      have hp : 0 ≤ x5 := by have := HX5.out; omega
      have hq : x5 < (ss.length : Int) := by have := HX5.out; have := HLT.out; omega
      have HP := Aside0.mk hp
      have HQ := Aside0.mk hq
      obtain ⟨g, cap, e, hbg, _, _, _⟩ := Kd.R_form HRr.out (by have := HLT.out; omega)
      cases e
      have hOKg := HRr.out.1 g rfl
      have HG := Aside0.mk (And.intro hOKg hbg)
      clear hOKg hbg
      obtain ⟨ce, hcl, hM, hcc, hfr⟩ := Kd.R_elem HRr.out (.mk []) x5 hp hq
      obtain ⟨a, b, v, rfl, _⟩ := kSh_openM hM
      have hx0 : wr.cell? ⟨g, x5.toNat * 3, none⟩ = some (.int .i64 a) := hcc 0 _ rfl
      have hf0 : wr.frozen? ⟨g, x5.toNat * 3, none⟩ = false := hfr 0
      have HX0 := Aside0.mk hx0
      clear hcl hcc hfr hM
      have hp' : (0 ≤ x5) = True := eq_true hp
      have hq' : (x5 < (ss.length : Int)) = True := eq_true hq
      clear hp hq
      have HEI0 : Aside0 (ss.getD x5.toNat (.mk []) = ss[i]'HLT.out) := ⟨by rw [HX5.out, Int.toNat_natCast, List.getD_eq_getElem?_getD, List.getElem?_eq_getElem HLT.out, Option.getD_some]⟩
      go_wp2_with (first
        | ((with_reducible refine gate_store (t := 3) (p := 16) rfl ?_); refine store_event (t := 3) (p := 16) (v := ?vo_1) (w1 := (wr.setCell ⟨g, x5.toNat * 3, none⟩ (.int .i64 x1))) ?hg ?ho ?hn ?hr ?_; (case ho => rfl); (case hg => rfl); (case hn => rfl); (case hr => first | (go_simp; done) | (go_simp; rfl)); intro w9 hw; have HM9 := Aside0.mk (show Marked w w9 base ok from by rw [hw]; exact HM.out.store _ HX0.out HG.out.1 HG.out.2); clear hw hx0 hf0;
           obtain ⟨ce, hcl, hM, hcc, hfr⟩ := Kd.R_elem (HM9.out.rows ist_kSh HR.out) (.mk []) x5 HP.out HQ.out; obtain ⟨a9, b9, v9, rfl, _⟩ := kSh_openM hM; have hx1 : w9.cell? ⟨g, x5.toNat * 3 + 1, none⟩ = some (.int .i64 b9) := hcc 1 _ rfl; have hf1 : w9.frozen? ⟨g, x5.toNat * 3 + 1, none⟩ = false := hfr 1; have HX1' := Aside0.mk hx1; clear hcl hcc hfr hM)
        | ((with_reducible refine gate_store (t := 3) (p := 23) rfl ?_); refine store_event (t := 3) (p := 23) (v := ?vo_2) (w1 := (w9.setCell ⟨g, x5.toNat * 3 + 1, none⟩ (.int .i64 (wrap64 (x1 + 1))))) ?hg ?ho ?hn ?hr ?_; (case ho => rfl); (case hg => rfl); (case hn => rfl); (case hr => first | (go_simp; done) | (go_simp; rfl)); intro w11 hw; have HM11 := Aside0.mk (show Marked w w11 base ok from by rw [hw]; exact HM9.out.store _ HX1'.out HG.out.1 HG.out.2); clear hw hx1 hf1;
           obtain ⟨ce, hcl, hM, hcc, hfr⟩ := Kd.R_elem (HM11.out.rows ist_kSh HR.out) (.mk []) x5 HP.out HQ.out; have hsi := HEI0.out; clear HEI0; generalize ss.getD x5.toNat (.mk []) = si at hM hsi; have HEI := Aside0.mk hsi; clear hsi; obtain ⟨a11, b11, v11, rfl, hRv⟩ := kSh_openM hM; obtain ⟨Av, cv, rfl⟩ := Kd.R_slice hRv; have HRV := Aside0.mk hRv; have hx2 : w11.cell? ⟨g, x5.toNat * 3 + 2, none⟩ = some (.slice Av si.parts.length cv) := hcc 2 _ rfl; clear hcl hcc hfr hM hRv))
      have hA : Sh.cntL si.parts < N := by
        rw [HEI.out]
        have h1 := HC.out
        have h2 := HCP.out
        have h3 := HN.out
        omega
      have hB : 0 ≤ wrap64 (wrap64 (x1 + 1) + 1) := by
        have h1 := HX1.out
        have h2 := H0.out
        have h3 := HC.out
        have h4 := HCP.out
        unfold wrap64
        omega
      have hD : wrap64 (wrap64 (x1 + 1) + 1) + 2 * (Sh.cntL si.parts : Int) ≤ 4611686018427387904 := by
        rw [HEI.out]
        have h1 := HX1.out
        have h2 := H0.out
        have h3 := HC.out
        have h4 := HCP.out
        unfold wrap64
        omega
      have HCALL := Aside0.mk (HI.out _ hA si.parts (Nat.le_refl _) Av cv (wrap64 (wrap64 (x1 + 1) + 1)) w11 base _ HRV.out hB hD)
      clear hA hB hD
      with_reducible refine HCALL.out.mono ?_
      rintro e w1 ⟨rfl, hm⟩
      have HMM := Aside0.mk (HM11.out.trans (hm.mono (Nat.le_refl _) (fun _ hk => hk.1)))
      clear hm
      go_wp2
      go_roundg gk
      case measure => omega
      case rel => exact ⟨i + 1, _, _, rfl, rfl, ⟨by rw [HEI.out]; have h1 := HX1.out; have h2 := H0.out; have h3 := HC.out; have h4 := HCP.out; have h5 := HC2.out; unfold wrap64; omega⟩, ⟨by have h1 := HX5.out; have h2 := HLT.out; have h3 := (Kd.R_reads' HR.out).2.2.2.1; unfold wrap64; omega⟩, ⟨by have := HIK.out; omega⟩, HMM⟩
end Go.Proofs.Ytooojligedlpeaa.G
end
section
namespace Go.Proofs.Ytooojligedlpeaa.G
open Go.RowKit Go.Proofs.YtooojligedlpeaaW.PrintWords Go.Proofs.YtooojligedlpeaaW.PrintLast Go.Proofs.YtooojligedlpeaaW.PrintMore
set_option linter.unusedVariables false
set_option linter.unusedSimpArgs false
theorem lwTaskS {W0 W : World} {lo hi : Nat} {v : Value} {xs : List S25} {a : Int} (hB : Below W0.heap.size W0 W) (h : OwnI k25 25 W0 W lo hi v xs) (h0 : 0 ≤ a) (h1 : a + 2 * (Sh.cntL (xs.map shT) : Int) ≤ 4611686018427387904) :
    Calls Try.prog 82 #[v, .int .i64 a] W fun e W' => e = .returned (.int .i64 (a + 2 * (Sh.cntL (xs.map shT) : Int))) ∧ Below W0.heap.size W0 W' ∧ Kept W W' (fun k => lo ≤ k ∧ k < hi) := by
  obtain ⟨A, c, rfl⟩ := h.slice
  have hR := sh_R h.2.2
  have hl : (xs.map shT).length = xs.length := List.length_map ..
  have := markTask_w _ (xs.map shT) (Nat.le_refl _) A c a W W0.heap.size _ (by rw [hl]; exact hR) h0 h1
  rw [hl] at this
  exact this.mono fun e W' ⟨e1, hm⟩ => ⟨e1, hB.trans hm.below, hm.kept⟩
set_option maxHeartbeats 8000000 in
set_option maxRecDepth 100000 in
theorem lwTask {W0 W : World} {lo hi : Nat} {v : Value} {x y : Int} {xs : List S25} {a : Int} (hB : Below W0.heap.size W0 W) (h : OwnI k25 25 W0 W lo hi v xs) (h0 : 0 ≤ a) (h1 : a + 2 * (Sh.cntL (xs.map shT) : Int) ≤ 4611686018427387904) :
    Calls Try.prog 35 #[.agg #[.int .i64 x, .int .i64 y, v], .int .i64 a] W fun e W' => e = .returned (.int .i64 (a + 2 * (Sh.cntL (xs.map shT) : Int))) ∧ Below W0.heap.size W0 W' ∧ Kept W W' (fun k => lo ≤ k ∧ k < hi) := by
  have hu := Try.underlying25
  obtain ⟨A, c, rfl⟩ := h.slice
  have hb := below_alloc (Below.refl W.heap.size W) (.cells #[.int .i64 x, .int .i64 y, .slice A xs.length c] 25)
  have HC := Aside0.mk (lwTaskS (hB.trans (hb.mono hB.size)) (h.below hb) h0 h1)
  have HK := Aside0.mk (Kept.of_below hb (fun k => lo ≤ k ∧ k < hi))
  clear hb h hB h0 h1
  go_enter Try.func35, Try.ntmps35
  go_wp2_with fail
  with_reducible refine HC.out.mono ?_
  rintro e w1 ⟨rfl, hb1, hk1⟩
  have HB1 := Aside0.mk hb1
  have HK1 := Aside0.mk (HK.out.then_ hk1 (fun _ h => .inl h))
  clear hb1 hk1
  go_wp2
  go_ret
  exact ⟨rfl, HB1.out, HK1.out⟩
end Go.Proofs.Ytooojligedlpeaa.G
end
section
namespace Go.Proofs.Ytooojligedlpeaa.G
open Go.RowKit Go.Proofs.YtooojligedlpeaaW.PrintWords Go.Proofs.YtooojligedlpeaaW.PrintLast Go.Proofs.YtooojligedlpeaaW.PrintMore
set_option linter.unusedVariables false
set_option linter.unusedSimpArgs false
theorem lwTrace (k : Nat) {W0 W : World} {lo hi : Nat} {v : Value} {x y : Int} {xs ys : List S49} {a r : Int} (hB : Below W0.heap.size W0 W) (h : OwnI k49 49 W0 W lo hi v xs) (hf : laws_markTrace.f k x xs y a = some (r, ys)) :
    Calls Try.prog 52 #[.agg #[.int .i64 x, v, .int .i64 y], .int .i64 a] W fun e W' => e = .returned (.int .i64 r) ∧ OwnI k49 49 W0 W' lo hi v ys ∧ Below W0.heap.size W0 W' ∧ Kept W W' (fun k => lo ≤ k ∧ k < hi) :=
  (laws_markTrace.calls k x _ v xs y a r ys W0 W hB h.2.2 hf).mono fun e W' ⟨h1, h2, h3, h4⟩ => ⟨h1, own_back rfl h h4 h2, h3, h4⟩
end Go.Proofs.Ytooojligedlpeaa.G
end
section
namespace Go.Proofs.Ytooojligedlpeaa.G
open Go.RowKit Go.Proofs.YtooojligedlpeaaW.PrintWords Go.Proofs.YtooojligedlpeaaW.PrintLast Go.Proofs.YtooojligedlpeaaW.PrintMore
set_option linter.unusedVariables false
set_option linter.unusedSimpArgs false
set_option maxHeartbeats 8000000 in
set_option maxRecDepth 100000 in
theorem lw_FnExactTraceOf (a0 : Int) (a1_0 : Int) (a1_1 : Int) (A1_2 : Option Addr) (c1_2 : Nat) (l1_2 : List (S35)) (A2 : Option Addr) (c2 : Nat) (l2 : List (Int)) (w : World) (hr1_2 : Kd.C k35 w A1_2 l1_2.length l1_2) (hc1_2 : l1_2.length ≤ c1_2) (hr2 : Kd.C (Kd.int .i64) w A2 l2.length l2) (hc2 : l2.length ≤ c2) (hl_l2 : (l2.length : Int) ≤ 1048576) (r1 : Int) (r2 : Int) (r3 : Int) (r4 : List (S25)) (r5 : List Int) (r6 : Int) (r7 : List (S49)) (r8 : Int) (r9 : Bool) (m10 : List (Int)) (k11 : Int) (m12 : List (S49)) (k13 : Int) (K1 : Nat) (H1 : laws_szTask.f K1 a1_0 a1_1 l1_2 1048576 = some r1) (K2 : Nat) (H2 : laws_toTask.f K2 a1_0 a1_1 l1_2 = some (r2, r3, r4)) (K3 : Nat) (H3 : laws_toIntS.f K3 l2 = some r5) (K4 : Nat) (H4 : spec_TraceOf.f K4 a0 r2 r3 r4 r5 = some (r6, r7, r8, r9)) (K5 : Nat) (H5 : impl_TraceOf.f K5 a0 r2 r3 r4 r5 = some (r6, r7, r8, r9)) (K6 : Nat) (H6 : laws_eqTrace.f K6 r6 r7 r8 r6 r7 r8 = some true) (K7 : Nat) (H7 : laws_eqTask.f K7 r2 r3 r4 r2 r3 r4 = some true) (K8 : Nat) (H8 : laws_eqIntS.f K8 r5 r5 = some true) (K9 : Nat) (H9 : laws_markIntS.f K9 r5 (1 + 2 * (Sh.cntL (r4.map shT) : Int)) = some (k11, m10)) (K10 : Nat) (H10 : laws_markTrace.f K10 r6 r7 r8 1 = some (k13, m12)) (K11 : Nat) (H11 : laws_heldTrace.f K11 r6 m12 r8 1 = some k13) (hx_1 : 0 ≤ r1) (hx_2 : 1 + 2 * (Sh.cntL (r4.map shT) : Int) ≤ 4611686018427387904) (hx_3 : 0 ≤ k11) (hx_4 : 0 ≤ k13) :
    Calls Try.prog 13 #[.int .i64 a0, .agg #[.int .i64 a1_0, .int .i64 a1_1, .slice A1_2 l1_2.length c1_2], .slice A2 l2.length c2] w fun e w' => e = .returned (.bool true) ∧ Below w.heap.size w w' := by
  have hu25 := Try.underlying25
  have hu35 := Try.underlying35
  have hu63 := Try.underlying63
  have HR1_2 := Aside0.mk hr1_2
  have HC1_2 := Aside0.mk hc1_2
  clear hr1_2 hc1_2
  have HR2 := Aside0.mk hr2
  have HC2 := Aside0.mk hc2
  clear hr2 hc2
  have G1 := Aside0.mk H1
  clear H1
  have G2 := Aside0.mk H2
  clear H2
  have G3 := Aside0.mk H3
  clear H3
  have G4 := Aside0.mk H4
  clear H4
  have G5 := Aside0.mk H5
  clear H5
  have G6 := Aside0.mk H6
  clear H6
  have G7 := Aside0.mk H7
  clear H7
  have G8 := Aside0.mk H8
  clear H8
  have G9 := Aside0.mk H9
  clear H9
  have G10 := Aside0.mk H10
  clear H10
  have G11 := Aside0.mk H11
  clear H11
  have HX1 := Aside0.mk hx_1
  have HX2 := Aside0.mk hx_2
  have HX3 := Aside0.mk hx_3
  have HX4 := Aside0.mk hx_4
  have hd_1 : decide (r1 < 0) = false := decide_eq_false (by omega)
  have hd_3 : decide (k11 < 0) = false := decide_eq_false (by omega)
  have hd_4 : decide (k13 < 0) = false := decide_eq_false (by omega)
  have hdl_l2 : decide ((l2.length : Int) > 1048576) = false := decide_eq_false (by omega)
  clear hx_1 hx_2 hx_3 hx_4 hl_l2
  have HB := Aside0.mk (Below.refl w.heap.size w)
  go_enter Try.func13, Try.ntmps13
  have hx1 : (w.alloc (.cells #[.int .i64 a1_0, .int .i64 a1_1, .slice A1_2 l1_2.length c1_2] 35)).cell? ⟨w.heap.size, 0, none⟩ = some (.int .i64 a1_0) := (blk_cell (show (w.alloc (.cells #[.int .i64 a1_0, .int .i64 a1_1, .slice A1_2 l1_2.length c1_2] 35)).heap[w.heap.size]? = some (.cells #[.int .i64 a1_0, .int .i64 a1_1, .slice A1_2 l1_2.length c1_2] 35 (0, 0)) from by have h_ := heap_alloc_new w (.cells #[.int .i64 a1_0, .int .i64 a1_1, .slice A1_2 l1_2.length c1_2] 35); simpa using h_) 0).trans rfl
  have hx2 : (w.alloc (.cells #[.int .i64 a1_0, .int .i64 a1_1, .slice A1_2 l1_2.length c1_2] 35)).cell? ⟨w.heap.size, 1, none⟩ = some (.int .i64 a1_1) := (blk_cell (show (w.alloc (.cells #[.int .i64 a1_0, .int .i64 a1_1, .slice A1_2 l1_2.length c1_2] 35)).heap[w.heap.size]? = some (.cells #[.int .i64 a1_0, .int .i64 a1_1, .slice A1_2 l1_2.length c1_2] 35 (0, 0)) from by have h_ := heap_alloc_new w (.cells #[.int .i64 a1_0, .int .i64 a1_1, .slice A1_2 l1_2.length c1_2] 35); simpa using h_) 1).trans rfl
  have hx3 : (w.alloc (.cells #[.int .i64 a1_0, .int .i64 a1_1, .slice A1_2 l1_2.length c1_2] 35)).cell? ⟨w.heap.size, 2, none⟩ = some (.slice A1_2 l1_2.length c1_2) := (blk_cell (show (w.alloc (.cells #[.int .i64 a1_0, .int .i64 a1_1, .slice A1_2 l1_2.length c1_2] 35)).heap[w.heap.size]? = some (.cells #[.int .i64 a1_0, .int .i64 a1_1, .slice A1_2 l1_2.length c1_2] 35 (0, 0)) from by have h_ := heap_alloc_new w (.cells #[.int .i64 a1_0, .int .i64 a1_1, .slice A1_2 l1_2.length c1_2] 35); simpa using h_) 2).trans rfl
  have CK := Aside0.mk (laws_szTask.calls K1 a1_0 a1_1 A1_2 c1_2 l1_2 1048576 r1 (w.alloc (.cells #[.int .i64 a1_0, .int .i64 a1_1, .slice A1_2 l1_2.length c1_2] 35)) (Kd.C_below HR1_2.out (below_alloc HB.out _)) HC1_2.out G1.out)
  go_wp2_with fail
  with_reducible refine CK.out.mono ?_
  rintro e w4 ⟨rfl, hb0⟩
  have hb := hb0
  clear CK hb0
  clear hx1 hx2 hx3
  have hW_ : Below w.heap.size w w4 := (below_alloc (Below.refl w.heap.size w) _).trans (hb.mono (below_alloc (Below.refl w.heap.size w) _).size)
  have SZ1 := Aside0.mk (Nat.le_trans (Nat.succ_le_of_lt (blk_lt (show (w.alloc (.cells #[.int .i64 a1_0, .int .i64 a1_1, .slice A1_2 l1_2.length c1_2] 35)).heap[w.heap.size]? = some (.cells #[.int .i64 a1_0, .int .i64 a1_1, .slice A1_2 l1_2.length c1_2] 35 (0, 0)) from by have h_ := heap_alloc_new w (.cells #[.int .i64 a1_0, .int .i64 a1_1, .slice A1_2 l1_2.length c1_2] 35); simpa using h_)) : w.heap.size + 1 ≤ (w.alloc (.cells #[.int .i64 a1_0, .int .i64 a1_1, .slice A1_2 l1_2.length c1_2] 35)).heap.size) hb.size)
  have NB0 := Aside0.mk ((hb.block _ (blk_lt (show (w.alloc (.cells #[.int .i64 a1_0, .int .i64 a1_1, .slice A1_2 l1_2.length c1_2] 35)).heap[w.heap.size]? = some (.cells #[.int .i64 a1_0, .int .i64 a1_1, .slice A1_2 l1_2.length c1_2] 35 (0, 0)) from by have h_ := heap_alloc_new w (.cells #[.int .i64 a1_0, .int .i64 a1_1, .slice A1_2 l1_2.length c1_2] 35); simpa using h_))).trans (show (w.alloc (.cells #[.int .i64 a1_0, .int .i64 a1_1, .slice A1_2 l1_2.length c1_2] 35)).heap[w.heap.size]? = some (.cells #[.int .i64 a1_0, .int .i64 a1_1, .slice A1_2 l1_2.length c1_2] 35 (0, 0)) from by have h_ := heap_alloc_new w (.cells #[.int .i64 a1_0, .int .i64 a1_1, .slice A1_2 l1_2.length c1_2] 35); simpa using h_))
  have NHB := Aside0.mk (HB.out.trans (hW_.mono HB.out.size))
  clear hb hW_
  skip
  have BX0 := NB0
  clear NB0
  clear HB
  have HB := NHB
  clear NHB
  have hx5 : w4.cell? ⟨w.heap.size, 0, none⟩ = some (.int .i64 a1_0) := (blk_cell BX0.out 0).trans rfl
  have hx6 : w4.cell? ⟨w.heap.size, 1, none⟩ = some (.int .i64 a1_1) := (blk_cell BX0.out 1).trans rfl
  have hx7 : w4.cell? ⟨w.heap.size, 2, none⟩ = some (.slice A1_2 l1_2.length c1_2) := (blk_cell BX0.out 2).trans rfl
  have CK := Aside0.mk (laws_toTask.calls K2 a1_0 a1_1 A1_2 c1_2 l1_2 r2 r3 r4 w4 (Kd.C_below HR1_2.out HB.out) HC1_2.out G2.out)
  go_wp2_with fail
  with_reducible refine CK.out.mono ?_
  rintro e w8 ⟨v2_, rfl, ho0, hb0⟩
  have hb := hb0
  clear CK hb0
  clear hx5 hx6 hx7
  have hW_ : Below w4.heap.size w4 w8 := (Below.refl w4.heap.size w4).trans (hb.mono (Below.refl w4.heap.size w4).size)
  have NB0 := Aside0.mk ((hb.block _ (blk_lt BX0.out)).trans BX0.out)
  have NHB := Aside0.mk (HB.out.trans (hW_.mono HB.out.size))
  obtain ⟨lo1, elo1⟩ : ∃ n_, w4.heap.size = n_ := ⟨_, rfl⟩
  obtain ⟨hi1, ehi1⟩ : ∃ n_, w8.heap.size = n_ := ⟨_, rfl⟩
  have hn_0 := OwnI.new (W0 := w) HB.out.size hb.size ho0
  rw [elo1, ehi1] at hn_0
  obtain ⟨Ao9, co9, rfl⟩ := hn_0.slice
  have HOo9 := Aside0.mk hn_0
  clear hn_0 ho0
  have SP1 := Aside0.mk (And.intro (by have h_ := hb.size; rw [elo1, ehi1] at h_; exact h_ : lo1 ≤ hi1) (And.intro (Nat.le_of_eq elo1 : w4.heap.size ≤ lo1) (Nat.le_of_eq ehi1.symm : hi1 ≤ w8.heap.size)))
  clear hb hW_ elo1 ehi1
  clear BX0
  have BX0 := NB0
  clear NB0
  clear HB
  have HB := NHB
  clear NHB
  have CK := Aside0.mk (laws_toIntS.calls K3 A2 c2 l2 r5 w8 (Kd.C_below HR2.out HB.out) HC2.out G3.out)
  go_wp2_with fail
  with_reducible refine CK.out.mono ?_
  rintro e w10 ⟨v0_, rfl, ho0, hb0⟩
  have hb := hb0
  clear CK hb0
  have hW_ : Below w8.heap.size w8 w10 := (Below.refl w8.heap.size w8).trans (hb.mono (Below.refl w8.heap.size w8).size)
  have NB0 := Aside0.mk ((hb.block _ (blk_lt BX0.out)).trans BX0.out)
  have NHOo9 := Aside0.mk (HOo9.out.below hW_)
  have NHB := Aside0.mk (HB.out.trans (hW_.mono HB.out.size))
  obtain ⟨lo2, elo2⟩ : ∃ n_, w8.heap.size = n_ := ⟨_, rfl⟩
  obtain ⟨hi2, ehi2⟩ : ∃ n_, w10.heap.size = n_ := ⟨_, rfl⟩
  have hn_0 := OwnI.new (W0 := w) HB.out.size hb.size ho0
  rw [elo2, ehi2] at hn_0
  obtain ⟨Ao11, co11, rfl⟩ := hn_0.slice
  have HOo11 := Aside0.mk hn_0
  clear hn_0 ho0
  have SP2 := Aside0.mk (And.intro (by have h_ := hb.size; rw [elo2, ehi2] at h_; exact h_ : lo2 ≤ hi2) (And.intro (Nat.le_of_eq elo2 : w8.heap.size ≤ lo2) (Nat.le_of_eq ehi2.symm : hi2 ≤ w10.heap.size)))
  clear hb hW_ elo2 ehi2
  clear BX0
  have BX0 := NB0
  clear NB0
  clear HOo9
  have HOo9 := NHOo9
  clear NHOo9
  clear HB
  have HB := NHB
  clear NHB
  have CK := Aside0.mk (spec_TraceOf.calls K4 a0 r2 r3 Ao9 co9 r4 Ao11 co11 r5 r6 r7 r8 r9 w10 (HOo9.out.below (Below.refl w10.heap.size w10)).C HOo9.out.room (HOo11.out.below (Below.refl w10.heap.size w10)).C HOo11.out.room G4.out)
  go_wp2_with fail
  with_reducible refine CK.out.mono ?_
  rintro e w12 ⟨v1_, rfl, ho0, hb0⟩
  have hb := hb0
  clear CK hb0
  have hW_ : Below w10.heap.size w10 w12 := (Below.refl w10.heap.size w10).trans (hb.mono (Below.refl w10.heap.size w10).size)
  have NB0 := Aside0.mk ((hb.block _ (blk_lt BX0.out)).trans BX0.out)
  have NHOo9 := Aside0.mk (HOo9.out.below hW_)
  have NHOo11 := Aside0.mk (HOo11.out.below hW_)
  have NHB := Aside0.mk (HB.out.trans (hW_.mono HB.out.size))
  obtain ⟨lo3, elo3⟩ : ∃ n_, w10.heap.size = n_ := ⟨_, rfl⟩
  obtain ⟨hi3, ehi3⟩ : ∃ n_, w12.heap.size = n_ := ⟨_, rfl⟩
  have hn_0 := OwnI.new (W0 := w) HB.out.size hb.size ho0
  rw [elo3, ehi3] at hn_0
  obtain ⟨Ao13, co13, rfl⟩ := hn_0.slice
  have HOo13 := Aside0.mk hn_0
  clear hn_0 ho0
  have SP3 := Aside0.mk (And.intro (by have h_ := hb.size; rw [elo3, ehi3] at h_; exact h_ : lo3 ≤ hi3) (And.intro (Nat.le_of_eq elo3 : w10.heap.size ≤ lo3) (Nat.le_of_eq ehi3.symm : hi3 ≤ w12.heap.size)))
  clear hb hW_ elo3 ehi3
  clear BX0
  have BX0 := NB0
  clear NB0
  clear HOo9
  have HOo9 := NHOo9
  clear NHOo9
  clear HOo11
  have HOo11 := NHOo11
  clear NHOo11
  clear HB
  have HB := NHB
  clear NHB
  have hx14 : (w12.alloc (.cells #[.int .i64 r6, .slice Ao13 r7.length co13, .int .i64 r8] 63)).cell? ⟨w.heap.size, 0, none⟩ = some (.int .i64 a1_0) := (blk_cell (blk_alloc BX0.out _) 0).trans rfl
  have hx15 : (w12.alloc (.cells #[.int .i64 r6, .slice Ao13 r7.length co13, .int .i64 r8] 63)).cell? ⟨w.heap.size, 1, none⟩ = some (.int .i64 a1_1) := (blk_cell (blk_alloc BX0.out _) 1).trans rfl
  have hx16 : (w12.alloc (.cells #[.int .i64 r6, .slice Ao13 r7.length co13, .int .i64 r8] 63)).cell? ⟨w.heap.size, 2, none⟩ = some (.slice A1_2 l1_2.length c1_2) := (blk_cell (blk_alloc BX0.out _) 2).trans rfl
  have CK := Aside0.mk (laws_toTask.calls K2 a1_0 a1_1 A1_2 c1_2 l1_2 r2 r3 r4 (w12.alloc (.cells #[.int .i64 r6, .slice Ao13 r7.length co13, .int .i64 r8] 63)) (Kd.C_below HR1_2.out (below_alloc HB.out _)) HC1_2.out G2.out)
  go_wp2_with fail
  with_reducible refine CK.out.mono ?_
  rintro e w17 ⟨v2_, rfl, ho0, hb0⟩
  have hb := hb0
  clear CK hb0
  clear hx14 hx15 hx16
  have hW_ : Below w12.heap.size w12 w17 := (below_alloc (Below.refl w12.heap.size w12) _).trans (hb.mono (below_alloc (Below.refl w12.heap.size w12) _).size)
  have NB0 := Aside0.mk ((hb.block _ (blk_lt (blk_alloc BX0.out _))).trans (blk_alloc BX0.out _))
  have NB1 := Aside0.mk ((hb.block _ (blk_lt (show (w12.alloc (.cells #[.int .i64 r6, .slice Ao13 r7.length co13, .int .i64 r8] 63)).heap[w12.heap.size]? = some (.cells #[.int .i64 r6, .slice Ao13 r7.length co13, .int .i64 r8] 63 (0, 0)) from by have h_ := heap_alloc_new w12 (.cells #[.int .i64 r6, .slice Ao13 r7.length co13, .int .i64 r8] 63); simpa using h_))).trans (show (w12.alloc (.cells #[.int .i64 r6, .slice Ao13 r7.length co13, .int .i64 r8] 63)).heap[w12.heap.size]? = some (.cells #[.int .i64 r6, .slice Ao13 r7.length co13, .int .i64 r8] 63 (0, 0)) from by have h_ := heap_alloc_new w12 (.cells #[.int .i64 r6, .slice Ao13 r7.length co13, .int .i64 r8] 63); simpa using h_))
  have NHOo9 := Aside0.mk (HOo9.out.below hW_)
  have NHOo11 := Aside0.mk (HOo11.out.below hW_)
  have NHOo13 := Aside0.mk (HOo13.out.below hW_)
  have NHB := Aside0.mk (HB.out.trans (hW_.mono HB.out.size))
  obtain ⟨lo4, elo4⟩ : ∃ n_, (w12.alloc (.cells #[.int .i64 r6, .slice Ao13 r7.length co13, .int .i64 r8] 63)).heap.size = n_ := ⟨_, rfl⟩
  obtain ⟨hi4, ehi4⟩ : ∃ n_, w17.heap.size = n_ := ⟨_, rfl⟩
  have hn_0 := OwnI.new (W0 := w) (below_alloc HB.out _).size hb.size ho0
  rw [elo4, ehi4] at hn_0
  obtain ⟨Ao18, co18, rfl⟩ := hn_0.slice
  have HOo18 := Aside0.mk hn_0
  clear hn_0 ho0
  have SP4 := Aside0.mk (And.intro (by have h_ := hb.size; rw [elo4, ehi4] at h_; exact h_ : lo4 ≤ hi4) (And.intro (by have h_ := (Nat.succ_le_of_lt (blk_lt (show (w12.alloc (.cells #[.int .i64 r6, .slice Ao13 r7.length co13, .int .i64 r8] 63)).heap[w12.heap.size]? = some (.cells #[.int .i64 r6, .slice Ao13 r7.length co13, .int .i64 r8] 63 (0, 0)) from by have h_ := heap_alloc_new w12 (.cells #[.int .i64 r6, .slice Ao13 r7.length co13, .int .i64 r8] 63); simpa using h_)) : w12.heap.size + 1 ≤ (w12.alloc (.cells #[.int .i64 r6, .slice Ao13 r7.length co13, .int .i64 r8] 63)).heap.size); rw [elo4] at h_; exact h_ : w12.heap.size + 1 ≤ lo4) (Nat.le_of_eq ehi4.symm : hi4 ≤ w17.heap.size)))
  clear hb hW_ elo4 ehi4
  clear BX0
  have BX0 := NB0
  clear NB0
  skip
  have BX1 := NB1
  clear NB1
  clear HOo9
  have HOo9 := NHOo9
  clear NHOo9
  clear HOo11
  have HOo11 := NHOo11
  clear NHOo11
  clear HOo13
  have HOo13 := NHOo13
  clear NHOo13
  clear HB
  have HB := NHB
  clear NHB
  have CK := Aside0.mk (laws_toIntS.calls K3 A2 c2 l2 r5 (w17.alloc (.cells #[.int .i64 r2, .int .i64 r3, .slice Ao18 r4.length co18] 25)) (Kd.C_below HR2.out (below_alloc HB.out _)) HC2.out G3.out)
  go_wp2_with fail
  with_reducible refine CK.out.mono ?_
  rintro e w19 ⟨v0_, rfl, ho0, hb0⟩
  have hb := hb0
  clear CK hb0
  have hW_ : Below w17.heap.size w17 w19 := (below_alloc (Below.refl w17.heap.size w17) _).trans (hb.mono (below_alloc (Below.refl w17.heap.size w17) _).size)
  have NB0 := Aside0.mk ((hb.block _ (blk_lt (blk_alloc BX0.out _))).trans (blk_alloc BX0.out _))
  have NB1 := Aside0.mk ((hb.block _ (blk_lt (blk_alloc BX1.out _))).trans (blk_alloc BX1.out _))
  have NB2 := Aside0.mk ((hb.block _ (blk_lt (show (w17.alloc (.cells #[.int .i64 r2, .int .i64 r3, .slice Ao18 r4.length co18] 25)).heap[w17.heap.size]? = some (.cells #[.int .i64 r2, .int .i64 r3, .slice Ao18 r4.length co18] 25 (0, 0)) from by have h_ := heap_alloc_new w17 (.cells #[.int .i64 r2, .int .i64 r3, .slice Ao18 r4.length co18] 25); simpa using h_))).trans (show (w17.alloc (.cells #[.int .i64 r2, .int .i64 r3, .slice Ao18 r4.length co18] 25)).heap[w17.heap.size]? = some (.cells #[.int .i64 r2, .int .i64 r3, .slice Ao18 r4.length co18] 25 (0, 0)) from by have h_ := heap_alloc_new w17 (.cells #[.int .i64 r2, .int .i64 r3, .slice Ao18 r4.length co18] 25); simpa using h_))
  have NHOo9 := Aside0.mk (HOo9.out.below hW_)
  have NHOo11 := Aside0.mk (HOo11.out.below hW_)
  have NHOo13 := Aside0.mk (HOo13.out.below hW_)
  have NHOo18 := Aside0.mk (HOo18.out.below hW_)
  have NHB := Aside0.mk (HB.out.trans (hW_.mono HB.out.size))
  obtain ⟨lo5, elo5⟩ : ∃ n_, (w17.alloc (.cells #[.int .i64 r2, .int .i64 r3, .slice Ao18 r4.length co18] 25)).heap.size = n_ := ⟨_, rfl⟩
  obtain ⟨hi5, ehi5⟩ : ∃ n_, w19.heap.size = n_ := ⟨_, rfl⟩
  have hn_0 := OwnI.new (W0 := w) (below_alloc HB.out _).size hb.size ho0
  rw [elo5, ehi5] at hn_0
  obtain ⟨Ao20, co20, rfl⟩ := hn_0.slice
  have HOo20 := Aside0.mk hn_0
  clear hn_0 ho0
  have SP5 := Aside0.mk (And.intro (by have h_ := hb.size; rw [elo5, ehi5] at h_; exact h_ : lo5 ≤ hi5) (And.intro (by have h_ := (Nat.succ_le_of_lt (blk_lt (show (w17.alloc (.cells #[.int .i64 r2, .int .i64 r3, .slice Ao18 r4.length co18] 25)).heap[w17.heap.size]? = some (.cells #[.int .i64 r2, .int .i64 r3, .slice Ao18 r4.length co18] 25 (0, 0)) from by have h_ := heap_alloc_new w17 (.cells #[.int .i64 r2, .int .i64 r3, .slice Ao18 r4.length co18] 25); simpa using h_)) : w17.heap.size + 1 ≤ (w17.alloc (.cells #[.int .i64 r2, .int .i64 r3, .slice Ao18 r4.length co18] 25)).heap.size); rw [elo5] at h_; exact h_ : w17.heap.size + 1 ≤ lo5) (Nat.le_of_eq ehi5.symm : hi5 ≤ w19.heap.size)))
  clear hb hW_ elo5 ehi5
  clear BX0
  have BX0 := NB0
  clear NB0
  clear BX1
  have BX1 := NB1
  clear NB1
  skip
  have BX2 := NB2
  clear NB2
  clear HOo9
  have HOo9 := NHOo9
  clear NHOo9
  clear HOo11
  have HOo11 := NHOo11
  clear NHOo11
  clear HOo13
  have HOo13 := NHOo13
  clear NHOo13
  clear HOo18
  have HOo18 := NHOo18
  clear NHOo18
  clear HB
  have HB := NHB
  clear NHB
  have hx21 : w19.cell? ⟨w17.heap.size, 0, none⟩ = some (.int .i64 r2) := (blk_cell BX2.out 0).trans rfl
  have hx22 : w19.cell? ⟨w17.heap.size, 1, none⟩ = some (.int .i64 r3) := (blk_cell BX2.out 1).trans rfl
  have hx23 : w19.cell? ⟨w17.heap.size, 2, none⟩ = some (.slice Ao18 r4.length co18) := (blk_cell BX2.out 2).trans rfl
  have CK := Aside0.mk (impl_TraceOf.calls K5 a0 r2 r3 Ao18 co18 r4 Ao20 co20 r5 r6 r7 r8 r9 w19 (HOo18.out.below (Below.refl w19.heap.size w19)).C HOo18.out.room (HOo20.out.below (Below.refl w19.heap.size w19)).C HOo20.out.room G5.out)
  go_wp2_with fail
  with_reducible refine CK.out.mono ?_
  rintro e w24 ⟨v1_, rfl, ho0, hb0⟩
  have hb := hb0
  clear CK hb0
  clear hx21 hx22 hx23
  have hW_ : Below w19.heap.size w19 w24 := (Below.refl w19.heap.size w19).trans (hb.mono (Below.refl w19.heap.size w19).size)
  have NB0 := Aside0.mk ((hb.block _ (blk_lt BX0.out)).trans BX0.out)
  have NB1 := Aside0.mk ((hb.block _ (blk_lt BX1.out)).trans BX1.out)
  have NB2 := Aside0.mk ((hb.block _ (blk_lt BX2.out)).trans BX2.out)
  have NHOo9 := Aside0.mk (HOo9.out.below hW_)
  have NHOo11 := Aside0.mk (HOo11.out.below hW_)
  have NHOo13 := Aside0.mk (HOo13.out.below hW_)
  have NHOo18 := Aside0.mk (HOo18.out.below hW_)
  have NHOo20 := Aside0.mk (HOo20.out.below hW_)
  have NHB := Aside0.mk (HB.out.trans (hW_.mono HB.out.size))
  obtain ⟨lo6, elo6⟩ : ∃ n_, w19.heap.size = n_ := ⟨_, rfl⟩
  obtain ⟨hi6, ehi6⟩ : ∃ n_, w24.heap.size = n_ := ⟨_, rfl⟩
  have hn_0 := OwnI.new (W0 := w) HB.out.size hb.size ho0
  rw [elo6, ehi6] at hn_0
  obtain ⟨Ao25, co25, rfl⟩ := hn_0.slice
  have HOo25 := Aside0.mk hn_0
  clear hn_0 ho0
  have SP6 := Aside0.mk (And.intro (by have h_ := hb.size; rw [elo6, ehi6] at h_; exact h_ : lo6 ≤ hi6) (And.intro (Nat.le_of_eq elo6 : w19.heap.size ≤ lo6) (Nat.le_of_eq ehi6.symm : hi6 ≤ w24.heap.size)))
  clear hb hW_ elo6 ehi6
  clear BX0
  have BX0 := NB0
  clear NB0
  clear BX1
  have BX1 := NB1
  clear NB1
  clear BX2
  have BX2 := NB2
  clear NB2
  clear HOo9
  have HOo9 := NHOo9
  clear NHOo9
  clear HOo11
  have HOo11 := NHOo11
  clear NHOo11
  clear HOo13
  have HOo13 := NHOo13
  clear NHOo13
  clear HOo18
  have HOo18 := NHOo18
  clear NHOo18
  clear HOo20
  have HOo20 := NHOo20
  clear NHOo20
  clear HB
  have HB := NHB
  clear NHB
  have hx26 : (w24.alloc (.cells #[.int .i64 r6, .slice Ao25 r7.length co25, .int .i64 r8] 63)).cell? ⟨w24.heap.size, 0, none⟩ = some (.int .i64 r6) := (blk_cell (show (w24.alloc (.cells #[.int .i64 r6, .slice Ao25 r7.length co25, .int .i64 r8] 63)).heap[w24.heap.size]? = some (.cells #[.int .i64 r6, .slice Ao25 r7.length co25, .int .i64 r8] 63 (0, 0)) from by have h_ := heap_alloc_new w24 (.cells #[.int .i64 r6, .slice Ao25 r7.length co25, .int .i64 r8] 63); simpa using h_) 0).trans rfl
  have hx27 : (w24.alloc (.cells #[.int .i64 r6, .slice Ao25 r7.length co25, .int .i64 r8] 63)).cell? ⟨w24.heap.size, 1, none⟩ = some (.slice Ao25 r7.length co25) := (blk_cell (show (w24.alloc (.cells #[.int .i64 r6, .slice Ao25 r7.length co25, .int .i64 r8] 63)).heap[w24.heap.size]? = some (.cells #[.int .i64 r6, .slice Ao25 r7.length co25, .int .i64 r8] 63 (0, 0)) from by have h_ := heap_alloc_new w24 (.cells #[.int .i64 r6, .slice Ao25 r7.length co25, .int .i64 r8] 63); simpa using h_) 1).trans rfl
  have hx28 : (w24.alloc (.cells #[.int .i64 r6, .slice Ao25 r7.length co25, .int .i64 r8] 63)).cell? ⟨w24.heap.size, 2, none⟩ = some (.int .i64 r8) := (blk_cell (show (w24.alloc (.cells #[.int .i64 r6, .slice Ao25 r7.length co25, .int .i64 r8] 63)).heap[w24.heap.size]? = some (.cells #[.int .i64 r6, .slice Ao25 r7.length co25, .int .i64 r8] 63 (0, 0)) from by have h_ := heap_alloc_new w24 (.cells #[.int .i64 r6, .slice Ao25 r7.length co25, .int .i64 r8] 63); simpa using h_) 2).trans rfl
  have hx29 : (w24.alloc (.cells #[.int .i64 r6, .slice Ao25 r7.length co25, .int .i64 r8] 63)).cell? ⟨w12.heap.size, 0, none⟩ = some (.int .i64 r6) := (blk_cell (blk_alloc BX1.out _) 0).trans rfl
  have hx30 : (w24.alloc (.cells #[.int .i64 r6, .slice Ao25 r7.length co25, .int .i64 r8] 63)).cell? ⟨w12.heap.size, 1, none⟩ = some (.slice Ao13 r7.length co13) := (blk_cell (blk_alloc BX1.out _) 1).trans rfl
  have hx31 : (w24.alloc (.cells #[.int .i64 r6, .slice Ao25 r7.length co25, .int .i64 r8] 63)).cell? ⟨w12.heap.size, 2, none⟩ = some (.int .i64 r8) := (blk_cell (blk_alloc BX1.out _) 2).trans rfl
  have CK := Aside0.mk (laws_eqTrace.calls K6 r6 Ao25 co25 r7 r8 r6 Ao13 co13 r7 r8 true (w24.alloc (.cells #[.int .i64 r6, .slice Ao25 r7.length co25, .int .i64 r8] 63)) (HOo25.out.below (below_alloc (Below.refl w24.heap.size w24) _)).C HOo25.out.room (HOo13.out.below (below_alloc (Below.refl w24.heap.size w24) _)).C HOo13.out.room G6.out)
  go_wp2_with fail
  with_reducible refine CK.out.mono ?_
  rintro e w32 ⟨rfl, hb0⟩
  have hb := hb0
  clear CK hb0
  clear hx26 hx27 hx28 hx29 hx30 hx31
  have hW_ : Below w24.heap.size w24 w32 := (below_alloc (Below.refl w24.heap.size w24) _).trans (hb.mono (below_alloc (Below.refl w24.heap.size w24) _).size)
  have SZ2 := Aside0.mk (Nat.le_trans (Nat.succ_le_of_lt (blk_lt (show (w24.alloc (.cells #[.int .i64 r6, .slice Ao25 r7.length co25, .int .i64 r8] 63)).heap[w24.heap.size]? = some (.cells #[.int .i64 r6, .slice Ao25 r7.length co25, .int .i64 r8] 63 (0, 0)) from by have h_ := heap_alloc_new w24 (.cells #[.int .i64 r6, .slice Ao25 r7.length co25, .int .i64 r8] 63); simpa using h_)) : w24.heap.size + 1 ≤ (w24.alloc (.cells #[.int .i64 r6, .slice Ao25 r7.length co25, .int .i64 r8] 63)).heap.size) hb.size)
  have NB0 := Aside0.mk ((hb.block _ (blk_lt (blk_alloc BX0.out _))).trans (blk_alloc BX0.out _))
  have NB1 := Aside0.mk ((hb.block _ (blk_lt (blk_alloc BX1.out _))).trans (blk_alloc BX1.out _))
  have NB2 := Aside0.mk ((hb.block _ (blk_lt (blk_alloc BX2.out _))).trans (blk_alloc BX2.out _))
  have NB3 := Aside0.mk ((hb.block _ (blk_lt (show (w24.alloc (.cells #[.int .i64 r6, .slice Ao25 r7.length co25, .int .i64 r8] 63)).heap[w24.heap.size]? = some (.cells #[.int .i64 r6, .slice Ao25 r7.length co25, .int .i64 r8] 63 (0, 0)) from by have h_ := heap_alloc_new w24 (.cells #[.int .i64 r6, .slice Ao25 r7.length co25, .int .i64 r8] 63); simpa using h_))).trans (show (w24.alloc (.cells #[.int .i64 r6, .slice Ao25 r7.length co25, .int .i64 r8] 63)).heap[w24.heap.size]? = some (.cells #[.int .i64 r6, .slice Ao25 r7.length co25, .int .i64 r8] 63 (0, 0)) from by have h_ := heap_alloc_new w24 (.cells #[.int .i64 r6, .slice Ao25 r7.length co25, .int .i64 r8] 63); simpa using h_))
  have NHOo9 := Aside0.mk (HOo9.out.below hW_)
  have NHOo11 := Aside0.mk (HOo11.out.below hW_)
  have NHOo13 := Aside0.mk (HOo13.out.below hW_)
  have NHOo18 := Aside0.mk (HOo18.out.below hW_)
  have NHOo20 := Aside0.mk (HOo20.out.below hW_)
  have NHOo25 := Aside0.mk (HOo25.out.below hW_)
  have NHB := Aside0.mk (HB.out.trans (hW_.mono HB.out.size))
  clear hb hW_
  clear BX0
  have BX0 := NB0
  clear NB0
  clear BX1
  have BX1 := NB1
  clear NB1
  clear BX2
  have BX2 := NB2
  clear NB2
  skip
  have BX3 := NB3
  clear NB3
  clear HOo9
  have HOo9 := NHOo9
  clear NHOo9
  clear HOo11
  have HOo11 := NHOo11
  clear NHOo11
  clear HOo13
  have HOo13 := NHOo13
  clear NHOo13
  clear HOo18
  have HOo18 := NHOo18
  clear NHOo18
  clear HOo20
  have HOo20 := NHOo20
  clear NHOo20
  clear HOo25
  have HOo25 := NHOo25
  clear NHOo25
  clear HB
  have HB := NHB
  clear NHB
  try go_wp2_with fail
  refine start_ (n := 5) (S := fun w' => w'.cell? ⟨w17.heap.size, 0, none⟩ = some (.int .i64 r2) ∧ w'.cell? ⟨w17.heap.size, 1, none⟩ = some (.int .i64 r3) ∧ w'.cell? ⟨w17.heap.size, 2, none⟩ = some (.slice Ao18 r4.length co18) ∧ w'.cell? ⟨w.heap.size, 0, none⟩ = some (.int .i64 a1_0) ∧ w'.cell? ⟨w.heap.size, 1, none⟩ = some (.int .i64 a1_1) ∧ w'.cell? ⟨w.heap.size, 2, none⟩ = some (.slice A1_2 l1_2.length c1_2)) (ds := []) #[false, false, false, false, false] (by kernel_rfl) rfl rfl ⟨(blk_cell (blk_drew BX2.out) 0).trans rfl, (blk_cell (blk_drew BX2.out) 1).trans rfl, (blk_cell (blk_drew BX2.out) 2).trans rfl, (blk_cell (blk_drew BX0.out) 0).trans rfl, (blk_cell (blk_drew BX0.out) 1).trans rfl, (blk_cell (blk_drew BX0.out) 2).trans rfl⟩ (fun hHeld => ?_)
  have hW_ := below_drew1 (Below.refl w32.heap.size w32)
  have SZ3 := Aside0.mk (Nat.le_trans (Nat.le_refl w32.heap.size : w32.heap.size ≤ w32.heap.size) (below_drew1 (Below.refl w32.heap.size w32)).size)
  have NB0 := Aside0.mk (blk_drew BX0.out)
  have NB1 := Aside0.mk (blk_drew BX1.out)
  have NB2 := Aside0.mk (blk_drew BX2.out)
  have NB3 := Aside0.mk (blk_drew BX3.out)
  generalize w32.drew = w33 at hW_ hHeld SZ3 NB0 NB1 NB2 NB3 ⊢
  have NHOo9 := Aside0.mk (HOo9.out.below hW_)
  have NHOo11 := Aside0.mk (HOo11.out.below hW_)
  have NHOo13 := Aside0.mk (HOo13.out.below hW_)
  have NHOo18 := Aside0.mk (HOo18.out.below hW_)
  have NHOo20 := Aside0.mk (HOo20.out.below hW_)
  have NHOo25 := Aside0.mk (HOo25.out.below hW_)
  have NHB := Aside0.mk (HB.out.trans (hW_.mono HB.out.size))
  clear BX0
  have BX0 := NB0
  clear NB0
  clear BX1
  have BX1 := NB1
  clear NB1
  clear BX2
  have BX2 := NB2
  clear NB2
  clear BX3
  have BX3 := NB3
  clear NB3
  clear HOo9
  have HOo9 := NHOo9
  clear NHOo9
  clear HOo11
  have HOo11 := NHOo11
  clear NHOo11
  clear HOo13
  have HOo13 := NHOo13
  clear NHOo13
  clear HOo18
  have HOo18 := NHOo18
  clear NHOo18
  clear HOo20
  have HOo20 := NHOo20
  clear NHOo20
  clear HOo25
  have HOo25 := NHOo25
  clear NHOo25
  clear HB
  have HB := NHB
  clear NHB hW_
  refine take_ (i := 0) (N := some 56) (v := ?_) (a' := ?_) #[true, false, false, false, false] rfl rfl (by kernel_rfl) (fun _ _ _ h => h) (Or.inl ⟨by rfl, ?_⟩) hHeld ?_ ?_
  rotate_left
  · rintro w' ⟨s0, s1, s2, s3, s4, s5⟩
    go_simp
    with_reducible rfl
  rotate_left
  · simp only [Act.put, List.setIfInBounds_toArray, List.set_cons_zero, List.set_cons_succ, i64_w, i32_w]
    rfl
  refine take_ (i := 1) (N := some 57) (v := ?_) (a' := ?_) #[true, true, false, false, false] rfl rfl (by kernel_rfl) (fun _ _ _ h => h) (Or.inl ⟨by rfl, ?_⟩) hHeld ?_ ?_
  rotate_left
  · rintro w' ⟨s0, s1, s2, s3, s4, s5⟩
    go_simp
    with_reducible rfl
  rotate_left
  · simp only [Act.put, List.setIfInBounds_toArray, List.set_cons_zero, List.set_cons_succ, i64_w, i32_w]
    rfl
  have CK := Aside0.mk (laws_toTask.calls K2 a1_0 a1_1 A1_2 c1_2 l1_2 r2 r3 r4 w33 (Kd.C_below HR1_2.out HB.out) HC1_2.out G2.out)
  refine one_ (i := 2) (N := some 58) #[true, true, true, false, false] rfl rfl (by kernel_rfl) (by decide) (fun K hK => ?_)
  refine goes_ Try.func22 (by kernel_rfl) rfl #[.agg #[.int .i64 a1_0, .int .i64 a1_1, .slice A1_2 l1_2.length c1_2]] (by rfl) rfl rfl (by (try simp only [List.map_toArray, List.map_cons, List.map_nil]); first | done | rfl) ?_
  with_reducible refine CK.out.mono ?_
  rintro e w34 ⟨v2_, rfl, ho0, hb0⟩
  refine ⟨_, rfl, ?_⟩
  have hb := hb0
  clear CK hb0
  have hW_ : Below w33.heap.size w33 w34 := (Below.refl w33.heap.size w33).trans (hb.mono (Below.refl w33.heap.size w33).size)
  have NB0 := Aside0.mk ((hb.block _ (blk_lt BX0.out)).trans BX0.out)
  have NB1 := Aside0.mk ((hb.block _ (blk_lt BX1.out)).trans BX1.out)
  have NB2 := Aside0.mk ((hb.block _ (blk_lt BX2.out)).trans BX2.out)
  have NB3 := Aside0.mk ((hb.block _ (blk_lt BX3.out)).trans BX3.out)
  have NHOo9 := Aside0.mk (HOo9.out.below hW_)
  have NHOo11 := Aside0.mk (HOo11.out.below hW_)
  have NHOo13 := Aside0.mk (HOo13.out.below hW_)
  have NHOo18 := Aside0.mk (HOo18.out.below hW_)
  have NHOo20 := Aside0.mk (HOo20.out.below hW_)
  have NHOo25 := Aside0.mk (HOo25.out.below hW_)
  have NHB := Aside0.mk (HB.out.trans (hW_.mono HB.out.size))
  obtain ⟨lo7, elo7⟩ : ∃ n_, w33.heap.size = n_ := ⟨_, rfl⟩
  obtain ⟨hi7, ehi7⟩ : ∃ n_, w34.heap.size = n_ := ⟨_, rfl⟩
  have hn_0 := OwnI.new (W0 := w) HB.out.size hb.size ho0
  rw [elo7, ehi7] at hn_0
  obtain ⟨Ao35, co35, rfl⟩ := hn_0.slice
  have HOo35 := Aside0.mk hn_0
  clear hn_0 ho0
  have SP7 := Aside0.mk (And.intro (by have h_ := hb.size; rw [elo7, ehi7] at h_; exact h_ : lo7 ≤ hi7) (And.intro (Nat.le_of_eq elo7 : w33.heap.size ≤ lo7) (Nat.le_of_eq ehi7.symm : hi7 ≤ w34.heap.size)))
  clear hb hW_ elo7 ehi7
  clear BX0
  have BX0 := NB0
  clear NB0
  clear BX1
  have BX1 := NB1
  clear NB1
  clear BX2
  have BX2 := NB2
  clear NB2
  clear BX3
  have BX3 := NB3
  clear NB3
  clear HOo9
  have HOo9 := NHOo9
  clear NHOo9
  clear HOo11
  have HOo11 := NHOo11
  clear NHOo11
  clear HOo13
  have HOo13 := NHOo13
  clear NHOo13
  clear HOo18
  have HOo18 := NHOo18
  clear NHOo18
  clear HOo20
  have HOo20 := NHOo20
  clear NHOo20
  clear HOo25
  have HOo25 := NHOo25
  clear NHOo25
  clear HB
  have HB := NHB
  clear NHB
  refine hK.out _ _ ⟨(blk_cell BX2.out 0).trans rfl, (blk_cell BX2.out 1).trans rfl, (blk_cell BX2.out 2).trans rfl, (blk_cell BX0.out 0).trans rfl, (blk_cell BX0.out 1).trans rfl, (blk_cell BX0.out 2).trans rfl⟩ (fun hHeld => ?_)
  clear hK K
  refine norm_ (a' := ?_) ?_ ?_
  rotate_left
  · show Act.put _ (some 58) _ = _
    simp only [Act.put, List.setIfInBounds_toArray, List.set_cons_zero, List.set_cons_succ, i64_w, i32_w]
    rfl
  have CK := Aside0.mk (laws_eqTask.calls K7 r2 r3 Ao18 co18 r4 r2 r3 Ao35 co35 r4 true w34 (HOo18.out.below (Below.refl w34.heap.size w34)).C HOo18.out.room (HOo35.out.below (Below.refl w34.heap.size w34)).C HOo35.out.room G7.out)
  refine one_ (i := 3) (N := some 59) #[true, true, true, true, false] rfl rfl (by kernel_rfl) (by decide) (fun K hK => ?_)
  refine goes_ Try.func25 (by kernel_rfl) rfl #[.agg #[.int .i64 r2, .int .i64 r3, .slice Ao18 r4.length co18], .agg #[.int .i64 r2, .int .i64 r3, .slice Ao35 r4.length co35]] (by rfl) rfl rfl (by (try simp only [List.map_toArray, List.map_cons, List.map_nil]); first | done | rfl) ?_
  with_reducible refine CK.out.mono ?_
  rintro e w36 ⟨rfl, hb0⟩
  refine ⟨_, rfl, ?_⟩
  have hb := hb0
  clear CK hb0
  have hW_ : Below w34.heap.size w34 w36 := (Below.refl w34.heap.size w34).trans (hb.mono (Below.refl w34.heap.size w34).size)
  have SZ4 := Aside0.mk (Nat.le_trans (Nat.le_refl w34.heap.size : w34.heap.size ≤ w34.heap.size) hb.size)
  have NB0 := Aside0.mk ((hb.block _ (blk_lt BX0.out)).trans BX0.out)
  have NB1 := Aside0.mk ((hb.block _ (blk_lt BX1.out)).trans BX1.out)
  have NB2 := Aside0.mk ((hb.block _ (blk_lt BX2.out)).trans BX2.out)
  have NB3 := Aside0.mk ((hb.block _ (blk_lt BX3.out)).trans BX3.out)
  have NHOo9 := Aside0.mk (HOo9.out.below hW_)
  have NHOo11 := Aside0.mk (HOo11.out.below hW_)
  have NHOo13 := Aside0.mk (HOo13.out.below hW_)
  have NHOo18 := Aside0.mk (HOo18.out.below hW_)
  have NHOo20 := Aside0.mk (HOo20.out.below hW_)
  have NHOo25 := Aside0.mk (HOo25.out.below hW_)
  have NHOo35 := Aside0.mk (HOo35.out.below hW_)
  have NHB := Aside0.mk (HB.out.trans (hW_.mono HB.out.size))
  clear hb hW_
  clear BX0
  have BX0 := NB0
  clear NB0
  clear BX1
  have BX1 := NB1
  clear NB1
  clear BX2
  have BX2 := NB2
  clear NB2
  clear BX3
  have BX3 := NB3
  clear NB3
  clear HOo9
  have HOo9 := NHOo9
  clear NHOo9
  clear HOo11
  have HOo11 := NHOo11
  clear NHOo11
  clear HOo13
  have HOo13 := NHOo13
  clear NHOo13
  clear HOo18
  have HOo18 := NHOo18
  clear NHOo18
  clear HOo20
  have HOo20 := NHOo20
  clear NHOo20
  clear HOo25
  have HOo25 := NHOo25
  clear NHOo25
  clear HOo35
  have HOo35 := NHOo35
  clear NHOo35
  clear HB
  have HB := NHB
  clear NHB
  refine hK.out _ _ ⟨(blk_cell BX2.out 0).trans rfl, (blk_cell BX2.out 1).trans rfl, (blk_cell BX2.out 2).trans rfl, (blk_cell BX0.out 0).trans rfl, (blk_cell BX0.out 1).trans rfl, (blk_cell BX0.out 2).trans rfl⟩ (fun hHeld => ?_)
  clear hK K
  refine norm_ (a' := ?_) ?_ ?_
  rotate_left
  · show Act.put _ (some 59) _ = _
    simp only [Act.put, List.setIfInBounds_toArray, List.set_cons_zero, List.set_cons_succ, i64_w, i32_w]
    rfl
  refine pure_ (i := 4) (N := some 60) (v := ?_) (a' := ?_) #[true, true, true, true, true] rfl rfl (by kernel_rfl) (fun _ _ _ h => h) (Or.inl ⟨by rfl, ?_⟩) ?_ ?_
  rotate_left
  · intro w'
    go_simp
    with_reducible rfl
  rotate_left
  · simp only [Act.put, List.setIfInBounds_toArray, List.set_cons_zero, List.set_cons_succ, i64_w, i32_w]
    rfl
  refine done_ (by kernel_rfl) ?_
  clear hHeld
  have CK := Aside0.mk (laws_toIntS.calls K3 A2 c2 l2 r5 w36 (Kd.C_below HR2.out HB.out) HC2.out G3.out)
  go_wp2_with fail
  with_reducible refine CK.out.mono ?_
  rintro e w37 ⟨v0_, rfl, ho0, hb0⟩
  have hb := hb0
  clear CK hb0
  have hW_ : Below w36.heap.size w36 w37 := (Below.refl w36.heap.size w36).trans (hb.mono (Below.refl w36.heap.size w36).size)
  have NB0 := Aside0.mk ((hb.block _ (blk_lt BX0.out)).trans BX0.out)
  have NB1 := Aside0.mk ((hb.block _ (blk_lt BX1.out)).trans BX1.out)
  have NB2 := Aside0.mk ((hb.block _ (blk_lt BX2.out)).trans BX2.out)
  have NB3 := Aside0.mk ((hb.block _ (blk_lt BX3.out)).trans BX3.out)
  have NHOo9 := Aside0.mk (HOo9.out.below hW_)
  have NHOo11 := Aside0.mk (HOo11.out.below hW_)
  have NHOo13 := Aside0.mk (HOo13.out.below hW_)
  have NHOo18 := Aside0.mk (HOo18.out.below hW_)
  have NHOo20 := Aside0.mk (HOo20.out.below hW_)
  have NHOo25 := Aside0.mk (HOo25.out.below hW_)
  have NHOo35 := Aside0.mk (HOo35.out.below hW_)
  have NHB := Aside0.mk (HB.out.trans (hW_.mono HB.out.size))
  obtain ⟨lo8, elo8⟩ : ∃ n_, w36.heap.size = n_ := ⟨_, rfl⟩
  obtain ⟨hi8, ehi8⟩ : ∃ n_, w37.heap.size = n_ := ⟨_, rfl⟩
  have hn_0 := OwnI.new (W0 := w) HB.out.size hb.size ho0
  rw [elo8, ehi8] at hn_0
  obtain ⟨Ao38, co38, rfl⟩ := hn_0.slice
  have HOo38 := Aside0.mk hn_0
  clear hn_0 ho0
  have SP8 := Aside0.mk (And.intro (by have h_ := hb.size; rw [elo8, ehi8] at h_; exact h_ : lo8 ≤ hi8) (And.intro (Nat.le_of_eq elo8 : w36.heap.size ≤ lo8) (Nat.le_of_eq ehi8.symm : hi8 ≤ w37.heap.size)))
  clear hb hW_ elo8 ehi8
  clear BX0
  have BX0 := NB0
  clear NB0
  clear BX1
  have BX1 := NB1
  clear NB1
  clear BX2
  have BX2 := NB2
  clear NB2
  clear BX3
  have BX3 := NB3
  clear NB3
  clear HOo9
  have HOo9 := NHOo9
  clear NHOo9
  clear HOo11
  have HOo11 := NHOo11
  clear NHOo11
  clear HOo13
  have HOo13 := NHOo13
  clear NHOo13
  clear HOo18
  have HOo18 := NHOo18
  clear NHOo18
  clear HOo20
  have HOo20 := NHOo20
  clear NHOo20
  clear HOo25
  have HOo25 := NHOo25
  clear NHOo25
  clear HOo35
  have HOo35 := NHOo35
  clear NHOo35
  clear HB
  have HB := NHB
  clear NHB
  have CK := Aside0.mk (laws_eqIntS.calls K8 Ao20 co20 r5 Ao38 co38 r5 true w37 (HOo20.out.below (Below.refl w37.heap.size w37)).C HOo20.out.room (HOo38.out.below (Below.refl w37.heap.size w37)).C HOo38.out.room G8.out)
  go_wp2_with fail
  with_reducible refine CK.out.mono ?_
  rintro e w39 ⟨rfl, hb0⟩
  have hb := hb0.below
  clear CK hb0
  have hW_ : Below w37.heap.size w37 w39 := (Below.refl w37.heap.size w37).trans (hb.mono (Below.refl w37.heap.size w37).size)
  have SZ5 := Aside0.mk (Nat.le_trans (Nat.le_refl w37.heap.size : w37.heap.size ≤ w37.heap.size) hb.size)
  have NB0 := Aside0.mk ((hb.block _ (blk_lt BX0.out)).trans BX0.out)
  have NB1 := Aside0.mk ((hb.block _ (blk_lt BX1.out)).trans BX1.out)
  have NB2 := Aside0.mk ((hb.block _ (blk_lt BX2.out)).trans BX2.out)
  have NB3 := Aside0.mk ((hb.block _ (blk_lt BX3.out)).trans BX3.out)
  have NHOo9 := Aside0.mk (HOo9.out.below hW_)
  have NHOo11 := Aside0.mk (HOo11.out.below hW_)
  have NHOo13 := Aside0.mk (HOo13.out.below hW_)
  have NHOo18 := Aside0.mk (HOo18.out.below hW_)
  have NHOo20 := Aside0.mk (HOo20.out.below hW_)
  have NHOo25 := Aside0.mk (HOo25.out.below hW_)
  have NHOo35 := Aside0.mk (HOo35.out.below hW_)
  have NHOo38 := Aside0.mk (HOo38.out.below hW_)
  have NHB := Aside0.mk (HB.out.trans (hW_.mono HB.out.size))
  clear hb hW_
  clear BX0
  have BX0 := NB0
  clear NB0
  clear BX1
  have BX1 := NB1
  clear NB1
  clear BX2
  have BX2 := NB2
  clear NB2
  clear BX3
  have BX3 := NB3
  clear NB3
  clear HOo9
  have HOo9 := NHOo9
  clear NHOo9
  clear HOo11
  have HOo11 := NHOo11
  clear NHOo11
  clear HOo13
  have HOo13 := NHOo13
  clear NHOo13
  clear HOo18
  have HOo18 := NHOo18
  clear NHOo18
  clear HOo20
  have HOo20 := NHOo20
  clear NHOo20
  clear HOo25
  have HOo25 := NHOo25
  clear NHOo25
  clear HOo35
  have HOo35 := NHOo35
  clear NHOo35
  clear HOo38
  have HOo38 := NHOo38
  clear NHOo38
  clear HB
  have HB := NHB
  clear NHB
  have hx40 : w39.cell? ⟨w17.heap.size, 0, none⟩ = some (.int .i64 r2) := (blk_cell BX2.out 0).trans rfl
  have hx41 : w39.cell? ⟨w17.heap.size, 1, none⟩ = some (.int .i64 r3) := (blk_cell BX2.out 1).trans rfl
  have hx42 : w39.cell? ⟨w17.heap.size, 2, none⟩ = some (.slice Ao18 r4.length co18) := (blk_cell BX2.out 2).trans rfl
  have CK := Aside0.mk (lwTask (a := 1) (x := r2) (y := r3) HB.out (HOo18.out.below (Below.refl w39.heap.size w39)) (by skip; omega) HX2.out)
  go_wp2_with fail
  with_reducible refine CK.out.mono ?_
  rintro e w43 ⟨rfl, hb, hk⟩
  clear CK
  clear hx40 hx41 hx42
  have hK_ := (Kept.of_below (Below.refl w39.heap.size w39) (fun k => lo4 ≤ k ∧ k < hi4)).then_ hk (fun _ h_ => .inl h_)
  have SZ6 := Aside0.mk (Nat.le_trans (Nat.le_refl w39.heap.size : w39.heap.size ≤ w39.heap.size) hk.1)
  have NB0 := Aside0.mk (blkI BX0.out hk (by have s0_ := SZ1.out; have s1_ := SP1.out; have s2_ := SP2.out; have s3_ := SP3.out; have s4_ := SP4.out; have s5_ := SP5.out; have s6_ := SP6.out; have s7_ := SZ2.out; have s8_ := SZ3.out; have s9_ := SP7.out; have s10_ := SZ4.out; have s11_ := SP8.out; have s12_ := SZ5.out; have s13_ := SZ6.out; omega))
  have NB1 := Aside0.mk (blkI BX1.out hk (by have s0_ := SZ1.out; have s1_ := SP1.out; have s2_ := SP2.out; have s3_ := SP3.out; have s4_ := SP4.out; have s5_ := SP5.out; have s6_ := SP6.out; have s7_ := SZ2.out; have s8_ := SZ3.out; have s9_ := SP7.out; have s10_ := SZ4.out; have s11_ := SP8.out; have s12_ := SZ5.out; have s13_ := SZ6.out; omega))
  have NB2 := Aside0.mk (blkI BX2.out hk (by have s0_ := SZ1.out; have s1_ := SP1.out; have s2_ := SP2.out; have s3_ := SP3.out; have s4_ := SP4.out; have s5_ := SP5.out; have s6_ := SP6.out; have s7_ := SZ2.out; have s8_ := SZ3.out; have s9_ := SP7.out; have s10_ := SZ4.out; have s11_ := SP8.out; have s12_ := SZ5.out; have s13_ := SZ6.out; omega))
  have NB3 := Aside0.mk (blkI BX3.out hk (by have s0_ := SZ1.out; have s1_ := SP1.out; have s2_ := SP2.out; have s3_ := SP3.out; have s4_ := SP4.out; have s5_ := SP5.out; have s6_ := SP6.out; have s7_ := SZ2.out; have s8_ := SZ3.out; have s9_ := SP7.out; have s10_ := SZ4.out; have s11_ := SP8.out; have s12_ := SZ5.out; have s13_ := SZ6.out; omega))
  have NHOo9 := Aside0.mk ((HOo9.out.below (Below.refl w39.heap.size w39)).kept hk (by have s0_ := SZ1.out; have s1_ := SP1.out; have s2_ := SP2.out; have s3_ := SP3.out; have s4_ := SP4.out; have s5_ := SP5.out; have s6_ := SP6.out; have s7_ := SZ2.out; have s8_ := SZ3.out; have s9_ := SP7.out; have s10_ := SZ4.out; have s11_ := SP8.out; have s12_ := SZ5.out; have s13_ := SZ6.out; omega))
  have NHOo11 := Aside0.mk ((HOo11.out.below (Below.refl w39.heap.size w39)).kept hk (by have s0_ := SZ1.out; have s1_ := SP1.out; have s2_ := SP2.out; have s3_ := SP3.out; have s4_ := SP4.out; have s5_ := SP5.out; have s6_ := SP6.out; have s7_ := SZ2.out; have s8_ := SZ3.out; have s9_ := SP7.out; have s10_ := SZ4.out; have s11_ := SP8.out; have s12_ := SZ5.out; have s13_ := SZ6.out; omega))
  have NHOo13 := Aside0.mk ((HOo13.out.below (Below.refl w39.heap.size w39)).kept hk (by have s0_ := SZ1.out; have s1_ := SP1.out; have s2_ := SP2.out; have s3_ := SP3.out; have s4_ := SP4.out; have s5_ := SP5.out; have s6_ := SP6.out; have s7_ := SZ2.out; have s8_ := SZ3.out; have s9_ := SP7.out; have s10_ := SZ4.out; have s11_ := SP8.out; have s12_ := SZ5.out; have s13_ := SZ6.out; omega))
  have NHOo20 := Aside0.mk ((HOo20.out.below (Below.refl w39.heap.size w39)).kept hk (by have s0_ := SZ1.out; have s1_ := SP1.out; have s2_ := SP2.out; have s3_ := SP3.out; have s4_ := SP4.out; have s5_ := SP5.out; have s6_ := SP6.out; have s7_ := SZ2.out; have s8_ := SZ3.out; have s9_ := SP7.out; have s10_ := SZ4.out; have s11_ := SP8.out; have s12_ := SZ5.out; have s13_ := SZ6.out; omega))
  have NHOo25 := Aside0.mk ((HOo25.out.below (Below.refl w39.heap.size w39)).kept hk (by have s0_ := SZ1.out; have s1_ := SP1.out; have s2_ := SP2.out; have s3_ := SP3.out; have s4_ := SP4.out; have s5_ := SP5.out; have s6_ := SP6.out; have s7_ := SZ2.out; have s8_ := SZ3.out; have s9_ := SP7.out; have s10_ := SZ4.out; have s11_ := SP8.out; have s12_ := SZ5.out; have s13_ := SZ6.out; omega))
  have NHOo35 := Aside0.mk ((HOo35.out.below (Below.refl w39.heap.size w39)).kept hk (by have s0_ := SZ1.out; have s1_ := SP1.out; have s2_ := SP2.out; have s3_ := SP3.out; have s4_ := SP4.out; have s5_ := SP5.out; have s6_ := SP6.out; have s7_ := SZ2.out; have s8_ := SZ3.out; have s9_ := SP7.out; have s10_ := SZ4.out; have s11_ := SP8.out; have s12_ := SZ5.out; have s13_ := SZ6.out; omega))
  have NHOo38 := Aside0.mk ((HOo38.out.below (Below.refl w39.heap.size w39)).kept hk (by have s0_ := SZ1.out; have s1_ := SP1.out; have s2_ := SP2.out; have s3_ := SP3.out; have s4_ := SP4.out; have s5_ := SP5.out; have s6_ := SP6.out; have s7_ := SZ2.out; have s8_ := SZ3.out; have s9_ := SP7.out; have s10_ := SZ4.out; have s11_ := SP8.out; have s12_ := SZ5.out; have s13_ := SZ6.out; omega))
  have NHB := Aside0.mk hb
  clear BX0
  have BX0 := NB0
  clear NB0
  clear BX1
  have BX1 := NB1
  clear NB1
  clear BX2
  have BX2 := NB2
  clear NB2
  clear BX3
  have BX3 := NB3
  clear NB3
  clear HOo9
  have HOo9 := NHOo9
  clear NHOo9
  clear HOo11
  have HOo11 := NHOo11
  clear NHOo11
  clear HOo13
  have HOo13 := NHOo13
  clear NHOo13
  clear HOo20
  have HOo20 := NHOo20
  clear NHOo20
  clear HOo25
  have HOo25 := NHOo25
  clear NHOo25
  clear HOo35
  have HOo35 := NHOo35
  clear NHOo35
  clear HOo38
  have HOo38 := NHOo38
  clear NHOo38
  clear HOo18
  clear HB
  have HB := NHB
  clear NHB hk hb hK_
  have CK := Aside0.mk (lwInt K9 HB.out (HOo20.out.below (Below.refl w43.heap.size w43)) G9.out)
  go_wp2_with fail
  with_reducible refine CK.out.mono ?_
  rintro e w44 ⟨rfl, ho, hb, hk⟩
  clear CK
  have hK_ := (Kept.of_below (Below.refl w43.heap.size w43) (fun k => lo5 ≤ k ∧ k < hi5)).then_ hk (fun _ h_ => .inl h_)
  have SZ7 := Aside0.mk (Nat.le_trans (Nat.le_refl w43.heap.size : w43.heap.size ≤ w43.heap.size) hk.1)
  have NB0 := Aside0.mk (blkI BX0.out hk (by have s0_ := SZ1.out; have s1_ := SP1.out; have s2_ := SP2.out; have s3_ := SP3.out; have s4_ := SP4.out; have s5_ := SP5.out; have s6_ := SP6.out; have s7_ := SZ2.out; have s8_ := SZ3.out; have s9_ := SP7.out; have s10_ := SZ4.out; have s11_ := SP8.out; have s12_ := SZ5.out; have s13_ := SZ6.out; have s14_ := SZ7.out; omega))
  have NB1 := Aside0.mk (blkI BX1.out hk (by have s0_ := SZ1.out; have s1_ := SP1.out; have s2_ := SP2.out; have s3_ := SP3.out; have s4_ := SP4.out; have s5_ := SP5.out; have s6_ := SP6.out; have s7_ := SZ2.out; have s8_ := SZ3.out; have s9_ := SP7.out; have s10_ := SZ4.out; have s11_ := SP8.out; have s12_ := SZ5.out; have s13_ := SZ6.out; have s14_ := SZ7.out; omega))
  have NB2 := Aside0.mk (blkI BX2.out hk (by have s0_ := SZ1.out; have s1_ := SP1.out; have s2_ := SP2.out; have s3_ := SP3.out; have s4_ := SP4.out; have s5_ := SP5.out; have s6_ := SP6.out; have s7_ := SZ2.out; have s8_ := SZ3.out; have s9_ := SP7.out; have s10_ := SZ4.out; have s11_ := SP8.out; have s12_ := SZ5.out; have s13_ := SZ6.out; have s14_ := SZ7.out; omega))
  have NB3 := Aside0.mk (blkI BX3.out hk (by have s0_ := SZ1.out; have s1_ := SP1.out; have s2_ := SP2.out; have s3_ := SP3.out; have s4_ := SP4.out; have s5_ := SP5.out; have s6_ := SP6.out; have s7_ := SZ2.out; have s8_ := SZ3.out; have s9_ := SP7.out; have s10_ := SZ4.out; have s11_ := SP8.out; have s12_ := SZ5.out; have s13_ := SZ6.out; have s14_ := SZ7.out; omega))
  have NHOo9 := Aside0.mk ((HOo9.out.below (Below.refl w43.heap.size w43)).kept hk (by have s0_ := SZ1.out; have s1_ := SP1.out; have s2_ := SP2.out; have s3_ := SP3.out; have s4_ := SP4.out; have s5_ := SP5.out; have s6_ := SP6.out; have s7_ := SZ2.out; have s8_ := SZ3.out; have s9_ := SP7.out; have s10_ := SZ4.out; have s11_ := SP8.out; have s12_ := SZ5.out; have s13_ := SZ6.out; have s14_ := SZ7.out; omega))
  have NHOo11 := Aside0.mk ((HOo11.out.below (Below.refl w43.heap.size w43)).kept hk (by have s0_ := SZ1.out; have s1_ := SP1.out; have s2_ := SP2.out; have s3_ := SP3.out; have s4_ := SP4.out; have s5_ := SP5.out; have s6_ := SP6.out; have s7_ := SZ2.out; have s8_ := SZ3.out; have s9_ := SP7.out; have s10_ := SZ4.out; have s11_ := SP8.out; have s12_ := SZ5.out; have s13_ := SZ6.out; have s14_ := SZ7.out; omega))
  have NHOo13 := Aside0.mk ((HOo13.out.below (Below.refl w43.heap.size w43)).kept hk (by have s0_ := SZ1.out; have s1_ := SP1.out; have s2_ := SP2.out; have s3_ := SP3.out; have s4_ := SP4.out; have s5_ := SP5.out; have s6_ := SP6.out; have s7_ := SZ2.out; have s8_ := SZ3.out; have s9_ := SP7.out; have s10_ := SZ4.out; have s11_ := SP8.out; have s12_ := SZ5.out; have s13_ := SZ6.out; have s14_ := SZ7.out; omega))
  have NHOo25 := Aside0.mk ((HOo25.out.below (Below.refl w43.heap.size w43)).kept hk (by have s0_ := SZ1.out; have s1_ := SP1.out; have s2_ := SP2.out; have s3_ := SP3.out; have s4_ := SP4.out; have s5_ := SP5.out; have s6_ := SP6.out; have s7_ := SZ2.out; have s8_ := SZ3.out; have s9_ := SP7.out; have s10_ := SZ4.out; have s11_ := SP8.out; have s12_ := SZ5.out; have s13_ := SZ6.out; have s14_ := SZ7.out; omega))
  have NHOo35 := Aside0.mk ((HOo35.out.below (Below.refl w43.heap.size w43)).kept hk (by have s0_ := SZ1.out; have s1_ := SP1.out; have s2_ := SP2.out; have s3_ := SP3.out; have s4_ := SP4.out; have s5_ := SP5.out; have s6_ := SP6.out; have s7_ := SZ2.out; have s8_ := SZ3.out; have s9_ := SP7.out; have s10_ := SZ4.out; have s11_ := SP8.out; have s12_ := SZ5.out; have s13_ := SZ6.out; have s14_ := SZ7.out; omega))
  have NHOo38 := Aside0.mk ((HOo38.out.below (Below.refl w43.heap.size w43)).kept hk (by have s0_ := SZ1.out; have s1_ := SP1.out; have s2_ := SP2.out; have s3_ := SP3.out; have s4_ := SP4.out; have s5_ := SP5.out; have s6_ := SP6.out; have s7_ := SZ2.out; have s8_ := SZ3.out; have s9_ := SP7.out; have s10_ := SZ4.out; have s11_ := SP8.out; have s12_ := SZ5.out; have s13_ := SZ6.out; have s14_ := SZ7.out; omega))
  have NHOo20 := Aside0.mk ho
  have NHB := Aside0.mk hb
  clear BX0
  have BX0 := NB0
  clear NB0
  clear BX1
  have BX1 := NB1
  clear NB1
  clear BX2
  have BX2 := NB2
  clear NB2
  clear BX3
  have BX3 := NB3
  clear NB3
  clear HOo9
  have HOo9 := NHOo9
  clear NHOo9
  clear HOo11
  have HOo11 := NHOo11
  clear NHOo11
  clear HOo13
  have HOo13 := NHOo13
  clear NHOo13
  clear HOo20
  have HOo20 := NHOo20
  clear NHOo20
  clear HOo25
  have HOo25 := NHOo25
  clear NHOo25
  clear HOo35
  have HOo35 := NHOo35
  clear NHOo35
  clear HOo38
  have HOo38 := NHOo38
  clear NHOo38
  have HLo20 := Aside0.mk (ho.len : m10.length = r5.length)
  clear HB
  have HB := NHB
  clear NHB hk hb hK_ ho
  have hx45 : w44.cell? ⟨w24.heap.size, 0, none⟩ = some (.int .i64 r6) := (blk_cell BX3.out 0).trans rfl
  have hx46 : w44.cell? ⟨w24.heap.size, 1, none⟩ = some (.slice Ao25 r7.length co25) := (blk_cell BX3.out 1).trans rfl
  have hx47 : w44.cell? ⟨w24.heap.size, 2, none⟩ = some (.int .i64 r8) := (blk_cell BX3.out 2).trans rfl
  have hx48 : w44.cell? ⟨w12.heap.size, 0, none⟩ = some (.int .i64 r6) := (blk_cell BX1.out 0).trans rfl
  have hx49 : w44.cell? ⟨w12.heap.size, 1, none⟩ = some (.slice Ao13 r7.length co13) := (blk_cell BX1.out 1).trans rfl
  have hx50 : w44.cell? ⟨w12.heap.size, 2, none⟩ = some (.int .i64 r8) := (blk_cell BX1.out 2).trans rfl
  have CK := Aside0.mk (laws_eqTrace.calls K6 r6 Ao25 co25 r7 r8 r6 Ao13 co13 r7 r8 true w44 (HOo25.out.below (Below.refl w44.heap.size w44)).C HOo25.out.room (HOo13.out.below (Below.refl w44.heap.size w44)).C HOo13.out.room G6.out)
  go_wp2_with fail
  with_reducible refine CK.out.mono ?_
  rintro e w51 ⟨rfl, hb0⟩
  have hb := hb0
  clear CK hb0
  clear hx45 hx46 hx47 hx48 hx49 hx50
  have hW_ : Below w44.heap.size w44 w51 := (Below.refl w44.heap.size w44).trans (hb.mono (Below.refl w44.heap.size w44).size)
  have SZ8 := Aside0.mk (Nat.le_trans (Nat.le_refl w44.heap.size : w44.heap.size ≤ w44.heap.size) hb.size)
  have NB0 := Aside0.mk ((hb.block _ (blk_lt BX0.out)).trans BX0.out)
  have NB1 := Aside0.mk ((hb.block _ (blk_lt BX1.out)).trans BX1.out)
  have NB2 := Aside0.mk ((hb.block _ (blk_lt BX2.out)).trans BX2.out)
  have NB3 := Aside0.mk ((hb.block _ (blk_lt BX3.out)).trans BX3.out)
  have NHOo9 := Aside0.mk (HOo9.out.below hW_)
  have NHOo11 := Aside0.mk (HOo11.out.below hW_)
  have NHOo13 := Aside0.mk (HOo13.out.below hW_)
  have NHOo20 := Aside0.mk (HOo20.out.below hW_)
  have NHOo25 := Aside0.mk (HOo25.out.below hW_)
  have NHOo35 := Aside0.mk (HOo35.out.below hW_)
  have NHOo38 := Aside0.mk (HOo38.out.below hW_)
  have NHB := Aside0.mk (HB.out.trans (hW_.mono HB.out.size))
  clear hb hW_
  clear BX0
  have BX0 := NB0
  clear NB0
  clear BX1
  have BX1 := NB1
  clear NB1
  clear BX2
  have BX2 := NB2
  clear NB2
  clear BX3
  have BX3 := NB3
  clear NB3
  clear HOo9
  have HOo9 := NHOo9
  clear NHOo9
  clear HOo11
  have HOo11 := NHOo11
  clear NHOo11
  clear HOo13
  have HOo13 := NHOo13
  clear NHOo13
  clear HOo20
  have HOo20 := NHOo20
  clear NHOo20
  clear HOo25
  have HOo25 := NHOo25
  clear NHOo25
  clear HOo35
  have HOo35 := NHOo35
  clear NHOo35
  clear HOo38
  have HOo38 := NHOo38
  clear NHOo38
  clear HB
  have HB := NHB
  clear NHB
  have hx52 : w51.cell? ⟨w24.heap.size, 0, none⟩ = some (.int .i64 r6) := (blk_cell BX3.out 0).trans rfl
  have hx53 : w51.cell? ⟨w24.heap.size, 1, none⟩ = some (.slice Ao25 r7.length co25) := (blk_cell BX3.out 1).trans rfl
  have hx54 : w51.cell? ⟨w24.heap.size, 2, none⟩ = some (.int .i64 r8) := (blk_cell BX3.out 2).trans rfl
  have CK := Aside0.mk (lwTrace K10 HB.out (HOo25.out.below (Below.refl w51.heap.size w51)) G10.out)
  go_wp2_with fail
  with_reducible refine CK.out.mono ?_
  rintro e w55 ⟨rfl, ho, hb, hk⟩
  clear CK
  clear hx52 hx53 hx54
  have hK_ := (Kept.of_below (Below.refl w51.heap.size w51) (fun k => lo6 ≤ k ∧ k < hi6)).then_ hk (fun _ h_ => .inl h_)
  have SZ9 := Aside0.mk (Nat.le_trans (Nat.le_refl w51.heap.size : w51.heap.size ≤ w51.heap.size) hk.1)
  have NB0 := Aside0.mk (blkI BX0.out hk (by have s0_ := SZ1.out; have s1_ := SP1.out; have s2_ := SP2.out; have s3_ := SP3.out; have s4_ := SP4.out; have s5_ := SP5.out; have s6_ := SP6.out; have s7_ := SZ2.out; have s8_ := SZ3.out; have s9_ := SP7.out; have s10_ := SZ4.out; have s11_ := SP8.out; have s12_ := SZ5.out; have s13_ := SZ6.out; have s14_ := SZ7.out; have s15_ := SZ8.out; have s16_ := SZ9.out; omega))
  have NB1 := Aside0.mk (blkI BX1.out hk (by have s0_ := SZ1.out; have s1_ := SP1.out; have s2_ := SP2.out; have s3_ := SP3.out; have s4_ := SP4.out; have s5_ := SP5.out; have s6_ := SP6.out; have s7_ := SZ2.out; have s8_ := SZ3.out; have s9_ := SP7.out; have s10_ := SZ4.out; have s11_ := SP8.out; have s12_ := SZ5.out; have s13_ := SZ6.out; have s14_ := SZ7.out; have s15_ := SZ8.out; have s16_ := SZ9.out; omega))
  have NB2 := Aside0.mk (blkI BX2.out hk (by have s0_ := SZ1.out; have s1_ := SP1.out; have s2_ := SP2.out; have s3_ := SP3.out; have s4_ := SP4.out; have s5_ := SP5.out; have s6_ := SP6.out; have s7_ := SZ2.out; have s8_ := SZ3.out; have s9_ := SP7.out; have s10_ := SZ4.out; have s11_ := SP8.out; have s12_ := SZ5.out; have s13_ := SZ6.out; have s14_ := SZ7.out; have s15_ := SZ8.out; have s16_ := SZ9.out; omega))
  have NB3 := Aside0.mk (blkI BX3.out hk (by have s0_ := SZ1.out; have s1_ := SP1.out; have s2_ := SP2.out; have s3_ := SP3.out; have s4_ := SP4.out; have s5_ := SP5.out; have s6_ := SP6.out; have s7_ := SZ2.out; have s8_ := SZ3.out; have s9_ := SP7.out; have s10_ := SZ4.out; have s11_ := SP8.out; have s12_ := SZ5.out; have s13_ := SZ6.out; have s14_ := SZ7.out; have s15_ := SZ8.out; have s16_ := SZ9.out; omega))
  have NHOo9 := Aside0.mk ((HOo9.out.below (Below.refl w51.heap.size w51)).kept hk (by have s0_ := SZ1.out; have s1_ := SP1.out; have s2_ := SP2.out; have s3_ := SP3.out; have s4_ := SP4.out; have s5_ := SP5.out; have s6_ := SP6.out; have s7_ := SZ2.out; have s8_ := SZ3.out; have s9_ := SP7.out; have s10_ := SZ4.out; have s11_ := SP8.out; have s12_ := SZ5.out; have s13_ := SZ6.out; have s14_ := SZ7.out; have s15_ := SZ8.out; have s16_ := SZ9.out; omega))
  have NHOo11 := Aside0.mk ((HOo11.out.below (Below.refl w51.heap.size w51)).kept hk (by have s0_ := SZ1.out; have s1_ := SP1.out; have s2_ := SP2.out; have s3_ := SP3.out; have s4_ := SP4.out; have s5_ := SP5.out; have s6_ := SP6.out; have s7_ := SZ2.out; have s8_ := SZ3.out; have s9_ := SP7.out; have s10_ := SZ4.out; have s11_ := SP8.out; have s12_ := SZ5.out; have s13_ := SZ6.out; have s14_ := SZ7.out; have s15_ := SZ8.out; have s16_ := SZ9.out; omega))
  have NHOo13 := Aside0.mk ((HOo13.out.below (Below.refl w51.heap.size w51)).kept hk (by have s0_ := SZ1.out; have s1_ := SP1.out; have s2_ := SP2.out; have s3_ := SP3.out; have s4_ := SP4.out; have s5_ := SP5.out; have s6_ := SP6.out; have s7_ := SZ2.out; have s8_ := SZ3.out; have s9_ := SP7.out; have s10_ := SZ4.out; have s11_ := SP8.out; have s12_ := SZ5.out; have s13_ := SZ6.out; have s14_ := SZ7.out; have s15_ := SZ8.out; have s16_ := SZ9.out; omega))
  have NHOo20 := Aside0.mk ((HOo20.out.below (Below.refl w51.heap.size w51)).kept hk (by have s0_ := SZ1.out; have s1_ := SP1.out; have s2_ := SP2.out; have s3_ := SP3.out; have s4_ := SP4.out; have s5_ := SP5.out; have s6_ := SP6.out; have s7_ := SZ2.out; have s8_ := SZ3.out; have s9_ := SP7.out; have s10_ := SZ4.out; have s11_ := SP8.out; have s12_ := SZ5.out; have s13_ := SZ6.out; have s14_ := SZ7.out; have s15_ := SZ8.out; have s16_ := SZ9.out; omega))
  have NHOo35 := Aside0.mk ((HOo35.out.below (Below.refl w51.heap.size w51)).kept hk (by have s0_ := SZ1.out; have s1_ := SP1.out; have s2_ := SP2.out; have s3_ := SP3.out; have s4_ := SP4.out; have s5_ := SP5.out; have s6_ := SP6.out; have s7_ := SZ2.out; have s8_ := SZ3.out; have s9_ := SP7.out; have s10_ := SZ4.out; have s11_ := SP8.out; have s12_ := SZ5.out; have s13_ := SZ6.out; have s14_ := SZ7.out; have s15_ := SZ8.out; have s16_ := SZ9.out; omega))
  have NHOo38 := Aside0.mk ((HOo38.out.below (Below.refl w51.heap.size w51)).kept hk (by have s0_ := SZ1.out; have s1_ := SP1.out; have s2_ := SP2.out; have s3_ := SP3.out; have s4_ := SP4.out; have s5_ := SP5.out; have s6_ := SP6.out; have s7_ := SZ2.out; have s8_ := SZ3.out; have s9_ := SP7.out; have s10_ := SZ4.out; have s11_ := SP8.out; have s12_ := SZ5.out; have s13_ := SZ6.out; have s14_ := SZ7.out; have s15_ := SZ8.out; have s16_ := SZ9.out; omega))
  have NHOo25 := Aside0.mk ho
  have NHB := Aside0.mk hb
  clear BX0
  have BX0 := NB0
  clear NB0
  clear BX1
  have BX1 := NB1
  clear NB1
  clear BX2
  have BX2 := NB2
  clear NB2
  clear BX3
  have BX3 := NB3
  clear NB3
  clear HOo9
  have HOo9 := NHOo9
  clear NHOo9
  clear HOo11
  have HOo11 := NHOo11
  clear NHOo11
  clear HOo13
  have HOo13 := NHOo13
  clear NHOo13
  clear HOo20
  have HOo20 := NHOo20
  clear NHOo20
  clear HOo25
  have HOo25 := NHOo25
  clear NHOo25
  clear HOo35
  have HOo35 := NHOo35
  clear NHOo35
  clear HOo38
  have HOo38 := NHOo38
  clear NHOo38
  have HLo25 := Aside0.mk (ho.len : m12.length = r7.length)
  clear HB
  have HB := NHB
  clear NHB hk hb hK_ ho
  have hx56 : w55.cell? ⟨w24.heap.size, 0, none⟩ = some (.int .i64 r6) := (blk_cell BX3.out 0).trans rfl
  have hx57 : w55.cell? ⟨w24.heap.size, 1, none⟩ = some (.slice Ao25 r7.length co25) := (blk_cell BX3.out 1).trans rfl
  have hx58 : w55.cell? ⟨w24.heap.size, 2, none⟩ = some (.int .i64 r8) := (blk_cell BX3.out 2).trans rfl
  have CK0 := laws_heldTrace.calls K11 r6 Ao25 co25 m12 r8 1 k13 w55 (HOo25.out.below (Below.refl w55.heap.size w55)).C HOo25.out.room G11.out
  rw [HLo25.out] at CK0
  have CK := Aside0.mk CK0
  clear CK0
  go_wp2_with fail
  with_reducible refine CK.out.mono ?_
  rintro e w59 ⟨rfl, hb0⟩
  have hb := hb0
  clear CK hb0
  clear hx56 hx57 hx58
  have hW_ : Below w55.heap.size w55 w59 := (Below.refl w55.heap.size w55).trans (hb.mono (Below.refl w55.heap.size w55).size)
  have SZ10 := Aside0.mk (Nat.le_trans (Nat.le_refl w55.heap.size : w55.heap.size ≤ w55.heap.size) hb.size)
  have NB0 := Aside0.mk ((hb.block _ (blk_lt BX0.out)).trans BX0.out)
  have NB1 := Aside0.mk ((hb.block _ (blk_lt BX1.out)).trans BX1.out)
  have NB2 := Aside0.mk ((hb.block _ (blk_lt BX2.out)).trans BX2.out)
  have NB3 := Aside0.mk ((hb.block _ (blk_lt BX3.out)).trans BX3.out)
  have NHOo9 := Aside0.mk (HOo9.out.below hW_)
  have NHOo11 := Aside0.mk (HOo11.out.below hW_)
  have NHOo13 := Aside0.mk (HOo13.out.below hW_)
  have NHOo20 := Aside0.mk (HOo20.out.below hW_)
  have NHOo25 := Aside0.mk (HOo25.out.below hW_)
  have NHOo35 := Aside0.mk (HOo35.out.below hW_)
  have NHOo38 := Aside0.mk (HOo38.out.below hW_)
  have NHB := Aside0.mk (HB.out.trans (hW_.mono HB.out.size))
  clear hb hW_
  clear BX0
  have BX0 := NB0
  clear NB0
  clear BX1
  have BX1 := NB1
  clear NB1
  clear BX2
  have BX2 := NB2
  clear NB2
  clear BX3
  have BX3 := NB3
  clear NB3
  clear HOo9
  have HOo9 := NHOo9
  clear NHOo9
  clear HOo11
  have HOo11 := NHOo11
  clear NHOo11
  clear HOo13
  have HOo13 := NHOo13
  clear NHOo13
  clear HOo20
  have HOo20 := NHOo20
  clear NHOo20
  clear HOo25
  have HOo25 := NHOo25
  clear NHOo25
  clear HOo35
  have HOo35 := NHOo35
  clear NHOo35
  clear HOo38
  have HOo38 := NHOo38
  clear NHOo38
  clear HB
  have HB := NHB
  clear NHB
  have hx60 : w59.cell? ⟨w.heap.size, 0, none⟩ = some (.int .i64 a1_0) := (blk_cell BX0.out 0).trans rfl
  have hx61 : w59.cell? ⟨w.heap.size, 1, none⟩ = some (.int .i64 a1_1) := (blk_cell BX0.out 1).trans rfl
  have hx62 : w59.cell? ⟨w.heap.size, 2, none⟩ = some (.slice A1_2 l1_2.length c1_2) := (blk_cell BX0.out 2).trans rfl
  have CK := Aside0.mk (laws_toTask.calls K2 a1_0 a1_1 A1_2 c1_2 l1_2 r2 r3 r4 w59 (Kd.C_below HR1_2.out HB.out) HC1_2.out G2.out)
  go_wp2_with fail
  with_reducible refine CK.out.mono ?_
  rintro e w63 ⟨v2_, rfl, ho0, hb0⟩
  have hb := hb0
  clear CK hb0
  clear hx60 hx61 hx62
  have hW_ : Below w59.heap.size w59 w63 := (Below.refl w59.heap.size w59).trans (hb.mono (Below.refl w59.heap.size w59).size)
  have NB0 := Aside0.mk ((hb.block _ (blk_lt BX0.out)).trans BX0.out)
  have NB1 := Aside0.mk ((hb.block _ (blk_lt BX1.out)).trans BX1.out)
  have NB2 := Aside0.mk ((hb.block _ (blk_lt BX2.out)).trans BX2.out)
  have NB3 := Aside0.mk ((hb.block _ (blk_lt BX3.out)).trans BX3.out)
  have NHOo9 := Aside0.mk (HOo9.out.below hW_)
  have NHOo11 := Aside0.mk (HOo11.out.below hW_)
  have NHOo13 := Aside0.mk (HOo13.out.below hW_)
  have NHOo20 := Aside0.mk (HOo20.out.below hW_)
  have NHOo25 := Aside0.mk (HOo25.out.below hW_)
  have NHOo35 := Aside0.mk (HOo35.out.below hW_)
  have NHOo38 := Aside0.mk (HOo38.out.below hW_)
  have NHB := Aside0.mk (HB.out.trans (hW_.mono HB.out.size))
  obtain ⟨lo9, elo9⟩ : ∃ n_, w59.heap.size = n_ := ⟨_, rfl⟩
  obtain ⟨hi9, ehi9⟩ : ∃ n_, w63.heap.size = n_ := ⟨_, rfl⟩
  have hn_0 := OwnI.new (W0 := w) HB.out.size hb.size ho0
  rw [elo9, ehi9] at hn_0
  obtain ⟨Ao64, co64, rfl⟩ := hn_0.slice
  have HOo64 := Aside0.mk hn_0
  clear hn_0 ho0
  have SP9 := Aside0.mk (And.intro (by have h_ := hb.size; rw [elo9, ehi9] at h_; exact h_ : lo9 ≤ hi9) (And.intro (Nat.le_of_eq elo9 : w59.heap.size ≤ lo9) (Nat.le_of_eq ehi9.symm : hi9 ≤ w63.heap.size)))
  clear hb hW_ elo9 ehi9
  clear BX0
  have BX0 := NB0
  clear NB0
  clear BX1
  have BX1 := NB1
  clear NB1
  clear BX2
  have BX2 := NB2
  clear NB2
  clear BX3
  have BX3 := NB3
  clear NB3
  clear HOo9
  have HOo9 := NHOo9
  clear NHOo9
  clear HOo11
  have HOo11 := NHOo11
  clear NHOo11
  clear HOo13
  have HOo13 := NHOo13
  clear NHOo13
  clear HOo20
  have HOo20 := NHOo20
  clear NHOo20
  clear HOo25
  have HOo25 := NHOo25
  clear NHOo25
  clear HOo35
  have HOo35 := NHOo35
  clear NHOo35
  clear HOo38
  have HOo38 := NHOo38
  clear NHOo38
  clear HB
  have HB := NHB
  clear NHB
  have CK := Aside0.mk (laws_toIntS.calls K3 A2 c2 l2 r5 w63 (Kd.C_below HR2.out HB.out) HC2.out G3.out)
  go_wp2_with fail
  with_reducible refine CK.out.mono ?_
  rintro e w65 ⟨v0_, rfl, ho0, hb0⟩
  have hb := hb0
  clear CK hb0
  have hW_ : Below w63.heap.size w63 w65 := (Below.refl w63.heap.size w63).trans (hb.mono (Below.refl w63.heap.size w63).size)
  have NB0 := Aside0.mk ((hb.block _ (blk_lt BX0.out)).trans BX0.out)
  have NB1 := Aside0.mk ((hb.block _ (blk_lt BX1.out)).trans BX1.out)
  have NB2 := Aside0.mk ((hb.block _ (blk_lt BX2.out)).trans BX2.out)
  have NB3 := Aside0.mk ((hb.block _ (blk_lt BX3.out)).trans BX3.out)
  have NHOo9 := Aside0.mk (HOo9.out.below hW_)
  have NHOo11 := Aside0.mk (HOo11.out.below hW_)
  have NHOo13 := Aside0.mk (HOo13.out.below hW_)
  have NHOo20 := Aside0.mk (HOo20.out.below hW_)
  have NHOo25 := Aside0.mk (HOo25.out.below hW_)
  have NHOo35 := Aside0.mk (HOo35.out.below hW_)
  have NHOo38 := Aside0.mk (HOo38.out.below hW_)
  have NHOo64 := Aside0.mk (HOo64.out.below hW_)
  have NHB := Aside0.mk (HB.out.trans (hW_.mono HB.out.size))
  obtain ⟨lo10, elo10⟩ : ∃ n_, w63.heap.size = n_ := ⟨_, rfl⟩
  obtain ⟨hi10, ehi10⟩ : ∃ n_, w65.heap.size = n_ := ⟨_, rfl⟩
  have hn_0 := OwnI.new (W0 := w) HB.out.size hb.size ho0
  rw [elo10, ehi10] at hn_0
  obtain ⟨Ao66, co66, rfl⟩ := hn_0.slice
  have HOo66 := Aside0.mk hn_0
  clear hn_0 ho0
  have SP10 := Aside0.mk (And.intro (by have h_ := hb.size; rw [elo10, ehi10] at h_; exact h_ : lo10 ≤ hi10) (And.intro (Nat.le_of_eq elo10 : w63.heap.size ≤ lo10) (Nat.le_of_eq ehi10.symm : hi10 ≤ w65.heap.size)))
  clear hb hW_ elo10 ehi10
  clear BX0
  have BX0 := NB0
  clear NB0
  clear BX1
  have BX1 := NB1
  clear NB1
  clear BX2
  have BX2 := NB2
  clear NB2
  clear BX3
  have BX3 := NB3
  clear NB3
  clear HOo9
  have HOo9 := NHOo9
  clear NHOo9
  clear HOo11
  have HOo11 := NHOo11
  clear NHOo11
  clear HOo13
  have HOo13 := NHOo13
  clear NHOo13
  clear HOo20
  have HOo20 := NHOo20
  clear NHOo20
  clear HOo25
  have HOo25 := NHOo25
  clear NHOo25
  clear HOo35
  have HOo35 := NHOo35
  clear NHOo35
  clear HOo38
  have HOo38 := NHOo38
  clear NHOo38
  clear HOo64
  have HOo64 := NHOo64
  clear NHOo64
  clear HB
  have HB := NHB
  clear NHB
  have CK := Aside0.mk (impl_TraceOf.calls K5 a0 r2 r3 Ao64 co64 r4 Ao66 co66 r5 r6 r7 r8 r9 w65 (HOo64.out.below (Below.refl w65.heap.size w65)).C HOo64.out.room (HOo66.out.below (Below.refl w65.heap.size w65)).C HOo66.out.room G5.out)
  go_wp2_with fail
  with_reducible refine CK.out.mono ?_
  rintro e w67 ⟨v1_, rfl, ho0, hb0⟩
  have hb := hb0
  clear CK hb0
  have hW_ : Below w65.heap.size w65 w67 := (Below.refl w65.heap.size w65).trans (hb.mono (Below.refl w65.heap.size w65).size)
  have NB0 := Aside0.mk ((hb.block _ (blk_lt BX0.out)).trans BX0.out)
  have NB1 := Aside0.mk ((hb.block _ (blk_lt BX1.out)).trans BX1.out)
  have NB2 := Aside0.mk ((hb.block _ (blk_lt BX2.out)).trans BX2.out)
  have NB3 := Aside0.mk ((hb.block _ (blk_lt BX3.out)).trans BX3.out)
  have NHOo9 := Aside0.mk (HOo9.out.below hW_)
  have NHOo11 := Aside0.mk (HOo11.out.below hW_)
  have NHOo13 := Aside0.mk (HOo13.out.below hW_)
  have NHOo20 := Aside0.mk (HOo20.out.below hW_)
  have NHOo25 := Aside0.mk (HOo25.out.below hW_)
  have NHOo35 := Aside0.mk (HOo35.out.below hW_)
  have NHOo38 := Aside0.mk (HOo38.out.below hW_)
  have NHOo64 := Aside0.mk (HOo64.out.below hW_)
  have NHOo66 := Aside0.mk (HOo66.out.below hW_)
  have NHB := Aside0.mk (HB.out.trans (hW_.mono HB.out.size))
  obtain ⟨lo11, elo11⟩ : ∃ n_, w65.heap.size = n_ := ⟨_, rfl⟩
  obtain ⟨hi11, ehi11⟩ : ∃ n_, w67.heap.size = n_ := ⟨_, rfl⟩
  have hn_0 := OwnI.new (W0 := w) HB.out.size hb.size ho0
  rw [elo11, ehi11] at hn_0
  obtain ⟨Ao68, co68, rfl⟩ := hn_0.slice
  have HOo68 := Aside0.mk hn_0
  clear hn_0 ho0
  have SP11 := Aside0.mk (And.intro (by have h_ := hb.size; rw [elo11, ehi11] at h_; exact h_ : lo11 ≤ hi11) (And.intro (Nat.le_of_eq elo11 : w65.heap.size ≤ lo11) (Nat.le_of_eq ehi11.symm : hi11 ≤ w67.heap.size)))
  clear hb hW_ elo11 ehi11
  clear BX0
  have BX0 := NB0
  clear NB0
  clear BX1
  have BX1 := NB1
  clear NB1
  clear BX2
  have BX2 := NB2
  clear NB2
  clear BX3
  have BX3 := NB3
  clear NB3
  clear HOo9
  have HOo9 := NHOo9
  clear NHOo9
  clear HOo11
  have HOo11 := NHOo11
  clear NHOo11
  clear HOo13
  have HOo13 := NHOo13
  clear NHOo13
  clear HOo20
  have HOo20 := NHOo20
  clear NHOo20
  clear HOo25
  have HOo25 := NHOo25
  clear NHOo25
  clear HOo35
  have HOo35 := NHOo35
  clear NHOo35
  clear HOo38
  have HOo38 := NHOo38
  clear NHOo38
  clear HOo64
  have HOo64 := NHOo64
  clear NHOo64
  clear HOo66
  have HOo66 := NHOo66
  clear NHOo66
  clear HB
  have HB := NHB
  clear NHB
  have hx69 : (w67.alloc (.cells #[.int .i64 r6, .slice Ao68 r7.length co68, .int .i64 r8] 63)).cell? ⟨w67.heap.size, 0, none⟩ = some (.int .i64 r6) := (blk_cell (show (w67.alloc (.cells #[.int .i64 r6, .slice Ao68 r7.length co68, .int .i64 r8] 63)).heap[w67.heap.size]? = some (.cells #[.int .i64 r6, .slice Ao68 r7.length co68, .int .i64 r8] 63 (0, 0)) from by have h_ := heap_alloc_new w67 (.cells #[.int .i64 r6, .slice Ao68 r7.length co68, .int .i64 r8] 63); simpa using h_) 0).trans rfl
  have hx70 : (w67.alloc (.cells #[.int .i64 r6, .slice Ao68 r7.length co68, .int .i64 r8] 63)).cell? ⟨w67.heap.size, 1, none⟩ = some (.slice Ao68 r7.length co68) := (blk_cell (show (w67.alloc (.cells #[.int .i64 r6, .slice Ao68 r7.length co68, .int .i64 r8] 63)).heap[w67.heap.size]? = some (.cells #[.int .i64 r6, .slice Ao68 r7.length co68, .int .i64 r8] 63 (0, 0)) from by have h_ := heap_alloc_new w67 (.cells #[.int .i64 r6, .slice Ao68 r7.length co68, .int .i64 r8] 63); simpa using h_) 1).trans rfl
  have hx71 : (w67.alloc (.cells #[.int .i64 r6, .slice Ao68 r7.length co68, .int .i64 r8] 63)).cell? ⟨w67.heap.size, 2, none⟩ = some (.int .i64 r8) := (blk_cell (show (w67.alloc (.cells #[.int .i64 r6, .slice Ao68 r7.length co68, .int .i64 r8] 63)).heap[w67.heap.size]? = some (.cells #[.int .i64 r6, .slice Ao68 r7.length co68, .int .i64 r8] 63 (0, 0)) from by have h_ := heap_alloc_new w67 (.cells #[.int .i64 r6, .slice Ao68 r7.length co68, .int .i64 r8] 63); simpa using h_) 2).trans rfl
  have hx72 : (w67.alloc (.cells #[.int .i64 r6, .slice Ao68 r7.length co68, .int .i64 r8] 63)).cell? ⟨w12.heap.size, 0, none⟩ = some (.int .i64 r6) := (blk_cell (blk_alloc BX1.out _) 0).trans rfl
  have hx73 : (w67.alloc (.cells #[.int .i64 r6, .slice Ao68 r7.length co68, .int .i64 r8] 63)).cell? ⟨w12.heap.size, 1, none⟩ = some (.slice Ao13 r7.length co13) := (blk_cell (blk_alloc BX1.out _) 1).trans rfl
  have hx74 : (w67.alloc (.cells #[.int .i64 r6, .slice Ao68 r7.length co68, .int .i64 r8] 63)).cell? ⟨w12.heap.size, 2, none⟩ = some (.int .i64 r8) := (blk_cell (blk_alloc BX1.out _) 2).trans rfl
  have CK := Aside0.mk (laws_eqTrace.calls K6 r6 Ao68 co68 r7 r8 r6 Ao13 co13 r7 r8 true (w67.alloc (.cells #[.int .i64 r6, .slice Ao68 r7.length co68, .int .i64 r8] 63)) (HOo68.out.below (below_alloc (Below.refl w67.heap.size w67) _)).C HOo68.out.room (HOo13.out.below (below_alloc (Below.refl w67.heap.size w67) _)).C HOo13.out.room G6.out)
  go_wp2_with fail
  with_reducible refine CK.out.mono ?_
  rintro e w75 ⟨rfl, hb0⟩
  have hb := hb0
  clear CK hb0
  clear hx69 hx70 hx71 hx72 hx73 hx74
  have hW_ : Below w67.heap.size w67 w75 := (below_alloc (Below.refl w67.heap.size w67) _).trans (hb.mono (below_alloc (Below.refl w67.heap.size w67) _).size)
  have SZ11 := Aside0.mk (Nat.le_trans (Nat.succ_le_of_lt (blk_lt (show (w67.alloc (.cells #[.int .i64 r6, .slice Ao68 r7.length co68, .int .i64 r8] 63)).heap[w67.heap.size]? = some (.cells #[.int .i64 r6, .slice Ao68 r7.length co68, .int .i64 r8] 63 (0, 0)) from by have h_ := heap_alloc_new w67 (.cells #[.int .i64 r6, .slice Ao68 r7.length co68, .int .i64 r8] 63); simpa using h_)) : w67.heap.size + 1 ≤ (w67.alloc (.cells #[.int .i64 r6, .slice Ao68 r7.length co68, .int .i64 r8] 63)).heap.size) hb.size)
  have NB0 := Aside0.mk ((hb.block _ (blk_lt (blk_alloc BX0.out _))).trans (blk_alloc BX0.out _))
  have NB1 := Aside0.mk ((hb.block _ (blk_lt (blk_alloc BX1.out _))).trans (blk_alloc BX1.out _))
  have NB2 := Aside0.mk ((hb.block _ (blk_lt (blk_alloc BX2.out _))).trans (blk_alloc BX2.out _))
  have NB3 := Aside0.mk ((hb.block _ (blk_lt (blk_alloc BX3.out _))).trans (blk_alloc BX3.out _))
  have NB4 := Aside0.mk ((hb.block _ (blk_lt (show (w67.alloc (.cells #[.int .i64 r6, .slice Ao68 r7.length co68, .int .i64 r8] 63)).heap[w67.heap.size]? = some (.cells #[.int .i64 r6, .slice Ao68 r7.length co68, .int .i64 r8] 63 (0, 0)) from by have h_ := heap_alloc_new w67 (.cells #[.int .i64 r6, .slice Ao68 r7.length co68, .int .i64 r8] 63); simpa using h_))).trans (show (w67.alloc (.cells #[.int .i64 r6, .slice Ao68 r7.length co68, .int .i64 r8] 63)).heap[w67.heap.size]? = some (.cells #[.int .i64 r6, .slice Ao68 r7.length co68, .int .i64 r8] 63 (0, 0)) from by have h_ := heap_alloc_new w67 (.cells #[.int .i64 r6, .slice Ao68 r7.length co68, .int .i64 r8] 63); simpa using h_))
  have NHOo9 := Aside0.mk (HOo9.out.below hW_)
  have NHOo11 := Aside0.mk (HOo11.out.below hW_)
  have NHOo13 := Aside0.mk (HOo13.out.below hW_)
  have NHOo20 := Aside0.mk (HOo20.out.below hW_)
  have NHOo25 := Aside0.mk (HOo25.out.below hW_)
  have NHOo35 := Aside0.mk (HOo35.out.below hW_)
  have NHOo38 := Aside0.mk (HOo38.out.below hW_)
  have NHOo64 := Aside0.mk (HOo64.out.below hW_)
  have NHOo66 := Aside0.mk (HOo66.out.below hW_)
  have NHOo68 := Aside0.mk (HOo68.out.below hW_)
  have NHB := Aside0.mk (HB.out.trans (hW_.mono HB.out.size))
  clear hb hW_
  clear BX0
  have BX0 := NB0
  clear NB0
  clear BX1
  have BX1 := NB1
  clear NB1
  clear BX2
  have BX2 := NB2
  clear NB2
  clear BX3
  have BX3 := NB3
  clear NB3
  skip
  have BX4 := NB4
  clear NB4
  clear HOo9
  have HOo9 := NHOo9
  clear NHOo9
  clear HOo11
  have HOo11 := NHOo11
  clear NHOo11
  clear HOo13
  have HOo13 := NHOo13
  clear NHOo13
  clear HOo20
  have HOo20 := NHOo20
  clear NHOo20
  clear HOo25
  have HOo25 := NHOo25
  clear NHOo25
  clear HOo35
  have HOo35 := NHOo35
  clear NHOo35
  clear HOo38
  have HOo38 := NHOo38
  clear NHOo38
  clear HOo64
  have HOo64 := NHOo64
  clear NHOo64
  clear HOo66
  have HOo66 := NHOo66
  clear NHOo66
  clear HOo68
  have HOo68 := NHOo68
  clear NHOo68
  clear HB
  have HB := NHB
  clear NHB
  have hx76 : w75.cell? ⟨w24.heap.size, 0, none⟩ = some (.int .i64 r6) := (blk_cell BX3.out 0).trans rfl
  have hx77 : w75.cell? ⟨w24.heap.size, 1, none⟩ = some (.slice Ao25 r7.length co25) := (blk_cell BX3.out 1).trans rfl
  have hx78 : w75.cell? ⟨w24.heap.size, 2, none⟩ = some (.int .i64 r8) := (blk_cell BX3.out 2).trans rfl
  have CK0 := laws_heldTrace.calls K11 r6 Ao25 co25 m12 r8 1 k13 w75 (HOo25.out.below (Below.refl w75.heap.size w75)).C HOo25.out.room G11.out
  rw [HLo25.out] at CK0
  have CK := Aside0.mk CK0
  clear CK0
  go_wp2_with fail
  with_reducible refine CK.out.mono ?_
  rintro e w79 ⟨rfl, hb0⟩
  have hb := hb0
  clear CK hb0
  clear hx76 hx77 hx78
  have hW_ : Below w75.heap.size w75 w79 := (Below.refl w75.heap.size w75).trans (hb.mono (Below.refl w75.heap.size w75).size)
  have SZ12 := Aside0.mk (Nat.le_trans (Nat.le_refl w75.heap.size : w75.heap.size ≤ w75.heap.size) hb.size)
  have NB0 := Aside0.mk ((hb.block _ (blk_lt BX0.out)).trans BX0.out)
  have NB1 := Aside0.mk ((hb.block _ (blk_lt BX1.out)).trans BX1.out)
  have NB2 := Aside0.mk ((hb.block _ (blk_lt BX2.out)).trans BX2.out)
  have NB3 := Aside0.mk ((hb.block _ (blk_lt BX3.out)).trans BX3.out)
  have NB4 := Aside0.mk ((hb.block _ (blk_lt BX4.out)).trans BX4.out)
  have NHOo9 := Aside0.mk (HOo9.out.below hW_)
  have NHOo11 := Aside0.mk (HOo11.out.below hW_)
  have NHOo13 := Aside0.mk (HOo13.out.below hW_)
  have NHOo20 := Aside0.mk (HOo20.out.below hW_)
  have NHOo25 := Aside0.mk (HOo25.out.below hW_)
  have NHOo35 := Aside0.mk (HOo35.out.below hW_)
  have NHOo38 := Aside0.mk (HOo38.out.below hW_)
  have NHOo64 := Aside0.mk (HOo64.out.below hW_)
  have NHOo66 := Aside0.mk (HOo66.out.below hW_)
  have NHOo68 := Aside0.mk (HOo68.out.below hW_)
  have NHB := Aside0.mk (HB.out.trans (hW_.mono HB.out.size))
  clear hb hW_
  clear BX0
  have BX0 := NB0
  clear NB0
  clear BX1
  have BX1 := NB1
  clear NB1
  clear BX2
  have BX2 := NB2
  clear NB2
  clear BX3
  have BX3 := NB3
  clear NB3
  clear BX4
  have BX4 := NB4
  clear NB4
  clear HOo9
  have HOo9 := NHOo9
  clear NHOo9
  clear HOo11
  have HOo11 := NHOo11
  clear NHOo11
  clear HOo13
  have HOo13 := NHOo13
  clear NHOo13
  clear HOo20
  have HOo20 := NHOo20
  clear NHOo20
  clear HOo25
  have HOo25 := NHOo25
  clear NHOo25
  clear HOo35
  have HOo35 := NHOo35
  clear NHOo35
  clear HOo38
  have HOo38 := NHOo38
  clear NHOo38
  clear HOo64
  have HOo64 := NHOo64
  clear NHOo64
  clear HOo66
  have HOo66 := NHOo66
  clear NHOo66
  clear HOo68
  have HOo68 := NHOo68
  clear NHOo68
  clear HB
  have HB := NHB
  clear NHB
  go_wp2
  go_ret
  exact ⟨rfl, HB.out⟩
set_option maxHeartbeats 8000000 in
set_option maxRecDepth 100000 in
theorem lw_FnExactTraceOf_e0 (a0 : Int) (a1_0 : Int) (a1_1 : Int) (A1_2 : Option Addr) (c1_2 : Nat) (l1_2 : List (S35)) (A2 : Option Addr) (c2 : Nat) (l2 : List (Int)) (w : World) (hr1_2 : Kd.C k35 w A1_2 l1_2.length l1_2) (hc1_2 : l1_2.length ≤ c1_2) (hr2 : Kd.C (Kd.int .i64) w A2 l2.length l2) (hc2 : l2.length ≤ c2) (hl_l2 : (l2.length : Int) > 1048576)   :
    Calls Try.prog 13 #[.int .i64 a0, .agg #[.int .i64 a1_0, .int .i64 a1_1, .slice A1_2 l1_2.length c1_2], .slice A2 l2.length c2] w fun e w' => e = .returned (.bool true) ∧ Below w.heap.size w w' := by
  have hu25 := Try.underlying25
  have hu35 := Try.underlying35
  have hu63 := Try.underlying63
  have HR1_2 := Aside0.mk hr1_2
  have HC1_2 := Aside0.mk hc1_2
  clear hr1_2 hc1_2
  have HR2 := Aside0.mk hr2
  have HC2 := Aside0.mk hc2
  clear hr2 hc2
  have hdl_l2 : decide ((l2.length : Int) > 1048576) = true := decide_eq_true (by omega)
  clear hl_l2
  have HB := Aside0.mk (Below.refl w.heap.size w)
  go_enter Try.func13, Try.ntmps13
  go_wp2
  go_ret
  exact ⟨rfl, (below_alloc HB.out _)⟩
set_option maxHeartbeats 8000000 in
set_option maxRecDepth 100000 in
theorem lw_FnExactTraceOf_e1 (a0 : Int) (a1_0 : Int) (a1_1 : Int) (A1_2 : Option Addr) (c1_2 : Nat) (l1_2 : List (S35)) (A2 : Option Addr) (c2 : Nat) (l2 : List (Int)) (w : World) (hr1_2 : Kd.C k35 w A1_2 l1_2.length l1_2) (hc1_2 : l1_2.length ≤ c1_2) (hr2 : Kd.C (Kd.int .i64) w A2 l2.length l2) (hc2 : l2.length ≤ c2) (hl_l2 : (l2.length : Int) ≤ 1048576) (r1 : Int) (K1 : Nat) (H1 : laws_szTask.f K1 a1_0 a1_1 l1_2 1048576 = some r1) (hx_1 : r1 < 0) :
    Calls Try.prog 13 #[.int .i64 a0, .agg #[.int .i64 a1_0, .int .i64 a1_1, .slice A1_2 l1_2.length c1_2], .slice A2 l2.length c2] w fun e w' => e = .returned (.bool true) ∧ Below w.heap.size w w' := by
  have hu25 := Try.underlying25
  have hu35 := Try.underlying35
  have hu63 := Try.underlying63
  have HR1_2 := Aside0.mk hr1_2
  have HC1_2 := Aside0.mk hc1_2
  clear hr1_2 hc1_2
  have HR2 := Aside0.mk hr2
  have HC2 := Aside0.mk hc2
  clear hr2 hc2
  have G1 := Aside0.mk H1
  clear H1
  have HX1 := Aside0.mk hx_1
  have hd_1 : decide (r1 < 0) = true := decide_eq_true (by omega)
  have hdl_l2 : decide ((l2.length : Int) > 1048576) = false := decide_eq_false (by omega)
  clear hx_1 hl_l2
  have HB := Aside0.mk (Below.refl w.heap.size w)
  go_enter Try.func13, Try.ntmps13
  have hx1 : (w.alloc (.cells #[.int .i64 a1_0, .int .i64 a1_1, .slice A1_2 l1_2.length c1_2] 35)).cell? ⟨w.heap.size, 0, none⟩ = some (.int .i64 a1_0) := (blk_cell (show (w.alloc (.cells #[.int .i64 a1_0, .int .i64 a1_1, .slice A1_2 l1_2.length c1_2] 35)).heap[w.heap.size]? = some (.cells #[.int .i64 a1_0, .int .i64 a1_1, .slice A1_2 l1_2.length c1_2] 35 (0, 0)) from by have h_ := heap_alloc_new w (.cells #[.int .i64 a1_0, .int .i64 a1_1, .slice A1_2 l1_2.length c1_2] 35); simpa using h_) 0).trans rfl
  have hx2 : (w.alloc (.cells #[.int .i64 a1_0, .int .i64 a1_1, .slice A1_2 l1_2.length c1_2] 35)).cell? ⟨w.heap.size, 1, none⟩ = some (.int .i64 a1_1) := (blk_cell (show (w.alloc (.cells #[.int .i64 a1_0, .int .i64 a1_1, .slice A1_2 l1_2.length c1_2] 35)).heap[w.heap.size]? = some (.cells #[.int .i64 a1_0, .int .i64 a1_1, .slice A1_2 l1_2.length c1_2] 35 (0, 0)) from by have h_ := heap_alloc_new w (.cells #[.int .i64 a1_0, .int .i64 a1_1, .slice A1_2 l1_2.length c1_2] 35); simpa using h_) 1).trans rfl
  have hx3 : (w.alloc (.cells #[.int .i64 a1_0, .int .i64 a1_1, .slice A1_2 l1_2.length c1_2] 35)).cell? ⟨w.heap.size, 2, none⟩ = some (.slice A1_2 l1_2.length c1_2) := (blk_cell (show (w.alloc (.cells #[.int .i64 a1_0, .int .i64 a1_1, .slice A1_2 l1_2.length c1_2] 35)).heap[w.heap.size]? = some (.cells #[.int .i64 a1_0, .int .i64 a1_1, .slice A1_2 l1_2.length c1_2] 35 (0, 0)) from by have h_ := heap_alloc_new w (.cells #[.int .i64 a1_0, .int .i64 a1_1, .slice A1_2 l1_2.length c1_2] 35); simpa using h_) 2).trans rfl
  have CK := Aside0.mk (laws_szTask.calls K1 a1_0 a1_1 A1_2 c1_2 l1_2 1048576 r1 (w.alloc (.cells #[.int .i64 a1_0, .int .i64 a1_1, .slice A1_2 l1_2.length c1_2] 35)) (Kd.C_below HR1_2.out (below_alloc HB.out _)) HC1_2.out G1.out)
  go_wp2_with fail
  with_reducible refine CK.out.mono ?_
  rintro e w4 ⟨rfl, hb0⟩
  have hb := hb0
  clear CK hb0
  clear hx1 hx2 hx3
  have hW_ : Below w.heap.size w w4 := (below_alloc (Below.refl w.heap.size w) _).trans (hb.mono (below_alloc (Below.refl w.heap.size w) _).size)
  have SZ1 := Aside0.mk (Nat.le_trans (Nat.succ_le_of_lt (blk_lt (show (w.alloc (.cells #[.int .i64 a1_0, .int .i64 a1_1, .slice A1_2 l1_2.length c1_2] 35)).heap[w.heap.size]? = some (.cells #[.int .i64 a1_0, .int .i64 a1_1, .slice A1_2 l1_2.length c1_2] 35 (0, 0)) from by have h_ := heap_alloc_new w (.cells #[.int .i64 a1_0, .int .i64 a1_1, .slice A1_2 l1_2.length c1_2] 35); simpa using h_)) : w.heap.size + 1 ≤ (w.alloc (.cells #[.int .i64 a1_0, .int .i64 a1_1, .slice A1_2 l1_2.length c1_2] 35)).heap.size) hb.size)
  have NB0 := Aside0.mk ((hb.block _ (blk_lt (show (w.alloc (.cells #[.int .i64 a1_0, .int .i64 a1_1, .slice A1_2 l1_2.length c1_2] 35)).heap[w.heap.size]? = some (.cells #[.int .i64 a1_0, .int .i64 a1_1, .slice A1_2 l1_2.length c1_2] 35 (0, 0)) from by have h_ := heap_alloc_new w (.cells #[.int .i64 a1_0, .int .i64 a1_1, .slice A1_2 l1_2.length c1_2] 35); simpa using h_))).trans (show (w.alloc (.cells #[.int .i64 a1_0, .int .i64 a1_1, .slice A1_2 l1_2.length c1_2] 35)).heap[w.heap.size]? = some (.cells #[.int .i64 a1_0, .int .i64 a1_1, .slice A1_2 l1_2.length c1_2] 35 (0, 0)) from by have h_ := heap_alloc_new w (.cells #[.int .i64 a1_0, .int .i64 a1_1, .slice A1_2 l1_2.length c1_2] 35); simpa using h_))
  have NHB := Aside0.mk (HB.out.trans (hW_.mono HB.out.size))
  clear hb hW_
  skip
  have BX0 := NB0
  clear NB0
  clear HB
  have HB := NHB
  clear NHB
  go_wp2
  go_ret
  exact ⟨rfl, HB.out⟩
end Go.Proofs.Ytooojligedlpeaa.G
end
section
namespace Go.Proofs.Ytooojligedlpeaa.G
open Go.RowKit Go.Proofs.YtooojligedlpeaaW.PrintWords
set_option linter.unusedVariables false
set_option linter.unusedSimpArgs false
def Rep (D : List Int → Int → Int → TR) (x : Int) (fs : List Fk) : Prop :=
  (∀ (pre post : List Int) (lk : Int), D (pre ++ (fs.map (·.f1) ++ post)) (pre.length : Int) lk = (x, true, ((pre.length + fs.length : Nat) : Int), lk)) ∧
  (∀ (pre : List Int) (m : Nat) (f : Fk) (lk : Int), fs[m]? = some f → D (pre ++ (fs.map (·.f1)).take m) (pre.length : Int) lk = (0, false, ((pre.length + m : Nat) : Int), f.f0))
theorem rep_get (n x : Int) : Rep (fun got a lk => getT got a lk n) x [⟨n, x⟩] := by
  refine ⟨fun pre post lk => ?_, fun pre m f lk hf => ?_⟩
  · have e : rd (pre ++ ([(⟨n, x⟩ : Fk)].map (·.f1) ++ post)) (pre.length : Int) = x := by
      simp [rd, List.getD_eq_getElem?_getD]
    show getT (pre ++ ([(⟨n, x⟩ : Fk)].map (·.f1) ++ post)) (pre.length : Int) lk n = _
    unfold getT
    rw [if_neg (by simp only [List.length_append, List.map_cons, List.map_nil, List.length_cons, List.length_nil]; omega), e]
    rfl
  · match m, hf with
    | 0, hf =>
      simp only [List.getElem?_cons_zero, Option.some.injEq] at hf
      subst hf
      unfold getT
      simp
    | m + 1, hf => simp at hf
theorem rep_pure (x : Int) : Rep (fun _ a lk => (x, true, a, lk)) x [] := ⟨fun pre post lk => rfl, fun pre m f lk hf => by simp at hf⟩
theorem rep_seq {D : List Int → Int → Int → TR} {E : List Int → Int → Int → Int → TR} {v u : Int} {fs gs : List Fk} (h : Rep D v fs) (g : Rep (fun got a lk => E got v a lk) u gs) : Rep (fun got a lk => seqT (D got a lk) (E got)) u (fs ++ gs) := by
  refine ⟨fun pre post lk => ?_, fun pre m f lk hf => ?_⟩
  · have e1 := h.1 pre (gs.map (·.f1) ++ post) lk
    have e2 := g.1 (pre ++ fs.map (·.f1)) post lk
    simp only at e2
    rw [List.map_append, List.append_assoc]
    simp only [e1, seqT, if_true]
    rw [show pre ++ (fs.map (·.f1) ++ (gs.map (·.f1) ++ post)) = (pre ++ fs.map (·.f1)) ++ (gs.map (·.f1) ++ post) by simp]
    rw [show ((pre.length + fs.length : Nat) : Int) = ((pre ++ fs.map (·.f1)).length : Int) by simp, e2]
    simp only [List.length_append, List.length_map]
    rw [Nat.add_assoc]
  · rw [List.map_append]
    by_cases hm : m < fs.length
    · rw [List.getElem?_append_left hm] at hf
      rw [List.take_append_of_le_length (by rw [List.length_map]; omega)]
      simp only [h.2 pre m f lk hf, seqT, Bool.false_eq_true, if_false]
    · rw [List.getElem?_append_right (by omega)] at hf
      have e0 : (fs.map (·.f1) ++ gs.map (·.f1)).take m = fs.map (·.f1) ++ (gs.map (·.f1)).take (m - fs.length) := by
        rw [List.take_append, List.length_map, List.take_of_length_le (by rw [List.length_map]; omega)]
      rw [e0]
      have e1 := h.1 pre ((gs.map (·.f1)).take (m - fs.length)) lk
      have e2 := g.2 (pre ++ fs.map (·.f1)) (m - fs.length) f lk hf
      simp only at e2
      simp only [e1, seqT, if_true]
      rw [← List.append_assoc]
      rw [show ((pre.length + fs.length : Nat) : Int) = ((pre ++ fs.map (·.f1)).length : Int) by simp, e2]
      simp only [List.length_append, List.length_map]
      rw [show pre.length + fs.length + (m - fs.length) = pre.length + m by omega]
theorem rep_congr {D D' : List Int → Int → Int → TR} {x : Int} {fs : List Fk} (h : Rep D x fs) (e : D' = D) : Rep D' x fs := e ▸ h
theorem rep_doT (vs : List Int) {t : Tk} (h : Fits t) : Rep (fun got a lk => doT got t a lk) (runT vs t).1 (runT vs t).2 := by
  induction h with
  | num n h0 h1 => rw [runT_num]; exact rep_congr (rep_pure n) (by funext got a lk; exact doT_num got n a lk)
  | get n h0 h1 => rw [runT_get]; exact rep_congr (rep_get n _) (by funext got a lk; exact doT_get got n a lk)
  | add x y _ _ ihx ihy =>
    rw [runT_add]
    have h := rep_seq (E := fun got v a lk => seqT (doT got y a lk) fun u a lk => ((v + u) % 97, true, a, lk)) ihx (rep_seq (E := fun got u a lk => (((runT vs x).1 + u) % 97, true, a, lk)) ihy (rep_pure _))
    rw [List.append_nil] at h
    exact rep_congr h (by funext got a lk; exact doT_add got x y a lk)
  | mul x y _ _ ihx ihy =>
    rw [runT_mul]
    have h := rep_seq (E := fun got v a lk => seqT (doT got y a lk) fun u a lk => ((v * u) % 97, true, a, lk)) ihx (rep_seq (E := fun got u a lk => (((runT vs x).1 * u) % 97, true, a, lk)) ihy (rep_pure _))
    rw [List.append_nil] at h
    exact rep_congr h (by funext got a lk; exact doT_mul got x y a lk)
  | iff x y z _ _ _ ihx ihy ihz =>
    by_cases hv : (runT vs x).1 = 0
    · rw [runT_if0 vs x y z hv]
      have h := rep_seq (E := fun got v a lk => if v = 0 then doT got z a lk else doT got y a lk) ihx (rep_congr ihz (by funext got a lk; rw [if_pos hv]))
      exact rep_congr h (by funext got a lk; exact doT_if got x y z a lk)
    · rw [runT_if1 vs x y z hv]
      have h := rep_seq (E := fun got v a lk => if v = 0 then doT got z a lk else doT got y a lk) ihx (rep_congr ihy (by funext got a lk; rw [if_neg hv]))
      exact rep_congr h (by funext got a lk; exact doT_if got x y z a lk)
  | «at» n h0 h1 x _ ihx =>
    rw [runT_at]
    have h := rep_seq (E := fun got v a lk => getT got a lk ((n + v) % 10)) ihx (rep_get ((n + (runT vs x).1) % 10) (atV vs ((n + (runT vs x).1) % 10)))
    exact rep_congr h (by funext got a lk; exact doT_at got n x a lk)
theorem runT_keys {vs : List Int} (hv : vs.all isVal = true) {t : Tk} (h : Fits t) : ∀ f ∈ (runT vs t).2, 0 ≤ f.f0 ∧ f.f0 ≤ 9 ∧ f.f1 = atV vs f.f0 := by
  induction h with
  | num n h0 h1 => rw [runT_num]; intro f hf; cases hf
  | get n h0 h1 =>
    rw [runT_get]
    intro f hf
    simp only [List.mem_singleton] at hf
    subst hf
    exact ⟨h0, h1, rfl⟩
  | add x y _ _ ihx ihy =>
    rw [runT_add]
    intro f hf
    rcases List.mem_append.1 hf with hf | hf
    · exact ihx f hf
    · exact ihy f hf
  | mul x y _ _ ihx ihy =>
    rw [runT_mul]
    intro f hf
    rcases List.mem_append.1 hf with hf | hf
    · exact ihx f hf
    · exact ihy f hf
  | iff x y z _ _ _ ihx ihy ihz =>
    by_cases hz : (runT vs x).1 = 0
    · rw [runT_if0 vs x y z hz]
      intro f hf
      rcases List.mem_append.1 hf with hf | hf
      · exact ihx f hf
      · exact ihz f hf
    · rw [runT_if1 vs x y z hz]
      intro f hf
      rcases List.mem_append.1 hf with hf | hf
      · exact ihx f hf
      · exact ihy f hf
  | «at» n h0 h1 x hx ihx =>
    rw [runT_at]
    have hval := runT_val hv hx
    intro f hf
    rcases List.mem_append.1 hf with hf | hf
    · exact ihx f hf
    · simp only [List.mem_singleton] at hf
      subst hf
      refine ⟨?_, ?_, rfl⟩ <;> simp only <;> omega
end Go.Proofs.Ytooojligedlpeaa.G
end
section
namespace Go.Proofs.Ytooojligedlpeaa.G
open Go.RowKit Go.Proofs.YtooojligedlpeaaW.PrintWords
set_option linter.unusedVariables false
set_option linter.unusedSimpArgs false
theorem isKey_ev (a : Int) : impl_isKey.f a = some (decide (0 ≤ a ∧ a < 10)) := by
  unfold impl_isKey.f
  by_cases h : a ≥ 0
  · rw [if_pos h]; simp only [ge_iff_le] at h; simp [h]
  · rw [if_neg h]; simp only [ge_iff_le] at h; simp [h]
theorem isValue_ev (a : Int) : impl_isValue.f a = some (decide (0 ≤ a ∧ a ≤ 96)) := by
  unfold impl_isValue.f
  by_cases h : a ≥ 0
  · rw [if_pos h]; simp only [ge_iff_le] at h; simp [h]
  · rw [if_neg h]; simp only [ge_iff_le] at h; simp [h]
theorem ite_prop (P : Prop) [Decidable P] (c : Bool) : (if P then some c else some false) = some (decide P && c) := by by_cases h : P <;> simp [h]
theorem fits_now (k : Nat) (a b : Int) (l : List Tk) : impl_Task_fits.f (k + 1) a b l = some (shapeB a b l.length) := by
  unfold impl_Task_fits.f
  have e0 : ∀ m : Nat, ((l.length : Int) == (m : Int)) = decide (l.length = m) := fun m => by rw [Bool.eq_iff_iff]; simp only [beq_iff_eq, decide_eq_true_eq]; omega
  have e1 : ((l.length : Int) == 0) = decide (l.length = 0) := e0 0
  have e2 : ((l.length : Int) == 1) = decide (l.length = 1) := e0 1
  have e3 : ((l.length : Int) == 2) = decide (l.length = 2) := e0 2
  have e4 : ((l.length : Int) == 3) = decide (l.length = 3) := e0 3
  simp only [impl_Task_fits.j0, isKey_ev, isValue_ev, Option.bind_some, e1, e2, e3, e4, ite_prop, Bool.decide_eq_true]
  clear e0 e1 e2 e3 e4
  unfold shapeB
  by_cases h0 : a = 0
  · simp only [h0, if_true]
  by_cases h1 : a = 1
  · simp only [h0, h1, if_true, if_false, show ¬ ((1 : Int) = 0) by decide]
  by_cases h2 : a = 2
  · simp only [h2, if_true, if_false, show ¬ ((2 : Int) = 0) by decide, show ¬ ((2 : Int) = 1) by decide, show ((2 : Int) == 2) = true by decide]
  by_cases h3 : a = 3
  · simp only [h3, if_true, if_false, show ¬ ((3 : Int) = 0) by decide, show ¬ ((3 : Int) = 1) by decide, show ¬ ((3 : Int) = 2) by decide, show ((3 : Int) == 3) = true by decide]
  have h3b : (a == 3) = false := beq_eq_false_iff_ne.mpr h3
  by_cases h4 : a = 4
  · simp only [h4, if_true, if_false, show ¬ ((4 : Int) = 0) by decide, show ¬ ((4 : Int) = 1) by decide, show ¬ ((4 : Int) = 2) by decide, show ¬ ((4 : Int) = 3) by decide, show ((4 : Int) == 3) = false by decide, Bool.false_eq_true, decide_true, Bool.true_and]
  by_cases h5 : a = 5
  · simp only [h5, if_true, if_false, show ¬ ((5 : Int) = 0) by decide, show ¬ ((5 : Int) = 1) by decide, show ¬ ((5 : Int) = 2) by decide, show ¬ ((5 : Int) = 3) by decide, show ¬ ((5 : Int) = 4) by decide, show ((5 : Int) == 3) = false by decide, Bool.false_eq_true, decide_true, Bool.true_and]
  simp only [h0, h1, h2, h3, h4, h5, h3b, if_false, Bool.false_eq_true, decide_false, Bool.false_and]
theorem fits_ev (a b : Int) (l : List Tk) : Ev (fun k => impl_Task_fits.f k a b l) (shapeB a b l.length) := ⟨1, fun k hk => by
  obtain ⟨m, rfl⟩ : ∃ m, k = m + 1 := ⟨k - 1, by omega⟩
  exact fits_now m a b l⟩
end Go.Proofs.Ytooojligedlpeaa.G
end
section
namespace Go.Proofs.Ytooojligedlpeaa.G
open Go.RowKit Go.Proofs.YtooojligedlpeaaW.PrintWords
set_option linter.unusedVariables false
set_option linter.unusedSimpArgs false
theorem Ev.eq {α : Type} {g : Nat → Option α} {r r' : α} (h : Ev g r) (e : r = r') : Ev g r' := e ▸ h
theorem Ev.of_eq {α : Type} {o : Option α} {r : α} (h : o = some r) : Ev (fun _ => o) r := ⟨0, fun _ _ => h⟩
def CountsTo (t : Tk) (room r : Int) : Prop := ((fitT t = true ∧ (nodT t : Int) ≤ room) → r = nodT t) ∧ (¬ (fitT t = true ∧ (nodT t : Int) ≤ room) → room < r) ∧ 1 ≤ r ∧ r ≤ 16 + 16 * room
theorem countTo_loop (ps : List Tk) (hlen : ps.length ≤ 3) (room : Int) (h0 : 0 ≤ room) (h1 : room ≤ 15)
    (ih : ∀ p ∈ ps, ∀ rm : Int, 0 ≤ rm → rm ≤ 15 → ∃ r, Ev (fun k => impl_Task_countTo.f k p.f0 p.f1 p.f2 rm) r ∧ CountsTo p rm r) :
    ∀ (d i : Nat) (n : Int), d = ps.length - i → i ≤ ps.length → 1 ≤ n → n ≤ 16 + 16 * room →
      ∃ r, Ev (fun k => impl_Task_countTo.l0 k room n ps (ps.length : Int) (i : Int)) r ∧ ((fitL (ps.drop i) = true ∧ n + (nodL (ps.drop i) : Int) ≤ room) → r = n + nodL (ps.drop i)) ∧ (¬ (fitL (ps.drop i) = true ∧ n + (nodL (ps.drop i) : Int) ≤ room) → room < r) ∧ 1 ≤ r ∧ r ≤ 16 + 16 * room := by
  intro d
  induction d with
  | zero =>
    intro i n hd hi hn hn2
    have e : i = ps.length := by omega
    subst e
    refine ⟨n, Ev.step (fun k => by rw [impl_Task_countTo.l0]) ?_, ?_⟩
    · simp only [if_neg (show ¬ ((ps.length : Int) < (ps.length : Int)) by omega)]
      exact Ev.now n
    · simp only [List.drop_length, fitL, nodL]
      refine ⟨fun _ => by simp, fun h => ?_, hn, hn2⟩
      simp at h
      omega
  | succ d ihd =>
    intro i n hd hi hn hn2
    have hlt : i < ps.length := by omega
    have hrd := rd_tk ps i hlt
    have hdr := drop_tk ps i hlt
    have hmem : ps[i] ∈ ps := List.getElem_mem hlt
    by_cases hg : n > room
    · refine ⟨16, Ev.step (fun k => by rw [impl_Task_countTo.l0]) ?_, fun h => ?_, fun _ => by omega, by omega, by omega⟩
      · simp only [if_pos (show (i : Int) < (ps.length : Int) by omega), if_pos (show (0 : Int) ≤ (i : Int) by omega), if_pos hg]
        exact Ev.now 16
      · exfalso
        have := h.2
        omega
    · obtain ⟨c, hc, hc1, hc2, hc3, hc4⟩ := ih ps[i] hmem (room - n) (by omega) (by omega)
      obtain ⟨r, hr, hr1, hr2, hr3, hr4⟩ := ihd (i + 1) (n + c) (by omega) (by omega) (by omega) (by omega)
      refine ⟨r, Ev.step (fun k => by rw [impl_Task_countTo.l0]) ?_, ?_, ?_, hr3, hr4⟩
      · simp only [if_pos (show (i : Int) < (ps.length : Int) by omega), if_pos (show (0 : Int) ≤ (i : Int) by omega), if_neg hg, hrd]
        rw [wrap_id (room - n) (by omega) (by omega), wrap_nat i (by omega)]
        refine Ev.bind hc ?_
        simp only [wrap_id (n + c) (by omega) (by omega)]
        exact hr
      · rw [hdr]
        simp only [fitL, nodL, Bool.and_eq_true]
        rintro ⟨⟨f1, f2⟩, h3⟩
        have e := hc1 ⟨f1, by omega⟩
        rw [hr1 ⟨f2, by omega⟩]
        omega
      · rw [hdr]
        simp only [fitL, nodL, Bool.and_eq_true]
        intro hno
        by_cases hp : fitT ps[i] = true ∧ (nodT ps[i] : Int) ≤ room - n
        · have e := hc1 hp
          exact hr2 (fun h => hno ⟨⟨hp.1, h.1⟩, by have := h.2; omega⟩)
        · have := hc2 hp
          exact hr2 (fun h => by have := h.2; omega)
theorem countTo_ev : ∀ t : Tk, ∀ room : Int, 0 ≤ room → room ≤ 15 → ∃ r, Ev (fun k => impl_Task_countTo.f k t.f0 t.f1 t.f2 room) r ∧ CountsTo t room r := by
  refine tk_ind fun t ih room h0 h1 => ?_
  by_cases hr : room < 1
  · refine ⟨16, Ev.step (fun k => by rw [impl_Task_countTo.f]) ?_, ?_, ?_, by omega, by omega⟩
    · simp only [if_pos hr]
      refine Ev.step (fun k => by rw [impl_Task_countTo.j0]) ?_
      simp only [if_true]
      exact Ev.now 16
    · rintro ⟨_, h⟩
      have := nodT_pos t
      omega
    · intro _
      omega
  · have hshape := fits_ev t.f0 t.f1 t.f2
    by_cases hf : shapeB t.f0 t.f1 t.f2.length = true
    · obtain ⟨r, hr1, hr2, hr3, hr4, hr5⟩ := countTo_loop t.f2 (shapeB_len hf) room h0 h1 ih t.f2.length 0 1 (by omega) (by omega) (by omega) (by omega)
      refine ⟨r, Ev.step (fun k => by rw [impl_Task_countTo.f]) ?_, ?_, ?_, hr4, hr5⟩
      · simp only [if_neg hr]
        refine Ev.bind hshape ?_
        simp only [hf, Bool.not_true]
        refine Ev.step (fun k => by rw [impl_Task_countTo.j0]) ?_
        simp only [Bool.false_eq_true, if_false]
        exact hr1
      · rw [fitT_eq, nodT_eq, hf]
        simp only [List.drop_zero, Bool.true_and] at hr2 ⊢
        rintro ⟨a, b⟩
        rw [hr2 ⟨a, by omega⟩]
        omega
      · rw [fitT_eq, nodT_eq, hf]
        simp only [List.drop_zero, Bool.true_and] at hr3 ⊢
        intro h
        exact hr3 (fun ⟨a, b⟩ => h ⟨a, by omega⟩)
    · refine ⟨16, Ev.step (fun k => by rw [impl_Task_countTo.f]) ?_, ?_, ?_, by omega, by omega⟩
      · simp only [if_neg hr]
        refine Ev.bind hshape ?_
        simp only [Bool.not_eq_true] at hf
        simp only [hf, Bool.not_false]
        refine Ev.step (fun k => by rw [impl_Task_countTo.j0]) ?_
        simp only [if_true]
        exact Ev.now 16
      · rw [fitT_eq]
        intro h
        simp [hf] at h
      · intro _
        omega
theorem count_loop (ps : List Tk) (hlen : ps.length ≤ 3) :
    ∀ (d i : Nat) (n : Int), d = ps.length - i → i ≤ ps.length → 1 ≤ n → n ≤ 300 →
      ∃ r, Ev (fun k => impl_Task_count.l0 k n ps (ps.length : Int) (i : Int)) r ∧ ((fitL (ps.drop i) = true ∧ n + (nodL (ps.drop i) : Int) ≤ 15) → r = n + nodL (ps.drop i)) ∧ (¬ (fitL (ps.drop i) = true ∧ n + (nodL (ps.drop i) : Int) ≤ 15) → 15 < r) := by
  intro d
  induction d with
  | zero =>
    intro i n hd hi hn hn2
    have e : i = ps.length := by omega
    subst e
    refine ⟨n, Ev.step (fun k => by rw [impl_Task_count.l0]) ?_, ?_⟩
    · simp only [if_neg (show ¬ ((ps.length : Int) < (ps.length : Int)) by omega)]
      exact Ev.now n
    · simp only [List.drop_length, fitL, nodL]
      refine ⟨fun _ => by simp, fun h => ?_⟩
      simp at h
      omega
  | succ d ihd =>
    intro i n hd hi hn hn2
    have hlt : i < ps.length := by omega
    have hrd := rd_tk ps i hlt
    have hdr := drop_tk ps i hlt
    by_cases hg : n > 15
    · refine ⟨n, Ev.step (fun k => by rw [impl_Task_count.l0]) ?_, fun h => ?_, fun _ => by omega⟩
      · simp only [if_pos (show (i : Int) < (ps.length : Int) by omega), if_pos (show (0 : Int) ≤ (i : Int) by omega), if_pos hg]
        exact Ev.now n
      · exfalso
        have := h.2
        omega
    · obtain ⟨c, hc, hc1, hc2, hc3, hc4⟩ := countTo_ev ps[i] (15 - n) (by omega) (by omega)
      obtain ⟨r, hr, hr1, hr2⟩ := ihd (i + 1) (n + c) (by omega) (by omega) (by omega) (by omega)
      refine ⟨r, Ev.step (fun k => by rw [impl_Task_count.l0]) ?_, ?_, ?_⟩
      · simp only [if_pos (show (i : Int) < (ps.length : Int) by omega), if_pos (show (0 : Int) ≤ (i : Int) by omega), if_neg hg, hrd]
        rw [wrap_id (15 - n) (by omega) (by omega), wrap_nat i (by omega)]
        refine Ev.bind hc ?_
        simp only [wrap_id (n + c) (by omega) (by omega)]
        exact hr
      · rw [hdr]
        simp only [fitL, nodL, Bool.and_eq_true]
        rintro ⟨⟨f1, f2⟩, h3⟩
        have e := hc1 ⟨f1, by omega⟩
        rw [hr1 ⟨f2, by omega⟩]
        omega
      · rw [hdr]
        simp only [fitL, nodL, Bool.and_eq_true]
        intro hno
        by_cases hp : fitT ps[i] = true ∧ (nodT ps[i] : Int) ≤ 15 - n
        · have e := hc1 hp
          exact hr2 (fun h => hno ⟨⟨hp.1, h.1⟩, by have := h.2; omega⟩)
        · have := hc2 hp
          exact hr2 (fun h => by have := h.2; omega)
theorem count_ev (t : Tk) : ∃ r, Ev (fun k => impl_Task_count.f k t.f0 t.f1 t.f2) r ∧ (okT t = true → r = nodT t) ∧ (okT t = false → 15 < r) := by
  have hshape := fits_ev t.f0 t.f1 t.f2
  by_cases hf : shapeB t.f0 t.f1 t.f2.length = true
  · obtain ⟨r, hr1, hr2, hr3⟩ := count_loop t.f2 (shapeB_len hf) t.f2.length 0 1 (by omega) (by omega) (by omega) (by omega)
    refine ⟨r, ?_, ?_, ?_⟩
    · unfold impl_Task_count.f
      refine Ev.bind hshape ?_
      simp only [hf, if_true]
      exact hr1
    · intro h
      have h1 := okT_fit h
      have h2 := okT_nod h
      rw [fitT_eq, Bool.and_eq_true] at h1
      rw [nodT_eq] at h2 ⊢
      simp only [List.drop_zero] at hr2
      rw [hr2 ⟨h1.2, by omega⟩]
      omega
    · intro h
      simp only [List.drop_zero] at hr3
      refine hr3 (fun ⟨a, b⟩ => ?_)
      rw [okT, fitT_eq, nodT_eq, hf, a] at h
      simp at h
      omega
  · refine ⟨16, ?_, ?_, fun _ => by omega⟩
    · unfold impl_Task_count.f
      refine Ev.bind hshape ?_
      simp only [hf, Bool.false_eq_true, if_false]
      exact Ev.now 16
    · intro h
      have h1 := okT_fit h
      rw [fitT_eq, Bool.and_eq_true] at h1
      exact absurd h1.1 hf
theorem implOk_ev (t : Tk) : Ev (fun k => impl_TaskOk.f k t.f0 t.f1 t.f2) (okT t) := by
  obtain ⟨r, hr, h1, h2⟩ := count_ev t
  unfold impl_TaskOk.f
  refine Ev.bind hr ?_
  refine Ev.of_eq ?_
  cases h : okT t with
  | true => have := h1 h; have := okT_nod h; simp; omega
  | false => have := h2 h; simp; omega
theorem l1Shape_now (k : Nat) (a : Int) : spec_l1Shape.f (k + 1) a = some (if a = 0 then (0, 96, true) else if a = 1 then (0, 9, true) else if a = 2 then (2, 0, true) else if a = 3 then (2, 0, true) else if a = 4 then (3, 0, true) else if a = 5 then (1, 9, true) else (0, 0, false)) := by
  unfold spec_l1Shape.f
  simp only [spec_l1Shape.j0]
  repeat' split
  all_goals simp_all
theorem l1Shape_ev (a : Int) : Ev (fun k => spec_l1Shape.f k a) (if a = 0 then (0, 96, true) else if a = 1 then (0, 9, true) else if a = 2 then (2, 0, true) else if a = 3 then (2, 0, true) else if a = 4 then (3, 0, true) else if a = 5 then (1, 9, true) else (0, 0, false)) := ⟨1, fun k hk => by
  obtain ⟨m, rfl⟩ : ∃ m, k = m + 1 := ⟨k - 1, by omega⟩
  exact l1Shape_now m a⟩
theorem l6In_ev (a b c : Int) : spec_l6In.f a b c = some (decide (b ≤ a ∧ a ≤ c)) := by
  unfold spec_l6In.f
  by_cases h : a ≥ b
  · rw [if_pos h]; simp only [ge_iff_le] at h; simp [h]
  · rw [if_neg h]; simp only [ge_iff_le] at h; simp [h]
theorem l1Fit_loop (a b : Int) (ps : List Tk) (hlen : ps.length ≤ 3) (ih : ∀ p ∈ ps, Ev (fun k => spec_l1Fit.f k p.f0 p.f1 p.f2) (fitT p)) :
    ∀ (d i : Nat), d = ps.length - i → i ≤ ps.length → Ev (fun k => spec_l1Fit.l0 k (i : Int) a b ps) (fitL (ps.drop i)) := by
  intro d
  induction d with
  | zero =>
    intro i hd hi
    have e : i = ps.length := by omega
    subst e
    refine Ev.step (fun k => by rw [spec_l1Fit.l0]) ?_
    simp only [if_neg (show ¬ ((ps.length : Int) < (ps.length : Int)) by omega), List.drop_length, fitL]
    exact Ev.now true
  | succ d ihd =>
    intro i hd hi
    have hlt : i < ps.length := by omega
    have hrd := rd_tk ps i hlt
    have hmem : ps[i] ∈ ps := List.getElem_mem hlt
    rw [drop_tk ps i hlt]
    refine Ev.step (fun k => by rw [spec_l1Fit.l0]) ?_
    simp only [if_pos (show (i : Int) < (ps.length : Int) by omega), if_pos (show (0 : Int) ≤ (i : Int) by omega), hrd]
    refine Ev.bind (ih _ hmem) ?_
    simp only [fitL]
    cases h : fitT ps[i] with
    | true =>
      simp only [if_true, Bool.true_and, wrap_nat i (by omega)]
      exact ihd (i + 1) (by omega) (by omega)
    | false =>
      simp only [Bool.false_eq_true, if_false, Bool.false_and]
      exact Ev.now false
theorem l1Fit_ev : ∀ t : Tk, Ev (fun k => spec_l1Fit.f k t.f0 t.f1 t.f2) (fitT t) := by
  refine tk_ind fun t ih => ?_
  refine Ev.step (fun k => by rw [spec_l1Fit.f]) ?_
  refine Ev.bind (l1Shape_ev t.f0) ?_
  rw [fitT_eq]
  have bad : Ev (fun k => spec_l1Fit.j0 k true t.f0 t.f1 t.f2) false := by
    refine Ev.step (fun k => by rw [spec_l1Fit.j0]) ?_
    simp only [if_true]
    exact Ev.now false
  have good : t.f2.length ≤ 3 → ∀ c : Bool, Ev (fun k => spec_l1Fit.j0 k (!c) t.f0 t.f1 t.f2) (c && fitL t.f2) := by
    intro hl c
    refine Ev.step (fun k => by rw [spec_l1Fit.j0]) ?_
    cases c with
    | false =>
      simp only [Bool.not_false, if_true, Bool.false_and]
      exact Ev.now false
    | true =>
      simp only [Bool.not_true, Bool.false_eq_true, if_false, Bool.true_and]
      exact l1Fit_loop t.f0 t.f1 t.f2 hl ih t.f2.length 0 (by omega) (by omega)
  have e0 : ∀ m : Nat, ((t.f2.length : Int) = (m : Int)) = (t.f2.length = m) := fun m => by rw [eq_iff_iff]; omega
  have e1 : ((t.f2.length : Int) = 0) = (t.f2.length = 0) := e0 0
  have e2 : ((t.f2.length : Int) = 1) = (t.f2.length = 1) := e0 1
  have e3 : ((t.f2.length : Int) = 2) = (t.f2.length = 2) := e0 2
  have e4 : ((t.f2.length : Int) = 3) = (t.f2.length = 3) := e0 3
  simp only [l6In_ev, Option.bind_some]
  unfold shapeB
  by_cases h0 : t.f0 = 0
  · simp only [h0, if_true, e1] at good bad ⊢
    by_cases hl : t.f2.length = 0
    · simp only [hl, if_true, decide_true, Bool.and_true] at good ⊢
      exact good (by omega) _
    · simp only [hl, if_false, decide_false, Bool.and_false, Bool.false_and]
      exact bad
  by_cases h1 : t.f0 = 1
  · have e9 : ∀ x : Int, (0 ≤ x ∧ x < 10) = (0 ≤ x ∧ x ≤ 9) := fun x => by rw [eq_iff_iff]; omega
    simp only [h1, if_true, e1, e9, show ¬ ((1 : Int) = 0) by decide, if_false] at good bad ⊢
    by_cases hl : t.f2.length = 0
    · simp only [hl, if_true, decide_true, Bool.and_true] at good ⊢
      exact good (by omega) _
    · simp only [hl, if_false, decide_false, Bool.and_false, Bool.false_and]
      exact bad
  by_cases h2 : t.f0 = 2
  · have e9 : ∀ x : Int, (x = 0) = (0 ≤ x ∧ x ≤ 0) := fun x => by rw [eq_iff_iff]; omega
    simp only [h2, if_true, e3, e9 t.f1, show ¬ ((2 : Int) = 0) by decide, show ¬ ((2 : Int) = 1) by decide, if_false] at good bad ⊢
    by_cases hl : t.f2.length = 2
    · simp only [hl, if_true, decide_true, Bool.and_true] at good ⊢
      exact good (by omega) _
    · simp only [hl, if_false, decide_false, Bool.and_false, Bool.false_and]
      exact bad
  by_cases h3 : t.f0 = 3
  · have e9 : ∀ x : Int, (x = 0) = (0 ≤ x ∧ x ≤ 0) := fun x => by rw [eq_iff_iff]; omega
    simp only [h3, if_true, e3, e9 t.f1, show ¬ ((3 : Int) = 0) by decide, show ¬ ((3 : Int) = 1) by decide, show ¬ ((3 : Int) = 2) by decide, if_false] at good bad ⊢
    by_cases hl : t.f2.length = 2
    · simp only [hl, if_true, decide_true, Bool.and_true] at good ⊢
      exact good (by omega) _
    · simp only [hl, if_false, decide_false, Bool.and_false, Bool.false_and]
      exact bad
  by_cases h4 : t.f0 = 4
  · have e9 : ∀ x : Int, (x = 0) = (0 ≤ x ∧ x ≤ 0) := fun x => by rw [eq_iff_iff]; omega
    simp only [h4, if_true, e4, e9 t.f1, show ¬ ((4 : Int) = 0) by decide, show ¬ ((4 : Int) = 1) by decide, show ¬ ((4 : Int) = 2) by decide, show ¬ ((4 : Int) = 3) by decide, if_false] at good bad ⊢
    by_cases hl : t.f2.length = 3
    · simp only [hl, if_true, decide_true, Bool.and_true] at good ⊢
      exact good (by omega) _
    · simp only [hl, if_false, decide_false, Bool.and_false, Bool.false_and]
      exact bad
  by_cases h5 : t.f0 = 5
  · have e9 : ∀ x : Int, (0 ≤ x ∧ x < 10) = (0 ≤ x ∧ x ≤ 9) := fun x => by rw [eq_iff_iff]; omega
    simp only [h5, if_true, e2, e9 t.f1, show ¬ ((5 : Int) = 0) by decide, show ¬ ((5 : Int) = 1) by decide, show ¬ ((5 : Int) = 2) by decide, show ¬ ((5 : Int) = 3) by decide, show ¬ ((5 : Int) = 4) by decide, if_false] at good bad ⊢
    by_cases hl : t.f2.length = 1
    · simp only [hl, if_true, decide_true, Bool.and_true] at good ⊢
      exact good (by omega) _
    · simp only [hl, if_false, decide_false, Bool.and_false, Bool.false_and]
      exact bad
  · simp only [h0, h1, h2, h3, h4, h5, if_false, Bool.false_eq_true, Bool.false_and]
    exact bad
theorem l1Nodes_loop (a b : Int) (ps : List Tk) (hlen : ps.length ≤ 4000000000) (ih : ∀ p ∈ ps, (nodT p : Int) ≤ 4000000000 → Ev (fun k => spec_l1Nodes.f k p.f0 p.f1 p.f2) (nodT p : Int)) :
    ∀ (d i : Nat) (n : Int), d = ps.length - i → i ≤ ps.length → 0 ≤ n → n + (nodL (ps.drop i) : Int) ≤ 4000000000 → Ev (fun k => spec_l1Nodes.l0 k n (i : Int) a b ps) (n + nodL (ps.drop i)) := by
  intro d
  induction d with
  | zero =>
    intro i n hd hi hn hb
    have e : i = ps.length := by omega
    subst e
    refine Ev.step (fun k => by rw [spec_l1Nodes.l0]) ?_
    simp only [if_neg (show ¬ ((ps.length : Int) < (ps.length : Int)) by omega), List.drop_length, nodL]
    exact Ev.eq (Ev.now n) (by omega)
  | succ d ihd =>
    intro i n hd hi hn hb
    have hlt : i < ps.length := by omega
    have hrd := rd_tk ps i hlt
    have hmem : ps[i] ∈ ps := List.getElem_mem hlt
    rw [drop_tk ps i hlt] at hb ⊢
    simp only [nodL] at hb ⊢
    refine Ev.step (fun k => by rw [spec_l1Nodes.l0]) ?_
    simp only [if_pos (show (i : Int) < (ps.length : Int) by omega), if_pos (show (0 : Int) ≤ (i : Int) by omega), hrd]
    refine Ev.bind (ih _ hmem (by omega)) ?_
    simp only [wrap_nat i (by omega), wrap_id (n + (nodT ps[i] : Int)) (by omega) (by omega)]
    exact Ev.eq (ihd (i + 1) (n + nodT ps[i]) (by omega) (by omega) (by omega) (by omega)) (by omega)
theorem l1Nodes_ev : ∀ t : Tk, (nodT t : Int) ≤ 4000000000 → Ev (fun k => spec_l1Nodes.f k t.f0 t.f1 t.f2) (nodT t : Int) := by
  refine tk_ind fun t ih hb => ?_
  rw [nodT_eq] at hb ⊢
  have := nodL_len t.f2
  refine Ev.step (fun k => by rw [spec_l1Nodes.f]) ?_
  exact Ev.eq (l1Nodes_loop t.f0 t.f1 t.f2 (by omega) ih t.f2.length 0 1 (by omega) (by omega) (by omega) (by rw [List.drop_zero]; omega)) (by rw [List.drop_zero]; omega)
theorem specOk_ev (t : Tk) (hb : (nodT t : Int) ≤ 4000000000) : Ev (fun k => spec_TaskOk.f k t.f0 t.f1 t.f2) (okT t) := by
  unfold spec_TaskOk.f
  refine Ev.bind (l1Fit_ev t) ?_
  unfold okT
  cases h : fitT t with
  | false =>
    simp only [Bool.false_eq_true, if_false, Bool.false_and]
    exact Ev.now false
  | true =>
    simp only [if_true, Bool.true_and]
    refine Ev.bind (l1Nodes_ev t hb) ?_
    refine Ev.of_eq ?_
    congr 1
    rw [Bool.eq_iff_iff]
    simp only [decide_eq_true_eq]
    omega
end Go.Proofs.Ytooojligedlpeaa.G
end
