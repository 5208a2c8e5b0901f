-- Written by pack.py (ours): the claim's texts, cut down to what its theorem reaches.
import Derived.Test.YtofieekbhbkliaaKFnExactSheetFixed4
section
namespace Go.Proofs.Ytofieekbhbkliaa.G
open Go.RowKit Go.Proofs.YtofieekbhbkliaaW.PrintWords Go.Proofs.YtofieekbhbkliaaW.PrintLast Go.Proofs.YtofieekbhbkliaaW.PrintMore
attribute [local go_sem] max2_int min2_int max_two min_two max_three min_three max_four min_four
set_option linter.unusedVariables false
set_option linter.unusedSimpArgs false
def laws_FnExactSheetFixed.f (k : Nat) (l0_0 : List Bool) (l0_1 : List (S85)) : Option (Bool) := (laws_szSheet.f k l0_0 l0_1 1048576).bind fun t670 => (if t670 < 0 then (some true) else ((laws_toSheet.f k l0_0 l0_1).bind fun bt671 => ((spec_SheetFixed.f k bt671.1 bt671.2).bind fun t677 => ((laws_toSheet.f k l0_0 l0_1).bind fun bt678 => ((impl_SheetFixed.f k bt678.1 bt678.2).bind fun t685 => (if (t685 != t677) = true then (some false) else ((laws_toSheet.f k l0_0 l0_1).bind fun bt686 => ((laws_eqSheet.f k bt678.1 bt678.2 bt686.1 bt686.2).bind fun t692 => (if t692 = true then (some true) else (some false))))))))))
set_option maxHeartbeats 8000000 in
set_option maxRecDepth 100000 in
theorem laws_FnExactSheetFixed.calls (k : Nat) (A0_0 : Option Addr) (c0_0 : Nat) (l0_0 : List Bool) (A0_1 : Option Addr) (c0_1 : Nat) (l0_1 : List (S85)) (r : Bool) (w : World) (hr0_0 : Kd.C Kd.bool w A0_0 l0_0.length l0_0) (hc0_0 : l0_0.length ≤ c0_0) (hr0_1 : Kd.C k85 w A0_1 l0_1.length l0_1) (hc0_1 : l0_1.length ≤ c0_1) (h : laws_FnExactSheetFixed.f k l0_0 l0_1 = some r) :
    Calls Try.prog 9 #[.agg #[.slice A0_0 l0_0.length c0_0, .slice A0_1 l0_1.length c0_1]] w fun e w' => e = .returned (.bool r) ∧ Below w.heap.size w w' := by
  have hu62 := Try.underlying62
  have hu67 := Try.underlying67
  have HR0_0 := Aside0.mk hr0_0
  have HC0_0 := Aside0.mk hc0_0
  clear hr0_0 hc0_0
  have HR0_1 := Aside0.mk hr0_1
  have HC0_1 := Aside0.mk hc0_1
  clear hr0_1 hc0_1
  have HB := Aside0.mk (Below.refl w.heap.size w)
  have H : ((laws_szSheet.f k l0_0 l0_1 1048576).bind fun t670 => (if t670 < 0 then (some true) else ((laws_toSheet.f k l0_0 l0_1).bind fun bt671 => ((spec_SheetFixed.f k bt671.1 bt671.2).bind fun t677 => ((laws_toSheet.f k l0_0 l0_1).bind fun bt678 => ((impl_SheetFixed.f k bt678.1 bt678.2).bind fun t685 => (if (t685 != t677) = true then (some false) else ((laws_toSheet.f k l0_0 l0_1).bind fun bt686 => ((laws_eqSheet.f k bt678.1 bt678.2 bt686.1 bt686.2).bind fun t692 => (if t692 = true then (some true) else (some false))))))))))) = some r := h
  clear h
  replace H := Option.bind_eq_some_iff.mp H
  obtain ⟨t670, A20, H⟩ := H
  replace H : (if t670 < 0 then (some true) else ((laws_toSheet.f k l0_0 l0_1).bind fun bt671 => ((spec_SheetFixed.f k bt671.1 bt671.2).bind fun t677 => ((laws_toSheet.f k l0_0 l0_1).bind fun bt678 => ((impl_SheetFixed.f k bt678.1 bt678.2).bind fun t685 => (if (t685 != t677) = true then (some false) else ((laws_toSheet.f k l0_0 l0_1).bind fun bt686 => ((laws_eqSheet.f k bt678.1 bt678.2 bt686.1 bt686.2).bind fun t692 => (if t692 = true then (some true) else (some false)))))))))) = some r := H
  have A2 := Aside0.mk A20
  clear A20
  by_cases c3 : t670 < 0
  · rw [if_pos c3] at H
    have c3b0 : decide (t670 < 0) = true := decide_eq_true c3
    clear c3
    obtain rfl := Option.some.inj H
    go_enter Try.func9, Try.ntmps9
    go_wp2_with (first | ((with_reducible refine gate_dst (N := 1) rfl ?_); refine box_event ?hg (N := 1) ?hd (cs := #[.slice A0_0 l0_0.length c0_0, .slice A0_1 l0_1.length c0_1]) (t := 62) ?hr ?_; (case hd => rfl); (case hg => rfl); (case hr => first | (go_simp; done) | (go_simp; rfl)); intro gb669 hg w4 hbox hb; have n0_ := Aside0.mk (below_step (by repeat (first | (with_reducible first | exact HB.out | apply below_alloc | apply pw_below_drewN | apply below_drew1) | exact HB.out)) hb); have n1_ := Aside0.mk (hbox); have n2_ := Aside0.mk ((by rw [hg]; exact (below_size (by repeat (first | (with_reducible first | exact HB.out | apply below_alloc | apply pw_below_drewN | apply below_drew1) | exact HB.out))) : w.heap.size ≤ gb669)); have n3_ := Aside0.mk ((by rw [hg]; exact (below_size (by repeat (first | (with_reducible first | exact HB.out | apply below_alloc | apply pw_below_drewN | apply below_drew1) | exact HB.out))) : w.heap.size ≤ gb669)); clear HB; have HB := n0_; have BK669 := n1_; have GW669 := n2_; have GE669 := n3_; clear n0_ n1_ n2_ n3_; clear hb hbox hg; have hcz5_0 : w4.cell? ⟨gb669, 0, none⟩ = some (.slice A0_0 l0_0.length c0_0) := (blk_cell BK669.out 0).trans rfl; have hcz5_1 : w4.cell? ⟨gb669, 1, none⟩ = some (.slice A0_1 l0_1.length c0_1) := (blk_cell BK669.out 1).trans rfl; have hfz5_0 := blk_frozen BK669.out 0; have hfz5_1 := blk_frozen BK669.out 1) | ((with_reducible refine gate_callee (f := 41) rfl ?_); refine goesL_ (some 9) rfl rfl Try.func41 (by kernel_rfl) rfl #[.agg #[.slice A0_0 l0_0.length c0_0, .slice A0_1 l0_1.length c0_1], .int .i64 1048576] rfl (by (try simp only [List.map_toArray, List.map_cons, List.map_nil]); first | done | rfl | (simp only [List.length_drop, List.length_take]; rfl)) ?_; (with_reducible refine (laws_szSheet.calls k _ _ l0_0 _ _ l0_1 1048576 t670 _ ?side1 ?side2 ?side3 ?side4 A2.out).mono ?_); (case side1 => repeat (first | exact (Kd.C_below HR0_0.out HB.out) | (with_reducible refine Kd.C_alloc ?_ _) | (with_reducible refine Kd.C_drewN ?_ _) | (with_reducible refine Kd.C_drew ?_))); (case side2 => exact HC0_0.out); (case side3 => repeat (first | exact (Kd.C_below HR0_1.out HB.out) | (with_reducible refine Kd.C_alloc ?_ _) | (with_reducible refine Kd.C_drewN ?_ _) | (with_reducible refine Kd.C_drew ?_))); (case side4 => exact HC0_1.out); rintro e w6 ⟨rfl, hb⟩; refine ⟨_, rfl, ?_⟩; have n0_ := Aside0.mk (blk_below (g := gb669) (o := .cells #[.slice A0_0 l0_0.length c0_0, .slice A0_1 l0_1.length c0_1] 62 (0, 0)) (by (with_reducible repeat (first | refine blk_drewN ?_ _ | refine blk_drew ?_ | refine blk_alloc ?_ _)); exact BK669.out) hb); have n1_ := Aside0.mk (below_step (by repeat (first | (with_reducible first | exact HB.out | apply below_alloc | apply pw_below_drewN | apply below_drew1 | refine below_set ?_ GE669.out) | exact HB.out)) hb); clear BK669; clear HB; have BK669 := n0_; have HB := n1_; clear n0_ n1_; (try clear hb); (try clear hb2); (try clear hk); (try clear hi)))
    go_ret
    exact ⟨by first | rfl | (simp [errW_none, errW_some] <;> rfl) | (simp [*, errW_none, errW_some] <;> rfl), by repeat (first | (with_reducible first | exact HB.out | apply below_alloc | apply pw_below_drewN | apply below_drew1 | refine below_set ?_ GE669.out) | exact HB.out)⟩
  · rw [if_neg c3] at H
    have c3b0 : decide (t670 < 0) = false := decide_eq_false c3
    clear c3
    replace H := Option.bind_eq_some_iff.mp H
    obtain ⟨⟨t671, t674⟩, A70, H⟩ := H
    replace H : ((spec_SheetFixed.f k t671 t674).bind fun t677 => ((laws_toSheet.f k l0_0 l0_1).bind fun bt678 => ((impl_SheetFixed.f k bt678.1 bt678.2).bind fun t685 => (if (t685 != t677) = true then (some false) else ((laws_toSheet.f k l0_0 l0_1).bind fun bt686 => ((laws_eqSheet.f k bt678.1 bt678.2 bt686.1 bt686.2).bind fun t692 => (if t692 = true then (some true) else (some false)))))))) = some r := H
    have A7 := Aside0.mk A70
    clear A70
    replace H := Option.bind_eq_some_iff.mp H
    obtain ⟨t677, A80, H⟩ := H
    replace H : ((laws_toSheet.f k l0_0 l0_1).bind fun bt678 => ((impl_SheetFixed.f k bt678.1 bt678.2).bind fun t685 => (if (t685 != t677) = true then (some false) else ((laws_toSheet.f k l0_0 l0_1).bind fun bt686 => ((laws_eqSheet.f k bt678.1 bt678.2 bt686.1 bt686.2).bind fun t692 => (if t692 = true then (some true) else (some false))))))) = some r := H
    have A8 := Aside0.mk A80
    clear A80
    replace H := Option.bind_eq_some_iff.mp H
    obtain ⟨⟨t678, t681⟩, A90, H⟩ := H
    replace H : ((impl_SheetFixed.f k t678 t681).bind fun t685 => (if (t685 != t677) = true then (some false) else ((laws_toSheet.f k l0_0 l0_1).bind fun bt686 => ((laws_eqSheet.f k t678 t681 bt686.1 bt686.2).bind fun t692 => (if t692 = true then (some true) else (some false)))))) = some r := H
    have A9 := Aside0.mk A90
    clear A90
    replace H := Option.bind_eq_some_iff.mp H
    obtain ⟨t685, A100, H⟩ := H
    replace H : (if (t685 != t677) = true then (some false) else ((laws_toSheet.f k l0_0 l0_1).bind fun bt686 => ((laws_eqSheet.f k t678 t681 bt686.1 bt686.2).bind fun t692 => (if t692 = true then (some true) else (some false))))) = some r := H
    have A10 := Aside0.mk A100
    clear A100
    by_cases c11 : (t685 != t677) = true
    · rw [if_pos c11] at H
      have c11b0 : (t685 != t677) = true := c11
      (try (have c11b1 : decide (t685 = t677) = false := by simpa using c11))
      (try (have c11b2 : (t685 == t677) = false := by simpa using c11))
      (try (have c11b3 : ¬ (t685 = t677) := by simpa using c11))
      clear c11
      obtain rfl := Option.some.inj H
      go_enter Try.func9, Try.ntmps9
      go_wp2_with (first | ((with_reducible refine gate_dst (N := 1) rfl ?_); refine box_event ?hg (N := 1) ?hd (cs := #[.slice A0_0 l0_0.length c0_0, .slice A0_1 l0_1.length c0_1]) (t := 62) ?hr ?_; (case hd => rfl); (case hg => rfl); (case hr => first | (go_simp; done) | (go_simp; rfl)); intro gb669 hg w12 hbox hb; have n0_ := Aside0.mk (below_step (by repeat (first | (with_reducible first | exact HB.out | apply below_alloc | apply pw_below_drewN | apply below_drew1) | exact HB.out)) hb); have n1_ := Aside0.mk (hbox); have n2_ := Aside0.mk ((by rw [hg]; exact (below_size (by repeat (first | (with_reducible first | exact HB.out | apply below_alloc | apply pw_below_drewN | apply below_drew1) | exact HB.out))) : w.heap.size ≤ gb669)); have n3_ := Aside0.mk ((by rw [hg]; exact (below_size (by repeat (first | (with_reducible first | exact HB.out | apply below_alloc | apply pw_below_drewN | apply below_drew1) | exact HB.out))) : w.heap.size ≤ gb669)); clear HB; have HB := n0_; have BK669 := n1_; have GW669 := n2_; have GE669 := n3_; clear n0_ n1_ n2_ n3_; clear hb hbox hg; have hcz13_0 : w12.cell? ⟨gb669, 0, none⟩ = some (.slice A0_0 l0_0.length c0_0) := (blk_cell BK669.out 0).trans rfl; have hcz13_1 : w12.cell? ⟨gb669, 1, none⟩ = some (.slice A0_1 l0_1.length c0_1) := (blk_cell BK669.out 1).trans rfl; have hfz13_0 := blk_frozen BK669.out 0; have hfz13_1 := blk_frozen BK669.out 1) | ((with_reducible refine gate_callee (f := 41) rfl ?_); refine goesL_ (some 9) rfl rfl Try.func41 (by kernel_rfl) rfl #[.agg #[.slice A0_0 l0_0.length c0_0, .slice A0_1 l0_1.length c0_1], .int .i64 1048576] rfl (by (try simp only [List.map_toArray, List.map_cons, List.map_nil]); first | done | rfl | (simp only [List.length_drop, List.length_take]; rfl)) ?_; (with_reducible refine (laws_szSheet.calls k _ _ l0_0 _ _ l0_1 1048576 t670 _ ?side1 ?side2 ?side3 ?side4 A2.out).mono ?_); (case side1 => repeat (first | exact (Kd.C_below HR0_0.out HB.out) | (with_reducible refine Kd.C_alloc ?_ _) | (with_reducible refine Kd.C_drewN ?_ _) | (with_reducible refine Kd.C_drew ?_))); (case side2 => exact HC0_0.out); (case side3 => repeat (first | exact (Kd.C_below HR0_1.out HB.out) | (with_reducible refine Kd.C_alloc ?_ _) | (with_reducible refine Kd.C_drewN ?_ _) | (with_reducible refine Kd.C_drew ?_))); (case side4 => exact HC0_1.out); rintro e w14 ⟨rfl, hb⟩; refine ⟨_, rfl, ?_⟩; have n0_ := Aside0.mk (blk_below (g := gb669) (o := .cells #[.slice A0_0 l0_0.length c0_0, .slice A0_1 l0_1.length c0_1] 62 (0, 0)) (by (with_reducible repeat (first | refine blk_drewN ?_ _ | refine blk_drew ?_ | refine blk_alloc ?_ _)); exact BK669.out) hb); have n1_ := Aside0.mk (below_step (by repeat (first | (with_reducible first | exact HB.out | apply below_alloc | apply pw_below_drewN | apply below_drew1 | refine below_set ?_ GE669.out) | exact HB.out)) hb); clear BK669; clear HB; have BK669 := n0_; have HB := n1_; clear n0_ n1_; (try clear hb); (try clear hb2); (try clear hk); (try clear hi); have hcz15_0 : w14.cell? ⟨gb669, 0, none⟩ = some (.slice A0_0 l0_0.length c0_0) := (blk_cell BK669.out 0).trans rfl; have hcz15_1 : w14.cell? ⟨gb669, 1, none⟩ = some (.slice A0_1 l0_1.length c0_1) := (blk_cell BK669.out 1).trans rfl; have hfz15_0 := blk_frozen BK669.out 0; have hfz15_1 := blk_frozen BK669.out 1) | ((with_reducible refine gate_callee (f := 43) rfl ?_); refine goesL_ (some 13) rfl rfl Try.func43 (by kernel_rfl) rfl #[.agg #[.slice A0_0 l0_0.length c0_0, .slice A0_1 l0_1.length c0_1]] rfl (by (try simp only [List.map_toArray, List.map_cons, List.map_nil]); first | done | rfl | (simp only [List.length_drop, List.length_take]; rfl)) ?_; (with_reducible refine (laws_toSheet.calls k _ _ l0_0 _ _ l0_1 t671 t674 _ ?side1 ?side2 ?side3 ?side4 A7.out).mono ?_); (case side1 => repeat (first | exact (Kd.C_below HR0_0.out HB.out) | (with_reducible refine Kd.C_alloc ?_ _) | (with_reducible refine Kd.C_drewN ?_ _) | (with_reducible refine Kd.C_drew ?_))); (case side2 => exact HC0_0.out); (case side3 => repeat (first | exact (Kd.C_below HR0_1.out HB.out) | (with_reducible refine Kd.C_alloc ?_ _) | (with_reducible refine Kd.C_drewN ?_ _) | (with_reducible refine Kd.C_drew ?_))); (case side4 => exact HC0_1.out); rintro e w16 ⟨v672, v675, rfl, ho0, ho1, hb⟩; refine ⟨_, rfl, ?_⟩; have n0_ := Aside0.mk (Kd.R_lower ho0 (below_size (by repeat (first | (with_reducible first | exact HB.out | apply below_alloc | apply pw_below_drewN | apply below_drew1 | refine below_set ?_ GE669.out) | exact HB.out)))); have n1_ := Aside0.mk (Kd.R_lower ho1 (below_size (by repeat (first | (with_reducible first | exact HB.out | apply below_alloc | apply pw_below_drewN | apply below_drew1 | refine below_set ?_ GE669.out) | exact HB.out)))); have n2_ := Aside0.mk (blk_below (g := gb669) (o := .cells #[.slice A0_0 l0_0.length c0_0, .slice A0_1 l0_1.length c0_1] 62 (0, 0)) (by (with_reducible repeat (first | refine blk_drewN ?_ _ | refine blk_drew ?_ | refine blk_alloc ?_ _)); exact BK669.out) hb); have n3_ := Aside0.mk (below_step (by repeat (first | (with_reducible first | exact HB.out | apply below_alloc | apply pw_below_drewN | apply below_drew1 | refine below_set ?_ GE669.out) | exact HB.out)) hb); clear BK669; clear HB; have HO673 := n0_; have HO676 := n1_; have BK669 := n2_; have HB := n3_; clear n0_ n1_ n2_ n3_; (try clear hb); (try clear hb2); (try clear hk); (try clear hi); (try clear ho0); (try clear ho1); obtain ⟨Ao17, co17, eo17⟩ := Kd.R_slice HO673.out; subst eo17; obtain ⟨Ao18, co18, eo18⟩ := Kd.R_slice HO676.out; subst eo18) | ((with_reducible refine gate_callee (f := 42) rfl ?_); refine goesL_ (some 14) rfl rfl Try.func42 (by kernel_rfl) rfl #[.agg #[.slice Ao17 t671.length co17, .slice Ao18 t674.length co18]] rfl (by (try simp only [List.map_toArray, List.map_cons, List.map_nil]); first | done | rfl | (simp only [List.length_drop, List.length_take]; rfl)) ?_; (with_reducible refine (spec_SheetFixed.calls k _ _ t671 _ _ t674 t677 _ ?side1 ?side2 ?side3 ?side4 A8.out).mono ?_); (case side1 => repeat (first | exact (Kd.R_reads' HO673.out).2.2 | (with_reducible refine Kd.C_alloc ?_ _) | (with_reducible refine Kd.C_drewN ?_ _) | (with_reducible refine Kd.C_drew ?_))); (case side2 => exact (Kd.R_reads' HO673.out).2.1); (case side3 => repeat (first | exact (Kd.R_reads' HO676.out).2.2 | (with_reducible refine Kd.C_alloc ?_ _) | (with_reducible refine Kd.C_drewN ?_ _) | (with_reducible refine Kd.C_drew ?_))); (case side4 => exact (Kd.R_reads' HO676.out).2.1); rintro e w19 ⟨rfl, hb⟩; refine ⟨_, rfl, ?_⟩; have n0_ := Aside0.mk (Kd.R_below (by (with_reducible repeat (first | apply Kd.R_alloc | apply Kd.R_drewN | apply Kd.R_drew)); exact HO673.out) hb); have n1_ := Aside0.mk (Kd.R_below (by (with_reducible repeat (first | apply Kd.R_alloc | apply Kd.R_drewN | apply Kd.R_drew)); exact HO676.out) hb); have n2_ := Aside0.mk (blk_below (g := gb669) (o := .cells #[.slice A0_0 l0_0.length c0_0, .slice A0_1 l0_1.length c0_1] 62 (0, 0)) (by (with_reducible repeat (first | refine blk_drewN ?_ _ | refine blk_drew ?_ | refine blk_alloc ?_ _)); exact BK669.out) hb); have n3_ := Aside0.mk (below_step (by repeat (first | (with_reducible first | exact HB.out | apply below_alloc | apply pw_below_drewN | apply below_drew1 | refine below_set ?_ GE669.out) | exact HB.out)) hb); clear HO673; clear HO676; clear BK669; clear HB; have HO673 := n0_; have HO676 := n1_; have BK669 := n2_; have HB := n3_; clear n0_ n1_ n2_ n3_; (try clear hb); (try clear hb2); (try clear hk); (try clear hi); have hcz20_0 : w19.cell? ⟨gb669, 0, none⟩ = some (.slice A0_0 l0_0.length c0_0) := (blk_cell BK669.out 0).trans rfl; have hcz20_1 : w19.cell? ⟨gb669, 1, none⟩ = some (.slice A0_1 l0_1.length c0_1) := (blk_cell BK669.out 1).trans rfl; have hfz20_0 := blk_frozen BK669.out 0; have hfz20_1 := blk_frozen BK669.out 1) | ((with_reducible refine gate_callee (f := 43) rfl ?_); refine goesL_ (some 16) rfl rfl Try.func43 (by kernel_rfl) rfl #[.agg #[.slice A0_0 l0_0.length c0_0, .slice A0_1 l0_1.length c0_1]] rfl (by (try simp only [List.map_toArray, List.map_cons, List.map_nil]); first | done | rfl | (simp only [List.length_drop, List.length_take]; rfl)) ?_; (with_reducible refine (laws_toSheet.calls k _ _ l0_0 _ _ l0_1 t678 t681 _ ?side1 ?side2 ?side3 ?side4 A9.out).mono ?_); (case side1 => repeat (first | exact (Kd.C_below HR0_0.out HB.out) | (with_reducible refine Kd.C_alloc ?_ _) | (with_reducible refine Kd.C_drewN ?_ _) | (with_reducible refine Kd.C_drew ?_))); (case side2 => exact HC0_0.out); (case side3 => repeat (first | exact (Kd.C_below HR0_1.out HB.out) | (with_reducible refine Kd.C_alloc ?_ _) | (with_reducible refine Kd.C_drewN ?_ _) | (with_reducible refine Kd.C_drew ?_))); (case side4 => exact HC0_1.out); rintro e w21 ⟨v679, v682, rfl, ho0, ho1, hb⟩; refine ⟨_, rfl, ?_⟩; have n0_ := Aside0.mk (Kd.R_elder' (by (with_reducible repeat (first | apply Kd.R_alloc | apply Kd.R_drewN | apply Kd.R_drew)); exact HO673.out) (Kd.R_base ho0) hb); have n1_ := Aside0.mk (Kd.R_elder' (by (with_reducible repeat (first | apply Kd.R_alloc | apply Kd.R_drewN | apply Kd.R_drew)); exact HO676.out) (Kd.R_base ho1) hb); have n2_ := Aside0.mk (Kd.R_lower (Kd.R_new' ho0 (Kd.R_lt (by (with_reducible repeat (first | apply Kd.R_alloc | apply Kd.R_drewN | apply Kd.R_drew)); exact HO673.out))) (below_size (by repeat (first | (with_reducible first | exact HB.out | apply below_alloc | apply pw_below_drewN | apply below_drew1 | refine below_set ?_ GE669.out) | exact HB.out)))); have n3_ := Aside0.mk (Kd.R_lower (Kd.R_new' ho1 (Kd.R_lt (by (with_reducible repeat (first | apply Kd.R_alloc | apply Kd.R_drewN | apply Kd.R_drew)); exact HO676.out))) (below_size (by repeat (first | (with_reducible first | exact HB.out | apply below_alloc | apply pw_below_drewN | apply below_drew1 | refine below_set ?_ GE669.out) | exact HB.out)))); have n4_ := Aside0.mk (blk_below (g := gb669) (o := .cells #[.slice A0_0 l0_0.length c0_0, .slice A0_1 l0_1.length c0_1] 62 (0, 0)) (by (with_reducible repeat (first | refine blk_drewN ?_ _ | refine blk_drew ?_ | refine blk_alloc ?_ _)); exact BK669.out) hb); have n5_ := Aside0.mk (below_step (by repeat (first | (with_reducible first | exact HB.out | apply below_alloc | apply pw_below_drewN | apply below_drew1 | refine below_set ?_ GE669.out) | exact HB.out)) hb); clear HO673; clear HO676; clear BK669; clear HB; have HO673 := n0_; have HO676 := n1_; have HO680 := n2_; have HO683 := n3_; have BK669 := n4_; have HB := n5_; clear n0_ n1_ n2_ n3_ n4_ n5_; (try clear hb); (try clear hb2); (try clear hk); (try clear hi); (try clear ho0); (try clear ho1)) | ((with_reducible refine gate_dst (N := 5) rfl ?_); refine box_event ?hg (N := 5) ?hd (cs := #[.slice none 0 0, .slice none 0 0]) (t := 67) ?hr ?_; (case hd => rfl); (case hg => rfl); (case hr => first | (go_simp; done) | (go_simp; rfl)); intro gb684 hg w22 hbox hb; have n0_ := Aside0.mk (Kd.R_below (by (with_reducible repeat (first | apply Kd.R_alloc | apply Kd.R_drewN | apply Kd.R_drew)); exact HO673.out) hb); have n1_ := Aside0.mk (Kd.R_below (by (with_reducible repeat (first | apply Kd.R_alloc | apply Kd.R_drewN | apply Kd.R_drew)); exact HO676.out) hb); have n2_ := Aside0.mk (Kd.R_below (by (with_reducible repeat (first | apply Kd.R_alloc | apply Kd.R_drewN | apply Kd.R_drew)); exact HO680.out) hb); have n3_ := Aside0.mk (Kd.R_below (by (with_reducible repeat (first | apply Kd.R_alloc | apply Kd.R_drewN | apply Kd.R_drew)); exact HO683.out) hb); have n4_ := Aside0.mk (blk_below (g := gb669) (o := .cells #[.slice A0_0 l0_0.length c0_0, .slice A0_1 l0_1.length c0_1] 62 (0, 0)) (by (with_reducible repeat (first | refine blk_drewN ?_ _ | refine blk_drew ?_ | refine blk_alloc ?_ _)); exact BK669.out) hb); have n5_ := Aside0.mk (below_step (by repeat (first | (with_reducible first | exact HB.out | apply below_alloc | apply pw_below_drewN | apply below_drew1 | refine below_set ?_ GE669.out) | exact HB.out)) hb); have n6_ := Aside0.mk (hbox); have n7_ := Aside0.mk ((by rw [hg]; exact (below_size (by repeat (first | (with_reducible first | exact HB.out | apply below_alloc | apply pw_below_drewN | apply below_drew1 | refine below_set ?_ GE669.out) | exact HB.out))) : w.heap.size ≤ gb684)); have n8_ := Aside0.mk ((by rw [hg]; exact (below_size (by repeat (first | (with_reducible first | exact HB.out | apply below_alloc | apply pw_below_drewN | apply below_drew1 | refine below_set ?_ GE669.out) | exact HB.out))) : w.heap.size ≤ gb684)); have n9_ := Aside0.mk ((by rw [hg]; exact Nat.ne_of_lt (blk_lt (g := gb669) (o := .cells #[.slice A0_0 l0_0.length c0_0, .slice A0_1 l0_1.length c0_1] 62 (0, 0)) (by (with_reducible repeat (first | refine blk_drewN ?_ _ | refine blk_drew ?_ | refine blk_alloc ?_ _)); exact BK669.out)) : gb669 ≠ gb684)); have n10_ := Aside0.mk ((by rw [hg]; exact Nat.ne_of_gt (blk_lt (g := gb669) (o := .cells #[.slice A0_0 l0_0.length c0_0, .slice A0_1 l0_1.length c0_1] 62 (0, 0)) (by (with_reducible repeat (first | refine blk_drewN ?_ _ | refine blk_drew ?_ | refine blk_alloc ?_ _)); exact BK669.out)) : gb684 ≠ gb669)); clear HO673; clear HO676; clear HO680; clear HO683; clear BK669; clear HB; have HO673 := n0_; have HO676 := n1_; have HO680 := n2_; have HO683 := n3_; have BK669 := n4_; have HB := n5_; have BK684 := n6_; have GW684 := n7_; have GE684 := n8_; have NB669_684 := n9_; have NB684_669 := n10_; clear n0_ n1_ n2_ n3_ n4_ n5_ n6_ n7_ n8_ n9_ n10_; clear hb hbox hg; obtain ⟨Ao23, co23, eo23⟩ := Kd.R_slice HO680.out; subst eo23; have hnb24 := NB684_669.out; have hnc24 := NB669_684.out; have hcz25_0 : w22.cell? ⟨gb684, 0, none⟩ = some (.slice none 0 0) := (blk_cell BK684.out 0).trans rfl; have hcz25_1 : w22.cell? ⟨gb684, 1, none⟩ = some (.slice none 0 0) := (blk_cell BK684.out 1).trans rfl; have hfz25_0 := blk_frozen BK684.out 0; have hfz25_1 := blk_frozen BK684.out 1; obtain ⟨Ao26, co26, eo26⟩ := Kd.R_slice HO683.out; subst eo26) | ((with_reducible refine gate_callee (f := 44) rfl ?_); refine goesL_ (some 18) rfl rfl Try.func44 (by kernel_rfl) rfl #[.agg #[.slice Ao23 t678.length co23, .slice Ao26 t681.length co26]] rfl (by (try simp only [List.map_toArray, List.map_cons, List.map_nil]); first | done | rfl | (simp only [List.length_drop, List.length_take]; rfl)) ?_; (with_reducible refine (impl_SheetFixed.calls k _ _ t678 _ _ t681 t685 _ ?side1 ?side2 ?side3 ?side4 A10.out).mono ?_); (case side1 => refine (Kd.R_reads' (e := 4) (base := w.heap.size) (ok := fun k_ => (True ∧ some k_ ≠ (.slice Ao17 t671.length co17 : Value).ownBlock)) (n := t678.length) (c := co23) ?_).2.2; exact (by (with_reducible repeat (first | apply Kd.R_alloc | apply Kd.R_drewN | apply Kd.R_drew)); exact (Kd.R_mono (Kd.R_far (p := ⟨gb684, 1, none⟩) (Kd.R_far (p := ⟨gb684, 0, none⟩) (Kd.R_types HO680.out BK684.out (by decide)) (fun _ hk => hk.2) (.slice Ao23 t678.length co23)) (fun _ hk => hk.2) (.slice Ao26 t681.length co26)) (fun _ h_ => h_.1)))); (case side2 => exact (Kd.R_reads' HO680.out).2.1); (case side3 => refine (Kd.R_reads' (e := 90) (base := w.heap.size) (ok := fun k_ => (True ∧ some k_ ≠ (.slice Ao18 t674.length co18 : Value).ownBlock)) (n := t681.length) (c := co26) ?_).2.2; exact (by (with_reducible repeat (first | apply Kd.R_alloc | apply Kd.R_drewN | apply Kd.R_drew)); exact (Kd.R_mono (Kd.R_far (p := ⟨gb684, 1, none⟩) (Kd.R_far (p := ⟨gb684, 0, none⟩) (Kd.R_types HO683.out BK684.out (by decide)) (fun _ hk => hk.2) (.slice Ao23 t678.length co23)) (fun _ hk => hk.2) (.slice Ao26 t681.length co26)) (fun _ h_ => h_.1)))); (case side4 => exact (Kd.R_reads' HO683.out).2.1); rintro e w27 ⟨rfl, hb⟩; refine ⟨_, rfl, ?_⟩; have n0_ := Aside0.mk (Kd.R_below (by (with_reducible repeat (first | apply Kd.R_alloc | apply Kd.R_drewN | apply Kd.R_drew)); exact (Kd.R_mono (Kd.R_far (p := ⟨gb684, 1, none⟩) (Kd.R_far (p := ⟨gb684, 0, none⟩) (Kd.R_types HO673.out BK684.out (by decide)) (fun _ hk => hk.2) (.slice Ao23 t678.length co23)) (fun _ hk => hk.2) (.slice Ao26 t681.length co26)) (fun _ h_ => h_.1))) hb); have n1_ := Aside0.mk (Kd.R_below (by (with_reducible repeat (first | apply Kd.R_alloc | apply Kd.R_drewN | apply Kd.R_drew)); exact (Kd.R_mono (Kd.R_far (p := ⟨gb684, 1, none⟩) (Kd.R_far (p := ⟨gb684, 0, none⟩) (Kd.R_types HO676.out BK684.out (by decide)) (fun _ hk => hk.2) (.slice Ao23 t678.length co23)) (fun _ hk => hk.2) (.slice Ao26 t681.length co26)) (fun _ h_ => h_.1))) hb); have n2_ := Aside0.mk (Kd.R_below (by (with_reducible repeat (first | apply Kd.R_alloc | apply Kd.R_drewN | apply Kd.R_drew)); exact (Kd.R_mono (Kd.R_far (p := ⟨gb684, 1, none⟩) (Kd.R_far (p := ⟨gb684, 0, none⟩) (Kd.R_types HO680.out BK684.out (by decide)) (fun _ hk => hk.2) (.slice Ao23 t678.length co23)) (fun _ hk => hk.2) (.slice Ao26 t681.length co26)) (fun _ h_ => h_.1))) hb); have n3_ := Aside0.mk (Kd.R_below (by (with_reducible repeat (first | apply Kd.R_alloc | apply Kd.R_drewN | apply Kd.R_drew)); exact (Kd.R_mono (Kd.R_far (p := ⟨gb684, 1, none⟩) (Kd.R_far (p := ⟨gb684, 0, none⟩) (Kd.R_types HO683.out BK684.out (by decide)) (fun _ hk => hk.2) (.slice Ao23 t678.length co23)) (fun _ hk => hk.2) (.slice Ao26 t681.length co26)) (fun _ h_ => h_.1))) hb); have n4_ := Aside0.mk (blk_below (g := gb669) (o := .cells #[.slice A0_0 l0_0.length c0_0, .slice A0_1 l0_1.length c0_1] 62 (0, 0)) (by (with_reducible repeat (first | refine blk_drewN ?_ _ | refine blk_drew ?_ | refine blk_alloc ?_ _)); refine blk_far ?_ NB669_684.out _; (with_reducible repeat (first | refine blk_drewN ?_ _ | refine blk_drew ?_ | refine blk_alloc ?_ _)); refine blk_far ?_ NB669_684.out _; (with_reducible repeat (first | refine blk_drewN ?_ _ | refine blk_drew ?_ | refine blk_alloc ?_ _)); exact BK669.out) hb); have n5_ := Aside0.mk (blk_below (g := gb684) (o := .cells #[.slice Ao23 t678.length co23, .slice Ao26 t681.length co26] 67 (0, 0)) (by (with_reducible repeat (first | refine blk_drewN ?_ _ | refine blk_drew ?_ | refine blk_alloc ?_ _)); refine blk_put (cs := #[.slice Ao23 t678.length co23, .slice none 0 0]) ?_ 1 _ rfl; (with_reducible repeat (first | refine blk_drewN ?_ _ | refine blk_drew ?_ | refine blk_alloc ?_ _)); refine blk_put (cs := #[.slice none 0 0, .slice none 0 0]) ?_ 0 _ rfl; (with_reducible repeat (first | refine blk_drewN ?_ _ | refine blk_drew ?_ | refine blk_alloc ?_ _)); exact BK684.out) hb); have n6_ := Aside0.mk (below_step (by repeat (first | (with_reducible first | exact HB.out | apply below_alloc | apply pw_below_drewN | apply below_drew1 | refine below_set ?_ GE669.out | refine below_set ?_ GE684.out) | exact HB.out)) hb); clear HO673; clear HO676; clear HO680; clear HO683; clear BK669; clear BK684; clear HB; have HO673 := n0_; have HO676 := n1_; have HO680 := n2_; have HO683 := n3_; have BK669 := n4_; have BK684 := n5_; have HB := n6_; clear n0_ n1_ n2_ n3_ n4_ n5_ n6_; (try clear hb); (try clear hb2); (try clear hk); (try clear hi)))
      go_ret
      exact ⟨by first | rfl | (simp [errW_none, errW_some] <;> rfl) | (simp [*, errW_none, errW_some] <;> rfl), by repeat (first | (with_reducible first | exact HB.out | apply below_alloc | apply pw_below_drewN | apply below_drew1 | refine below_set ?_ GE669.out | refine below_set ?_ GE684.out) | exact HB.out)⟩
    · rw [if_neg c11] at H
      have c11b0 : (t685 != t677) = false := by simpa using c11
      (try (have c11b1 : decide (t685 = t677) = true := by simpa using c11))
      (try (have c11b2 : (t685 == t677) = true := by simpa using c11))
      clear c11
      replace H := Option.bind_eq_some_iff.mp H
      obtain ⟨⟨t686, t689⟩, A280, H⟩ := H
      replace H : ((laws_eqSheet.f k t678 t681 t686 t689).bind fun t692 => (if t692 = true then (some true) else (some false))) = some r := H
      have A28 := Aside0.mk A280
      clear A280
      replace H := Option.bind_eq_some_iff.mp H
      obtain ⟨t692, A290, H⟩ := H
      replace H : (if t692 = true then (some true) else (some false)) = some r := H
      have A29 := Aside0.mk A290
      clear A290
      by_cases c30 : t692 = true
      · subst c30
        have H1 : (some true) = some r := by rw [if_pos rfl] at H; exact H
        clear H
        have H := H1
        clear H1
        obtain rfl := Option.some.inj H
        go_enter Try.func9, Try.ntmps9
        try go_wp2_with (first | ((with_reducible refine gate_dst (N := 1) rfl ?_); refine box_event ?hg (N := 1) ?hd (cs := #[.slice A0_0 l0_0.length c0_0, .slice A0_1 l0_1.length c0_1]) (t := 62) ?hr ?_; (case hd => rfl); (case hg => rfl); (case hr => first | (go_simp; done) | (go_simp; rfl)); intro gb669 hg w31 hbox hb; have n0_ := Aside0.mk (below_step (by repeat (first | (with_reducible first | exact HB.out | apply below_alloc | apply pw_below_drewN | apply below_drew1) | exact HB.out)) hb); have n1_ := Aside0.mk (hbox); have n2_ := Aside0.mk ((by rw [hg]; exact (below_size (by repeat (first | (with_reducible first | exact HB.out | apply below_alloc | apply pw_below_drewN | apply below_drew1) | exact HB.out))) : w.heap.size ≤ gb669)); have n3_ := Aside0.mk ((by rw [hg]; exact (below_size (by repeat (first | (with_reducible first | exact HB.out | apply below_alloc | apply pw_below_drewN | apply below_drew1) | exact HB.out))) : w.heap.size ≤ gb669)); clear HB; have HB := n0_; have BK669 := n1_; have GW669 := n2_; have GE669 := n3_; clear n0_ n1_ n2_ n3_; clear hb hbox hg; have hcz32_0 : w31.cell? ⟨gb669, 0, none⟩ = some (.slice A0_0 l0_0.length c0_0) := (blk_cell BK669.out 0).trans rfl; have hcz32_1 : w31.cell? ⟨gb669, 1, none⟩ = some (.slice A0_1 l0_1.length c0_1) := (blk_cell BK669.out 1).trans rfl; have hfz32_0 := blk_frozen BK669.out 0; have hfz32_1 := blk_frozen BK669.out 1) | ((with_reducible refine gate_callee (f := 41) rfl ?_); refine goesL_ (some 9) rfl rfl Try.func41 (by kernel_rfl) rfl #[.agg #[.slice A0_0 l0_0.length c0_0, .slice A0_1 l0_1.length c0_1], .int .i64 1048576] rfl (by (try simp only [List.map_toArray, List.map_cons, List.map_nil]); first | done | rfl | (simp only [List.length_drop, List.length_take]; rfl)) ?_; (with_reducible refine (laws_szSheet.calls k _ _ l0_0 _ _ l0_1 1048576 t670 _ ?side1 ?side2 ?side3 ?side4 A2.out).mono ?_); (case side1 => repeat (first | exact (Kd.C_below HR0_0.out HB.out) | (with_reducible refine Kd.C_alloc ?_ _) | (with_reducible refine Kd.C_drewN ?_ _) | (with_reducible refine Kd.C_drew ?_))); (case side2 => exact HC0_0.out); (case side3 => repeat (first | exact (Kd.C_below HR0_1.out HB.out) | (with_reducible refine Kd.C_alloc ?_ _) | (with_reducible refine Kd.C_drewN ?_ _) | (with_reducible refine Kd.C_drew ?_))); (case side4 => exact HC0_1.out); rintro e w33 ⟨rfl, hb⟩; refine ⟨_, rfl, ?_⟩; have n0_ := Aside0.mk (blk_below (g := gb669) (o := .cells #[.slice A0_0 l0_0.length c0_0, .slice A0_1 l0_1.length c0_1] 62 (0, 0)) (by (with_reducible repeat (first | refine blk_drewN ?_ _ | refine blk_drew ?_ | refine blk_alloc ?_ _)); exact BK669.out) hb); have n1_ := Aside0.mk (below_step (by repeat (first | (with_reducible first | exact HB.out | apply below_alloc | apply pw_below_drewN | apply below_drew1 | refine below_set ?_ GE669.out) | exact HB.out)) hb); clear BK669; clear HB; have BK669 := n0_; have HB := n1_; clear n0_ n1_; (try clear hb); (try clear hb2); (try clear hk); (try clear hi); have hcz34_0 : w33.cell? ⟨gb669, 0, none⟩ = some (.slice A0_0 l0_0.length c0_0) := (blk_cell BK669.out 0).trans rfl; have hcz34_1 : w33.cell? ⟨gb669, 1, none⟩ = some (.slice A0_1 l0_1.length c0_1) := (blk_cell BK669.out 1).trans rfl; have hfz34_0 := blk_frozen BK669.out 0; have hfz34_1 := blk_frozen BK669.out 1) | ((with_reducible refine gate_callee (f := 43) rfl ?_); refine goesL_ (some 13) rfl rfl Try.func43 (by kernel_rfl) rfl #[.agg #[.slice A0_0 l0_0.length c0_0, .slice A0_1 l0_1.length c0_1]] rfl (by (try simp only [List.map_toArray, List.map_cons, List.map_nil]); first | done | rfl | (simp only [List.length_drop, List.length_take]; rfl)) ?_; (with_reducible refine (laws_toSheet.calls k _ _ l0_0 _ _ l0_1 t671 t674 _ ?side1 ?side2 ?side3 ?side4 A7.out).mono ?_); (case side1 => repeat (first | exact (Kd.C_below HR0_0.out HB.out) | (with_reducible refine Kd.C_alloc ?_ _) | (with_reducible refine Kd.C_drewN ?_ _) | (with_reducible refine Kd.C_drew ?_))); (case side2 => exact HC0_0.out); (case side3 => repeat (first | exact (Kd.C_below HR0_1.out HB.out) | (with_reducible refine Kd.C_alloc ?_ _) | (with_reducible refine Kd.C_drewN ?_ _) | (with_reducible refine Kd.C_drew ?_))); (case side4 => exact HC0_1.out); rintro e w35 ⟨v672, v675, rfl, ho0, ho1, hb⟩; refine ⟨_, rfl, ?_⟩; have n0_ := Aside0.mk (Kd.R_lower ho0 (below_size (by repeat (first | (with_reducible first | exact HB.out | apply below_alloc | apply pw_below_drewN | apply below_drew1 | refine below_set ?_ GE669.out) | exact HB.out)))); have n1_ := Aside0.mk (Kd.R_lower ho1 (below_size (by repeat (first | (with_reducible first | exact HB.out | apply below_alloc | apply pw_below_drewN | apply below_drew1 | refine below_set ?_ GE669.out) | exact HB.out)))); have n2_ := Aside0.mk (blk_below (g := gb669) (o := .cells #[.slice A0_0 l0_0.length c0_0, .slice A0_1 l0_1.length c0_1] 62 (0, 0)) (by (with_reducible repeat (first | refine blk_drewN ?_ _ | refine blk_drew ?_ | refine blk_alloc ?_ _)); exact BK669.out) hb); have n3_ := Aside0.mk (below_step (by repeat (first | (with_reducible first | exact HB.out | apply below_alloc | apply pw_below_drewN | apply below_drew1 | refine below_set ?_ GE669.out) | exact HB.out)) hb); clear BK669; clear HB; have HO673 := n0_; have HO676 := n1_; have BK669 := n2_; have HB := n3_; clear n0_ n1_ n2_ n3_; (try clear hb); (try clear hb2); (try clear hk); (try clear hi); (try clear ho0); (try clear ho1); obtain ⟨Ao36, co36, eo36⟩ := Kd.R_slice HO673.out; subst eo36; obtain ⟨Ao37, co37, eo37⟩ := Kd.R_slice HO676.out; subst eo37) | ((with_reducible refine gate_callee (f := 42) rfl ?_); refine goesL_ (some 14) rfl rfl Try.func42 (by kernel_rfl) rfl #[.agg #[.slice Ao36 t671.length co36, .slice Ao37 t674.length co37]] rfl (by (try simp only [List.map_toArray, List.map_cons, List.map_nil]); first | done | rfl | (simp only [List.length_drop, List.length_take]; rfl)) ?_; (with_reducible refine (spec_SheetFixed.calls k _ _ t671 _ _ t674 t677 _ ?side1 ?side2 ?side3 ?side4 A8.out).mono ?_); (case side1 => repeat (first | exact (Kd.R_reads' HO673.out).2.2 | (with_reducible refine Kd.C_alloc ?_ _) | (with_reducible refine Kd.C_drewN ?_ _) | (with_reducible refine Kd.C_drew ?_))); (case side2 => exact (Kd.R_reads' HO673.out).2.1); (case side3 => repeat (first | exact (Kd.R_reads' HO676.out).2.2 | (with_reducible refine Kd.C_alloc ?_ _) | (with_reducible refine Kd.C_drewN ?_ _) | (with_reducible refine Kd.C_drew ?_))); (case side4 => exact (Kd.R_reads' HO676.out).2.1); rintro e w38 ⟨rfl, hb⟩; refine ⟨_, rfl, ?_⟩; have n0_ := Aside0.mk (Kd.R_below (by (with_reducible repeat (first | apply Kd.R_alloc | apply Kd.R_drewN | apply Kd.R_drew)); exact HO673.out) hb); have n1_ := Aside0.mk (Kd.R_below (by (with_reducible repeat (first | apply Kd.R_alloc | apply Kd.R_drewN | apply Kd.R_drew)); exact HO676.out) hb); have n2_ := Aside0.mk (blk_below (g := gb669) (o := .cells #[.slice A0_0 l0_0.length c0_0, .slice A0_1 l0_1.length c0_1] 62 (0, 0)) (by (with_reducible repeat (first | refine blk_drewN ?_ _ | refine blk_drew ?_ | refine blk_alloc ?_ _)); exact BK669.out) hb); have n3_ := Aside0.mk (below_step (by repeat (first | (with_reducible first | exact HB.out | apply below_alloc | apply pw_below_drewN | apply below_drew1 | refine below_set ?_ GE669.out) | exact HB.out)) hb); clear HO673; clear HO676; clear BK669; clear HB; have HO673 := n0_; have HO676 := n1_; have BK669 := n2_; have HB := n3_; clear n0_ n1_ n2_ n3_; (try clear hb); (try clear hb2); (try clear hk); (try clear hi); have hcz39_0 : w38.cell? ⟨gb669, 0, none⟩ = some (.slice A0_0 l0_0.length c0_0) := (blk_cell BK669.out 0).trans rfl; have hcz39_1 : w38.cell? ⟨gb669, 1, none⟩ = some (.slice A0_1 l0_1.length c0_1) := (blk_cell BK669.out 1).trans rfl; have hfz39_0 := blk_frozen BK669.out 0; have hfz39_1 := blk_frozen BK669.out 1) | ((with_reducible refine gate_callee (f := 43) rfl ?_); refine goesL_ (some 16) rfl rfl Try.func43 (by kernel_rfl) rfl #[.agg #[.slice A0_0 l0_0.length c0_0, .slice A0_1 l0_1.length c0_1]] rfl (by (try simp only [List.map_toArray, List.map_cons, List.map_nil]); first | done | rfl | (simp only [List.length_drop, List.length_take]; rfl)) ?_; (with_reducible refine (laws_toSheet.calls k _ _ l0_0 _ _ l0_1 t678 t681 _ ?side1 ?side2 ?side3 ?side4 A9.out).mono ?_); (case side1 => repeat (first | exact (Kd.C_below HR0_0.out HB.out) | (with_reducible refine Kd.C_alloc ?_ _) | (with_reducible refine Kd.C_drewN ?_ _) | (with_reducible refine Kd.C_drew ?_))); (case side2 => exact HC0_0.out); (case side3 => repeat (first | exact (Kd.C_below HR0_1.out HB.out) | (with_reducible refine Kd.C_alloc ?_ _) | (with_reducible refine Kd.C_drewN ?_ _) | (with_reducible refine Kd.C_drew ?_))); (case side4 => exact HC0_1.out); rintro e w40 ⟨v679, v682, rfl, ho0, ho1, hb⟩; refine ⟨_, rfl, ?_⟩; have n0_ := Aside0.mk (Kd.R_elder' (by (with_reducible repeat (first | apply Kd.R_alloc | apply Kd.R_drewN | apply Kd.R_drew)); exact HO673.out) (Kd.R_base ho0) hb); have n1_ := Aside0.mk (Kd.R_elder' (by (with_reducible repeat (first | apply Kd.R_alloc | apply Kd.R_drewN | apply Kd.R_drew)); exact HO676.out) (Kd.R_base ho1) hb); have n2_ := Aside0.mk (Kd.R_lower (Kd.R_new' ho0 (Kd.R_lt (by (with_reducible repeat (first | apply Kd.R_alloc | apply Kd.R_drewN | apply Kd.R_drew)); exact HO673.out))) (below_size (by repeat (first | (with_reducible first | exact HB.out | apply below_alloc | apply pw_below_drewN | apply below_drew1 | refine below_set ?_ GE669.out) | exact HB.out)))); have n3_ := Aside0.mk (Kd.R_lower (Kd.R_new' ho1 (Kd.R_lt (by (with_reducible repeat (first | apply Kd.R_alloc | apply Kd.R_drewN | apply Kd.R_drew)); exact HO676.out))) (below_size (by repeat (first | (with_reducible first | exact HB.out | apply below_alloc | apply pw_below_drewN | apply below_drew1 | refine below_set ?_ GE669.out) | exact HB.out)))); have n4_ := Aside0.mk (blk_below (g := gb669) (o := .cells #[.slice A0_0 l0_0.length c0_0, .slice A0_1 l0_1.length c0_1] 62 (0, 0)) (by (with_reducible repeat (first | refine blk_drewN ?_ _ | refine blk_drew ?_ | refine blk_alloc ?_ _)); exact BK669.out) hb); have n5_ := Aside0.mk (below_step (by repeat (first | (with_reducible first | exact HB.out | apply below_alloc | apply pw_below_drewN | apply below_drew1 | refine below_set ?_ GE669.out) | exact HB.out)) hb); clear HO673; clear HO676; clear BK669; clear HB; have HO673 := n0_; have HO676 := n1_; have HO680 := n2_; have HO683 := n3_; have BK669 := n4_; have HB := n5_; clear n0_ n1_ n2_ n3_ n4_ n5_; (try clear hb); (try clear hb2); (try clear hk); (try clear hi); (try clear ho0); (try clear ho1)) | ((with_reducible refine gate_dst (N := 5) rfl ?_); refine box_event ?hg (N := 5) ?hd (cs := #[.slice none 0 0, .slice none 0 0]) (t := 67) ?hr ?_; (case hd => rfl); (case hg => rfl); (case hr => first | (go_simp; done) | (go_simp; rfl)); intro gb684 hg w41 hbox hb; have n0_ := Aside0.mk (Kd.R_below (by (with_reducible repeat (first | apply Kd.R_alloc | apply Kd.R_drewN | apply Kd.R_drew)); exact HO673.out) hb); have n1_ := Aside0.mk (Kd.R_below (by (with_reducible repeat (first | apply Kd.R_alloc | apply Kd.R_drewN | apply Kd.R_drew)); exact HO676.out) hb); have n2_ := Aside0.mk (Kd.R_below (by (with_reducible repeat (first | apply Kd.R_alloc | apply Kd.R_drewN | apply Kd.R_drew)); exact HO680.out) hb); have n3_ := Aside0.mk (Kd.R_below (by (with_reducible repeat (first | apply Kd.R_alloc | apply Kd.R_drewN | apply Kd.R_drew)); exact HO683.out) hb); have n4_ := Aside0.mk (blk_below (g := gb669) (o := .cells #[.slice A0_0 l0_0.length c0_0, .slice A0_1 l0_1.length c0_1] 62 (0, 0)) (by (with_reducible repeat (first | refine blk_drewN ?_ _ | refine blk_drew ?_ | refine blk_alloc ?_ _)); exact BK669.out) hb); have n5_ := Aside0.mk (below_step (by repeat (first | (with_reducible first | exact HB.out | apply below_alloc | apply pw_below_drewN | apply below_drew1 | refine below_set ?_ GE669.out) | exact HB.out)) hb); have n6_ := Aside0.mk (hbox); have n7_ := Aside0.mk ((by rw [hg]; exact (below_size (by repeat (first | (with_reducible first | exact HB.out | apply below_alloc | apply pw_below_drewN | apply below_drew1 | refine below_set ?_ GE669.out) | exact HB.out))) : w.heap.size ≤ gb684)); have n8_ := Aside0.mk ((by rw [hg]; exact (below_size (by repeat (first | (with_reducible first | exact HB.out | apply below_alloc | apply pw_below_drewN | apply below_drew1 | refine below_set ?_ GE669.out) | exact HB.out))) : w.heap.size ≤ gb684)); have n9_ := Aside0.mk ((by rw [hg]; exact Nat.ne_of_lt (blk_lt (g := gb669) (o := .cells #[.slice A0_0 l0_0.length c0_0, .slice A0_1 l0_1.length c0_1] 62 (0, 0)) (by (with_reducible repeat (first | refine blk_drewN ?_ _ | refine blk_drew ?_ | refine blk_alloc ?_ _)); exact BK669.out)) : gb669 ≠ gb684)); have n10_ := Aside0.mk ((by rw [hg]; exact Nat.ne_of_gt (blk_lt (g := gb669) (o := .cells #[.slice A0_0 l0_0.length c0_0, .slice A0_1 l0_1.length c0_1] 62 (0, 0)) (by (with_reducible repeat (first | refine blk_drewN ?_ _ | refine blk_drew ?_ | refine blk_alloc ?_ _)); exact BK669.out)) : gb684 ≠ gb669)); clear HO673; clear HO676; clear HO680; clear HO683; clear BK669; clear HB; have HO673 := n0_; have HO676 := n1_; have HO680 := n2_; have HO683 := n3_; have BK669 := n4_; have HB := n5_; have BK684 := n6_; have GW684 := n7_; have GE684 := n8_; have NB669_684 := n9_; have NB684_669 := n10_; clear n0_ n1_ n2_ n3_ n4_ n5_ n6_ n7_ n8_ n9_ n10_; clear hb hbox hg; obtain ⟨Ao42, co42, eo42⟩ := Kd.R_slice HO680.out; subst eo42; have hnb43 := NB684_669.out; have hnc43 := NB669_684.out; have hcz44_0 : w41.cell? ⟨gb684, 0, none⟩ = some (.slice none 0 0) := (blk_cell BK684.out 0).trans rfl; have hcz44_1 : w41.cell? ⟨gb684, 1, none⟩ = some (.slice none 0 0) := (blk_cell BK684.out 1).trans rfl; have hfz44_0 := blk_frozen BK684.out 0; have hfz44_1 := blk_frozen BK684.out 1; obtain ⟨Ao45, co45, eo45⟩ := Kd.R_slice HO683.out; subst eo45) | ((with_reducible refine gate_callee (f := 44) rfl ?_); refine goesL_ (some 18) rfl rfl Try.func44 (by kernel_rfl) rfl #[.agg #[.slice Ao42 t678.length co42, .slice Ao45 t681.length co45]] rfl (by (try simp only [List.map_toArray, List.map_cons, List.map_nil]); first | done | rfl | (simp only [List.length_drop, List.length_take]; rfl)) ?_; (with_reducible refine (impl_SheetFixed.calls k _ _ t678 _ _ t681 t685 _ ?side1 ?side2 ?side3 ?side4 A10.out).mono ?_); (case side1 => refine (Kd.R_reads' (e := 4) (base := w.heap.size) (ok := fun k_ => (True ∧ some k_ ≠ (.slice Ao36 t671.length co36 : Value).ownBlock)) (n := t678.length) (c := co42) ?_).2.2; exact (by (with_reducible repeat (first | apply Kd.R_alloc | apply Kd.R_drewN | apply Kd.R_drew)); exact (Kd.R_mono (Kd.R_far (p := ⟨gb684, 1, none⟩) (Kd.R_far (p := ⟨gb684, 0, none⟩) (Kd.R_types HO680.out BK684.out (by decide)) (fun _ hk => hk.2) (.slice Ao42 t678.length co42)) (fun _ hk => hk.2) (.slice Ao45 t681.length co45)) (fun _ h_ => h_.1)))); (case side2 => exact (Kd.R_reads' HO680.out).2.1); (case side3 => refine (Kd.R_reads' (e := 90) (base := w.heap.size) (ok := fun k_ => (True ∧ some k_ ≠ (.slice Ao37 t674.length co37 : Value).ownBlock)) (n := t681.length) (c := co45) ?_).2.2; exact (by (with_reducible repeat (first | apply Kd.R_alloc | apply Kd.R_drewN | apply Kd.R_drew)); exact (Kd.R_mono (Kd.R_far (p := ⟨gb684, 1, none⟩) (Kd.R_far (p := ⟨gb684, 0, none⟩) (Kd.R_types HO683.out BK684.out (by decide)) (fun _ hk => hk.2) (.slice Ao42 t678.length co42)) (fun _ hk => hk.2) (.slice Ao45 t681.length co45)) (fun _ h_ => h_.1)))); (case side4 => exact (Kd.R_reads' HO683.out).2.1); rintro e w46 ⟨rfl, hb⟩; refine ⟨_, rfl, ?_⟩; have n0_ := Aside0.mk (Kd.R_below (by (with_reducible repeat (first | apply Kd.R_alloc | apply Kd.R_drewN | apply Kd.R_drew)); exact (Kd.R_mono (Kd.R_far (p := ⟨gb684, 1, none⟩) (Kd.R_far (p := ⟨gb684, 0, none⟩) (Kd.R_types HO673.out BK684.out (by decide)) (fun _ hk => hk.2) (.slice Ao42 t678.length co42)) (fun _ hk => hk.2) (.slice Ao45 t681.length co45)) (fun _ h_ => h_.1))) hb); have n1_ := Aside0.mk (Kd.R_below (by (with_reducible repeat (first | apply Kd.R_alloc | apply Kd.R_drewN | apply Kd.R_drew)); exact (Kd.R_mono (Kd.R_far (p := ⟨gb684, 1, none⟩) (Kd.R_far (p := ⟨gb684, 0, none⟩) (Kd.R_types HO676.out BK684.out (by decide)) (fun _ hk => hk.2) (.slice Ao42 t678.length co42)) (fun _ hk => hk.2) (.slice Ao45 t681.length co45)) (fun _ h_ => h_.1))) hb); have n2_ := Aside0.mk (Kd.R_below (by (with_reducible repeat (first | apply Kd.R_alloc | apply Kd.R_drewN | apply Kd.R_drew)); exact (Kd.R_mono (Kd.R_far (p := ⟨gb684, 1, none⟩) (Kd.R_far (p := ⟨gb684, 0, none⟩) (Kd.R_types HO680.out BK684.out (by decide)) (fun _ hk => hk.2) (.slice Ao42 t678.length co42)) (fun _ hk => hk.2) (.slice Ao45 t681.length co45)) (fun _ h_ => h_.1))) hb); have n3_ := Aside0.mk (Kd.R_below (by (with_reducible repeat (first | apply Kd.R_alloc | apply Kd.R_drewN | apply Kd.R_drew)); exact (Kd.R_mono (Kd.R_far (p := ⟨gb684, 1, none⟩) (Kd.R_far (p := ⟨gb684, 0, none⟩) (Kd.R_types HO683.out BK684.out (by decide)) (fun _ hk => hk.2) (.slice Ao42 t678.length co42)) (fun _ hk => hk.2) (.slice Ao45 t681.length co45)) (fun _ h_ => h_.1))) hb); have n4_ := Aside0.mk (blk_below (g := gb669) (o := .cells #[.slice A0_0 l0_0.length c0_0, .slice A0_1 l0_1.length c0_1] 62 (0, 0)) (by (with_reducible repeat (first | refine blk_drewN ?_ _ | refine blk_drew ?_ | refine blk_alloc ?_ _)); refine blk_far ?_ NB669_684.out _; (with_reducible repeat (first | refine blk_drewN ?_ _ | refine blk_drew ?_ | refine blk_alloc ?_ _)); refine blk_far ?_ NB669_684.out _; (with_reducible repeat (first | refine blk_drewN ?_ _ | refine blk_drew ?_ | refine blk_alloc ?_ _)); exact BK669.out) hb); have n5_ := Aside0.mk (blk_below (g := gb684) (o := .cells #[.slice Ao42 t678.length co42, .slice Ao45 t681.length co45] 67 (0, 0)) (by (with_reducible repeat (first | refine blk_drewN ?_ _ | refine blk_drew ?_ | refine blk_alloc ?_ _)); refine blk_put (cs := #[.slice Ao42 t678.length co42, .slice none 0 0]) ?_ 1 _ rfl; (with_reducible repeat (first | refine blk_drewN ?_ _ | refine blk_drew ?_ | refine blk_alloc ?_ _)); refine blk_put (cs := #[.slice none 0 0, .slice none 0 0]) ?_ 0 _ rfl; (with_reducible repeat (first | refine blk_drewN ?_ _ | refine blk_drew ?_ | refine blk_alloc ?_ _)); exact BK684.out) hb); have n6_ := Aside0.mk (below_step (by repeat (first | (with_reducible first | exact HB.out | apply below_alloc | apply pw_below_drewN | apply below_drew1 | refine below_set ?_ GE669.out | refine below_set ?_ GE684.out) | exact HB.out)) hb); clear HO673; clear HO676; clear HO680; clear HO683; clear BK669; clear BK684; clear HB; have HO673 := n0_; have HO676 := n1_; have HO680 := n2_; have HO683 := n3_; have BK669 := n4_; have BK684 := n5_; have HB := n6_; clear n0_ n1_ n2_ n3_ n4_ n5_ n6_; (try clear hb); (try clear hb2); (try clear hk); (try clear hi)))
        have n0_ := Aside0.mk (Kd.R_drew HO673.out)
        have n1_ := Aside0.mk (Kd.R_drew HO676.out)
        have n2_ := Aside0.mk (Kd.R_drew HO680.out)
        have n3_ := Aside0.mk (Kd.R_drew HO683.out)
        have n4_ := Aside0.mk (blk_drew BK669.out)
        have n5_ := Aside0.mk (blk_drew BK684.out)
        have n6_ := Aside0.mk (below_drew1 HB.out)
        clear HO673
        clear HO676
        clear HO680
        clear HO683
        clear BK669
        clear BK684
        clear HB
        have HO673 := n0_
        have HO676 := n1_
        have HO680 := n2_
        have HO683 := n3_
        have BK669 := n4_
        have BK684 := n5_
        have HB := n6_
        clear n0_ n1_ n2_ n3_ n4_ n5_ n6_
        refine start_ (n := 5) (S := fun w' => w'.cell? ⟨gb684, 0, none⟩ = some (.slice Ao42 t678.length co42) ∧ w'.cell? ⟨gb684, 1, none⟩ = some (.slice Ao45 t681.length co45) ∧ w'.cell? ⟨gb669, 0, none⟩ = some (.slice A0_0 l0_0.length c0_0) ∧ w'.cell? ⟨gb669, 1, none⟩ = some (.slice A0_1 l0_1.length c0_1)) (ds := []) #[false, false, false, false, false] (by kernel_rfl) rfl rfl ⟨(blk_cell BK684.out 0).trans rfl, (blk_cell BK684.out 1).trans rfl, (blk_cell BK669.out 0).trans rfl, (blk_cell BK669.out 1).trans rfl⟩ (fun hHeld => ?_)
        generalize w46.drew = w47 at HO673 HO676 HO680 HO683 BK669 BK684 HB hHeld ⊢
        refine take_ (i := 0) (N := some 22) (v := ?_) (a' := ?_) #[true, false, false, false, false] rfl rfl (by kernel_rfl) (fun _ _ _ h => h) (Or.inl ⟨by rfl, ?_⟩) hHeld ?_ ?_
        rotate_left
        · rintro w' ⟨s0, s1, s2, s3⟩
          go_simp
          with_reducible rfl
        rotate_left
        · simp only [Act.put, List.setIfInBounds_toArray, List.set_cons_zero, List.set_cons_succ, i64_w, i32_w]
          rfl
        refine take_ (i := 1) (N := some 23) (v := ?_) (a' := ?_) #[true, true, false, false, false] rfl rfl (by kernel_rfl) (fun _ _ _ h => h) (Or.inl ⟨by rfl, ?_⟩) hHeld ?_ ?_
        rotate_left
        · rintro w' ⟨s0, s1, s2, s3⟩
          go_simp
          with_reducible rfl
        rotate_left
        · simp only [Act.put, List.setIfInBounds_toArray, List.set_cons_zero, List.set_cons_succ, i64_w, i32_w]
          rfl
        refine one_ (i := 2) (N := some 24) #[true, true, true, false, false] rfl rfl (by kernel_rfl) (by decide) (fun K hK => ?_)
        refine goes_ Try.func43 (by kernel_rfl) rfl #[.agg #[.slice A0_0 l0_0.length c0_0, .slice A0_1 l0_1.length c0_1]] (by rfl) rfl rfl (by (try simp only [List.map_toArray, List.map_cons, List.map_nil]); first | done | rfl | (simp only [List.length_drop, List.length_take]; rfl)) ?_
        with_reducible refine (laws_toSheet.calls k _ _ l0_0 _ _ l0_1 t686 t689 _ ?side1 ?side2 ?side3 ?side4 A28.out).mono ?_
        (case side1 => repeat (first | exact (Kd.C_below HR0_0.out HB.out) | (with_reducible refine Kd.C_alloc ?_ _) | (with_reducible refine Kd.C_drewN ?_ _) | (with_reducible refine Kd.C_drew ?_)))
        (case side2 => exact HC0_0.out)
        (case side3 => repeat (first | exact (Kd.C_below HR0_1.out HB.out) | (with_reducible refine Kd.C_alloc ?_ _) | (with_reducible refine Kd.C_drewN ?_ _) | (with_reducible refine Kd.C_drew ?_)))
        (case side4 => exact HC0_1.out)
        rintro e w48 ⟨v687, v690, rfl, ho0, ho1, hb⟩
        refine ⟨_, rfl, ?_⟩
        have n0_ := Aside0.mk (Kd.R_elder' (by (with_reducible repeat (first | apply Kd.R_alloc | apply Kd.R_drewN | apply Kd.R_drew)); exact HO673.out) (Kd.R_base ho0) hb)
        have n1_ := Aside0.mk (Kd.R_elder' (by (with_reducible repeat (first | apply Kd.R_alloc | apply Kd.R_drewN | apply Kd.R_drew)); exact HO676.out) (Kd.R_base ho1) hb)
        have n2_ := Aside0.mk (Kd.R_elder' (by (with_reducible repeat (first | apply Kd.R_alloc | apply Kd.R_drewN | apply Kd.R_drew)); exact HO680.out) (Kd.R_base ho0) hb)
        have n3_ := Aside0.mk (Kd.R_elder' (by (with_reducible repeat (first | apply Kd.R_alloc | apply Kd.R_drewN | apply Kd.R_drew)); exact HO683.out) (Kd.R_base ho1) hb)
        have n4_ := Aside0.mk (Kd.R_lower (Kd.R_new' (Kd.R_new' ho0 (Kd.R_lt (by (with_reducible repeat (first | apply Kd.R_alloc | apply Kd.R_drewN | apply Kd.R_drew)); exact HO673.out))) (Kd.R_lt (by (with_reducible repeat (first | apply Kd.R_alloc | apply Kd.R_drewN | apply Kd.R_drew)); exact HO680.out))) (below_size (by repeat (first | (with_reducible first | exact HB.out | apply below_alloc | apply pw_below_drewN | apply below_drew1 | refine below_set ?_ GE669.out | refine below_set ?_ GE684.out) | exact HB.out))))
        have n5_ := Aside0.mk (Kd.R_lower (Kd.R_new' (Kd.R_new' ho1 (Kd.R_lt (by (with_reducible repeat (first | apply Kd.R_alloc | apply Kd.R_drewN | apply Kd.R_drew)); exact HO676.out))) (Kd.R_lt (by (with_reducible repeat (first | apply Kd.R_alloc | apply Kd.R_drewN | apply Kd.R_drew)); exact HO683.out))) (below_size (by repeat (first | (with_reducible first | exact HB.out | apply below_alloc | apply pw_below_drewN | apply below_drew1 | refine below_set ?_ GE669.out | refine below_set ?_ GE684.out) | exact HB.out))))
        have n6_ := Aside0.mk (blk_below (g := gb669) (o := .cells #[.slice A0_0 l0_0.length c0_0, .slice A0_1 l0_1.length c0_1] 62 (0, 0)) (by (with_reducible repeat (first | refine blk_drewN ?_ _ | refine blk_drew ?_ | refine blk_alloc ?_ _)); exact BK669.out) hb)
        have n7_ := Aside0.mk (blk_below (g := gb684) (o := .cells #[.slice Ao42 t678.length co42, .slice Ao45 t681.length co45] 67 (0, 0)) (by (with_reducible repeat (first | refine blk_drewN ?_ _ | refine blk_drew ?_ | refine blk_alloc ?_ _)); exact BK684.out) hb)
        have n8_ := Aside0.mk (below_step (by repeat (first | (with_reducible first | exact HB.out | apply below_alloc | apply pw_below_drewN | apply below_drew1 | refine below_set ?_ GE669.out | refine below_set ?_ GE684.out) | exact HB.out)) hb)
        clear HO673
        clear HO676
        clear HO680
        clear HO683
        clear BK669
        clear BK684
        clear HB
        have HO673 := n0_
        have HO676 := n1_
        have HO680 := n2_
        have HO683 := n3_
        have HO688 := n4_
        have HO691 := n5_
        have BK669 := n6_
        have BK684 := n7_
        have HB := n8_
        clear n0_ n1_ n2_ n3_ n4_ n5_ n6_ n7_ n8_
        (try clear hb)
        (try clear hb2)
        (try clear hk)
        (try clear hi)
        (try clear ho0)
        (try clear ho1)
        obtain ⟨Ao49, co49, eo49⟩ := Kd.R_slice HO688.out
        (first | subst eo49 | (injection eo49 with f1_ f2_ f3_; have f4_ := f1_.symm; have f5_ := f3_.symm; clear f1_ f2_ f3_; subst f4_; subst f5_))
        obtain ⟨Ao50, co50, eo50⟩ := Kd.R_slice HO691.out
        (first | subst eo50 | (injection eo50 with f1_ f2_ f3_; have f4_ := f1_.symm; have f5_ := f3_.symm; clear f1_ f2_ f3_; subst f4_; subst f5_))
        refine hK.out _ _ ⟨(blk_cell BK684.out 0).trans rfl, (blk_cell BK684.out 1).trans rfl, (blk_cell BK669.out 0).trans rfl, (blk_cell BK669.out 1).trans rfl⟩ (fun hHeld => ?_)
        clear hK K
        refine norm_ (a' := ?_) ?_ ?_
        rotate_left
        · show Act.put _ (some 24) _ = _
          simp only [Act.put, List.setIfInBounds_toArray, List.set_cons_zero, List.set_cons_succ, i64_w, i32_w]
          rfl
        refine one_ (i := 3) (N := some 25) #[true, true, true, true, false] rfl rfl (by kernel_rfl) (by decide) (fun K hK => ?_)
        refine goes_ Try.func45 (by kernel_rfl) rfl #[.agg #[.slice Ao42 t678.length co42, .slice Ao45 t681.length co45], .agg #[.slice Ao49 t686.length co49, .slice Ao50 t689.length co50]] (by rfl) rfl rfl (by (try simp only [List.map_toArray, List.map_cons, List.map_nil]); first | done | rfl | (simp only [List.length_drop, List.length_take]; rfl)) ?_
        with_reducible refine (laws_eqSheet.calls k _ _ t678 _ _ t681 _ _ t686 _ _ t689 true _ ?side1 ?side2 ?side3 ?side4 ?side5 ?side6 ?side7 ?side8 A29.out).mono ?_
        (case side1 => repeat (first | exact (Kd.R_reads' HO680.out).2.2 | (with_reducible refine Kd.C_alloc ?_ _) | (with_reducible refine Kd.C_drewN ?_ _) | (with_reducible refine Kd.C_drew ?_)))
        (case side2 => exact (Kd.R_reads' HO680.out).2.1)
        (case side3 => repeat (first | exact (Kd.R_reads' HO683.out).2.2 | (with_reducible refine Kd.C_alloc ?_ _) | (with_reducible refine Kd.C_drewN ?_ _) | (with_reducible refine Kd.C_drew ?_)))
        (case side4 => exact (Kd.R_reads' HO683.out).2.1)
        (case side5 => repeat (first | exact (Kd.R_reads' HO688.out).2.2 | (with_reducible refine Kd.C_alloc ?_ _) | (with_reducible refine Kd.C_drewN ?_ _) | (with_reducible refine Kd.C_drew ?_)))
        (case side6 => exact (Kd.R_reads' HO688.out).2.1)
        (case side7 => repeat (first | exact (Kd.R_reads' HO691.out).2.2 | (with_reducible refine Kd.C_alloc ?_ _) | (with_reducible refine Kd.C_drewN ?_ _) | (with_reducible refine Kd.C_drew ?_)))
        (case side8 => exact (Kd.R_reads' HO691.out).2.1)
        rintro e w51 ⟨rfl, hb⟩
        refine ⟨_, rfl, ?_⟩
        have n0_ := Aside0.mk (Kd.R_below (by (with_reducible repeat (first | apply Kd.R_alloc | apply Kd.R_drewN | apply Kd.R_drew)); exact HO673.out) hb)
        have n1_ := Aside0.mk (Kd.R_below (by (with_reducible repeat (first | apply Kd.R_alloc | apply Kd.R_drewN | apply Kd.R_drew)); exact HO676.out) hb)
        have n2_ := Aside0.mk (Kd.R_below (by (with_reducible repeat (first | apply Kd.R_alloc | apply Kd.R_drewN | apply Kd.R_drew)); exact HO680.out) hb)
        have n3_ := Aside0.mk (Kd.R_below (by (with_reducible repeat (first | apply Kd.R_alloc | apply Kd.R_drewN | apply Kd.R_drew)); exact HO683.out) hb)
        have n4_ := Aside0.mk (Kd.R_below (by (with_reducible repeat (first | apply Kd.R_alloc | apply Kd.R_drewN | apply Kd.R_drew)); exact HO688.out) hb)
        have n5_ := Aside0.mk (Kd.R_below (by (with_reducible repeat (first | apply Kd.R_alloc | apply Kd.R_drewN | apply Kd.R_drew)); exact HO691.out) hb)
        have n6_ := Aside0.mk (blk_below (g := gb669) (o := .cells #[.slice A0_0 l0_0.length c0_0, .slice A0_1 l0_1.length c0_1] 62 (0, 0)) (by (with_reducible repeat (first | refine blk_drewN ?_ _ | refine blk_drew ?_ | refine blk_alloc ?_ _)); exact BK669.out) hb)
        have n7_ := Aside0.mk (blk_below (g := gb684) (o := .cells #[.slice Ao42 t678.length co42, .slice Ao45 t681.length co45] 67 (0, 0)) (by (with_reducible repeat (first | refine blk_drewN ?_ _ | refine blk_drew ?_ | refine blk_alloc ?_ _)); exact BK684.out) hb)
        have n8_ := Aside0.mk (below_step (by repeat (first | (with_reducible first | exact HB.out | apply below_alloc | apply pw_below_drewN | apply below_drew1 | refine below_set ?_ GE669.out | refine below_set ?_ GE684.out) | exact HB.out)) hb)
        clear HO673
        clear HO676
        clear HO680
        clear HO683
        clear HO688
        clear HO691
        clear BK669
        clear BK684
        clear HB
        have HO673 := n0_
        have HO676 := n1_
        have HO680 := n2_
        have HO683 := n3_
        have HO688 := n4_
        have HO691 := n5_
        have BK669 := n6_
        have BK684 := n7_
        have HB := n8_
        clear n0_ n1_ n2_ n3_ n4_ n5_ n6_ n7_ n8_
        (try clear hb)
        (try clear hb2)
        (try clear hk)
        (try clear hi)
        refine hK.out _ _ ⟨(blk_cell BK684.out 0).trans rfl, (blk_cell BK684.out 1).trans rfl, (blk_cell BK669.out 0).trans rfl, (blk_cell BK669.out 1).trans rfl⟩ (fun hHeld => ?_)
        clear hK K
        refine norm_ (a' := ?_) ?_ ?_
        rotate_left
        · show Act.put _ (some 25) _ = _
          simp only [Act.put, List.setIfInBounds_toArray, List.set_cons_zero, List.set_cons_succ, i64_w, i32_w]
          rfl
        refine pure_ (i := 4) (N := some 26) (v := ?_) (a' := ?_) #[true, true, true, true, true] rfl rfl (by kernel_rfl) (fun _ _ _ h => h) (Or.inl ⟨by rfl, ?_⟩) ?_ ?_
        rotate_left
        · intro w'
          go_simp
          with_reducible rfl
        rotate_left
        · simp only [Act.put, List.setIfInBounds_toArray, List.set_cons_zero, List.set_cons_succ, i64_w, i32_w]
          rfl
        refine done_ (by kernel_rfl) ?_
        try go_wp2
        go_ret
        exact ⟨by first | rfl | (simp [errW_none, errW_some] <;> rfl) | (simp [*, errW_none, errW_some] <;> rfl), by repeat (first | (with_reducible first | exact HB.out | apply below_alloc | apply pw_below_drewN | apply below_drew1 | refine below_set ?_ GE669.out | refine below_set ?_ GE684.out) | exact HB.out)⟩
      · replace c30 := Bool.eq_false_iff.mpr c30
        subst c30
        have H1 : (some false) = some r := by rw [if_neg (show ¬ (false = true) by decide)] at H; exact H
        clear H
        have H := H1
        clear H1
        obtain rfl := Option.some.inj H
        go_enter Try.func9, Try.ntmps9
        try go_wp2_with (first | ((with_reducible refine gate_dst (N := 1) rfl ?_); refine box_event ?hg (N := 1) ?hd (cs := #[.slice A0_0 l0_0.length c0_0, .slice A0_1 l0_1.length c0_1]) (t := 62) ?hr ?_; (case hd => rfl); (case hg => rfl); (case hr => first | (go_simp; done) | (go_simp; rfl)); intro gb669 hg w52 hbox hb; have n0_ := Aside0.mk (below_step (by repeat (first | (with_reducible first | exact HB.out | apply below_alloc | apply pw_below_drewN | apply below_drew1) | exact HB.out)) hb); have n1_ := Aside0.mk (hbox); have n2_ := Aside0.mk ((by rw [hg]; exact (below_size (by repeat (first | (with_reducible first | exact HB.out | apply below_alloc | apply pw_below_drewN | apply below_drew1) | exact HB.out))) : w.heap.size ≤ gb669)); have n3_ := Aside0.mk ((by rw [hg]; exact (below_size (by repeat (first | (with_reducible first | exact HB.out | apply below_alloc | apply pw_below_drewN | apply below_drew1) | exact HB.out))) : w.heap.size ≤ gb669)); clear HB; have HB := n0_; have BK669 := n1_; have GW669 := n2_; have GE669 := n3_; clear n0_ n1_ n2_ n3_; clear hb hbox hg; have hcz53_0 : w52.cell? ⟨gb669, 0, none⟩ = some (.slice A0_0 l0_0.length c0_0) := (blk_cell BK669.out 0).trans rfl; have hcz53_1 : w52.cell? ⟨gb669, 1, none⟩ = some (.slice A0_1 l0_1.length c0_1) := (blk_cell BK669.out 1).trans rfl; have hfz53_0 := blk_frozen BK669.out 0; have hfz53_1 := blk_frozen BK669.out 1) | ((with_reducible refine gate_callee (f := 41) rfl ?_); refine goesL_ (some 9) rfl rfl Try.func41 (by kernel_rfl) rfl #[.agg #[.slice A0_0 l0_0.length c0_0, .slice A0_1 l0_1.length c0_1], .int .i64 1048576] rfl (by (try simp only [List.map_toArray, List.map_cons, List.map_nil]); first | done | rfl | (simp only [List.length_drop, List.length_take]; rfl)) ?_; (with_reducible refine (laws_szSheet.calls k _ _ l0_0 _ _ l0_1 1048576 t670 _ ?side1 ?side2 ?side3 ?side4 A2.out).mono ?_); (case side1 => repeat (first | exact (Kd.C_below HR0_0.out HB.out) | (with_reducible refine Kd.C_alloc ?_ _) | (with_reducible refine Kd.C_drewN ?_ _) | (with_reducible refine Kd.C_drew ?_))); (case side2 => exact HC0_0.out); (case side3 => repeat (first | exact (Kd.C_below HR0_1.out HB.out) | (with_reducible refine Kd.C_alloc ?_ _) | (with_reducible refine Kd.C_drewN ?_ _) | (with_reducible refine Kd.C_drew ?_))); (case side4 => exact HC0_1.out); rintro e w54 ⟨rfl, hb⟩; refine ⟨_, rfl, ?_⟩; have n0_ := Aside0.mk (blk_below (g := gb669) (o := .cells #[.slice A0_0 l0_0.length c0_0, .slice A0_1 l0_1.length c0_1] 62 (0, 0)) (by (with_reducible repeat (first | refine blk_drewN ?_ _ | refine blk_drew ?_ | refine blk_alloc ?_ _)); exact BK669.out) hb); have n1_ := Aside0.mk (below_step (by repeat (first | (with_reducible first | exact HB.out | apply below_alloc | apply pw_below_drewN | apply below_drew1 | refine below_set ?_ GE669.out) | exact HB.out)) hb); clear BK669; clear HB; have BK669 := n0_; have HB := n1_; clear n0_ n1_; (try clear hb); (try clear hb2); (try clear hk); (try clear hi); have hcz55_0 : w54.cell? ⟨gb669, 0, none⟩ = some (.slice A0_0 l0_0.length c0_0) := (blk_cell BK669.out 0).trans rfl; have hcz55_1 : w54.cell? ⟨gb669, 1, none⟩ = some (.slice A0_1 l0_1.length c0_1) := (blk_cell BK669.out 1).trans rfl; have hfz55_0 := blk_frozen BK669.out 0; have hfz55_1 := blk_frozen BK669.out 1) | ((with_reducible refine gate_callee (f := 43) rfl ?_); refine goesL_ (some 13) rfl rfl Try.func43 (by kernel_rfl) rfl #[.agg #[.slice A0_0 l0_0.length c0_0, .slice A0_1 l0_1.length c0_1]] rfl (by (try simp only [List.map_toArray, List.map_cons, List.map_nil]); first | done | rfl | (simp only [List.length_drop, List.length_take]; rfl)) ?_; (with_reducible refine (laws_toSheet.calls k _ _ l0_0 _ _ l0_1 t671 t674 _ ?side1 ?side2 ?side3 ?side4 A7.out).mono ?_); (case side1 => repeat (first | exact (Kd.C_below HR0_0.out HB.out) | (with_reducible refine Kd.C_alloc ?_ _) | (with_reducible refine Kd.C_drewN ?_ _) | (with_reducible refine Kd.C_drew ?_))); (case side2 => exact HC0_0.out); (case side3 => repeat (first | exact (Kd.C_below HR0_1.out HB.out) | (with_reducible refine Kd.C_alloc ?_ _) | (with_reducible refine Kd.C_drewN ?_ _) | (with_reducible refine Kd.C_drew ?_))); (case side4 => exact HC0_1.out); rintro e w56 ⟨v672, v675, rfl, ho0, ho1, hb⟩; refine ⟨_, rfl, ?_⟩; have n0_ := Aside0.mk (Kd.R_lower ho0 (below_size (by repeat (first | (with_reducible first | exact HB.out | apply below_alloc | apply pw_below_drewN | apply below_drew1 | refine below_set ?_ GE669.out) | exact HB.out)))); have n1_ := Aside0.mk (Kd.R_lower ho1 (below_size (by repeat (first | (with_reducible first | exact HB.out | apply below_alloc | apply pw_below_drewN | apply below_drew1 | refine below_set ?_ GE669.out) | exact HB.out)))); have n2_ := Aside0.mk (blk_below (g := gb669) (o := .cells #[.slice A0_0 l0_0.length c0_0, .slice A0_1 l0_1.length c0_1] 62 (0, 0)) (by (with_reducible repeat (first | refine blk_drewN ?_ _ | refine blk_drew ?_ | refine blk_alloc ?_ _)); exact BK669.out) hb); have n3_ := Aside0.mk (below_step (by repeat (first | (with_reducible first | exact HB.out | apply below_alloc | apply pw_below_drewN | apply below_drew1 | refine below_set ?_ GE669.out) | exact HB.out)) hb); clear BK669; clear HB; have HO673 := n0_; have HO676 := n1_; have BK669 := n2_; have HB := n3_; clear n0_ n1_ n2_ n3_; (try clear hb); (try clear hb2); (try clear hk); (try clear hi); (try clear ho0); (try clear ho1); obtain ⟨Ao57, co57, eo57⟩ := Kd.R_slice HO673.out; subst eo57; obtain ⟨Ao58, co58, eo58⟩ := Kd.R_slice HO676.out; subst eo58) | ((with_reducible refine gate_callee (f := 42) rfl ?_); refine goesL_ (some 14) rfl rfl Try.func42 (by kernel_rfl) rfl #[.agg #[.slice Ao57 t671.length co57, .slice Ao58 t674.length co58]] rfl (by (try simp only [List.map_toArray, List.map_cons, List.map_nil]); first | done | rfl | (simp only [List.length_drop, List.length_take]; rfl)) ?_; (with_reducible refine (spec_SheetFixed.calls k _ _ t671 _ _ t674 t677 _ ?side1 ?side2 ?side3 ?side4 A8.out).mono ?_); (case side1 => repeat (first | exact (Kd.R_reads' HO673.out).2.2 | (with_reducible refine Kd.C_alloc ?_ _) | (with_reducible refine Kd.C_drewN ?_ _) | (with_reducible refine Kd.C_drew ?_))); (case side2 => exact (Kd.R_reads' HO673.out).2.1); (case side3 => repeat (first | exact (Kd.R_reads' HO676.out).2.2 | (with_reducible refine Kd.C_alloc ?_ _) | (with_reducible refine Kd.C_drewN ?_ _) | (with_reducible refine Kd.C_drew ?_))); (case side4 => exact (Kd.R_reads' HO676.out).2.1); rintro e w59 ⟨rfl, hb⟩; refine ⟨_, rfl, ?_⟩; have n0_ := Aside0.mk (Kd.R_below (by (with_reducible repeat (first | apply Kd.R_alloc | apply Kd.R_drewN | apply Kd.R_drew)); exact HO673.out) hb); have n1_ := Aside0.mk (Kd.R_below (by (with_reducible repeat (first | apply Kd.R_alloc | apply Kd.R_drewN | apply Kd.R_drew)); exact HO676.out) hb); have n2_ := Aside0.mk (blk_below (g := gb669) (o := .cells #[.slice A0_0 l0_0.length c0_0, .slice A0_1 l0_1.length c0_1] 62 (0, 0)) (by (with_reducible repeat (first | refine blk_drewN ?_ _ | refine blk_drew ?_ | refine blk_alloc ?_ _)); exact BK669.out) hb); have n3_ := Aside0.mk (below_step (by repeat (first | (with_reducible first | exact HB.out | apply below_alloc | apply pw_below_drewN | apply below_drew1 | refine below_set ?_ GE669.out) | exact HB.out)) hb); clear HO673; clear HO676; clear BK669; clear HB; have HO673 := n0_; have HO676 := n1_; have BK669 := n2_; have HB := n3_; clear n0_ n1_ n2_ n3_; (try clear hb); (try clear hb2); (try clear hk); (try clear hi); have hcz60_0 : w59.cell? ⟨gb669, 0, none⟩ = some (.slice A0_0 l0_0.length c0_0) := (blk_cell BK669.out 0).trans rfl; have hcz60_1 : w59.cell? ⟨gb669, 1, none⟩ = some (.slice A0_1 l0_1.length c0_1) := (blk_cell BK669.out 1).trans rfl; have hfz60_0 := blk_frozen BK669.out 0; have hfz60_1 := blk_frozen BK669.out 1) | ((with_reducible refine gate_callee (f := 43) rfl ?_); refine goesL_ (some 16) rfl rfl Try.func43 (by kernel_rfl) rfl #[.agg #[.slice A0_0 l0_0.length c0_0, .slice A0_1 l0_1.length c0_1]] rfl (by (try simp only [List.map_toArray, List.map_cons, List.map_nil]); first | done | rfl | (simp only [List.length_drop, List.length_take]; rfl)) ?_; (with_reducible refine (laws_toSheet.calls k _ _ l0_0 _ _ l0_1 t678 t681 _ ?side1 ?side2 ?side3 ?side4 A9.out).mono ?_); (case side1 => repeat (first | exact (Kd.C_below HR0_0.out HB.out) | (with_reducible refine Kd.C_alloc ?_ _) | (with_reducible refine Kd.C_drewN ?_ _) | (with_reducible refine Kd.C_drew ?_))); (case side2 => exact HC0_0.out); (case side3 => repeat (first | exact (Kd.C_below HR0_1.out HB.out) | (with_reducible refine Kd.C_alloc ?_ _) | (with_reducible refine Kd.C_drewN ?_ _) | (with_reducible refine Kd.C_drew ?_))); (case side4 => exact HC0_1.out); rintro e w61 ⟨v679, v682, rfl, ho0, ho1, hb⟩; refine ⟨_, rfl, ?_⟩; have n0_ := Aside0.mk (Kd.R_elder' (by (with_reducible repeat (first | apply Kd.R_alloc | apply Kd.R_drewN | apply Kd.R_drew)); exact HO673.out) (Kd.R_base ho0) hb); have n1_ := Aside0.mk (Kd.R_elder' (by (with_reducible repeat (first | apply Kd.R_alloc | apply Kd.R_drewN | apply Kd.R_drew)); exact HO676.out) (Kd.R_base ho1) hb); have n2_ := Aside0.mk (Kd.R_lower (Kd.R_new' ho0 (Kd.R_lt (by (with_reducible repeat (first | apply Kd.R_alloc | apply Kd.R_drewN | apply Kd.R_drew)); exact HO673.out))) (below_size (by repeat (first | (with_reducible first | exact HB.out | apply below_alloc | apply pw_below_drewN | apply below_drew1 | refine below_set ?_ GE669.out) | exact HB.out)))); have n3_ := Aside0.mk (Kd.R_lower (Kd.R_new' ho1 (Kd.R_lt (by (with_reducible repeat (first | apply Kd.R_alloc | apply Kd.R_drewN | apply Kd.R_drew)); exact HO676.out))) (below_size (by repeat (first | (with_reducible first | exact HB.out | apply below_alloc | apply pw_below_drewN | apply below_drew1 | refine below_set ?_ GE669.out) | exact HB.out)))); have n4_ := Aside0.mk (blk_below (g := gb669) (o := .cells #[.slice A0_0 l0_0.length c0_0, .slice A0_1 l0_1.length c0_1] 62 (0, 0)) (by (with_reducible repeat (first | refine blk_drewN ?_ _ | refine blk_drew ?_ | refine blk_alloc ?_ _)); exact BK669.out) hb); have n5_ := Aside0.mk (below_step (by repeat (first | (with_reducible first | exact HB.out | apply below_alloc | apply pw_below_drewN | apply below_drew1 | refine below_set ?_ GE669.out) | exact HB.out)) hb); clear HO673; clear HO676; clear BK669; clear HB; have HO673 := n0_; have HO676 := n1_; have HO680 := n2_; have HO683 := n3_; have BK669 := n4_; have HB := n5_; clear n0_ n1_ n2_ n3_ n4_ n5_; (try clear hb); (try clear hb2); (try clear hk); (try clear hi); (try clear ho0); (try clear ho1)) | ((with_reducible refine gate_dst (N := 5) rfl ?_); refine box_event ?hg (N := 5) ?hd (cs := #[.slice none 0 0, .slice none 0 0]) (t := 67) ?hr ?_; (case hd => rfl); (case hg => rfl); (case hr => first | (go_simp; done) | (go_simp; rfl)); intro gb684 hg w62 hbox hb; have n0_ := Aside0.mk (Kd.R_below (by (with_reducible repeat (first | apply Kd.R_alloc | apply Kd.R_drewN | apply Kd.R_drew)); exact HO673.out) hb); have n1_ := Aside0.mk (Kd.R_below (by (with_reducible repeat (first | apply Kd.R_alloc | apply Kd.R_drewN | apply Kd.R_drew)); exact HO676.out) hb); have n2_ := Aside0.mk (Kd.R_below (by (with_reducible repeat (first | apply Kd.R_alloc | apply Kd.R_drewN | apply Kd.R_drew)); exact HO680.out) hb); have n3_ := Aside0.mk (Kd.R_below (by (with_reducible repeat (first | apply Kd.R_alloc | apply Kd.R_drewN | apply Kd.R_drew)); exact HO683.out) hb); have n4_ := Aside0.mk (blk_below (g := gb669) (o := .cells #[.slice A0_0 l0_0.length c0_0, .slice A0_1 l0_1.length c0_1] 62 (0, 0)) (by (with_reducible repeat (first | refine blk_drewN ?_ _ | refine blk_drew ?_ | refine blk_alloc ?_ _)); exact BK669.out) hb); have n5_ := Aside0.mk (below_step (by repeat (first | (with_reducible first | exact HB.out | apply below_alloc | apply pw_below_drewN | apply below_drew1 | refine below_set ?_ GE669.out) | exact HB.out)) hb); have n6_ := Aside0.mk (hbox); have n7_ := Aside0.mk ((by rw [hg]; exact (below_size (by repeat (first | (with_reducible first | exact HB.out | apply below_alloc | apply pw_below_drewN | apply below_drew1 | refine below_set ?_ GE669.out) | exact HB.out))) : w.heap.size ≤ gb684)); have n8_ := Aside0.mk ((by rw [hg]; exact (below_size (by repeat (first | (with_reducible first | exact HB.out | apply below_alloc | apply pw_below_drewN | apply below_drew1 | refine below_set ?_ GE669.out) | exact HB.out))) : w.heap.size ≤ gb684)); have n9_ := Aside0.mk ((by rw [hg]; exact Nat.ne_of_lt (blk_lt (g := gb669) (o := .cells #[.slice A0_0 l0_0.length c0_0, .slice A0_1 l0_1.length c0_1] 62 (0, 0)) (by (with_reducible repeat (first | refine blk_drewN ?_ _ | refine blk_drew ?_ | refine blk_alloc ?_ _)); exact BK669.out)) : gb669 ≠ gb684)); have n10_ := Aside0.mk ((by rw [hg]; exact Nat.ne_of_gt (blk_lt (g := gb669) (o := .cells #[.slice A0_0 l0_0.length c0_0, .slice A0_1 l0_1.length c0_1] 62 (0, 0)) (by (with_reducible repeat (first | refine blk_drewN ?_ _ | refine blk_drew ?_ | refine blk_alloc ?_ _)); exact BK669.out)) : gb684 ≠ gb669)); clear HO673; clear HO676; clear HO680; clear HO683; clear BK669; clear HB; have HO673 := n0_; have HO676 := n1_; have HO680 := n2_; have HO683 := n3_; have BK669 := n4_; have HB := n5_; have BK684 := n6_; have GW684 := n7_; have GE684 := n8_; have NB669_684 := n9_; have NB684_669 := n10_; clear n0_ n1_ n2_ n3_ n4_ n5_ n6_ n7_ n8_ n9_ n10_; clear hb hbox hg; obtain ⟨Ao63, co63, eo63⟩ := Kd.R_slice HO680.out; subst eo63; have hnb64 := NB684_669.out; have hnc64 := NB669_684.out; have hcz65_0 : w62.cell? ⟨gb684, 0, none⟩ = some (.slice none 0 0) := (blk_cell BK684.out 0).trans rfl; have hcz65_1 : w62.cell? ⟨gb684, 1, none⟩ = some (.slice none 0 0) := (blk_cell BK684.out 1).trans rfl; have hfz65_0 := blk_frozen BK684.out 0; have hfz65_1 := blk_frozen BK684.out 1; obtain ⟨Ao66, co66, eo66⟩ := Kd.R_slice HO683.out; subst eo66) | ((with_reducible refine gate_callee (f := 44) rfl ?_); refine goesL_ (some 18) rfl rfl Try.func44 (by kernel_rfl) rfl #[.agg #[.slice Ao63 t678.length co63, .slice Ao66 t681.length co66]] rfl (by (try simp only [List.map_toArray, List.map_cons, List.map_nil]); first | done | rfl | (simp only [List.length_drop, List.length_take]; rfl)) ?_; (with_reducible refine (impl_SheetFixed.calls k _ _ t678 _ _ t681 t685 _ ?side1 ?side2 ?side3 ?side4 A10.out).mono ?_); (case side1 => refine (Kd.R_reads' (e := 4) (base := w.heap.size) (ok := fun k_ => (True ∧ some k_ ≠ (.slice Ao57 t671.length co57 : Value).ownBlock)) (n := t678.length) (c := co63) ?_).2.2; exact (by (with_reducible repeat (first | apply Kd.R_alloc | apply Kd.R_drewN | apply Kd.R_drew)); exact (Kd.R_mono (Kd.R_far (p := ⟨gb684, 1, none⟩) (Kd.R_far (p := ⟨gb684, 0, none⟩) (Kd.R_types HO680.out BK684.out (by decide)) (fun _ hk => hk.2) (.slice Ao63 t678.length co63)) (fun _ hk => hk.2) (.slice Ao66 t681.length co66)) (fun _ h_ => h_.1)))); (case side2 => exact (Kd.R_reads' HO680.out).2.1); (case side3 => refine (Kd.R_reads' (e := 90) (base := w.heap.size) (ok := fun k_ => (True ∧ some k_ ≠ (.slice Ao58 t674.length co58 : Value).ownBlock)) (n := t681.length) (c := co66) ?_).2.2; exact (by (with_reducible repeat (first | apply Kd.R_alloc | apply Kd.R_drewN | apply Kd.R_drew)); exact (Kd.R_mono (Kd.R_far (p := ⟨gb684, 1, none⟩) (Kd.R_far (p := ⟨gb684, 0, none⟩) (Kd.R_types HO683.out BK684.out (by decide)) (fun _ hk => hk.2) (.slice Ao63 t678.length co63)) (fun _ hk => hk.2) (.slice Ao66 t681.length co66)) (fun _ h_ => h_.1)))); (case side4 => exact (Kd.R_reads' HO683.out).2.1); rintro e w67 ⟨rfl, hb⟩; refine ⟨_, rfl, ?_⟩; have n0_ := Aside0.mk (Kd.R_below (by (with_reducible repeat (first | apply Kd.R_alloc | apply Kd.R_drewN | apply Kd.R_drew)); exact (Kd.R_mono (Kd.R_far (p := ⟨gb684, 1, none⟩) (Kd.R_far (p := ⟨gb684, 0, none⟩) (Kd.R_types HO673.out BK684.out (by decide)) (fun _ hk => hk.2) (.slice Ao63 t678.length co63)) (fun _ hk => hk.2) (.slice Ao66 t681.length co66)) (fun _ h_ => h_.1))) hb); have n1_ := Aside0.mk (Kd.R_below (by (with_reducible repeat (first | apply Kd.R_alloc | apply Kd.R_drewN | apply Kd.R_drew)); exact (Kd.R_mono (Kd.R_far (p := ⟨gb684, 1, none⟩) (Kd.R_far (p := ⟨gb684, 0, none⟩) (Kd.R_types HO676.out BK684.out (by decide)) (fun _ hk => hk.2) (.slice Ao63 t678.length co63)) (fun _ hk => hk.2) (.slice Ao66 t681.length co66)) (fun _ h_ => h_.1))) hb); have n2_ := Aside0.mk (Kd.R_below (by (with_reducible repeat (first | apply Kd.R_alloc | apply Kd.R_drewN | apply Kd.R_drew)); exact (Kd.R_mono (Kd.R_far (p := ⟨gb684, 1, none⟩) (Kd.R_far (p := ⟨gb684, 0, none⟩) (Kd.R_types HO680.out BK684.out (by decide)) (fun _ hk => hk.2) (.slice Ao63 t678.length co63)) (fun _ hk => hk.2) (.slice Ao66 t681.length co66)) (fun _ h_ => h_.1))) hb); have n3_ := Aside0.mk (Kd.R_below (by (with_reducible repeat (first | apply Kd.R_alloc | apply Kd.R_drewN | apply Kd.R_drew)); exact (Kd.R_mono (Kd.R_far (p := ⟨gb684, 1, none⟩) (Kd.R_far (p := ⟨gb684, 0, none⟩) (Kd.R_types HO683.out BK684.out (by decide)) (fun _ hk => hk.2) (.slice Ao63 t678.length co63)) (fun _ hk => hk.2) (.slice Ao66 t681.length co66)) (fun _ h_ => h_.1))) hb); have n4_ := Aside0.mk (blk_below (g := gb669) (o := .cells #[.slice A0_0 l0_0.length c0_0, .slice A0_1 l0_1.length c0_1] 62 (0, 0)) (by (with_reducible repeat (first | refine blk_drewN ?_ _ | refine blk_drew ?_ | refine blk_alloc ?_ _)); refine blk_far ?_ NB669_684.out _; (with_reducible repeat (first | refine blk_drewN ?_ _ | refine blk_drew ?_ | refine blk_alloc ?_ _)); refine blk_far ?_ NB669_684.out _; (with_reducible repeat (first | refine blk_drewN ?_ _ | refine blk_drew ?_ | refine blk_alloc ?_ _)); exact BK669.out) hb); have n5_ := Aside0.mk (blk_below (g := gb684) (o := .cells #[.slice Ao63 t678.length co63, .slice Ao66 t681.length co66] 67 (0, 0)) (by (with_reducible repeat (first | refine blk_drewN ?_ _ | refine blk_drew ?_ | refine blk_alloc ?_ _)); refine blk_put (cs := #[.slice Ao63 t678.length co63, .slice none 0 0]) ?_ 1 _ rfl; (with_reducible repeat (first | refine blk_drewN ?_ _ | refine blk_drew ?_ | refine blk_alloc ?_ _)); refine blk_put (cs := #[.slice none 0 0, .slice none 0 0]) ?_ 0 _ rfl; (with_reducible repeat (first | refine blk_drewN ?_ _ | refine blk_drew ?_ | refine blk_alloc ?_ _)); exact BK684.out) hb); have n6_ := Aside0.mk (below_step (by repeat (first | (with_reducible first | exact HB.out | apply below_alloc | apply pw_below_drewN | apply below_drew1 | refine below_set ?_ GE669.out | refine below_set ?_ GE684.out) | exact HB.out)) hb); clear HO673; clear HO676; clear HO680; clear HO683; clear BK669; clear BK684; clear HB; have HO673 := n0_; have HO676 := n1_; have HO680 := n2_; have HO683 := n3_; have BK669 := n4_; have BK684 := n5_; have HB := n6_; clear n0_ n1_ n2_ n3_ n4_ n5_ n6_; (try clear hb); (try clear hb2); (try clear hk); (try clear hi)))
        have n0_ := Aside0.mk (Kd.R_drew HO673.out)
        have n1_ := Aside0.mk (Kd.R_drew HO676.out)
        have n2_ := Aside0.mk (Kd.R_drew HO680.out)
        have n3_ := Aside0.mk (Kd.R_drew HO683.out)
        have n4_ := Aside0.mk (blk_drew BK669.out)
        have n5_ := Aside0.mk (blk_drew BK684.out)
        have n6_ := Aside0.mk (below_drew1 HB.out)
        clear HO673
        clear HO676
        clear HO680
        clear HO683
        clear BK669
        clear BK684
        clear HB
        have HO673 := n0_
        have HO676 := n1_
        have HO680 := n2_
        have HO683 := n3_
        have BK669 := n4_
        have BK684 := n5_
        have HB := n6_
        clear n0_ n1_ n2_ n3_ n4_ n5_ n6_
        refine start_ (n := 5) (S := fun w' => w'.cell? ⟨gb684, 0, none⟩ = some (.slice Ao63 t678.length co63) ∧ w'.cell? ⟨gb684, 1, none⟩ = some (.slice Ao66 t681.length co66) ∧ w'.cell? ⟨gb669, 0, none⟩ = some (.slice A0_0 l0_0.length c0_0) ∧ w'.cell? ⟨gb669, 1, none⟩ = some (.slice A0_1 l0_1.length c0_1)) (ds := []) #[false, false, false, false, false] (by kernel_rfl) rfl rfl ⟨(blk_cell BK684.out 0).trans rfl, (blk_cell BK684.out 1).trans rfl, (blk_cell BK669.out 0).trans rfl, (blk_cell BK669.out 1).trans rfl⟩ (fun hHeld => ?_)
        generalize w67.drew = w68 at HO673 HO676 HO680 HO683 BK669 BK684 HB hHeld ⊢
        refine take_ (i := 0) (N := some 22) (v := ?_) (a' := ?_) #[true, false, false, false, false] rfl rfl (by kernel_rfl) (fun _ _ _ h => h) (Or.inl ⟨by rfl, ?_⟩) hHeld ?_ ?_
        rotate_left
        · rintro w' ⟨s0, s1, s2, s3⟩
          go_simp
          with_reducible rfl
        rotate_left
        · simp only [Act.put, List.setIfInBounds_toArray, List.set_cons_zero, List.set_cons_succ, i64_w, i32_w]
          rfl
        refine take_ (i := 1) (N := some 23) (v := ?_) (a' := ?_) #[true, true, false, false, false] rfl rfl (by kernel_rfl) (fun _ _ _ h => h) (Or.inl ⟨by rfl, ?_⟩) hHeld ?_ ?_
        rotate_left
        · rintro w' ⟨s0, s1, s2, s3⟩
          go_simp
          with_reducible rfl
        rotate_left
        · simp only [Act.put, List.setIfInBounds_toArray, List.set_cons_zero, List.set_cons_succ, i64_w, i32_w]
          rfl
        refine one_ (i := 2) (N := some 24) #[true, true, true, false, false] rfl rfl (by kernel_rfl) (by decide) (fun K hK => ?_)
        refine goes_ Try.func43 (by kernel_rfl) rfl #[.agg #[.slice A0_0 l0_0.length c0_0, .slice A0_1 l0_1.length c0_1]] (by rfl) rfl rfl (by (try simp only [List.map_toArray, List.map_cons, List.map_nil]); first | done | rfl | (simp only [List.length_drop, List.length_take]; rfl)) ?_
        with_reducible refine (laws_toSheet.calls k _ _ l0_0 _ _ l0_1 t686 t689 _ ?side1 ?side2 ?side3 ?side4 A28.out).mono ?_
        (case side1 => repeat (first | exact (Kd.C_below HR0_0.out HB.out) | (with_reducible refine Kd.C_alloc ?_ _) | (with_reducible refine Kd.C_drewN ?_ _) | (with_reducible refine Kd.C_drew ?_)))
        (case side2 => exact HC0_0.out)
        (case side3 => repeat (first | exact (Kd.C_below HR0_1.out HB.out) | (with_reducible refine Kd.C_alloc ?_ _) | (with_reducible refine Kd.C_drewN ?_ _) | (with_reducible refine Kd.C_drew ?_)))
        (case side4 => exact HC0_1.out)
        rintro e w69 ⟨v687, v690, rfl, ho0, ho1, hb⟩
        refine ⟨_, rfl, ?_⟩
        have n0_ := Aside0.mk (Kd.R_elder' (by (with_reducible repeat (first | apply Kd.R_alloc | apply Kd.R_drewN | apply Kd.R_drew)); exact HO673.out) (Kd.R_base ho0) hb)
        have n1_ := Aside0.mk (Kd.R_elder' (by (with_reducible repeat (first | apply Kd.R_alloc | apply Kd.R_drewN | apply Kd.R_drew)); exact HO676.out) (Kd.R_base ho1) hb)
        have n2_ := Aside0.mk (Kd.R_elder' (by (with_reducible repeat (first | apply Kd.R_alloc | apply Kd.R_drewN | apply Kd.R_drew)); exact HO680.out) (Kd.R_base ho0) hb)
        have n3_ := Aside0.mk (Kd.R_elder' (by (with_reducible repeat (first | apply Kd.R_alloc | apply Kd.R_drewN | apply Kd.R_drew)); exact HO683.out) (Kd.R_base ho1) hb)
        have n4_ := Aside0.mk (Kd.R_lower (Kd.R_new' (Kd.R_new' ho0 (Kd.R_lt (by (with_reducible repeat (first | apply Kd.R_alloc | apply Kd.R_drewN | apply Kd.R_drew)); exact HO673.out))) (Kd.R_lt (by (with_reducible repeat (first | apply Kd.R_alloc | apply Kd.R_drewN | apply Kd.R_drew)); exact HO680.out))) (below_size (by repeat (first | (with_reducible first | exact HB.out | apply below_alloc | apply pw_below_drewN | apply below_drew1 | refine below_set ?_ GE669.out | refine below_set ?_ GE684.out) | exact HB.out))))
        have n5_ := Aside0.mk (Kd.R_lower (Kd.R_new' (Kd.R_new' ho1 (Kd.R_lt (by (with_reducible repeat (first | apply Kd.R_alloc | apply Kd.R_drewN | apply Kd.R_drew)); exact HO676.out))) (Kd.R_lt (by (with_reducible repeat (first | apply Kd.R_alloc | apply Kd.R_drewN | apply Kd.R_drew)); exact HO683.out))) (below_size (by repeat (first | (with_reducible first | exact HB.out | apply below_alloc | apply pw_below_drewN | apply below_drew1 | refine below_set ?_ GE669.out | refine below_set ?_ GE684.out) | exact HB.out))))
        have n6_ := Aside0.mk (blk_below (g := gb669) (o := .cells #[.slice A0_0 l0_0.length c0_0, .slice A0_1 l0_1.length c0_1] 62 (0, 0)) (by (with_reducible repeat (first | refine blk_drewN ?_ _ | refine blk_drew ?_ | refine blk_alloc ?_ _)); exact BK669.out) hb)
        have n7_ := Aside0.mk (blk_below (g := gb684) (o := .cells #[.slice Ao63 t678.length co63, .slice Ao66 t681.length co66] 67 (0, 0)) (by (with_reducible repeat (first | refine blk_drewN ?_ _ | refine blk_drew ?_ | refine blk_alloc ?_ _)); exact BK684.out) hb)
        have n8_ := Aside0.mk (below_step (by repeat (first | (with_reducible first | exact HB.out | apply below_alloc | apply pw_below_drewN | apply below_drew1 | refine below_set ?_ GE669.out | refine below_set ?_ GE684.out) | exact HB.out)) hb)
        clear HO673
        clear HO676
        clear HO680
        clear HO683
        clear BK669
        clear BK684
        clear HB
        have HO673 := n0_
        have HO676 := n1_
        have HO680 := n2_
        have HO683 := n3_
        have HO688 := n4_
        have HO691 := n5_
        have BK669 := n6_
        have BK684 := n7_
        have HB := n8_
        clear n0_ n1_ n2_ n3_ n4_ n5_ n6_ n7_ n8_
        (try clear hb)
        (try clear hb2)
        (try clear hk)
        (try clear hi)
        (try clear ho0)
        (try clear ho1)
        obtain ⟨Ao70, co70, eo70⟩ := Kd.R_slice HO688.out
        (first | subst eo70 | (injection eo70 with f1_ f2_ f3_; have f4_ := f1_.symm; have f5_ := f3_.symm; clear f1_ f2_ f3_; subst f4_; subst f5_))
        obtain ⟨Ao71, co71, eo71⟩ := Kd.R_slice HO691.out
        (first | subst eo71 | (injection eo71 with f1_ f2_ f3_; have f4_ := f1_.symm; have f5_ := f3_.symm; clear f1_ f2_ f3_; subst f4_; subst f5_))
        refine hK.out _ _ ⟨(blk_cell BK684.out 0).trans rfl, (blk_cell BK684.out 1).trans rfl, (blk_cell BK669.out 0).trans rfl, (blk_cell BK669.out 1).trans rfl⟩ (fun hHeld => ?_)
        clear hK K
        refine norm_ (a' := ?_) ?_ ?_
        rotate_left
        · show Act.put _ (some 24) _ = _
          simp only [Act.put, List.setIfInBounds_toArray, List.set_cons_zero, List.set_cons_succ, i64_w, i32_w]
          rfl
        refine one_ (i := 3) (N := some 25) #[true, true, true, true, false] rfl rfl (by kernel_rfl) (by decide) (fun K hK => ?_)
        refine goes_ Try.func45 (by kernel_rfl) rfl #[.agg #[.slice Ao63 t678.length co63, .slice Ao66 t681.length co66], .agg #[.slice Ao70 t686.length co70, .slice Ao71 t689.length co71]] (by rfl) rfl rfl (by (try simp only [List.map_toArray, List.map_cons, List.map_nil]); first | done | rfl | (simp only [List.length_drop, List.length_take]; rfl)) ?_
        with_reducible refine (laws_eqSheet.calls k _ _ t678 _ _ t681 _ _ t686 _ _ t689 false _ ?side1 ?side2 ?side3 ?side4 ?side5 ?side6 ?side7 ?side8 A29.out).mono ?_
        (case side1 => repeat (first | exact (Kd.R_reads' HO680.out).2.2 | (with_reducible refine Kd.C_alloc ?_ _) | (with_reducible refine Kd.C_drewN ?_ _) | (with_reducible refine Kd.C_drew ?_)))
        (case side2 => exact (Kd.R_reads' HO680.out).2.1)
        (case side3 => repeat (first | exact (Kd.R_reads' HO683.out).2.2 | (with_reducible refine Kd.C_alloc ?_ _) | (with_reducible refine Kd.C_drewN ?_ _) | (with_reducible refine Kd.C_drew ?_)))
        (case side4 => exact (Kd.R_reads' HO683.out).2.1)
        (case side5 => repeat (first | exact (Kd.R_reads' HO688.out).2.2 | (with_reducible refine Kd.C_alloc ?_ _) | (with_reducible refine Kd.C_drewN ?_ _) | (with_reducible refine Kd.C_drew ?_)))
        (case side6 => exact (Kd.R_reads' HO688.out).2.1)
        (case side7 => repeat (first | exact (Kd.R_reads' HO691.out).2.2 | (with_reducible refine Kd.C_alloc ?_ _) | (with_reducible refine Kd.C_drewN ?_ _) | (with_reducible refine Kd.C_drew ?_)))
        (case side8 => exact (Kd.R_reads' HO691.out).2.1)
        rintro e w72 ⟨rfl, hb⟩
        refine ⟨_, rfl, ?_⟩
        have n0_ := Aside0.mk (Kd.R_below (by (with_reducible repeat (first | apply Kd.R_alloc | apply Kd.R_drewN | apply Kd.R_drew)); exact HO673.out) hb)
        have n1_ := Aside0.mk (Kd.R_below (by (with_reducible repeat (first | apply Kd.R_alloc | apply Kd.R_drewN | apply Kd.R_drew)); exact HO676.out) hb)
        have n2_ := Aside0.mk (Kd.R_below (by (with_reducible repeat (first | apply Kd.R_alloc | apply Kd.R_drewN | apply Kd.R_drew)); exact HO680.out) hb)
        have n3_ := Aside0.mk (Kd.R_below (by (with_reducible repeat (first | apply Kd.R_alloc | apply Kd.R_drewN | apply Kd.R_drew)); exact HO683.out) hb)
        have n4_ := Aside0.mk (Kd.R_below (by (with_reducible repeat (first | apply Kd.R_alloc | apply Kd.R_drewN | apply Kd.R_drew)); exact HO688.out) hb)
        have n5_ := Aside0.mk (Kd.R_below (by (with_reducible repeat (first | apply Kd.R_alloc | apply Kd.R_drewN | apply Kd.R_drew)); exact HO691.out) hb)
        have n6_ := Aside0.mk (blk_below (g := gb669) (o := .cells #[.slice A0_0 l0_0.length c0_0, .slice A0_1 l0_1.length c0_1] 62 (0, 0)) (by (with_reducible repeat (first | refine blk_drewN ?_ _ | refine blk_drew ?_ | refine blk_alloc ?_ _)); exact BK669.out) hb)
        have n7_ := Aside0.mk (blk_below (g := gb684) (o := .cells #[.slice Ao63 t678.length co63, .slice Ao66 t681.length co66] 67 (0, 0)) (by (with_reducible repeat (first | refine blk_drewN ?_ _ | refine blk_drew ?_ | refine blk_alloc ?_ _)); exact BK684.out) hb)
        have n8_ := Aside0.mk (below_step (by repeat (first | (with_reducible first | exact HB.out | apply below_alloc | apply pw_below_drewN | apply below_drew1 | refine below_set ?_ GE669.out | refine below_set ?_ GE684.out) | exact HB.out)) hb)
        clear HO673
        clear HO676
        clear HO680
        clear HO683
        clear HO688
        clear HO691
        clear BK669
        clear BK684
        clear HB
        have HO673 := n0_
        have HO676 := n1_
        have HO680 := n2_
        have HO683 := n3_
        have HO688 := n4_
        have HO691 := n5_
        have BK669 := n6_
        have BK684 := n7_
        have HB := n8_
        clear n0_ n1_ n2_ n3_ n4_ n5_ n6_ n7_ n8_
        (try clear hb)
        (try clear hb2)
        (try clear hk)
        (try clear hi)
        refine hK.out _ _ ⟨(blk_cell BK684.out 0).trans rfl, (blk_cell BK684.out 1).trans rfl, (blk_cell BK669.out 0).trans rfl, (blk_cell BK669.out 1).trans rfl⟩ (fun hHeld => ?_)
        clear hK K
        refine norm_ (a' := ?_) ?_ ?_
        rotate_left
        · show Act.put _ (some 25) _ = _
          simp only [Act.put, List.setIfInBounds_toArray, List.set_cons_zero, List.set_cons_succ, i64_w, i32_w]
          rfl
        refine pure_ (i := 4) (N := some 26) (v := ?_) (a' := ?_) #[true, true, true, true, true] rfl rfl (by kernel_rfl) (fun _ _ _ h => h) (Or.inl ⟨by rfl, ?_⟩) ?_ ?_
        rotate_left
        · intro w'
          go_simp
          with_reducible rfl
        rotate_left
        · simp only [Act.put, List.setIfInBounds_toArray, List.set_cons_zero, List.set_cons_succ, i64_w, i32_w]
          rfl
        refine done_ (by kernel_rfl) ?_
        try go_wp2
        go_ret
        exact ⟨by first | rfl | (simp [errW_none, errW_some] <;> rfl) | (simp [*, errW_none, errW_some] <;> rfl), by repeat (first | (with_reducible first | exact HB.out | apply below_alloc | apply pw_below_drewN | apply below_drew1 | refine below_set ?_ GE669.out | refine below_set ?_ GE684.out) | exact HB.out)⟩
end Go.Proofs.Ytofieekbhbkliaa.G
end
section
namespace Go.Proofs.Ytofieekbhbkliaa.G
open Go.RowKit Go.Proofs.YtofieekbhbkliaaW.PrintWords
set_option linter.unusedVariables false
set_option linter.unusedSimpArgs false
abbrev Tk := S90
theorem tk_size (t p : Tk) (hp : p ∈ t.f2) : SizeOf.sizeOf p < SizeOf.sizeOf t := by
  have h := List.sizeOf_lt_of_mem hp
  cases t with
  | mk a b c => simp only [S90.mk.sizeOf_spec] at *; omega
theorem tk_ind {P : Tk → Prop} (h : ∀ t : Tk, (∀ p ∈ t.f2, P p) → P t) : ∀ t, P t := by
  intro t
  induction hn : SizeOf.sizeOf t using Nat.strongRecOn generalizing t with
  | _ n ih => exact h t (fun p hp => ih (SizeOf.sizeOf p) (by rw [← hn]; exact tk_size t p hp) p rfl)
def shapeB (k n : Int) (len : Nat) : Bool :=
  if k = 0 then decide (0 ≤ n ∧ n ≤ 96) && decide (len = 0)
  else if k = 1 then decide (0 ≤ n ∧ n < 10) && decide (len = 0)
  else if k = 2 then decide (n = 0) && decide (len = 2)
  else if k = 3 then decide (n = 0) && decide (len = 2)
  else if k = 4 then decide (n = 0) && decide (len = 3)
  else if k = 5 then decide (0 ≤ n ∧ n < 10) && decide (len = 1)
  else false
mutual
def fitT : Tk → Bool
  | ⟨k, n, ps⟩ => shapeB k n ps.length && fitL ps
def fitL : List Tk → Bool
  | [] => true
  | p :: ps => fitT p && fitL ps
end
mutual
def nodT : Tk → Nat
  | ⟨_, _, ps⟩ => 1 + nodL ps
def nodL : List Tk → Nat
  | [] => 0
  | p :: ps => nodT p + nodL ps
end
def okT (t : Tk) : Bool := fitT t && decide (nodT t ≤ 15)
theorem fitT_eq (t : Tk) : fitT t = (shapeB t.f0 t.f1 t.f2.length && fitL t.f2) := by cases t; simp [fitT]
theorem nodT_eq (t : Tk) : nodT t = 1 + nodL t.f2 := by cases t; simp [nodT]
theorem nodT_pos (t : Tk) : 1 ≤ nodT t := by rw [nodT_eq]; omega
theorem nodL_mem {ps : List Tk} : ∀ p ∈ ps, nodT p ≤ nodL ps := by
  induction ps with
  | nil => intro p hp; cases hp
  | cons q ps ih =>
    intro p hp
    simp only [nodL]
    rcases List.mem_cons.1 hp with rfl | hp
    · omega
    · have := ih p hp; omega
theorem nodL_len (ps : List Tk) : ps.length ≤ nodL ps := by
  induction ps with
  | nil => simp
  | cons q ps ih => simp only [nodL, List.length_cons]; have := nodT_pos q; omega
theorem shapeB_len {k n : Int} {len : Nat} (h : shapeB k n len = true) : len ≤ 3 := by
  unfold shapeB at h
  repeat' split at h
  all_goals first | (simp at h; done) | (simp only [Bool.and_eq_true, decide_eq_true_eq] at h; omega)
theorem okT_fit {t : Tk} (h : okT t = true) : fitT t = true := by simp only [okT, Bool.and_eq_true] at h; exact h.1
theorem okT_nod {t : Tk} (h : okT t = true) : nodT t ≤ 15 := by simp only [okT, Bool.and_eq_true, decide_eq_true_eq] at h; exact h.2
theorem rd_tk (ps : List Tk) (i : Nat) (h : i < ps.length) : rd_T90 ps (i : Int) = ps[i] := by
  simp only [rd_T90, Int.toNat_natCast, List.getD_eq_getElem?_getD, List.getElem?_eq_getElem h, Option.getD_some]
theorem drop_tk {α : Type} (ps : List α) (i : Nat) (h : i < ps.length) : ps.drop i = ps[i] :: ps.drop (i + 1) := List.drop_eq_getElem_cons h
theorem wrap_nat (i : Nat) (h : i + 1 ≤ 9223372036854775807) : wrap64 ((i : Int) + 1) = ((i + 1 : Nat) : Int) := by unfold wrap64; omega
theorem wrap_id (x : Int) (h1 : -9223372036854775808 ≤ x) (h2 : x ≤ 9223372036854775807) : wrap64 x = x := by unfold wrap64; omega
theorem isKey_ev (a : Int) : impl_isKey.f a = some (decide (0 ≤ a ∧ a < 10)) := by
  unfold impl_isKey.f
  by_cases h : a ≥ 0
  · rw [if_pos h]; simp only [ge_iff_le] at h; simp [h]
  · rw [if_neg h]; simp only [ge_iff_le] at h; simp [h]
theorem isValue_ev (a : Int) : impl_isValue.f a = some (decide (0 ≤ a ∧ a ≤ 96)) := by
  unfold impl_isValue.f
  by_cases h : a ≥ 0
  · rw [if_pos h]; simp only [ge_iff_le] at h; simp [h]
  · rw [if_neg h]; simp only [ge_iff_le] at h; simp [h]
theorem ite_prop (P : Prop) [Decidable P] (c : Bool) : (if P then some c else some false) = some (decide P && c) := by by_cases h : P <;> simp [h]
theorem fits_now (k : Nat) (a b : Int) (l : List Tk) : impl_Task_fits.f (k + 1) a b l = some (shapeB a b l.length) := by
  unfold impl_Task_fits.f
  have e0 : ∀ m : Nat, ((l.length : Int) == (m : Int)) = decide (l.length = m) := fun m => by rw [Bool.eq_iff_iff]; simp only [beq_iff_eq, decide_eq_true_eq]; omega
  have e1 : ((l.length : Int) == 0) = decide (l.length = 0) := e0 0
  have e2 : ((l.length : Int) == 1) = decide (l.length = 1) := e0 1
  have e3 : ((l.length : Int) == 2) = decide (l.length = 2) := e0 2
  have e4 : ((l.length : Int) == 3) = decide (l.length = 3) := e0 3
  simp only [impl_Task_fits.j0, isKey_ev, isValue_ev, Option.bind_some, e1, e2, e3, e4, ite_prop, Bool.decide_eq_true]
  clear e0 e1 e2 e3 e4
  unfold shapeB
  by_cases h0 : a = 0
  · simp only [h0, if_true]
  by_cases h1 : a = 1
  · simp only [h0, h1, if_true, if_false, show ¬ ((1 : Int) = 0) by decide]
  by_cases h2 : a = 2
  · simp only [h2, if_true, if_false, show ¬ ((2 : Int) = 0) by decide, show ¬ ((2 : Int) = 1) by decide, show ((2 : Int) == 2) = true by decide]
  by_cases h3 : a = 3
  · simp only [h3, if_true, if_false, show ¬ ((3 : Int) = 0) by decide, show ¬ ((3 : Int) = 1) by decide, show ¬ ((3 : Int) = 2) by decide, show ((3 : Int) == 3) = true by decide]
  have h3b : (a == 3) = false := beq_eq_false_iff_ne.mpr h3
  by_cases h4 : a = 4
  · simp only [h4, if_true, if_false, show ¬ ((4 : Int) = 0) by decide, show ¬ ((4 : Int) = 1) by decide, show ¬ ((4 : Int) = 2) by decide, show ¬ ((4 : Int) = 3) by decide, show ((4 : Int) == 3) = false by decide, Bool.false_eq_true, decide_true, Bool.true_and]
  by_cases h5 : a = 5
  · simp only [h5, if_true, if_false, show ¬ ((5 : Int) = 0) by decide, show ¬ ((5 : Int) = 1) by decide, show ¬ ((5 : Int) = 2) by decide, show ¬ ((5 : Int) = 3) by decide, show ¬ ((5 : Int) = 4) by decide, show ((5 : Int) == 3) = false by decide, Bool.false_eq_true, decide_true, Bool.true_and]
  simp only [h0, h1, h2, h3, h4, h5, h3b, if_false, Bool.false_eq_true, decide_false, Bool.false_and]
theorem fits_ev (a b : Int) (l : List Tk) : Ev (fun k => impl_Task_fits.f k a b l) (shapeB a b l.length) := ⟨1, fun k hk => by
  obtain ⟨m, rfl⟩ : ∃ m, k = m + 1 := ⟨k - 1, by omega⟩
  exact fits_now m a b l⟩
end Go.Proofs.Ytofieekbhbkliaa.G
end
section
namespace Go.Proofs.Ytofieekbhbkliaa.G
open Go.RowKit Go.Proofs.YtofieekbhbkliaaW.PrintWords
set_option linter.unusedVariables false
set_option linter.unusedSimpArgs false
theorem Ev.eq {α : Type} {g : Nat → Option α} {r r' : α} (h : Ev g r) (e : r = r') : Ev g r' := e ▸ h
theorem Ev.of_eq {α : Type} {o : Option α} {r : α} (h : o = some r) : Ev (fun _ => o) r := ⟨0, fun _ _ => h⟩
def CountsTo (t : Tk) (room r : Int) : Prop := ((fitT t = true ∧ (nodT t : Int) ≤ room) → r = nodT t) ∧ (¬ (fitT t = true ∧ (nodT t : Int) ≤ room) → room < r) ∧ 1 ≤ r ∧ r ≤ 16 + 16 * room
theorem countTo_loop (ps : List Tk) (hlen : ps.length ≤ 3) (room : Int) (h0 : 0 ≤ room) (h1 : room ≤ 15)
    (ih : ∀ p ∈ ps, ∀ rm : Int, 0 ≤ rm → rm ≤ 15 → ∃ r, Ev (fun k => impl_Task_countTo.f k p.f0 p.f1 p.f2 rm) r ∧ CountsTo p rm r) :
    ∀ (d i : Nat) (n : Int), d = ps.length - i → i ≤ ps.length → 1 ≤ n → n ≤ 16 + 16 * room →
      ∃ r, Ev (fun k => impl_Task_countTo.l0 k room n ps (ps.length : Int) (i : Int)) r ∧ ((fitL (ps.drop i) = true ∧ n + (nodL (ps.drop i) : Int) ≤ room) → r = n + nodL (ps.drop i)) ∧ (¬ (fitL (ps.drop i) = true ∧ n + (nodL (ps.drop i) : Int) ≤ room) → room < r) ∧ 1 ≤ r ∧ r ≤ 16 + 16 * room := by
  intro d
  induction d with
  | zero =>
    intro i n hd hi hn hn2
    have e : i = ps.length := by omega
    subst e
    refine ⟨n, Ev.step (fun k => by rw [impl_Task_countTo.l0]) ?_, ?_⟩
    · simp only [if_neg (show ¬ ((ps.length : Int) < (ps.length : Int)) by omega)]
      exact Ev.now n
    · simp only [List.drop_length, fitL, nodL]
      refine ⟨fun _ => by simp, fun h => ?_, hn, hn2⟩
      simp at h
      omega
  | succ d ihd =>
    intro i n hd hi hn hn2
    have hlt : i < ps.length := by omega
    have hrd := rd_tk ps i hlt
    have hdr := drop_tk ps i hlt
    have hmem : ps[i] ∈ ps := List.getElem_mem hlt
    by_cases hg : n > room
    · refine ⟨16, Ev.step (fun k => by rw [impl_Task_countTo.l0]) ?_, fun h => ?_, fun _ => by omega, by omega, by omega⟩
      · simp only [if_pos (show (i : Int) < (ps.length : Int) by omega), if_pos (show (0 : Int) ≤ (i : Int) by omega), if_pos hg]
        exact Ev.now 16
      · exfalso
        have := h.2
        omega
    · obtain ⟨c, hc, hc1, hc2, hc3, hc4⟩ := ih ps[i] hmem (room - n) (by omega) (by omega)
      obtain ⟨r, hr, hr1, hr2, hr3, hr4⟩ := ihd (i + 1) (n + c) (by omega) (by omega) (by omega) (by omega)
      refine ⟨r, Ev.step (fun k => by rw [impl_Task_countTo.l0]) ?_, ?_, ?_, hr3, hr4⟩
      · simp only [if_pos (show (i : Int) < (ps.length : Int) by omega), if_pos (show (0 : Int) ≤ (i : Int) by omega), if_neg hg, hrd]
        rw [wrap_id (room - n) (by omega) (by omega), wrap_nat i (by omega)]
        refine Ev.bind hc ?_
        simp only [wrap_id (n + c) (by omega) (by omega)]
        exact hr
      · rw [hdr]
        simp only [fitL, nodL, Bool.and_eq_true]
        rintro ⟨⟨f1, f2⟩, h3⟩
        have e := hc1 ⟨f1, by omega⟩
        rw [hr1 ⟨f2, by omega⟩]
        omega
      · rw [hdr]
        simp only [fitL, nodL, Bool.and_eq_true]
        intro hno
        by_cases hp : fitT ps[i] = true ∧ (nodT ps[i] : Int) ≤ room - n
        · have e := hc1 hp
          exact hr2 (fun h => hno ⟨⟨hp.1, h.1⟩, by have := h.2; omega⟩)
        · have := hc2 hp
          exact hr2 (fun h => by have := h.2; omega)
theorem countTo_ev : ∀ t : Tk, ∀ room : Int, 0 ≤ room → room ≤ 15 → ∃ r, Ev (fun k => impl_Task_countTo.f k t.f0 t.f1 t.f2 room) r ∧ CountsTo t room r := by
  refine tk_ind fun t ih room h0 h1 => ?_
  by_cases hr : room < 1
  · refine ⟨16, Ev.step (fun k => by rw [impl_Task_countTo.f]) ?_, ?_, ?_, by omega, by omega⟩
    · simp only [if_pos hr]
      refine Ev.step (fun k => by rw [impl_Task_countTo.j0]) ?_
      simp only [if_true]
      exact Ev.now 16
    · rintro ⟨_, h⟩
      have := nodT_pos t
      omega
    · intro _
      omega
  · have hshape := fits_ev t.f0 t.f1 t.f2
    by_cases hf : shapeB t.f0 t.f1 t.f2.length = true
    · obtain ⟨r, hr1, hr2, hr3, hr4, hr5⟩ := countTo_loop t.f2 (shapeB_len hf) room h0 h1 ih t.f2.length 0 1 (by omega) (by omega) (by omega) (by omega)
      refine ⟨r, Ev.step (fun k => by rw [impl_Task_countTo.f]) ?_, ?_, ?_, hr4, hr5⟩
      · simp only [if_neg hr]
        refine Ev.bind hshape ?_
        simp only [hf, Bool.not_true]
        refine Ev.step (fun k => by rw [impl_Task_countTo.j0]) ?_
        simp only [Bool.false_eq_true, if_false]
        exact hr1
      · rw [fitT_eq, nodT_eq, hf]
        simp only [List.drop_zero, Bool.true_and] at hr2 ⊢
        rintro ⟨a, b⟩
        rw [hr2 ⟨a, by omega⟩]
        omega
      · rw [fitT_eq, nodT_eq, hf]
        simp only [List.drop_zero, Bool.true_and] at hr3 ⊢
        intro h
        exact hr3 (fun ⟨a, b⟩ => h ⟨a, by omega⟩)
    · refine ⟨16, Ev.step (fun k => by rw [impl_Task_countTo.f]) ?_, ?_, ?_, by omega, by omega⟩
      · simp only [if_neg hr]
        refine Ev.bind hshape ?_
        simp only [Bool.not_eq_true] at hf
        simp only [hf, Bool.not_false]
        refine Ev.step (fun k => by rw [impl_Task_countTo.j0]) ?_
        simp only [if_true]
        exact Ev.now 16
      · rw [fitT_eq]
        intro h
        simp [hf] at h
      · intro _
        omega
theorem count_loop (ps : List Tk) (hlen : ps.length ≤ 3) :
    ∀ (d i : Nat) (n : Int), d = ps.length - i → i ≤ ps.length → 1 ≤ n → n ≤ 300 →
      ∃ r, Ev (fun k => impl_Task_count.l0 k n ps (ps.length : Int) (i : Int)) r ∧ ((fitL (ps.drop i) = true ∧ n + (nodL (ps.drop i) : Int) ≤ 15) → r = n + nodL (ps.drop i)) ∧ (¬ (fitL (ps.drop i) = true ∧ n + (nodL (ps.drop i) : Int) ≤ 15) → 15 < r) := by
  intro d
  induction d with
  | zero =>
    intro i n hd hi hn hn2
    have e : i = ps.length := by omega
    subst e
    refine ⟨n, Ev.step (fun k => by rw [impl_Task_count.l0]) ?_, ?_⟩
    · simp only [if_neg (show ¬ ((ps.length : Int) < (ps.length : Int)) by omega)]
      exact Ev.now n
    · simp only [List.drop_length, fitL, nodL]
      refine ⟨fun _ => by simp, fun h => ?_⟩
      simp at h
      omega
  | succ d ihd =>
    intro i n hd hi hn hn2
    have hlt : i < ps.length := by omega
    have hrd := rd_tk ps i hlt
    have hdr := drop_tk ps i hlt
    by_cases hg : n > 15
    · refine ⟨n, Ev.step (fun k => by rw [impl_Task_count.l0]) ?_, fun h => ?_, fun _ => by omega⟩
      · simp only [if_pos (show (i : Int) < (ps.length : Int) by omega), if_pos (show (0 : Int) ≤ (i : Int) by omega), if_pos hg]
        exact Ev.now n
      · exfalso
        have := h.2
        omega
    · obtain ⟨c, hc, hc1, hc2, hc3, hc4⟩ := countTo_ev ps[i] (15 - n) (by omega) (by omega)
      obtain ⟨r, hr, hr1, hr2⟩ := ihd (i + 1) (n + c) (by omega) (by omega) (by omega) (by omega)
      refine ⟨r, Ev.step (fun k => by rw [impl_Task_count.l0]) ?_, ?_, ?_⟩
      · simp only [if_pos (show (i : Int) < (ps.length : Int) by omega), if_pos (show (0 : Int) ≤ (i : Int) by omega), if_neg hg, hrd]
        rw [wrap_id (15 - n) (by omega) (by omega), wrap_nat i (by omega)]
        refine Ev.bind hc ?_
        simp only [wrap_id (n + c) (by omega) (by omega)]
        exact hr
      · rw [hdr]
        simp only [fitL, nodL, Bool.and_eq_true]
        rintro ⟨⟨f1, f2⟩, h3⟩
        have e := hc1 ⟨f1, by omega⟩
        rw [hr1 ⟨f2, by omega⟩]
        omega
      · rw [hdr]
        simp only [fitL, nodL, Bool.and_eq_true]
        intro hno
        by_cases hp : fitT ps[i] = true ∧ (nodT ps[i] : Int) ≤ 15 - n
        · have e := hc1 hp
          exact hr2 (fun h => hno ⟨⟨hp.1, h.1⟩, by have := h.2; omega⟩)
        · have := hc2 hp
          exact hr2 (fun h => by have := h.2; omega)
theorem count_ev (t : Tk) : ∃ r, Ev (fun k => impl_Task_count.f k t.f0 t.f1 t.f2) r ∧ (okT t = true → r = nodT t) ∧ (okT t = false → 15 < r) := by
  have hshape := fits_ev t.f0 t.f1 t.f2
  by_cases hf : shapeB t.f0 t.f1 t.f2.length = true
  · obtain ⟨r, hr1, hr2, hr3⟩ := count_loop t.f2 (shapeB_len hf) t.f2.length 0 1 (by omega) (by omega) (by omega) (by omega)
    refine ⟨r, ?_, ?_, ?_⟩
    · unfold impl_Task_count.f
      refine Ev.bind hshape ?_
      simp only [hf, if_true]
      exact hr1
    · intro h
      have h1 := okT_fit h
      have h2 := okT_nod h
      rw [fitT_eq, Bool.and_eq_true] at h1
      rw [nodT_eq] at h2 ⊢
      simp only [List.drop_zero] at hr2
      rw [hr2 ⟨h1.2, by omega⟩]
      omega
    · intro h
      simp only [List.drop_zero] at hr3
      refine hr3 (fun ⟨a, b⟩ => ?_)
      rw [okT, fitT_eq, nodT_eq, hf, a] at h
      simp at h
      omega
  · refine ⟨16, ?_, ?_, fun _ => by omega⟩
    · unfold impl_Task_count.f
      refine Ev.bind hshape ?_
      simp only [hf, Bool.false_eq_true, if_false]
      exact Ev.now 16
    · intro h
      have h1 := okT_fit h
      rw [fitT_eq, Bool.and_eq_true] at h1
      exact absurd h1.1 hf
theorem implOk_ev (t : Tk) : Ev (fun k => impl_TaskOk.f k t.f0 t.f1 t.f2) (okT t) := by
  obtain ⟨r, hr, h1, h2⟩ := count_ev t
  unfold impl_TaskOk.f
  refine Ev.bind hr ?_
  refine Ev.of_eq ?_
  cases h : okT t with
  | true => have := h1 h; have := okT_nod h; simp; omega
  | false => have := h2 h; simp; omega
theorem l1Shape_now (k : Nat) (a : Int) : spec_l1Shape.f (k + 1) a = some (if a = 0 then (0, 96, true) else if a = 1 then (0, 9, true) else if a = 2 then (2, 0, true) else if a = 3 then (2, 0, true) else if a = 4 then (3, 0, true) else if a = 5 then (1, 9, true) else (0, 0, false)) := by
  unfold spec_l1Shape.f
  simp only [spec_l1Shape.j0]
  repeat' split
  all_goals simp_all
theorem l1Shape_ev (a : Int) : Ev (fun k => spec_l1Shape.f k a) (if a = 0 then (0, 96, true) else if a = 1 then (0, 9, true) else if a = 2 then (2, 0, true) else if a = 3 then (2, 0, true) else if a = 4 then (3, 0, true) else if a = 5 then (1, 9, true) else (0, 0, false)) := ⟨1, fun k hk => by
  obtain ⟨m, rfl⟩ : ∃ m, k = m + 1 := ⟨k - 1, by omega⟩
  exact l1Shape_now m a⟩
theorem l6In_ev (a b c : Int) : spec_l6In.f a b c = some (decide (b ≤ a ∧ a ≤ c)) := by
  unfold spec_l6In.f
  by_cases h : a ≥ b
  · rw [if_pos h]; simp only [ge_iff_le] at h; simp [h]
  · rw [if_neg h]; simp only [ge_iff_le] at h; simp [h]
theorem l1Fit_loop (a b : Int) (ps : List Tk) (hlen : ps.length ≤ 3) (ih : ∀ p ∈ ps, Ev (fun k => spec_l1Fit.f k p.f0 p.f1 p.f2) (fitT p)) :
    ∀ (d i : Nat), d = ps.length - i → i ≤ ps.length → Ev (fun k => spec_l1Fit.l0 k (i : Int) a b ps) (fitL (ps.drop i)) := by
  intro d
  induction d with
  | zero =>
    intro i hd hi
    have e : i = ps.length := by omega
    subst e
    refine Ev.step (fun k => by rw [spec_l1Fit.l0]) ?_
    simp only [if_neg (show ¬ ((ps.length : Int) < (ps.length : Int)) by omega), List.drop_length, fitL]
    exact Ev.now true
  | succ d ihd =>
    intro i hd hi
    have hlt : i < ps.length := by omega
    have hrd := rd_tk ps i hlt
    have hmem : ps[i] ∈ ps := List.getElem_mem hlt
    rw [drop_tk ps i hlt]
    refine Ev.step (fun k => by rw [spec_l1Fit.l0]) ?_
    simp only [if_pos (show (i : Int) < (ps.length : Int) by omega), if_pos (show (0 : Int) ≤ (i : Int) by omega), hrd]
    refine Ev.bind (ih _ hmem) ?_
    simp only [fitL]
    cases h : fitT ps[i] with
    | true =>
      simp only [if_true, Bool.true_and, wrap_nat i (by omega)]
      exact ihd (i + 1) (by omega) (by omega)
    | false =>
      simp only [Bool.false_eq_true, if_false, Bool.false_and]
      exact Ev.now false
theorem l1Fit_ev : ∀ t : Tk, Ev (fun k => spec_l1Fit.f k t.f0 t.f1 t.f2) (fitT t) := by
  refine tk_ind fun t ih => ?_
  refine Ev.step (fun k => by rw [spec_l1Fit.f]) ?_
  refine Ev.bind (l1Shape_ev t.f0) ?_
  rw [fitT_eq]
  have bad : Ev (fun k => spec_l1Fit.j0 k true t.f0 t.f1 t.f2) false := by
    refine Ev.step (fun k => by rw [spec_l1Fit.j0]) ?_
    simp only [if_true]
    exact Ev.now false
  have good : t.f2.length ≤ 3 → ∀ c : Bool, Ev (fun k => spec_l1Fit.j0 k (!c) t.f0 t.f1 t.f2) (c && fitL t.f2) := by
    intro hl c
    refine Ev.step (fun k => by rw [spec_l1Fit.j0]) ?_
    cases c with
    | false =>
      simp only [Bool.not_false, if_true, Bool.false_and]
      exact Ev.now false
    | true =>
      simp only [Bool.not_true, Bool.false_eq_true, if_false, Bool.true_and]
      exact l1Fit_loop t.f0 t.f1 t.f2 hl ih t.f2.length 0 (by omega) (by omega)
  have e0 : ∀ m : Nat, ((t.f2.length : Int) = (m : Int)) = (t.f2.length = m) := fun m => by rw [eq_iff_iff]; omega
  have e1 : ((t.f2.length : Int) = 0) = (t.f2.length = 0) := e0 0
  have e2 : ((t.f2.length : Int) = 1) = (t.f2.length = 1) := e0 1
  have e3 : ((t.f2.length : Int) = 2) = (t.f2.length = 2) := e0 2
  have e4 : ((t.f2.length : Int) = 3) = (t.f2.length = 3) := e0 3
  simp only [l6In_ev, Option.bind_some]
  unfold shapeB
  by_cases h0 : t.f0 = 0
  · simp only [h0, if_true, e1] at good bad ⊢
    by_cases hl : t.f2.length = 0
    · simp only [hl, if_true, decide_true, Bool.and_true] at good ⊢
      exact good (by omega) _
    · simp only [hl, if_false, decide_false, Bool.and_false, Bool.false_and]
      exact bad
  by_cases h1 : t.f0 = 1
  · have e9 : ∀ x : Int, (0 ≤ x ∧ x < 10) = (0 ≤ x ∧ x ≤ 9) := fun x => by rw [eq_iff_iff]; omega
    simp only [h1, if_true, e1, e9, show ¬ ((1 : Int) = 0) by decide, if_false] at good bad ⊢
    by_cases hl : t.f2.length = 0
    · simp only [hl, if_true, decide_true, Bool.and_true] at good ⊢
      exact good (by omega) _
    · simp only [hl, if_false, decide_false, Bool.and_false, Bool.false_and]
      exact bad
  by_cases h2 : t.f0 = 2
  · have e9 : ∀ x : Int, (x = 0) = (0 ≤ x ∧ x ≤ 0) := fun x => by rw [eq_iff_iff]; omega
    simp only [h2, if_true, e3, e9 t.f1, show ¬ ((2 : Int) = 0) by decide, show ¬ ((2 : Int) = 1) by decide, if_false] at good bad ⊢
    by_cases hl : t.f2.length = 2
    · simp only [hl, if_true, decide_true, Bool.and_true] at good ⊢
      exact good (by omega) _
    · simp only [hl, if_false, decide_false, Bool.and_false, Bool.false_and]
      exact bad
  by_cases h3 : t.f0 = 3
  · have e9 : ∀ x : Int, (x = 0) = (0 ≤ x ∧ x ≤ 0) := fun x => by rw [eq_iff_iff]; omega
    simp only [h3, if_true, e3, e9 t.f1, show ¬ ((3 : Int) = 0) by decide, show ¬ ((3 : Int) = 1) by decide, show ¬ ((3 : Int) = 2) by decide, if_false] at good bad ⊢
    by_cases hl : t.f2.length = 2
    · simp only [hl, if_true, decide_true, Bool.and_true] at good ⊢
      exact good (by omega) _
    · simp only [hl, if_false, decide_false, Bool.and_false, Bool.false_and]
      exact bad
  by_cases h4 : t.f0 = 4
  · have e9 : ∀ x : Int, (x = 0) = (0 ≤ x ∧ x ≤ 0) := fun x => by rw [eq_iff_iff]; omega
    simp only [h4, if_true, e4, e9 t.f1, show ¬ ((4 : Int) = 0) by decide, show ¬ ((4 : Int) = 1) by decide, show ¬ ((4 : Int) = 2) by decide, show ¬ ((4 : Int) = 3) by decide, if_false] at good bad ⊢
    by_cases hl : t.f2.length = 3
    · simp only [hl, if_true, decide_true, Bool.and_true] at good ⊢
      exact good (by omega) _
    · simp only [hl, if_false, decide_false, Bool.and_false, Bool.false_and]
      exact bad
  by_cases h5 : t.f0 = 5
  · have e9 : ∀ x : Int, (0 ≤ x ∧ x < 10) = (0 ≤ x ∧ x ≤ 9) := fun x => by rw [eq_iff_iff]; omega
    simp only [h5, if_true, e2, e9 t.f1, show ¬ ((5 : Int) = 0) by decide, show ¬ ((5 : Int) = 1) by decide, show ¬ ((5 : Int) = 2) by decide, show ¬ ((5 : Int) = 3) by decide, show ¬ ((5 : Int) = 4) by decide, if_false] at good bad ⊢
    by_cases hl : t.f2.length = 1
    · simp only [hl, if_true, decide_true, Bool.and_true] at good ⊢
      exact good (by omega) _
    · simp only [hl, if_false, decide_false, Bool.and_false, Bool.false_and]
      exact bad
  · simp only [h0, h1, h2, h3, h4, h5, if_false, Bool.false_eq_true, Bool.false_and]
    exact bad
theorem l1Nodes_loop (a b : Int) (ps : List Tk) (hlen : ps.length ≤ 4000000000) (ih : ∀ p ∈ ps, (nodT p : Int) ≤ 4000000000 → Ev (fun k => spec_l1Nodes.f k p.f0 p.f1 p.f2) (nodT p : Int)) :
    ∀ (d i : Nat) (n : Int), d = ps.length - i → i ≤ ps.length → 0 ≤ n → n + (nodL (ps.drop i) : Int) ≤ 4000000000 → Ev (fun k => spec_l1Nodes.l0 k n (i : Int) a b ps) (n + nodL (ps.drop i)) := by
  intro d
  induction d with
  | zero =>
    intro i n hd hi hn hb
    have e : i = ps.length := by omega
    subst e
    refine Ev.step (fun k => by rw [spec_l1Nodes.l0]) ?_
    simp only [if_neg (show ¬ ((ps.length : Int) < (ps.length : Int)) by omega), List.drop_length, nodL]
    exact Ev.eq (Ev.now n) (by omega)
  | succ d ihd =>
    intro i n hd hi hn hb
    have hlt : i < ps.length := by omega
    have hrd := rd_tk ps i hlt
    have hmem : ps[i] ∈ ps := List.getElem_mem hlt
    rw [drop_tk ps i hlt] at hb ⊢
    simp only [nodL] at hb ⊢
    refine Ev.step (fun k => by rw [spec_l1Nodes.l0]) ?_
    simp only [if_pos (show (i : Int) < (ps.length : Int) by omega), if_pos (show (0 : Int) ≤ (i : Int) by omega), hrd]
    refine Ev.bind (ih _ hmem (by omega)) ?_
    simp only [wrap_nat i (by omega), wrap_id (n + (nodT ps[i] : Int)) (by omega) (by omega)]
    exact Ev.eq (ihd (i + 1) (n + nodT ps[i]) (by omega) (by omega) (by omega) (by omega)) (by omega)
theorem l1Nodes_ev : ∀ t : Tk, (nodT t : Int) ≤ 4000000000 → Ev (fun k => spec_l1Nodes.f k t.f0 t.f1 t.f2) (nodT t : Int) := by
  refine tk_ind fun t ih hb => ?_
  rw [nodT_eq] at hb ⊢
  have := nodL_len t.f2
  refine Ev.step (fun k => by rw [spec_l1Nodes.f]) ?_
  exact Ev.eq (l1Nodes_loop t.f0 t.f1 t.f2 (by omega) ih t.f2.length 0 1 (by omega) (by omega) (by omega) (by rw [List.drop_zero]; omega)) (by rw [List.drop_zero]; omega)
theorem specOk_ev (t : Tk) (hb : (nodT t : Int) ≤ 4000000000) : Ev (fun k => spec_TaskOk.f k t.f0 t.f1 t.f2) (okT t) := by
  unfold spec_TaskOk.f
  refine Ev.bind (l1Fit_ev t) ?_
  unfold okT
  cases h : fitT t with
  | false =>
    simp only [Bool.false_eq_true, if_false, Bool.false_and]
    exact Ev.now false
  | true =>
    simp only [if_true, Bool.true_and]
    refine Ev.bind (l1Nodes_ev t hb) ?_
    refine Ev.of_eq ?_
    congr 1
    rw [Bool.eq_iff_iff]
    simp only [decide_eq_true_eq]
    omega
end Go.Proofs.Ytofieekbhbkliaa.G
end
section
namespace Go.Proofs.Ytofieekbhbkliaa.G
open Go.RowKit Go.Proofs.YtofieekbhbkliaaW.PrintWords
set_option linter.unusedVariables false
set_option linter.unusedSimpArgs false
mutual
def fixT : Tk → Bool
  | ⟨k, _, ps⟩ => (k != 4 && k != 5) && fixL ps
def fixL : List Tk → Bool
  | [] => true
  | p :: ps => fixT p && fixL ps
end
theorem fixT_eq (t : Tk) : fixT t = ((t.f0 != 4 && t.f0 != 5) && fixL t.f2) := by cases t; simp [fixT]
theorem l1Fixed_loop (a b : Int) (ps : List Tk) (hlen : ps.length ≤ 4000000000) (ih : ∀ p ∈ ps, Ev (fun k => spec_l1Fixed.f k p.f0 p.f1 p.f2) (fixT p)) :
    ∀ (d i : Nat), d = ps.length - i → i ≤ ps.length → Ev (fun k => spec_l1Fixed.l0 k (i : Int) a b ps) (fixL (ps.drop i) && (a != 4 && a != 5)) := by
  intro d
  induction d with
  | zero =>
    intro i hd hi
    have e : i = ps.length := by omega
    subst e
    refine Ev.step (fun k => by rw [spec_l1Fixed.l0]) ?_
    simp only [if_neg (show ¬ ((ps.length : Int) < (ps.length : Int)) by omega), List.drop_length, fixL, Bool.true_and]
    by_cases h4 : a = 4
    · simp only [if_pos h4]
      exact Ev.eq (Ev.now false) (by simp [h4])
    · simp only [if_neg h4]
      exact Ev.eq (Ev.now _) (by simp [h4])
  | succ d ihd =>
    intro i hd hi
    have hlt : i < ps.length := by omega
    have hrd := rd_tk ps i hlt
    have hmem : ps[i] ∈ ps := List.getElem_mem hlt
    rw [drop_tk ps i hlt]
    refine Ev.step (fun k => by rw [spec_l1Fixed.l0]) ?_
    simp only [if_pos (show (i : Int) < (ps.length : Int) by omega), if_pos (show (0 : Int) ≤ (i : Int) by omega), hrd]
    refine Ev.bind (ih _ hmem) ?_
    rw [fixL]
    cases h : fixT ps[i] with
    | true =>
      simp only [if_true, Bool.true_and, wrap_nat i (by omega)]
      exact ihd (i + 1) (by omega) (by omega)
    | false =>
      simp only [Bool.false_eq_true, if_false, Bool.false_and]
      exact Ev.now false
theorem l1Fixed_ev : ∀ t : Tk, (nodT t : Int) ≤ 4000000000 → Ev (fun k => spec_l1Fixed.f k t.f0 t.f1 t.f2) (fixT t) := by
  refine tk_ind fun t ih hb => ?_
  rw [nodT_eq] at hb
  have hl := nodL_len t.f2
  refine Ev.step (fun k => by rw [spec_l1Fixed.f]) ?_
  refine Ev.eq (l1Fixed_loop t.f0 t.f1 t.f2 (by omega) (fun p hp => ih p hp (by have := nodL_mem p hp; omega)) t.f2.length 0 (by omega) (by omega)) ?_
  rw [List.drop_zero, fixT_eq, Bool.and_comm]
theorem implFixed_loop (ps : List Tk) (hlen : ps.length ≤ 4000000000) (ih : ∀ p ∈ ps, Ev (fun k => impl_Task_fixed.f k p.f0 p.f1 p.f2) (fixT p)) :
    ∀ (d i : Nat), d = ps.length - i → i ≤ ps.length → Ev (fun k => impl_Task_fixed.l0 k ps (ps.length : Int) (i : Int)) (fixL (ps.drop i)) := by
  intro d
  induction d with
  | zero =>
    intro i hd hi
    have e : i = ps.length := by omega
    subst e
    refine Ev.step (fun k => by rw [impl_Task_fixed.l0]) ?_
    simp only [if_neg (show ¬ ((ps.length : Int) < (ps.length : Int)) by omega), List.drop_length, fixL]
    exact Ev.now true
  | succ d ihd =>
    intro i hd hi
    have hlt : i < ps.length := by omega
    have hrd := rd_tk ps i hlt
    have hmem : ps[i] ∈ ps := List.getElem_mem hlt
    rw [drop_tk ps i hlt]
    refine Ev.step (fun k => by rw [impl_Task_fixed.l0]) ?_
    simp only [if_pos (show (i : Int) < (ps.length : Int) by omega), if_pos (show (0 : Int) ≤ (i : Int) by omega), hrd]
    refine Ev.bind (ih _ hmem) ?_
    rw [fixL]
    cases h : fixT ps[i] with
    | true =>
      simp only [if_true, Bool.true_and, wrap_nat i (by omega)]
      exact ihd (i + 1) (by omega) (by omega)
    | false =>
      simp only [Bool.false_eq_true, if_false, Bool.false_and]
      exact Ev.now false
theorem implFixedT_ev : ∀ t : Tk, (nodT t : Int) ≤ 4000000000 → Ev (fun k => impl_Task_fixed.f k t.f0 t.f1 t.f2) (fixT t) := by
  refine tk_ind fun t ih hb => ?_
  rw [nodT_eq] at hb
  have hl := nodL_len t.f2
  refine Ev.step (fun k => by rw [impl_Task_fixed.f]) ?_
  rw [fixT_eq]
  by_cases h4 : t.f0 = 4
  · simp only [if_pos h4]
    refine Ev.step (fun k => by rw [impl_Task_fixed.j0]) ?_
    simp only [if_true]
    exact Ev.eq (Ev.now false) (by simp [h4])
  · simp only [if_neg h4]
    refine Ev.step (fun k => by rw [impl_Task_fixed.j0]) ?_
    by_cases h5 : t.f0 = 5
    · simp only [h5, show ((5 : Int) == 5) = true by decide, if_true]
      exact Ev.eq (Ev.now false) (by simp)
    · have h5b : (t.f0 == 5) = false := beq_eq_false_iff_ne.mpr h5
      simp only [h5b, Bool.false_eq_true, if_false]
      refine Ev.eq (implFixed_loop t.f2 (by omega) (fun p hp => ih p hp (by have := nodL_mem p hp; omega)) t.f2.length 0 (by omega) (by omega)) ?_
      rw [List.drop_zero]
      simp [h4, h5]
end Go.Proofs.Ytofieekbhbkliaa.G
end
