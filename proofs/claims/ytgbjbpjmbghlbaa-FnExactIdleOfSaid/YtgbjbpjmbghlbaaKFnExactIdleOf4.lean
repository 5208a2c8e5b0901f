-- Written by pack.py (ours): the claim's texts, cut down to what its theorem reaches.
import Derived.Test.YtgbjbpjmbghlbaaKFnExactIdleOf3
section
namespace Go.Proofs.Ytgbjbpjmbghlbaa.G
open Go.RowKit Go.Proofs.YtgbjbpjmbghlbaaW.PrintWords Go.Proofs.YtgbjbpjmbghlbaaW.PrintLast Go.Proofs.YtgbjbpjmbghlbaaW.PrintMore
attribute [local go_sem] max2_int min2_int max_two min_two max_three min_three max_four min_four
set_option linter.unusedVariables false
set_option linter.unusedSimpArgs false
def impl_Task_count.l0 : Nat → Int → List (S30) → Int → Int → Option (Int)
  | 0, _, _, _, _ => none
  | k + 1, x3, x10, x11, x12 => if x12 < x11 then (if 0 ≤ x12 then (if x12 < (x10.length : Int) then (if x3 > 15 then (some x3) else ((impl_Task_countTo.f k ((rd_T30 x10 x12).f0) ((rd_T30 x10 x12).f1) ((rd_T30 x10 x12).f2) (wrap64 (15 - x3))).bind fun t152 => (impl_Task_count.l0 k (wrap64 (x3 + t152)) x10 x11 (wrap64 (x12 + 1))))) else (none)) else (none)) else (some x3)
def impl_Task_count.f (k : Nat) (a0_0 : Int) (a0_1 : Int) (l0_2 : List (S30)) : Option (Int) := (impl_Task_fits.f k a0_0 a0_1 l0_2).bind fun t149 => (if t149 = true then (impl_Task_count.l0 k 1 l0_2 (l0_2.length : Int) 0) else (some 16))
set_option maxHeartbeats 8000000 in
set_option maxRecDepth 100000 in
theorem impl_Task_count.calls (k : Nat) (a0_0 : Int) (a0_1 : Int) (A0_2 : Option Addr) (c0_2 : Nat) (l0_2 : List (S30)) (r : Int) (w : World) (hr0_2 : Kd.C k30 w A0_2 l0_2.length l0_2) (hc0_2 : l0_2.length ≤ c0_2) (h : impl_Task_count.f k a0_0 a0_1 l0_2 = some r) :
    Calls Try.prog 77 #[.agg #[.int .i64 a0_0, .int .i64 a0_1, .slice A0_2 l0_2.length c0_2]] w fun e w' => e = .returned (.int .i64 r) ∧ Below w.heap.size w w' := by
  have hu30 := Try.underlying30
  have HR0_2 := Aside0.mk hr0_2
  have HC0_2 := Aside0.mk hc0_2
  clear hr0_2 hc0_2
  have HB := Aside0.mk (Below.refl w.heap.size w)
  have H : ((impl_Task_fits.f k a0_0 a0_1 l0_2).bind fun t149 => (if t149 = true then (impl_Task_count.l0 k 1 l0_2 (l0_2.length : Int) 0) else (some 16))) = some r := h
  clear h
  replace H := Option.bind_eq_some_iff.mp H
  obtain ⟨t149, A20, H⟩ := H
  replace H : (if t149 = true then (impl_Task_count.l0 k 1 l0_2 (l0_2.length : Int) 0) else (some 16)) = some r := H
  have A2 := Aside0.mk A20
  clear A20
  by_cases c3 : t149 = true
  · subst c3
    have H1 : (impl_Task_count.l0 k 1 l0_2 (l0_2.length : Int) 0) = some r := by rw [if_pos rfl] at H; exact H
    clear H
    have H := H1
    clear H1
    have H' := Aside0.mk H
    clear H
    go_enter Try.func77, Try.ntmps77
    go_wp2_with (first | ((with_reducible refine gate_dst (N := 1) rfl ?_); refine box_event ?hg (N := 1) ?hd (cs := #[.int .i64 a0_0, .int .i64 a0_1, .slice A0_2 l0_2.length c0_2]) (t := 30) ?hr ?_; (case hd => rfl); (case hg => rfl); (case hr => first | (go_simp; done) | (go_simp; rfl)); intro gb148 hg w4 hbox hb; have n0_ := Aside0.mk (below_step (by repeat (first | (with_reducible first | exact HB.out | apply below_alloc | apply pw_below_drewN | apply below_drew1) | exact HB.out)) hb); have n1_ := Aside0.mk (hbox); have n2_ := Aside0.mk ((by rw [hg]; exact (below_size (by repeat (first | (with_reducible first | exact HB.out | apply below_alloc | apply pw_below_drewN | apply below_drew1) | exact HB.out))) : w.heap.size ≤ gb148)); have n3_ := Aside0.mk ((by rw [hg]; exact (below_size (by repeat (first | (with_reducible first | exact HB.out | apply below_alloc | apply pw_below_drewN | apply below_drew1) | exact HB.out))) : w.heap.size ≤ gb148)); clear HB; have HB := n0_; have BK148 := n1_; have GW148 := n2_; have GE148 := n3_; clear n0_ n1_ n2_ n3_; clear hb hbox hg; have hcz5_0 : w4.cell? ⟨gb148, 0, none⟩ = some (.int .i64 a0_0) := (blk_cell BK148.out 0).trans rfl; have hcz5_1 : w4.cell? ⟨gb148, 1, none⟩ = some (.int .i64 a0_1) := (blk_cell BK148.out 1).trans rfl; have hcz5_2 : w4.cell? ⟨gb148, 2, none⟩ = some (.slice A0_2 l0_2.length c0_2) := (blk_cell BK148.out 2).trans rfl; have hfz5_0 := blk_frozen BK148.out 0; have hfz5_1 := blk_frozen BK148.out 1; have hfz5_2 := blk_frozen BK148.out 2) | ((with_reducible refine gate_callee (f := 135) rfl ?_); refine goesL_ (some 7) rfl rfl Try.func135 (by kernel_rfl) rfl #[.agg #[.int .i64 a0_0, .int .i64 a0_1, .slice A0_2 l0_2.length c0_2]] rfl (by (try simp only [List.map_toArray, List.map_cons, List.map_nil]); first | done | rfl | (simp only [List.length_drop, List.length_take]; rfl)) ?_; (with_reducible refine (impl_Task_fits.calls k a0_0 a0_1 _ _ l0_2 true _ ?side1 ?side2 A2.out).mono ?_); (case side1 => repeat (first | exact (Kd.C_below HR0_2.out HB.out) | (with_reducible refine Kd.C_alloc ?_ _) | (with_reducible refine Kd.C_drewN ?_ _) | (with_reducible refine Kd.C_drew ?_))); (case side2 => exact HC0_2.out); rintro e w6 ⟨rfl, hb⟩; refine ⟨_, rfl, ?_⟩; have n0_ := Aside0.mk (blk_below (g := gb148) (o := .cells #[.int .i64 a0_0, .int .i64 a0_1, .slice A0_2 l0_2.length c0_2] 30 (0, 0)) (by (with_reducible repeat (first | refine blk_drewN ?_ _ | refine blk_drew ?_ | refine blk_alloc ?_ _)); exact BK148.out) hb); have n1_ := Aside0.mk (below_step (by repeat (first | (with_reducible first | exact HB.out | apply below_alloc | apply pw_below_drewN | apply below_drew1 | refine below_set ?_ GE148.out) | exact HB.out)) hb); clear BK148; clear HB; have BK148 := n0_; have HB := n1_; clear n0_ n1_; (try clear hb); (try clear hb2); (try clear hk); (try clear hi); have hcz7_0 : w6.cell? ⟨gb148, 0, none⟩ = some (.int .i64 a0_0) := (blk_cell BK148.out 0).trans rfl; have hcz7_1 : w6.cell? ⟨gb148, 1, none⟩ = some (.int .i64 a0_1) := (blk_cell BK148.out 1).trans rfl; have hcz7_2 : w6.cell? ⟨gb148, 2, none⟩ = some (.slice A0_2 l0_2.length c0_2) := (blk_cell BK148.out 2).trans rfl; have hfz7_0 := blk_frozen BK148.out 0; have hfz7_1 := blk_frozen BK148.out 1; have hfz7_2 := blk_frozen BK148.out 2))
    go_loopg [3, 12] k (fun kq v3 v12 w' => ∃ (x3_1 : Int) (x12_1 : Int), v3 = .int .i64 x3_1 ∧ v12 = .int .i64 x12_1 ∧ Aside0 (impl_Task_count.l0 kq x3_1 l0_2 (l0_2.length : Int) x12_1 = some r) ∧ Aside0 (kq ≤ k) ∧ Aside0 (w'.heap[gb148]? = some (.cells #[.int .i64 a0_0, .int .i64 a0_1, (.slice A0_2 l0_2.length c0_2)] 30 (0, 0))) ∧ Aside0 (Below w.heap.size w w'))
    case atStart => exact ⟨(1), (0), (by first | rfl | (simp; done) | (simp [*]; done)), (by first | rfl | (simp; done) | (simp [*]; done)), H', ⟨Nat.le_refl _⟩, ⟨by (with_reducible repeat (first | refine blk_drewN ?_ _ | refine blk_drew ?_ | refine blk_alloc ?_ _)); exact BK148.out⟩, ⟨by repeat (first | (with_reducible first | exact HB.out | apply below_alloc | apply pw_below_drewN | apply below_drew1 | refine below_set ?_ GE148.out) | exact HB.out)⟩⟩
    case round =>
      clear H'
      try clear c1
      try clear p2
      try clear c3
      try clear c7
      try clear hcz5_0
      try clear hcz5_1
      try clear hcz5_2
      try clear hcz7_0
      try clear hcz7_1
      try clear hcz7_2
      try clear hfz5_0
      try clear hfz5_1
      try clear hfz5_2
      try clear hfz7_0
      try clear hfz7_1
      try clear hfz7_2
      obtain ⟨x3_1, x12_1, rfl, rfl, HA, HK1, BK148, HB⟩ := hrel
      cases gk with
      | zero => exact absurd HA.out (by simp [impl_Task_count.l0])
      | succ k1 =>
        have H := HA.out
        clear HA
        simp only [impl_Task_count.l0] at H
        by_cases c8 : x12_1 < (l0_2.length : Int)
        · rw [if_pos c8] at H
          have c8b0 : decide (x12_1 < (l0_2.length : Int)) = true := decide_eq_true c8
          clear c8
          by_cases c9 : 0 ≤ x12_1
          · rw [if_pos c9] at H
            have c9b0 : decide (0 ≤ x12_1) = true := decide_eq_true c9
            clear c9
            by_cases c10 : x12_1 < (l0_2.length : Int)
            · rw [if_pos c10] at H
              have c10b0 : decide (x12_1 < (l0_2.length : Int)) = true := decide_eq_true c10
              clear c10
              by_cases c11 : x3_1 > 15
              · rw [if_pos c11] at H
                have c11b0 : decide (15 < x3_1) = true := decide_eq_true c11
                clear c11
                obtain rfl := Option.some.inj H
                have p150 : 0 ≤ (x12_1 : Int) := of_decide_eq_true (by first | (with_reducible assumption) | assumption)
                have q150 : x12_1 < (l0_2.length : Int) := of_decide_eq_true (by first | (with_reducible assumption) | assumption)
                obtain ⟨ad150, A150_2, c150_2, e150, hx150_0, hx150_1, hx150_2, hl150_2, hi150_2⟩ := at_T30 HR0_2.out x12_1 p150 q150
                cases e150
                replace hx150_0 := (HB.out.cell (World.block_lt_of_cell? w _ hx150_0)).trans hx150_0
                replace hx150_1 := (HB.out.cell (World.block_lt_of_cell? w _ hx150_1)).trans hx150_1
                replace hx150_2 := (HB.out.cell (World.block_lt_of_cell? w _ hx150_2)).trans hx150_2
                have HR150_2 := Aside0.mk hi150_2
                have HC150_2 := Aside0.mk hl150_2
                clear hi150_2 hl150_2
                replace p150 := eq_true p150
                replace q150 := eq_true q150
                go_wp2_with (first | ((with_reducible refine gate_dst (N := 5) rfl ?_); refine box_event ?hg (N := 5) ?hd (cs := #[.int .i64 0, .int .i64 0, .slice none 0 0]) (t := 30) ?hr ?_; (case hd => rfl); (case hg => rfl); (case hr => first | (go_simp; done) | (go_simp; rfl)); intro gb151 hg w12 hbox hb; have n0_ := Aside0.mk (blk_below (g := gb148) (o := .cells #[.int .i64 a0_0, .int .i64 a0_1, .slice (some ad150) l0_2.length c0_2] 30 (0, 0)) (by (with_reducible repeat (first | refine blk_drewN ?_ _ | refine blk_drew ?_ | refine blk_alloc ?_ _)); exact BK148.out) hb); have n1_ := Aside0.mk (below_step (by repeat (first | (with_reducible first | exact HB.out | apply below_alloc | apply pw_below_drewN | apply below_drew1 | refine below_set ?_ GE148.out) | exact HB.out)) hb); have n2_ := Aside0.mk (hbox); have n3_ := Aside0.mk ((by rw [hg]; exact (below_size (by repeat (first | (with_reducible first | exact HB.out | apply below_alloc | apply pw_below_drewN | apply below_drew1 | refine below_set ?_ GE148.out) | exact HB.out))) : w.heap.size ≤ gb151)); have n4_ := Aside0.mk ((by rw [hg]; exact (below_size (by repeat (first | (with_reducible first | exact HB.out | apply below_alloc | apply pw_below_drewN | apply below_drew1 | refine below_set ?_ GE148.out) | exact HB.out))) : w.heap.size ≤ gb151)); have n5_ := Aside0.mk ((by rw [hg]; exact Nat.ne_of_lt (blk_lt (g := gb148) (o := .cells #[.int .i64 a0_0, .int .i64 a0_1, .slice (some ad150) l0_2.length c0_2] 30 (0, 0)) (by (with_reducible repeat (first | refine blk_drewN ?_ _ | refine blk_drew ?_ | refine blk_alloc ?_ _)); exact BK148.out)) : gb148 ≠ gb151)); have n6_ := Aside0.mk ((by rw [hg]; exact Nat.ne_of_gt (blk_lt (g := gb148) (o := .cells #[.int .i64 a0_0, .int .i64 a0_1, .slice (some ad150) l0_2.length c0_2] 30 (0, 0)) (by (with_reducible repeat (first | refine blk_drewN ?_ _ | refine blk_drew ?_ | refine blk_alloc ?_ _)); exact BK148.out)) : gb151 ≠ gb148)); clear BK148; clear HB; have BK148 := n0_; have HB := n1_; have BK151 := n2_; have GW151 := n3_; have GE151 := n4_; have NB148_151 := n5_; have NB151_148 := n6_; clear n0_ n1_ n2_ n3_ n4_ n5_ n6_; clear hb hbox hg; have hnb13 := NB151_148.out; have hnc13 := NB148_151.out; have hcz14_0 : w12.cell? ⟨gb151, 0, none⟩ = some (.int .i64 0) := (blk_cell BK151.out 0).trans rfl; have hcz14_1 : w12.cell? ⟨gb151, 1, none⟩ = some (.int .i64 0) := (blk_cell BK151.out 1).trans rfl; have hcz14_2 : w12.cell? ⟨gb151, 2, none⟩ = some (.slice none 0 0) := (blk_cell BK151.out 2).trans rfl; have hfz14_0 := blk_frozen BK151.out 0; have hfz14_1 := blk_frozen BK151.out 1; have hfz14_2 := blk_frozen BK151.out 2))
                go_ret
                exact ⟨by first | rfl | (simp [errW_none, errW_some] <;> rfl) | (simp [*, errW_none, errW_some] <;> rfl), by repeat (first | (with_reducible first | exact HB.out | apply below_alloc | apply pw_below_drewN | apply below_drew1 | refine below_set ?_ GE148.out | refine below_set ?_ GE151.out) | exact HB.out)⟩
              · rw [if_neg c11] at H
                have c11b0 : decide (15 < x3_1) = false := decide_eq_false c11
                clear c11
                replace H := Option.bind_eq_some_iff.mp H
                obtain ⟨t152, A150, H⟩ := H
                replace H : (impl_Task_count.l0 k1 (wrap64 (x3_1 + t152)) l0_2 (l0_2.length : Int) (wrap64 (x12_1 + 1))) = some r := H
                have A15 := Aside0.mk A150
                clear A150
                have H' := Aside0.mk H
                clear H
                have p150 : 0 ≤ (x12_1 : Int) := of_decide_eq_true (by first | (with_reducible assumption) | assumption)
                have q150 : x12_1 < (l0_2.length : Int) := of_decide_eq_true (by first | (with_reducible assumption) | assumption)
                obtain ⟨ad150, A150_2, c150_2, e150, hx150_0, hx150_1, hx150_2, hl150_2, hi150_2⟩ := at_T30 HR0_2.out x12_1 p150 q150
                cases e150
                replace hx150_0 := (HB.out.cell (World.block_lt_of_cell? w _ hx150_0)).trans hx150_0
                replace hx150_1 := (HB.out.cell (World.block_lt_of_cell? w _ hx150_1)).trans hx150_1
                replace hx150_2 := (HB.out.cell (World.block_lt_of_cell? w _ hx150_2)).trans hx150_2
                have HR150_2 := Aside0.mk hi150_2
                have HC150_2 := Aside0.mk hl150_2
                clear hi150_2 hl150_2
                replace p150 := eq_true p150
                replace q150 := eq_true q150
                go_wp2_with (first | ((with_reducible refine gate_dst (N := 5) rfl ?_); refine box_event ?hg (N := 5) ?hd (cs := #[.int .i64 0, .int .i64 0, .slice none 0 0]) (t := 30) ?hr ?_; (case hd => rfl); (case hg => rfl); (case hr => first | (go_simp; done) | (go_simp; rfl)); intro gb151 hg w16 hbox hb; have n0_ := Aside0.mk (blk_below (g := gb148) (o := .cells #[.int .i64 a0_0, .int .i64 a0_1, .slice (some ad150) l0_2.length c0_2] 30 (0, 0)) (by (with_reducible repeat (first | refine blk_drewN ?_ _ | refine blk_drew ?_ | refine blk_alloc ?_ _)); exact BK148.out) hb); have n1_ := Aside0.mk (below_step (by repeat (first | (with_reducible first | exact HB.out | apply below_alloc | apply pw_below_drewN | apply below_drew1 | refine below_set ?_ GE148.out) | exact HB.out)) hb); have n2_ := Aside0.mk (hbox); have n3_ := Aside0.mk ((by rw [hg]; exact (below_size (by repeat (first | (with_reducible first | exact HB.out | apply below_alloc | apply pw_below_drewN | apply below_drew1 | refine below_set ?_ GE148.out) | exact HB.out))) : w.heap.size ≤ gb151)); have n4_ := Aside0.mk ((by rw [hg]; exact (below_size (by repeat (first | (with_reducible first | exact HB.out | apply below_alloc | apply pw_below_drewN | apply below_drew1 | refine below_set ?_ GE148.out) | exact HB.out))) : w.heap.size ≤ gb151)); have n5_ := Aside0.mk ((by rw [hg]; exact Nat.ne_of_lt (blk_lt (g := gb148) (o := .cells #[.int .i64 a0_0, .int .i64 a0_1, .slice (some ad150) l0_2.length c0_2] 30 (0, 0)) (by (with_reducible repeat (first | refine blk_drewN ?_ _ | refine blk_drew ?_ | refine blk_alloc ?_ _)); exact BK148.out)) : gb148 ≠ gb151)); have n6_ := Aside0.mk ((by rw [hg]; exact Nat.ne_of_gt (blk_lt (g := gb148) (o := .cells #[.int .i64 a0_0, .int .i64 a0_1, .slice (some ad150) l0_2.length c0_2] 30 (0, 0)) (by (with_reducible repeat (first | refine blk_drewN ?_ _ | refine blk_drew ?_ | refine blk_alloc ?_ _)); exact BK148.out)) : gb151 ≠ gb148)); clear BK148; clear HB; have BK148 := n0_; have HB := n1_; have BK151 := n2_; have GW151 := n3_; have GE151 := n4_; have NB148_151 := n5_; have NB151_148 := n6_; clear n0_ n1_ n2_ n3_ n4_ n5_ n6_; clear hb hbox hg; have hnb17 := NB151_148.out; have hnc17 := NB148_151.out; have hcz18_0 : w16.cell? ⟨gb151, 0, none⟩ = some (.int .i64 0) := (blk_cell BK151.out 0).trans rfl; have hcz18_1 : w16.cell? ⟨gb151, 1, none⟩ = some (.int .i64 0) := (blk_cell BK151.out 1).trans rfl; have hcz18_2 : w16.cell? ⟨gb151, 2, none⟩ = some (.slice none 0 0) := (blk_cell BK151.out 2).trans rfl; have hfz18_0 := blk_frozen BK151.out 0; have hfz18_1 := blk_frozen BK151.out 1; have hfz18_2 := blk_frozen BK151.out 2) | ((with_reducible refine gate_callee (f := 136) rfl ?_); refine goesL_ (some 23) rfl rfl Try.func136 (by kernel_rfl) rfl #[.agg #[.int .i64 ((rd_T30 l0_2 x12_1).f0), .int .i64 ((rd_T30 l0_2 x12_1).f1), .slice A150_2 ((rd_T30 l0_2 x12_1).f2).length c150_2], .int .i64 (wrap64 (15 - x3_1))] rfl (by (try simp only [List.map_toArray, List.map_cons, List.map_nil]); first | done | rfl | (simp only [List.length_drop, List.length_take]; rfl)) ?_; (with_reducible refine (impl_Task_countTo.calls k1 ((rd_T30 l0_2 x12_1).f0) ((rd_T30 l0_2 x12_1).f1) _ _ ((rd_T30 l0_2 x12_1).f2) (wrap64 (15 - x3_1)) t152 _ ?side1 ?side2 A15.out).mono ?_); (case side1 => exact Kd.C_below HR150_2.out (by repeat (first | (with_reducible first | exact HB.out | apply below_alloc | apply pw_below_drewN | apply below_drew1 | refine below_set ?_ GE148.out | refine below_set ?_ GE151.out) | exact HB.out))); (case side2 => exact HC150_2.out); rintro e w19 ⟨rfl, hb⟩; refine ⟨_, rfl, ?_⟩; have n0_ := Aside0.mk (blk_below (g := gb148) (o := .cells #[.int .i64 a0_0, .int .i64 a0_1, .slice (some ad150) l0_2.length c0_2] 30 (0, 0)) (by (with_reducible repeat (first | refine blk_drewN ?_ _ | refine blk_drew ?_ | refine blk_alloc ?_ _)); refine blk_far ?_ NB148_151.out _; (with_reducible repeat (first | refine blk_drewN ?_ _ | refine blk_drew ?_ | refine blk_alloc ?_ _)); refine blk_far ?_ NB148_151.out _; (with_reducible repeat (first | refine blk_drewN ?_ _ | refine blk_drew ?_ | refine blk_alloc ?_ _)); refine blk_far ?_ NB148_151.out _; (with_reducible repeat (first | refine blk_drewN ?_ _ | refine blk_drew ?_ | refine blk_alloc ?_ _)); exact BK148.out) hb); have n1_ := Aside0.mk (blk_below (g := gb151) (o := .cells #[.int .i64 ((rd_T30 l0_2 x12_1).f0), .int .i64 ((rd_T30 l0_2 x12_1).f1), .slice A150_2 ((rd_T30 l0_2 x12_1).f2).length c150_2] 30 (0, 0)) (by (with_reducible repeat (first | refine blk_drewN ?_ _ | refine blk_drew ?_ | refine blk_alloc ?_ _)); refine blk_put (cs := #[.int .i64 ((rd_T30 l0_2 x12_1).f0), .int .i64 ((rd_T30 l0_2 x12_1).f1), .slice none 0 0]) ?_ 2 _ rfl; (with_reducible repeat (first | refine blk_drewN ?_ _ | refine blk_drew ?_ | refine blk_alloc ?_ _)); refine blk_put (cs := #[.int .i64 ((rd_T30 l0_2 x12_1).f0), .int .i64 0, .slice none 0 0]) ?_ 1 _ rfl; (with_reducible repeat (first | refine blk_drewN ?_ _ | refine blk_drew ?_ | refine blk_alloc ?_ _)); refine blk_put (cs := #[.int .i64 0, .int .i64 0, .slice none 0 0]) ?_ 0 _ rfl; (with_reducible repeat (first | refine blk_drewN ?_ _ | refine blk_drew ?_ | refine blk_alloc ?_ _)); exact BK151.out) hb); have n2_ := Aside0.mk (below_step (by repeat (first | (with_reducible first | exact HB.out | apply below_alloc | apply pw_below_drewN | apply below_drew1 | refine below_set ?_ GE148.out | refine below_set ?_ GE151.out) | exact HB.out)) hb); clear BK148; clear BK151; clear HB; have BK148 := n0_; have BK151 := n1_; have HB := n2_; clear n0_ n1_ n2_; (try clear hb); (try clear hb2); (try clear hk); (try clear hi)))
                go_roundg k1
                case measure => have := HK1.out; omega
                case rel => exact ⟨(wrap64 (x3_1 + t152)), (wrap64 (x12_1 + 1)), (by first | rfl | (simp; done) | (simp [*]; done)), (by first | rfl | (simp; done) | (simp [*]; done)), H', ⟨by have := HK1.out; omega⟩, ⟨by (with_reducible repeat (first | refine blk_drewN ?_ _ | refine blk_drew ?_ | refine blk_alloc ?_ _)); exact BK148.out⟩, ⟨by repeat (first | (with_reducible first | exact HB.out | apply below_alloc | apply pw_below_drewN | apply below_drew1 | refine below_set ?_ GE148.out | refine below_set ?_ GE151.out) | exact HB.out)⟩⟩
            · rw [if_neg c10] at H
              exact absurd H (by simp)
          · rw [if_neg c9] at H
            exact absurd H (by simp)
        · rw [if_neg c8] at H
          have c8b0 : decide (x12_1 < (l0_2.length : Int)) = false := decide_eq_false c8
          clear c8
          obtain rfl := Option.some.inj H
          go_wp2
          go_ret
          exact ⟨by first | rfl | (simp [errW_none, errW_some] <;> rfl) | (simp [*, errW_none, errW_some] <;> rfl), by repeat (first | (with_reducible first | exact HB.out | apply below_alloc | apply pw_below_drewN | apply below_drew1 | refine below_set ?_ GE148.out) | exact HB.out)⟩
  · replace c3 := Bool.eq_false_iff.mpr c3
    subst c3
    have H1 : (some 16) = some r := by rw [if_neg (show ¬ (false = true) by decide)] at H; exact H
    clear H
    have H := H1
    clear H1
    obtain rfl := Option.some.inj H
    go_enter Try.func77, Try.ntmps77
    go_wp2_with (first | ((with_reducible refine gate_dst (N := 1) rfl ?_); refine box_event ?hg (N := 1) ?hd (cs := #[.int .i64 a0_0, .int .i64 a0_1, .slice A0_2 l0_2.length c0_2]) (t := 30) ?hr ?_; (case hd => rfl); (case hg => rfl); (case hr => first | (go_simp; done) | (go_simp; rfl)); intro gb148 hg w20 hbox hb; have n0_ := Aside0.mk (below_step (by repeat (first | (with_reducible first | exact HB.out | apply below_alloc | apply pw_below_drewN | apply below_drew1) | exact HB.out)) hb); have n1_ := Aside0.mk (hbox); have n2_ := Aside0.mk ((by rw [hg]; exact (below_size (by repeat (first | (with_reducible first | exact HB.out | apply below_alloc | apply pw_below_drewN | apply below_drew1) | exact HB.out))) : w.heap.size ≤ gb148)); have n3_ := Aside0.mk ((by rw [hg]; exact (below_size (by repeat (first | (with_reducible first | exact HB.out | apply below_alloc | apply pw_below_drewN | apply below_drew1) | exact HB.out))) : w.heap.size ≤ gb148)); clear HB; have HB := n0_; have BK148 := n1_; have GW148 := n2_; have GE148 := n3_; clear n0_ n1_ n2_ n3_; clear hb hbox hg; have hcz21_0 : w20.cell? ⟨gb148, 0, none⟩ = some (.int .i64 a0_0) := (blk_cell BK148.out 0).trans rfl; have hcz21_1 : w20.cell? ⟨gb148, 1, none⟩ = some (.int .i64 a0_1) := (blk_cell BK148.out 1).trans rfl; have hcz21_2 : w20.cell? ⟨gb148, 2, none⟩ = some (.slice A0_2 l0_2.length c0_2) := (blk_cell BK148.out 2).trans rfl; have hfz21_0 := blk_frozen BK148.out 0; have hfz21_1 := blk_frozen BK148.out 1; have hfz21_2 := blk_frozen BK148.out 2) | ((with_reducible refine gate_callee (f := 135) rfl ?_); refine goesL_ (some 7) rfl rfl Try.func135 (by kernel_rfl) rfl #[.agg #[.int .i64 a0_0, .int .i64 a0_1, .slice A0_2 l0_2.length c0_2]] rfl (by (try simp only [List.map_toArray, List.map_cons, List.map_nil]); first | done | rfl | (simp only [List.length_drop, List.length_take]; rfl)) ?_; (with_reducible refine (impl_Task_fits.calls k a0_0 a0_1 _ _ l0_2 false _ ?side1 ?side2 A2.out).mono ?_); (case side1 => repeat (first | exact (Kd.C_below HR0_2.out HB.out) | (with_reducible refine Kd.C_alloc ?_ _) | (with_reducible refine Kd.C_drewN ?_ _) | (with_reducible refine Kd.C_drew ?_))); (case side2 => exact HC0_2.out); rintro e w22 ⟨rfl, hb⟩; refine ⟨_, rfl, ?_⟩; have n0_ := Aside0.mk (blk_below (g := gb148) (o := .cells #[.int .i64 a0_0, .int .i64 a0_1, .slice A0_2 l0_2.length c0_2] 30 (0, 0)) (by (with_reducible repeat (first | refine blk_drewN ?_ _ | refine blk_drew ?_ | refine blk_alloc ?_ _)); exact BK148.out) hb); have n1_ := Aside0.mk (below_step (by repeat (first | (with_reducible first | exact HB.out | apply below_alloc | apply pw_below_drewN | apply below_drew1 | refine below_set ?_ GE148.out) | exact HB.out)) hb); clear BK148; clear HB; have BK148 := n0_; have HB := n1_; clear n0_ n1_; (try clear hb); (try clear hb2); (try clear hk); (try clear hi)))
    go_ret
    exact ⟨by first | rfl | (simp [errW_none, errW_some] <;> rfl) | (simp [*, errW_none, errW_some] <;> rfl), by repeat (first | (with_reducible first | exact HB.out | apply below_alloc | apply pw_below_drewN | apply below_drew1 | refine below_set ?_ GE148.out) | exact HB.out)⟩
def impl_TaskOk.f (k : Nat) (a0_0 : Int) (a0_1 : Int) (l0_2 : List (S30)) : Option (Bool) := (impl_Task_count.f k a0_0 a0_1 l0_2).bind fun t154 => (some (decide (t154 ≤ 15)))
set_option maxHeartbeats 8000000 in
set_option maxRecDepth 100000 in
theorem impl_TaskOk.calls (k : Nat) (a0_0 : Int) (a0_1 : Int) (A0_2 : Option Addr) (c0_2 : Nat) (l0_2 : List (S30)) (r : Bool) (w : World) (hr0_2 : Kd.C k30 w A0_2 l0_2.length l0_2) (hc0_2 : l0_2.length ≤ c0_2) (h : impl_TaskOk.f k a0_0 a0_1 l0_2 = some r) :
    Calls Try.prog 26 #[.agg #[.int .i64 a0_0, .int .i64 a0_1, .slice A0_2 l0_2.length c0_2]] w fun e w' => e = .returned (.bool r) ∧ Below w.heap.size w w' := by
  have hu30 := Try.underlying30
  have HR0_2 := Aside0.mk hr0_2
  have HC0_2 := Aside0.mk hc0_2
  clear hr0_2 hc0_2
  have HB := Aside0.mk (Below.refl w.heap.size w)
  have H : ((impl_Task_count.f k a0_0 a0_1 l0_2).bind fun t154 => (some (decide (t154 ≤ 15)))) = some r := h
  clear h
  replace H := Option.bind_eq_some_iff.mp H
  obtain ⟨t154, A20, H⟩ := H
  replace H : (some (decide (t154 ≤ 15))) = some r := H
  have A2 := Aside0.mk A20
  clear A20
  obtain rfl := Option.some.inj H
  go_enter Try.func26, Try.ntmps26
  go_wp2_with (first | ((with_reducible refine gate_dst (N := 1) rfl ?_); refine box_event ?hg (N := 1) ?hd (cs := #[.int .i64 a0_0, .int .i64 a0_1, .slice A0_2 l0_2.length c0_2]) (t := 30) ?hr ?_; (case hd => rfl); (case hg => rfl); (case hr => first | (go_simp; done) | (go_simp; rfl)); intro gb153 hg w3 hbox hb; have n0_ := Aside0.mk (below_step (by repeat (first | (with_reducible first | exact HB.out | apply below_alloc | apply pw_below_drewN | apply below_drew1) | exact HB.out)) hb); have n1_ := Aside0.mk (hbox); have n2_ := Aside0.mk ((by rw [hg]; exact (below_size (by repeat (first | (with_reducible first | exact HB.out | apply below_alloc | apply pw_below_drewN | apply below_drew1) | exact HB.out))) : w.heap.size ≤ gb153)); have n3_ := Aside0.mk ((by rw [hg]; exact (below_size (by repeat (first | (with_reducible first | exact HB.out | apply below_alloc | apply pw_below_drewN | apply below_drew1) | exact HB.out))) : w.heap.size ≤ gb153)); clear HB; have HB := n0_; have BK153 := n1_; have GW153 := n2_; have GE153 := n3_; clear n0_ n1_ n2_ n3_; clear hb hbox hg; have hcz4_0 : w3.cell? ⟨gb153, 0, none⟩ = some (.int .i64 a0_0) := (blk_cell BK153.out 0).trans rfl; have hcz4_1 : w3.cell? ⟨gb153, 1, none⟩ = some (.int .i64 a0_1) := (blk_cell BK153.out 1).trans rfl; have hcz4_2 : w3.cell? ⟨gb153, 2, none⟩ = some (.slice A0_2 l0_2.length c0_2) := (blk_cell BK153.out 2).trans rfl; have hfz4_0 := blk_frozen BK153.out 0; have hfz4_1 := blk_frozen BK153.out 1; have hfz4_2 := blk_frozen BK153.out 2) | ((with_reducible refine gate_callee (f := 77) rfl ?_); refine goesL_ (some 4) rfl rfl Try.func77 (by kernel_rfl) rfl #[.agg #[.int .i64 a0_0, .int .i64 a0_1, .slice A0_2 l0_2.length c0_2]] rfl (by (try simp only [List.map_toArray, List.map_cons, List.map_nil]); first | done | rfl | (simp only [List.length_drop, List.length_take]; rfl)) ?_; (with_reducible refine (impl_Task_count.calls k a0_0 a0_1 _ _ l0_2 t154 _ ?side1 ?side2 A2.out).mono ?_); (case side1 => repeat (first | exact (Kd.C_below HR0_2.out HB.out) | (with_reducible refine Kd.C_alloc ?_ _) | (with_reducible refine Kd.C_drewN ?_ _) | (with_reducible refine Kd.C_drew ?_))); (case side2 => exact HC0_2.out); rintro e w5 ⟨rfl, hb⟩; refine ⟨_, rfl, ?_⟩; have n0_ := Aside0.mk (blk_below (g := gb153) (o := .cells #[.int .i64 a0_0, .int .i64 a0_1, .slice A0_2 l0_2.length c0_2] 30 (0, 0)) (by (with_reducible repeat (first | refine blk_drewN ?_ _ | refine blk_drew ?_ | refine blk_alloc ?_ _)); exact BK153.out) hb); have n1_ := Aside0.mk (below_step (by repeat (first | (with_reducible first | exact HB.out | apply below_alloc | apply pw_below_drewN | apply below_drew1 | refine below_set ?_ GE153.out) | exact HB.out)) hb); clear BK153; clear HB; have BK153 := n0_; have HB := n1_; clear n0_ n1_; (try clear hb); (try clear hb2); (try clear hk); (try clear hi)))
  go_ret
  exact ⟨by first | rfl | (simp [errW_none, errW_some] <;> rfl) | (simp [*, errW_none, errW_some] <;> rfl), by repeat (first | (with_reducible first | exact HB.out | apply below_alloc | apply pw_below_drewN | apply below_drew1 | refine below_set ?_ GE153.out) | exact HB.out)⟩
end Go.Proofs.Ytgbjbpjmbghlbaa.G
end
section
namespace Go.Proofs.Ytgbjbpjmbghlbaa.G
open Go.RowKit Go.Proofs.YtgbjbpjmbghlbaaW.PrintWords
set_option linter.unusedVariables false
set_option linter.unusedSimpArgs false
abbrev Tk := S30
theorem tk_size (t p : Tk) (hp : p ∈ t.f2) : SizeOf.sizeOf p < SizeOf.sizeOf t := by
  have h := List.sizeOf_lt_of_mem hp
  cases t with
  | mk a b c => simp only [S30.mk.sizeOf_spec] at *; omega
theorem tk_ind {P : Tk → Prop} (h : ∀ t : Tk, (∀ p ∈ t.f2, P p) → P t) : ∀ t, P t := by
  intro t
  induction hn : SizeOf.sizeOf t using Nat.strongRecOn generalizing t with
  | _ n ih => exact h t (fun p hp => ih (SizeOf.sizeOf p) (by rw [← hn]; exact tk_size t p hp) p rfl)
def shapeB (k n : Int) (len : Nat) : Bool :=
  if k = 0 then decide (0 ≤ n ∧ n ≤ 96) && decide (len = 0)
  else if k = 1 then decide (0 ≤ n ∧ n < 10) && decide (len = 0)
  else if k = 2 then decide (n = 0) && decide (len = 2)
  else if k = 3 then decide (n = 0) && decide (len = 2)
  else if k = 4 then decide (n = 0) && decide (len = 3)
  else if k = 5 then decide (0 ≤ n ∧ n < 10) && decide (len = 1)
  else false
mutual
def fitT : Tk → Bool
  | ⟨k, n, ps⟩ => shapeB k n ps.length && fitL ps
def fitL : List Tk → Bool
  | [] => true
  | p :: ps => fitT p && fitL ps
end
mutual
def nodT : Tk → Nat
  | ⟨_, _, ps⟩ => 1 + nodL ps
def nodL : List Tk → Nat
  | [] => 0
  | p :: ps => nodT p + nodL ps
end
def okT (t : Tk) : Bool := fitT t && decide (nodT t ≤ 15)
theorem fitT_eq (t : Tk) : fitT t = (shapeB t.f0 t.f1 t.f2.length && fitL t.f2) := by cases t; simp [fitT]
theorem nodT_eq (t : Tk) : nodT t = 1 + nodL t.f2 := by cases t; simp [nodT]
theorem nodT_pos (t : Tk) : 1 ≤ nodT t := by rw [nodT_eq]; omega
theorem fitL_mem {ps : List Tk} (h : fitL ps = true) : ∀ p ∈ ps, fitT p = true := by
  induction ps with
  | nil => intro p hp; cases hp
  | cons q ps ih =>
    simp only [fitL, Bool.and_eq_true] at h
    intro p hp
    rcases List.mem_cons.1 hp with rfl | hp
    · exact h.1
    · exact ih h.2 p hp
theorem nodL_mem {ps : List Tk} : ∀ p ∈ ps, nodT p ≤ nodL ps := by
  induction ps with
  | nil => intro p hp; cases hp
  | cons q ps ih =>
    intro p hp
    simp only [nodL]
    rcases List.mem_cons.1 hp with rfl | hp
    · omega
    · have := ih p hp; omega
theorem nodL_len (ps : List Tk) : ps.length ≤ nodL ps := by
  induction ps with
  | nil => simp
  | cons q ps ih => simp only [nodL, List.length_cons]; have := nodT_pos q; omega
theorem shapeB_len {k n : Int} {len : Nat} (h : shapeB k n len = true) : len ≤ 3 := by
  unfold shapeB at h
  repeat' split at h
  all_goals first | (simp at h; done) | (simp only [Bool.and_eq_true, decide_eq_true_eq] at h; omega)
theorem okT_fit {t : Tk} (h : okT t = true) : fitT t = true := by simp only [okT, Bool.and_eq_true] at h; exact h.1
theorem okT_nod {t : Tk} (h : okT t = true) : nodT t ≤ 15 := by simp only [okT, Bool.and_eq_true, decide_eq_true_eq] at h; exact h.2
theorem rd_tk (ps : List Tk) (i : Nat) (h : i < ps.length) : rd_T30 ps (i : Int) = ps[i] := by
  simp only [rd_T30, Int.toNat_natCast, List.getD_eq_getElem?_getD, List.getElem?_eq_getElem h, Option.getD_some]
theorem drop_tk {α : Type} (ps : List α) (i : Nat) (h : i < ps.length) : ps.drop i = ps[i] :: ps.drop (i + 1) := List.drop_eq_getElem_cons h
theorem wrap_nat (i : Nat) (h : i + 1 ≤ 9223372036854775807) : wrap64 ((i : Int) + 1) = ((i + 1 : Nat) : Int) := by unfold wrap64; omega
theorem wrap_id (x : Int) (h1 : -9223372036854775808 ≤ x) (h2 : x ≤ 9223372036854775807) : wrap64 x = x := by unfold wrap64; omega
end Go.Proofs.Ytgbjbpjmbghlbaa.G
end
section
namespace Go.Proofs.Ytgbjbpjmbghlbaa.G
open Go.RowKit Go.Proofs.YtgbjbpjmbghlbaaW.PrintWords Go.Proofs.YtgbjbpjmbghlbaaW.PrintLast Go.Proofs.YtgbjbpjmbghlbaaW.PrintMore
set_option linter.unusedVariables false
set_option linter.unusedSimpArgs false
def mark1 (k n : Int) (bs : List Bool) : List Bool := if k = 1 then bs.set n.toNat true else if k = 5 then List.replicate 10 true else bs
mutual
def mayT : Tk → List Bool → List Bool
  | ⟨k, n, ps⟩, bs => mayL ps (mark1 k n bs)
def mayL : List Tk → List Bool → List Bool
  | [], bs => bs
  | p :: ps, bs => mayL ps (mayT p bs)
end
theorem mayT_eq (t : Tk) (bs : List Bool) : mayT t bs = mayL t.f2 (mark1 t.f0 t.f1 bs) := by cases t; simp [mayT]
theorem mayL_foldl (ps : List Tk) (bs : List Bool) : mayL ps bs = ps.foldl (fun b p => mayT p b) bs := by
  induction ps generalizing bs with
  | nil => simp [mayL]
  | cons p ps ih => simp [mayL, ih]
theorem mark1_len {k n : Int} {bs : List Bool} (h : bs.length = 10) : (mark1 k n bs).length = 10 := by
  unfold mark1
  split
  · rw [List.length_set]; exact h
  · split
    · simp
    · exact h
theorem mayT_len : ∀ t : Tk, ∀ bs : List Bool, bs.length = 10 → (mayT t bs).length = 10 := by
  refine tk_ind fun t ih bs hb => ?_
  rw [mayT_eq, mayL_foldl]
  have key : ∀ (ps : List Tk) (b : List Bool), (∀ p ∈ ps, p ∈ t.f2) → b.length = 10 → (ps.foldl (fun b p => mayT p b) b).length = 10 := by
    intro ps
    induction ps with
    | nil => intro b _ h; exact h
    | cons p ps ihp => intro b hm h; exact ihp _ (fun q hq => hm q (by simp [hq])) (ih p (hm p (by simp)) b h)
  exact key t.f2 _ (fun _ h => h) (mark1_len hb)
theorem mayL_take (ps : List Tk) (bs : List Bool) (i : Nat) (h : i < ps.length) : mayL (ps.take (i + 1)) bs = mayT ps[i] (mayL (ps.take i) bs) := by
  rw [mayL_foldl, mayL_foldl, List.take_succ_eq_append_getElem h, List.foldl_append]
  rfl
def arr10 (bs : List Bool) : Array Value := (bs.map Value.bool).toArray
theorem arr10_at {bs : List Bool} {i : Nat} (h : i < bs.length) : (arr10 bs)[i]? = some (.bool bs[i]) := by
  simp [arr10, h]
theorem arr10_set (bs : List Bool) (i : Nat) (b : Bool) : (arr10 bs).setIfInBounds i (.bool b) = arr10 (bs.set i b) := by
  simp [arr10, List.map_set]
theorem fill_step (bs : List Bool) (hb : bs.length = 10) (i : Nat) (h : i < 10) : (List.replicate i true ++ bs.drop i).set i true = List.replicate (i + 1) true ++ bs.drop (i + 1) := by
  rw [List.set_append_right _ _ (by simp), List.length_replicate, Nat.sub_self, List.drop_eq_getElem_cons (by omega), List.set_cons_zero, List.replicate_succ']
  simp
set_option maxHeartbeats 8000000 in
set_option maxRecDepth 100000 in
theorem may_w : ∀ (t : Tk) (A : Option Addr) (c : Nat) (g : Nat) (bs : List Bool) (w0 w : World) (_ : fitT t = true) (_ : bs.length = 10) (_ : Kd.C k30 w0 A t.f2.length t.f2) (_ : t.f2.length ≤ c) (_ : w0.heap.size ≤ g) (_ : Below w0.heap.size w0 w) (_ : w.heap[g]? = some (.cells (arr10 bs) 103 (0, 0))),
    Calls Try.prog 72 #[.agg #[.int .i64 t.f0, .int .i64 t.f1, .slice A t.f2.length c], .pointer (some ⟨g, 0, none⟩)] w fun e w' => e = .returned (.tuple #[]) ∧ w'.heap[g]? = some (.cells (arr10 (mayT t bs)) 103 (0, 0)) ∧ Below w0.heap.size w0 w' := by
  refine tk_ind fun t ih A c g bs w0 w hf hb hr hc hg hB hbs => ?_
  have hu1 := Try.underlying30
  have hu2 := Try.underlying103
  rw [fitT_eq, Bool.and_eq_true] at hf
  rw [mayT_eq]
  obtain ⟨k, n, ps⟩ := t
  simp only at ih hf hr hc ⊢
  have HI := Aside0.mk ih
  have HF := Aside0.mk hf
  have HLB := Aside0.mk hb
  have HR := Aside0.mk hr
  have HC := Aside0.mk hc
  have HG := Aside0.mk hg
  have HB := Aside0.mk (hB.alloc hB.size (.cells #[.int .i64 k, .int .i64 n, .slice A ps.length c] 30))
  have HS := Aside0.mk (blk_alloc hbs (.cells #[.int .i64 k, .int .i64 n, .slice A ps.length c] 30))
  have HX := Aside0.mk (heap_alloc_new w (.cells #[.int .i64 k, .int .i64 n, .slice A ps.length c] 30))
  have HWG := Aside0.mk (show w.heap.size ≠ g from fun e => by have := blk_lt hbs; omega)
  have hml := mark1_len (k := k) (n := n) hb
  obtain ⟨bs1, hbs1⟩ : ∃ x, x = mark1 k n bs := ⟨_, rfl⟩
  rw [← hbs1] at hml ⊢
  have HM1 := Aside0.mk hbs1
  have HML := Aside0.mk hml
  clear ih hf hb hr hc hg hB hbs hml hbs1
  go_enter Try.func72, Try.ntmps72
  go_upto_block 0 with fail
  go_cut [] (fun wc => Aside0 (wc.heap[g]? = some (.cells (arr10 bs1) 103 (0, 0))) ∧ Aside0 (Below w0.heap.size w0 wc) ∧ Aside0 (wc.heap[w.heap.size]? = some (.cells #[.int .i64 k, .int .i64 n, .slice A ps.length c] 30 (0, 0))))
  case first =>
    by_cases h1 : k = 1
    · subst h1
      have hn : 0 ≤ n ∧ n < 10 := by
        have h2 := HF.out.1
        simp only [shapeB] at h2
        simp at h2
        exact h2.1
      have HN := Aside0.mk hn
      have hp : (0 ≤ n) = True := eq_true hn.1
      have hq : (n < 10) = True := eq_true hn.2
      have hnl : n.toNat < bs.length := by have := HLB.out; omega
      have hx : (w.alloc (.cells #[.int .i64 1, .int .i64 n, .slice A ps.length c] 30)).cell? ⟨g, n.toNat, none⟩ = some (.bool (bs[n.toNat]'hnl)) := (blk_cell HS.out n.toNat).trans (arr10_at _)
      have hfz : (w.alloc (.cells #[.int .i64 1, .int .i64 n, .slice A ps.length c] 30)).frozen? ⟨g, n.toNat, none⟩ = false := blk_frozen HS.out n.toNat
      go_wp2_with fail
      go_region
      go_wp2
      go_meet
      refine ⟨⟨?_⟩, ⟨below_drew1 (HB.out.setCell HG.out _)⟩, ⟨blk_drew (blk_far HX.out HWG.out _)⟩⟩
      have h3 := blk_set HS.out n.toNat (.bool true)
      rw [arr10_set] at h3
      have h4 := blk_drew h3
      rw [HM1.out]
      unfold mark1
      rw [if_pos rfl]
      exact h4
    · by_cases h5 : k = 5
      · subst h5
        go_wp2
        go_loopg [18] 10 (fun kq v18 w' => ∃ i : Nat, v18 = .int .i64 (i : Int) ∧ Aside0 (i + kq = 10) ∧ Aside0 (w'.heap[g]? = some (.cells (arr10 (List.replicate i true ++ bs.drop i)) 103 (0, 0))) ∧ Aside0 (Below w0.heap.size w0 w') ∧ Aside0 (w'.heap[w.heap.size]? = some (.cells #[.int .i64 5, .int .i64 n, .slice A ps.length c] 30 (0, 0))))
        case atStart => exact ⟨0, rfl, ⟨by omega⟩, ⟨by simpa using HS.out⟩, HB, HX⟩
        case round =>
          obtain ⟨i, rfl, HIK, HSr, HBr, HXr⟩ := hrel
          cases gk with
          | zero =>
            have hi : i = 10 := by have := HIK.out; omega
            subst hi
            go_wp2
            go_meet
            refine ⟨⟨?_⟩, HBr, HXr⟩
            have h3 := HSr.out
            have hd : bs.drop 10 = [] := List.drop_of_length_le (by rw [HLB.out]; exact Nat.le_refl _)
            rw [hd, List.append_nil] at h3
            rw [HM1.out]
            unfold mark1
            rw [if_neg (by decide), if_pos rfl]
            exact h3
          | succ gk =>
            have hlt : i < 10 := by have := HIK.out; omega
            have HLT := Aside0.mk hlt
            have hb' : decide ((i : Int) < 10) = true := decide_eq_true (by omega)
            have hll : (List.replicate i true ++ bs.drop i).length = 10 := by rw [List.length_append, List.length_replicate, List.length_drop, HLB.out]; omega
            have hx : wr.cell? ⟨g, i, none⟩ = some (.bool ((List.replicate i true ++ bs.drop i)[i]'(by rw [hll]; exact hlt))) := (blk_cell HSr.out i).trans (arr10_at _)
            have hfz : wr.frozen? ⟨g, i, none⟩ = false := blk_frozen HSr.out i
            have hp : (0 ≤ (i : Int)) = True := eq_true (by omega)
            have hq : ((i : Int) < 10) = True := eq_true (by omega)
            go_wp2
            go_roundg gk
            case measure => omega
            case rel =>
              refine ⟨i + 1, by go_num, ⟨by have := HIK.out; omega⟩, ⟨?_⟩, ⟨HBr.out.setCell HG.out _⟩, ⟨blk_far HXr.out HWG.out _⟩⟩
              have h3 := blk_set HSr.out i (.bool true)
              rw [arr10_set, fill_step bs HLB.out i HLT.out] at h3
              exact h3
      · have hk1 : decide (k = 1) = false := decide_eq_false h1
        have hk5 : decide (k = 5) = false := decide_eq_false h5
        have hk1' : (k == 1) = false := by simp [h1]
        have hk5' : (k == 5) = false := by simp [h5]
        have HM : Aside0 (mark1 k n bs = bs) := ⟨by unfold mark1; rw [if_neg h1, if_neg h5]⟩
        clear h1 h5
        go_wp2
        go_meet
        exact ⟨⟨by rw [HM1.out, HM.out]; exact HS.out⟩, HB, HX⟩
  case rest =>
    obtain ⟨HS1, HB1, HX1⟩ := hcut
    have hx2 : wc.cell? ⟨w.heap.size, 2, none⟩ = some (.slice A ps.length c) := (blk_cell HX1.out 2).trans rfl
    clear HS HB HX HLB
    go_wp2
    go_loopg [29] ps.length (fun kq v29 w' => ∃ i : Nat, v29 = .int .i64 (i : Int) ∧ Aside0 (i + kq = ps.length) ∧ Aside0 (w'.heap[g]? = some (.cells (arr10 (mayL (ps.take i) bs1)) 103 (0, 0))) ∧ Aside0 (Below w0.heap.size w0 w'))
    case atStart => exact ⟨0, rfl, ⟨by omega⟩, ⟨by simpa [mayL] using HS1.out⟩, HB1⟩
    case round =>
      obtain ⟨i, rfl, HIK, HSr, HBr⟩ := hrel
      cases gk with
      | zero =>
        have hi : i = ps.length := by have := HIK.out; omega
        subst hi
        have hb : decide ((ps.length : Int) < (ps.length : Int)) = false := decide_eq_false (by omega)
        go_wp2
        go_end0
        refine ⟨rfl, ?_, HBr.out⟩
        have h3 := HSr.out
        rw [List.take_length] at h3
        exact h3
      | succ gk =>
        have hlt : i < ps.length := by have := HIK.out; omega
        have HLT := Aside0.mk hlt
        have hb : decide ((i : Int) < (ps.length : Int)) = true := decide_eq_true (by omega)
        obtain ⟨ad, A2, c2, e, hy0, hy1, hy2, hl2, hC2⟩ := at_T30 HR.out (i : Int) (by omega) (by omega)
        cases e
        have hlen := HR.out.2.1
        have hmax : (i : Int) + 1 ≤ 9223372036854775807 := by omega
        rw [rd_tk ps i hlt] at hy0 hy1 hy2 hl2 hC2
        have HIT := Aside0.mk (mayL_take ps bs1 i hlt)
        have HFP := Aside0.mk (fitL_mem HF.out.2 _ (List.getElem_mem hlt))
        have HIHP := Aside0.mk (HI.out _ (List.getElem_mem hlt))
        generalize ps[i] = p at hy0 hy1 hy2 hl2 hC2 HIT HFP HIHP
        have hc0 : wr.cell? (ad.add (i * 3)) = some (.int .i64 p.f0) := by
          have h1 := (HBr.out.cell (World.block_lt_of_cell? w0 _ hy0)).trans hy0
          simpa only [Int.toNat_natCast] using h1
        have hc1 : wr.cell? ⟨(ad.add (i * 3)).block, (ad.add (i * 3)).off + 1, none⟩ = some (.int .i64 p.f1) := by
          have h1 := (HBr.out.cell (World.block_lt_of_cell? w0 _ hy1)).trans hy1
          simpa only [Int.toNat_natCast] using h1
        have hc2 : wr.cell? ⟨(ad.add (i * 3)).block, (ad.add (i * 3)).off + 2, none⟩ = some (.slice A2 p.f2.length c2) := by
          have h1 := (HBr.out.cell (World.block_lt_of_cell? w0 _ hy2)).trans hy2
          simpa only [Int.toNat_natCast] using h1
        clear hy0 hy1 hy2
        have p0 : (0 ≤ (i : Int)) = True := eq_true (by omega)
        have q0 : ((i : Int) < (ps.length : Int)) = True := eq_true (by omega)
        have HBt := Aside0.mk (HBr.out.alloc HBr.out.size (.cells #[.int .i64 p.f0, .int .i64 p.f1, .slice A2 p.f2.length c2] 30))
        have hml2 : (mayL (ps.take i) bs1).length = 10 := by
          rw [mayL_foldl]
          have key : ∀ (qs : List Tk) (b : List Bool), b.length = 10 → (qs.foldl (fun b p => mayT p b) b).length = 10 := by
            intro qs
            induction qs with
            | nil => intro b h; exact h
            | cons q qs ihq => intro b h; exact ihq _ (mayT_len q b h)
          exact key _ _ HML.out
        have CK := Aside0.mk (HIHP.out A2 c2 g (mayL (ps.take i) bs1) w0 _ HFP.out hml2 hC2 hl2 HG.out HBt.out (blk_alloc HSr.out (.cells #[.int .i64 p.f0, .int .i64 p.f1, .slice A2 p.f2.length c2] 30)))
        clear hl2 hC2 hml2
        go_wp2_with fail
        with_reducible refine CK.out.mono ?_
        rintro e w2 ⟨rfl, h3, h4⟩
        have HS2 := Aside0.mk h3
        have HB2 := Aside0.mk h4
        clear h3 h4 CK hc0 hc1 hc2
        go_wp2
        go_roundg gk
        case measure => omega
        case rel => exact ⟨i + 1, by go_num, ⟨by have := HIK.out; omega⟩, ⟨by rw [HIT.out]; exact HS2.out⟩, HB2⟩
end Go.Proofs.Ytgbjbpjmbghlbaa.G
end
section
namespace Go.Proofs.Ytgbjbpjmbghlbaa.G
open Go.RowKit Go.Proofs.YtgbjbpjmbghlbaaW.PrintWords Go.Proofs.YtgbjbpjmbghlbaaW.PrintLast Go.Proofs.YtgbjbpjmbghlbaaW.PrintMore
set_option linter.unusedVariables false
set_option linter.unusedSimpArgs false
def idxTo (bs : List Bool) : Nat → List Int
  | 0 => []
  | i + 1 => if bs.getD i false = true then idxTo bs i ++ [(i : Int)] else idxTo bs i
theorem idxTo_len (bs : List Bool) (i : Nat) : (idxTo bs i).length ≤ i := by
  induction i with
  | zero => simp [idxTo]
  | succ i ih =>
    rw [idxTo]
    split
    · rw [List.length_append, List.length_singleton]; omega
    · omega
def impl_TaskMay.f (k : Nat) (a0_0 : Int) (a0_1 : Int) (l0_2 : List Tk) : Option (List Int) := (impl_TaskOk.f k a0_0 a0_1 l0_2).bind fun b => if b = true then (if fitT ⟨a0_0, a0_1, l0_2⟩ = true then some (idxTo (mayT ⟨a0_0, a0_1, l0_2⟩ (List.replicate 10 false)) 10) else none) else some []
theorem infoInt : (Try.prog.info? 3).map (fun i => (i.zero, i.size, i.bytes)) = some (some (.int .i64 0), 1, 8) := by kernel_rfl
set_option maxHeartbeats 8000000 in
set_option maxRecDepth 100000 in
theorem impl_TaskMay.calls (k : Nat) (a0_0 : Int) (a0_1 : Int) (A0_2 : Option Addr) (c0_2 : Nat) (l0_2 : List S30) (r : List Int) (w : World) (hr0_2 : Kd.C k30 w A0_2 l0_2.length l0_2) (hc0_2 : l0_2.length ≤ c0_2) (h : impl_TaskMay.f k a0_0 a0_1 l0_2 = some r) :
    Calls Try.prog 18 #[.agg #[.int .i64 a0_0, .int .i64 a0_1, .slice A0_2 l0_2.length c0_2]] w fun e w' => ∃ v0_ : Value, e = .returned v0_ ∧ Kd.R (Kd.int .i64) 3 w' w.heap.size (fun _ => True) v0_ r ∧ Below w.heap.size w w' := by
  have hu1 := Try.underlying30
  have hu2 := Try.underlying103
  unfold impl_TaskMay.f at h
  obtain ⟨b, hb, h⟩ := Option.bind_eq_some_iff.mp h
  have CK := Aside0.mk (impl_TaskOk.calls k a0_0 a0_1 A0_2 c0_2 l0_2 b (w.alloc (.cells #[.int .i64 a0_0, .int .i64 a0_1, .slice A0_2 l0_2.length c0_2] 30)) (Kd.C_alloc hr0_2 _) hc0_2 hb)
  have hbx := heap_alloc_new w (.cells #[.int .i64 a0_0, .int .i64 a0_1, .slice A0_2 l0_2.length c0_2] 30)
  have BX := Aside0.mk hbx
  have HR := Aside0.mk hr0_2
  have HC := Aside0.mk hc0_2
  have HA := Aside0.mk ((Below.refl w.heap.size w).alloc (Nat.le_refl _) (.cells #[.int .i64 a0_0, .int .i64 a0_1, .slice A0_2 l0_2.length c0_2] 30))
  have hx0 : (w.alloc (.cells #[.int .i64 a0_0, .int .i64 a0_1, .slice A0_2 l0_2.length c0_2] 30)).cell? ⟨w.heap.size, 0, none⟩ = some (.int .i64 a0_0) := (blk_cell hbx 0).trans rfl
  have hx1 : (w.alloc (.cells #[.int .i64 a0_0, .int .i64 a0_1, .slice A0_2 l0_2.length c0_2] 30)).cell? ⟨w.heap.size, 1, none⟩ = some (.int .i64 a0_1) := (blk_cell hbx 1).trans rfl
  have hx2 : (w.alloc (.cells #[.int .i64 a0_0, .int .i64 a0_1, .slice A0_2 l0_2.length c0_2] 30)).cell? ⟨w.heap.size, 2, none⟩ = some (.slice A0_2 l0_2.length c0_2) := (blk_cell hbx 2).trans rfl
  clear hbx hr0_2 hc0_2 hb
  cases b with
  | false =>
    simp only [Bool.false_eq_true, if_false] at h
    obtain rfl := Option.some.inj h
    clear h
    go_enter Try.func18, Try.ntmps18
    go_wp2_with fail
    with_reducible refine CK.out.mono ?_
    rintro e w1 ⟨rfl, hb1⟩
    have HB := Aside0.mk (HA.out.trans (hb1.mono HA.out.size))
    clear CK hb1 hx0 hx1 hx2
    go_wp2
    go_ret
    exact ⟨_, rfl, Kd.R_nil _ _ _ _ _, HB.out⟩
  | true =>
    simp only [if_true] at h
    split at h
    · rename_i hf
      have hr := Option.some.inj h
      have hml := mayT_len ⟨a0_0, a0_1, l0_2⟩ (List.replicate 10 false) (by simp)
      generalize hbs : mayT ⟨a0_0, a0_1, l0_2⟩ (List.replicate 10 false) = bs at hr hml
      subst hr
      obtain ⟨b0, b1, b2, b3, b4, b5, b6, b7, b8, b9, rfl⟩ : ∃ b0 b1 b2 b3 b4 b5 b6 b7 b8 b9, bs = [b0, b1, b2, b3, b4, b5, b6, b7, b8, b9] := by
        match bs, hml with
        | [b0, b1, b2, b3, b4, b5, b6, b7, b8, b9], _ => exact ⟨b0, b1, b2, b3, b4, b5, b6, b7, b8, b9, rfl⟩
      have HBS := Aside0.mk hbs
      have HF := Aside0.mk hf
      clear h hf hml hbs
      go_enter Try.func18, Try.ntmps18
      go_wp2_with fail
      with_reducible refine CK.out.mono ?_
      rintro e w1 ⟨rfl, hb1⟩
      have HB := Aside0.mk (HA.out.trans (hb1.mono HA.out.size))
      have BX1 := Aside0.mk ((hb1.block _ (blk_lt BX.out)).trans BX.out)
      clear CK hb1 hx0 hx1 hx2 BX HA
      have BX2 := Aside0.mk (blk_alloc BX1.out (.cells #[.bool false, .bool false, .bool false, .bool false, .bool false, .bool false, .bool false, .bool false, .bool false, .bool false] 103))
      have hx0 : (w1.alloc (.cells #[.bool false, .bool false, .bool false, .bool false, .bool false, .bool false, .bool false, .bool false, .bool false, .bool false] 103)).cell? ⟨w.heap.size, 0, none⟩ = some (.int .i64 a0_0) := (blk_cell BX2.out 0).trans rfl
      have hx1 : (w1.alloc (.cells #[.bool false, .bool false, .bool false, .bool false, .bool false, .bool false, .bool false, .bool false, .bool false, .bool false] 103)).cell? ⟨w.heap.size, 1, none⟩ = some (.int .i64 a0_1) := (blk_cell BX2.out 1).trans rfl
      have hx2 : (w1.alloc (.cells #[.bool false, .bool false, .bool false, .bool false, .bool false, .bool false, .bool false, .bool false, .bool false, .bool false] 103)).cell? ⟨w.heap.size, 2, none⟩ = some (.slice A0_2 l0_2.length c0_2) := (blk_cell BX2.out 2).trans rfl
      have e10 : arr10 (List.replicate 10 false) = #[.bool false, .bool false, .bool false, .bool false, .bool false, .bool false, .bool false, .bool false, .bool false, .bool false] := rfl
      have hal : (w1.alloc (.cells #[.bool false, .bool false, .bool false, .bool false, .bool false, .bool false, .bool false, .bool false, .bool false, .bool false] 103)).heap[w1.heap.size]? = some (.cells (arr10 (List.replicate 10 false)) 103 (0, 0)) := by rw [e10]; exact heap_alloc_new w1 _
      have CK := Aside0.mk (may_w ⟨a0_0, a0_1, l0_2⟩ A0_2 c0_2 w1.heap.size (List.replicate 10 false) w (w1.alloc (.cells #[.bool false, .bool false, .bool false, .bool false, .bool false, .bool false, .bool false, .bool false, .bool false, .bool false] 103)) HF.out (by simp) HR.out HC.out HB.out.size (HB.out.alloc HB.out.size _) hal)
      clear hal e10
      go_wp2_with fail
      with_reducible refine CK.out.mono ?_
      rintro e w2 ⟨rfl, h3, h4⟩
      rw [HBS.out] at h3
      have HS := Aside0.mk h3
      have HB2 := Aside0.mk h4
      clear CK h3 h4 hx0 hx1 hx2 BX1 BX2
      have hx0 : w2.cell? ⟨w1.heap.size, 0, none⟩ = some (.bool b0) := (blk_cell HS.out 0).trans rfl
      have hx1 : w2.cell? ⟨w1.heap.size, 1, none⟩ = some (.bool b1) := (blk_cell HS.out 1).trans rfl
      have hx2 : w2.cell? ⟨w1.heap.size, 2, none⟩ = some (.bool b2) := (blk_cell HS.out 2).trans rfl
      have hx3 : w2.cell? ⟨w1.heap.size, 3, none⟩ = some (.bool b3) := (blk_cell HS.out 3).trans rfl
      have hx4 : w2.cell? ⟨w1.heap.size, 4, none⟩ = some (.bool b4) := (blk_cell HS.out 4).trans rfl
      have hx5 : w2.cell? ⟨w1.heap.size, 5, none⟩ = some (.bool b5) := (blk_cell HS.out 5).trans rfl
      have hx6 : w2.cell? ⟨w1.heap.size, 6, none⟩ = some (.bool b6) := (blk_cell HS.out 6).trans rfl
      have hx7 : w2.cell? ⟨w1.heap.size, 7, none⟩ = some (.bool b7) := (blk_cell HS.out 7).trans rfl
      have hx8 : w2.cell? ⟨w1.heap.size, 8, none⟩ = some (.bool b8) := (blk_cell HS.out 8).trans rfl
      have hx9 : w2.cell? ⟨w1.heap.size, 9, none⟩ = some (.bool b9) := (blk_cell HS.out 9).trans rfl
      clear HS
      go_wp2
      go_loopg [4, 13] 10 (fun kq v4 v13 w' => ∃ i : Nat, v13 = .int .i64 (i : Int) ∧ Aside0 (i + kq = 10) ∧ Aside0 (Kd.R (Kd.int .i64) 3 w' w.heap.size (fun _ => True) v4 (idxTo [b0, b1, b2, b3, b4, b5, b6, b7, b8, b9] i)) ∧ Aside0 (Below w.heap.size w w'))
      case atStart => exact ⟨0, by simp, ⟨by omega⟩, ⟨Kd.R_nil _ _ _ _ _⟩, HB2⟩
      case round =>
        obtain ⟨i, rfl, HI, HO, HB3⟩ := hrel
        cases gk with
        | zero =>
          have hi : i = 10 := by have := HI.out; omega
          subst hi
          go_wp2
          go_ret
          exact ⟨_, rfl, HO.out, HB3.out⟩
        | succ gk =>
          have hlt : i < 10 := by have := HI.out; omega
          have HOL := Aside0.mk (idxTo_len [b0, b1, b2, b3, b4, b5, b6, b7, b8, b9] i)
          have hc : i = 0 ∨ i = 1 ∨ i = 2 ∨ i = 3 ∨ i = 4 ∨ i = 5 ∨ i = 6 ∨ i = 7 ∨ i = 8 ∨ i = 9 := by omega
          rcases hc with rfl | rfl | rfl | rfl | rfl | rfl | rfl | rfl | rfl | rfl
          · have hg : gk = 9 := by have := HI.out; omega
            subst hg
            cases b0 with
            | true =>
              have hix : ∀ W : World, (Instr.index 103 (.agg #[.bool true, .bool b1, .bool b2, .bool b3, .bool b4, .bool b5, .bool b6, .bool b7, .bool b8, .bool b9]) (.int .i64 0)).run Try.prog W = .ok (.bool true) W := fun _ => rfl
              have HN : Aside0 (idxTo [true, b1, b2, b3, b4, b5, b6, b7, b8, b9] 1 = idxTo [true, b1, b2, b3, b4, b5, b6, b7, b8, b9] 0 ++ [(0 : Int)]) := ⟨by rw [idxTo]; rfl⟩
              generalize idxTo [true, b1, b2, b3, b4, b5, b6, b7, b8, b9] 0 = out at HO HOL HN
              obtain ⟨Ao, co, eo⟩ := Kd.R_slice HO.out
              subst eo
              go_wp2_with (first | (at_builtin; refine Kd.R_append (Kd.int .i64) (w0 := w) w.heap.size rfl (.tmp 18) (.tmp 20) 26 3 (.int .i64 0) 8 rfl Try.underlying26 infoInt rfl (by decide) (by omega) (.slice Ao out.length co) out (0 : Int) [.int .i64 0] (fun _ => True) (fun _ => False) rfl rfl ?aP (fun _ hk => hk.elim) ?aF ?aO ?aB ?aS ?aL ?_; (case aP => rfl); (case aB => exact HB3.out); (case aF => exact (fun _ _ => trivial)); (case aO => exact HO.out); (case aS => exact HB3.out.size); (case aL => have := HOL.out; omega); intro v2 w4 ho hb hg hat; have HO2 := Aside0.mk ho; have HB4 := Aside0.mk hb; clear ho hb hg hat))
              go_roundg 9
              case measure => omega
              case rel => exact ⟨1, by go_num, ⟨by omega⟩, ⟨by rw [HN.out]; exact HO2.out⟩, HB4⟩
            | false =>
              have hix : ∀ W : World, (Instr.index 103 (.agg #[.bool false, .bool b1, .bool b2, .bool b3, .bool b4, .bool b5, .bool b6, .bool b7, .bool b8, .bool b9]) (.int .i64 0)).run Try.prog W = .ok (.bool false) W := fun _ => rfl
              have HN : Aside0 (idxTo [false, b1, b2, b3, b4, b5, b6, b7, b8, b9] 1 = idxTo [false, b1, b2, b3, b4, b5, b6, b7, b8, b9] 0) := ⟨by rw [idxTo]; rfl⟩
              go_wp2
              go_roundg 9
              case measure => omega
              case rel => exact ⟨1, by go_num, ⟨by omega⟩, ⟨by rw [HN.out]; exact HO.out⟩, HB3⟩
          · have hg : gk = 8 := by have := HI.out; omega
            subst hg
            cases b1 with
            | true =>
              have hix : ∀ W : World, (Instr.index 103 (.agg #[.bool b0, .bool true, .bool b2, .bool b3, .bool b4, .bool b5, .bool b6, .bool b7, .bool b8, .bool b9]) (.int .i64 1)).run Try.prog W = .ok (.bool true) W := fun _ => rfl
              have HN : Aside0 (idxTo [b0, true, b2, b3, b4, b5, b6, b7, b8, b9] 2 = idxTo [b0, true, b2, b3, b4, b5, b6, b7, b8, b9] 1 ++ [(1 : Int)]) := ⟨by rw [idxTo]; rfl⟩
              generalize idxTo [b0, true, b2, b3, b4, b5, b6, b7, b8, b9] 1 = out at HO HOL HN
              obtain ⟨Ao, co, eo⟩ := Kd.R_slice HO.out
              subst eo
              go_wp2_with (first | (at_builtin; refine Kd.R_append (Kd.int .i64) (w0 := w) w.heap.size rfl (.tmp 18) (.tmp 20) 26 3 (.int .i64 0) 8 rfl Try.underlying26 infoInt rfl (by decide) (by omega) (.slice Ao out.length co) out (1 : Int) [.int .i64 1] (fun _ => True) (fun _ => False) rfl rfl ?aP (fun _ hk => hk.elim) ?aF ?aO ?aB ?aS ?aL ?_; (case aP => rfl); (case aB => exact HB3.out); (case aF => exact (fun _ _ => trivial)); (case aO => exact HO.out); (case aS => exact HB3.out.size); (case aL => have := HOL.out; omega); intro v2 w4 ho hb hg hat; have HO2 := Aside0.mk ho; have HB4 := Aside0.mk hb; clear ho hb hg hat))
              go_roundg 8
              case measure => omega
              case rel => exact ⟨2, by go_num, ⟨by omega⟩, ⟨by rw [HN.out]; exact HO2.out⟩, HB4⟩
            | false =>
              have hix : ∀ W : World, (Instr.index 103 (.agg #[.bool b0, .bool false, .bool b2, .bool b3, .bool b4, .bool b5, .bool b6, .bool b7, .bool b8, .bool b9]) (.int .i64 1)).run Try.prog W = .ok (.bool false) W := fun _ => rfl
              have HN : Aside0 (idxTo [b0, false, b2, b3, b4, b5, b6, b7, b8, b9] 2 = idxTo [b0, false, b2, b3, b4, b5, b6, b7, b8, b9] 1) := ⟨by rw [idxTo]; rfl⟩
              go_wp2
              go_roundg 8
              case measure => omega
              case rel => exact ⟨2, by go_num, ⟨by omega⟩, ⟨by rw [HN.out]; exact HO.out⟩, HB3⟩
          · have hg : gk = 7 := by have := HI.out; omega
            subst hg
            cases b2 with
            | true =>
              have hix : ∀ W : World, (Instr.index 103 (.agg #[.bool b0, .bool b1, .bool true, .bool b3, .bool b4, .bool b5, .bool b6, .bool b7, .bool b8, .bool b9]) (.int .i64 2)).run Try.prog W = .ok (.bool true) W := fun _ => rfl
              have HN : Aside0 (idxTo [b0, b1, true, b3, b4, b5, b6, b7, b8, b9] 3 = idxTo [b0, b1, true, b3, b4, b5, b6, b7, b8, b9] 2 ++ [(2 : Int)]) := ⟨by rw [idxTo]; rfl⟩
              generalize idxTo [b0, b1, true, b3, b4, b5, b6, b7, b8, b9] 2 = out at HO HOL HN
              obtain ⟨Ao, co, eo⟩ := Kd.R_slice HO.out
              subst eo
              go_wp2_with (first | (at_builtin; refine Kd.R_append (Kd.int .i64) (w0 := w) w.heap.size rfl (.tmp 18) (.tmp 20) 26 3 (.int .i64 0) 8 rfl Try.underlying26 infoInt rfl (by decide) (by omega) (.slice Ao out.length co) out (2 : Int) [.int .i64 2] (fun _ => True) (fun _ => False) rfl rfl ?aP (fun _ hk => hk.elim) ?aF ?aO ?aB ?aS ?aL ?_; (case aP => rfl); (case aB => exact HB3.out); (case aF => exact (fun _ _ => trivial)); (case aO => exact HO.out); (case aS => exact HB3.out.size); (case aL => have := HOL.out; omega); intro v2 w4 ho hb hg hat; have HO2 := Aside0.mk ho; have HB4 := Aside0.mk hb; clear ho hb hg hat))
              go_roundg 7
              case measure => omega
              case rel => exact ⟨3, by go_num, ⟨by omega⟩, ⟨by rw [HN.out]; exact HO2.out⟩, HB4⟩
            | false =>
              have hix : ∀ W : World, (Instr.index 103 (.agg #[.bool b0, .bool b1, .bool false, .bool b3, .bool b4, .bool b5, .bool b6, .bool b7, .bool b8, .bool b9]) (.int .i64 2)).run Try.prog W = .ok (.bool false) W := fun _ => rfl
              have HN : Aside0 (idxTo [b0, b1, false, b3, b4, b5, b6, b7, b8, b9] 3 = idxTo [b0, b1, false, b3, b4, b5, b6, b7, b8, b9] 2) := ⟨by rw [idxTo]; rfl⟩
              go_wp2
              go_roundg 7
              case measure => omega
              case rel => exact ⟨3, by go_num, ⟨by omega⟩, ⟨by rw [HN.out]; exact HO.out⟩, HB3⟩
          · have hg : gk = 6 := by have := HI.out; omega
            subst hg
            cases b3 with
            | true =>
              have hix : ∀ W : World, (Instr.index 103 (.agg #[.bool b0, .bool b1, .bool b2, .bool true, .bool b4, .bool b5, .bool b6, .bool b7, .bool b8, .bool b9]) (.int .i64 3)).run Try.prog W = .ok (.bool true) W := fun _ => rfl
              have HN : Aside0 (idxTo [b0, b1, b2, true, b4, b5, b6, b7, b8, b9] 4 = idxTo [b0, b1, b2, true, b4, b5, b6, b7, b8, b9] 3 ++ [(3 : Int)]) := ⟨by rw [idxTo]; rfl⟩
              generalize idxTo [b0, b1, b2, true, b4, b5, b6, b7, b8, b9] 3 = out at HO HOL HN
              obtain ⟨Ao, co, eo⟩ := Kd.R_slice HO.out
              subst eo
              go_wp2_with (first | (at_builtin; refine Kd.R_append (Kd.int .i64) (w0 := w) w.heap.size rfl (.tmp 18) (.tmp 20) 26 3 (.int .i64 0) 8 rfl Try.underlying26 infoInt rfl (by decide) (by omega) (.slice Ao out.length co) out (3 : Int) [.int .i64 3] (fun _ => True) (fun _ => False) rfl rfl ?aP (fun _ hk => hk.elim) ?aF ?aO ?aB ?aS ?aL ?_; (case aP => rfl); (case aB => exact HB3.out); (case aF => exact (fun _ _ => trivial)); (case aO => exact HO.out); (case aS => exact HB3.out.size); (case aL => have := HOL.out; omega); intro v2 w4 ho hb hg hat; have HO2 := Aside0.mk ho; have HB4 := Aside0.mk hb; clear ho hb hg hat))
              go_roundg 6
              case measure => omega
              case rel => exact ⟨4, by go_num, ⟨by omega⟩, ⟨by rw [HN.out]; exact HO2.out⟩, HB4⟩
            | false =>
              have hix : ∀ W : World, (Instr.index 103 (.agg #[.bool b0, .bool b1, .bool b2, .bool false, .bool b4, .bool b5, .bool b6, .bool b7, .bool b8, .bool b9]) (.int .i64 3)).run Try.prog W = .ok (.bool false) W := fun _ => rfl
              have HN : Aside0 (idxTo [b0, b1, b2, false, b4, b5, b6, b7, b8, b9] 4 = idxTo [b0, b1, b2, false, b4, b5, b6, b7, b8, b9] 3) := ⟨by rw [idxTo]; rfl⟩
              go_wp2
              go_roundg 6
              case measure => omega
              case rel => exact ⟨4, by go_num, ⟨by omega⟩, ⟨by rw [HN.out]; exact HO.out⟩, HB3⟩
          · have hg : gk = 5 := by have := HI.out; omega
            subst hg
            cases b4 with
            | true =>
              have hix : ∀ W : World, (Instr.index 103 (.agg #[.bool b0, .bool b1, .bool b2, .bool b3, .bool true, .bool b5, .bool b6, .bool b7, .bool b8, .bool b9]) (.int .i64 4)).run Try.prog W = .ok (.bool true) W := fun _ => rfl
              have HN : Aside0 (idxTo [b0, b1, b2, b3, true, b5, b6, b7, b8, b9] 5 = idxTo [b0, b1, b2, b3, true, b5, b6, b7, b8, b9] 4 ++ [(4 : Int)]) := ⟨by rw [idxTo]; rfl⟩
              generalize idxTo [b0, b1, b2, b3, true, b5, b6, b7, b8, b9] 4 = out at HO HOL HN
              obtain ⟨Ao, co, eo⟩ := Kd.R_slice HO.out
              subst eo
              go_wp2_with (first | (at_builtin; refine Kd.R_append (Kd.int .i64) (w0 := w) w.heap.size rfl (.tmp 18) (.tmp 20) 26 3 (.int .i64 0) 8 rfl Try.underlying26 infoInt rfl (by decide) (by omega) (.slice Ao out.length co) out (4 : Int) [.int .i64 4] (fun _ => True) (fun _ => False) rfl rfl ?aP (fun _ hk => hk.elim) ?aF ?aO ?aB ?aS ?aL ?_; (case aP => rfl); (case aB => exact HB3.out); (case aF => exact (fun _ _ => trivial)); (case aO => exact HO.out); (case aS => exact HB3.out.size); (case aL => have := HOL.out; omega); intro v2 w4 ho hb hg hat; have HO2 := Aside0.mk ho; have HB4 := Aside0.mk hb; clear ho hb hg hat))
              go_roundg 5
              case measure => omega
              case rel => exact ⟨5, by go_num, ⟨by omega⟩, ⟨by rw [HN.out]; exact HO2.out⟩, HB4⟩
            | false =>
              have hix : ∀ W : World, (Instr.index 103 (.agg #[.bool b0, .bool b1, .bool b2, .bool b3, .bool false, .bool b5, .bool b6, .bool b7, .bool b8, .bool b9]) (.int .i64 4)).run Try.prog W = .ok (.bool false) W := fun _ => rfl
              have HN : Aside0 (idxTo [b0, b1, b2, b3, false, b5, b6, b7, b8, b9] 5 = idxTo [b0, b1, b2, b3, false, b5, b6, b7, b8, b9] 4) := ⟨by rw [idxTo]; rfl⟩
              go_wp2
              go_roundg 5
              case measure => omega
              case rel => exact ⟨5, by go_num, ⟨by omega⟩, ⟨by rw [HN.out]; exact HO.out⟩, HB3⟩
          · have hg : gk = 4 := by have := HI.out; omega
            subst hg
            cases b5 with
            | true =>
              have hix : ∀ W : World, (Instr.index 103 (.agg #[.bool b0, .bool b1, .bool b2, .bool b3, .bool b4, .bool true, .bool b6, .bool b7, .bool b8, .bool b9]) (.int .i64 5)).run Try.prog W = .ok (.bool true) W := fun _ => rfl
              have HN : Aside0 (idxTo [b0, b1, b2, b3, b4, true, b6, b7, b8, b9] 6 = idxTo [b0, b1, b2, b3, b4, true, b6, b7, b8, b9] 5 ++ [(5 : Int)]) := ⟨by rw [idxTo]; rfl⟩
              generalize idxTo [b0, b1, b2, b3, b4, true, b6, b7, b8, b9] 5 = out at HO HOL HN
              obtain ⟨Ao, co, eo⟩ := Kd.R_slice HO.out
              subst eo
              go_wp2_with (first | (at_builtin; refine Kd.R_append (Kd.int .i64) (w0 := w) w.heap.size rfl (.tmp 18) (.tmp 20) 26 3 (.int .i64 0) 8 rfl Try.underlying26 infoInt rfl (by decide) (by omega) (.slice Ao out.length co) out (5 : Int) [.int .i64 5] (fun _ => True) (fun _ => False) rfl rfl ?aP (fun _ hk => hk.elim) ?aF ?aO ?aB ?aS ?aL ?_; (case aP => rfl); (case aB => exact HB3.out); (case aF => exact (fun _ _ => trivial)); (case aO => exact HO.out); (case aS => exact HB3.out.size); (case aL => have := HOL.out; omega); intro v2 w4 ho hb hg hat; have HO2 := Aside0.mk ho; have HB4 := Aside0.mk hb; clear ho hb hg hat))
              go_roundg 4
              case measure => omega
              case rel => exact ⟨6, by go_num, ⟨by omega⟩, ⟨by rw [HN.out]; exact HO2.out⟩, HB4⟩
            | false =>
              have hix : ∀ W : World, (Instr.index 103 (.agg #[.bool b0, .bool b1, .bool b2, .bool b3, .bool b4, .bool false, .bool b6, .bool b7, .bool b8, .bool b9]) (.int .i64 5)).run Try.prog W = .ok (.bool false) W := fun _ => rfl
              have HN : Aside0 (idxTo [b0, b1, b2, b3, b4, false, b6, b7, b8, b9] 6 = idxTo [b0, b1, b2, b3, b4, false, b6, b7, b8, b9] 5) := ⟨by rw [idxTo]; rfl⟩
              go_wp2
              go_roundg 4
              case measure => omega
              case rel => exact ⟨6, by go_num, ⟨by omega⟩, ⟨by rw [HN.out]; exact HO.out⟩, HB3⟩
          · have hg : gk = 3 := by have := HI.out; omega
            subst hg
            cases b6 with
            | true =>
              have hix : ∀ W : World, (Instr.index 103 (.agg #[.bool b0, .bool b1, .bool b2, .bool b3, .bool b4, .bool b5, .bool true, .bool b7, .bool b8, .bool b9]) (.int .i64 6)).run Try.prog W = .ok (.bool true) W := fun _ => rfl
              have HN : Aside0 (idxTo [b0, b1, b2, b3, b4, b5, true, b7, b8, b9] 7 = idxTo [b0, b1, b2, b3, b4, b5, true, b7, b8, b9] 6 ++ [(6 : Int)]) := ⟨by rw [idxTo]; rfl⟩
              generalize idxTo [b0, b1, b2, b3, b4, b5, true, b7, b8, b9] 6 = out at HO HOL HN
              obtain ⟨Ao, co, eo⟩ := Kd.R_slice HO.out
              subst eo
              go_wp2_with (first | (at_builtin; refine Kd.R_append (Kd.int .i64) (w0 := w) w.heap.size rfl (.tmp 18) (.tmp 20) 26 3 (.int .i64 0) 8 rfl Try.underlying26 infoInt rfl (by decide) (by omega) (.slice Ao out.length co) out (6 : Int) [.int .i64 6] (fun _ => True) (fun _ => False) rfl rfl ?aP (fun _ hk => hk.elim) ?aF ?aO ?aB ?aS ?aL ?_; (case aP => rfl); (case aB => exact HB3.out); (case aF => exact (fun _ _ => trivial)); (case aO => exact HO.out); (case aS => exact HB3.out.size); (case aL => have := HOL.out; omega); intro v2 w4 ho hb hg hat; have HO2 := Aside0.mk ho; have HB4 := Aside0.mk hb; clear ho hb hg hat))
              go_roundg 3
              case measure => omega
              case rel => exact ⟨7, by go_num, ⟨by omega⟩, ⟨by rw [HN.out]; exact HO2.out⟩, HB4⟩
            | false =>
              have hix : ∀ W : World, (Instr.index 103 (.agg #[.bool b0, .bool b1, .bool b2, .bool b3, .bool b4, .bool b5, .bool false, .bool b7, .bool b8, .bool b9]) (.int .i64 6)).run Try.prog W = .ok (.bool false) W := fun _ => rfl
              have HN : Aside0 (idxTo [b0, b1, b2, b3, b4, b5, false, b7, b8, b9] 7 = idxTo [b0, b1, b2, b3, b4, b5, false, b7, b8, b9] 6) := ⟨by rw [idxTo]; rfl⟩
              go_wp2
              go_roundg 3
              case measure => omega
              case rel => exact ⟨7, by go_num, ⟨by omega⟩, ⟨by rw [HN.out]; exact HO.out⟩, HB3⟩
          · have hg : gk = 2 := by have := HI.out; omega
            subst hg
            cases b7 with
            | true =>
              have hix : ∀ W : World, (Instr.index 103 (.agg #[.bool b0, .bool b1, .bool b2, .bool b3, .bool b4, .bool b5, .bool b6, .bool true, .bool b8, .bool b9]) (.int .i64 7)).run Try.prog W = .ok (.bool true) W := fun _ => rfl
              have HN : Aside0 (idxTo [b0, b1, b2, b3, b4, b5, b6, true, b8, b9] 8 = idxTo [b0, b1, b2, b3, b4, b5, b6, true, b8, b9] 7 ++ [(7 : Int)]) := ⟨by rw [idxTo]; rfl⟩
              generalize idxTo [b0, b1, b2, b3, b4, b5, b6, true, b8, b9] 7 = out at HO HOL HN
              obtain ⟨Ao, co, eo⟩ := Kd.R_slice HO.out
              subst eo
              go_wp2_with (first | (at_builtin; refine Kd.R_append (Kd.int .i64) (w0 := w) w.heap.size rfl (.tmp 18) (.tmp 20) 26 3 (.int .i64 0) 8 rfl Try.underlying26 infoInt rfl (by decide) (by omega) (.slice Ao out.length co) out (7 : Int) [.int .i64 7] (fun _ => True) (fun _ => False) rfl rfl ?aP (fun _ hk => hk.elim) ?aF ?aO ?aB ?aS ?aL ?_; (case aP => rfl); (case aB => exact HB3.out); (case aF => exact (fun _ _ => trivial)); (case aO => exact HO.out); (case aS => exact HB3.out.size); (case aL => have := HOL.out; omega); intro v2 w4 ho hb hg hat; have HO2 := Aside0.mk ho; have HB4 := Aside0.mk hb; clear ho hb hg hat))
              go_roundg 2
              case measure => omega
              case rel => exact ⟨8, by go_num, ⟨by omega⟩, ⟨by rw [HN.out]; exact HO2.out⟩, HB4⟩
            | false =>
              have hix : ∀ W : World, (Instr.index 103 (.agg #[.bool b0, .bool b1, .bool b2, .bool b3, .bool b4, .bool b5, .bool b6, .bool false, .bool b8, .bool b9]) (.int .i64 7)).run Try.prog W = .ok (.bool false) W := fun _ => rfl
              have HN : Aside0 (idxTo [b0, b1, b2, b3, b4, b5, b6, false, b8, b9] 8 = idxTo [b0, b1, b2, b3, b4, b5, b6, false, b8, b9] 7) := ⟨by rw [idxTo]; rfl⟩
              go_wp2
              go_roundg 2
              case measure => omega
              case rel => exact ⟨8, by go_num, ⟨by omega⟩, ⟨by rw [HN.out]; exact HO.out⟩, HB3⟩
          · have hg : gk = 1 := by have := HI.out; omega
            subst hg
            cases b8 with
            | true =>
              have hix : ∀ W : World, (Instr.index 103 (.agg #[.bool b0, .bool b1, .bool b2, .bool b3, .bool b4, .bool b5, .bool b6, .bool b7, .bool true, .bool b9]) (.int .i64 8)).run Try.prog W = .ok (.bool true) W := fun _ => rfl
              have HN : Aside0 (idxTo [b0, b1, b2, b3, b4, b5, b6, b7, true, b9] 9 = idxTo [b0, b1, b2, b3, b4, b5, b6, b7, true, b9] 8 ++ [(8 : Int)]) := ⟨by rw [idxTo]; rfl⟩
              generalize idxTo [b0, b1, b2, b3, b4, b5, b6, b7, true, b9] 8 = out at HO HOL HN
              obtain ⟨Ao, co, eo⟩ := Kd.R_slice HO.out
              subst eo
              go_wp2_with (first | (at_builtin; refine Kd.R_append (Kd.int .i64) (w0 := w) w.heap.size rfl (.tmp 18) (.tmp 20) 26 3 (.int .i64 0) 8 rfl Try.underlying26 infoInt rfl (by decide) (by omega) (.slice Ao out.length co) out (8 : Int) [.int .i64 8] (fun _ => True) (fun _ => False) rfl rfl ?aP (fun _ hk => hk.elim) ?aF ?aO ?aB ?aS ?aL ?_; (case aP => rfl); (case aB => exact HB3.out); (case aF => exact (fun _ _ => trivial)); (case aO => exact HO.out); (case aS => exact HB3.out.size); (case aL => have := HOL.out; omega); intro v2 w4 ho hb hg hat; have HO2 := Aside0.mk ho; have HB4 := Aside0.mk hb; clear ho hb hg hat))
              go_roundg 1
              case measure => omega
              case rel => exact ⟨9, by go_num, ⟨by omega⟩, ⟨by rw [HN.out]; exact HO2.out⟩, HB4⟩
            | false =>
              have hix : ∀ W : World, (Instr.index 103 (.agg #[.bool b0, .bool b1, .bool b2, .bool b3, .bool b4, .bool b5, .bool b6, .bool b7, .bool false, .bool b9]) (.int .i64 8)).run Try.prog W = .ok (.bool false) W := fun _ => rfl
              have HN : Aside0 (idxTo [b0, b1, b2, b3, b4, b5, b6, b7, false, b9] 9 = idxTo [b0, b1, b2, b3, b4, b5, b6, b7, false, b9] 8) := ⟨by rw [idxTo]; rfl⟩
              go_wp2
              go_roundg 1
              case measure => omega
              case rel => exact ⟨9, by go_num, ⟨by omega⟩, ⟨by rw [HN.out]; exact HO.out⟩, HB3⟩
          · have hg : gk = 0 := by have := HI.out; omega
            subst hg
            cases b9 with
            | true =>
              have hix : ∀ W : World, (Instr.index 103 (.agg #[.bool b0, .bool b1, .bool b2, .bool b3, .bool b4, .bool b5, .bool b6, .bool b7, .bool b8, .bool true]) (.int .i64 9)).run Try.prog W = .ok (.bool true) W := fun _ => rfl
              have HN : Aside0 (idxTo [b0, b1, b2, b3, b4, b5, b6, b7, b8, true] 10 = idxTo [b0, b1, b2, b3, b4, b5, b6, b7, b8, true] 9 ++ [(9 : Int)]) := ⟨by rw [idxTo]; rfl⟩
              generalize idxTo [b0, b1, b2, b3, b4, b5, b6, b7, b8, true] 9 = out at HO HOL HN
              obtain ⟨Ao, co, eo⟩ := Kd.R_slice HO.out
              subst eo
              go_wp2_with (first | (at_builtin; refine Kd.R_append (Kd.int .i64) (w0 := w) w.heap.size rfl (.tmp 18) (.tmp 20) 26 3 (.int .i64 0) 8 rfl Try.underlying26 infoInt rfl (by decide) (by omega) (.slice Ao out.length co) out (9 : Int) [.int .i64 9] (fun _ => True) (fun _ => False) rfl rfl ?aP (fun _ hk => hk.elim) ?aF ?aO ?aB ?aS ?aL ?_; (case aP => rfl); (case aB => exact HB3.out); (case aF => exact (fun _ _ => trivial)); (case aO => exact HO.out); (case aS => exact HB3.out.size); (case aL => have := HOL.out; omega); intro v2 w4 ho hb hg hat; have HO2 := Aside0.mk ho; have HB4 := Aside0.mk hb; clear ho hb hg hat))
              go_roundg 0
              case measure => omega
              case rel => exact ⟨10, by go_num, ⟨by omega⟩, ⟨by rw [HN.out]; exact HO2.out⟩, HB4⟩
            | false =>
              have hix : ∀ W : World, (Instr.index 103 (.agg #[.bool b0, .bool b1, .bool b2, .bool b3, .bool b4, .bool b5, .bool b6, .bool b7, .bool b8, .bool false]) (.int .i64 9)).run Try.prog W = .ok (.bool false) W := fun _ => rfl
              have HN : Aside0 (idxTo [b0, b1, b2, b3, b4, b5, b6, b7, b8, false] 10 = idxTo [b0, b1, b2, b3, b4, b5, b6, b7, b8, false] 9) := ⟨by rw [idxTo]; rfl⟩
              go_wp2
              go_roundg 0
              case measure => omega
              case rel => exact ⟨10, by go_num, ⟨by omega⟩, ⟨by rw [HN.out]; exact HO.out⟩, HB3⟩
    · cases h
end Go.Proofs.Ytgbjbpjmbghlbaa.G
end
section
namespace Go.Proofs.Ytgbjbpjmbghlbaa.G
open Go.RowKit Go.Proofs.YtgbjbpjmbghlbaaW.PrintWords Go.Proofs.YtgbjbpjmbghlbaaW.PrintLast Go.Proofs.YtgbjbpjmbghlbaaW.PrintMore
set_option linter.unusedVariables false
set_option linter.unusedSimpArgs false
set_option maxHeartbeats 8000000 in
set_option maxRecDepth 100000 in
theorem l2may_w : ∀ (t : Tk) (A : Option Addr) (c : Nat) (g : Nat) (bs : List Bool) (w0 w : World) (_ : fitT t = true) (_ : bs.length = 10) (_ : Kd.C k30 w0 A t.f2.length t.f2) (_ : t.f2.length ≤ c) (_ : w0.heap.size ≤ g) (_ : Below w0.heap.size w0 w) (_ : w.heap[g]? = some (.cells (arr10 bs) 4 (0, 0))),
    Calls Try.prog 70 #[.agg #[.int .i64 t.f0, .int .i64 t.f1, .slice A t.f2.length c], .slice (some ⟨g, 0, none⟩) 10 10] w fun e w' => e = .returned (.tuple #[]) ∧ w'.heap[g]? = some (.cells (arr10 (mayT t bs)) 4 (0, 0)) ∧ Below w0.heap.size w0 w' ∧ ∀ (j : Nat) (o : Obj), j ≠ g → w.heap[j]? = some o → w'.heap[j]? = some o := by
  refine tk_ind fun t ih A c g bs w0 w hf hb hr hc hg hB hbs => ?_
  have hu1 := Try.underlying30
  have hu2 := Try.underlying46
  have hu3 := Try.underlying28
  rw [fitT_eq, Bool.and_eq_true] at hf
  rw [mayT_eq]
  obtain ⟨k, n, ps⟩ := t
  simp only at ih hf hr hc ⊢
  have HI := Aside0.mk ih
  have HF := Aside0.mk hf
  have HLB := Aside0.mk hb
  have HR := Aside0.mk hr
  have HC := Aside0.mk hc
  have HG := Aside0.mk hg
  have HB := Aside0.mk (hB.alloc hB.size (.cells #[.int .i64 k, .int .i64 n, .slice A ps.length c] 30))
  have HS := Aside0.mk (blk_alloc hbs (.cells #[.int .i64 k, .int .i64 n, .slice A ps.length c] 30))
  have HX := Aside0.mk (heap_alloc_new w (.cells #[.int .i64 k, .int .i64 n, .slice A ps.length c] 30))
  have HWG := Aside0.mk (show w.heap.size ≠ g from fun e => by have := blk_lt hbs; omega)
  have hml := mark1_len (k := k) (n := n) hb
  obtain ⟨bs1, hbs1⟩ : ∃ x, x = mark1 k n bs := ⟨_, rfl⟩
  rw [← hbs1] at hml ⊢
  have HM1 := Aside0.mk hbs1
  have HML := Aside0.mk hml
  have HK : Aside0 (∀ (j : Nat) (o : Obj), j ≠ g → w.heap[j]? = some o → (w.alloc (.cells #[.int .i64 k, .int .i64 n, .slice A ps.length c] 30)).heap[j]? = some o) := ⟨fun j o _ h => blk_alloc h _⟩
  clear ih hf hb hr hc hg hB hbs hml hbs1
  by_cases h1 : k = 1
  · subst h1
    have hn : 0 ≤ n ∧ n < 10 := by
      have h2 := HF.out.1
      simp only [shapeB] at h2
      simp at h2
      exact h2.1
    have HN := Aside0.mk hn
    have hp : (0 ≤ n) = True := eq_true hn.1
    have hq : (n < 10) = True := eq_true hn.2
    have hnl : n.toNat < bs.length := by have := HLB.out; omega
    have hx : (w.alloc (.cells #[.int .i64 1, .int .i64 n, .slice A ps.length c] 30)).cell? ⟨g, n.toNat, none⟩ = some (.bool (bs[n.toNat]'hnl)) := (blk_cell HS.out n.toNat).trans (arr10_at _)
    have hfz : (w.alloc (.cells #[.int .i64 1, .int .i64 n, .slice A ps.length c] 30)).frozen? ⟨g, n.toNat, none⟩ = false := blk_frozen HS.out n.toNat
    have h3 := blk_set HS.out n.toNat (.bool true)
    rw [arr10_set] at h3
    have hm : mark1 1 n bs = bs.set n.toNat true := by unfold mark1; rw [if_pos rfl]
    rw [← hm, ← HM1.out] at h3
    have HS1 := Aside0.mk h3
    have HB1 : Aside0 _ := ⟨HB.out.setCell (p := ⟨g, n.toNat, none⟩) HG.out (.bool true)⟩
    have HX1 := Aside0.mk (blk_far (p := ⟨g, n.toNat, none⟩) HX.out HWG.out (.bool true))
    have HK1 : Aside0 (∀ (j : Nat) (o : Obj), j ≠ g → w.heap[j]? = some o → ((w.alloc (.cells #[.int .i64 1, .int .i64 n, .slice A ps.length c] 30)).setCell ⟨g, n.toNat, none⟩ (.bool true)).heap[j]? = some o) := ⟨fun j o hj h => (Below.heap_setCell _ _ _ _ hj).trans (HK.out j o hj h)⟩
    clear h3 hm
    go_enter Try.func70, Try.ntmps70
    go_wp2
    go_loopg [4] 0 (fun kq v4 w' => v4 = .int .i64 0 ∧ Aside0 (kq = 0) ∧ Aside0 (w'.heap[g]? = some (.cells (arr10 bs1) 4 (0, 0))) ∧ Aside0 (Below w0.heap.size w0 w') ∧ Aside0 (w'.heap[w.heap.size]? = some (.cells #[.int .i64 1, .int .i64 n, .slice A ps.length c] 30 (0, 0))) ∧ Aside0 (∀ (j : Nat) (o : Obj), j ≠ g → w.heap[j]? = some o → w'.heap[j]? = some o))
    case atStart => exact ⟨rfl, ⟨rfl⟩, HS1, HB1, HX1, HK1⟩
    case round =>
      obtain ⟨rfl, HQ, HS1, HB1, HX1, HK1⟩ := hrel
      have hx0 : wr.cell? ⟨w.heap.size, 0, none⟩ = some (.int .i64 1) := (blk_cell HX1.out 0).trans rfl
      have hk5 : ((1 : Int) == 5) = false := rfl
      have hk5' : decide ((1 : Int) = 5) = false := by decide
      go_wp2
      go_loopg [5] ps.length (fun kq v5 w' => ∃ i : Nat, v5 = .int .i64 (i : Int) ∧ Aside0 (i + kq = ps.length) ∧ Aside0 (w'.heap[g]? = some (.cells (arr10 (mayL (ps.take i) bs1)) 4 (0, 0))) ∧ Aside0 (Below w0.heap.size w0 w') ∧ Aside0 (w'.heap[w.heap.size]? = some (.cells #[.int .i64 1, .int .i64 n, .slice A ps.length c] 30 (0, 0))) ∧ Aside0 (∀ (j : Nat) (o : Obj), j ≠ g → w.heap[j]? = some o → w'.heap[j]? = some o))
      case atStart => exact ⟨0, rfl, ⟨by omega⟩, ⟨by simpa [mayL] using HS1.out⟩, HB1, HX1, HK1⟩
      case round =>
        obtain ⟨i, rfl, HIK, HSr, HBr, HXr, HKr⟩ := hrel
        have hx2 : wr.cell? ⟨w.heap.size, 2, none⟩ = some (.slice A ps.length c) := (blk_cell HXr.out 2).trans rfl
        cases gk with
        | zero =>
          have hi : i = ps.length := by have := HIK.out; omega
          subst hi
          have hb : decide ((ps.length : Int) < (ps.length : Int)) = false := decide_eq_false (by omega)
          go_wp2
          go_end0
          refine ⟨rfl, ?_, HBr.out, HKr.out⟩
          have h3 := HSr.out
          rw [List.take_length] at h3
          exact h3
        | succ gk =>
          have hlt : i < ps.length := by have := HIK.out; omega
          have HLT := Aside0.mk hlt
          have hb : decide ((i : Int) < (ps.length : Int)) = true := decide_eq_true (by omega)
          obtain ⟨ad, A2, c2, e, hy0, hy1, hy2, hl2, hC2⟩ := at_T30 HR.out (i : Int) (by omega) (by omega)
          cases e
          have hlen := HR.out.2.1
          have hmax : (i : Int) + 1 ≤ 9223372036854775807 := by omega
          rw [rd_tk ps i hlt] at hy0 hy1 hy2 hl2 hC2
          have HIT := Aside0.mk (mayL_take ps bs1 i hlt)
          have HFP := Aside0.mk (fitL_mem HF.out.2 _ (List.getElem_mem hlt))
          have HIHP := Aside0.mk (HI.out _ (List.getElem_mem hlt))
          generalize ps[i] = p at hy0 hy1 hy2 hl2 hC2 HIT HFP HIHP
          have hc0 : wr.cell? (ad.add (i * 3)) = some (.int .i64 p.f0) := by
            have h1 := (HBr.out.cell (World.block_lt_of_cell? w0 _ hy0)).trans hy0
            simpa only [Int.toNat_natCast] using h1
          have hc1 : wr.cell? ⟨(ad.add (i * 3)).block, (ad.add (i * 3)).off + 1, none⟩ = some (.int .i64 p.f1) := by
            have h1 := (HBr.out.cell (World.block_lt_of_cell? w0 _ hy1)).trans hy1
            simpa only [Int.toNat_natCast] using h1
          have hc2 : wr.cell? ⟨(ad.add (i * 3)).block, (ad.add (i * 3)).off + 2, none⟩ = some (.slice A2 p.f2.length c2) := by
            have h1 := (HBr.out.cell (World.block_lt_of_cell? w0 _ hy2)).trans hy2
            simpa only [Int.toNat_natCast] using h1
          clear hy0 hy1 hy2
          have p0 : (0 ≤ (i : Int)) = True := eq_true (by omega)
          have q0 : ((i : Int) < (ps.length : Int)) = True := eq_true (by omega)
          have hml2 : (mayL (ps.take i) bs1).length = 10 := by
            rw [mayL_foldl]
            have key : ∀ (qs : List Tk) (b : List Bool), b.length = 10 → (qs.foldl (fun b p => mayT p b) b).length = 10 := by
              intro qs
              induction qs with
              | nil => intro b h; exact h
              | cons q qs ihq => intro b h; exact ihq _ (mayT_len q b h)
            exact key _ _ HML.out
          have CK := Aside0.mk (HIHP.out A2 c2 g (mayL (ps.take i) bs1) w0 wr HFP.out hml2 hC2 hl2 HG.out HBr.out HSr.out)
          clear hl2 hC2 hml2
          go_wp2_with fail
          with_reducible refine CK.out.mono ?_
          rintro e w2 ⟨rfl, h3, h4, h5⟩
          have HS2 := Aside0.mk h3
          have HB2 := Aside0.mk h4
          have HX2 := Aside0.mk (h5 _ _ HWG.out HXr.out)
          have HK2 : Aside0 (∀ (j : Nat) (o : Obj), j ≠ g → w.heap[j]? = some o → w2.heap[j]? = some o) := ⟨fun j o hj h => h5 j o hj (HKr.out j o hj h)⟩
          clear h3 h4 h5 CK hc0 hc1 hc2 hx2
          go_wp2
          go_roundg gk
          case measure => omega
          case rel => exact ⟨i + 1, by go_num, ⟨by have := HIK.out; omega⟩, ⟨by rw [HIT.out]; exact HS2.out⟩, HB2, HX2, HK2⟩
  by_cases h5 : k = 5
  · subst h5
    go_enter Try.func70, Try.ntmps70
    go_wp2
    go_loopg [4] 10 (fun kq v4 w' => ∃ i : Nat, v4 = .int .i64 (i : Int) ∧ Aside0 (i + kq = 10) ∧ Aside0 (w'.heap[g]? = some (.cells (arr10 (List.replicate i true ++ bs.drop i)) 4 (0, 0))) ∧ Aside0 (Below w0.heap.size w0 w') ∧ Aside0 (w'.heap[w.heap.size]? = some (.cells #[.int .i64 5, .int .i64 n, .slice A ps.length c] 30 (0, 0))) ∧ Aside0 (∀ (j : Nat) (o : Obj), j ≠ g → w.heap[j]? = some o → w'.heap[j]? = some o))
    case atStart => exact ⟨0, rfl, ⟨by omega⟩, ⟨by simpa using HS.out⟩, HB, HX, HK⟩
    case round =>
      obtain ⟨i, rfl, HIK, HSr, HBr, HX1, HK1⟩ := hrel
      have hx0 : wr.cell? ⟨w.heap.size, 0, none⟩ = some (.int .i64 5) := (blk_cell HX1.out 0).trans rfl
      cases gk with
      | zero =>
        have hi : i = 10 := by have := HIK.out; omega
        subst hi
        have h3 := HSr.out
        have hd : bs.drop 10 = [] := List.drop_of_length_le (by rw [HLB.out]; exact Nat.le_refl _)
        have hm : mark1 5 n bs = List.replicate 10 true := by unfold mark1; rw [if_neg (by decide), if_pos rfl]
        rw [hd, List.append_nil, ← hm, ← HM1.out] at h3
        have HS1 := Aside0.mk h3
        have HB1 := HBr
        clear h3 hd hm
        go_wp2
        go_loopg [5] ps.length (fun kq v5 w' => ∃ i : Nat, v5 = .int .i64 (i : Int) ∧ Aside0 (i + kq = ps.length) ∧ Aside0 (w'.heap[g]? = some (.cells (arr10 (mayL (ps.take i) bs1)) 4 (0, 0))) ∧ Aside0 (Below w0.heap.size w0 w') ∧ Aside0 (w'.heap[w.heap.size]? = some (.cells #[.int .i64 5, .int .i64 n, .slice A ps.length c] 30 (0, 0))) ∧ Aside0 (∀ (j : Nat) (o : Obj), j ≠ g → w.heap[j]? = some o → w'.heap[j]? = some o))
        case atStart => exact ⟨0, rfl, ⟨by omega⟩, ⟨by simpa [mayL] using HS1.out⟩, HB1, HX1, HK1⟩
        case round =>
          obtain ⟨i, rfl, HIK, HSr, HBr, HXr, HKr⟩ := hrel
          have hx2 : wr.cell? ⟨w.heap.size, 2, none⟩ = some (.slice A ps.length c) := (blk_cell HXr.out 2).trans rfl
          cases gk with
          | zero =>
            have hi : i = ps.length := by have := HIK.out; omega
            subst hi
            have hb : decide ((ps.length : Int) < (ps.length : Int)) = false := decide_eq_false (by omega)
            go_wp2
            go_end0
            refine ⟨rfl, ?_, HBr.out, HKr.out⟩
            have h3 := HSr.out
            rw [List.take_length] at h3
            exact h3
          | succ gk =>
            have hlt : i < ps.length := by have := HIK.out; omega
            have HLT := Aside0.mk hlt
            have hb : decide ((i : Int) < (ps.length : Int)) = true := decide_eq_true (by omega)
            obtain ⟨ad, A2, c2, e, hy0, hy1, hy2, hl2, hC2⟩ := at_T30 HR.out (i : Int) (by omega) (by omega)
            cases e
            have hlen := HR.out.2.1
            have hmax : (i : Int) + 1 ≤ 9223372036854775807 := by omega
            rw [rd_tk ps i hlt] at hy0 hy1 hy2 hl2 hC2
            have HIT := Aside0.mk (mayL_take ps bs1 i hlt)
            have HFP := Aside0.mk (fitL_mem HF.out.2 _ (List.getElem_mem hlt))
            have HIHP := Aside0.mk (HI.out _ (List.getElem_mem hlt))
            generalize ps[i] = p at hy0 hy1 hy2 hl2 hC2 HIT HFP HIHP
            have hc0 : wr.cell? (ad.add (i * 3)) = some (.int .i64 p.f0) := by
              have h1 := (HBr.out.cell (World.block_lt_of_cell? w0 _ hy0)).trans hy0
              simpa only [Int.toNat_natCast] using h1
            have hc1 : wr.cell? ⟨(ad.add (i * 3)).block, (ad.add (i * 3)).off + 1, none⟩ = some (.int .i64 p.f1) := by
              have h1 := (HBr.out.cell (World.block_lt_of_cell? w0 _ hy1)).trans hy1
              simpa only [Int.toNat_natCast] using h1
            have hc2 : wr.cell? ⟨(ad.add (i * 3)).block, (ad.add (i * 3)).off + 2, none⟩ = some (.slice A2 p.f2.length c2) := by
              have h1 := (HBr.out.cell (World.block_lt_of_cell? w0 _ hy2)).trans hy2
              simpa only [Int.toNat_natCast] using h1
            clear hy0 hy1 hy2
            have p0 : (0 ≤ (i : Int)) = True := eq_true (by omega)
            have q0 : ((i : Int) < (ps.length : Int)) = True := eq_true (by omega)
            have hml2 : (mayL (ps.take i) bs1).length = 10 := by
              rw [mayL_foldl]
              have key : ∀ (qs : List Tk) (b : List Bool), b.length = 10 → (qs.foldl (fun b p => mayT p b) b).length = 10 := by
                intro qs
                induction qs with
                | nil => intro b h; exact h
                | cons q qs ihq => intro b h; exact ihq _ (mayT_len q b h)
              exact key _ _ HML.out
            have CK := Aside0.mk (HIHP.out A2 c2 g (mayL (ps.take i) bs1) w0 wr HFP.out hml2 hC2 hl2 HG.out HBr.out HSr.out)
            clear hl2 hC2 hml2
            go_wp2_with fail
            with_reducible refine CK.out.mono ?_
            rintro e w2 ⟨rfl, h3, h4, h5⟩
            have HS2 := Aside0.mk h3
            have HB2 := Aside0.mk h4
            have HX2 := Aside0.mk (h5 _ _ HWG.out HXr.out)
            have HK2 : Aside0 (∀ (j : Nat) (o : Obj), j ≠ g → w.heap[j]? = some o → w2.heap[j]? = some o) := ⟨fun j o hj h => h5 j o hj (HKr.out j o hj h)⟩
            clear h3 h4 h5 CK hc0 hc1 hc2 hx2
            go_wp2
            go_roundg gk
            case measure => omega
            case rel => exact ⟨i + 1, by go_num, ⟨by have := HIK.out; omega⟩, ⟨by rw [HIT.out]; exact HS2.out⟩, HB2, HX2, HK2⟩
      | succ gk =>
        have hlt : i < 10 := by have := HIK.out; omega
        have HLT := Aside0.mk hlt
        have hb' : decide ((i : Int) < 10) = true := decide_eq_true (by omega)
        have hll : (List.replicate i true ++ bs.drop i).length = 10 := by rw [List.length_append, List.length_replicate, List.length_drop, HLB.out]; omega
        have hx : wr.cell? ⟨g, i, none⟩ = some (.bool ((List.replicate i true ++ bs.drop i)[i]'(by rw [hll]; exact hlt))) := (blk_cell HSr.out i).trans (arr10_at _)
        have hfz : wr.frozen? ⟨g, i, none⟩ = false := blk_frozen HSr.out i
        have hp : (0 ≤ (i : Int)) = True := eq_true (by omega)
        have hq : ((i : Int) < 10) = True := eq_true (by omega)
        go_wp2
        go_roundg gk
        case measure => omega
        case rel =>
          refine ⟨i + 1, by go_num, ⟨by have := HIK.out; omega⟩, ⟨?_⟩, ⟨HBr.out.setCell HG.out _⟩, ⟨blk_far HX1.out HWG.out _⟩, ⟨fun j o hj h => (Below.heap_setCell _ _ _ _ hj).trans (HK1.out j o hj h)⟩⟩
          have h3 := blk_set HSr.out i (.bool true)
          rw [arr10_set, fill_step bs HLB.out i HLT.out] at h3
          exact h3
  · have hk1 : decide (k = 1) = false := decide_eq_false h1
    have hk1' : (k == 1) = false := by simp [h1]
    have HS1 : Aside0 ((w.alloc (.cells #[.int .i64 k, .int .i64 n, .slice A ps.length c] 30)).heap[g]? = some (.cells (arr10 bs1) 4 (0, 0))) := ⟨by rw [HM1.out]; unfold mark1; rw [if_neg h1, if_neg h5]; exact HS.out⟩
    have HB1 := HB
    have HX1 := HX
    have HK1 := HK
    have H5 := Aside0.mk h5
    clear h1 h5
    go_enter Try.func70, Try.ntmps70
    go_wp2
    go_loopg [4] 0 (fun kq v4 w' => v4 = .int .i64 0 ∧ Aside0 (kq = 0) ∧ Aside0 (w'.heap[g]? = some (.cells (arr10 bs1) 4 (0, 0))) ∧ Aside0 (Below w0.heap.size w0 w') ∧ Aside0 (w'.heap[w.heap.size]? = some (.cells #[.int .i64 k, .int .i64 n, .slice A ps.length c] 30 (0, 0))) ∧ Aside0 (∀ (j : Nat) (o : Obj), j ≠ g → w.heap[j]? = some o → w'.heap[j]? = some o))
    case atStart => exact ⟨rfl, ⟨rfl⟩, HS1, HB1, HX1, HK1⟩
    case round =>
      obtain ⟨rfl, HQ, HS1, HB1, HX1, HK1⟩ := hrel
      have hx0 : wr.cell? ⟨w.heap.size, 0, none⟩ = some (.int .i64 k) := (blk_cell HX1.out 0).trans rfl
      have hk5 : ((k : Int) == 5) = false := by simp [H5.out]
      have hk5' : decide ((k : Int) = 5) = false := decide_eq_false H5.out
      go_wp2
      go_loopg [5] ps.length (fun kq v5 w' => ∃ i : Nat, v5 = .int .i64 (i : Int) ∧ Aside0 (i + kq = ps.length) ∧ Aside0 (w'.heap[g]? = some (.cells (arr10 (mayL (ps.take i) bs1)) 4 (0, 0))) ∧ Aside0 (Below w0.heap.size w0 w') ∧ Aside0 (w'.heap[w.heap.size]? = some (.cells #[.int .i64 k, .int .i64 n, .slice A ps.length c] 30 (0, 0))) ∧ Aside0 (∀ (j : Nat) (o : Obj), j ≠ g → w.heap[j]? = some o → w'.heap[j]? = some o))
      case atStart => exact ⟨0, rfl, ⟨by omega⟩, ⟨by simpa [mayL] using HS1.out⟩, HB1, HX1, HK1⟩
      case round =>
        obtain ⟨i, rfl, HIK, HSr, HBr, HXr, HKr⟩ := hrel
        have hx2 : wr.cell? ⟨w.heap.size, 2, none⟩ = some (.slice A ps.length c) := (blk_cell HXr.out 2).trans rfl
        cases gk with
        | zero =>
          have hi : i = ps.length := by have := HIK.out; omega
          subst hi
          have hb : decide ((ps.length : Int) < (ps.length : Int)) = false := decide_eq_false (by omega)
          go_wp2
          go_end0
          refine ⟨rfl, ?_, HBr.out, HKr.out⟩
          have h3 := HSr.out
          rw [List.take_length] at h3
          exact h3
        | succ gk =>
          have hlt : i < ps.length := by have := HIK.out; omega
          have HLT := Aside0.mk hlt
          have hb : decide ((i : Int) < (ps.length : Int)) = true := decide_eq_true (by omega)
          obtain ⟨ad, A2, c2, e, hy0, hy1, hy2, hl2, hC2⟩ := at_T30 HR.out (i : Int) (by omega) (by omega)
          cases e
          have hlen := HR.out.2.1
          have hmax : (i : Int) + 1 ≤ 9223372036854775807 := by omega
          rw [rd_tk ps i hlt] at hy0 hy1 hy2 hl2 hC2
          have HIT := Aside0.mk (mayL_take ps bs1 i hlt)
          have HFP := Aside0.mk (fitL_mem HF.out.2 _ (List.getElem_mem hlt))
          have HIHP := Aside0.mk (HI.out _ (List.getElem_mem hlt))
          generalize ps[i] = p at hy0 hy1 hy2 hl2 hC2 HIT HFP HIHP
          have hc0 : wr.cell? (ad.add (i * 3)) = some (.int .i64 p.f0) := by
            have h1 := (HBr.out.cell (World.block_lt_of_cell? w0 _ hy0)).trans hy0
            simpa only [Int.toNat_natCast] using h1
          have hc1 : wr.cell? ⟨(ad.add (i * 3)).block, (ad.add (i * 3)).off + 1, none⟩ = some (.int .i64 p.f1) := by
            have h1 := (HBr.out.cell (World.block_lt_of_cell? w0 _ hy1)).trans hy1
            simpa only [Int.toNat_natCast] using h1
          have hc2 : wr.cell? ⟨(ad.add (i * 3)).block, (ad.add (i * 3)).off + 2, none⟩ = some (.slice A2 p.f2.length c2) := by
            have h1 := (HBr.out.cell (World.block_lt_of_cell? w0 _ hy2)).trans hy2
            simpa only [Int.toNat_natCast] using h1
          clear hy0 hy1 hy2
          have p0 : (0 ≤ (i : Int)) = True := eq_true (by omega)
          have q0 : ((i : Int) < (ps.length : Int)) = True := eq_true (by omega)
          have hml2 : (mayL (ps.take i) bs1).length = 10 := by
            rw [mayL_foldl]
            have key : ∀ (qs : List Tk) (b : List Bool), b.length = 10 → (qs.foldl (fun b p => mayT p b) b).length = 10 := by
              intro qs
              induction qs with
              | nil => intro b h; exact h
              | cons q qs ihq => intro b h; exact ihq _ (mayT_len q b h)
            exact key _ _ HML.out
          have CK := Aside0.mk (HIHP.out A2 c2 g (mayL (ps.take i) bs1) w0 wr HFP.out hml2 hC2 hl2 HG.out HBr.out HSr.out)
          clear hl2 hC2 hml2
          go_wp2_with fail
          with_reducible refine CK.out.mono ?_
          rintro e w2 ⟨rfl, h3, h4, h5⟩
          have HS2 := Aside0.mk h3
          have HB2 := Aside0.mk h4
          have HX2 := Aside0.mk (h5 _ _ HWG.out HXr.out)
          have HK2 : Aside0 (∀ (j : Nat) (o : Obj), j ≠ g → w.heap[j]? = some o → w2.heap[j]? = some o) := ⟨fun j o hj h => h5 j o hj (HKr.out j o hj h)⟩
          clear h3 h4 h5 CK hc0 hc1 hc2 hx2
          go_wp2
          go_roundg gk
          case measure => omega
          case rel => exact ⟨i + 1, by go_num, ⟨by have := HIK.out; omega⟩, ⟨by rw [HIT.out]; exact HS2.out⟩, HB2, HX2, HK2⟩
end Go.Proofs.Ytgbjbpjmbghlbaa.G
end
section
namespace Go.Proofs.Ytgbjbpjmbghlbaa.G
open Go.RowKit Go.Proofs.YtgbjbpjmbghlbaaW.PrintWords
set_option linter.unusedVariables false
set_option linter.unusedSimpArgs false
abbrev Fk := S117
end Go.Proofs.Ytgbjbpjmbghlbaa.G
end
section
namespace Go.Proofs.Ytgbjbpjmbghlbaa.G
open Go.RowKit Go.Proofs.YtgbjbpjmbghlbaaW.PrintWords
set_option linter.unusedVariables false
set_option linter.unusedSimpArgs false
def mayK (t : Tk) : List Int := if okT t = true then idxTo (mayT t (List.replicate 10 false)) 10 else []
theorem mayK_len (t : Tk) : (mayK t).length ≤ 10 := by
  unfold mayK
  split
  · exact idxTo_len _ _
  · simp
end Go.Proofs.Ytgbjbpjmbghlbaa.G
end
section
namespace Go.Proofs.Ytgbjbpjmbghlbaa.G
open Go.RowKit Go.Proofs.YtgbjbpjmbghlbaaW.PrintWords Go.Proofs.YtgbjbpjmbghlbaaW.PrintLast Go.Proofs.YtgbjbpjmbghlbaaW.PrintMore
set_option linter.unusedVariables false
set_option linter.unusedSimpArgs false
def spec_TaskMay.f (k : Nat) (a0_0 : Int) (a0_1 : Int) (l0_2 : List Tk) : Option (List Int) := (spec_TaskOk.f k a0_0 a0_1 l0_2).bind fun b => if b = true then (if fitT ⟨a0_0, a0_1, l0_2⟩ = true then some (idxTo (mayT ⟨a0_0, a0_1, l0_2⟩ (List.replicate 10 false)) 10) else none) else some []
theorem infoBool : (Try.prog.info? 4).map (fun i => (i.zero, i.size, i.bytes)) = some (some (.bool false), 1, 1) := by kernel_rfl
theorem make10 (w : World) : (Instr.makeSlice 46 (.int .i64 10) (.int .i64 10)).run Try.prog w = .ok (.slice (some ⟨w.heap.size, 0, none⟩) 10 10) (w.alloc (.cells #[.bool false, .bool false, .bool false, .bool false, .bool false, .bool false, .bool false, .bool false, .bool false, .bool false] 4)) := by
  have h := infoBool
  cases hi : Try.prog.info? 4 with
  | none => rw [hi] at h; cases h
  | some i =>
    rw [hi] at h
    simp only [Option.map_some, Option.some.injEq, Prod.mk.injEq] at h
    obtain ⟨hz, hs, hb⟩ := h
    have h1 := run_make w 46 4 i (.bool false) Try.underlying46 hi hz .i64 .i64 10 10 (by omega) (by omega) (by rw [hb]; decide) (by omega)
    rw [hs] at h1
    rw [show madeCells (Value.bool false).cells (Int.toNat 10 * 1) = #[.bool false, .bool false, .bool false, .bool false, .bool false, .bool false, .bool false, .bool false, .bool false, .bool false] from by kernel_rfl] at h1
    exact h1
set_option maxHeartbeats 8000000 in
set_option maxRecDepth 100000 in
theorem spec_TaskMay.calls (k : Nat) (a0_0 : Int) (a0_1 : Int) (A0_2 : Option Addr) (c0_2 : Nat) (l0_2 : List S30) (r : List Int) (w : World) (hr0_2 : Kd.C k30 w A0_2 l0_2.length l0_2) (hc0_2 : l0_2.length ≤ c0_2) (h : spec_TaskMay.f k a0_0 a0_1 l0_2 = some r) :
    Calls Try.prog 16 #[.agg #[.int .i64 a0_0, .int .i64 a0_1, .slice A0_2 l0_2.length c0_2]] w fun e w' => ∃ v0_ : Value, e = .returned v0_ ∧ Kd.R (Kd.int .i64) 3 w' w.heap.size (fun _ => True) v0_ r ∧ Below w.heap.size w w' := by
  have hu1 := Try.underlying30
  have hu2 := Try.underlying46
  have hu3 := Try.underlying26
  have hmk := make10
  unfold spec_TaskMay.f at h
  obtain ⟨b, hb, h⟩ := Option.bind_eq_some_iff.mp h
  have hbx := heap_alloc_new w (.cells #[.int .i64 a0_0, .int .i64 a0_1, .slice A0_2 l0_2.length c0_2] 30)
  have BX := Aside0.mk hbx
  have HR := Aside0.mk hr0_2
  have HC := Aside0.mk hc0_2
  have HOK := Aside0.mk hb
  have HA := Aside0.mk ((Below.refl w.heap.size w).alloc (Nat.le_refl _) (.cells #[.int .i64 a0_0, .int .i64 a0_1, .slice A0_2 l0_2.length c0_2] 30))
  clear hbx hr0_2 hc0_2 hb
  have H := Aside0.mk h
  clear h
  go_enter Try.func16, Try.ntmps16
  go_wp2_with (first | ((with_reducible refine gate_dst (N := 6) rfl ?_); refine Kd.R_lit (Kd.int .i64) (w0 := w) w.heap.size 3 ?hg (N := 6) ?hd (xs := ([] : List Int)) (inner := []) (ok := fun _ => True) (okp := fun _ => True) ?hr ?hp (fun _ hk => hk) trivial HA.out HA.out.size (by simp) ?_; (case hd => rfl); (case hg => rfl); (case hr => first | (go_simp; done) | (go_simp; rfl)); (case hp => exact (Reps.none _ _)); intro v1 w1 ho hb hg hnew; have HO := Aside0.mk ho; have HB := Aside0.mk hb; have BX1 := Aside0.mk ((hg.block _ (blk_lt BX.out) (by simp)).trans BX.out); clear ho hb hg hnew BX HA; have hx0 : w1.cell? ⟨w.heap.size, 0, none⟩ = some (.int .i64 a0_0) := (blk_cell BX1.out 0).trans rfl; have hx1 : w1.cell? ⟨w.heap.size, 1, none⟩ = some (.int .i64 a0_1) := (blk_cell BX1.out 1).trans rfl; have hx2 : w1.cell? ⟨w.heap.size, 2, none⟩ = some (.slice A0_2 l0_2.length c0_2) := (blk_cell BX1.out 2).trans rfl))
  have CK := Aside0.mk (spec_TaskOk.calls k a0_0 a0_1 A0_2 c0_2 l0_2 b w1 (Kd.C_below HR.out HB.out) HC.out HOK.out)
  clear HOK
  with_reducible refine CK.out.mono ?_
  rintro e w2 ⟨rfl, hb1⟩
  have HB2 := Aside0.mk (HB.out.trans (hb1.mono HB.out.size))
  have BX2 := Aside0.mk ((hb1.block _ (blk_lt BX1.out)).trans BX1.out)
  have HO2 := Aside0.mk (Kd.R_below HO.out hb1)
  clear CK hb1 hx0 hx1 hx2 BX1 HO HB
  have hx0 : w2.cell? ⟨w.heap.size, 0, none⟩ = some (.int .i64 a0_0) := (blk_cell BX2.out 0).trans rfl
  have hx1 : w2.cell? ⟨w.heap.size, 1, none⟩ = some (.int .i64 a0_1) := (blk_cell BX2.out 1).trans rfl
  have hx2 : w2.cell? ⟨w.heap.size, 2, none⟩ = some (.slice A0_2 l0_2.length c0_2) := (blk_cell BX2.out 2).trans rfl
  cases b with
  | false =>
    have h := H.out
    simp only [Bool.false_eq_true, if_false] at h
    obtain rfl := Option.some.inj h
    clear h H
    go_wp2
    go_ret
    exact ⟨_, rfl, HO2.out, HB2.out⟩
  | true =>
    have h := H.out
    simp only [if_true] at h
    clear H
    split at h
    · rename_i hf
      have hr := Option.some.inj h
      have hml := mayT_len ⟨a0_0, a0_1, l0_2⟩ (List.replicate 10 false) (by simp)
      have HF := Aside0.mk hf
      obtain ⟨g, hg⟩ : ∃ g, g = w2.heap.size := ⟨_, rfl⟩
      have HG := Aside0.mk hg
      have hal : (w2.alloc (.cells #[.bool false, .bool false, .bool false, .bool false, .bool false, .bool false, .bool false, .bool false, .bool false, .bool false] 4)).heap[w2.heap.size]? = some (.cells (arr10 (List.replicate 10 false)) 4 (0, 0)) := heap_alloc_new w2 _
      have BXa := Aside0.mk (blk_alloc BX2.out (.cells #[.bool false, .bool false, .bool false, .bool false, .bool false, .bool false, .bool false, .bool false, .bool false, .bool false] 4))
      have HBa := Aside0.mk (HB2.out.alloc HB2.out.size (.cells #[.bool false, .bool false, .bool false, .bool false, .bool false, .bool false, .bool false, .bool false, .bool false, .bool false] 4))
      have CK := Aside0.mk (l2may_w ⟨a0_0, a0_1, l0_2⟩ A0_2 c0_2 w2.heap.size (List.replicate 10 false) w (w2.alloc (.cells #[.bool false, .bool false, .bool false, .bool false, .bool false, .bool false, .bool false, .bool false, .bool false, .bool false] 4)) hf (by simp) HR.out HC.out HB2.out.size HBa.out hal)
      have HOa : Aside0 (Kd.R (Kd.int .i64) 3 (w2.alloc (.cells #[.bool false, .bool false, .bool false, .bool false, .bool false, .bool false, .bool false, .bool false, .bool false, .bool false] 4)) w.heap.size (fun j => j ≠ w2.heap.size) v1 []) := ⟨Kd.R_alloc (Kd.R_mono (Kd.R_bound HO2.out) (fun j hj => by have := hj.2.2.1; omega)) _⟩
      have HWS := Aside0.mk HB2.out.size
      have hxa0 : (w2.alloc (.cells #[.bool false, .bool false, .bool false, .bool false, .bool false, .bool false, .bool false, .bool false, .bool false, .bool false] 4)).cell? ⟨w.heap.size, 0, none⟩ = some (.int .i64 a0_0) := (blk_cell BXa.out 0).trans rfl
      have hxa1 : (w2.alloc (.cells #[.bool false, .bool false, .bool false, .bool false, .bool false, .bool false, .bool false, .bool false, .bool false, .bool false] 4)).cell? ⟨w.heap.size, 1, none⟩ = some (.int .i64 a0_1) := (blk_cell BXa.out 1).trans rfl
      have hxa2 : (w2.alloc (.cells #[.bool false, .bool false, .bool false, .bool false, .bool false, .bool false, .bool false, .bool false, .bool false, .bool false] 4)).cell? ⟨w.heap.size, 2, none⟩ = some (.slice A0_2 l0_2.length c0_2) := (blk_cell BXa.out 2).trans rfl
      generalize mayT ⟨a0_0, a0_1, l0_2⟩ (List.replicate 10 false) = bs at hr hml CK
      subst hr
      have HML := Aside0.mk hml
      clear h hf hml hal hx0 hx1 hx2 HO2 BX2 BXa hg HG
      go_wp2_with fail
      with_reducible refine CK.out.mono ?_
      rintro e w3 ⟨rfl, h3, h4, h5⟩
      have HS := Aside0.mk h3
      have HB3 := Aside0.mk h4
      have HO3 : Aside0 (Kd.R (Kd.int .i64) 3 w3 w.heap.size (fun j => j ≠ w2.heap.size) v1 []) := ⟨Kd.R_mono (Kd.R_move (Kd.R_bound HOa.out) (fun j hj => by
        obtain ⟨q1, q2, q3, q4⟩ := hj
        have hq : ∃ o, (w2.alloc (.cells #[.bool false, .bool false, .bool false, .bool false, .bool false, .bool false, .bool false, .bool false, .bool false, .bool false] 4)).heap[j]? = some o := ⟨_, Array.getElem?_eq_getElem q3⟩
        obtain ⟨o, ho⟩ := hq
        rw [ho]
        exact h5 j o q1 ho)) (fun j hj => hj.1)⟩
      clear CK h3 h4 h5 hxa0 hxa1 hxa2 HBa HOa
      obtain ⟨g, hg⟩ : ∃ g, g = w2.heap.size := ⟨_, rfl⟩
      rw [← hg] at HS HO3
      have HGW : Aside0 (w.heap.size ≤ g) := ⟨by rw [hg]; exact HWS.out⟩
      have HG := Aside0.mk hg
      clear hg HWS
      go_wp2
      go_loopg [3, 5] 10 (fun kq v3 v5 w' => ∃ i : Nat, v5 = .int .i64 (i : Int) ∧ Aside0 (i + kq = 10) ∧ Aside0 (Kd.R (Kd.int .i64) 3 w' w.heap.size (fun j => j ≠ g) v3 (idxTo bs i)) ∧ Aside0 (Below w.heap.size w w') ∧ Aside0 (w'.heap[g]? = some (.cells (arr10 bs) 4 (0, 0))))
      case atStart => exact ⟨0, by simp, ⟨by omega⟩, HO3, HB3, HS⟩
      case round =>
        obtain ⟨i, rfl, HI, HO, HB4, HS4⟩ := hrel
        cases gk with
        | zero =>
          have hi : i = 10 := by have := HI.out; omega
          subst hi
          go_wp2
          go_ret
          exact ⟨_, rfl, Kd.R_mono HO.out (fun _ _ => trivial), HB4.out⟩
        | succ gk =>
          have hlt : i < 10 := by have := HI.out; omega
          have HLT := Aside0.mk hlt
          have HOL := Aside0.mk (idxTo_len bs i)
          have hb' : decide ((i : Int) < 10) = true := decide_eq_true (by omega)
          have hp : (0 ≤ (i : Int)) = True := eq_true (by omega)
          have hq : ((i : Int) < 10) = True := eq_true (by omega)
          have hlb : i < bs.length := by rw [HML.out]; exact hlt
          have hx : wr.cell? ⟨g, i, none⟩ = some (.bool (bs.getD i false)) := (blk_cell HS4.out i).trans (by rw [arr10_at hlb, List.getD_eq_getElem?_getD, List.getElem?_eq_getElem hlb, Option.getD_some])
          have hx' : wr.cell? ⟨w2.heap.size, i, none⟩ = some (.bool (bs.getD i false)) := by rw [← HG.out]; exact hx
          cases hbi : bs.getD i false with
          | true =>
            rw [hbi] at hx hx'
            have HN : Aside0 (idxTo bs (i + 1) = idxTo bs i ++ [(i : Int)]) := ⟨by rw [idxTo, if_pos hbi]⟩
            clear hbi hlb
            generalize idxTo bs i = out at HO HOL HN
            obtain ⟨Ao, co, eo⟩ := Kd.R_slice HO.out
            subst eo
            go_wp2_with (first | (at_builtin; refine Kd.R_append (Kd.int .i64) (w0 := w) w.heap.size rfl (.tmp 25) (.tmp 27) 26 3 (.int .i64 0) 8 rfl Try.underlying26 infoInt rfl (by decide) (by omega) (.slice Ao out.length co) out (i : Int) [.int .i64 (i : Int)] (fun j => j ≠ g) (fun _ => False) rfl rfl ?aP (fun _ hk => hk.elim) ?aF ?aO ?aB ?aS ?aL ?_; (case aP => rfl); (case aB => exact HB4.out); (case aF => exact (fun j hj e => by have := blk_lt HS4.out; omega)); (case aO => exact HO.out); (case aS => exact HB4.out.size); (case aL => have := HOL.out; have := HLT.out; omega); intro v2 w4 ho hb hg hat; have HO2 := Aside0.mk ho; have HB5 := Aside0.mk hb; have HS5 := Aside0.mk ((hg.block g (blk_lt HS4.out) (fun e => HO.out.1 g e.symm rfl)).trans HS4.out); clear ho hb hg hat))
            go_roundg gk
            case measure => omega
            case rel => exact ⟨i + 1, by go_num, ⟨by have := HI.out; omega⟩, ⟨by rw [HN.out]; exact HO2.out⟩, HB5, HS5⟩
          | false =>
            rw [hbi] at hx hx'
            have HN : Aside0 (idxTo bs (i + 1) = idxTo bs i) := ⟨by rw [idxTo, if_neg (by rw [hbi]; decide)]⟩
            clear hbi hlb
            go_wp2
            go_roundg gk
            case measure => omega
            case rel => exact ⟨i + 1, by go_num, ⟨by have := HI.out; omega⟩, ⟨by rw [HN.out]; exact HO.out⟩, HB4, HS4⟩
    · cases h
end Go.Proofs.Ytgbjbpjmbghlbaa.G
end
section
namespace Go.Proofs.Ytgbjbpjmbghlbaa.G
open Go.RowKit Go.Proofs.YtgbjbpjmbghlbaaW.PrintWords Go.Proofs.YtgbjbpjmbghlbaaW.PrintLast Go.Proofs.YtgbjbpjmbghlbaaW.PrintMore
set_option linter.unusedVariables false
set_option linter.unusedSimpArgs false
def idxFrom {α : Type} (P : α → Bool) : List α → Nat → Int
  | [], _ => -1
  | x :: xs, i => if P x = true then (i : Int) else idxFrom P xs (i + 1)
def Tells (c : Nat) (lb : Array Value) {α : Type} (enc : α → Value) (P : α → Bool) (w : World) (l : List α) : Prop :=
  ∀ x ∈ l, ∀ W, Below w.heap.size w W → Calls Try.prog c (#[enc x] ++ lb) W fun e W' => e = .returned (.bool (P x)) ∧ Below W.heap.size W W'
set_option maxHeartbeats 8000000 in
set_option maxRecDepth 100000 in
theorem indexFunc_int (c : Nat) (lb : Array Value) (P : Int → Bool) (A : Option Addr) (cap : Nat) (l : List Int) (w : World) (hr : Kd.C (Kd.int .i64) w A l.length l) (hrun : ∀ (args : Array Value) (W : World), (callFunc c args).run Try.prog W = .ok (.enter c args) W) (hT : Tells c lb (Value.int .i64) P w l) :
    Calls Try.prog 154 #[.slice A l.length cap, .func (.func c) #[] lb] w fun e w' => e = .returned (.int .i64 (idxFrom P l 0)) ∧ Below w.heap.size w w' := by
  have HR := Aside0.mk hr
  have HT := Aside0.mk hT
  have hE := hrun
  clear hr hT hrun
  go_enter Try.func154, Try.ntmps154
  go_wp2
  go_loopg [8] l.length (fun kq v8 w' => ∃ i : Nat, v8 = .int .i64 (i : Int) ∧ Aside0 (i + kq = l.length) ∧ Aside0 (idxFrom P l 0 = idxFrom P (l.drop i) i) ∧ Aside0 (Below w.heap.size w w'))
  case atStart => exact ⟨0, by simp, ⟨by omega⟩, ⟨by simp⟩, ⟨Below.refl _ _⟩⟩
  case round =>
    obtain ⟨i, rfl, HI, HP, HB⟩ := hrel
    cases gk with
    | zero =>
      have hi : i = l.length := by have := HI.out; omega
      subst hi
      have hb : decide ((l.length : Int) < (l.length : Int)) = false := decide_eq_false (by omega)
      have hres : idxFrom P l 0 = -1 := by rw [HP.out, List.drop_length]; rfl
      have HRes := Aside0.mk hres
      clear hres HP
      go_wp2
      go_ret
      exact ⟨by rw [HRes.out]; rfl, HB.out⟩
    | succ gk =>
      have hlt : i < l.length := by have := HI.out; omega
      have hb : decide ((i : Int) < (l.length : Int)) = true := decide_eq_true (by omega)
      obtain ⟨ad, e, hx⟩ := Kd.at_int HR.out (i : Int) (by omega) (by omega)
      cases e
      have hlen := HR.out.2.1
      have hmax : (i : Int) + 1 ≤ 9223372036854775807 := by omega
      have hcell : wr.cell? (ad.add i) = some (.int .i64 (rd l (i : Int))) := by
        have h1 := (HB.out.cell (World.block_lt_of_cell? w _ hx)).trans hx
        simpa using h1
      have p0 : (0 ≤ (i : Int)) = True := eq_true (by omega)
      have q0 : ((i : Int) < (l.length : Int)) = True := eq_true (by omega)
      clear hx
      have hstep : idxFrom P l 0 = if P (rd l (i : Int)) = true then (i : Int) else idxFrom P (l.drop (i + 1)) (i + 1) := by
        rw [HP.out, List.drop_eq_getElem_cons hlt, idxFrom]
        simp [rd, List.getElem?_eq_getElem hlt]
      have HS := Aside0.mk hstep
      clear hstep HP
      go_wp2_with fail
      refine (HT.out _ (by simp only [rd, Int.toNat_natCast, List.getD_eq_getElem?_getD, List.getElem?_eq_getElem hlt, Option.getD_some]; exact List.getElem_mem hlt) wr HB.out).mono ?_
      rintro e w1 ⟨rfl, hb1⟩
      have HB1 := Aside0.mk (HB.out.trans (hb1.mono HB.out.size))
      clear hb1 HB hcell
      by_cases hP : P (rd l (i : Int)) = true
      · have HR1 := Aside0.mk (HS.out.trans (if_pos hP))
        go_wp2
        go_ret
        exact ⟨by rw [HR1.out]; rfl, HB1.out⟩
      · have HR1 := Aside0.mk (HS.out.trans (if_neg hP))
        have hP' : P (rd l (i : Int)) = false := by simpa using hP
        clear hP
        go_wp2
        go_roundg gk
        case measure => omega
        case rel => exact ⟨i + 1, by go_num, ⟨by have := HI.out; omega⟩, ⟨HR1.out⟩, HB1⟩
end Go.Proofs.Ytgbjbpjmbghlbaa.G
end
section
namespace Go.Proofs.Ytgbjbpjmbghlbaa.G
open Go.RowKit Go.Proofs.YtgbjbpjmbghlbaaW.PrintWords Go.Proofs.YtgbjbpjmbghlbaaW.PrintLast Go.Proofs.YtgbjbpjmbghlbaaW.PrintMore
set_option linter.unusedVariables false
set_option linter.unusedSimpArgs false
structure RunAt (w0 : World) (B V : Nat) (A : Option Addr) (c : Nat) (vs : List Int) (S : Nat → Prop) (out : List Fk) (W : World) : Prop where
  below : Below w0.heap.size w0 W
  hv : W.heap[V]? = some (.cells #[.slice A vs.length c] 26 (0, 0))
  hr : Kd.C (Kd.int .i64) w0 A vs.length vs
  hc : vs.length ≤ c
  ho : ∃ v, W.heap[B]? = some (.cells #[v] 85 (0, 0)) ∧ Kd.R k117 117 W w0.heap.size (fun k => ¬ S k) v out
  hS : ∀ k, S k → k < W.heap.size
  sB : S B
  ne : V ≠ B
  bB : w0.heap.size ≤ B
theorem RunAt.alloc {w0 W : World} {B V : Nat} {A : Option Addr} {c : Nat} {vs : List Int} {S : Nat → Prop} {out : List Fk} (h : RunAt w0 B V A c vs S out W) (o : Obj) : RunAt w0 B V A c vs (fun k => S k ∨ k = W.heap.size) out (W.alloc o) where
  below := h.below.alloc h.below.size o
  hv := blk_alloc h.hv o
  hr := h.hr
  hc := h.hc
  ho := by
    obtain ⟨v, h1, h2⟩ := h.ho
    exact ⟨v, blk_alloc h1 o, Kd.R_alloc (Kd.R_mono (Kd.R_bound h2) (fun k hk hs => hs.elim hk.1 (fun e => by have := hk.2.2.1; omega))) o⟩
  hS := by
    intro k hk
    have e : (W.alloc o).heap.size = W.heap.size + 1 := by simp
    rw [e]
    rcases hk with hk | hk
    · have := h.hS k hk; omega
    · omega
  sB := .inl h.sB
  ne := h.ne
  bB := h.bB
theorem RunAt.drewN {w0 W : World} {B V : Nat} {A : Option Addr} {c : Nat} {vs : List Int} {S : Nat → Prop} {out : List Fk} (h : RunAt w0 B V A c vs S out W) (m : Nat) : RunAt w0 B V A c vs S out (W.drewN m) where
  below := pw_below_drewN h.below m
  hv := blk_drewN h.hv m
  hr := h.hr
  hc := h.hc
  ho := by
    obtain ⟨v, h1, h2⟩ := h.ho
    exact ⟨v, blk_drewN h1 m, Kd.R_drewN h2 m⟩
  hS := h.hS
  sB := h.sB
  ne := h.ne
  bB := h.bB
def Stays (S : Nat → Prop) (B : Nat) (W W' : World) : Prop := W.heap.size ≤ W'.heap.size ∧ ∀ k, S k → k ≠ B → W'.heap[k]? = W.heap[k]?
theorem Stays.trans {S : Nat → Prop} {B : Nat} {W W1 W2 : World} (h : Stays S B W W1) (h' : Stays S B W1 W2) : Stays S B W W2 := ⟨Nat.le_trans h.1 h'.1, fun k hk hb => (h'.2 k hk hb).trans (h.2 k hk hb)⟩
end Go.Proofs.Ytgbjbpjmbghlbaa.G
end
section
namespace Go.Proofs.Ytgbjbpjmbghlbaa.G
open Go.RowKit Go.Proofs.YtgbjbpjmbghlbaaW.PrintWords Go.Proofs.YtgbjbpjmbghlbaaW.PrintLast Go.Proofs.YtgbjbpjmbghlbaaW.PrintMore
attribute [local go_sem] max2_int min2_int max_two min_two max_three min_three max_four min_four
set_option linter.unusedVariables false
set_option linter.unusedSimpArgs false
theorem eqA117 (d : Nat) (w : World) (x0 y0 : Int) (x1 y1 : Int) :
    (Op.equalIn (d + 2) 117 (.agg #[.int .i64 x0, .int .i64 x1]) (.agg #[.int .i64 y0, .int .i64 y1])).run Try.prog w = .ok (x0 == y0 && (x1 == y1)) w := by
  refine eqA_of Try.underlying117 (by kernel_rfl) ?_
  refine eqf_cons (by rfl) (by go_simp; rfl) (by go_simp; rfl) (by go_simp) ?_
  exact eqf_last (by rfl) (by go_simp; rfl) (by go_simp; rfl) (by go_simp)
end Go.Proofs.Ytgbjbpjmbghlbaa.G
end
section
namespace Go.Proofs.Ytgbjbpjmbghlbaa.G
open Go.RowKit Go.Proofs.YtgbjbpjmbghlbaaW.PrintWords Go.Proofs.YtgbjbpjmbghlbaaW.PrintLast Go.Proofs.YtgbjbpjmbghlbaaW.PrintMore
attribute [local go_sem] max2_int min2_int max_two min_two max_three min_three max_four min_four
set_option linter.unusedVariables false
set_option linter.unusedSimpArgs false
def IsS179 (w0 W : World) (g : Nat) (f0 : List Int) (f1 : Int) (f2 : Int) : Prop := ∃ A0 c0, W.heap[g]? = some (.cells #[.slice A0 f0.length c0, .int .i64 f1, .int .i64 f2] 179 (0, 0)) ∧ w0.heap.size ≤ g ∧ Kd.C (Kd.int .i64) w0 A0 f0.length f0
theorem IsS179.grown {w0 W : World} {g : Nat} {f0 : List Int} {f1 : Int} {f2 : Int} {W1 : World} {row : Option Nat} (h : IsS179 w0 W g f0 f1 f2) (hw : W.grownBy W1 row) (hne : some g ≠ row) : IsS179 w0 W1 g f0 f1 f2 := by
  obtain ⟨A0, c0, hb, hg, hr0⟩ := h
  exact ⟨A0, c0, blk_grown hb hw hne, hg, hr0⟩
theorem IsS179.kept {w0 W : World} {g : Nat} {f0 : List Int} {f1 : Int} {f2 : Int} {W1 : World} {S : Nat → Prop} (h : IsS179 w0 W g f0 f1 f2) (hk : Kept W W1 S) (hne : ¬ S g) : IsS179 w0 W1 g f0 f1 f2 := by
  obtain ⟨A0, c0, hb, hg, hr0⟩ := h
  exact ⟨A0, c0, blk_kept hb hk hne, hg, hr0⟩
theorem IsS179.below {w0 W : World} {g : Nat} {f0 : List Int} {f1 : Int} {f2 : Int} {W1 : World} (h : IsS179 w0 W g f0 f1 f2) (hw : Below W.heap.size W W1) : IsS179 w0 W1 g f0 f1 f2 := h.grown (grown_of_below hw none) (by simp)
theorem IsS179.alloc {w0 W : World} {g : Nat} {f0 : List Int} {f1 : Int} {f2 : Int} (h : IsS179 w0 W g f0 f1 f2) (o : Obj) : IsS179 w0 (W.alloc o) g f0 f1 f2 := h.below (below_alloc (Below.refl _ _) o)
theorem IsS179.drewN {w0 W : World} {g : Nat} {f0 : List Int} {f1 : Int} {f2 : Int} (h : IsS179 w0 W g f0 f1 f2) (m : Nat) : IsS179 w0 (W.drewN m) g f0 f1 f2 := h
theorem IsS179.drew {w0 W : World} {g : Nat} {f0 : List Int} {f1 : Int} {f2 : Int} (h : IsS179 w0 W g f0 f1 f2) : IsS179 w0 W.drew g f0 f1 f2 := h
theorem IsS179.at_ {w0 W : World} {g : Nat} {f0 : List Int} {f1 : Int} {f2 : Int} {w' : World} {m : Nat} (hq : W.drewN m = w') (h : IsS179 w0 W g f0 f1 f2) : IsS179 w0 w' g f0 f1 f2 := by subst hq; exact IsS179.drewN h m
theorem IsS179.apart {w0 W : World} {g : Nat} {f0 : List Int} {f1 : Int} {f2 : Int} {α : Type} {d : Kd α} {e : Nat} {base : Nat} {ok : Nat → Prop} {v : Value} {xs : List α} (h : IsS179 w0 W g f0 f1 f2) (ho : d.R e W base ok v xs) (ht : ∀ q, q ∈ e :: d.E → q ≠ 179) : d.R e W base (fun k => ok k ∧ k ≠ g) v xs := by
  obtain ⟨A0, c0, hb, hg, hr0⟩ := h
  exact Kd.R_types ho hb ht
theorem IsS179.new (w0 W : World) (A0 : Option Addr) (c0 : Nat) (f0 : List Int) (f1 : Int) (f2 : Int) (hB : Below w0.heap.size w0 W) (hr0 : Kd.C (Kd.int .i64) w0 A0 f0.length f0) : IsS179 w0 (W.alloc (.cells #[.slice A0 f0.length c0, .int .i64 f1, .int .i64 f2] 179)) W.heap.size f0 f1 f2 := ⟨A0, c0, by simpa using heap_alloc_new W _, hB.size, hr0⟩
end Go.Proofs.Ytgbjbpjmbghlbaa.G
end
section
namespace Go.Proofs.Ytgbjbpjmbghlbaa.G
open Go.RowKit Go.Proofs.YtgbjbpjmbghlbaaW.PrintWords Go.Proofs.YtgbjbpjmbghlbaaW.PrintLast Go.Proofs.YtgbjbpjmbghlbaaW.PrintMore
attribute [local go_sem] max2_int min2_int max_two min_two max_three min_three max_four min_four
set_option linter.unusedVariables false
set_option linter.unusedSimpArgs false
def spec_l2Has.l0 : Nat → List Int → Int → Int → Option (Bool)
  | 0, _, _, _ => none
  | k + 1, x0, x1, x5 => if x5 < (x0.length : Int) then (if 0 ≤ x5 then (if (rd x0 x5) = x1 then (some true) else (spec_l2Has.l0 k x0 x1 (wrap64 (x5 + 1)))) else (none)) else (some false)
def spec_l2Has.f (k : Nat) (l0 : List Int) (a1 : Int) : Option (Bool) := spec_l2Has.l0 k l0 a1 0
set_option maxHeartbeats 8000000 in
set_option maxRecDepth 100000 in
theorem spec_l2Has.calls (k : Nat) (A0 : Option Addr) (c0 : Nat) (l0 : List Int) (a1 : Int) (r : Bool) (w : World) (hr0 : Kd.C (Kd.int .i64) w A0 l0.length l0) (hc0 : l0.length ≤ c0) (h : spec_l2Has.f k l0 a1 = some r) :
    Calls Try.prog 142 #[.slice A0 l0.length c0, .int .i64 a1] w fun e w' => e = .returned (.bool r) ∧ Drawn0 w w' := by
  have HR0 := Aside0.mk hr0
  have HC0 := Aside0.mk hc0
  clear hr0 hc0
  have H : (spec_l2Has.l0 k l0 a1 0) = some r := h
  clear h
  have H' := Aside0.mk H
  clear H
  go_enter Try.func142, Try.ntmps142
  go_wp2
  go_loopg [5] k (fun kq v5 w' => ∃ (x5_1 : Int), v5 = .int .i64 x5_1 ∧ Aside0 (spec_l2Has.l0 kq l0 a1 x5_1 = some r) ∧ Aside0 (kq ≤ k) ∧ Drawn0 w w')
  case atStart => exact ⟨(0), (by first | rfl | (simp; done) | (simp [*]; done)), H', ⟨Nat.le_refl _⟩, by repeat (first | exact Drawn0.refl _ | apply Drawn0.step)⟩
  case round =>
    clear H'
    try clear c1
    try clear p2
    obtain ⟨x5_1, rfl, HA, HK1, ⟨m1, rfl⟩⟩ := hrel
    cases gk with
    | zero => exact absurd HA.out (by simp [spec_l2Has.l0])
    | succ k1 =>
      have H := HA.out
      clear HA
      simp only [spec_l2Has.l0] at H
      by_cases c3 : x5_1 < (l0.length : Int)
      · rw [if_pos c3] at H
        have c3b0 : decide (x5_1 < (l0.length : Int)) = true := decide_eq_true c3
        clear c3
        by_cases c4 : 0 ≤ x5_1
        · rw [if_pos c4] at H
          have c4b0 : decide (0 ≤ x5_1) = true := decide_eq_true c4
          clear c4
          by_cases c5 : (rd l0 x5_1) = a1
          · rw [if_pos c5] at H
            have c5b0 : ((rd l0 x5_1) == a1) = true := beq_iff_eq.mpr c5
            have c5b1 : ((rd l0 x5_1) != a1) = false := bne_eq_false_iff_eq.mpr c5
            clear c5
            obtain rfl := Option.some.inj H
            have p429 : 0 ≤ (x5_1 : Int) := of_decide_eq_true (by first | (with_reducible assumption) | assumption)
            have q429 : x5_1 < (l0.length : Int) := of_decide_eq_true (by first | (with_reducible assumption) | assumption)
            obtain ⟨ad429, e429, hx429_0⟩ := Kd.at_int HR0.out x5_1 p429 q429
            cases e429
            replace p429 := eq_true p429
            replace q429 := eq_true q429
            go_wp2
            go_ret
            exact ⟨by first | rfl | (simp; done) | (simp [*]; done), by repeat (first | exact Drawn0.refl _ | apply Drawn0.step)⟩
          · rw [if_neg c5] at H
            have c5b0 : ((rd l0 x5_1) == a1) = false := beq_eq_false_iff_ne.mpr c5
            have c5b1 : ((rd l0 x5_1) != a1) = true := bne_iff_ne.mpr c5
            have H' := Aside0.mk H
            clear H
            have p429 : 0 ≤ (x5_1 : Int) := of_decide_eq_true (by first | (with_reducible assumption) | assumption)
            have q429 : x5_1 < (l0.length : Int) := of_decide_eq_true (by first | (with_reducible assumption) | assumption)
            obtain ⟨ad429, e429, hx429_0⟩ := Kd.at_int HR0.out x5_1 p429 q429
            cases e429
            replace p429 := eq_true p429
            replace q429 := eq_true q429
            go_wp2
            go_roundg k1
            case measure => have := HK1.out; omega
            case rel => exact ⟨(wrap64 (x5_1 + 1)), (by first | rfl | (simp; done) | (simp [*]; done)), H', ⟨by have := HK1.out; omega⟩, by repeat (first | exact Drawn0.refl _ | apply Drawn0.step)⟩
        · rw [if_neg c4] at H
          exact absurd H (by simp)
      · rw [if_neg c3] at H
        have c3b0 : decide (x5_1 < (l0.length : Int)) = false := decide_eq_false c3
        clear c3
        obtain rfl := Option.some.inj H
        go_wp2
        go_ret
        exact ⟨by first | rfl | (simp; done) | (simp [*]; done), by repeat (first | exact Drawn0.refl _ | apply Drawn0.step)⟩
end Go.Proofs.Ytgbjbpjmbghlbaa.G
end
section
namespace Go.Proofs.Ytgbjbpjmbghlbaa.G
open Go.RowKit Go.Proofs.YtgbjbpjmbghlbaaW.PrintWords Go.Proofs.YtgbjbpjmbghlbaaW.PrintLast Go.Proofs.YtgbjbpjmbghlbaaW.PrintMore
attribute [local go_sem] max2_int min2_int max_two min_two max_three min_three max_four min_four
set_option linter.unusedVariables false
set_option linter.unusedSimpArgs false
def spec_l12Without.l0 : Nat → List Int → List Int → List Int → Int → Option (List Int)
  | 0, _, _, _, _ => none
  | k + 1, x0, x1, x5, x6 => if x6 < 10 then ((spec_l2Has.f k x0 x6).bind fun t732 => (if t732 = true then ((spec_l2Has.f k x1 x6).bind fun t733 => (if t733 = true then (spec_l12Without.l0 k x0 x1 x5 (wrap64 (x6 + 1))) else (if x5.length < 17592186044416 then (spec_l12Without.l0 k x0 x1 (x5 ++ [x6]) (wrap64 (x6 + 1))) else (none)))) else (spec_l12Without.l0 k x0 x1 x5 (wrap64 (x6 + 1))))) else (some x5)
def spec_l12Without.f (k : Nat) (l0 : List Int) (l1 : List Int) : Option (List Int) := spec_l12Without.l0 k l0 l1 (([] : List Int)) 0
set_option maxHeartbeats 8000000 in
set_option maxRecDepth 100000 in
theorem spec_l12Without.calls (k : Nat) (A0 : Option Addr) (c0 : Nat) (l0 : List Int) (A1 : Option Addr) (c1 : Nat) (l1 : List Int) (r : List Int) (w : World) (hr0 : Kd.C (Kd.int .i64) w A0 l0.length l0) (hc0 : l0.length ≤ c0) (hr1 : Kd.C (Kd.int .i64) w A1 l1.length l1) (hc1 : l1.length ≤ c1) (h : spec_l12Without.f k l0 l1 = some r) :
    Calls Try.prog 101 #[.slice A0 l0.length c0, .slice A1 l1.length c1] w fun e w' => ∃ v0_ : Value, e = .returned (v0_) ∧ Kd.R (Kd.int .i64) 3 w' w.heap.size (fun _ => True) v0_ r ∧ Below w.heap.size w w' := by
  have HR0 := Aside0.mk hr0
  have HC0 := Aside0.mk hc0
  clear hr0 hc0
  have HR1 := Aside0.mk hr1
  have HC1 := Aside0.mk hc1
  clear hr1 hc1
  have HB := Aside0.mk (Below.refl w.heap.size w)
  have H : (spec_l12Without.l0 k l0 l1 (([] : List Int)) 0) = some r := h
  clear h
  obtain ⟨y729, hy729⟩ : ∃ y_ : List Int, y_ = (([] : List Int)) := ⟨_, rfl⟩
  replace H : (spec_l12Without.l0 k l0 l1 y729 0) = some r := by first | (rw [hy729]; with_reducible exact H) | (have H2_ := (Option.bind_some _ _).symm.trans H; rw [hy729]; with_reducible exact H2_) | (have H2_ := (Option.bind_some _ _).symm.trans H; with_reducible exact H2_) | with_reducible exact H | (rw [hy729]; exact H) | exact H
  have Ny729 := Aside0.mk hy729
  clear hy729
  have H' := Aside0.mk H
  clear H
  go_enter Try.func101, Try.ntmps101
  go_wp2_with (first | ((with_reducible refine gate_dst (N := 7) rfl ?_); refine Kd.R_lit (Kd.int .i64) _ 3 ?hg (N := 7) ?hd (xs := ([] : List Int)) (inner := []) (ok := fun _ => True) (okp := fun _ => True) ?hr ?hp (fun _ hk => hk) trivial (Below.refl _ _) (Nat.le_refl _) (by simp) ?_; (case hd => rfl); (case hg => rfl); (case hr => first | (go_simp; done) | (go_simp; rfl)); (case hp => exact (Reps.none _ _)); intro v730 w3 ho4 hb hg_ hnew_; clear hg_ hnew_; (first | rw [← Ny729.out] at ho4 | (simp only [Int.reduceToNat] at ho4; rw [← Ny729.out] at ho4)); have n0_ := Aside0.mk (Kd.R_lower ho4 (below_size (by repeat (first | (with_reducible first | exact HB.out | apply below_alloc | apply pw_below_drewN | apply below_drew1) | exact HB.out)))); have n1_ := Aside0.mk (below_step (by repeat (first | (with_reducible first | exact HB.out | apply below_alloc | apply pw_below_drewN | apply below_drew1) | exact HB.out)) hb); clear HB; have HO731 := n0_; have HB := n1_; clear n0_ n1_; clear hb ho4))
  go_loopg [5, 6] k (fun kq v5 v6 w' => ∃ (x5_1 : List Int) (x6_1 : Int), v6 = .int .i64 x6_1 ∧ Aside0 (spec_l12Without.l0 kq l0 l1 x5_1 x6_1 = some r) ∧ Aside0 (kq ≤ k) ∧ Aside0 (Kd.R (Kd.int .i64) 3 w' w.heap.size (fun _ => True) v5 x5_1) ∧ Aside0 (Below w.heap.size w w'))
  case atStart => exact ⟨(y729), (0), (by first | rfl | (simp; done) | (simp [*]; done)), H', ⟨Nat.le_refl _⟩, ⟨by (with_reducible repeat (first | apply Kd.R_alloc | apply Kd.R_drewN | apply Kd.R_drew)); exact HO731.out⟩, ⟨by repeat (first | (with_reducible first | exact HB.out | apply below_alloc | apply pw_below_drewN | apply below_drew1) | exact HB.out)⟩⟩
  case round =>
    clear H'
    try clear c1
    try clear p2
    obtain ⟨x5_1, x6_1, rfl, HA, HK1, HO_5, HB⟩ := hrel
    cases gk with
    | zero => exact absurd HA.out (by simp [spec_l12Without.l0])
    | succ k1 =>
      have H := HA.out
      clear HA
      simp only [spec_l12Without.l0] at H
      by_cases c5 : x6_1 < 10
      · rw [if_pos c5] at H
        have c5b0 : decide (x6_1 < 10) = true := decide_eq_true c5
        clear c5
        replace H := Option.bind_eq_some_iff.mp H
        obtain ⟨t732, A60, H⟩ := H
        replace H : (if t732 = true then ((spec_l2Has.f k1 l1 x6_1).bind fun t733 => (if t733 = true then (spec_l12Without.l0 k1 l0 l1 x5_1 (wrap64 (x6_1 + 1))) else (if x5_1.length < 17592186044416 then (spec_l12Without.l0 k1 l0 l1 (x5_1 ++ [x6_1]) (wrap64 (x6_1 + 1))) else (none)))) else (spec_l12Without.l0 k1 l0 l1 x5_1 (wrap64 (x6_1 + 1)))) = some r := H
        have A6 := Aside0.mk A60
        clear A60
        by_cases c7 : t732 = true
        · subst c7
          have H1 : ((spec_l2Has.f k1 l1 x6_1).bind fun t733 => (if t733 = true then (spec_l12Without.l0 k1 l0 l1 x5_1 (wrap64 (x6_1 + 1))) else (if x5_1.length < 17592186044416 then (spec_l12Without.l0 k1 l0 l1 (x5_1 ++ [x6_1]) (wrap64 (x6_1 + 1))) else (none)))) = some r := by rw [if_pos rfl] at H; exact H
          clear H
          have H := H1
          clear H1
          replace H := Option.bind_eq_some_iff.mp H
          obtain ⟨t733, A80, H⟩ := H
          replace H : (if t733 = true then (spec_l12Without.l0 k1 l0 l1 x5_1 (wrap64 (x6_1 + 1))) else (if x5_1.length < 17592186044416 then (spec_l12Without.l0 k1 l0 l1 (x5_1 ++ [x6_1]) (wrap64 (x6_1 + 1))) else (none))) = some r := H
          have A8 := Aside0.mk A80
          clear A80
          by_cases c9 : t733 = true
          · subst c9
            have H1 : (spec_l12Without.l0 k1 l0 l1 x5_1 (wrap64 (x6_1 + 1))) = some r := by rw [if_pos rfl] at H; exact H
            clear H
            have H := H1
            clear H1
            have H' := Aside0.mk H
            clear H
            go_wp2_with (first | ((with_reducible refine gate_callee (f := 142) rfl ?_); refine goesL_ (some 14) rfl rfl Try.func142 (by kernel_rfl) rfl #[.slice A0 l0.length c0, .int .i64 x6_1] rfl (by (try simp only [List.map_toArray, List.map_cons, List.map_nil]); first | done | rfl | (simp only [List.length_drop, List.length_take]; rfl)) ?_; (with_reducible refine (spec_l2Has.calls k1 _ _ l0 x6_1 true _ ?side1 ?side2 A6.out).mono ?_); (case side1 => repeat (first | exact (Kd.C_below HR0.out HB.out) | (with_reducible refine Kd.C_alloc ?_ _) | (with_reducible refine Kd.C_drewN ?_ _) | (with_reducible refine Kd.C_drew ?_))); (case side2 => exact HC0.out); rintro e w' ⟨rfl, ⟨nd, rfl⟩⟩; refine ⟨_, rfl, ?_⟩) | (go_at_call 142; (with_reducible refine (spec_l2Has.calls k1 _ _ l1 x6_1 true _ ?side1 ?side2 A8.out).mono ?_); (case side1 => repeat (first | exact (Kd.C_below HR1.out (by repeat (first | (with_reducible first | exact HB.out | apply below_alloc | apply pw_below_drewN | apply below_drew1) | exact HB.out))) | (with_reducible refine Kd.C_alloc ?_ _) | (with_reducible refine Kd.C_drewN ?_ _) | (with_reducible refine Kd.C_drew ?_))); (case side2 => exact HC1.out); rintro e w' ⟨rfl, ⟨nd, rfl⟩⟩))
            go_roundg k1
            case measure => have := HK1.out; omega
            case rel => exact ⟨(x5_1), (wrap64 (x6_1 + 1)), (by first | rfl | (simp; done) | (simp [*]; done)), H', ⟨by have := HK1.out; omega⟩, ⟨by (with_reducible repeat (first | apply Kd.R_alloc | apply Kd.R_drewN | apply Kd.R_drew)); exact HO_5.out⟩, ⟨by repeat (first | (with_reducible first | exact HB.out | apply below_alloc | apply pw_below_drewN | apply below_drew1) | exact HB.out)⟩⟩
          · replace c9 := Bool.eq_false_iff.mpr c9
            subst c9
            have H1 : (if x5_1.length < 17592186044416 then (spec_l12Without.l0 k1 l0 l1 (x5_1 ++ [x6_1]) (wrap64 (x6_1 + 1))) else (none)) = some r := by rw [if_neg (show ¬ (false = true) by decide)] at H; exact H
            clear H
            have H := H1
            clear H1
            by_cases c10 : x5_1.length < 17592186044416
            · rw [if_pos c10] at H
              have LMc10 := Aside0.mk c10
              clear c10
              obtain ⟨y734, hy734⟩ : ∃ y_ : List Int, y_ = (x5_1 ++ [x6_1]) := ⟨_, rfl⟩
              replace H : (spec_l12Without.l0 k1 l0 l1 y734 (wrap64 (x6_1 + 1))) = some r := by first | (rw [hy734]; with_reducible exact H) | (have H2_ := (Option.bind_some _ _).symm.trans H; rw [hy734]; with_reducible exact H2_) | (have H2_ := (Option.bind_some _ _).symm.trans H; with_reducible exact H2_) | with_reducible exact H | (rw [hy734]; exact H) | exact H
              have Ny734 := Aside0.mk hy734
              clear hy734
              have H' := Aside0.mk H
              clear H
              go_wp2_with (first | ((with_reducible refine gate_callee (f := 142) rfl ?_); refine goesL_ (some 14) rfl rfl Try.func142 (by kernel_rfl) rfl #[.slice A0 l0.length c0, .int .i64 x6_1] rfl (by (try simp only [List.map_toArray, List.map_cons, List.map_nil]); first | done | rfl | (simp only [List.length_drop, List.length_take]; rfl)) ?_; (with_reducible refine (spec_l2Has.calls k1 _ _ l0 x6_1 true _ ?side1 ?side2 A6.out).mono ?_); (case side1 => repeat (first | exact (Kd.C_below HR0.out HB.out) | (with_reducible refine Kd.C_alloc ?_ _) | (with_reducible refine Kd.C_drewN ?_ _) | (with_reducible refine Kd.C_drew ?_))); (case side2 => exact HC0.out); rintro e w' ⟨rfl, ⟨nd, rfl⟩⟩; refine ⟨_, rfl, ?_⟩) | (go_at_call 142; (with_reducible refine (spec_l2Has.calls k1 _ _ l1 x6_1 false _ ?side1 ?side2 A8.out).mono ?_); (case side1 => repeat (first | exact (Kd.C_below HR1.out (by repeat (first | (with_reducible first | exact HB.out | apply below_alloc | apply pw_below_drewN | apply below_drew1) | exact HB.out))) | (with_reducible refine Kd.C_alloc ?_ _) | (with_reducible refine Kd.C_drewN ?_ _) | (with_reducible refine Kd.C_drew ?_))); (case side2 => exact HC1.out); rintro e w' ⟨rfl, ⟨nd, rfl⟩⟩) | ((with_reducible refine gate_builtin (b := .append) (xs := #[.tmp 21, .tmp 23]) rfl ?_); at_builtin; refine Kd.R_append (Kd.int .i64) (w0 := w) w.heap.size rfl (.tmp 21) (.tmp 23) 26 3 (.int .i64 0) 8 rfl Try.underlying26 info3 rfl (by decide) (by omega) u5 x5_1 x6_1 [.int .i64 x6_1] (fun _ => True) (fun _ => False) rfl rfl ?aP (fun _ hk => hk.elim) ?aF ?aO ?aB ?aS ?aL ?_; (case aP => exact rfl); (case aB => exact (by repeat (first | (with_reducible first | exact HB.out | apply below_alloc | apply pw_below_drewN | apply below_drew1) | exact HB.out))); (case aF => exact (fun _ _ => trivial)); (case aO => exact (by (with_reducible repeat (first | apply Kd.R_alloc | apply Kd.R_drewN | apply Kd.R_drew)); exact HO_5.out)); (case aS => exact (below_size (by repeat (first | (with_reducible first | exact HB.out | apply below_alloc | apply pw_below_drewN | apply below_drew1) | exact HB.out)))); (case aL => have := LMc10.out; omega); intro v735 w11 ho hb hg hat; rw [← Ny734.out] at ho; have n0_ := Aside0.mk (hb); have n1_ := Aside0.mk (ho); clear HB; clear HO_5; have HB := n0_; have HO736 := n1_; clear n0_ n1_; clear ho hb hg hat))
              go_roundg k1
              case measure => have := HK1.out; omega
              case rel => exact ⟨(y734), (wrap64 (x6_1 + 1)), (by first | rfl | (simp; done) | (simp [*]; done)), H', ⟨by have := HK1.out; omega⟩, ⟨by (with_reducible repeat (first | apply Kd.R_alloc | apply Kd.R_drewN | apply Kd.R_drew)); exact HO736.out⟩, ⟨by repeat (first | (with_reducible first | exact HB.out | apply below_alloc | apply pw_below_drewN | apply below_drew1) | exact HB.out)⟩⟩
            · rw [if_neg c10] at H
              exact absurd H (by simp)
        · replace c7 := Bool.eq_false_iff.mpr c7
          subst c7
          have H1 : (spec_l12Without.l0 k1 l0 l1 x5_1 (wrap64 (x6_1 + 1))) = some r := by rw [if_neg (show ¬ (false = true) by decide)] at H; exact H
          clear H
          have H := H1
          clear H1
          have H' := Aside0.mk H
          clear H
          go_wp2_with (first | ((with_reducible refine gate_callee (f := 142) rfl ?_); refine goesL_ (some 14) rfl rfl Try.func142 (by kernel_rfl) rfl #[.slice A0 l0.length c0, .int .i64 x6_1] rfl (by (try simp only [List.map_toArray, List.map_cons, List.map_nil]); first | done | rfl | (simp only [List.length_drop, List.length_take]; rfl)) ?_; (with_reducible refine (spec_l2Has.calls k1 _ _ l0 x6_1 false _ ?side1 ?side2 A6.out).mono ?_); (case side1 => repeat (first | exact (Kd.C_below HR0.out HB.out) | (with_reducible refine Kd.C_alloc ?_ _) | (with_reducible refine Kd.C_drewN ?_ _) | (with_reducible refine Kd.C_drew ?_))); (case side2 => exact HC0.out); rintro e w' ⟨rfl, ⟨nd, rfl⟩⟩; refine ⟨_, rfl, ?_⟩))
          go_roundg k1
          case measure => have := HK1.out; omega
          case rel => exact ⟨(x5_1), (wrap64 (x6_1 + 1)), (by first | rfl | (simp; done) | (simp [*]; done)), H', ⟨by have := HK1.out; omega⟩, ⟨by (with_reducible repeat (first | apply Kd.R_alloc | apply Kd.R_drewN | apply Kd.R_drew)); exact HO_5.out⟩, ⟨by repeat (first | (with_reducible first | exact HB.out | apply below_alloc | apply pw_below_drewN | apply below_drew1) | exact HB.out)⟩⟩
      · rw [if_neg c5] at H
        have c5b0 : decide (x6_1 < 10) = false := decide_eq_false c5
        clear c5
        obtain rfl := Option.some.inj H
        go_wp2
        go_ret
        exact ⟨_, by first | rfl | (simp [errW_none, errW_some] <;> rfl) | (simp [*, errW_none, errW_some] <;> rfl), by (with_reducible repeat (first | apply Kd.R_alloc | apply Kd.R_drewN | apply Kd.R_drew)); exact HO_5.out, by repeat (first | (with_reducible first | exact HB.out | apply below_alloc | apply pw_below_drewN | apply below_drew1) | exact HB.out)⟩
end Go.Proofs.Ytgbjbpjmbghlbaa.G
end
section
namespace Go.Proofs.Ytgbjbpjmbghlbaa.G
open Go.RowKit Go.Proofs.YtgbjbpjmbghlbaaW.PrintWords Go.Proofs.YtgbjbpjmbghlbaaW.PrintLast Go.Proofs.YtgbjbpjmbghlbaaW.PrintMore
attribute [local go_sem] max2_int min2_int max_two min_two max_three min_three max_four min_four
set_option linter.unusedVariables false
set_option linter.unusedSimpArgs false
def slices_Index_int.l0 : Nat → List Int → Int → Int → Int → Option (Int)
  | 0, _, _, _, _ => none
  | k + 1, x0, x1, x7, x8 => if x8 < x7 then (if 0 ≤ x8 then (if x8 < (x0.length : Int) then (if x1 = (rd x0 x8) then (some x8) else (slices_Index_int.l0 k x0 x1 x7 (wrap64 (x8 + 1)))) else (none)) else (none)) else (some (-1))
def slices_Index_int.f (k : Nat) (l0 : List Int) (a1 : Int) : Option (Int) := slices_Index_int.l0 k l0 a1 (l0.length : Int) 0
set_option maxHeartbeats 8000000 in
set_option maxRecDepth 100000 in
theorem slices_Index_int.calls (k : Nat) (A0 : Option Addr) (c0 : Nat) (l0 : List Int) (a1 : Int) (r : Int) (w : World) (hr0 : Kd.C (Kd.int .i64) w A0 l0.length l0) (hc0 : l0.length ≤ c0) (h : slices_Index_int.f k l0 a1 = some r) :
    Calls Try.prog 174 #[.slice A0 l0.length c0, .int .i64 a1] w fun e w' => e = .returned (.int .i64 r) ∧ Drawn0 w w' := by
  have HR0 := Aside0.mk hr0
  have HC0 := Aside0.mk hc0
  clear hr0 hc0
  have H : (slices_Index_int.l0 k l0 a1 (l0.length : Int) 0) = some r := h
  clear h
  have H' := Aside0.mk H
  clear H
  go_enter Try.func174, Try.ntmps174
  go_wp2
  go_loopg [8] k (fun kq v8 w' => ∃ (x8_1 : Int), v8 = .int .i64 x8_1 ∧ Aside0 (slices_Index_int.l0 kq l0 a1 (l0.length : Int) x8_1 = some r) ∧ Aside0 (kq ≤ k) ∧ Drawn0 w w')
  case atStart => exact ⟨(0), (by first | rfl | (simp; done) | (simp [*]; done)), H', ⟨Nat.le_refl _⟩, by repeat (first | exact Drawn0.refl _ | apply Drawn0.step)⟩
  case round =>
    clear H'
    try clear c1
    try clear p2
    obtain ⟨x8_1, rfl, HA, HK1, ⟨m1, rfl⟩⟩ := hrel
    cases gk with
    | zero => exact absurd HA.out (by simp [slices_Index_int.l0])
    | succ k1 =>
      have H := HA.out
      clear HA
      simp only [slices_Index_int.l0] at H
      by_cases c3 : x8_1 < (l0.length : Int)
      · rw [if_pos c3] at H
        have c3b0 : decide (x8_1 < (l0.length : Int)) = true := decide_eq_true c3
        clear c3
        by_cases c4 : 0 ≤ x8_1
        · rw [if_pos c4] at H
          have c4b0 : decide (0 ≤ x8_1) = true := decide_eq_true c4
          clear c4
          by_cases c5 : x8_1 < (l0.length : Int)
          · rw [if_pos c5] at H
            have c5b0 : decide (x8_1 < (l0.length : Int)) = true := decide_eq_true c5
            clear c5
            by_cases c6 : a1 = (rd l0 x8_1)
            · rw [if_pos c6] at H
              have c6b0 : (a1 == (rd l0 x8_1)) = true := beq_iff_eq.mpr c6
              have c6b1 : (a1 != (rd l0 x8_1)) = false := bne_eq_false_iff_eq.mpr c6
              clear c6
              obtain rfl := Option.some.inj H
              have p882 : 0 ≤ (x8_1 : Int) := of_decide_eq_true (by first | (with_reducible assumption) | assumption)
              have q882 : x8_1 < (l0.length : Int) := of_decide_eq_true (by first | (with_reducible assumption) | assumption)
              obtain ⟨ad882, e882, hx882_0⟩ := Kd.at_int HR0.out x8_1 p882 q882
              cases e882
              replace p882 := eq_true p882
              replace q882 := eq_true q882
              go_wp2
              go_ret
              exact ⟨by first | rfl | (simp; done) | (simp [*]; done), by repeat (first | exact Drawn0.refl _ | apply Drawn0.step)⟩
            · rw [if_neg c6] at H
              have c6b0 : (a1 == (rd l0 x8_1)) = false := beq_eq_false_iff_ne.mpr c6
              have c6b1 : (a1 != (rd l0 x8_1)) = true := bne_iff_ne.mpr c6
              have H' := Aside0.mk H
              clear H
              have p882 : 0 ≤ (x8_1 : Int) := of_decide_eq_true (by first | (with_reducible assumption) | assumption)
              have q882 : x8_1 < (l0.length : Int) := of_decide_eq_true (by first | (with_reducible assumption) | assumption)
              obtain ⟨ad882, e882, hx882_0⟩ := Kd.at_int HR0.out x8_1 p882 q882
              cases e882
              replace p882 := eq_true p882
              replace q882 := eq_true q882
              go_wp2
              go_roundg k1
              case measure => have := HK1.out; omega
              case rel => exact ⟨(wrap64 (x8_1 + 1)), (by first | rfl | (simp; done) | (simp [*]; done)), H', ⟨by have := HK1.out; omega⟩, by repeat (first | exact Drawn0.refl _ | apply Drawn0.step)⟩
          · rw [if_neg c5] at H
            exact absurd H (by simp)
        · rw [if_neg c4] at H
          exact absurd H (by simp)
      · rw [if_neg c3] at H
        have c3b0 : decide (x8_1 < (l0.length : Int)) = false := decide_eq_false c3
        clear c3
        obtain rfl := Option.some.inj H
        go_wp2
        go_ret
        exact ⟨by first | rfl | (simp; done) | (simp [*]; done), by repeat (first | exact Drawn0.refl _ | apply Drawn0.step)⟩
def slices_Contains_int.f (k : Nat) (l0 : List Int) (a1 : Int) : Option (Bool) := (slices_Index_int.f k l0 a1).bind fun t883 => (some (decide (t883 ≥ 0)))
set_option maxHeartbeats 8000000 in
set_option maxRecDepth 100000 in
theorem slices_Contains_int.calls (k : Nat) (A0 : Option Addr) (c0 : Nat) (l0 : List Int) (a1 : Int) (r : Bool) (w : World) (hr0 : Kd.C (Kd.int .i64) w A0 l0.length l0) (hc0 : l0.length ≤ c0) (h : slices_Contains_int.f k l0 a1 = some r) :
    Calls Try.prog 153 #[.slice A0 l0.length c0, .int .i64 a1] w fun e w' => e = .returned (.bool r) ∧ Drawn0 w w' := by
  have HR0 := Aside0.mk hr0
  have HC0 := Aside0.mk hc0
  clear hr0 hc0
  have H : ((slices_Index_int.f k l0 a1).bind fun t883 => (some (decide (t883 ≥ 0)))) = some r := h
  clear h
  replace H := Option.bind_eq_some_iff.mp H
  obtain ⟨t883, A30, H⟩ := H
  replace H : (some (decide (t883 ≥ 0))) = some r := H
  have A3 := Aside0.mk A30
  clear A30
  obtain rfl := Option.some.inj H
  go_enter Try.func153, Try.ntmps153
  go_wp2_with (first | ((with_reducible refine gate_callee (f := 174) rfl ?_); refine goesL_ (some 7) rfl rfl Try.func174 (by kernel_rfl) rfl #[.slice A0 l0.length c0, .int .i64 a1] rfl (by (try simp only [List.map_toArray, List.map_cons, List.map_nil]); first | done | rfl | (simp only [List.length_drop, List.length_take]; rfl)) ?_; (with_reducible refine (slices_Index_int.calls k _ _ l0 a1 t883 _ ?side1 ?side2 A3.out).mono ?_); (case side1 => repeat (first | exact HR0.out | (with_reducible refine Kd.C_alloc ?_ _) | (with_reducible refine Kd.C_drewN ?_ _) | (with_reducible refine Kd.C_drew ?_))); (case side2 => exact HC0.out); rintro e w' ⟨rfl, ⟨nd, rfl⟩⟩; refine ⟨_, rfl, ?_⟩))
  go_ret
  exact ⟨by first | rfl | (simp; done) | (simp [*]; done), by repeat (first | exact Drawn0.refl _ | apply Drawn0.step)⟩
end Go.Proofs.Ytgbjbpjmbghlbaa.G
end
