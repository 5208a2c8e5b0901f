-- Written by pack.py (ours): the claim's texts, cut down to what its theorem reaches.
import Derived.Test.YtgbjbpjmbghlbaaKFnExactTracesHonest6
set_option maxHeartbeats 8000000
set_option maxRecDepth 100000
set_option linter.unusedVariables false
set_option linter.unusedSimpArgs false
section
namespace Go.Proofs.Ytgbjbpjmbghlbaa.G
open Go.RowKit Go.Proofs.YtgbjbpjmbghlbaaW.PrintWords Go.Proofs.YtgbjbpjmbghlbaaW.PrintLast Go.Proofs.YtgbjbpjmbghlbaaW.PrintMore
attribute [local go_sem] max2_int min2_int max_two min_two max_three min_three max_four min_four
attribute [local go_sem high] eqA117
def impl_TraceOf.j0 : Nat → Int → List Int → Bool → Int → Int → List (S30) → Option (Int × (List (S117)) × Int × Bool)
  | 0, _, _, _, _, _, _ => none
  | k + 1, x0, x2, x22, x687000, x687001, x687002 => if x22 = true then (some (0, ([] : List (S117)), 0, false)) else ((impl_Task_fetched.f x687000 x687001 x687002 x2).bind fun bt691 => ((impl_once.f bt691.2).bind fun t695 => (some (x0, t695, bt691.1, true))))
def impl_TraceOf.f (k : Nat) (a0 : Int) (a1_0 : Int) (a1_1 : Int) (l1_2 : List (S30)) (l2 : List Int) : Option (Int × (List (S117)) × Int × Bool) := (impl_TaskOk.f k a1_0 a1_1 l1_2).bind fun t688 => (if t688 = true then ((impl_valuesOk.f l2).bind fun t689 => (if t689 = true then ((impl_isKey.f a0).bind fun t690 => (impl_TraceOf.j0 k a0 l2 (!t690) a1_0 a1_1 l1_2)) else (impl_TraceOf.j0 k a0 l2 true a1_0 a1_1 l1_2))) else (impl_TraceOf.j0 k a0 l2 true a1_0 a1_1 l1_2))
theorem impl_TraceOf.calls (k : Nat) (a0 : Int) (a1_0 : Int) (a1_1 : Int) (A1_2 : Option Addr) (c1_2 : Nat) (l1_2 : List (S30)) (A2 : Option Addr) (c2 : Nat) (l2 : List Int) (r1 : Int) (r2 : List (S117)) (r3 : Int) (r4 : Bool) (w : World) (hr1_2 : Kd.C k30 w A1_2 l1_2.length l1_2) (hc1_2 : l1_2.length ≤ c1_2) (hr2 : Kd.C (Kd.int .i64) w A2 l2.length l2) (hc2 : l2.length ≤ c2) (h : impl_TraceOf.f k a0 a1_0 a1_1 l1_2 l2 = some (r1, r2, r3, r4)) :
    Calls Try.prog 148 #[.int .i64 a0, .agg #[.int .i64 a1_0, .int .i64 a1_1, .slice A1_2 l1_2.length c1_2], .slice A2 l2.length c2] w fun e w' => ∃ v1_ : Value, e = .returned (.tuple #[.agg #[.int .i64 r1, v1_, .int .i64 r3], .bool r4]) ∧ Kd.R k117 117 w' w.heap.size (fun _ => True) v1_ r2 ∧ Below w.heap.size w w' := by
  have hu30 := Try.underlying30
  have hu87 := Try.underlying87
  have HR1_2 := qM hr1_2
  have HC1_2 := qM hc1_2
  clear hr1_2 hc1_2
  have HR2 := qM hr2
  have HC2 := qM hc2
  clear hr2 hc2
  have HB := qM (Below.refl w.heap.size w)
  have H : ((impl_TaskOk.f k a1_0 a1_1 l1_2).bind fun t688 => (if t688 = true then ((impl_valuesOk.f l2).bind fun t689 => (if t689 = true then ((impl_isKey.f a0).bind fun t690 => (impl_TraceOf.j0 k a0 l2 (!t690) a1_0 a1_1 l1_2)) else (impl_TraceOf.j0 k a0 l2 true a1_0 a1_1 l1_2))) else (impl_TraceOf.j0 k a0 l2 true a1_0 a1_1 l1_2))) = some (r1, r2, r3, r4) := h
  clear h
  have HC4 := qM H
  clear H
  go_enter Try.func148, Try.ntmps148
  go_upto_region 1 with (first | ((with_reducible refine gate_dst (N := 4) rfl ?_); refine box_event ?hg (N := 4) ?hd (cs := #[.int .i64 a1_0, .int .i64 a1_1, .slice A1_2 l1_2.length c1_2]) (t := 30) ?hr ?_; (case hd => rfl); (case hg => rfl); (case hr => first | (go_simp; done) | (go_simp; rfl)); intro gb686 hg w5 hbox hb; have n0_ := qM (qs (by repeat (first | (with_reducible first | exact HB.out | apply qA | apply qN | apply qD) | exact HB.out)) hb); have n1_ := qM (hbox); have n2_ := qM ((by rw [hg]; exact (qz (by repeat (first | (with_reducible first | exact HB.out | apply qA | apply qN | apply qD) | exact HB.out))) : w.heap.size ≤ gb686)); have n3_ := qM ((by rw [hg]; exact (qz (by repeat (first | (with_reducible first | exact HB.out | apply qA | apply qN | apply qD) | exact HB.out))) : w.heap.size ≤ gb686)); clear HB; have HB := n0_; have BK686 := n1_; have GW686 := n2_; have GE686 := n3_; clear n0_ n1_ n2_ n3_; clear hb hbox hg) | ((with_reducible refine gate_dst (N := 6) rfl ?_); refine box_event ?hg (N := 6) ?hd (cs := #[.int .i64 0, .slice none 0 0, .int .i64 0]) (t := 87) ?hr ?_; (case hd => rfl); (case hg => rfl); (case hr => first | (go_simp; done) | (go_simp; rfl)); intro gb687 hg w6 hbox hb; have n0_ := qM (blk_below (g := gb686) (o := .cells #[.int .i64 a1_0, .int .i64 a1_1, .slice A1_2 l1_2.length c1_2] 30 (0, 0)) (by (with_reducible repeat (first | apply qn | apply qd | apply qa)); exact BK686.out) hb); have n1_ := qM (qs (by repeat (first | (with_reducible first | exact HB.out | apply qA | apply qN | apply qD | refine qS ?_ GE686.out) | exact HB.out)) hb); have n2_ := qM (hbox); have n3_ := qM ((by rw [hg]; exact (qz (by repeat (first | (with_reducible first | exact HB.out | apply qA | apply qN | apply qD | refine qS ?_ GE686.out) | exact HB.out))) : w.heap.size ≤ gb687)); have n4_ := qM ((by rw [hg]; exact (qz (by repeat (first | (with_reducible first | exact HB.out | apply qA | apply qN | apply qD | refine qS ?_ GE686.out) | exact HB.out))) : w.heap.size ≤ gb687)); have n5_ := qM ((by rw [hg]; exact Nat.ne_of_lt (blk_lt (g := gb686) (o := .cells #[.int .i64 a1_0, .int .i64 a1_1, .slice A1_2 l1_2.length c1_2] 30 (0, 0)) (by (with_reducible repeat (first | apply qn | apply qd | apply qa)); exact BK686.out)) : gb686 ≠ gb687)); have n6_ := qM ((by rw [hg]; exact Nat.ne_of_gt (blk_lt (g := gb686) (o := .cells #[.int .i64 a1_0, .int .i64 a1_1, .slice A1_2 l1_2.length c1_2] 30 (0, 0)) (by (with_reducible repeat (first | apply qn | apply qd | apply qa)); exact BK686.out)) : gb687 ≠ gb686)); clear BK686; clear HB; have BK686 := n0_; have HB := n1_; have BK687 := n2_; have GW687 := n3_; have GE687 := n4_; have NB686_687 := n5_; have NB687_686 := n6_; clear n0_ n1_ n2_ n3_ n4_ n5_ n6_; clear hb hbox hg))
  (try simp only [Act.put, qT, qU, qV])
  go_cut [22] (fun v22 wc => ∃ (kq : Nat) (x22_3 : Bool), v22 = .bool x22_3 ∧ Aside0 (impl_TraceOf.j0 kq a0 l2 x22_3 a1_0 a1_1 l1_2 = some (r1, r2, r3, r4)) ∧ Aside0 (kq ≤ k) ∧ Aside0 (wc.heap[gb686]? = some (.cells #[.int .i64 a1_0, .int .i64 a1_1, (.slice A1_2 l1_2.length c1_2)] 30 (0, 0))) ∧ Aside0 (wc.heap[gb687]? = some (.cells #[.int .i64 0, (.slice none 0 0), .int .i64 0] 87 (0, 0))) ∧ Aside0 (Below w.heap.size w wc))
  case first =>
    have H := HC4.out
    clear HC4
    replace H := jG H
    obtain ⟨t688, A70, H⟩ := H
    replace H : (if t688 = true then ((impl_valuesOk.f l2).bind fun t689 => (if t689 = true then ((impl_isKey.f a0).bind fun t690 => (impl_TraceOf.j0 k a0 l2 (!t690) a1_0 a1_1 l1_2)) else (impl_TraceOf.j0 k a0 l2 true a1_0 a1_1 l1_2))) else (impl_TraceOf.j0 k a0 l2 true a1_0 a1_1 l1_2)) = some (r1, r2, r3, r4) := H
    have A7 := qM A70
    clear A70
    by_cases c8 : t688 = true
    rotate_left
    · replace c8 := Bool.eq_false_iff.mpr c8
      subst c8
      have H1 : (impl_TraceOf.j0 k a0 l2 true a1_0 a1_1 l1_2) = some (r1, r2, r3, r4) := by rw [if_neg (show ¬ (false = true) by decide)] at H; exact H
      clear H
      have H := H1
      clear H1
      have H' := qM H
      clear H
      have hnb20 := NB686_687.out
      have hnc20 := NB687_686.out
      have hcz21_0 : w6.cell? ⟨gb686, 0, none⟩ = some (.int .i64 a1_0) := (qC BK686.out 0).trans rfl
      have hcz21_1 : w6.cell? ⟨gb686, 1, none⟩ = some (.int .i64 a1_1) := (qC BK686.out 1).trans rfl
      have hcz21_2 : w6.cell? ⟨gb686, 2, none⟩ = some (.slice A1_2 l1_2.length c1_2) := (qC BK686.out 2).trans rfl
      have hfz21_0 := qF BK686.out 0
      have hfz21_1 := qF BK686.out 1
      have hfz21_2 := qF BK686.out 2
      go_wp2_with (first | ((with_reducible refine gate_callee (f := 26) rfl ?_); refine goesL_ (some 11) rfl rfl Try.func26 (by kernel_rfl) rfl #[.agg #[.int .i64 a1_0, .int .i64 a1_1, .slice A1_2 l1_2.length c1_2]] rfl (by (try simp only [jC, jD, jE]); first | done | rfl | (simp only [jB, jA]; rfl)) ?_; (with_reducible refine (impl_TaskOk.calls k a1_0 a1_1 _ _ l1_2 false _ ?side1 ?side2 A7.out).mono ?_); (case side1 => repeat (first | exact (qB HR1_2.out HB.out) | (with_reducible refine qc ?_ _) | (with_reducible refine qe ?_ _) | (with_reducible refine qf ?_))); (case side2 => exact HC1_2.out); rintro e w22 ⟨rfl, hb⟩; refine ⟨_, rfl, ?_⟩; have n0_ := qM (blk_below (g := gb686) (o := .cells #[.int .i64 a1_0, .int .i64 a1_1, .slice A1_2 l1_2.length c1_2] 30 (0, 0)) (by (with_reducible repeat (first | apply qn | apply qd | apply qa)); exact BK686.out) hb); have n1_ := qM (blk_below (g := gb687) (o := .cells #[.int .i64 0, .slice none 0 0, .int .i64 0] 87 (0, 0)) (by (with_reducible repeat (first | apply qn | apply qd | apply qa)); exact BK687.out) hb); have n2_ := qM (qs (by repeat (first | (with_reducible first | exact HB.out | apply qA | apply qN | apply qD | refine qS ?_ GE686.out | refine qS ?_ GE687.out) | exact HB.out)) hb); clear BK686; clear BK687; clear HB; have BK686 := n0_; have BK687 := n1_; have HB := n2_; clear n0_ n1_ n2_; (try clear hb); (try clear hb2); (try clear hk); (try clear hi)))
      go_meet
      case rel => exact ⟨_, (true), (by first | rfl | (simp; done) | (simp [*]; done)), H', ⟨by first | omega | exact Nat.le_refl _⟩, ⟨by (with_reducible repeat (first | apply qn | apply qd | apply qa)); exact BK686.out⟩, ⟨by (with_reducible repeat (first | apply qn | apply qd | apply qa)); exact BK687.out⟩, ⟨by repeat (first | (with_reducible first | exact HB.out | apply qA | apply qN | apply qD | refine qS ?_ GE686.out | refine qS ?_ GE687.out) | exact HB.out)⟩⟩
    subst c8
    have H1 : ((impl_valuesOk.f l2).bind fun t689 => (if t689 = true then ((impl_isKey.f a0).bind fun t690 => (impl_TraceOf.j0 k a0 l2 (!t690) a1_0 a1_1 l1_2)) else (impl_TraceOf.j0 k a0 l2 true a1_0 a1_1 l1_2))) = some (r1, r2, r3, r4) := by rw [if_pos rfl] at H; exact H
    clear H
    have H := H1
    clear H1
    replace H := jG H
    obtain ⟨t689, A90, H⟩ := H
    replace H : (if t689 = true then ((impl_isKey.f a0).bind fun t690 => (impl_TraceOf.j0 k a0 l2 (!t690) a1_0 a1_1 l1_2)) else (impl_TraceOf.j0 k a0 l2 true a1_0 a1_1 l1_2)) = some (r1, r2, r3, r4) := H
    have A9 := qM A90
    clear A90
    by_cases c10 : t689 = true
    rotate_left
    · replace c10 := Bool.eq_false_iff.mpr c10
      subst c10
      have H1 : (impl_TraceOf.j0 k a0 l2 true a1_0 a1_1 l1_2) = some (r1, r2, r3, r4) := by rw [if_neg (show ¬ (false = true) by decide)] at H; exact H
      clear H
      have H := H1
      clear H1
      have H' := qM H
      clear H
      have hnb16 := NB686_687.out
      have hnc16 := NB687_686.out
      have hcz17_0 : w6.cell? ⟨gb686, 0, none⟩ = some (.int .i64 a1_0) := (qC BK686.out 0).trans rfl
      have hcz17_1 : w6.cell? ⟨gb686, 1, none⟩ = some (.int .i64 a1_1) := (qC BK686.out 1).trans rfl
      have hcz17_2 : w6.cell? ⟨gb686, 2, none⟩ = some (.slice A1_2 l1_2.length c1_2) := (qC BK686.out 2).trans rfl
      have hfz17_0 := qF BK686.out 0
      have hfz17_1 := qF BK686.out 1
      have hfz17_2 := qF BK686.out 2
      go_wp2_with (first | ((with_reducible refine gate_callee (f := 26) rfl ?_); refine goesL_ (some 11) rfl rfl Try.func26 (by kernel_rfl) rfl #[.agg #[.int .i64 a1_0, .int .i64 a1_1, .slice A1_2 l1_2.length c1_2]] rfl (by (try simp only [jC, jD, jE]); first | done | rfl | (simp only [jB, jA]; rfl)) ?_; (with_reducible refine (impl_TaskOk.calls k a1_0 a1_1 _ _ l1_2 true _ ?side1 ?side2 A7.out).mono ?_); (case side1 => repeat (first | exact (qB HR1_2.out HB.out) | (with_reducible refine qc ?_ _) | (with_reducible refine qe ?_ _) | (with_reducible refine qf ?_))); (case side2 => exact HC1_2.out); rintro e w18 ⟨rfl, hb⟩; refine ⟨_, rfl, ?_⟩; have n0_ := qM (blk_below (g := gb686) (o := .cells #[.int .i64 a1_0, .int .i64 a1_1, .slice A1_2 l1_2.length c1_2] 30 (0, 0)) (by (with_reducible repeat (first | apply qn | apply qd | apply qa)); exact BK686.out) hb); have n1_ := qM (blk_below (g := gb687) (o := .cells #[.int .i64 0, .slice none 0 0, .int .i64 0] 87 (0, 0)) (by (with_reducible repeat (first | apply qn | apply qd | apply qa)); exact BK687.out) hb); have n2_ := qM (qs (by repeat (first | (with_reducible first | exact HB.out | apply qA | apply qN | apply qD | refine qS ?_ GE686.out | refine qS ?_ GE687.out) | exact HB.out)) hb); clear BK686; clear BK687; clear HB; have BK686 := n0_; have BK687 := n1_; have HB := n2_; clear n0_ n1_ n2_; (try clear hb); (try clear hb2); (try clear hk); (try clear hi)) | (go_at_call 137; (with_reducible refine (impl_valuesOk.calls _ _ l2 false _ ?side1 ?side2 A9.out).mono ?_); (case side1 => repeat (first | exact (qB HR2.out HB.out) | (with_reducible refine qc ?_ _) | (with_reducible refine qe ?_ _) | (with_reducible refine qf ?_))); (case side2 => exact HC2.out); rintro e w19 ⟨rfl, hb⟩; have n0_ := qM (blk_below (g := gb686) (o := .cells #[.int .i64 a1_0, .int .i64 a1_1, .slice A1_2 l1_2.length c1_2] 30 (0, 0)) (by (with_reducible repeat (first | apply qn | apply qd | apply qa)); exact BK686.out) hb); have n1_ := qM (blk_below (g := gb687) (o := .cells #[.int .i64 0, .slice none 0 0, .int .i64 0] 87 (0, 0)) (by (with_reducible repeat (first | apply qn | apply qd | apply qa)); exact BK687.out) hb); have n2_ := qM (qs (by repeat (first | (with_reducible first | exact HB.out | apply qA | apply qN | apply qD | refine qS ?_ GE686.out | refine qS ?_ GE687.out) | exact HB.out)) hb); clear BK686; clear BK687; clear HB; have BK686 := n0_; have BK687 := n1_; have HB := n2_; clear n0_ n1_ n2_; (try clear hb); (try clear hb2); (try clear hk); (try clear hi)))
      go_meet
      case rel => exact ⟨_, (true), (by first | rfl | (simp; done) | (simp [*]; done)), H', ⟨by first | omega | exact Nat.le_refl _⟩, ⟨by (with_reducible repeat (first | apply qn | apply qd | apply qa)); exact BK686.out⟩, ⟨by (with_reducible repeat (first | apply qn | apply qd | apply qa)); exact BK687.out⟩, ⟨by repeat (first | (with_reducible first | exact HB.out | apply qA | apply qN | apply qD | refine qS ?_ GE686.out | refine qS ?_ GE687.out) | exact HB.out)⟩⟩
    subst c10
    have H1 : ((impl_isKey.f a0).bind fun t690 => (impl_TraceOf.j0 k a0 l2 (!t690) a1_0 a1_1 l1_2)) = some (r1, r2, r3, r4) := by rw [if_pos rfl] at H; exact H
    clear H
    have H := H1
    clear H1
    replace H := jG H
    obtain ⟨t690, A110, H⟩ := H
    replace H : (impl_TraceOf.j0 k a0 l2 (!t690) a1_0 a1_1 l1_2) = some (r1, r2, r3, r4) := H
    have A11 := qM A110
    clear A110
    have H' := qM H
    clear H
    have hnb12 := NB686_687.out
    have hnc12 := NB687_686.out
    have hcz13_0 : w6.cell? ⟨gb686, 0, none⟩ = some (.int .i64 a1_0) := (qC BK686.out 0).trans rfl
    have hcz13_1 : w6.cell? ⟨gb686, 1, none⟩ = some (.int .i64 a1_1) := (qC BK686.out 1).trans rfl
    have hcz13_2 : w6.cell? ⟨gb686, 2, none⟩ = some (.slice A1_2 l1_2.length c1_2) := (qC BK686.out 2).trans rfl
    have hfz13_0 := qF BK686.out 0
    have hfz13_1 := qF BK686.out 1
    have hfz13_2 := qF BK686.out 2
    go_wp2_with (first | ((with_reducible refine gate_callee (f := 26) rfl ?_); refine goesL_ (some 11) rfl rfl Try.func26 (by kernel_rfl) rfl #[.agg #[.int .i64 a1_0, .int .i64 a1_1, .slice A1_2 l1_2.length c1_2]] rfl (by (try simp only [jC, jD, jE]); first | done | rfl | (simp only [jB, jA]; rfl)) ?_; (with_reducible refine (impl_TaskOk.calls k a1_0 a1_1 _ _ l1_2 true _ ?side1 ?side2 A7.out).mono ?_); (case side1 => repeat (first | exact (qB HR1_2.out HB.out) | (with_reducible refine qc ?_ _) | (with_reducible refine qe ?_ _) | (with_reducible refine qf ?_))); (case side2 => exact HC1_2.out); rintro e w14 ⟨rfl, hb⟩; refine ⟨_, rfl, ?_⟩; have n0_ := qM (blk_below (g := gb686) (o := .cells #[.int .i64 a1_0, .int .i64 a1_1, .slice A1_2 l1_2.length c1_2] 30 (0, 0)) (by (with_reducible repeat (first | apply qn | apply qd | apply qa)); exact BK686.out) hb); have n1_ := qM (blk_below (g := gb687) (o := .cells #[.int .i64 0, .slice none 0 0, .int .i64 0] 87 (0, 0)) (by (with_reducible repeat (first | apply qn | apply qd | apply qa)); exact BK687.out) hb); have n2_ := qM (qs (by repeat (first | (with_reducible first | exact HB.out | apply qA | apply qN | apply qD | refine qS ?_ GE686.out | refine qS ?_ GE687.out) | exact HB.out)) hb); clear BK686; clear BK687; clear HB; have BK686 := n0_; have BK687 := n1_; have HB := n2_; clear n0_ n1_ n2_; (try clear hb); (try clear hb2); (try clear hk); (try clear hi)) | (go_at_call 137; (with_reducible refine (impl_valuesOk.calls _ _ l2 true _ ?side1 ?side2 A9.out).mono ?_); (case side1 => repeat (first | exact (qB HR2.out HB.out) | (with_reducible refine qc ?_ _) | (with_reducible refine qe ?_ _) | (with_reducible refine qf ?_))); (case side2 => exact HC2.out); rintro e w15 ⟨rfl, hb⟩; have n0_ := qM (blk_below (g := gb686) (o := .cells #[.int .i64 a1_0, .int .i64 a1_1, .slice A1_2 l1_2.length c1_2] 30 (0, 0)) (by (with_reducible repeat (first | apply qn | apply qd | apply qa)); exact BK686.out) hb); have n1_ := qM (blk_below (g := gb687) (o := .cells #[.int .i64 0, .slice none 0 0, .int .i64 0] 87 (0, 0)) (by (with_reducible repeat (first | apply qn | apply qd | apply qa)); exact BK687.out) hb); have n2_ := qM (qs (by repeat (first | (with_reducible first | exact HB.out | apply qA | apply qN | apply qD | refine qS ?_ GE686.out | refine qS ?_ GE687.out) | exact HB.out)) hb); clear BK686; clear BK687; clear HB; have BK686 := n0_; have BK687 := n1_; have HB := n2_; clear n0_ n1_ n2_; (try clear hb); (try clear hb2); (try clear hk); (try clear hi)) | (go_at_call 106; (with_reducible refine (impl_isKey.calls a0 t690 _ A11.out).mono ?_); rintro e w' ⟨rfl, ⟨nd, rfl⟩⟩))
    go_meet
    case rel => exact ⟨_, (!t690), (by first | rfl | (simp; done) | (simp [*]; done)), H', ⟨by first | omega | exact Nat.le_refl _⟩, ⟨by (with_reducible repeat (first | apply qn | apply qd | apply qa)); exact BK686.out⟩, ⟨by (with_reducible repeat (first | apply qn | apply qd | apply qa)); exact BK687.out⟩, ⟨by repeat (first | (with_reducible first | exact HB.out | apply qA | apply qN | apply qD | refine qS ?_ GE686.out | refine qS ?_ GE687.out) | exact HB.out)⟩⟩
  case rest =>
    clear HC4
    try clear c1
    try clear c2
    try clear p2
    try clear c8
    try clear c10
    try clear c12
    try clear c14
    try clear c16
    try clear c20
    try clear hcz13_0
    try clear hcz13_1
    try clear hcz13_2
    try clear hcz17_0
    try clear hcz17_1
    try clear hcz17_2
    try clear hcz21_0
    try clear hcz21_1
    try clear hcz21_2
    try clear hfz13_0
    try clear hfz13_1
    try clear hfz13_2
    try clear hfz17_0
    try clear hfz17_1
    try clear hfz17_2
    try clear hfz21_0
    try clear hfz21_1
    try clear hfz21_2
    obtain ⟨kq, x22_3, rfl, HA, HJ3, BK686, BK687, HB⟩ := hcut
    cases kq with
    | zero => exact absurd HA.out (by simp [impl_TraceOf.j0])
    | succ kj3 =>
      have H := HA.out
      clear HA
      simp only [impl_TraceOf.j0] at H
      by_cases c23 : x22_3 = true
      · subst c23
        have H1 : (some (0, ([] : List (S117)), 0, false)) = some (r1, r2, r3, r4) := by rw [if_pos rfl] at H; exact H
        clear H
        have H := H1
        clear H1
        simp only [Option.some.injEq, Prod.mk.injEq] at H
        obtain ⟨rfl, rfl, rfl, rfl⟩ := H
        have hnb24 := NB687_686.out
        have hnc24 := NB686_687.out
        have hcz25_0 : wc.cell? ⟨gb687, 0, none⟩ = some (.int .i64 0) := (qC BK687.out 0).trans rfl
        have hcz25_1 : wc.cell? ⟨gb687, 1, none⟩ = some (.slice none 0 0) := (qC BK687.out 1).trans rfl
        have hcz25_2 : wc.cell? ⟨gb687, 2, none⟩ = some (.int .i64 0) := (qC BK687.out 2).trans rfl
        have hfz25_0 := qF BK687.out 0
        have hfz25_1 := qF BK687.out 1
        have hfz25_2 := qF BK687.out 2
        go_wp2
        refine bodyPost_ret (results_ct rfl _ _ gb687 87 #[.int .i64 0, .slice none 0 0, .int .i64 0] (0, 0) _ rfl (by (with_reducible repeat (first | apply qn | apply qd | apply qa)); refine blk_put (cs := #[.int .i64 0, .slice none 0 0, .int .i64 0]) ?_ 2 _ rfl; (with_reducible repeat (first | apply qn | apply qd | apply qa)); refine blk_put (cs := #[.int .i64 0, .slice none 0 0, .int .i64 0]) ?_ 1 _ rfl; (with_reducible repeat (first | apply qn | apply qd | apply qa)); refine blk_put (cs := #[.int .i64 0, .slice none 0 0, .int .i64 0]) ?_ 0 _ rfl; (with_reducible repeat (first | apply qn | apply qd | apply qa)); exact BK687.out) Try.underlying87 rfl (by kernel_rfl)) rfl ?_
        exact ⟨_, by first | rfl | (simp [errW_none, errW_some] <;> rfl) | (simp [*, errW_none, errW_some] <;> rfl), by first | exact Kd.R_nil _ _ _ _ _ | exact Kd.N_nil _ _ _ _ _ | exact Kd.V_nil _ _ _ _ _ | exact Kd.Q_nil _ _ _ _ _ | exact Kd.S_nil _ _ _ _ _, by repeat (first | (with_reducible first | exact HB.out | apply qA | apply qN | apply qD | refine qS ?_ GE686.out | refine qS ?_ GE687.out) | exact HB.out)⟩
      replace c23 := Bool.eq_false_iff.mpr c23
      subst c23
      have H1 : ((impl_Task_fetched.f a1_0 a1_1 l1_2 l2).bind fun bt691 => ((impl_once.f bt691.2).bind fun t695 => (some (a0, t695, bt691.1, true)))) = some (r1, r2, r3, r4) := by rw [if_neg (show ¬ (false = true) by decide)] at H; exact H
      clear H
      have H := H1
      clear H1
      replace H := jG H
      obtain ⟨⟨t691, t692⟩, A260, H⟩ := H
      replace H : ((impl_once.f t692).bind fun t695 => (some (a0, t695, t691, true))) = some (r1, r2, r3, r4) := H
      have A26 := qM A260
      clear A260
      replace H := jG H
      obtain ⟨t695, A270, H⟩ := H
      replace H : (some (a0, t695, t691, true)) = some (r1, r2, r3, r4) := H
      have A27 := qM A270
      clear A270
      simp only [Option.some.injEq, Prod.mk.injEq] at H
      obtain ⟨rfl, rfl, rfl, rfl⟩ := H
      have hnb28 := NB686_687.out
      have hnc28 := NB687_686.out
      have hcz29_0 : wc.cell? ⟨gb686, 0, none⟩ = some (.int .i64 a1_0) := (qC BK686.out 0).trans rfl
      have hcz29_1 : wc.cell? ⟨gb686, 1, none⟩ = some (.int .i64 a1_1) := (qC BK686.out 1).trans rfl
      have hcz29_2 : wc.cell? ⟨gb686, 2, none⟩ = some (.slice A1_2 l1_2.length c1_2) := (qC BK686.out 2).trans rfl
      have hfz29_0 := qF BK686.out 0
      have hfz29_1 := qF BK686.out 1
      have hfz29_2 := qF BK686.out 2
      go_wp2_with (first | ((with_reducible refine gate_callee (f := 138) rfl ?_); refine goesL_ (some 27) rfl rfl Try.func138 (by kernel_rfl) rfl #[.agg #[.int .i64 a1_0, .int .i64 a1_1, .slice A1_2 l1_2.length c1_2], .slice A2 l2.length c2] rfl (by (try simp only [jC, jD, jE]); first | done | rfl | (simp only [jB, jA]; rfl)) ?_; (with_reducible refine (impl_Task_fetched.calls a1_0 a1_1 _ _ l1_2 _ _ l2 t691 t692 _ ?side1 ?side2 ?side3 ?side4 A26.out).mono ?_); (case side1 => repeat (first | exact (qB HR1_2.out HB.out) | (with_reducible refine qc ?_ _) | (with_reducible refine qe ?_ _) | (with_reducible refine qf ?_))); (case side2 => exact HC1_2.out); (case side3 => repeat (first | exact (qB HR2.out HB.out) | (with_reducible refine qc ?_ _) | (with_reducible refine qe ?_ _) | (with_reducible refine qf ?_))); (case side4 => exact HC2.out); rintro e w30 ⟨v693, rfl, ho0, hb⟩; refine ⟨_, rfl, ?_⟩; have n0_ := qM (Kd.R_lower ho0 (qz (by repeat (first | (with_reducible first | exact HB.out | apply qA | apply qN | apply qD | refine qS ?_ GE686.out | refine qS ?_ GE687.out) | exact HB.out)))); have n1_ := qM (blk_below (g := gb686) (o := .cells #[.int .i64 a1_0, .int .i64 a1_1, .slice A1_2 l1_2.length c1_2] 30 (0, 0)) (by (with_reducible repeat (first | apply qn | apply qd | apply qa)); exact BK686.out) hb); have n2_ := qM (blk_below (g := gb687) (o := .cells #[.int .i64 0, .slice none 0 0, .int .i64 0] 87 (0, 0)) (by (with_reducible repeat (first | apply qn | apply qd | apply qa)); exact BK687.out) hb); have n3_ := qM (qs (by repeat (first | (with_reducible first | exact HB.out | apply qA | apply qN | apply qD | refine qS ?_ GE686.out | refine qS ?_ GE687.out) | exact HB.out)) hb); clear BK686; clear BK687; clear HB; have HO694 := n0_; have BK686 := n1_; have BK687 := n2_; have HB := n3_; clear n0_ n1_ n2_ n3_; (try clear hb); (try clear hb2); (try clear hk); (try clear hi); (try clear ho0); obtain ⟨Ao31, co31, eo31⟩ := Kd.R_slice HO694.out; subst eo31) | ((with_reducible refine gate_callee (f := 80) rfl ?_); refine goesL_ (some 32) rfl rfl Try.func80 (by kernel_rfl) rfl #[.slice Ao31 t692.length co31] rfl (by (try simp only [jC, jD, jE]); first | done | rfl | (simp only [jB, jA]; rfl)) ?_; (with_reducible refine (impl_once.calls _ _ t692 t695 _ ?side1 ?side2 A27.out).mono ?_); (case side1 => repeat (first | exact (Kd.R_reads' HO694.out).2.2 | (with_reducible refine qc ?_ _) | (with_reducible refine qe ?_ _) | (with_reducible refine qf ?_))); (case side2 => exact (Kd.R_reads' HO694.out).2.1); rintro e w32 ⟨v696, rfl, ho0, hb⟩; refine ⟨_, rfl, ?_⟩; have n0_ := qM (Kd.R_elder' (by (with_reducible repeat (first | apply Kd.R_alloc | apply Kd.R_drewN | apply Kd.R_drew)); exact HO694.out) (Kd.R_base ho0) hb); have n1_ := qM (Kd.R_lower (Kd.R_new' ho0 (Kd.R_lt (by (with_reducible repeat (first | apply Kd.R_alloc | apply Kd.R_drewN | apply Kd.R_drew)); exact HO694.out))) (qz (by repeat (first | (with_reducible first | exact HB.out | apply qA | apply qN | apply qD | refine qS ?_ GE686.out | refine qS ?_ GE687.out) | exact HB.out)))); have n2_ := qM (blk_below (g := gb686) (o := .cells #[.int .i64 a1_0, .int .i64 a1_1, .slice A1_2 l1_2.length c1_2] 30 (0, 0)) (by (with_reducible repeat (first | apply qn | apply qd | apply qa)); exact BK686.out) hb); have n3_ := qM (blk_below (g := gb687) (o := .cells #[.int .i64 0, .slice none 0 0, .int .i64 0] 87 (0, 0)) (by (with_reducible repeat (first | apply qn | apply qd | apply qa)); exact BK687.out) hb); have n4_ := qM (qs (by repeat (first | (with_reducible first | exact HB.out | apply qA | apply qN | apply qD | refine qS ?_ GE686.out | refine qS ?_ GE687.out) | exact HB.out)) hb); clear HO694; clear BK686; clear BK687; clear HB; have HO694 := n0_; have HO697 := n1_; have BK686 := n2_; have BK687 := n3_; have HB := n4_; clear n0_ n1_ n2_ n3_ n4_; (try clear hb); (try clear hb2); (try clear hk); (try clear hi); (try clear ho0); obtain ⟨Ao33, co33, eo33⟩ := Kd.R_slice HO697.out; subst eo33; have hcz34_0 : w32.cell? ⟨gb687, 0, none⟩ = some (.int .i64 0) := (qC BK687.out 0).trans rfl; have hcz34_1 : w32.cell? ⟨gb687, 1, none⟩ = some (.slice none 0 0) := (qC BK687.out 1).trans rfl; have hcz34_2 : w32.cell? ⟨gb687, 2, none⟩ = some (.int .i64 0) := (qC BK687.out 2).trans rfl; have hfz34_0 := qF BK687.out 0; have hfz34_1 := qF BK687.out 1; have hfz34_2 := qF BK687.out 2))
      refine bodyPost_ret (results_ct rfl _ _ gb687 87 #[.int .i64 a0, .slice Ao33 t695.length co33, .int .i64 t691] (0, 0) _ rfl (by (with_reducible repeat (first | apply qn | apply qd | apply qa)); refine blk_put (cs := #[.int .i64 a0, .slice Ao33 t695.length co33, .int .i64 0]) ?_ 2 _ rfl; (with_reducible repeat (first | apply qn | apply qd | apply qa)); refine blk_put (cs := #[.int .i64 a0, .slice none 0 0, .int .i64 0]) ?_ 1 _ rfl; (with_reducible repeat (first | apply qn | apply qd | apply qa)); refine blk_put (cs := #[.int .i64 0, .slice none 0 0, .int .i64 0]) ?_ 0 _ rfl; (with_reducible repeat (first | apply qn | apply qd | apply qa)); exact BK687.out) Try.underlying87 rfl (by kernel_rfl)) rfl ?_
      exact ⟨_, by first | rfl | (simp [errW_none, errW_some] <;> rfl) | (simp [*, errW_none, errW_some] <;> rfl), by (with_reducible repeat (first | apply Kd.R_alloc | apply Kd.R_drewN | apply Kd.R_drew)); exact Kd.R_mono (Kd.R_far (p := ⟨gb687, 2, none⟩) (Kd.R_far (p := ⟨gb687, 1, none⟩) (Kd.R_far (p := ⟨gb687, 0, none⟩) (Kd.R_types HO697.out BK687.out (by decide)) (fun _ hk => hk.2) (.int .i64 a0)) (fun _ hk => hk.2) (.slice Ao33 t695.length co33)) (fun _ hk => hk.2) (.int .i64 t691)) (fun _ hk => trivial), by repeat (first | (with_reducible first | exact HB.out | apply qA | apply qN | apply qD | refine qS ?_ GE686.out | refine qS ?_ GE687.out) | exact HB.out)⟩
def impl_Trace_values.l0 : Nat → Int → List Int → List (S117) → Int → Int → Option (List Int)
  | 0, _, _, _, _, _ => none
  | k + 1, x1, x5, x11, x12, x13 => if x13 < x12 then (if 0 ≤ x13 then (if x13 < (x11.length : Int) then (if ((rd_T117 x11 x13).f0) < x1 then (if 0 ≤ ((rd_T117 x11 x13).f0) then (if ((rd_T117 x11 x13).f0) < (x5.length : Int) then (impl_Trace_values.l0 k x1 (x5.set (((rd_T117 x11 x13).f0) : Int).toNat ((rd_T117 x11 x13).f1)) x11 x12 (wrap64 (x13 + 1))) else (none)) else (none)) else (impl_Trace_values.l0 k x1 x5 x11 x12 (wrap64 (x13 + 1)))) else (none)) else (none)) else (some x5)
def impl_Trace_values.f (k : Nat) (a0_0 : Int) (l0_1 : List (S117)) (a0_2 : Int) (a1 : Int) : Option (List Int) := if 0 ≤ a1 then (if (a1 : Int).toNat ≤ 35184372088832 then (impl_Trace_values.l0 k a1 (List.replicate (a1 : Int).toNat 0) l0_1 (l0_1.length : Int) 0) else (none)) else (none)
theorem impl_Trace_values.calls (k : Nat) (a0_0 : Int) (A0_1 : Option Addr) (c0_1 : Nat) (l0_1 : List (S117)) (a0_2 : Int) (a1 : Int) (r : List Int) (w : World) (hr0_1 : Kd.C k117 w A0_1 l0_1.length l0_1) (hc0_1 : l0_1.length ≤ c0_1) (h : impl_Trace_values.f k a0_0 l0_1 a0_2 a1 = some r) :
    Calls Try.prog 149 #[.agg #[.int .i64 a0_0, .slice A0_1 l0_1.length c0_1, .int .i64 a0_2], .int .i64 a1] w fun e w' => ∃ v0_ : Value, e = .returned (v0_) ∧ Kd.R (Kd.int .i64) 3 w' w.heap.size (fun _ => True) v0_ r ∧ Below w.heap.size w w' := by
  have hu87 := Try.underlying87
  have hu117 := Try.underlying117
  have HR0_1 := qM hr0_1
  have HC0_1 := qM hc0_1
  clear hr0_1 hc0_1
  have HB := qM (Below.refl w.heap.size w)
  have H : (if 0 ≤ a1 then (if (a1 : Int).toNat ≤ 35184372088832 then (impl_Trace_values.l0 k a1 (List.replicate (a1 : Int).toNat 0) l0_1 (l0_1.length : Int) 0) else (none)) else (none)) = some r := h
  clear h
  by_cases c3 : 0 ≤ a1
  rotate_left
  · rw [if_neg c3] at H
    exact absurd H (by simp)
  rw [if_pos c3] at H
  have c3b0 := eq_true c3
  have c3b1 : decide (0 ≤ a1) = true := decide_eq_true c3
  clear c3
  by_cases c4 : (a1 : Int).toNat ≤ 35184372088832
  rotate_left
  · rw [if_neg c4] at H
    exact absurd H (by simp)
  rw [if_pos c4] at H
  have c4b0 := eq_true c4
  have c4b1 : decide ((a1 : Int).toNat ≤ 35184372088832) = true := decide_eq_true c4
  clear c4
  obtain ⟨y699, hy699⟩ : ∃ y_ : List Int, y_ = (List.replicate (a1 : Int).toNat 0) := ⟨_, rfl⟩
  replace H : (impl_Trace_values.l0 k a1 y699 l0_1 (l0_1.length : Int) 0) = some r := by first | (rw [hy699]; with_reducible exact H) | (have H2_ := (Option.bind_some _ _).symm.trans H; rw [hy699]; with_reducible exact H2_) | (have H2_ := (Option.bind_some _ _).symm.trans H; with_reducible exact H2_) | with_reducible exact H | (rw [hy699]; exact H) | exact H
  have Ny699 := qM hy699
  clear hy699
  have H' := qM H
  clear H
  go_enter Try.func149, Try.ntmps149
  go_wp2_with (first | ((with_reducible refine gate_dst (N := 2) rfl ?_); refine box_event ?hg (N := 2) ?hd (cs := #[.int .i64 a0_0, .slice A0_1 l0_1.length c0_1, .int .i64 a0_2]) (t := 87) ?hr ?_; (case hd => rfl); (case hg => rfl); (case hr => first | (go_simp; done) | (go_simp; rfl)); intro gb698 hg w5 hbox hb; have n0_ := qM (qs (by repeat (first | (with_reducible first | exact HB.out | apply qA | apply qN | apply qD) | exact HB.out)) hb); have n1_ := qM (hbox); have n2_ := qM ((by rw [hg]; exact (qz (by repeat (first | (with_reducible first | exact HB.out | apply qA | apply qN | apply qD) | exact HB.out))) : w.heap.size ≤ gb698)); have n3_ := qM ((by rw [hg]; exact (qz (by repeat (first | (with_reducible first | exact HB.out | apply qA | apply qN | apply qD) | exact HB.out))) : w.heap.size ≤ gb698)); clear HB; have HB := n0_; have BK698 := n1_; have GW698 := n2_; have GE698 := n3_; clear n0_ n1_ n2_ n3_; clear hb hbox hg) | ((with_reducible refine gate_dst (N := 9) rfl ?_); refine Kd.R_make (Kd.int .i64) _ 3 rfl (N := 9) rfl 26 _ _ rfl a1 rfl rfl Try.underlying26 (.int .i64 0) 8 info3 rfl (by decide) (by omega) 0 (ok := fun _ => True) (okp := fun _ => True) rfl (fun _ hk => hk) trivial (qO (by first | (with_reducible assumption) | assumption)) (Nat.le_trans (Nat.mul_le_mul_right _ (qO (by first | (with_reducible assumption) | assumption) : a1.toNat ≤ 35184372088832)) (by omega)) (Below.refl _ _) (Nat.le_refl _) ?_; intro v700 w6 ho7 hb hg_ hnew_; clear hg_ hnew_; (first | rw [← Ny699.out] at ho7 | (simp only [Int.reduceToNat] at ho7; rw [← Ny699.out] at ho7)); have n0_ := qM (Kd.R_lower ho7 (qz (by repeat (first | (with_reducible first | exact HB.out | apply qA | apply qN | apply qD | refine qS ?_ GE698.out) | exact HB.out)))); have n1_ := qM (blk_below (g := gb698) (o := .cells #[.int .i64 a0_0, .slice A0_1 l0_1.length c0_1, .int .i64 a0_2] 87 (0, 0)) (by (with_reducible repeat (first | apply qn | apply qd | apply qa)); exact BK698.out) hb); have n2_ := qM (qs (by repeat (first | (with_reducible first | exact HB.out | apply qA | apply qN | apply qD | refine qS ?_ GE698.out) | exact HB.out)) hb); clear BK698; clear HB; have HO701 := n0_; have BK698 := n1_; have HB := n2_; clear n0_ n1_ n2_; clear hb ho7; have hcz8_0 : w6.cell? ⟨gb698, 0, none⟩ = some (.int .i64 a0_0) := (qC BK698.out 0).trans rfl; have hcz8_1 : w6.cell? ⟨gb698, 1, none⟩ = some (.slice A0_1 l0_1.length c0_1) := (qC BK698.out 1).trans rfl; have hcz8_2 : w6.cell? ⟨gb698, 2, none⟩ = some (.int .i64 a0_2) := (qC BK698.out 2).trans rfl; have hfz8_0 := qF BK698.out 0; have hfz8_1 := qF BK698.out 1; have hfz8_2 := qF BK698.out 2))
  go_loopg [13] k (fun kq v13 w' => ∃ (x5_1 : List Int) (x13_1 : Int), v13 = .int .i64 x13_1 ∧ Aside0 (impl_Trace_values.l0 kq a1 x5_1 l0_1 (l0_1.length : Int) x13_1 = some r) ∧ Aside0 (kq ≤ k) ∧ Aside0 (Kd.R (Kd.int .i64) 3 w' w.heap.size (fun _ => True) v700 x5_1) ∧ Aside0 (w'.heap[gb698]? = some (.cells #[.int .i64 a0_0, (.slice A0_1 l0_1.length c0_1), .int .i64 a0_2] 87 (0, 0))) ∧ Aside0 (Below w.heap.size w w'))
  case atStart => exact ⟨(y699), (0), (by first | rfl | (simp; done) | (simp [*]; done)), H', ⟨Nat.le_refl _⟩, ⟨by (with_reducible repeat (first | apply Kd.R_alloc | apply Kd.R_drewN | apply Kd.R_drew)); exact HO701.out⟩, ⟨by (with_reducible repeat (first | apply qn | apply qd | apply qa)); exact BK698.out⟩, ⟨by repeat (first | (with_reducible first | exact HB.out | apply qA | apply qN | apply qD | refine qS ?_ GE698.out) | exact HB.out)⟩⟩
  case round =>
    clear H'
    try clear c1
    try clear p2
    try clear c3
    try clear c3b0
    try clear c3b1
    try clear c4
    try clear c4b0
    try clear c4b1
    try clear hcz8_0
    try clear hcz8_1
    try clear hcz8_2
    try clear hfz8_0
    try clear hfz8_1
    try clear hfz8_2
    obtain ⟨x5_1, x13_1, rfl, HA, HK1, HO_5, BK698, HB⟩ := hrel
    cases gk with
    | zero => exact absurd HA.out (by simp [impl_Trace_values.l0])
    | succ k1 =>
      have H := HA.out
      clear HA
      simp only [impl_Trace_values.l0] at H
      by_cases c9 : x13_1 < (l0_1.length : Int)
      rotate_left
      · rw [if_neg c9] at H
        have c9b0 : decide (x13_1 < (l0_1.length : Int)) = false := decide_eq_false c9
        clear c9
        obtain rfl := jF H
        go_wp2
        go_ret
        exact ⟨_, by first | rfl | (simp [errW_none, errW_some] <;> rfl) | (simp [*, errW_none, errW_some] <;> rfl), by (with_reducible repeat (first | apply Kd.R_alloc | apply Kd.R_drewN | apply Kd.R_drew)); exact HO_5.out, by repeat (first | (with_reducible first | exact HB.out | apply qA | apply qN | apply qD | refine qS ?_ GE698.out) | exact HB.out)⟩
      rw [if_pos c9] at H
      have c9b0 : decide (x13_1 < (l0_1.length : Int)) = true := decide_eq_true c9
      clear c9
      by_cases c10 : 0 ≤ x13_1
      rotate_left
      · rw [if_neg c10] at H
        exact absurd H (by simp)
      rw [if_pos c10] at H
      have c10b0 : decide (0 ≤ x13_1) = true := decide_eq_true c10
      clear c10
      by_cases c11 : x13_1 < (l0_1.length : Int)
      rotate_left
      · rw [if_neg c11] at H
        exact absurd H (by simp)
      rw [if_pos c11] at H
      have c11b0 : decide (x13_1 < (l0_1.length : Int)) = true := decide_eq_true c11
      clear c11
      by_cases c12 : ((rd_T117 l0_1 x13_1).f0) < a1
      rotate_left
      · rw [if_neg c12] at H
        have c12b0 : decide (((rd_T117 l0_1 x13_1).f0) < a1) = false := decide_eq_false c12
        clear c12
        have H' := qM H
        clear H
        have p702 : 0 ≤ (x13_1 : Int) := qO (by first | (with_reducible assumption) | assumption)
        have q702 : x13_1 < (l0_1.length : Int) := qO (by first | (with_reducible assumption) | assumption)
        obtain ⟨ad702, e702, hx702_0, hx702_1⟩ := at_T117 HR0_1.out x13_1 p702 q702
        cases e702
        replace hx702_0 := (HB.out.cell (qL w _ hx702_0)).trans hx702_0
        replace hx702_1 := (HB.out.cell (qL w _ hx702_1)).trans hx702_1
        replace p702 := eq_true p702
        replace q702 := eq_true q702
        go_wp2_with (first | ((with_reducible refine gate_dst (N := 7) rfl ?_); refine box_event ?hg (N := 7) ?hd (cs := #[.int .i64 0, .int .i64 0]) (t := 117) ?hr ?_; (case hd => rfl); (case hg => rfl); (case hr => first | (go_simp; done) | (go_simp; rfl)); intro gb703 hg w23 hbox hb; have n0_ := qM (Kd.R_below (by (with_reducible repeat (first | apply Kd.R_alloc | apply Kd.R_drewN | apply Kd.R_drew)); exact HO_5.out) hb); have n1_ := qM (blk_below (g := gb698) (o := .cells #[.int .i64 a0_0, .slice (some ad702) l0_1.length c0_1, .int .i64 a0_2] 87 (0, 0)) (by (with_reducible repeat (first | apply qn | apply qd | apply qa)); exact BK698.out) hb); have n2_ := qM (qs (by repeat (first | (with_reducible first | exact HB.out | apply qA | apply qN | apply qD | refine qS ?_ GE698.out) | exact HB.out)) hb); have n3_ := qM (hbox); have n4_ := qM ((by rw [hg]; exact (qz (by repeat (first | (with_reducible first | exact HB.out | apply qA | apply qN | apply qD | refine qS ?_ GE698.out) | exact HB.out))) : w.heap.size ≤ gb703)); have n5_ := qM ((by rw [hg]; exact (qz (by repeat (first | (with_reducible first | exact HB.out | apply qA | apply qN | apply qD | refine qS ?_ GE698.out) | exact HB.out))) : w.heap.size ≤ gb703)); have n6_ := qM ((by rw [hg]; exact Nat.ne_of_lt (blk_lt (g := gb698) (o := .cells #[.int .i64 a0_0, .slice (some ad702) l0_1.length c0_1, .int .i64 a0_2] 87 (0, 0)) (by (with_reducible repeat (first | apply qn | apply qd | apply qa)); exact BK698.out)) : gb698 ≠ gb703)); have n7_ := qM ((by rw [hg]; exact Nat.ne_of_gt (blk_lt (g := gb698) (o := .cells #[.int .i64 a0_0, .slice (some ad702) l0_1.length c0_1, .int .i64 a0_2] 87 (0, 0)) (by (with_reducible repeat (first | apply qn | apply qd | apply qa)); exact BK698.out)) : gb703 ≠ gb698)); clear HO_5; clear BK698; clear HB; have HO_5 := n0_; have BK698 := n1_; have HB := n2_; have BK703 := n3_; have GW703 := n4_; have GE703 := n5_; have NB698_703 := n6_; have NB703_698 := n7_; clear n0_ n1_ n2_ n3_ n4_ n5_ n6_ n7_; clear hb hbox hg; have hnb24 := NB703_698.out; have hnc24 := NB698_703.out; have hcz25_0 : w23.cell? ⟨gb703, 0, none⟩ = some (.int .i64 0) := (qC BK703.out 0).trans rfl; have hcz25_1 : w23.cell? ⟨gb703, 1, none⟩ = some (.int .i64 0) := (qC BK703.out 1).trans rfl; have hfz25_0 := qF BK703.out 0; have hfz25_1 := qF BK703.out 1))
        go_roundg k1
        case measure => have := HK1.out; omega
        case rel => exact ⟨(x5_1), (wrap64 (x13_1 + 1)), (by first | rfl | (simp; done) | (simp [*]; done)), H', ⟨by have := HK1.out; omega⟩, ⟨by (with_reducible repeat (first | apply Kd.R_alloc | apply Kd.R_drewN | apply Kd.R_drew)); exact Kd.R_mono (Kd.R_far (p := ⟨gb703, 1, none⟩) (Kd.R_far (p := ⟨gb703, 0, none⟩) (Kd.R_types HO_5.out BK703.out (by decide)) (fun _ hk => hk.2) (.int .i64 ((rd_T117 l0_1 x13_1).f0))) (fun _ hk => hk.2) (.int .i64 ((rd_T117 l0_1 x13_1).f1))) (fun _ hk => trivial)⟩, ⟨by (with_reducible repeat (first | apply qn | apply qd | apply qa)); refine blk_far ?_ NB698_703.out _; (with_reducible repeat (first | apply qn | apply qd | apply qa)); refine blk_far ?_ NB698_703.out _; (with_reducible repeat (first | apply qn | apply qd | apply qa)); exact BK698.out⟩, ⟨by repeat (first | (with_reducible first | exact HB.out | apply qA | apply qN | apply qD | refine qS ?_ GE698.out | refine qS ?_ GE703.out) | exact HB.out)⟩⟩
      rw [if_pos c12] at H
      have c12b0 : decide (((rd_T117 l0_1 x13_1).f0) < a1) = true := decide_eq_true c12
      clear c12
      by_cases c13 : 0 ≤ ((rd_T117 l0_1 x13_1).f0)
      rotate_left
      · rw [if_neg c13] at H
        exact absurd H (by simp)
      rw [if_pos c13] at H
      have c13b0 : decide (0 ≤ ((rd_T117 l0_1 x13_1).f0)) = true := decide_eq_true c13
      clear c13
      by_cases c14 : ((rd_T117 l0_1 x13_1).f0) < (x5_1.length : Int)
      rotate_left
      · rw [if_neg c14] at H
        exact absurd H (by simp)
      rw [if_pos c14] at H
      have c14b0 : decide (((rd_T117 l0_1 x13_1).f0) < (x5_1.length : Int)) = true := decide_eq_true c14
      clear c14
      obtain ⟨y704, hy704⟩ : ∃ y_ : List Int, y_ = (x5_1.set (((rd_T117 l0_1 x13_1).f0) : Int).toNat ((rd_T117 l0_1 x13_1).f1)) := ⟨_, rfl⟩
      replace H : (impl_Trace_values.l0 k1 a1 y704 l0_1 (l0_1.length : Int) (wrap64 (x13_1 + 1))) = some r := by first | (rw [hy704]; with_reducible exact H) | (have H2_ := (Option.bind_some _ _).symm.trans H; rw [hy704]; with_reducible exact H2_) | (have H2_ := (Option.bind_some _ _).symm.trans H; with_reducible exact H2_) | with_reducible exact H | (rw [hy704]; exact H) | exact H
      have Ny704 := qM hy704
      clear hy704
      have H' := qM H
      clear H
      have p702 : 0 ≤ (x13_1 : Int) := qO (by first | (with_reducible assumption) | assumption)
      have q702 : x13_1 < (l0_1.length : Int) := qO (by first | (with_reducible assumption) | assumption)
      obtain ⟨ad702, e702, hx702_0, hx702_1⟩ := at_T117 HR0_1.out x13_1 p702 q702
      cases e702
      replace hx702_0 := (HB.out.cell (qL w _ hx702_0)).trans hx702_0
      replace hx702_1 := (HB.out.cell (qL w _ hx702_1)).trans hx702_1
      replace p702 := eq_true p702
      replace q702 := eq_true q702
      go_wp2_with (first | ((with_reducible refine gate_dst (N := 7) rfl ?_); refine box_event ?hg (N := 7) ?hd (cs := #[.int .i64 0, .int .i64 0]) (t := 117) ?hr ?_; (case hd => rfl); (case hg => rfl); (case hr => first | (go_simp; done) | (go_simp; rfl)); intro gb703 hg w16 hbox hb; have n0_ := qM (Kd.R_below (by (with_reducible repeat (first | apply Kd.R_alloc | apply Kd.R_drewN | apply Kd.R_drew)); exact HO_5.out) hb); have n1_ := qM (blk_below (g := gb698) (o := .cells #[.int .i64 a0_0, .slice (some ad702) l0_1.length c0_1, .int .i64 a0_2] 87 (0, 0)) (by (with_reducible repeat (first | apply qn | apply qd | apply qa)); exact BK698.out) hb); have n2_ := qM (qs (by repeat (first | (with_reducible first | exact HB.out | apply qA | apply qN | apply qD | refine qS ?_ GE698.out) | exact HB.out)) hb); have n3_ := qM (hbox); have n4_ := qM ((by rw [hg]; exact (qz (by repeat (first | (with_reducible first | exact HB.out | apply qA | apply qN | apply qD | refine qS ?_ GE698.out) | exact HB.out))) : w.heap.size ≤ gb703)); have n5_ := qM ((by rw [hg]; exact (qz (by repeat (first | (with_reducible first | exact HB.out | apply qA | apply qN | apply qD | refine qS ?_ GE698.out) | exact HB.out))) : w.heap.size ≤ gb703)); have n6_ := qM ((by rw [hg]; exact Nat.ne_of_lt (blk_lt (g := gb698) (o := .cells #[.int .i64 a0_0, .slice (some ad702) l0_1.length c0_1, .int .i64 a0_2] 87 (0, 0)) (by (with_reducible repeat (first | apply qn | apply qd | apply qa)); exact BK698.out)) : gb698 ≠ gb703)); have n7_ := qM ((by rw [hg]; exact Nat.ne_of_gt (blk_lt (g := gb698) (o := .cells #[.int .i64 a0_0, .slice (some ad702) l0_1.length c0_1, .int .i64 a0_2] 87 (0, 0)) (by (with_reducible repeat (first | apply qn | apply qd | apply qa)); exact BK698.out)) : gb703 ≠ gb698)); clear HO_5; clear BK698; clear HB; have HO_5 := n0_; have BK698 := n1_; have HB := n2_; have BK703 := n3_; have GW703 := n4_; have GE703 := n5_; have NB698_703 := n6_; have NB703_698 := n7_; clear n0_ n1_ n2_ n3_ n4_ n5_ n6_ n7_; clear hb hbox hg; have hnb17 := NB703_698.out; have hnc17 := NB698_703.out; have hcz18_0 : w16.cell? ⟨gb703, 0, none⟩ = some (.int .i64 0) := (qC BK703.out 0).trans rfl; have hcz18_1 : w16.cell? ⟨gb703, 1, none⟩ = some (.int .i64 0) := (qC BK703.out 1).trans rfl; have hfz18_0 := qF BK703.out 0; have hfz18_1 := qF BK703.out 1) | ((with_reducible refine gate_store (t := 117) (p := 7) rfl ?_); refine store_event (t := 117) (p := 7) (v := ?vo_w19) (w1 := ((w16.setCell ⟨gb703, 0, none⟩ (.int .i64 ((rd_T117 l0_1 x13_1).f0))).setCell ⟨gb703, 1, none⟩ (.int .i64 ((rd_T117 l0_1 x13_1).f1)))) ?hg ?ho ?hn ?hr ?_; (case ho => rfl); (case hg => rfl); (case hn => rfl); (case hr => first | (go_simp; done) | (go_simp; rfl)); intro w19 hw; have n0_ : Aside0 (Kd.R (Kd.int .i64) 3 w19 w.heap.size (fun _ => True) v700 x5_1) := ⟨(by rw [hw]; exact (by (with_reducible repeat (first | apply Kd.R_alloc | apply Kd.R_drewN | apply Kd.R_drew)); exact Kd.R_mono (Kd.R_far (p := ⟨gb703, 1, none⟩) (Kd.R_far (p := ⟨gb703, 0, none⟩) (Kd.R_types HO_5.out BK703.out (by decide)) (fun _ hk => hk.2) (.int .i64 ((rd_T117 l0_1 x13_1).f0))) (fun _ hk => hk.2) (.int .i64 ((rd_T117 l0_1 x13_1).f1))) (fun _ hk => trivial)))⟩; have n1_ : Aside0 (w19.heap[gb698]? = some (.cells #[.int .i64 a0_0, .slice (some ad702) l0_1.length c0_1, .int .i64 a0_2] 87 (0, 0))) := ⟨(by rw [hw]; exact (by (with_reducible repeat (first | apply qn | apply qd | apply qa)); refine blk_far ?_ NB698_703.out _; (with_reducible repeat (first | apply qn | apply qd | apply qa)); refine blk_far ?_ NB698_703.out _; (with_reducible repeat (first | apply qn | apply qd | apply qa)); exact BK698.out))⟩; have n2_ : Aside0 (w19.heap[gb703]? = some (.cells #[.int .i64 ((rd_T117 l0_1 x13_1).f0), .int .i64 ((rd_T117 l0_1 x13_1).f1)] 117 (0, 0))) := ⟨(by rw [hw]; exact (by (with_reducible repeat (first | apply qn | apply qd | apply qa)); refine blk_put (cs := #[.int .i64 ((rd_T117 l0_1 x13_1).f0), .int .i64 0]) ?_ 1 _ rfl; (with_reducible repeat (first | apply qn | apply qd | apply qa)); refine blk_put (cs := #[.int .i64 0, .int .i64 0]) ?_ 0 _ rfl; (with_reducible repeat (first | apply qn | apply qd | apply qa)); exact BK703.out))⟩; have n3_ : Aside0 (Below w.heap.size w w19) := ⟨(by rw [hw]; exact (by repeat (first | (with_reducible first | exact HB.out | apply qA | apply qN | apply qD | refine qS ?_ GE698.out | refine qS ?_ GE703.out) | exact HB.out)))⟩; clear hw; clear HO_5; clear BK698; clear BK703; clear HB; have HO_5 := n0_; have BK698 := n1_; have BK703 := n2_; have HB := n3_; clear n0_ n1_ n2_ n3_; have hcz20_0 : w19.cell? ⟨gb703, 0, none⟩ = some (.int .i64 ((rd_T117 l0_1 x13_1).f0)) := (qC BK703.out 0).trans rfl; have hcz20_1 : w19.cell? ⟨gb703, 1, none⟩ = some (.int .i64 ((rd_T117 l0_1 x13_1).f1)) := (qC BK703.out 1).trans rfl; have hfz20_0 := qF BK703.out 0; have hfz20_1 := qF BK703.out 1; have p15 : 0 ≤ (((rd_T117 l0_1 x13_1).f0) : Int) := qO (by first | (with_reducible assumption) | assumption); have q15 : (((rd_T117 l0_1 x13_1).f0) : Int) < ((x5_1.length : Int) : Int) := qO (by first | (with_reducible assumption) | assumption); obtain ⟨go15, co15, eo15, gb15, gl15, cl15, HG15⟩ := Kd.R_form HO_5.out (by omega); (first | cases eo15 | (injection eo15 with ea_ en_ ec_; (first | subst ea_ | (injection ea_ with ea_; subst ea_)); subst ec_; clear en_)); have GB15 := qM gb15; have GG15 := qM HG15; clear gb15 gl15 HG15; obtain ⟨hx15_0, hf15_0⟩ := Kd.R_celln 0 HO_5.out (((rd_T117 l0_1 x13_1).f0) : Int) p15 q15; replace p15 := eq_true p15; replace q15 := eq_true q15; obtain ⟨hy21_, hz21_⟩ := Kd.R_celln 0 HO_5.out (((rd_T117 l0_1 x13_1).f0) : Int) (qO (by first | (with_reducible assumption) | assumption)) (qO (by first | (with_reducible assumption) | assumption)); have HP21 := Kd.R_putg HO_5.out (((rd_T117 l0_1 x13_1).f0) : Int) ((rd_T117 l0_1 x13_1).f1)) | ((with_reducible refine gate_store (t := 3) (p := 26) rfl ?_); refine store_event (t := 3) (p := 26) (v := ?vo_w22) (w1 := (w19.setCell ⟨go15, (((rd_T117 l0_1 x13_1).f0) : Int).toNat, none⟩ (.int .i64 ((rd_T117 l0_1 x13_1).f1)))) ?hg ?ho ?hn ?hr ?_; (case ho => rfl); (case hg => rfl); (case hn => rfl); (case hr => first | (go_simp; done) | (go_simp; rfl)); intro w22 hw; have hg : w19.grownBy w22 (some go15) := (by rw [hw]; exact HP21.2); have hp_ : Kd.R (Kd.int .i64) 3 w22 w.heap.size (fun _ => True) (.slice (some ⟨go15, 0, none⟩) x5_1.length co15) y704 := (by rw [hw, Ny704.out]; exact HP21.1); clear HP21; have n0_ := qM (hp_); have n1_ := qM (blk_grown (g := gb698) (o := .cells #[.int .i64 a0_0, .slice (some ad702) l0_1.length c0_1, .int .i64 a0_2] 87 (0, 0)) (by (with_reducible repeat (first | apply qn | apply qd | apply qa)); exact BK698.out) hg (Kd.R_ne HO_5.out BK698.out (by decide))); have n2_ := qM (blk_grown (g := gb703) (o := .cells #[.int .i64 ((rd_T117 l0_1 x13_1).f0), .int .i64 ((rd_T117 l0_1 x13_1).f1)] 117 (0, 0)) (by (with_reducible repeat (first | apply qn | apply qd | apply qa)); exact BK703.out) hg (Kd.R_ne HO_5.out BK703.out (by decide))); have n3_ := qM ((by rw [hw]; exact qS (HB.out) GB15.out : Below w.heap.size w w22)); clear HO_5; clear BK698; clear BK703; clear HB; have HO_5 := n0_; have BK698 := n1_; have BK703 := n2_; have HB := n3_; clear n0_ n1_ n2_ n3_; clear hg hw hp_))
      go_roundg k1
      case measure => have := HK1.out; omega
      case rel => exact ⟨(y704), (wrap64 (x13_1 + 1)), (by first | rfl | (simp; done) | (simp [*]; done)), H', ⟨by have := HK1.out; omega⟩, ⟨by (with_reducible repeat (first | apply Kd.R_alloc | apply Kd.R_drewN | apply Kd.R_drew)); exact HO_5.out⟩, ⟨by (with_reducible repeat (first | apply qn | apply qd | apply qa)); exact BK698.out⟩, ⟨by repeat (first | (with_reducible first | exact HB.out | apply qA | apply qN | apply qD | refine qS ?_ GE698.out | refine qS ?_ GE703.out) | exact HB.out)⟩⟩
def slices_Equal_Fetch.l0 : Nat → List (S117) → List (S117) → Int → Int → Option (Bool)
  | 0, _, _, _, _ => none
  | k + 1, x0, x1, x12, x13 => if x13 < x12 then (if 0 ≤ x13 then (if x13 < (x0.length : Int) then (if x13 < (x1.length : Int) then (if (!(((rd_T117 x0 x13).f0) == ((rd_T117 x1 x13).f0)) || (!(((rd_T117 x0 x13).f1) == ((rd_T117 x1 x13).f1)))) = true then (some false) else (slices_Equal_Fetch.l0 k x0 x1 x12 (wrap64 (x13 + 1)))) else (none)) else (none)) else (none)) else (some true)
def slices_Equal_Fetch.f (k : Nat) (l0 : List (S117)) (l1 : List (S117)) : Option (Bool) := if (l0.length : Int) = (l1.length : Int) then (slices_Equal_Fetch.l0 k l0 l1 (l0.length : Int) 0) else (some false)
theorem slices_Equal_Fetch.calls (k : Nat) (A0 : Option Addr) (c0 : Nat) (l0 : List (S117)) (A1 : Option Addr) (c1 : Nat) (l1 : List (S117)) (r : Bool) (w : World) (hr0 : Kd.C k117 w A0 l0.length l0) (hc0 : l0.length ≤ c0) (hr1 : Kd.C k117 w A1 l1.length l1) (hc1 : l1.length ≤ c1) (h : slices_Equal_Fetch.f k l0 l1 = some r) :
    Calls Try.prog 170 #[.slice A0 l0.length c0, .slice A1 l1.length c1] w fun e w' => e = .returned (.bool r) ∧ Drawn0 w w' := by
  have hu117 := Try.underlying117
  have HR0 := qM hr0
  have HC0 := qM hc0
  clear hr0 hc0
  have HR1 := qM hr1
  have HC1 := qM hc1
  clear hr1 hc1
  have H : (if (l0.length : Int) = (l1.length : Int) then (slices_Equal_Fetch.l0 k l0 l1 (l0.length : Int) 0) else (some false)) = some r := h
  clear h
  by_cases c3 : (l0.length : Int) = (l1.length : Int)
  rotate_left
  · rw [if_neg c3] at H
    have c3b0 : ((l0.length : Int) == (l1.length : Int)) = false := beq_eq_false_iff_ne.mpr c3
    have c3b1 : ((l0.length : Int) != (l1.length : Int)) = true := bne_iff_ne.mpr c3
    have c3b2 : (l0.length == l1.length) = false := by first | simpa using c3 | (simp at c3 ⊢; omega)
    obtain rfl := jF H
    go_enter Try.func170, Try.ntmps170
    go_wp2
    repeat (go_quiet (fail); try go_wp2)
    go_ret
    exact ⟨by first | rfl | (simp; done) | (simp [*]; done), by repeat (first | exact Drawn0.refl _ | apply Drawn0.step)⟩
  rw [if_pos c3] at H
  have c3b0 : ((l0.length : Int) == (l1.length : Int)) = true := beq_iff_eq.mpr c3
  have c3b1 : ((l0.length : Int) != (l1.length : Int)) = false := bne_eq_false_iff_eq.mpr c3
  have c3b2 : (l0.length == l1.length) = true := by first | simpa using c3 | (simp at c3 ⊢; omega)
  clear c3
  have H' := qM H
  clear H
  go_enter Try.func170, Try.ntmps170
  go_wp2
  repeat (go_quiet (fail); try go_wp2)
  go_loopg [13] k (fun kq v13 w' => ∃ (x13_1 : Int), v13 = .int .i64 x13_1 ∧ Aside0 (slices_Equal_Fetch.l0 kq l0 l1 (l0.length : Int) x13_1 = some r) ∧ Aside0 (kq ≤ k) ∧ Drawn0 w w')
  case atStart => exact ⟨(0), (by first | rfl | (simp; done) | (simp [*]; done)), H', ⟨Nat.le_refl _⟩, by repeat (first | exact Drawn0.refl _ | apply Drawn0.step)⟩
  case round =>
    clear H'
    try clear c1
    try clear p2
    try clear c3
    try clear c3b0
    try clear c3b1
    try clear c3b2
    obtain ⟨x13_1, rfl, HA, HK1, ⟨m1, rfl⟩⟩ := hrel
    cases gk with
    | zero => exact absurd HA.out (by simp [slices_Equal_Fetch.l0])
    | succ k1 =>
      have H := HA.out
      clear HA
      simp only [slices_Equal_Fetch.l0] at H
      by_cases c4 : x13_1 < (l0.length : Int)
      rotate_left
      · rw [if_neg c4] at H
        have c4b0 : decide (x13_1 < (l0.length : Int)) = false := decide_eq_false c4
        clear c4
        obtain rfl := jF H
        go_wp2
        repeat (go_quiet (fail); try go_wp2)
        go_ret
        exact ⟨by first | rfl | (simp; done) | (simp [*]; done), by repeat (first | exact Drawn0.refl _ | apply Drawn0.step)⟩
      rw [if_pos c4] at H
      have c4b0 : decide (x13_1 < (l0.length : Int)) = true := decide_eq_true c4
      clear c4
      by_cases c5 : 0 ≤ x13_1
      rotate_left
      · rw [if_neg c5] at H
        exact absurd H (by simp)
      rw [if_pos c5] at H
      have c5b0 : decide (0 ≤ x13_1) = true := decide_eq_true c5
      clear c5
      by_cases c6 : x13_1 < (l0.length : Int)
      rotate_left
      · rw [if_neg c6] at H
        exact absurd H (by simp)
      rw [if_pos c6] at H
      have c6b0 : decide (x13_1 < (l0.length : Int)) = true := decide_eq_true c6
      clear c6
      by_cases c7 : x13_1 < (l1.length : Int)
      rotate_left
      · rw [if_neg c7] at H
        exact absurd H (by simp)
      rw [if_pos c7] at H
      have c7b0 : decide (x13_1 < (l1.length : Int)) = true := decide_eq_true c7
      clear c7
      by_cases c8 : (!(((rd_T117 l0 x13_1).f0) == ((rd_T117 l1 x13_1).f0)) || (!(((rd_T117 l0 x13_1).f1) == ((rd_T117 l1 x13_1).f1)))) = true
      · rw [if_pos c8] at H
        have c8b0 : (!(((rd_T117 l0 x13_1).f0) == ((rd_T117 l1 x13_1).f0)) || (!(((rd_T117 l0 x13_1).f1) == ((rd_T117 l1 x13_1).f1)))) = true := c8
        clear c8
        obtain rfl := jF H
        have p705 : 0 ≤ (x13_1 : Int) := qO (by first | (with_reducible assumption) | assumption)
        have q705 : x13_1 < (l0.length : Int) := qO (by first | (with_reducible assumption) | assumption)
        obtain ⟨ad705, e705, hx705_0, hx705_1⟩ := at_T117 HR0.out x13_1 p705 q705
        cases e705
        replace p705 := eq_true p705
        replace q705 := eq_true q705
        have p706 : 0 ≤ (x13_1 : Int) := qO (by first | (with_reducible assumption) | assumption)
        have q706 : x13_1 < (l1.length : Int) := qO (by first | (with_reducible assumption) | assumption)
        obtain ⟨ad706, e706, hx706_0, hx706_1⟩ := at_T117 HR1.out x13_1 p706 q706
        cases e706
        replace p706 := eq_true p706
        replace q706 := eq_true q706
        go_wp2
        repeat (go_quiet (fail); try go_wp2)
        go_ret
        exact ⟨by first | rfl | (simp; done) | (simp [*]; done), by repeat (first | exact Drawn0.refl _ | apply Drawn0.step)⟩
      rw [if_neg c8] at H
      have c8b0 : (!(((rd_T117 l0 x13_1).f0) == ((rd_T117 l1 x13_1).f0)) || (!(((rd_T117 l0 x13_1).f1) == ((rd_T117 l1 x13_1).f1)))) = false := by simpa using c8
      clear c8
      have H' := qM H
      clear H
      have p705 : 0 ≤ (x13_1 : Int) := qO (by first | (with_reducible assumption) | assumption)
      have q705 : x13_1 < (l0.length : Int) := qO (by first | (with_reducible assumption) | assumption)
      obtain ⟨ad705, e705, hx705_0, hx705_1⟩ := at_T117 HR0.out x13_1 p705 q705
      cases e705
      replace p705 := eq_true p705
      replace q705 := eq_true q705
      have p706 : 0 ≤ (x13_1 : Int) := qO (by first | (with_reducible assumption) | assumption)
      have q706 : x13_1 < (l1.length : Int) := qO (by first | (with_reducible assumption) | assumption)
      obtain ⟨ad706, e706, hx706_0, hx706_1⟩ := at_T117 HR1.out x13_1 p706 q706
      cases e706
      replace p706 := eq_true p706
      replace q706 := eq_true q706
      go_wp2
      repeat (go_quiet (fail); try go_wp2)
      go_roundg k1
      case measure => have := HK1.out; omega
      case rel => exact ⟨(wrap64 (x13_1 + 1)), (by first | rfl | (simp; done) | (simp [*]; done)), H', ⟨by have := HK1.out; omega⟩, by repeat (first | exact Drawn0.refl _ | apply Drawn0.step)⟩
def impl_Trace_same.f (k : Nat) (a0_0 : Int) (l0_1 : List (S117)) (a0_2 : Int) (a1_0 : Int) (l1_1 : List (S117)) (a1_2 : Int) : Option (Bool) := if a0_0 = a1_0 then (if a0_2 = a1_2 then ((slices_Equal_Fetch.f k l0_1 l1_1).bind fun t709 => (some t709)) else (some false)) else (some false)
theorem impl_Trace_same.calls (k : Nat) (a0_0 : Int) (A0_1 : Option Addr) (c0_1 : Nat) (l0_1 : List (S117)) (a0_2 : Int) (a1_0 : Int) (A1_1 : Option Addr) (c1_1 : Nat) (l1_1 : List (S117)) (a1_2 : Int) (r : Bool) (w : World) (hr0_1 : Kd.C k117 w A0_1 l0_1.length l0_1) (hc0_1 : l0_1.length ≤ c0_1) (hr1_1 : Kd.C k117 w A1_1 l1_1.length l1_1) (hc1_1 : l1_1.length ≤ c1_1) (h : impl_Trace_same.f k a0_0 l0_1 a0_2 a1_0 l1_1 a1_2 = some r) :
    Calls Try.prog 150 #[.agg #[.int .i64 a0_0, .slice A0_1 l0_1.length c0_1, .int .i64 a0_2], .agg #[.int .i64 a1_0, .slice A1_1 l1_1.length c1_1, .int .i64 a1_2]] w fun e w' => e = .returned (.bool r) ∧ Below w.heap.size w w' := by
  have hu87 := Try.underlying87
  have HR0_1 := qM hr0_1
  have HC0_1 := qM hc0_1
  clear hr0_1 hc0_1
  have HR1_1 := qM hr1_1
  have HC1_1 := qM hc1_1
  clear hr1_1 hc1_1
  have HB := qM (Below.refl w.heap.size w)
  have H : (if a0_0 = a1_0 then (if a0_2 = a1_2 then ((slices_Equal_Fetch.f k l0_1 l1_1).bind fun t709 => (some t709)) else (some false)) else (some false)) = some r := h
  clear h
  by_cases c3 : a0_0 = a1_0
  rotate_left
  · rw [if_neg c3] at H
    have c3b0 : (a0_0 == a1_0) = false := beq_eq_false_iff_ne.mpr c3
    have c3b1 : (a0_0 != a1_0) = true := bne_iff_ne.mpr c3
    obtain rfl := jF H
    go_enter Try.func150, Try.ntmps150
    go_wp2_with (first | ((with_reducible refine gate_dst (N := 2) rfl ?_); refine box_event ?hg (N := 2) ?hd (cs := #[.int .i64 a0_0, .slice A0_1 l0_1.length c0_1, .int .i64 a0_2]) (t := 87) ?hr ?_; (case hd => rfl); (case hg => rfl); (case hr => first | (go_simp; done) | (go_simp; rfl)); intro gb707 hg w16 hbox hb; have n0_ := qM (qs (by repeat (first | (with_reducible first | exact HB.out | apply qA | apply qN | apply qD) | exact HB.out)) hb); have n1_ := qM (hbox); have n2_ := qM ((by rw [hg]; exact (qz (by repeat (first | (with_reducible first | exact HB.out | apply qA | apply qN | apply qD) | exact HB.out))) : w.heap.size ≤ gb707)); have n3_ := qM ((by rw [hg]; exact (qz (by repeat (first | (with_reducible first | exact HB.out | apply qA | apply qN | apply qD) | exact HB.out))) : w.heap.size ≤ gb707)); clear HB; have HB := n0_; have BK707 := n1_; have GW707 := n2_; have GE707 := n3_; clear n0_ n1_ n2_ n3_; clear hb hbox hg) | ((with_reducible refine gate_dst (N := 3) rfl ?_); refine box_event ?hg (N := 3) ?hd (cs := #[.int .i64 a1_0, .slice A1_1 l1_1.length c1_1, .int .i64 a1_2]) (t := 87) ?hr ?_; (case hd => rfl); (case hg => rfl); (case hr => first | (go_simp; done) | (go_simp; rfl)); intro gb708 hg w17 hbox hb; have n0_ := qM (blk_below (g := gb707) (o := .cells #[.int .i64 a0_0, .slice A0_1 l0_1.length c0_1, .int .i64 a0_2] 87 (0, 0)) (by (with_reducible repeat (first | apply qn | apply qd | apply qa)); exact BK707.out) hb); have n1_ := qM (qs (by repeat (first | (with_reducible first | exact HB.out | apply qA | apply qN | apply qD | refine qS ?_ GE707.out) | exact HB.out)) hb); have n2_ := qM (hbox); have n3_ := qM ((by rw [hg]; exact (qz (by repeat (first | (with_reducible first | exact HB.out | apply qA | apply qN | apply qD | refine qS ?_ GE707.out) | exact HB.out))) : w.heap.size ≤ gb708)); have n4_ := qM ((by rw [hg]; exact (qz (by repeat (first | (with_reducible first | exact HB.out | apply qA | apply qN | apply qD | refine qS ?_ GE707.out) | exact HB.out))) : w.heap.size ≤ gb708)); have n5_ := qM ((by rw [hg]; exact Nat.ne_of_lt (blk_lt (g := gb707) (o := .cells #[.int .i64 a0_0, .slice A0_1 l0_1.length c0_1, .int .i64 a0_2] 87 (0, 0)) (by (with_reducible repeat (first | apply qn | apply qd | apply qa)); exact BK707.out)) : gb707 ≠ gb708)); have n6_ := qM ((by rw [hg]; exact Nat.ne_of_gt (blk_lt (g := gb707) (o := .cells #[.int .i64 a0_0, .slice A0_1 l0_1.length c0_1, .int .i64 a0_2] 87 (0, 0)) (by (with_reducible repeat (first | apply qn | apply qd | apply qa)); exact BK707.out)) : gb708 ≠ gb707)); clear BK707; clear HB; have BK707 := n0_; have HB := n1_; have BK708 := n2_; have GW708 := n3_; have GE708 := n4_; have NB707_708 := n5_; have NB708_707 := n6_; clear n0_ n1_ n2_ n3_ n4_ n5_ n6_; clear hb hbox hg; have hnb18 := NB707_708.out; have hnc18 := NB708_707.out; have hcz19_0 : w17.cell? ⟨gb707, 0, none⟩ = some (.int .i64 a0_0) := (qC BK707.out 0).trans rfl; have hcz19_1 : w17.cell? ⟨gb707, 1, none⟩ = some (.slice A0_1 l0_1.length c0_1) := (qC BK707.out 1).trans rfl; have hcz19_2 : w17.cell? ⟨gb707, 2, none⟩ = some (.int .i64 a0_2) := (qC BK707.out 2).trans rfl; have hfz19_0 := qF BK707.out 0; have hfz19_1 := qF BK707.out 1; have hfz19_2 := qF BK707.out 2; have hcz20_0 : w17.cell? ⟨gb708, 0, none⟩ = some (.int .i64 a1_0) := (qC BK708.out 0).trans rfl; have hcz20_1 : w17.cell? ⟨gb708, 1, none⟩ = some (.slice A1_1 l1_1.length c1_1) := (qC BK708.out 1).trans rfl; have hcz20_2 : w17.cell? ⟨gb708, 2, none⟩ = some (.int .i64 a1_2) := (qC BK708.out 2).trans rfl; have hfz20_0 := qF BK708.out 0; have hfz20_1 := qF BK708.out 1; have hfz20_2 := qF BK708.out 2))
    go_ret
    exact ⟨by first | rfl | (simp [errW_none, errW_some] <;> rfl) | (simp [*, errW_none, errW_some] <;> rfl), by repeat (first | (with_reducible first | exact HB.out | apply qA | apply qN | apply qD | refine qS ?_ GE707.out | refine qS ?_ GE708.out) | exact HB.out)⟩
  rw [if_pos c3] at H
  have c3b0 : (a0_0 == a1_0) = true := beq_iff_eq.mpr c3
  have c3b1 : (a0_0 != a1_0) = false := bne_eq_false_iff_eq.mpr c3
  clear c3
  by_cases c4 : a0_2 = a1_2
  rotate_left
  · rw [if_neg c4] at H
    have c4b0 : (a0_2 == a1_2) = false := beq_eq_false_iff_ne.mpr c4
    have c4b1 : (a0_2 != a1_2) = true := bne_iff_ne.mpr c4
    obtain rfl := jF H
    go_enter Try.func150, Try.ntmps150
    go_wp2_with (first | ((with_reducible refine gate_dst (N := 2) rfl ?_); refine box_event ?hg (N := 2) ?hd (cs := #[.int .i64 a0_0, .slice A0_1 l0_1.length c0_1, .int .i64 a0_2]) (t := 87) ?hr ?_; (case hd => rfl); (case hg => rfl); (case hr => first | (go_simp; done) | (go_simp; rfl)); intro gb707 hg w11 hbox hb; have n0_ := qM (qs (by repeat (first | (with_reducible first | exact HB.out | apply qA | apply qN | apply qD) | exact HB.out)) hb); have n1_ := qM (hbox); have n2_ := qM ((by rw [hg]; exact (qz (by repeat (first | (with_reducible first | exact HB.out | apply qA | apply qN | apply qD) | exact HB.out))) : w.heap.size ≤ gb707)); have n3_ := qM ((by rw [hg]; exact (qz (by repeat (first | (with_reducible first | exact HB.out | apply qA | apply qN | apply qD) | exact HB.out))) : w.heap.size ≤ gb707)); clear HB; have HB := n0_; have BK707 := n1_; have GW707 := n2_; have GE707 := n3_; clear n0_ n1_ n2_ n3_; clear hb hbox hg) | ((with_reducible refine gate_dst (N := 3) rfl ?_); refine box_event ?hg (N := 3) ?hd (cs := #[.int .i64 a1_0, .slice A1_1 l1_1.length c1_1, .int .i64 a1_2]) (t := 87) ?hr ?_; (case hd => rfl); (case hg => rfl); (case hr => first | (go_simp; done) | (go_simp; rfl)); intro gb708 hg w12 hbox hb; have n0_ := qM (blk_below (g := gb707) (o := .cells #[.int .i64 a0_0, .slice A0_1 l0_1.length c0_1, .int .i64 a0_2] 87 (0, 0)) (by (with_reducible repeat (first | apply qn | apply qd | apply qa)); exact BK707.out) hb); have n1_ := qM (qs (by repeat (first | (with_reducible first | exact HB.out | apply qA | apply qN | apply qD | refine qS ?_ GE707.out) | exact HB.out)) hb); have n2_ := qM (hbox); have n3_ := qM ((by rw [hg]; exact (qz (by repeat (first | (with_reducible first | exact HB.out | apply qA | apply qN | apply qD | refine qS ?_ GE707.out) | exact HB.out))) : w.heap.size ≤ gb708)); have n4_ := qM ((by rw [hg]; exact (qz (by repeat (first | (with_reducible first | exact HB.out | apply qA | apply qN | apply qD | refine qS ?_ GE707.out) | exact HB.out))) : w.heap.size ≤ gb708)); have n5_ := qM ((by rw [hg]; exact Nat.ne_of_lt (blk_lt (g := gb707) (o := .cells #[.int .i64 a0_0, .slice A0_1 l0_1.length c0_1, .int .i64 a0_2] 87 (0, 0)) (by (with_reducible repeat (first | apply qn | apply qd | apply qa)); exact BK707.out)) : gb707 ≠ gb708)); have n6_ := qM ((by rw [hg]; exact Nat.ne_of_gt (blk_lt (g := gb707) (o := .cells #[.int .i64 a0_0, .slice A0_1 l0_1.length c0_1, .int .i64 a0_2] 87 (0, 0)) (by (with_reducible repeat (first | apply qn | apply qd | apply qa)); exact BK707.out)) : gb708 ≠ gb707)); clear BK707; clear HB; have BK707 := n0_; have HB := n1_; have BK708 := n2_; have GW708 := n3_; have GE708 := n4_; have NB707_708 := n5_; have NB708_707 := n6_; clear n0_ n1_ n2_ n3_ n4_ n5_ n6_; clear hb hbox hg; have hnb13 := NB707_708.out; have hnc13 := NB708_707.out; have hcz14_0 : w12.cell? ⟨gb707, 0, none⟩ = some (.int .i64 a0_0) := (qC BK707.out 0).trans rfl; have hcz14_1 : w12.cell? ⟨gb707, 1, none⟩ = some (.slice A0_1 l0_1.length c0_1) := (qC BK707.out 1).trans rfl; have hcz14_2 : w12.cell? ⟨gb707, 2, none⟩ = some (.int .i64 a0_2) := (qC BK707.out 2).trans rfl; have hfz14_0 := qF BK707.out 0; have hfz14_1 := qF BK707.out 1; have hfz14_2 := qF BK707.out 2; have hcz15_0 : w12.cell? ⟨gb708, 0, none⟩ = some (.int .i64 a1_0) := (qC BK708.out 0).trans rfl; have hcz15_1 : w12.cell? ⟨gb708, 1, none⟩ = some (.slice A1_1 l1_1.length c1_1) := (qC BK708.out 1).trans rfl; have hcz15_2 : w12.cell? ⟨gb708, 2, none⟩ = some (.int .i64 a1_2) := (qC BK708.out 2).trans rfl; have hfz15_0 := qF BK708.out 0; have hfz15_1 := qF BK708.out 1; have hfz15_2 := qF BK708.out 2))
    go_ret
    exact ⟨by first | rfl | (simp [errW_none, errW_some] <;> rfl) | (simp [*, errW_none, errW_some] <;> rfl), by repeat (first | (with_reducible first | exact HB.out | apply qA | apply qN | apply qD | refine qS ?_ GE707.out | refine qS ?_ GE708.out) | exact HB.out)⟩
  rw [if_pos c4] at H
  have c4b0 : (a0_2 == a1_2) = true := beq_iff_eq.mpr c4
  have c4b1 : (a0_2 != a1_2) = false := bne_eq_false_iff_eq.mpr c4
  clear c4
  replace H := jG H
  obtain ⟨t709, A50, H⟩ := H
  replace H : (some t709) = some r := H
  have A5 := qM A50
  clear A50
  obtain rfl := jF H
  go_enter Try.func150, Try.ntmps150
  go_wp2_with (first | ((with_reducible refine gate_dst (N := 2) rfl ?_); refine box_event ?hg (N := 2) ?hd (cs := #[.int .i64 a0_0, .slice A0_1 l0_1.length c0_1, .int .i64 a0_2]) (t := 87) ?hr ?_; (case hd => rfl); (case hg => rfl); (case hr => first | (go_simp; done) | (go_simp; rfl)); intro gb707 hg w6 hbox hb; have n0_ := qM (qs (by repeat (first | (with_reducible first | exact HB.out | apply qA | apply qN | apply qD) | exact HB.out)) hb); have n1_ := qM (hbox); have n2_ := qM ((by rw [hg]; exact (qz (by repeat (first | (with_reducible first | exact HB.out | apply qA | apply qN | apply qD) | exact HB.out))) : w.heap.size ≤ gb707)); have n3_ := qM ((by rw [hg]; exact (qz (by repeat (first | (with_reducible first | exact HB.out | apply qA | apply qN | apply qD) | exact HB.out))) : w.heap.size ≤ gb707)); clear HB; have HB := n0_; have BK707 := n1_; have GW707 := n2_; have GE707 := n3_; clear n0_ n1_ n2_ n3_; clear hb hbox hg) | ((with_reducible refine gate_dst (N := 3) rfl ?_); refine box_event ?hg (N := 3) ?hd (cs := #[.int .i64 a1_0, .slice A1_1 l1_1.length c1_1, .int .i64 a1_2]) (t := 87) ?hr ?_; (case hd => rfl); (case hg => rfl); (case hr => first | (go_simp; done) | (go_simp; rfl)); intro gb708 hg w7 hbox hb; have n0_ := qM (blk_below (g := gb707) (o := .cells #[.int .i64 a0_0, .slice A0_1 l0_1.length c0_1, .int .i64 a0_2] 87 (0, 0)) (by (with_reducible repeat (first | apply qn | apply qd | apply qa)); exact BK707.out) hb); have n1_ := qM (qs (by repeat (first | (with_reducible first | exact HB.out | apply qA | apply qN | apply qD | refine qS ?_ GE707.out) | exact HB.out)) hb); have n2_ := qM (hbox); have n3_ := qM ((by rw [hg]; exact (qz (by repeat (first | (with_reducible first | exact HB.out | apply qA | apply qN | apply qD | refine qS ?_ GE707.out) | exact HB.out))) : w.heap.size ≤ gb708)); have n4_ := qM ((by rw [hg]; exact (qz (by repeat (first | (with_reducible first | exact HB.out | apply qA | apply qN | apply qD | refine qS ?_ GE707.out) | exact HB.out))) : w.heap.size ≤ gb708)); have n5_ := qM ((by rw [hg]; exact Nat.ne_of_lt (blk_lt (g := gb707) (o := .cells #[.int .i64 a0_0, .slice A0_1 l0_1.length c0_1, .int .i64 a0_2] 87 (0, 0)) (by (with_reducible repeat (first | apply qn | apply qd | apply qa)); exact BK707.out)) : gb707 ≠ gb708)); have n6_ := qM ((by rw [hg]; exact Nat.ne_of_gt (blk_lt (g := gb707) (o := .cells #[.int .i64 a0_0, .slice A0_1 l0_1.length c0_1, .int .i64 a0_2] 87 (0, 0)) (by (with_reducible repeat (first | apply qn | apply qd | apply qa)); exact BK707.out)) : gb708 ≠ gb707)); clear BK707; clear HB; have BK707 := n0_; have HB := n1_; have BK708 := n2_; have GW708 := n3_; have GE708 := n4_; have NB707_708 := n5_; have NB708_707 := n6_; clear n0_ n1_ n2_ n3_ n4_ n5_ n6_; clear hb hbox hg; have hnb8 := NB707_708.out; have hnc8 := NB708_707.out; have hcz9_0 : w7.cell? ⟨gb707, 0, none⟩ = some (.int .i64 a0_0) := (qC BK707.out 0).trans rfl; have hcz9_1 : w7.cell? ⟨gb707, 1, none⟩ = some (.slice A0_1 l0_1.length c0_1) := (qC BK707.out 1).trans rfl; have hcz9_2 : w7.cell? ⟨gb707, 2, none⟩ = some (.int .i64 a0_2) := (qC BK707.out 2).trans rfl; have hfz9_0 := qF BK707.out 0; have hfz9_1 := qF BK707.out 1; have hfz9_2 := qF BK707.out 2; have hcz10_0 : w7.cell? ⟨gb708, 0, none⟩ = some (.int .i64 a1_0) := (qC BK708.out 0).trans rfl; have hcz10_1 : w7.cell? ⟨gb708, 1, none⟩ = some (.slice A1_1 l1_1.length c1_1) := (qC BK708.out 1).trans rfl; have hcz10_2 : w7.cell? ⟨gb708, 2, none⟩ = some (.int .i64 a1_2) := (qC BK708.out 2).trans rfl; have hfz10_0 := qF BK708.out 0; have hfz10_1 := qF BK708.out 1; have hfz10_2 := qF BK708.out 2) | (go_at_call 170; (with_reducible refine (slices_Equal_Fetch.calls k _ _ l0_1 _ _ l1_1 t709 _ ?side1 ?side2 ?side3 ?side4 A5.out).mono ?_); (case side1 => repeat (first | exact (qB HR0_1.out HB.out) | (with_reducible refine qc ?_ _) | (with_reducible refine qe ?_ _) | (with_reducible refine qf ?_))); (case side2 => exact HC0_1.out); (case side3 => repeat (first | exact (qB HR1_1.out HB.out) | (with_reducible refine qc ?_ _) | (with_reducible refine qe ?_ _) | (with_reducible refine qf ?_))); (case side4 => exact HC1_1.out); rintro e w' ⟨rfl, ⟨nd, rfl⟩⟩))
  go_ret
  exact ⟨by first | rfl | (simp [errW_none, errW_some] <;> rfl) | (simp [*, errW_none, errW_some] <;> rfl), by repeat (first | (with_reducible first | exact HB.out | apply qA | apply qN | apply qD | refine qS ?_ GE707.out | refine qS ?_ GE708.out) | exact HB.out)⟩
end Go.Proofs.Ytgbjbpjmbghlbaa.G
end
section
namespace Go.Proofs.Ytgbjbpjmbghlbaa.G
open Go.RowKit Go.Proofs.YtgbjbpjmbghlbaaW.PrintWords Go.Proofs.YtgbjbpjmbghlbaaW.PrintLast Go.Proofs.YtgbjbpjmbghlbaaW.PrintMore
attribute [local go_sem] max2_int min2_int max_two min_two max_three min_three max_four min_four
def impl_Trace_honest.f (k : Nat) (a0_0 : Int) (l0_1 : List (S117)) (a0_2 : Int) (l1_0 : List Bool) (l1_1 : List (S30)) : Option (Bool) := (impl_Sheet_makes.f l1_0 l1_1 a0_0).bind fun t712 => (if t712 = true then (if 0 ≤ a0_0 then (if a0_0 < (l1_1.length : Int) then ((impl_Trace_values.f k a0_0 l0_1 a0_2 10).bind fun t714 => ((impl_TraceOf.f k a0_0 ((rd_T30 l1_1 a0_0).f0) ((rd_T30 l1_1 a0_0).f1) ((rd_T30 l1_1 a0_0).f2) t714).bind fun bt717 => ((impl_Trace_same.f k bt717.1 bt717.2.1 bt717.2.2.1 a0_0 l0_1 a0_2).bind fun t724 => (some t724)))) else (none)) else (none)) else (some false))
def impl_Trace_honest.T3 : Bool × List (List Nat × List Nat) := (true, [([], []), ([0], [0]), ([], []), ([2], [2]), ([], []), ([4], [4]), ([3, 5], [3, 5]), ([6], [6]), ([], []), ([8], [8]), ([1, 7, 9, 9], [1, 7, 9]), ([10], [10]), ([11], [11]), ([11], [11]), ([], []), ([14, 12, 10, 0, 1, 2, 3, 4, 5, 6, 7, 8, 9, 10, 11, 12, 14], [12, 14]), ([13, 15, 0, 1, 2, 3, 4, 5, 6, 7, 8, 9, 10, 11, 12, 13, 14, 15], [13])])
def impl_Trace_honest.B3 : List Nat := [0, 1, 0, 4, 0, 16, 60, 124, 0, 256, 1023, 2047, 4095, 4095, 0, 24575, 65535]
theorem impl_Trace_honest.tab3 : rtab .any (opsOf Try.f100 3) = impl_Trace_honest.T3 := by kernel_rfl
theorem impl_Trace_honest.bits3 : waitsOk impl_Trace_honest.T3.2 impl_Trace_honest.B3 = true := by kernel_rfl
theorem impl_Trace_honest.calls (k : Nat) (a0_0 : Int) (A0_1 : Option Addr) (c0_1 : Nat) (l0_1 : List (S117)) (a0_2 : Int) (A1_0 : Option Addr) (c1_0 : Nat) (l1_0 : List Bool) (A1_1 : Option Addr) (c1_1 : Nat) (l1_1 : List (S30)) (r : Bool) (w : World) (hr0_1 : Kd.C k117 w A0_1 l0_1.length l0_1) (hc0_1 : l0_1.length ≤ c0_1) (hr1_0 : Kd.C Kd.bool w A1_0 l1_0.length l1_0) (hc1_0 : l1_0.length ≤ c1_0) (hr1_1 : Kd.C k30 w A1_1 l1_1.length l1_1) (hc1_1 : l1_1.length ≤ c1_1) (h : impl_Trace_honest.f k a0_0 l0_1 a0_2 l1_0 l1_1 = some r) :
    Calls Try.prog 100 #[.agg #[.int .i64 a0_0, .slice A0_1 l0_1.length c0_1, .int .i64 a0_2], .agg #[.slice A1_0 l1_0.length c1_0, .slice A1_1 l1_1.length c1_1]] w fun e w' => e = .returned (.bool r) ∧ Below w.heap.size w w' := by
  have hu87 := Try.underlying87
  have hu56 := Try.underlying56
  have hu30 := Try.underlying30
  have HR0_1 := qM hr0_1
  have HC0_1 := qM hc0_1
  clear hr0_1 hc0_1
  have HR1_0 := qM hr1_0
  have HC1_0 := qM hc1_0
  clear hr1_0 hc1_0
  have HR1_1 := qM hr1_1
  have HC1_1 := qM hc1_1
  clear hr1_1 hc1_1
  have HB := qM (Below.refl w.heap.size w)
  have H : ((impl_Sheet_makes.f l1_0 l1_1 a0_0).bind fun t712 => (if t712 = true then (if 0 ≤ a0_0 then (if a0_0 < (l1_1.length : Int) then ((impl_Trace_values.f k a0_0 l0_1 a0_2 10).bind fun t714 => ((impl_TraceOf.f k a0_0 ((rd_T30 l1_1 a0_0).f0) ((rd_T30 l1_1 a0_0).f1) ((rd_T30 l1_1 a0_0).f2) t714).bind fun bt717 => ((impl_Trace_same.f k bt717.1 bt717.2.1 bt717.2.2.1 a0_0 l0_1 a0_2).bind fun t724 => (some t724)))) else (none)) else (none)) else (some false))) = some r := h
  clear h
  replace H := jG H
  obtain ⟨t712, A30, H⟩ := H
  replace H : (if t712 = true then (if 0 ≤ a0_0 then (if a0_0 < (l1_1.length : Int) then ((impl_Trace_values.f k a0_0 l0_1 a0_2 10).bind fun t714 => ((impl_TraceOf.f k a0_0 ((rd_T30 l1_1 a0_0).f0) ((rd_T30 l1_1 a0_0).f1) ((rd_T30 l1_1 a0_0).f2) t714).bind fun bt717 => ((impl_Trace_same.f k bt717.1 bt717.2.1 bt717.2.2.1 a0_0 l0_1 a0_2).bind fun t724 => (some t724)))) else (none)) else (none)) else (some false)) = some r := H
  have A3 := qM A30
  clear A30
  by_cases c4 : t712 = true
  rotate_left
  · replace c4 := Bool.eq_false_iff.mpr c4
    subst c4
    have H1 : (some false) = some r := by rw [if_neg (show ¬ (false = true) by decide)] at H; exact H
    clear H
    have H := H1
    clear H1
    obtain rfl := jF H
    go_enter Try.func100, Try.ntmps100
    go_wp2_with (first | ((with_reducible refine gate_dst (N := 2) rfl ?_); refine box_event ?hg (N := 2) ?hd (cs := #[.int .i64 a0_0, .slice A0_1 l0_1.length c0_1, .int .i64 a0_2]) (t := 87) ?hr ?_; (case hd => rfl); (case hg => rfl); (case hr => first | (go_simp; done) | (go_simp; rfl)); intro gb710 hg w31 hbox hb; have n0_ := qM (qs (by repeat (first | (with_reducible first | exact HB.out | apply qA | apply qN | apply qD) | exact HB.out)) hb); have n1_ := qM (hbox); have n2_ := qM ((by rw [hg]; exact (qz (by repeat (first | (with_reducible first | exact HB.out | apply qA | apply qN | apply qD) | exact HB.out))) : w.heap.size ≤ gb710)); have n3_ := qM ((by rw [hg]; exact (qz (by repeat (first | (with_reducible first | exact HB.out | apply qA | apply qN | apply qD) | exact HB.out))) : w.heap.size ≤ gb710)); clear HB; have HB := n0_; have BK710 := n1_; have GW710 := n2_; have GE710 := n3_; clear n0_ n1_ n2_ n3_; clear hb hbox hg) | ((with_reducible refine gate_dst (N := 3) rfl ?_); refine box_event ?hg (N := 3) ?hd (cs := #[.slice A1_0 l1_0.length c1_0, .slice A1_1 l1_1.length c1_1]) (t := 56) ?hr ?_; (case hd => rfl); (case hg => rfl); (case hr => first | (go_simp; done) | (go_simp; rfl)); intro gb711 hg w32 hbox hb; have n0_ := qM (blk_below (g := gb710) (o := .cells #[.int .i64 a0_0, .slice A0_1 l0_1.length c0_1, .int .i64 a0_2] 87 (0, 0)) (by (with_reducible repeat (first | apply qn | apply qd | apply qa)); exact BK710.out) hb); have n1_ := qM (qs (by repeat (first | (with_reducible first | exact HB.out | apply qA | apply qN | apply qD | refine qS ?_ GE710.out) | exact HB.out)) hb); have n2_ := qM (hbox); have n3_ := qM ((by rw [hg]; exact (qz (by repeat (first | (with_reducible first | exact HB.out | apply qA | apply qN | apply qD | refine qS ?_ GE710.out) | exact HB.out))) : w.heap.size ≤ gb711)); have n4_ := qM ((by rw [hg]; exact (qz (by repeat (first | (with_reducible first | exact HB.out | apply qA | apply qN | apply qD | refine qS ?_ GE710.out) | exact HB.out))) : w.heap.size ≤ gb711)); have n5_ := qM ((by rw [hg]; exact Nat.ne_of_lt (blk_lt (g := gb710) (o := .cells #[.int .i64 a0_0, .slice A0_1 l0_1.length c0_1, .int .i64 a0_2] 87 (0, 0)) (by (with_reducible repeat (first | apply qn | apply qd | apply qa)); exact BK710.out)) : gb710 ≠ gb711)); have n6_ := qM ((by rw [hg]; exact Nat.ne_of_gt (blk_lt (g := gb710) (o := .cells #[.int .i64 a0_0, .slice A0_1 l0_1.length c0_1, .int .i64 a0_2] 87 (0, 0)) (by (with_reducible repeat (first | apply qn | apply qd | apply qa)); exact BK710.out)) : gb711 ≠ gb710)); clear BK710; clear HB; have BK710 := n0_; have HB := n1_; have BK711 := n2_; have GW711 := n3_; have GE711 := n4_; have NB710_711 := n5_; have NB711_710 := n6_; clear n0_ n1_ n2_ n3_ n4_ n5_ n6_; clear hb hbox hg; have hnb33 := NB711_710.out; have hnc33 := NB710_711.out; have hcz34_0 : w32.cell? ⟨gb711, 0, none⟩ = some (.slice A1_0 l1_0.length c1_0) := (qC BK711.out 0).trans rfl; have hcz34_1 : w32.cell? ⟨gb711, 1, none⟩ = some (.slice A1_1 l1_1.length c1_1) := (qC BK711.out 1).trans rfl; have hfz34_0 := qF BK711.out 0; have hfz34_1 := qF BK711.out 1; have hcz35_0 : w32.cell? ⟨gb710, 0, none⟩ = some (.int .i64 a0_0) := (qC BK710.out 0).trans rfl; have hcz35_1 : w32.cell? ⟨gb710, 1, none⟩ = some (.slice A0_1 l0_1.length c0_1) := (qC BK710.out 1).trans rfl; have hcz35_2 : w32.cell? ⟨gb710, 2, none⟩ = some (.int .i64 a0_2) := (qC BK710.out 2).trans rfl; have hfz35_0 := qF BK710.out 0; have hfz35_1 := qF BK710.out 1; have hfz35_2 := qF BK710.out 2) | ((with_reducible refine gate_callee (f := 94) rfl ?_); refine goesL_ (some 10) rfl rfl Try.func94 (by kernel_rfl) rfl #[.agg #[.slice A1_0 l1_0.length c1_0, .slice A1_1 l1_1.length c1_1], .int .i64 a0_0] rfl (by (try simp only [jC, jD, jE]); first | done | rfl | (simp only [jB, jA]; rfl)) ?_; (with_reducible refine (impl_Sheet_makes.calls _ _ l1_0 _ _ l1_1 a0_0 false _ ?side1 ?side2 ?side3 ?side4 A3.out).mono ?_); (case side1 => repeat (first | exact (qB HR1_0.out HB.out) | (with_reducible refine qc ?_ _) | (with_reducible refine qe ?_ _) | (with_reducible refine qf ?_))); (case side2 => exact HC1_0.out); (case side3 => repeat (first | exact (qB HR1_1.out HB.out) | (with_reducible refine qc ?_ _) | (with_reducible refine qe ?_ _) | (with_reducible refine qf ?_))); (case side4 => exact HC1_1.out); rintro e w36 ⟨rfl, hb⟩; refine ⟨_, rfl, ?_⟩; have n0_ := qM (blk_below (g := gb710) (o := .cells #[.int .i64 a0_0, .slice A0_1 l0_1.length c0_1, .int .i64 a0_2] 87 (0, 0)) (by (with_reducible repeat (first | apply qn | apply qd | apply qa)); exact BK710.out) hb); have n1_ := qM (blk_below (g := gb711) (o := .cells #[.slice A1_0 l1_0.length c1_0, .slice A1_1 l1_1.length c1_1] 56 (0, 0)) (by (with_reducible repeat (first | apply qn | apply qd | apply qa)); exact BK711.out) hb); have n2_ := qM (qs (by repeat (first | (with_reducible first | exact HB.out | apply qA | apply qN | apply qD | refine qS ?_ GE710.out | refine qS ?_ GE711.out) | exact HB.out)) hb); clear BK710; clear BK711; clear HB; have BK710 := n0_; have BK711 := n1_; have HB := n2_; clear n0_ n1_ n2_; (try clear hb); (try clear hb2); (try clear hk); (try clear hi)))
    go_ret
    exact ⟨by first | rfl | (simp [errW_none, errW_some] <;> rfl) | (simp [*, errW_none, errW_some] <;> rfl), by repeat (first | (with_reducible first | exact HB.out | apply qA | apply qN | apply qD | refine qS ?_ GE710.out | refine qS ?_ GE711.out) | exact HB.out)⟩
  subst c4
  have H1 : (if 0 ≤ a0_0 then (if a0_0 < (l1_1.length : Int) then ((impl_Trace_values.f k a0_0 l0_1 a0_2 10).bind fun t714 => ((impl_TraceOf.f k a0_0 ((rd_T30 l1_1 a0_0).f0) ((rd_T30 l1_1 a0_0).f1) ((rd_T30 l1_1 a0_0).f2) t714).bind fun bt717 => ((impl_Trace_same.f k bt717.1 bt717.2.1 bt717.2.2.1 a0_0 l0_1 a0_2).bind fun t724 => (some t724)))) else (none)) else (none)) = some r := by rw [if_pos rfl] at H; exact H
  clear H
  have H := H1
  clear H1
  by_cases c5 : 0 ≤ a0_0
  rotate_left
  · rw [if_neg c5] at H
    exact absurd H (by simp)
  rw [if_pos c5] at H
  have c5b0 : decide (0 ≤ a0_0) = true := decide_eq_true c5
  clear c5
  by_cases c6 : a0_0 < (l1_1.length : Int)
  rotate_left
  · rw [if_neg c6] at H
    exact absurd H (by simp)
  rw [if_pos c6] at H
  have c6b0 : decide (a0_0 < (l1_1.length : Int)) = true := decide_eq_true c6
  clear c6
  replace H := jG H
  obtain ⟨t714, A70, H⟩ := H
  replace H : ((impl_TraceOf.f k a0_0 ((rd_T30 l1_1 a0_0).f0) ((rd_T30 l1_1 a0_0).f1) ((rd_T30 l1_1 a0_0).f2) t714).bind fun bt717 => ((impl_Trace_same.f k bt717.1 bt717.2.1 bt717.2.2.1 a0_0 l0_1 a0_2).bind fun t724 => (some t724))) = some r := H
  have A7 := qM A70
  clear A70
  replace H := jG H
  obtain ⟨⟨t717, t718, t721, t722⟩, A80, H⟩ := H
  replace H : ((impl_Trace_same.f k t717 t718 t721 a0_0 l0_1 a0_2).bind fun t724 => (some t724)) = some r := H
  have A8 := qM A80
  clear A80
  replace H := jG H
  obtain ⟨t724, A90, H⟩ := H
  replace H : (some t724) = some r := H
  have A9 := qM A90
  clear A90
  obtain rfl := jF H
  go_enter Try.func100, Try.ntmps100
  try go_wp2_with (first | ((with_reducible refine gate_dst (N := 2) rfl ?_); refine box_event ?hg (N := 2) ?hd (cs := #[.int .i64 a0_0, .slice A0_1 l0_1.length c0_1, .int .i64 a0_2]) (t := 87) ?hr ?_; (case hd => rfl); (case hg => rfl); (case hr => first | (go_simp; done) | (go_simp; rfl)); intro gb710 hg w10 hbox hb; have n0_ := qM (qs (by repeat (first | (with_reducible first | exact HB.out | apply qA | apply qN | apply qD) | exact HB.out)) hb); have n1_ := qM (hbox); have n2_ := qM ((by rw [hg]; exact (qz (by repeat (first | (with_reducible first | exact HB.out | apply qA | apply qN | apply qD) | exact HB.out))) : w.heap.size ≤ gb710)); have n3_ := qM ((by rw [hg]; exact (qz (by repeat (first | (with_reducible first | exact HB.out | apply qA | apply qN | apply qD) | exact HB.out))) : w.heap.size ≤ gb710)); clear HB; have HB := n0_; have BK710 := n1_; have GW710 := n2_; have GE710 := n3_; clear n0_ n1_ n2_ n3_; clear hb hbox hg) | ((with_reducible refine gate_dst (N := 3) rfl ?_); refine box_event ?hg (N := 3) ?hd (cs := #[.slice A1_0 l1_0.length c1_0, .slice A1_1 l1_1.length c1_1]) (t := 56) ?hr ?_; (case hd => rfl); (case hg => rfl); (case hr => first | (go_simp; done) | (go_simp; rfl)); intro gb711 hg w11 hbox hb; have n0_ := qM (blk_below (g := gb710) (o := .cells #[.int .i64 a0_0, .slice A0_1 l0_1.length c0_1, .int .i64 a0_2] 87 (0, 0)) (by (with_reducible repeat (first | apply qn | apply qd | apply qa)); exact BK710.out) hb); have n1_ := qM (qs (by repeat (first | (with_reducible first | exact HB.out | apply qA | apply qN | apply qD | refine qS ?_ GE710.out) | exact HB.out)) hb); have n2_ := qM (hbox); have n3_ := qM ((by rw [hg]; exact (qz (by repeat (first | (with_reducible first | exact HB.out | apply qA | apply qN | apply qD | refine qS ?_ GE710.out) | exact HB.out))) : w.heap.size ≤ gb711)); have n4_ := qM ((by rw [hg]; exact (qz (by repeat (first | (with_reducible first | exact HB.out | apply qA | apply qN | apply qD | refine qS ?_ GE710.out) | exact HB.out))) : w.heap.size ≤ gb711)); have n5_ := qM ((by rw [hg]; exact Nat.ne_of_lt (blk_lt (g := gb710) (o := .cells #[.int .i64 a0_0, .slice A0_1 l0_1.length c0_1, .int .i64 a0_2] 87 (0, 0)) (by (with_reducible repeat (first | apply qn | apply qd | apply qa)); exact BK710.out)) : gb710 ≠ gb711)); have n6_ := qM ((by rw [hg]; exact Nat.ne_of_gt (blk_lt (g := gb710) (o := .cells #[.int .i64 a0_0, .slice A0_1 l0_1.length c0_1, .int .i64 a0_2] 87 (0, 0)) (by (with_reducible repeat (first | apply qn | apply qd | apply qa)); exact BK710.out)) : gb711 ≠ gb710)); clear BK710; clear HB; have BK710 := n0_; have HB := n1_; have BK711 := n2_; have GW711 := n3_; have GE711 := n4_; have NB710_711 := n5_; have NB711_710 := n6_; clear n0_ n1_ n2_ n3_ n4_ n5_ n6_; clear hb hbox hg; have hnb12 := NB711_710.out; have hnc12 := NB710_711.out; have hcz13_0 : w11.cell? ⟨gb711, 0, none⟩ = some (.slice A1_0 l1_0.length c1_0) := (qC BK711.out 0).trans rfl; have hcz13_1 : w11.cell? ⟨gb711, 1, none⟩ = some (.slice A1_1 l1_1.length c1_1) := (qC BK711.out 1).trans rfl; have hfz13_0 := qF BK711.out 0; have hfz13_1 := qF BK711.out 1; have hcz14_0 : w11.cell? ⟨gb710, 0, none⟩ = some (.int .i64 a0_0) := (qC BK710.out 0).trans rfl; have hcz14_1 : w11.cell? ⟨gb710, 1, none⟩ = some (.slice A0_1 l0_1.length c0_1) := (qC BK710.out 1).trans rfl; have hcz14_2 : w11.cell? ⟨gb710, 2, none⟩ = some (.int .i64 a0_2) := (qC BK710.out 2).trans rfl; have hfz14_0 := qF BK710.out 0; have hfz14_1 := qF BK710.out 1; have hfz14_2 := qF BK710.out 2) | ((with_reducible refine gate_callee (f := 94) rfl ?_); refine goesL_ (some 10) rfl rfl Try.func94 (by kernel_rfl) rfl #[.agg #[.slice A1_0 l1_0.length c1_0, .slice A1_1 l1_1.length c1_1], .int .i64 a0_0] rfl (by (try simp only [jC, jD, jE]); first | done | rfl | (simp only [jB, jA]; rfl)) ?_; (with_reducible refine (impl_Sheet_makes.calls _ _ l1_0 _ _ l1_1 a0_0 true _ ?side1 ?side2 ?side3 ?side4 A3.out).mono ?_); (case side1 => repeat (first | exact (qB HR1_0.out HB.out) | (with_reducible refine qc ?_ _) | (with_reducible refine qe ?_ _) | (with_reducible refine qf ?_))); (case side2 => exact HC1_0.out); (case side3 => repeat (first | exact (qB HR1_1.out HB.out) | (with_reducible refine qc ?_ _) | (with_reducible refine qe ?_ _) | (with_reducible refine qf ?_))); (case side4 => exact HC1_1.out); rintro e w15 ⟨rfl, hb⟩; refine ⟨_, rfl, ?_⟩; have n0_ := qM (blk_below (g := gb710) (o := .cells #[.int .i64 a0_0, .slice A0_1 l0_1.length c0_1, .int .i64 a0_2] 87 (0, 0)) (by (with_reducible repeat (first | apply qn | apply qd | apply qa)); exact BK710.out) hb); have n1_ := qM (blk_below (g := gb711) (o := .cells #[.slice A1_0 l1_0.length c1_0, .slice A1_1 l1_1.length c1_1] 56 (0, 0)) (by (with_reducible repeat (first | apply qn | apply qd | apply qa)); exact BK711.out) hb); have n2_ := qM (qs (by repeat (first | (with_reducible first | exact HB.out | apply qA | apply qN | apply qD | refine qS ?_ GE710.out | refine qS ?_ GE711.out) | exact HB.out)) hb); clear BK710; clear BK711; clear HB; have BK710 := n0_; have BK711 := n1_; have HB := n2_; clear n0_ n1_ n2_; (try clear hb); (try clear hb2); (try clear hk); (try clear hi)))
  have n0_ := qM (qd BK710.out)
  have n1_ := qM (qd BK711.out)
  have n2_ := qM (qD HB.out)
  clear BK710
  clear BK711
  clear HB
  have BK710 := n0_
  have BK711 := n1_
  have HB := n2_
  clear n0_ n1_ n2_
  have p713 : 0 ≤ (a0_0 : Int) := qO (by first | (with_reducible assumption) | assumption)
  have q713 : a0_0 < (l1_1.length : Int) := qO (by first | (with_reducible assumption) | assumption)
  obtain ⟨ad713, A713_2, c713_2, e713, hx713_0, hx713_1, hx713_2, hl713_2, hi713_2⟩ := at_T30 HR1_1.out a0_0 p713 q713
  have hw713_2 := hx713_2
  have hw713_1 := hx713_1
  have hw713_0 := hx713_0
  cases e713
  replace hx713_0 := (HB.out.cell (qL w _ hx713_0)).trans hx713_0
  replace hx713_1 := (HB.out.cell (qL w _ hx713_1)).trans hx713_1
  replace hx713_2 := (HB.out.cell (qL w _ hx713_2)).trans hx713_2
  have HR713_2 := qM hi713_2
  have HC713_2 := qM hl713_2
  clear hi713_2 hl713_2
  replace p713 := eq_true p713
  replace q713 := eq_true q713
  refine start_ (n := 17) (S := fun w' => w'.cell? ⟨gb710, 0, none⟩ = some (.int .i64 a0_0) ∧ w'.cell? ⟨gb710, 1, none⟩ = some (.slice A0_1 l0_1.length c0_1) ∧ w'.cell? ⟨gb710, 2, none⟩ = some (.int .i64 a0_2) ∧ w'.cell? ⟨gb711, 0, none⟩ = some (.slice A1_0 l1_0.length c1_0) ∧ w'.cell? ⟨gb711, 1, none⟩ = some (.slice (some ad713) l1_1.length c1_1) ∧ w'.cell? (ad713.add ((a0_0).toNat * 3)) = some (.int .i64 ((rd_T30 l1_1 a0_0).f0)) ∧ w'.cell? ⟨(ad713.add ((a0_0).toNat * 3)).block, (ad713.add ((a0_0).toNat * 3)).off + 1, none⟩ = some (.int .i64 ((rd_T30 l1_1 a0_0).f1)) ∧ w'.cell? ⟨(ad713.add ((a0_0).toNat * 3)).block, (ad713.add ((a0_0).toNat * 3)).off + 2, none⟩ = some (.slice A713_2 ((rd_T30 l1_1 a0_0).f2).length c713_2)) (ds := []) #[false, false, false, false, false, false, false, false, false, false, false, false, false, false, false, false, false] (by kernel_rfl) rfl rfl ⟨(qC BK710.out 0).trans rfl, (qC BK710.out 1).trans rfl, (qC BK710.out 2).trans rfl, (qC BK711.out 0).trans rfl, (qC BK711.out 1).trans rfl, ((HB.out.cell (qL w _ hw713_0)).trans hw713_0), ((HB.out.cell (qL w _ hw713_1)).trans hw713_1), ((HB.out.cell (qL w _ hw713_2)).trans hw713_2)⟩ (fun hHeld => ?_); refine with_tabW impl_Trace_honest.tab3 impl_Trace_honest.bits3 (fun HT_ HW_ => ?_)
  generalize w15.drew = w16 at BK710 BK711 HB HR713_2 hx713_0 hx713_1 hx713_2 hHeld ⊢
  refine pure_ (i := 0) (N := some 13) (v := ?_) (a' := ?_) #[true, false, false, false, false, false, false, false, false, false, false, false, false, false, false, false, false] rfl rfl (any_of HT_.out (by kernel_rfl)) (fun _ _ _ h => h) (Or.inl ⟨by rfl, ?_⟩) ?_ ?_
  rotate_left
  · intro w'
    go_simp
    with_reducible rfl
  rotate_left
  · simp only [Act.put, qT, qU, qV, i64_w, i32_w]
    rfl
  refine pure_ (i := 2) (N := some 15) (v := ?_) (a' := ?_) #[true, false, true, false, false, false, false, false, false, false, false, false, false, false, false, false, false] rfl rfl (any_of HT_.out (by kernel_rfl)) (fun _ _ _ h => h) (Or.inl ⟨by rfl, ?_⟩) ?_ ?_
  rotate_left
  · intro w'
    go_simp
    with_reducible rfl
  rotate_left
  · simp only [Act.put, qT, qU, qV, i64_w, i32_w]
    rfl
  refine pure_ (i := 4) (N := some 17) (v := ?_) (a' := ?_) #[true, false, true, false, true, false, false, false, false, false, false, false, false, false, false, false, false] rfl rfl (any_of HT_.out (by kernel_rfl)) (fun _ _ _ h => h) (Or.inl ⟨by rfl, ?_⟩) ?_ ?_
  rotate_left
  · intro w'
    go_simp
    with_reducible rfl
  rotate_left
  · simp only [Act.put, qT, qU, qV, i64_w, i32_w]
    rfl
  refine take_ (i := 1) (N := some 14) (v := ?_) (a' := ?_) #[true, true, true, false, true, false, false, false, false, false, false, false, false, false, false, false, false] rfl rfl (take_ofW HT_.out HW_.out (by kernel_rfl)) (fun _ _ _ h => h) (Or.inl ⟨by rfl, ?_⟩) hHeld ?_ ?_
  rotate_left
  · rintro w' ⟨s0, s1, s2, s3, s4, s5, s6, s7⟩
    go_simp
    with_reducible rfl
  rotate_left
  · simp only [Act.put, qT, qU, qV, i64_w, i32_w]
    rfl
  refine take_ (i := 3) (N := some 16) (v := ?_) (a' := ?_) #[true, true, true, true, true, false, false, false, false, false, false, false, false, false, false, false, false] rfl rfl (take_ofW HT_.out HW_.out (by kernel_rfl)) (fun _ _ _ h => h) (Or.inl ⟨by rfl, ?_⟩) hHeld ?_ ?_
  rotate_left
  · rintro w' ⟨s0, s1, s2, s3, s4, s5, s6, s7⟩
    go_simp
    with_reducible rfl
  rotate_left
  · simp only [Act.put, qT, qU, qV, i64_w, i32_w]
    rfl
  refine take_ (i := 5) (N := some 18) (v := ?_) (a' := ?_) #[true, true, true, true, true, true, false, false, false, false, false, false, false, false, false, false, false] rfl rfl (take_ofW HT_.out HW_.out (by kernel_rfl)) (fun _ _ _ h => h) (Or.inl ⟨by rfl, ?_⟩) hHeld ?_ ?_
  rotate_left
  · rintro w' ⟨s0, s1, s2, s3, s4, s5, s6, s7⟩
    go_simp
    with_reducible rfl
  rotate_left
  · simp only [Act.put, qT, qU, qV, i64_w, i32_w]
    rfl
  refine pure_ (i := 6) (N := some 19) (v := ?_) (a' := ?_) #[true, true, true, true, true, true, true, false, false, false, false, false, false, false, false, false, false] rfl rfl (any_of HT_.out (by kernel_rfl)) (fun _ _ _ h => h) (Or.inl ⟨by rfl, ?_⟩) ?_ ?_
  rotate_left
  · intro w'
    go_simp
    with_reducible rfl
  rotate_left
  · simp only [Act.put, qT, qU, qV, i64_w, i32_w]
    rfl
  refine take_ (i := 7) (N := some 20) (v := ?_) (a' := ?_) #[true, true, true, true, true, true, true, true, false, false, false, false, false, false, false, false, false] rfl rfl (take_ofW HT_.out HW_.out (by kernel_rfl)) (fun _ _ _ h => h) (Or.inl ⟨by rfl, ?_⟩) hHeld ?_ ?_
  rotate_left
  · rintro w' ⟨s0, s1, s2, s3, s4, s5, s6, s7⟩
    go_simp
    with_reducible rfl
  rotate_left
  · simp only [Act.put, qT, qU, qV, i64_w, i32_w]
    rfl
  refine take_ (i := 8) (N := some 21) (v := ?_) (a' := ?_) #[true, true, true, true, true, true, true, true, true, false, false, false, false, false, false, false, false] rfl rfl (take_ofW HT_.out HW_.out (by kernel_rfl)) (fun _ _ _ h => h) (Or.inl ⟨by rfl, ?_⟩) hHeld ?_ ?_
  rotate_left
  · rintro w' ⟨s0, s1, s2, s3, s4, s5, s6, s7⟩
    go_simp
    with_reducible rfl
  rotate_left
  · simp only [Act.put, qT, qU, qV, i64_w, i32_w]
    rfl
  refine join_ (σ := Value × Value × Nat) 2 #[true, true, true, true, true, true, true, true, true, true, true, true, true, true, true, false, false] (fun s_ => [(22, s_.1), (23, .tuple #[.agg #[.int .i64 t717, s_.2.1, .int .i64 t721], .bool t722]), (5, .pointer (some ⟨s_.2.2, 0, none⟩)), (12, .tuple #[.agg #[.int .i64 t717, s_.2.1, .int .i64 t721], .bool t722]), (24, .agg #[.int .i64 t717, s_.2.1, .int .i64 t721]), (25, .bool t722)]) (fun s_ w' => (w'.cell? ⟨gb710, 0, none⟩ = some (.int .i64 a0_0) ∧ w'.cell? ⟨gb710, 1, none⟩ = some (.slice A0_1 l0_1.length c0_1) ∧ w'.cell? ⟨gb710, 2, none⟩ = some (.int .i64 a0_2) ∧ w'.cell? ⟨gb711, 0, none⟩ = some (.slice A1_0 l1_0.length c1_0) ∧ w'.cell? ⟨gb711, 1, none⟩ = some (.slice (some ad713) l1_1.length c1_1) ∧ w'.cell? (ad713.add ((a0_0).toNat * 3)) = some (.int .i64 ((rd_T30 l1_1 a0_0).f0)) ∧ w'.cell? ⟨(ad713.add ((a0_0).toNat * 3)).block, (ad713.add ((a0_0).toNat * 3)).off + 1, none⟩ = some (.int .i64 ((rd_T30 l1_1 a0_0).f1)) ∧ w'.cell? ⟨(ad713.add ((a0_0).toNat * 3)).block, (ad713.add ((a0_0).toNat * 3)).off + 2, none⟩ = some (.slice A713_2 ((rd_T30 l1_1 a0_0).f2).length c713_2)) ∧ (Kd.R (Kd.int .i64) 3 w' w.heap.size (fun _ => True) s_.1 t714) ∧ (Kd.R k117 117 w' w.heap.size (fun _ => True) s_.2.1 t718) ∧ (w'.heap[gb710]? = some (.cells #[.int .i64 a0_0, .slice A0_1 l0_1.length c0_1, .int .i64 a0_2] 87 (0, 0))) ∧ (w'.heap[gb711]? = some (.cells #[.slice A1_0 l1_0.length c1_0, .slice (some ad713) l1_1.length c1_1] 56 (0, 0))) ∧ (w'.heap[s_.2.2]? = some (.cells #[.int .i64 0, .slice none 0 0, .int .i64 0] 87 (0, 0))) ∧ (w.heap.size ≤ s_.2.2) ∧ (w.heap.size ≤ s_.2.2) ∧ (gb710 ≠ s_.2.2) ∧ (s_.2.2 ≠ gb710) ∧ (gb711 ≠ s_.2.2) ∧ (s_.2.2 ≠ gb711) ∧ (Below w.heap.size w w')) ?_ ?_
  rotate_left
  · intro hCont
    refine two_ (i := 9) (j := 14) (Ni := some 22) (Nj := some 5) #[true, true, true, true, true, true, true, true, true, true, false, false, false, false, false, false, false] #[true, true, true, true, true, true, true, true, true, false, false, false, false, false, true, false, false] rfl rfl rfl rfl (two_of HT_.out (by kernel_rfl)) (by decide) (by decide) (fun K hK => ?_) (fun K hK => ?_)
    · skip
      refine goes_ Try.func149 (by kernel_rfl) rfl #[.agg #[.int .i64 a0_0, .slice A0_1 l0_1.length c0_1, .int .i64 a0_2], .int .i64 10] (by rfl) rfl rfl (by (try simp only [jC, jD, jE]); first | done | rfl | (simp only [jB, jA]; rfl)) ?_
      with_reducible refine (impl_Trace_values.calls k a0_0 _ _ l0_1 a0_2 10 t714 _ ?side1 ?side2 A7.out).mono ?_
      (case side1 => repeat (first | exact (qB HR0_1.out HB.out) | (with_reducible refine qc ?_ _) | (with_reducible refine qe ?_ _) | (with_reducible refine qf ?_)))
      (case side2 => exact HC0_1.out)
      rintro e w17 ⟨v715, rfl, ho0, hb⟩
      refine ⟨_, rfl, ?_⟩
      have n0_ := qM (Kd.R_lower ho0 (qz (by repeat (first | (with_reducible first | exact HB.out | apply qA | apply qN | apply qD | refine qS ?_ GE710.out | refine qS ?_ GE711.out) | exact HB.out))))
      have n1_ := qM (blk_below (g := gb710) (o := .cells #[.int .i64 a0_0, .slice A0_1 l0_1.length c0_1, .int .i64 a0_2] 87 (0, 0)) (by (with_reducible repeat (first | apply qn | apply qd | apply qa)); exact BK710.out) hb)
      have n2_ := qM (blk_below (g := gb711) (o := .cells #[.slice A1_0 l1_0.length c1_0, .slice (some ad713) l1_1.length c1_1] 56 (0, 0)) (by (with_reducible repeat (first | apply qn | apply qd | apply qa)); exact BK711.out) hb)
      have n3_ := qM (qs (by repeat (first | (with_reducible first | exact HB.out | apply qA | apply qN | apply qD | refine qS ?_ GE710.out | refine qS ?_ GE711.out) | exact HB.out)) hb)
      clear BK710
      clear BK711
      clear HB
      have HO716 := n0_
      have BK710 := n1_
      have BK711 := n2_
      have HB := n3_
      clear n0_ n1_ n2_ n3_
      (try clear hb)
      (try clear hb2)
      (try clear hk)
      (try clear hi)
      (try clear ho0)
      obtain ⟨Ao18, co18, eo18⟩ := Kd.R_slice HO716.out
      (first | subst eo18 | (injection eo18 with f1_ f2_ f3_; have f4_ := f1_.symm; have f5_ := f3_.symm; clear f1_ f2_ f3_; subst f4_; subst f5_))
      refine hK.out _ _ ⟨(qC BK710.out 0).trans rfl, (qC BK710.out 1).trans rfl, (qC BK710.out 2).trans rfl, (qC BK711.out 0).trans rfl, (qC BK711.out 1).trans rfl, ((HB.out.cell (qL w _ hw713_0)).trans hw713_0), ((HB.out.cell (qL w _ hw713_1)).trans hw713_1), ((HB.out.cell (qL w _ hw713_2)).trans hw713_2)⟩ (fun hHeld => ?_)
      clear hK K
      refine norm_ (a' := ?_) ?_ ?_
      rotate_left
      · show Act.put _ (some 22) _ = _
        simp only [Act.put, qT, qU, qV, i64_w, i32_w]
        rfl
      refine two_ (i := 10) (j := 14) (Ni := some 23) (Nj := some 5) #[true, true, true, true, true, true, true, true, true, true, true, false, false, false, false, false, false] #[true, true, true, true, true, true, true, true, true, true, false, false, false, false, true, false, false] rfl rfl rfl rfl (two_of HT_.out (by kernel_rfl)) (by decide) (by decide) (fun K hK => ?_) (fun K hK => ?_)
      · skip
        refine goes_ Try.func148 (by kernel_rfl) rfl #[.int .i64 a0_0, .agg #[.int .i64 ((rd_T30 l1_1 a0_0).f0), .int .i64 ((rd_T30 l1_1 a0_0).f1), .slice A713_2 ((rd_T30 l1_1 a0_0).f2).length c713_2], .slice Ao18 t714.length co18] (by rfl) rfl rfl (by (try simp only [jC, jD, jE]); first | done | rfl | (simp only [jB, jA]; rfl)) ?_
        with_reducible refine (impl_TraceOf.calls k a0_0 ((rd_T30 l1_1 a0_0).f0) ((rd_T30 l1_1 a0_0).f1) _ _ ((rd_T30 l1_1 a0_0).f2) _ _ t714 t717 t718 t721 t722 _ ?side1 ?side2 ?side3 ?side4 A8.out).mono ?_
        (case side1 => repeat (first | exact (qB HR713_2.out HB.out) | (with_reducible refine qc ?_ _) | (with_reducible refine qe ?_ _) | (with_reducible refine qf ?_)))
        (case side2 => exact HC713_2.out)
        (case side3 => repeat (first | exact (Kd.R_reads' HO716.out).2.2 | (with_reducible refine qc ?_ _) | (with_reducible refine qe ?_ _) | (with_reducible refine qf ?_)))
        (case side4 => exact (Kd.R_reads' HO716.out).2.1)
        rintro e w19 ⟨v719, rfl, ho0, hb⟩
        refine ⟨_, rfl, ?_⟩
        have n0_ := qM (Kd.R_below (by (with_reducible repeat (first | apply Kd.R_alloc | apply Kd.R_drewN | apply Kd.R_drew)); exact HO716.out) hb)
        have n1_ := qM (Kd.R_lower ho0 (qz (by repeat (first | (with_reducible first | exact HB.out | apply qA | apply qN | apply qD | refine qS ?_ GE710.out | refine qS ?_ GE711.out) | exact HB.out))))
        have n2_ := qM (blk_below (g := gb710) (o := .cells #[.int .i64 a0_0, .slice A0_1 l0_1.length c0_1, .int .i64 a0_2] 87 (0, 0)) (by (with_reducible repeat (first | apply qn | apply qd | apply qa)); exact BK710.out) hb)
        have n3_ := qM (blk_below (g := gb711) (o := .cells #[.slice A1_0 l1_0.length c1_0, .slice (some ad713) l1_1.length c1_1] 56 (0, 0)) (by (with_reducible repeat (first | apply qn | apply qd | apply qa)); exact BK711.out) hb)
        have n4_ := qM (qs (by repeat (first | (with_reducible first | exact HB.out | apply qA | apply qN | apply qD | refine qS ?_ GE710.out | refine qS ?_ GE711.out) | exact HB.out)) hb)
        clear HO716
        clear BK710
        clear BK711
        clear HB
        have HO716 := n0_
        have HO720 := n1_
        have BK710 := n2_
        have BK711 := n3_
        have HB := n4_
        clear n0_ n1_ n2_ n3_ n4_
        (try clear hb)
        (try clear hb2)
        (try clear hk)
        (try clear hi)
        (try clear ho0)
        refine hK.out _ _ ⟨(qC BK710.out 0).trans rfl, (qC BK710.out 1).trans rfl, (qC BK710.out 2).trans rfl, (qC BK711.out 0).trans rfl, (qC BK711.out 1).trans rfl, ((HB.out.cell (qL w _ hw713_0)).trans hw713_0), ((HB.out.cell (qL w _ hw713_1)).trans hw713_1), ((HB.out.cell (qL w _ hw713_2)).trans hw713_2)⟩ (fun hHeld => ?_)
        clear hK K
        refine norm_ (a' := ?_) ?_ ?_
        rotate_left
        · show Act.put _ (some 23) _ = _
          simp only [Act.put, qT, qU, qV, i64_w, i32_w]
          rfl
        refine pure_ (i := 11) (N := some 12) (v := ?_) (a' := ?_) #[true, true, true, true, true, true, true, true, true, true, true, true, false, false, false, false, false] rfl rfl (any_of HT_.out (by kernel_rfl)) (fun _ _ _ h => h) (Or.inl ⟨by rfl, ?_⟩) ?_ ?_
        rotate_left
        · intro w'
          go_simp
          with_reducible rfl
        rotate_left
        · simp only [Act.put, qT, qU, qV, i64_w, i32_w]
          rfl
        refine pure_ (i := 12) (N := some 24) (v := ?_) (a' := ?_) #[true, true, true, true, true, true, true, true, true, true, true, true, true, false, false, false, false] rfl rfl (any_of HT_.out (by kernel_rfl)) (fun _ _ _ h => h) (Or.inl ⟨by rfl, ?_⟩) ?_ ?_
        rotate_left
        · intro w'
          go_simp
          with_reducible rfl
        rotate_left
        · simp only [Act.put, qT, qU, qV, i64_w, i32_w]
          rfl
        refine pure_ (i := 13) (N := some 25) (v := ?_) (a' := ?_) #[true, true, true, true, true, true, true, true, true, true, true, true, true, true, false, false, false] rfl rfl (any_of HT_.out (by kernel_rfl)) (fun _ _ _ h => h) (Or.inl ⟨by rfl, ?_⟩) ?_ ?_
        rotate_left
        · intro w'
          go_simp
          with_reducible rfl
        rotate_left
        · simp only [Act.put, qT, qU, qV, i64_w, i32_w]
          rfl
        refine one_ (i := 14) (N := some 5) #[true, true, true, true, true, true, true, true, true, true, true, true, true, true, true, false, false] rfl rfl (one_of HT_.out (by kernel_rfl)) (by decide) (fun K hK => ?_)
        refine box_step ?hg (N := 5) ?hd (cs := #[.int .i64 0, .slice none 0 0, .int .i64 0]) (t := 87) ?hr ?_; (case hd => rfl); (case hg => rfl); (case hr => first | (go_simp; done) | (go_simp; rfl))
        intro gb723 hg w20 hbox hb
        have n0_ := qM (Kd.R_below (by (with_reducible repeat (first | apply Kd.R_alloc | apply Kd.R_drewN | apply Kd.R_drew)); exact HO716.out) hb)
        have n1_ := qM (Kd.R_below (by (with_reducible repeat (first | apply Kd.R_alloc | apply Kd.R_drewN | apply Kd.R_drew)); exact HO720.out) hb)
        have n2_ := qM (blk_below (g := gb710) (o := .cells #[.int .i64 a0_0, .slice A0_1 l0_1.length c0_1, .int .i64 a0_2] 87 (0, 0)) (by (with_reducible repeat (first | apply qn | apply qd | apply qa)); exact BK710.out) hb)
        have n3_ := qM (blk_below (g := gb711) (o := .cells #[.slice A1_0 l1_0.length c1_0, .slice (some ad713) l1_1.length c1_1] 56 (0, 0)) (by (with_reducible repeat (first | apply qn | apply qd | apply qa)); exact BK711.out) hb)
        have n4_ := qM (qs (by repeat (first | (with_reducible first | exact HB.out | apply qA | apply qN | apply qD | refine qS ?_ GE710.out | refine qS ?_ GE711.out) | exact HB.out)) hb)
        have n5_ := qM (hbox)
        have n6_ := qM ((by rw [hg]; exact (qz (by repeat (first | (with_reducible first | exact HB.out | apply qA | apply qN | apply qD | refine qS ?_ GE710.out | refine qS ?_ GE711.out) | exact HB.out))) : w.heap.size ≤ gb723))
        have n7_ := qM ((by rw [hg]; exact (qz (by repeat (first | (with_reducible first | exact HB.out | apply qA | apply qN | apply qD | refine qS ?_ GE710.out | refine qS ?_ GE711.out) | exact HB.out))) : w.heap.size ≤ gb723))
        have n8_ := qM ((by rw [hg]; exact Nat.ne_of_lt (blk_lt (g := gb710) (o := .cells #[.int .i64 a0_0, .slice A0_1 l0_1.length c0_1, .int .i64 a0_2] 87 (0, 0)) (by (with_reducible repeat (first | apply qn | apply qd | apply qa)); exact BK710.out)) : gb710 ≠ gb723))
        have n9_ := qM ((by rw [hg]; exact Nat.ne_of_gt (blk_lt (g := gb710) (o := .cells #[.int .i64 a0_0, .slice A0_1 l0_1.length c0_1, .int .i64 a0_2] 87 (0, 0)) (by (with_reducible repeat (first | apply qn | apply qd | apply qa)); exact BK710.out)) : gb723 ≠ gb710))
        have n10_ := qM ((by rw [hg]; exact Nat.ne_of_lt (blk_lt (g := gb711) (o := .cells #[.slice A1_0 l1_0.length c1_0, .slice (some ad713) l1_1.length c1_1] 56 (0, 0)) (by (with_reducible repeat (first | apply qn | apply qd | apply qa)); exact BK711.out)) : gb711 ≠ gb723))
        have n11_ := qM ((by rw [hg]; exact Nat.ne_of_gt (blk_lt (g := gb711) (o := .cells #[.slice A1_0 l1_0.length c1_0, .slice (some ad713) l1_1.length c1_1] 56 (0, 0)) (by (with_reducible repeat (first | apply qn | apply qd | apply qa)); exact BK711.out)) : gb723 ≠ gb711))
        clear HO716
        clear HO720
        clear BK710
        clear BK711
        clear HB
        have HO716 := n0_
        have HO720 := n1_
        have BK710 := n2_
        have BK711 := n3_
        have HB := n4_
        have BK723 := n5_
        have GW723 := n6_
        have GE723 := n7_
        have NB710_723 := n8_
        have NB723_710 := n9_
        have NB711_723 := n10_
        have NB723_711 := n11_
        clear n0_ n1_ n2_ n3_ n4_ n5_ n6_ n7_ n8_ n9_ n10_ n11_
        clear hb hbox hg
        refine hK.out _ _ ⟨(qC BK710.out 0).trans rfl, (qC BK710.out 1).trans rfl, (qC BK710.out 2).trans rfl, (qC BK711.out 0).trans rfl, (qC BK711.out 1).trans rfl, ((HB.out.cell (qL w _ hw713_0)).trans hw713_0), ((HB.out.cell (qL w _ hw713_1)).trans hw713_1), ((HB.out.cell (qL w _ hw713_2)).trans hw713_2)⟩ (fun hHeld => ?_)
        clear hK K
        refine norm_ (a' := ?_) ?_ ?_
        rotate_left
        · show Act.put _ (some 5) _ = _
          simp only [Act.put, qT, qU, qV, i64_w, i32_w]
          rfl
        exact norm_ (by simp only [putAll, Act.put, qT, qU, qV]) (hCont (.slice Ao18 t714.length co18, v719, gb723) _ ⟨hHeld, (by (with_reducible repeat (first | apply Kd.R_alloc | apply Kd.R_drewN | apply Kd.R_drew)); exact HO716.out), (by (with_reducible repeat (first | apply Kd.R_alloc | apply Kd.R_drewN | apply Kd.R_drew)); exact HO720.out), (by (with_reducible repeat (first | apply qn | apply qd | apply qa)); exact BK710.out), (by (with_reducible repeat (first | apply qn | apply qd | apply qa)); exact BK711.out), (by (with_reducible repeat (first | apply qn | apply qd | apply qa)); exact BK723.out), GW723.out, GE723.out, NB710_723.out, NB723_710.out, NB711_723.out, NB723_711.out, (by repeat (first | (with_reducible first | exact HB.out | apply qA | apply qN | apply qD | refine qS ?_ GE710.out | refine qS ?_ GE711.out | refine qS ?_ GE723.out) | exact HB.out))⟩)
      · skip
        refine box_step ?hg (N := 5) ?hd (cs := #[.int .i64 0, .slice none 0 0, .int .i64 0]) (t := 87) ?hr ?_; (case hd => rfl); (case hg => rfl); (case hr => first | (go_simp; done) | (go_simp; rfl))
        intro gb723 hg w18 hbox hb
        have n0_ := qM (Kd.R_below (by (with_reducible repeat (first | apply Kd.R_alloc | apply Kd.R_drewN | apply Kd.R_drew)); exact HO716.out) hb)
        have n1_ := qM (blk_below (g := gb710) (o := .cells #[.int .i64 a0_0, .slice A0_1 l0_1.length c0_1, .int .i64 a0_2] 87 (0, 0)) (by (with_reducible repeat (first | apply qn | apply qd | apply qa)); exact BK710.out) hb)
        have n2_ := qM (blk_below (g := gb711) (o := .cells #[.slice A1_0 l1_0.length c1_0, .slice (some ad713) l1_1.length c1_1] 56 (0, 0)) (by (with_reducible repeat (first | apply qn | apply qd | apply qa)); exact BK711.out) hb)
        have n3_ := qM (qs (by repeat (first | (with_reducible first | exact HB.out | apply qA | apply qN | apply qD | refine qS ?_ GE710.out | refine qS ?_ GE711.out) | exact HB.out)) hb)
        have n4_ := qM (hbox)
        have n5_ := qM ((by rw [hg]; exact (qz (by repeat (first | (with_reducible first | exact HB.out | apply qA | apply qN | apply qD | refine qS ?_ GE710.out | refine qS ?_ GE711.out) | exact HB.out))) : w.heap.size ≤ gb723))
        have n6_ := qM ((by rw [hg]; exact (qz (by repeat (first | (with_reducible first | exact HB.out | apply qA | apply qN | apply qD | refine qS ?_ GE710.out | refine qS ?_ GE711.out) | exact HB.out))) : w.heap.size ≤ gb723))
        have n7_ := qM ((by rw [hg]; exact Nat.ne_of_lt (blk_lt (g := gb710) (o := .cells #[.int .i64 a0_0, .slice A0_1 l0_1.length c0_1, .int .i64 a0_2] 87 (0, 0)) (by (with_reducible repeat (first | apply qn | apply qd | apply qa)); exact BK710.out)) : gb710 ≠ gb723))
        have n8_ := qM ((by rw [hg]; exact Nat.ne_of_gt (blk_lt (g := gb710) (o := .cells #[.int .i64 a0_0, .slice A0_1 l0_1.length c0_1, .int .i64 a0_2] 87 (0, 0)) (by (with_reducible repeat (first | apply qn | apply qd | apply qa)); exact BK710.out)) : gb723 ≠ gb710))
        have n9_ := qM ((by rw [hg]; exact Nat.ne_of_lt (blk_lt (g := gb711) (o := .cells #[.slice A1_0 l1_0.length c1_0, .slice (some ad713) l1_1.length c1_1] 56 (0, 0)) (by (with_reducible repeat (first | apply qn | apply qd | apply qa)); exact BK711.out)) : gb711 ≠ gb723))
        have n10_ := qM ((by rw [hg]; exact Nat.ne_of_gt (blk_lt (g := gb711) (o := .cells #[.slice A1_0 l1_0.length c1_0, .slice (some ad713) l1_1.length c1_1] 56 (0, 0)) (by (with_reducible repeat (first | apply qn | apply qd | apply qa)); exact BK711.out)) : gb723 ≠ gb711))
        clear HO716
        clear BK710
        clear BK711
        clear HB
        have HO716 := n0_
        have BK710 := n1_
        have BK711 := n2_
        have HB := n3_
        have BK723 := n4_
        have GW723 := n5_
        have GE723 := n6_
        have NB710_723 := n7_
        have NB723_710 := n8_
        have NB711_723 := n9_
        have NB723_711 := n10_
        clear n0_ n1_ n2_ n3_ n4_ n5_ n6_ n7_ n8_ n9_ n10_
        clear hb hbox hg
        obtain ⟨Ao19, co19, eo19⟩ := Kd.R_slice HO716.out
        (first | subst eo19 | (injection eo19 with f1_ f2_ f3_; have f4_ := f1_.symm; have f5_ := f3_.symm; clear f1_ f2_ f3_; subst f4_; subst f5_))
        refine hK.out _ _ ⟨(qC BK710.out 0).trans rfl, (qC BK710.out 1).trans rfl, (qC BK710.out 2).trans rfl, (qC BK711.out 0).trans rfl, (qC BK711.out 1).trans rfl, ((HB.out.cell (qL w _ hw713_0)).trans hw713_0), ((HB.out.cell (qL w _ hw713_1)).trans hw713_1), ((HB.out.cell (qL w _ hw713_2)).trans hw713_2)⟩ (fun hHeld => ?_)
        clear hK K
        refine norm_ (a' := ?_) ?_ ?_
        rotate_left
        · show Act.put _ (some 5) _ = _
          simp only [Act.put, qT, qU, qV, i64_w, i32_w]
          rfl
        refine one_ (i := 10) (N := some 23) #[true, true, true, true, true, true, true, true, true, true, true, false, false, false, true, false, false] rfl rfl (one_of HT_.out (by kernel_rfl)) (by decide) (fun K hK => ?_)
        refine goes_ Try.func148 (by kernel_rfl) rfl #[.int .i64 a0_0, .agg #[.int .i64 ((rd_T30 l1_1 a0_0).f0), .int .i64 ((rd_T30 l1_1 a0_0).f1), .slice A713_2 ((rd_T30 l1_1 a0_0).f2).length c713_2], .slice Ao19 t714.length co19] (by rfl) rfl rfl (by (try simp only [jC, jD, jE]); first | done | rfl | (simp only [jB, jA]; rfl)) ?_
        with_reducible refine (impl_TraceOf.calls k a0_0 ((rd_T30 l1_1 a0_0).f0) ((rd_T30 l1_1 a0_0).f1) _ _ ((rd_T30 l1_1 a0_0).f2) _ _ t714 t717 t718 t721 t722 _ ?side1 ?side2 ?side3 ?side4 A8.out).mono ?_
        (case side1 => repeat (first | exact (qB HR713_2.out HB.out) | (with_reducible refine qc ?_ _) | (with_reducible refine qe ?_ _) | (with_reducible refine qf ?_)))
        (case side2 => exact HC713_2.out)
        (case side3 => repeat (first | exact (Kd.R_reads' HO716.out).2.2 | (with_reducible refine qc ?_ _) | (with_reducible refine qe ?_ _) | (with_reducible refine qf ?_)))
        (case side4 => exact (Kd.R_reads' HO716.out).2.1)
        rintro e w20 ⟨v719, rfl, ho0, hb⟩
        refine ⟨_, rfl, ?_⟩
        have n0_ := qM (Kd.R_below (by (with_reducible repeat (first | apply Kd.R_alloc | apply Kd.R_drewN | apply Kd.R_drew)); exact HO716.out) hb)
        have n1_ := qM (Kd.R_lower ho0 (qz (by repeat (first | (with_reducible first | exact HB.out | apply qA | apply qN | apply qD | refine qS ?_ GE710.out | refine qS ?_ GE711.out | refine qS ?_ GE723.out) | exact HB.out))))
        have n2_ := qM (blk_below (g := gb710) (o := .cells #[.int .i64 a0_0, .slice A0_1 l0_1.length c0_1, .int .i64 a0_2] 87 (0, 0)) (by (with_reducible repeat (first | apply qn | apply qd | apply qa)); exact BK710.out) hb)
        have n3_ := qM (blk_below (g := gb711) (o := .cells #[.slice A1_0 l1_0.length c1_0, .slice (some ad713) l1_1.length c1_1] 56 (0, 0)) (by (with_reducible repeat (first | apply qn | apply qd | apply qa)); exact BK711.out) hb)
        have n4_ := qM (blk_below (g := gb723) (o := .cells #[.int .i64 0, .slice none 0 0, .int .i64 0] 87 (0, 0)) (by (with_reducible repeat (first | apply qn | apply qd | apply qa)); exact BK723.out) hb)
        have n5_ := qM (qs (by repeat (first | (with_reducible first | exact HB.out | apply qA | apply qN | apply qD | refine qS ?_ GE710.out | refine qS ?_ GE711.out | refine qS ?_ GE723.out) | exact HB.out)) hb)
        clear HO716
        clear BK710
        clear BK711
        clear BK723
        clear HB
        have HO716 := n0_
        have HO720 := n1_
        have BK710 := n2_
        have BK711 := n3_
        have BK723 := n4_
        have HB := n5_
        clear n0_ n1_ n2_ n3_ n4_ n5_
        (try clear hb)
        (try clear hb2)
        (try clear hk)
        (try clear hi)
        (try clear ho0)
        refine hK.out _ _ ⟨(qC BK710.out 0).trans rfl, (qC BK710.out 1).trans rfl, (qC BK710.out 2).trans rfl, (qC BK711.out 0).trans rfl, (qC BK711.out 1).trans rfl, ((HB.out.cell (qL w _ hw713_0)).trans hw713_0), ((HB.out.cell (qL w _ hw713_1)).trans hw713_1), ((HB.out.cell (qL w _ hw713_2)).trans hw713_2)⟩ (fun hHeld => ?_)
        clear hK K
        refine norm_ (a' := ?_) ?_ ?_
        rotate_left
        · show Act.put _ (some 23) _ = _
          simp only [Act.put, qT, qU, qV, i64_w, i32_w]
          rfl
        refine pure_ (i := 11) (N := some 12) (v := ?_) (a' := ?_) #[true, true, true, true, true, true, true, true, true, true, true, true, false, false, true, false, false] rfl rfl (any_of HT_.out (by kernel_rfl)) (fun _ _ _ h => h) (Or.inl ⟨by rfl, ?_⟩) ?_ ?_
        rotate_left
        · intro w'
          go_simp
          with_reducible rfl
        rotate_left
        · simp only [Act.put, qT, qU, qV, i64_w, i32_w]
          rfl
        refine pure_ (i := 12) (N := some 24) (v := ?_) (a' := ?_) #[true, true, true, true, true, true, true, true, true, true, true, true, true, false, true, false, false] rfl rfl (any_of HT_.out (by kernel_rfl)) (fun _ _ _ h => h) (Or.inl ⟨by rfl, ?_⟩) ?_ ?_
        rotate_left
        · intro w'
          go_simp
          with_reducible rfl
        rotate_left
        · simp only [Act.put, qT, qU, qV, i64_w, i32_w]
          rfl
        refine pure_ (i := 13) (N := some 25) (v := ?_) (a' := ?_) #[true, true, true, true, true, true, true, true, true, true, true, true, true, true, true, false, false] rfl rfl (any_of HT_.out (by kernel_rfl)) (fun _ _ _ h => h) (Or.inl ⟨by rfl, ?_⟩) ?_ ?_
        rotate_left
        · intro w'
          go_simp
          with_reducible rfl
        rotate_left
        · simp only [Act.put, qT, qU, qV, i64_w, i32_w]
          rfl
        exact norm_ (by simp only [putAll, Act.put, qT, qU, qV]) (hCont (.slice Ao19 t714.length co19, v719, gb723) _ ⟨hHeld, (by (with_reducible repeat (first | apply Kd.R_alloc | apply Kd.R_drewN | apply Kd.R_drew)); exact HO716.out), (by (with_reducible repeat (first | apply Kd.R_alloc | apply Kd.R_drewN | apply Kd.R_drew)); exact HO720.out), (by (with_reducible repeat (first | apply qn | apply qd | apply qa)); exact BK710.out), (by (with_reducible repeat (first | apply qn | apply qd | apply qa)); exact BK711.out), (by (with_reducible repeat (first | apply qn | apply qd | apply qa)); exact BK723.out), GW723.out, GE723.out, NB710_723.out, NB723_710.out, NB711_723.out, NB723_711.out, (by repeat (first | (with_reducible first | exact HB.out | apply qA | apply qN | apply qD | refine qS ?_ GE710.out | refine qS ?_ GE711.out | refine qS ?_ GE723.out) | exact HB.out))⟩)
    · skip
      refine box_step ?hg (N := 5) ?hd (cs := #[.int .i64 0, .slice none 0 0, .int .i64 0]) (t := 87) ?hr ?_; (case hd => rfl); (case hg => rfl); (case hr => first | (go_simp; done) | (go_simp; rfl))
      intro gb723 hg w17 hbox hb
      have n0_ := qM (blk_below (g := gb710) (o := .cells #[.int .i64 a0_0, .slice A0_1 l0_1.length c0_1, .int .i64 a0_2] 87 (0, 0)) (by (with_reducible repeat (first | apply qn | apply qd | apply qa)); exact BK710.out) hb)
      have n1_ := qM (blk_below (g := gb711) (o := .cells #[.slice A1_0 l1_0.length c1_0, .slice (some ad713) l1_1.length c1_1] 56 (0, 0)) (by (with_reducible repeat (first | apply qn | apply qd | apply qa)); exact BK711.out) hb)
      have n2_ := qM (qs (by repeat (first | (with_reducible first | exact HB.out | apply qA | apply qN | apply qD | refine qS ?_ GE710.out | refine qS ?_ GE711.out) | exact HB.out)) hb)
      have n3_ := qM (hbox)
      have n4_ := qM ((by rw [hg]; exact (qz (by repeat (first | (with_reducible first | exact HB.out | apply qA | apply qN | apply qD | refine qS ?_ GE710.out | refine qS ?_ GE711.out) | exact HB.out))) : w.heap.size ≤ gb723))
      have n5_ := qM ((by rw [hg]; exact (qz (by repeat (first | (with_reducible first | exact HB.out | apply qA | apply qN | apply qD | refine qS ?_ GE710.out | refine qS ?_ GE711.out) | exact HB.out))) : w.heap.size ≤ gb723))
      have n6_ := qM ((by rw [hg]; exact Nat.ne_of_lt (blk_lt (g := gb710) (o := .cells #[.int .i64 a0_0, .slice A0_1 l0_1.length c0_1, .int .i64 a0_2] 87 (0, 0)) (by (with_reducible repeat (first | apply qn | apply qd | apply qa)); exact BK710.out)) : gb710 ≠ gb723))
      have n7_ := qM ((by rw [hg]; exact Nat.ne_of_gt (blk_lt (g := gb710) (o := .cells #[.int .i64 a0_0, .slice A0_1 l0_1.length c0_1, .int .i64 a0_2] 87 (0, 0)) (by (with_reducible repeat (first | apply qn | apply qd | apply qa)); exact BK710.out)) : gb723 ≠ gb710))
      have n8_ := qM ((by rw [hg]; exact Nat.ne_of_lt (blk_lt (g := gb711) (o := .cells #[.slice A1_0 l1_0.length c1_0, .slice (some ad713) l1_1.length c1_1] 56 (0, 0)) (by (with_reducible repeat (first | apply qn | apply qd | apply qa)); exact BK711.out)) : gb711 ≠ gb723))
      have n9_ := qM ((by rw [hg]; exact Nat.ne_of_gt (blk_lt (g := gb711) (o := .cells #[.slice A1_0 l1_0.length c1_0, .slice (some ad713) l1_1.length c1_1] 56 (0, 0)) (by (with_reducible repeat (first | apply qn | apply qd | apply qa)); exact BK711.out)) : gb723 ≠ gb711))
      clear BK710
      clear BK711
      clear HB
      have BK710 := n0_
      have BK711 := n1_
      have HB := n2_
      have BK723 := n3_
      have GW723 := n4_
      have GE723 := n5_
      have NB710_723 := n6_
      have NB723_710 := n7_
      have NB711_723 := n8_
      have NB723_711 := n9_
      clear n0_ n1_ n2_ n3_ n4_ n5_ n6_ n7_ n8_ n9_
      clear hb hbox hg
      refine hK.out _ _ ⟨(qC BK710.out 0).trans rfl, (qC BK710.out 1).trans rfl, (qC BK710.out 2).trans rfl, (qC BK711.out 0).trans rfl, (qC BK711.out 1).trans rfl, ((HB.out.cell (qL w _ hw713_0)).trans hw713_0), ((HB.out.cell (qL w _ hw713_1)).trans hw713_1), ((HB.out.cell (qL w _ hw713_2)).trans hw713_2)⟩ (fun hHeld => ?_)
      clear hK K
      refine norm_ (a' := ?_) ?_ ?_
      rotate_left
      · show Act.put _ (some 5) _ = _
        simp only [Act.put, qT, qU, qV, i64_w, i32_w]
        rfl
      refine one_ (i := 9) (N := some 22) #[true, true, true, true, true, true, true, true, true, true, false, false, false, false, true, false, false] rfl rfl (one_of HT_.out (by kernel_rfl)) (by decide) (fun K hK => ?_)
      refine goes_ Try.func149 (by kernel_rfl) rfl #[.agg #[.int .i64 a0_0, .slice A0_1 l0_1.length c0_1, .int .i64 a0_2], .int .i64 10] (by rfl) rfl rfl (by (try simp only [jC, jD, jE]); first | done | rfl | (simp only [jB, jA]; rfl)) ?_
      with_reducible refine (impl_Trace_values.calls k a0_0 _ _ l0_1 a0_2 10 t714 _ ?side1 ?side2 A7.out).mono ?_
      (case side1 => repeat (first | exact (qB HR0_1.out HB.out) | (with_reducible refine qc ?_ _) | (with_reducible refine qe ?_ _) | (with_reducible refine qf ?_)))
      (case side2 => exact HC0_1.out)
      rintro e w18 ⟨v715, rfl, ho0, hb⟩
      refine ⟨_, rfl, ?_⟩
      have n0_ := qM (Kd.R_lower ho0 (qz (by repeat (first | (with_reducible first | exact HB.out | apply qA | apply qN | apply qD | refine qS ?_ GE710.out | refine qS ?_ GE711.out | refine qS ?_ GE723.out) | exact HB.out))))
      have n1_ := qM (blk_below (g := gb710) (o := .cells #[.int .i64 a0_0, .slice A0_1 l0_1.length c0_1, .int .i64 a0_2] 87 (0, 0)) (by (with_reducible repeat (first | apply qn | apply qd | apply qa)); exact BK710.out) hb)
      have n2_ := qM (blk_below (g := gb711) (o := .cells #[.slice A1_0 l1_0.length c1_0, .slice (some ad713) l1_1.length c1_1] 56 (0, 0)) (by (with_reducible repeat (first | apply qn | apply qd | apply qa)); exact BK711.out) hb)
      have n3_ := qM (blk_below (g := gb723) (o := .cells #[.int .i64 0, .slice none 0 0, .int .i64 0] 87 (0, 0)) (by (with_reducible repeat (first | apply qn | apply qd | apply qa)); exact BK723.out) hb)
      have n4_ := qM (qs (by repeat (first | (with_reducible first | exact HB.out | apply qA | apply qN | apply qD | refine qS ?_ GE710.out | refine qS ?_ GE711.out | refine qS ?_ GE723.out) | exact HB.out)) hb)
      clear BK710
      clear BK711
      clear BK723
      clear HB
      have HO716 := n0_
      have BK710 := n1_
      have BK711 := n2_
      have BK723 := n3_
      have HB := n4_
      clear n0_ n1_ n2_ n3_ n4_
      (try clear hb)
      (try clear hb2)
      (try clear hk)
      (try clear hi)
      (try clear ho0)
      obtain ⟨Ao19, co19, eo19⟩ := Kd.R_slice HO716.out
      (first | subst eo19 | (injection eo19 with f1_ f2_ f3_; have f4_ := f1_.symm; have f5_ := f3_.symm; clear f1_ f2_ f3_; subst f4_; subst f5_))
      refine hK.out _ _ ⟨(qC BK710.out 0).trans rfl, (qC BK710.out 1).trans rfl, (qC BK710.out 2).trans rfl, (qC BK711.out 0).trans rfl, (qC BK711.out 1).trans rfl, ((HB.out.cell (qL w _ hw713_0)).trans hw713_0), ((HB.out.cell (qL w _ hw713_1)).trans hw713_1), ((HB.out.cell (qL w _ hw713_2)).trans hw713_2)⟩ (fun hHeld => ?_)
      clear hK K
      refine norm_ (a' := ?_) ?_ ?_
      rotate_left
      · show Act.put _ (some 22) _ = _
        simp only [Act.put, qT, qU, qV, i64_w, i32_w]
        rfl
      refine one_ (i := 10) (N := some 23) #[true, true, true, true, true, true, true, true, true, true, true, false, false, false, true, false, false] rfl rfl (one_of HT_.out (by kernel_rfl)) (by decide) (fun K hK => ?_)
      refine goes_ Try.func148 (by kernel_rfl) rfl #[.int .i64 a0_0, .agg #[.int .i64 ((rd_T30 l1_1 a0_0).f0), .int .i64 ((rd_T30 l1_1 a0_0).f1), .slice A713_2 ((rd_T30 l1_1 a0_0).f2).length c713_2], .slice Ao19 t714.length co19] (by rfl) rfl rfl (by (try simp only [jC, jD, jE]); first | done | rfl | (simp only [jB, jA]; rfl)) ?_
      with_reducible refine (impl_TraceOf.calls k a0_0 ((rd_T30 l1_1 a0_0).f0) ((rd_T30 l1_1 a0_0).f1) _ _ ((rd_T30 l1_1 a0_0).f2) _ _ t714 t717 t718 t721 t722 _ ?side1 ?side2 ?side3 ?side4 A8.out).mono ?_
      (case side1 => repeat (first | exact (qB HR713_2.out HB.out) | (with_reducible refine qc ?_ _) | (with_reducible refine qe ?_ _) | (with_reducible refine qf ?_)))
      (case side2 => exact HC713_2.out)
      (case side3 => repeat (first | exact (Kd.R_reads' HO716.out).2.2 | (with_reducible refine qc ?_ _) | (with_reducible refine qe ?_ _) | (with_reducible refine qf ?_)))
      (case side4 => exact (Kd.R_reads' HO716.out).2.1)
      rintro e w20 ⟨v719, rfl, ho0, hb⟩
      refine ⟨_, rfl, ?_⟩
      have n0_ := qM (Kd.R_below (by (with_reducible repeat (first | apply Kd.R_alloc | apply Kd.R_drewN | apply Kd.R_drew)); exact HO716.out) hb)
      have n1_ := qM (Kd.R_lower ho0 (qz (by repeat (first | (with_reducible first | exact HB.out | apply qA | apply qN | apply qD | refine qS ?_ GE710.out | refine qS ?_ GE711.out | refine qS ?_ GE723.out) | exact HB.out))))
      have n2_ := qM (blk_below (g := gb710) (o := .cells #[.int .i64 a0_0, .slice A0_1 l0_1.length c0_1, .int .i64 a0_2] 87 (0, 0)) (by (with_reducible repeat (first | apply qn | apply qd | apply qa)); exact BK710.out) hb)
      have n3_ := qM (blk_below (g := gb711) (o := .cells #[.slice A1_0 l1_0.length c1_0, .slice (some ad713) l1_1.length c1_1] 56 (0, 0)) (by (with_reducible repeat (first | apply qn | apply qd | apply qa)); exact BK711.out) hb)
      have n4_ := qM (blk_below (g := gb723) (o := .cells #[.int .i64 0, .slice none 0 0, .int .i64 0] 87 (0, 0)) (by (with_reducible repeat (first | apply qn | apply qd | apply qa)); exact BK723.out) hb)
      have n5_ := qM (qs (by repeat (first | (with_reducible first | exact HB.out | apply qA | apply qN | apply qD | refine qS ?_ GE710.out | refine qS ?_ GE711.out | refine qS ?_ GE723.out) | exact HB.out)) hb)
      clear HO716
      clear BK710
      clear BK711
      clear BK723
      clear HB
      have HO716 := n0_
      have HO720 := n1_
      have BK710 := n2_
      have BK711 := n3_
      have BK723 := n4_
      have HB := n5_
      clear n0_ n1_ n2_ n3_ n4_ n5_
      (try clear hb)
      (try clear hb2)
      (try clear hk)
      (try clear hi)
      (try clear ho0)
      refine hK.out _ _ ⟨(qC BK710.out 0).trans rfl, (qC BK710.out 1).trans rfl, (qC BK710.out 2).trans rfl, (qC BK711.out 0).trans rfl, (qC BK711.out 1).trans rfl, ((HB.out.cell (qL w _ hw713_0)).trans hw713_0), ((HB.out.cell (qL w _ hw713_1)).trans hw713_1), ((HB.out.cell (qL w _ hw713_2)).trans hw713_2)⟩ (fun hHeld => ?_)
      clear hK K
      refine norm_ (a' := ?_) ?_ ?_
      rotate_left
      · show Act.put _ (some 23) _ = _
        simp only [Act.put, qT, qU, qV, i64_w, i32_w]
        rfl
      refine pure_ (i := 11) (N := some 12) (v := ?_) (a' := ?_) #[true, true, true, true, true, true, true, true, true, true, true, true, false, false, true, false, false] rfl rfl (any_of HT_.out (by kernel_rfl)) (fun _ _ _ h => h) (Or.inl ⟨by rfl, ?_⟩) ?_ ?_
      rotate_left
      · intro w'
        go_simp
        with_reducible rfl
      rotate_left
      · simp only [Act.put, qT, qU, qV, i64_w, i32_w]
        rfl
      refine pure_ (i := 12) (N := some 24) (v := ?_) (a' := ?_) #[true, true, true, true, true, true, true, true, true, true, true, true, true, false, true, false, false] rfl rfl (any_of HT_.out (by kernel_rfl)) (fun _ _ _ h => h) (Or.inl ⟨by rfl, ?_⟩) ?_ ?_
      rotate_left
      · intro w'
        go_simp
        with_reducible rfl
      rotate_left
      · simp only [Act.put, qT, qU, qV, i64_w, i32_w]
        rfl
      refine pure_ (i := 13) (N := some 25) (v := ?_) (a' := ?_) #[true, true, true, true, true, true, true, true, true, true, true, true, true, true, true, false, false] rfl rfl (any_of HT_.out (by kernel_rfl)) (fun _ _ _ h => h) (Or.inl ⟨by rfl, ?_⟩) ?_ ?_
      rotate_left
      · intro w'
        go_simp
        with_reducible rfl
      rotate_left
      · simp only [Act.put, qT, qU, qV, i64_w, i32_w]
        rfl
      exact norm_ (by simp only [putAll, Act.put, qT, qU, qV]) (hCont (.slice Ao19 t714.length co19, v719, gb723) _ ⟨hHeld, (by (with_reducible repeat (first | apply Kd.R_alloc | apply Kd.R_drewN | apply Kd.R_drew)); exact HO716.out), (by (with_reducible repeat (first | apply Kd.R_alloc | apply Kd.R_drewN | apply Kd.R_drew)); exact HO720.out), (by (with_reducible repeat (first | apply qn | apply qd | apply qa)); exact BK710.out), (by (with_reducible repeat (first | apply qn | apply qd | apply qa)); exact BK711.out), (by (with_reducible repeat (first | apply qn | apply qd | apply qa)); exact BK723.out), GW723.out, GE723.out, NB710_723.out, NB723_710.out, NB711_723.out, NB723_711.out, (by repeat (first | (with_reducible first | exact HB.out | apply qA | apply qN | apply qD | refine qS ?_ GE710.out | refine qS ?_ GE711.out | refine qS ?_ GE723.out) | exact HB.out))⟩)
  rintro ⟨v715, v719, gb723⟩ w21 ⟨hS_, h0_, h1_, h2_, h3_, h4_, h5_, h6_, h7_, h8_, h9_, h10_, h11_⟩
  have n0_ : Aside0 (Kd.R (Kd.int .i64) 3 w21 w.heap.size (fun _ => True) v715 t714) := ⟨h0_⟩
  have n1_ : Aside0 (Kd.R k117 117 w21 w.heap.size (fun _ => True) v719 t718) := ⟨h1_⟩
  have n2_ : Aside0 (w21.heap[gb710]? = some (.cells #[.int .i64 a0_0, .slice A0_1 l0_1.length c0_1, .int .i64 a0_2] 87 (0, 0))) := ⟨h2_⟩
  have n3_ : Aside0 (w21.heap[gb711]? = some (.cells #[.slice A1_0 l1_0.length c1_0, .slice (some ad713) l1_1.length c1_1] 56 (0, 0))) := ⟨h3_⟩
  have n4_ : Aside0 (w21.heap[gb723]? = some (.cells #[.int .i64 0, .slice none 0 0, .int .i64 0] 87 (0, 0))) := ⟨h4_⟩
  have n5_ : Aside0 (w.heap.size ≤ gb723) := ⟨h5_⟩
  have n6_ : Aside0 (w.heap.size ≤ gb723) := ⟨h6_⟩
  have n7_ : Aside0 (gb710 ≠ gb723) := ⟨h7_⟩
  have n8_ : Aside0 (gb723 ≠ gb710) := ⟨h8_⟩
  have n9_ : Aside0 (gb711 ≠ gb723) := ⟨h9_⟩
  have n10_ : Aside0 (gb723 ≠ gb711) := ⟨h10_⟩
  have n11_ : Aside0 (Below w.heap.size w w21) := ⟨h11_⟩
  clear BK710
  clear BK711
  clear HB
  clear h0_ h1_ h2_ h3_ h4_ h5_ h6_ h7_ h8_ h9_ h10_ h11_
  have HO716 := n0_
  have HO720 := n1_
  have BK710 := n2_
  have BK711 := n3_
  have BK723 := n4_
  have GW723 := n5_
  have GE723 := n6_
  have NB710_723 := n7_
  have NB723_710 := n8_
  have NB711_723 := n9_
  have NB723_711 := n10_
  have HB := n11_
  clear n0_ n1_ n2_ n3_ n4_ n5_ n6_ n7_ n8_ n9_ n10_ n11_
  have hHeld : w21.cell? ⟨gb710, 0, none⟩ = some (.int .i64 a0_0) ∧ w21.cell? ⟨gb710, 1, none⟩ = some (.slice A0_1 l0_1.length c0_1) ∧ w21.cell? ⟨gb710, 2, none⟩ = some (.int .i64 a0_2) ∧ w21.cell? ⟨gb711, 0, none⟩ = some (.slice A1_0 l1_0.length c1_0) ∧ w21.cell? ⟨gb711, 1, none⟩ = some (.slice (some ad713) l1_1.length c1_1) ∧ w21.cell? (ad713.add ((a0_0).toNat * 3)) = some (.int .i64 ((rd_T30 l1_1 a0_0).f0)) ∧ w21.cell? ⟨(ad713.add ((a0_0).toNat * 3)).block, (ad713.add ((a0_0).toNat * 3)).off + 1, none⟩ = some (.int .i64 ((rd_T30 l1_1 a0_0).f1)) ∧ w21.cell? ⟨(ad713.add ((a0_0).toNat * 3)).block, (ad713.add ((a0_0).toNat * 3)).off + 2, none⟩ = some (.slice A713_2 ((rd_T30 l1_1 a0_0).f2).length c713_2) := hS_
  obtain ⟨Ao23, co23, eo23⟩ := Kd.R_slice HO720.out
  (first | subst eo23 | (injection eo23 with f1_ f2_ f3_; have f4_ := f1_.symm; have f5_ := f3_.symm; clear f1_ f2_ f3_; subst f4_; subst f5_))
  refine norm_ (a' := ?_) ?_ ?_
  rotate_left
  · simp only [putAll, Act.put, qT, qU, qV]
    rfl
  refine one_ (i := 15) (N := none) #[true, true, true, true, true, true, true, true, true, true, true, true, true, true, true, true, false] rfl rfl (one_of HT_.out (by kernel_rfl)) (by decide) (fun K hK => ?_)
  have hs22 : w21.cell? ⟨gb723, 0, none⟩ = some (.int .i64 0) := (qC BK723.out 0).trans rfl
  have hfs22 := qF BK723.out 0
  have hns22_0 := NB710_723.out
  have hns22_1 := NB711_723.out
  have hms22_0 := NB723_710.out
  have hms22_1 := NB723_711.out
  have hs24 : w21.cell? ⟨gb723, 1, none⟩ = some (.slice none 0 0) := (qC BK723.out 1).trans rfl
  have hfs24 := qF BK723.out 1
  have hns24_0 := NB710_723.out
  have hns24_1 := NB711_723.out
  have hms24_0 := NB723_710.out
  have hms24_1 := NB723_711.out
  have hs25 : w21.cell? ⟨gb723, 2, none⟩ = some (.int .i64 0) := (qC BK723.out 2).trans rfl
  have hfs25 := qF BK723.out 2
  have hns25_0 := NB710_723.out
  have hns25_1 := NB711_723.out
  have hms25_0 := NB723_710.out
  have hms25_1 := NB723_711.out
  refine skip_ (w1 := ?_) (by rfl) rfl ?_ ?_
  rotate_left
  · go_simp
    rfl
  refine hK.out _ _ ⟨((cell_far (p := ⟨gb723, _, none⟩) NB710_723.out _).trans (((cell_far (p := ⟨gb723, _, none⟩) NB710_723.out _).trans (((cell_far (p := ⟨gb723, _, none⟩) NB710_723.out _).trans (hHeld.1)))))), ((cell_far (p := ⟨gb723, _, none⟩) NB710_723.out _).trans (((cell_far (p := ⟨gb723, _, none⟩) NB710_723.out _).trans (((cell_far (p := ⟨gb723, _, none⟩) NB710_723.out _).trans (hHeld.2.1)))))), ((cell_far (p := ⟨gb723, _, none⟩) NB710_723.out _).trans (((cell_far (p := ⟨gb723, _, none⟩) NB710_723.out _).trans (((cell_far (p := ⟨gb723, _, none⟩) NB710_723.out _).trans (hHeld.2.2.1)))))), ((cell_far (p := ⟨gb723, _, none⟩) NB711_723.out _).trans (((cell_far (p := ⟨gb723, _, none⟩) NB711_723.out _).trans (((cell_far (p := ⟨gb723, _, none⟩) NB711_723.out _).trans (hHeld.2.2.2.1)))))), ((cell_far (p := ⟨gb723, _, none⟩) NB711_723.out _).trans (((cell_far (p := ⟨gb723, _, none⟩) NB711_723.out _).trans (((cell_far (p := ⟨gb723, _, none⟩) NB711_723.out _).trans (hHeld.2.2.2.2.1)))))), ((cell_far (p := ⟨gb723, _, none⟩) (by first | exact Nat.ne_of_lt (Nat.lt_of_lt_of_le (by have := qL _ _ hw713_0; first | rwa [add_block] at this | exact this) GW723.out) | (rw [add_block]; exact Nat.ne_of_lt (Nat.lt_of_lt_of_le (by have := qL _ _ hw713_0; first | rwa [add_block] at this | exact this) GW723.out)) | (show (Addr.add _ _).block ≠ _; rw [add_block]; exact Nat.ne_of_lt (Nat.lt_of_lt_of_le (by have := qL _ _ hw713_0; first | rwa [add_block] at this | exact this) GW723.out)) | (dsimp only; exact Nat.ne_of_lt (Nat.lt_of_lt_of_le (by have := qL _ _ hw713_0; first | rwa [add_block] at this | exact this) GW723.out))) _).trans (((cell_far (p := ⟨gb723, _, none⟩) (by first | exact Nat.ne_of_lt (Nat.lt_of_lt_of_le (by have := qL _ _ hw713_0; first | rwa [add_block] at this | exact this) GW723.out) | (rw [add_block]; exact Nat.ne_of_lt (Nat.lt_of_lt_of_le (by have := qL _ _ hw713_0; first | rwa [add_block] at this | exact this) GW723.out)) | (show (Addr.add _ _).block ≠ _; rw [add_block]; exact Nat.ne_of_lt (Nat.lt_of_lt_of_le (by have := qL _ _ hw713_0; first | rwa [add_block] at this | exact this) GW723.out)) | (dsimp only; exact Nat.ne_of_lt (Nat.lt_of_lt_of_le (by have := qL _ _ hw713_0; first | rwa [add_block] at this | exact this) GW723.out))) _).trans (((cell_far (p := ⟨gb723, _, none⟩) (by first | exact Nat.ne_of_lt (Nat.lt_of_lt_of_le (by have := qL _ _ hw713_0; first | rwa [add_block] at this | exact this) GW723.out) | (rw [add_block]; exact Nat.ne_of_lt (Nat.lt_of_lt_of_le (by have := qL _ _ hw713_0; first | rwa [add_block] at this | exact this) GW723.out)) | (show (Addr.add _ _).block ≠ _; rw [add_block]; exact Nat.ne_of_lt (Nat.lt_of_lt_of_le (by have := qL _ _ hw713_0; first | rwa [add_block] at this | exact this) GW723.out)) | (dsimp only; exact Nat.ne_of_lt (Nat.lt_of_lt_of_le (by have := qL _ _ hw713_0; first | rwa [add_block] at this | exact this) GW723.out))) _).trans (hHeld.2.2.2.2.2.1)))))), ((cell_far (p := ⟨gb723, _, none⟩) (by first | exact Nat.ne_of_lt (Nat.lt_of_lt_of_le (by have := qL _ _ hw713_1; first | rwa [add_block] at this | exact this) GW723.out) | (rw [add_block]; exact Nat.ne_of_lt (Nat.lt_of_lt_of_le (by have := qL _ _ hw713_1; first | rwa [add_block] at this | exact this) GW723.out)) | (show (Addr.add _ _).block ≠ _; rw [add_block]; exact Nat.ne_of_lt (Nat.lt_of_lt_of_le (by have := qL _ _ hw713_1; first | rwa [add_block] at this | exact this) GW723.out)) | (dsimp only; exact Nat.ne_of_lt (Nat.lt_of_lt_of_le (by have := qL _ _ hw713_1; first | rwa [add_block] at this | exact this) GW723.out))) _).trans (((cell_far (p := ⟨gb723, _, none⟩) (by first | exact Nat.ne_of_lt (Nat.lt_of_lt_of_le (by have := qL _ _ hw713_1; first | rwa [add_block] at this | exact this) GW723.out) | (rw [add_block]; exact Nat.ne_of_lt (Nat.lt_of_lt_of_le (by have := qL _ _ hw713_1; first | rwa [add_block] at this | exact this) GW723.out)) | (show (Addr.add _ _).block ≠ _; rw [add_block]; exact Nat.ne_of_lt (Nat.lt_of_lt_of_le (by have := qL _ _ hw713_1; first | rwa [add_block] at this | exact this) GW723.out)) | (dsimp only; exact Nat.ne_of_lt (Nat.lt_of_lt_of_le (by have := qL _ _ hw713_1; first | rwa [add_block] at this | exact this) GW723.out))) _).trans (((cell_far (p := ⟨gb723, _, none⟩) (by first | exact Nat.ne_of_lt (Nat.lt_of_lt_of_le (by have := qL _ _ hw713_1; first | rwa [add_block] at this | exact this) GW723.out) | (rw [add_block]; exact Nat.ne_of_lt (Nat.lt_of_lt_of_le (by have := qL _ _ hw713_1; first | rwa [add_block] at this | exact this) GW723.out)) | (show (Addr.add _ _).block ≠ _; rw [add_block]; exact Nat.ne_of_lt (Nat.lt_of_lt_of_le (by have := qL _ _ hw713_1; first | rwa [add_block] at this | exact this) GW723.out)) | (dsimp only; exact Nat.ne_of_lt (Nat.lt_of_lt_of_le (by have := qL _ _ hw713_1; first | rwa [add_block] at this | exact this) GW723.out))) _).trans (hHeld.2.2.2.2.2.2.1)))))), ((cell_far (p := ⟨gb723, _, none⟩) (by first | exact Nat.ne_of_lt (Nat.lt_of_lt_of_le (by have := qL _ _ hw713_2; first | rwa [add_block] at this | exact this) GW723.out) | (rw [add_block]; exact Nat.ne_of_lt (Nat.lt_of_lt_of_le (by have := qL _ _ hw713_2; first | rwa [add_block] at this | exact this) GW723.out)) | (show (Addr.add _ _).block ≠ _; rw [add_block]; exact Nat.ne_of_lt (Nat.lt_of_lt_of_le (by have := qL _ _ hw713_2; first | rwa [add_block] at this | exact this) GW723.out)) | (dsimp only; exact Nat.ne_of_lt (Nat.lt_of_lt_of_le (by have := qL _ _ hw713_2; first | rwa [add_block] at this | exact this) GW723.out))) _).trans (((cell_far (p := ⟨gb723, _, none⟩) (by first | exact Nat.ne_of_lt (Nat.lt_of_lt_of_le (by have := qL _ _ hw713_2; first | rwa [add_block] at this | exact this) GW723.out) | (rw [add_block]; exact Nat.ne_of_lt (Nat.lt_of_lt_of_le (by have := qL _ _ hw713_2; first | rwa [add_block] at this | exact this) GW723.out)) | (show (Addr.add _ _).block ≠ _; rw [add_block]; exact Nat.ne_of_lt (Nat.lt_of_lt_of_le (by have := qL _ _ hw713_2; first | rwa [add_block] at this | exact this) GW723.out)) | (dsimp only; exact Nat.ne_of_lt (Nat.lt_of_lt_of_le (by have := qL _ _ hw713_2; first | rwa [add_block] at this | exact this) GW723.out))) _).trans (((cell_far (p := ⟨gb723, _, none⟩) (by first | exact Nat.ne_of_lt (Nat.lt_of_lt_of_le (by have := qL _ _ hw713_2; first | rwa [add_block] at this | exact this) GW723.out) | (rw [add_block]; exact Nat.ne_of_lt (Nat.lt_of_lt_of_le (by have := qL _ _ hw713_2; first | rwa [add_block] at this | exact this) GW723.out)) | (show (Addr.add _ _).block ≠ _; rw [add_block]; exact Nat.ne_of_lt (Nat.lt_of_lt_of_le (by have := qL _ _ hw713_2; first | rwa [add_block] at this | exact this) GW723.out)) | (dsimp only; exact Nat.ne_of_lt (Nat.lt_of_lt_of_le (by have := qL _ _ hw713_2; first | rwa [add_block] at this | exact this) GW723.out))) _).trans (hHeld.2.2.2.2.2.2.2))))))⟩ (fun hHeld => ?_)
  clear hK K
  refine pure_ (i := 16) (N := some 6) (v := ?_) (a' := ?_) #[true, true, true, true, true, true, true, true, true, true, true, true, true, true, true, true, true] rfl rfl (any_of HT_.out (by kernel_rfl)) (fun _ _ _ h => h) (Or.inl ⟨by rfl, ?_⟩) ?_ ?_
  rotate_left
  · intro w'
    go_simp
    with_reducible rfl
  rotate_left
  · simp only [Act.put, qT, qU, qV, i64_w, i32_w]
    rfl
  refine done_ (done_of HT_.out (by kernel_rfl)) ?_
  have hnb26 := NB723_710.out
  have hnc26 := NB710_723.out
  have hnb27 := NB723_711.out
  have hnc27 := NB711_723.out
  have hcz28_0 : w21.cell? ⟨gb723, 0, none⟩ = some (.int .i64 0) := (qC BK723.out 0).trans rfl
  have hcz28_1 : w21.cell? ⟨gb723, 1, none⟩ = some (.slice none 0 0) := (qC BK723.out 1).trans rfl
  have hcz28_2 : w21.cell? ⟨gb723, 2, none⟩ = some (.int .i64 0) := (qC BK723.out 2).trans rfl
  have hfz28_0 := qF BK723.out 0
  have hfz28_1 := qF BK723.out 1
  have hfz28_2 := qF BK723.out 2
  have hcz29_0 : w21.cell? ⟨gb710, 0, none⟩ = some (.int .i64 a0_0) := (qC BK710.out 0).trans rfl
  have hcz29_1 : w21.cell? ⟨gb710, 1, none⟩ = some (.slice A0_1 l0_1.length c0_1) := (qC BK710.out 1).trans rfl
  have hcz29_2 : w21.cell? ⟨gb710, 2, none⟩ = some (.int .i64 a0_2) := (qC BK710.out 2).trans rfl
  have hfz29_0 := qF BK710.out 0
  have hfz29_1 := qF BK710.out 1
  have hfz29_2 := qF BK710.out 2
  try go_wp2_with (first | ((with_reducible refine gate_callee (f := 150) rfl ?_); refine goesL_ (some 28) rfl rfl Try.func150 (by kernel_rfl) rfl #[.agg #[.int .i64 t717, .slice Ao23 t718.length co23, .int .i64 t721], .agg #[.int .i64 a0_0, .slice A0_1 l0_1.length c0_1, .int .i64 a0_2]] rfl (by (try simp only [jC, jD, jE]); first | done | rfl | (simp only [jB, jA]; rfl)) ?_; (with_reducible refine (impl_Trace_same.calls k t717 _ _ t718 t721 a0_0 _ _ l0_1 a0_2 t724 _ ?side1 ?side2 ?side3 ?side4 A9.out).mono ?_); (case side1 => refine (Kd.R_reads' (e := 117) (base := w.heap.size) (ok := fun k_ => True) (n := t718.length) (c := co23) ?_).2.2; exact (by (with_reducible repeat (first | apply Kd.R_alloc | apply Kd.R_drewN | apply Kd.R_drew)); exact (Kd.R_mono (Kd.R_far (p := ⟨gb723, 2, none⟩) (Kd.R_far (p := ⟨gb723, 1, none⟩) (Kd.R_far (p := ⟨gb723, 0, none⟩) (Kd.R_types HO720.out BK723.out (by decide)) (fun _ hk => hk.2) (.int .i64 t717)) (fun _ hk => hk.2) (.slice Ao23 t718.length co23)) (fun _ hk => hk.2) (.int .i64 t721)) (fun _ h_ => h_.1)))); (case side2 => exact (Kd.R_reads' HO720.out).2.1); (case side3 => exact qB HR0_1.out (by repeat (first | (with_reducible first | exact HB.out | apply qA | apply qN | apply qD | refine qS ?_ GE710.out | refine qS ?_ GE711.out | refine qS ?_ GE723.out) | exact HB.out))); (case side4 => exact HC0_1.out); rintro e w30 ⟨rfl, hb⟩; refine ⟨_, rfl, ?_⟩; have n0_ := qM (Kd.R_below (by (with_reducible repeat (first | apply Kd.R_alloc | apply Kd.R_drewN | apply Kd.R_drew)); exact (Kd.R_mono (Kd.R_far (p := ⟨gb723, 2, none⟩) (Kd.R_far (p := ⟨gb723, 1, none⟩) (Kd.R_far (p := ⟨gb723, 0, none⟩) (Kd.R_types HO716.out BK723.out (by decide)) (fun _ hk => hk.2) (.int .i64 t717)) (fun _ hk => hk.2) (.slice Ao23 t718.length co23)) (fun _ hk => hk.2) (.int .i64 t721)) (fun _ h_ => h_.1))) hb); have n1_ := qM (Kd.R_below (by (with_reducible repeat (first | apply Kd.R_alloc | apply Kd.R_drewN | apply Kd.R_drew)); exact (Kd.R_mono (Kd.R_far (p := ⟨gb723, 2, none⟩) (Kd.R_far (p := ⟨gb723, 1, none⟩) (Kd.R_far (p := ⟨gb723, 0, none⟩) (Kd.R_types HO720.out BK723.out (by decide)) (fun _ hk => hk.2) (.int .i64 t717)) (fun _ hk => hk.2) (.slice Ao23 t718.length co23)) (fun _ hk => hk.2) (.int .i64 t721)) (fun _ h_ => h_.1))) hb); have n2_ := qM (blk_below (g := gb710) (o := .cells #[.int .i64 a0_0, .slice A0_1 l0_1.length c0_1, .int .i64 a0_2] 87 (0, 0)) (by (with_reducible repeat (first | apply qn | apply qd | apply qa)); refine blk_far ?_ NB710_723.out _; (with_reducible repeat (first | apply qn | apply qd | apply qa)); refine blk_far ?_ NB710_723.out _; (with_reducible repeat (first | apply qn | apply qd | apply qa)); refine blk_far ?_ NB710_723.out _; (with_reducible repeat (first | apply qn | apply qd | apply qa)); exact BK710.out) hb); have n3_ := qM (blk_below (g := gb711) (o := .cells #[.slice A1_0 l1_0.length c1_0, .slice (some ad713) l1_1.length c1_1] 56 (0, 0)) (by (with_reducible repeat (first | apply qn | apply qd | apply qa)); refine blk_far ?_ NB711_723.out _; (with_reducible repeat (first | apply qn | apply qd | apply qa)); refine blk_far ?_ NB711_723.out _; (with_reducible repeat (first | apply qn | apply qd | apply qa)); refine blk_far ?_ NB711_723.out _; (with_reducible repeat (first | apply qn | apply qd | apply qa)); exact BK711.out) hb); have n4_ := qM (blk_below (g := gb723) (o := .cells #[.int .i64 t717, .slice Ao23 t718.length co23, .int .i64 t721] 87 (0, 0)) (by (with_reducible repeat (first | apply qn | apply qd | apply qa)); refine blk_put (cs := #[.int .i64 t717, .slice Ao23 t718.length co23, .int .i64 0]) ?_ 2 _ rfl; (with_reducible repeat (first | apply qn | apply qd | apply qa)); refine blk_put (cs := #[.int .i64 t717, .slice none 0 0, .int .i64 0]) ?_ 1 _ rfl; (with_reducible repeat (first | apply qn | apply qd | apply qa)); refine blk_put (cs := #[.int .i64 0, .slice none 0 0, .int .i64 0]) ?_ 0 _ rfl; (with_reducible repeat (first | apply qn | apply qd | apply qa)); exact BK723.out) hb); have n5_ := qM (qs (by repeat (first | (with_reducible first | exact HB.out | apply qA | apply qN | apply qD | refine qS ?_ GE710.out | refine qS ?_ GE711.out | refine qS ?_ GE723.out) | exact HB.out)) hb); clear HO716; clear HO720; clear BK710; clear BK711; clear BK723; clear HB; have HO716 := n0_; have HO720 := n1_; have BK710 := n2_; have BK711 := n3_; have BK723 := n4_; have HB := n5_; clear n0_ n1_ n2_ n3_ n4_ n5_; (try clear hb); (try clear hb2); (try clear hk); (try clear hi)))
  go_ret
  exact ⟨by first | rfl | (simp [errW_none, errW_some] <;> rfl) | (simp [*, errW_none, errW_some] <;> rfl), by repeat (first | (with_reducible first | exact HB.out | apply qA | apply qN | apply qD | refine qS ?_ GE710.out | refine qS ?_ GE711.out | refine qS ?_ GE723.out) | exact HB.out)⟩
end Go.Proofs.Ytgbjbpjmbghlbaa.G
end
section
namespace Go.Proofs.Ytgbjbpjmbghlbaa.G
open Go.RowKit Go.Proofs.YtgbjbpjmbghlbaaW.PrintWords Go.Proofs.YtgbjbpjmbghlbaaW.PrintLast Go.Proofs.YtgbjbpjmbghlbaaW.PrintMore
theorem impl_TracesHonest_1.calls (k : Nat) (x : S87) (Au : Option Addr) (cu : Nat) (g : Nat) (A0 : Option Addr) (c0 : Nat) (l0 : List Bool) (A1 : Option Addr) (c1 : Nat) (l1 : List S30) (r : Bool) (w : World) (hg : w.heap[g]? = some (.cells #[.slice A0 l0.length c0, .slice A1 l1.length c1] 56 (0, 0))) (hru : Kd.C k117 w Au x.f1.length x.f1) (hcu : x.f1.length ≤ cu) (hr0 : Kd.C Kd.bool w A0 l0.length l0) (hc0 : l0.length ≤ c0) (hr1 : Kd.C k30 w A1 l1.length l1) (hc1 : l1.length ≤ c1) (h : impl_Trace_honest.f k x.f0 x.f1 x.f2 l0 l1 = some r) :
    Calls Try.prog 99 #[.agg #[.int .i64 x.f0, .slice Au x.f1.length cu, .int .i64 x.f2], .pointer (some ⟨g, 0, none⟩)] w fun e w' => e = .returned (.bool (!r)) ∧ Below w.heap.size w w' := by
  have hu1 := Try.underlying87
  have hu2 := Try.underlying56
  have hg' := qa hg (.cells #[.int .i64 x.f0, .slice Au x.f1.length cu, .int .i64 x.f2] 87)
  have hk0 := (qC hg' 0).trans rfl
  have hk1 := (qC hg' 1).trans rfl
  have HC := qM (impl_Trace_honest.calls k x.f0 Au cu x.f1 x.f2 A0 c0 l0 A1 c1 l1 r (w.alloc (.cells #[.int .i64 x.f0, .slice Au x.f1.length cu, .int .i64 x.f2] 87)) (qc hru _) hcu (qc hr0 _) hc0 (qc hr1 _) hc1 h)
  have hx : (w.alloc (.cells #[.int .i64 x.f0, .slice Au x.f1.length cu, .int .i64 x.f2] 87)).cell? ⟨g, 0, none⟩ = some (.slice A0 l0.length c0) := hk0
  have hy : (w.alloc (.cells #[.int .i64 x.f0, .slice Au x.f1.length cu, .int .i64 x.f2] 87)).cell? ⟨g, 1, none⟩ = some (.slice A1 l1.length c1) := hk1
  clear hk0 hk1 hg' hg hru hcu hr0 hr1 hc0 hc1 h
  go_enter Try.func99, Try.ntmps99
  go_wp2_with fail
  with_reducible refine HC.out.mono ?_
  rintro e w1 ⟨rfl, hb⟩
  have HB := qM (Below.trans ((Below.refl w.heap.size w).alloc (Nat.le_refl _) _) (hb.mono (by simp)))
  clear hb
  go_wp2
  go_ret
  exact ⟨rfl, HB.out⟩
def impl_TracesHonest_1_any.f (k : Nat) (l0 : List S87) (m : List Bool) (ts : List S30) : Option Bool := if (∀ x ∈ l0, (impl_Trace_honest.f k x.f0 x.f1 x.f2 m ts).isSome = true) then some (l0.any fun x => !((impl_Trace_honest.f k x.f0 x.f1 x.f2 m ts).getD false)) else none
theorem impl_TracesHonest_1_any.calls (k : Nat) (A0 : Option Addr) (c0 : Nat) (l0 : List S87) (g : Nat) (A1 : Option Addr) (c1 : Nat) (l1 : List Bool) (A2 : Option Addr) (c2 : Nat) (l2 : List S30) (r : Bool) (w : World) (hg : w.heap[g]? = some (.cells #[.slice A1 l1.length c1, .slice A2 l2.length c2] 56 (0, 0))) (hr0 : Kd.C k87 w A0 l0.length l0) (hc0 : l0.length ≤ c0) (hr1 : Kd.C Kd.bool w A1 l1.length l1) (hc1 : l1.length ≤ c1) (hr2 : Kd.C k30 w A2 l2.length l2) (hc2 : l2.length ≤ c2) (h : impl_TracesHonest_1_any.f k l0 l1 l2 = some r) :
    Calls Try.prog 92 #[.slice A0 l0.length c0, .func (.func 99) #[] #[.pointer (some ⟨g, 0, none⟩)]] w fun e w' => e = .returned (.bool r) ∧ Below w.heap.size w w' := by
  unfold impl_TracesHonest_1_any.f at h
  split at h
  · rename_i hs
    obtain rfl := jF h
    refine containsFuncTrace 99 #[.pointer (some ⟨g, 0, none⟩)] _ A0 c0 l0 w hr0 (enters_fn Try.func99 (by kernel_rfl) rfl) (fun x hx cs W hb hK => ?_)
    obtain ⟨Au, cu, rfl, hcu, hru⟩ := k87_open hK
    obtain ⟨b, hbb⟩ := Option.isSome_iff_exists.1 (hs x hx)
    rw [hbb]
    exact impl_TracesHonest_1.calls k x Au cu g A1 c1 l1 A2 c2 l2 b W ((hb.block g (blk_lt hg)).trans hg) hru hcu (qB hr1 hb) hc1 (qB hr2 hb) hc2 hbb
  · cases h
end Go.Proofs.Ytgbjbpjmbghlbaa.G
end
section
namespace Go.Proofs.Ytgbjbpjmbghlbaa.G
open Go.RowKit Go.Proofs.YtgbjbpjmbghlbaaW.PrintWords Go.Proofs.YtgbjbpjmbghlbaaW.PrintLast Go.Proofs.YtgbjbpjmbghlbaaW.PrintMore
attribute [local go_sem] max2_int min2_int max_two min_two max_three min_three max_four min_four
def impl_TracesHonest.f (k : Nat) (l0_0 : List Bool) (l0_1 : List (S30)) (l1 : List (S87)) : Option (Bool) := (impl_SheetOk.f k l0_0 l0_1).bind fun t726 => (if t726 = true then ((impl_TracesOk.f l1).bind fun t727 => (if t727 = true then ((impl_TracesHonest_1_any.f k l1 l0_0 l0_1).bind fun t728 => (some (!t728))) else (some false))) else (some false))
theorem impl_TracesHonest.calls (k : Nat) (A0_0 : Option Addr) (c0_0 : Nat) (l0_0 : List Bool) (A0_1 : Option Addr) (c0_1 : Nat) (l0_1 : List (S30)) (A1 : Option Addr) (c1 : Nat) (l1 : List (S87)) (r : Bool) (w : World) (hr0_0 : Kd.C Kd.bool w A0_0 l0_0.length l0_0) (hc0_0 : l0_0.length ≤ c0_0) (hr0_1 : Kd.C k30 w A0_1 l0_1.length l0_1) (hc0_1 : l0_1.length ≤ c0_1) (hr1 : Kd.C k87 w A1 l1.length l1) (hc1 : l1.length ≤ c1) (h : impl_TracesHonest.f k l0_0 l0_1 l1 = some r) :
    Calls Try.prog 43 #[.agg #[.slice A0_0 l0_0.length c0_0, .slice A0_1 l0_1.length c0_1], .slice A1 l1.length c1] w fun e w' => e = .returned (.bool r) ∧ Below w.heap.size w w' := by
  have hu56 := Try.underlying56
  have hmf : ∀ (fn : Fn) (first cap : Array Value) (W : World), (Instr.makeFunc fn first cap).run Try.prog W = .ok (.func fn first cap) W := fun _ _ _ _ => rfl
  have HR0_0 := qM hr0_0
  have HC0_0 := qM hc0_0
  clear hr0_0 hc0_0
  have HR0_1 := qM hr0_1
  have HC0_1 := qM hc0_1
  clear hr0_1 hc0_1
  have HR1 := qM hr1
  have HC1 := qM hc1
  clear hr1 hc1
  have HB := qM (Below.refl w.heap.size w)
  have H : ((impl_SheetOk.f k l0_0 l0_1).bind fun t726 => (if t726 = true then ((impl_TracesOk.f l1).bind fun t727 => (if t727 = true then ((impl_TracesHonest_1_any.f k l1 l0_0 l0_1).bind fun t728 => (some (!t728))) else (some false))) else (some false))) = some r := h
  clear h
  replace H := jG H
  obtain ⟨t726, A30, H⟩ := H
  replace H : (if t726 = true then ((impl_TracesOk.f l1).bind fun t727 => (if t727 = true then ((impl_TracesHonest_1_any.f k l1 l0_0 l0_1).bind fun t728 => (some (!t728))) else (some false))) else (some false)) = some r := H
  have A3 := qM A30
  clear A30
  by_cases c4 : t726 = true
  rotate_left
  · replace c4 := Bool.eq_false_iff.mpr c4
    subst c4
    have H1 : (some false) = some r := by rw [if_neg (show ¬ (false = true) by decide)] at H; exact H
    clear H
    have H := H1
    clear H1
    obtain rfl := jF H
    go_enter Try.func43, Try.ntmps43
    go_wp2_with (first | ((with_reducible refine gate_dst (N := 2) rfl ?_); refine box_event ?hg (N := 2) ?hd (cs := #[.slice A0_0 l0_0.length c0_0, .slice A0_1 l0_1.length c0_1]) (t := 56) ?hr ?_; (case hd => rfl); (case hg => rfl); (case hr => first | (go_simp; done) | (go_simp; rfl)); intro gb725 hg w17 hbox hb; have n0_ := qM (qs (by repeat (first | (with_reducible first | exact HB.out | apply qA | apply qN | apply qD) | exact HB.out)) hb); have n1_ := qM (hbox); have n2_ := qM ((by rw [hg]; exact (qz (by repeat (first | (with_reducible first | exact HB.out | apply qA | apply qN | apply qD) | exact HB.out))) : w.heap.size ≤ gb725)); have n3_ := qM ((by rw [hg]; exact (qz (by repeat (first | (with_reducible first | exact HB.out | apply qA | apply qN | apply qD) | exact HB.out))) : w.heap.size ≤ gb725)); clear HB; have HB := n0_; have BK725 := n1_; have GW725 := n2_; have GE725 := n3_; clear n0_ n1_ n2_ n3_; clear hb hbox hg; have hcz18_0 : w17.cell? ⟨gb725, 0, none⟩ = some (.slice A0_0 l0_0.length c0_0) := (qC BK725.out 0).trans rfl; have hcz18_1 : w17.cell? ⟨gb725, 1, none⟩ = some (.slice A0_1 l0_1.length c0_1) := (qC BK725.out 1).trans rfl; have hfz18_0 := qF BK725.out 0; have hfz18_1 := qF BK725.out 1) | ((with_reducible refine gate_callee (f := 90) rfl ?_); refine goesL_ (some 6) rfl rfl Try.func90 (by kernel_rfl) rfl #[.agg #[.slice A0_0 l0_0.length c0_0, .slice A0_1 l0_1.length c0_1]] rfl (by (try simp only [jC, jD, jE]); first | done | rfl | (simp only [jB, jA]; rfl)) ?_; (with_reducible refine (impl_SheetOk.calls k _ _ l0_0 _ _ l0_1 false _ ?side1 ?side2 ?side3 ?side4 A3.out).mono ?_); (case side1 => repeat (first | exact (qB HR0_0.out HB.out) | (with_reducible refine qc ?_ _) | (with_reducible refine qe ?_ _) | (with_reducible refine qf ?_))); (case side2 => exact HC0_0.out); (case side3 => repeat (first | exact (qB HR0_1.out HB.out) | (with_reducible refine qc ?_ _) | (with_reducible refine qe ?_ _) | (with_reducible refine qf ?_))); (case side4 => exact HC0_1.out); rintro e w19 ⟨rfl, hb⟩; refine ⟨_, rfl, ?_⟩; have n0_ := qM (blk_below (g := gb725) (o := .cells #[.slice A0_0 l0_0.length c0_0, .slice A0_1 l0_1.length c0_1] 56 (0, 0)) (by (with_reducible repeat (first | apply qn | apply qd | apply qa)); exact BK725.out) hb); have n1_ := qM (qs (by repeat (first | (with_reducible first | exact HB.out | apply qA | apply qN | apply qD | refine qS ?_ GE725.out) | exact HB.out)) hb); clear BK725; clear HB; have BK725 := n0_; have HB := n1_; clear n0_ n1_; (try clear hb); (try clear hb2); (try clear hk); (try clear hi)))
    go_ret
    exact ⟨by first | rfl | (simp [errW_none, errW_some] <;> rfl) | (simp [*, errW_none, errW_some] <;> rfl), by repeat (first | (with_reducible first | exact HB.out | apply qA | apply qN | apply qD | refine qS ?_ GE725.out) | exact HB.out)⟩
  subst c4
  have H1 : ((impl_TracesOk.f l1).bind fun t727 => (if t727 = true then ((impl_TracesHonest_1_any.f k l1 l0_0 l0_1).bind fun t728 => (some (!t728))) else (some false))) = some r := by rw [if_pos rfl] at H; exact H
  clear H
  have H := H1
  clear H1
  replace H := jG H
  obtain ⟨t727, A50, H⟩ := H
  replace H : (if t727 = true then ((impl_TracesHonest_1_any.f k l1 l0_0 l0_1).bind fun t728 => (some (!t728))) else (some false)) = some r := H
  have A5 := qM A50
  clear A50
  by_cases c6 : t727 = true
  rotate_left
  · replace c6 := Bool.eq_false_iff.mpr c6
    subst c6
    have H1 : (some false) = some r := by rw [if_neg (show ¬ (false = true) by decide)] at H; exact H
    clear H
    have H := H1
    clear H1
    obtain rfl := jF H
    go_enter Try.func43, Try.ntmps43
    go_wp2_with (first | ((with_reducible refine gate_dst (N := 2) rfl ?_); refine box_event ?hg (N := 2) ?hd (cs := #[.slice A0_0 l0_0.length c0_0, .slice A0_1 l0_1.length c0_1]) (t := 56) ?hr ?_; (case hd => rfl); (case hg => rfl); (case hr => first | (go_simp; done) | (go_simp; rfl)); intro gb725 hg w13 hbox hb; have n0_ := qM (qs (by repeat (first | (with_reducible first | exact HB.out | apply qA | apply qN | apply qD) | exact HB.out)) hb); have n1_ := qM (hbox); have n2_ := qM ((by rw [hg]; exact (qz (by repeat (first | (with_reducible first | exact HB.out | apply qA | apply qN | apply qD) | exact HB.out))) : w.heap.size ≤ gb725)); have n3_ := qM ((by rw [hg]; exact (qz (by repeat (first | (with_reducible first | exact HB.out | apply qA | apply qN | apply qD) | exact HB.out))) : w.heap.size ≤ gb725)); clear HB; have HB := n0_; have BK725 := n1_; have GW725 := n2_; have GE725 := n3_; clear n0_ n1_ n2_ n3_; clear hb hbox hg; have hcz14_0 : w13.cell? ⟨gb725, 0, none⟩ = some (.slice A0_0 l0_0.length c0_0) := (qC BK725.out 0).trans rfl; have hcz14_1 : w13.cell? ⟨gb725, 1, none⟩ = some (.slice A0_1 l0_1.length c0_1) := (qC BK725.out 1).trans rfl; have hfz14_0 := qF BK725.out 0; have hfz14_1 := qF BK725.out 1) | ((with_reducible refine gate_callee (f := 90) rfl ?_); refine goesL_ (some 6) rfl rfl Try.func90 (by kernel_rfl) rfl #[.agg #[.slice A0_0 l0_0.length c0_0, .slice A0_1 l0_1.length c0_1]] rfl (by (try simp only [jC, jD, jE]); first | done | rfl | (simp only [jB, jA]; rfl)) ?_; (with_reducible refine (impl_SheetOk.calls k _ _ l0_0 _ _ l0_1 true _ ?side1 ?side2 ?side3 ?side4 A3.out).mono ?_); (case side1 => repeat (first | exact (qB HR0_0.out HB.out) | (with_reducible refine qc ?_ _) | (with_reducible refine qe ?_ _) | (with_reducible refine qf ?_))); (case side2 => exact HC0_0.out); (case side3 => repeat (first | exact (qB HR0_1.out HB.out) | (with_reducible refine qc ?_ _) | (with_reducible refine qe ?_ _) | (with_reducible refine qf ?_))); (case side4 => exact HC0_1.out); rintro e w15 ⟨rfl, hb⟩; refine ⟨_, rfl, ?_⟩; have n0_ := qM (blk_below (g := gb725) (o := .cells #[.slice A0_0 l0_0.length c0_0, .slice A0_1 l0_1.length c0_1] 56 (0, 0)) (by (with_reducible repeat (first | apply qn | apply qd | apply qa)); exact BK725.out) hb); have n1_ := qM (qs (by repeat (first | (with_reducible first | exact HB.out | apply qA | apply qN | apply qD | refine qS ?_ GE725.out) | exact HB.out)) hb); clear BK725; clear HB; have BK725 := n0_; have HB := n1_; clear n0_ n1_; (try clear hb); (try clear hb2); (try clear hk); (try clear hi)) | (go_at_call 63; (with_reducible refine (impl_TracesOk.calls _ _ l1 false _ ?side1 ?side2 A5.out).mono ?_); (case side1 => repeat (first | exact (qB HR1.out HB.out) | (with_reducible refine qc ?_ _) | (with_reducible refine qe ?_ _) | (with_reducible refine qf ?_))); (case side2 => exact HC1.out); rintro e w16 ⟨rfl, hb⟩; have n0_ := qM (blk_below (g := gb725) (o := .cells #[.slice A0_0 l0_0.length c0_0, .slice A0_1 l0_1.length c0_1] 56 (0, 0)) (by (with_reducible repeat (first | apply qn | apply qd | apply qa)); exact BK725.out) hb); have n1_ := qM (qs (by repeat (first | (with_reducible first | exact HB.out | apply qA | apply qN | apply qD | refine qS ?_ GE725.out) | exact HB.out)) hb); clear BK725; clear HB; have BK725 := n0_; have HB := n1_; clear n0_ n1_; (try clear hb); (try clear hb2); (try clear hk); (try clear hi)))
    go_ret
    exact ⟨by first | rfl | (simp [errW_none, errW_some] <;> rfl) | (simp [*, errW_none, errW_some] <;> rfl), by repeat (first | (with_reducible first | exact HB.out | apply qA | apply qN | apply qD | refine qS ?_ GE725.out) | exact HB.out)⟩
  subst c6
  have H1 : ((impl_TracesHonest_1_any.f k l1 l0_0 l0_1).bind fun t728 => (some (!t728))) = some r := by rw [if_pos rfl] at H; exact H
  clear H
  have H := H1
  clear H1
  replace H := jG H
  obtain ⟨t728, A70, H⟩ := H
  replace H : (some (!t728)) = some r := H
  have A7 := qM A70
  clear A70
  obtain rfl := jF H
  go_enter Try.func43, Try.ntmps43
  go_wp2_with (first | ((with_reducible refine gate_dst (N := 2) rfl ?_); refine box_event ?hg (N := 2) ?hd (cs := #[.slice A0_0 l0_0.length c0_0, .slice A0_1 l0_1.length c0_1]) (t := 56) ?hr ?_; (case hd => rfl); (case hg => rfl); (case hr => first | (go_simp; done) | (go_simp; rfl)); intro gb725 hg w8 hbox hb; have n0_ := qM (qs (by repeat (first | (with_reducible first | exact HB.out | apply qA | apply qN | apply qD) | exact HB.out)) hb); have n1_ := qM (hbox); have n2_ := qM ((by rw [hg]; exact (qz (by repeat (first | (with_reducible first | exact HB.out | apply qA | apply qN | apply qD) | exact HB.out))) : w.heap.size ≤ gb725)); have n3_ := qM ((by rw [hg]; exact (qz (by repeat (first | (with_reducible first | exact HB.out | apply qA | apply qN | apply qD) | exact HB.out))) : w.heap.size ≤ gb725)); clear HB; have HB := n0_; have BK725 := n1_; have GW725 := n2_; have GE725 := n3_; clear n0_ n1_ n2_ n3_; clear hb hbox hg; have hcz9_0 : w8.cell? ⟨gb725, 0, none⟩ = some (.slice A0_0 l0_0.length c0_0) := (qC BK725.out 0).trans rfl; have hcz9_1 : w8.cell? ⟨gb725, 1, none⟩ = some (.slice A0_1 l0_1.length c0_1) := (qC BK725.out 1).trans rfl; have hfz9_0 := qF BK725.out 0; have hfz9_1 := qF BK725.out 1) | ((with_reducible refine gate_callee (f := 90) rfl ?_); refine goesL_ (some 6) rfl rfl Try.func90 (by kernel_rfl) rfl #[.agg #[.slice A0_0 l0_0.length c0_0, .slice A0_1 l0_1.length c0_1]] rfl (by (try simp only [jC, jD, jE]); first | done | rfl | (simp only [jB, jA]; rfl)) ?_; (with_reducible refine (impl_SheetOk.calls k _ _ l0_0 _ _ l0_1 true _ ?side1 ?side2 ?side3 ?side4 A3.out).mono ?_); (case side1 => repeat (first | exact (qB HR0_0.out HB.out) | (with_reducible refine qc ?_ _) | (with_reducible refine qe ?_ _) | (with_reducible refine qf ?_))); (case side2 => exact HC0_0.out); (case side3 => repeat (first | exact (qB HR0_1.out HB.out) | (with_reducible refine qc ?_ _) | (with_reducible refine qe ?_ _) | (with_reducible refine qf ?_))); (case side4 => exact HC0_1.out); rintro e w10 ⟨rfl, hb⟩; refine ⟨_, rfl, ?_⟩; have n0_ := qM (blk_below (g := gb725) (o := .cells #[.slice A0_0 l0_0.length c0_0, .slice A0_1 l0_1.length c0_1] 56 (0, 0)) (by (with_reducible repeat (first | apply qn | apply qd | apply qa)); exact BK725.out) hb); have n1_ := qM (qs (by repeat (first | (with_reducible first | exact HB.out | apply qA | apply qN | apply qD | refine qS ?_ GE725.out) | exact HB.out)) hb); clear BK725; clear HB; have BK725 := n0_; have HB := n1_; clear n0_ n1_; (try clear hb); (try clear hb2); (try clear hk); (try clear hi)) | (go_at_call 63; (with_reducible refine (impl_TracesOk.calls _ _ l1 true _ ?side1 ?side2 A5.out).mono ?_); (case side1 => repeat (first | exact (qB HR1.out HB.out) | (with_reducible refine qc ?_ _) | (with_reducible refine qe ?_ _) | (with_reducible refine qf ?_))); (case side2 => exact HC1.out); rintro e w11 ⟨rfl, hb⟩; have n0_ := qM (blk_below (g := gb725) (o := .cells #[.slice A0_0 l0_0.length c0_0, .slice A0_1 l0_1.length c0_1] 56 (0, 0)) (by (with_reducible repeat (first | apply qn | apply qd | apply qa)); exact BK725.out) hb); have n1_ := qM (qs (by repeat (first | (with_reducible first | exact HB.out | apply qA | apply qN | apply qD | refine qS ?_ GE725.out) | exact HB.out)) hb); clear BK725; clear HB; have BK725 := n0_; have HB := n1_; clear n0_ n1_; (try clear hb); (try clear hb2); (try clear hk); (try clear hi)) | (go_at_call 92; (with_reducible refine (impl_TracesHonest_1_any.calls k _ _ l1 gb725 A0_0 c0_0 l0_0 A0_1 c0_1 l0_1 t728 _ ?side1 ?side2 ?side3 ?side4 ?side5 ?side6 ?side7 A7.out).mono ?_); (case side1 => (with_reducible repeat (first | apply qn | apply qd | apply qa)); exact BK725.out); (case side2 => repeat (first | exact (qB HR1.out HB.out) | (with_reducible refine qc ?_ _) | (with_reducible refine qe ?_ _) | (with_reducible refine qf ?_))); (case side3 => exact HC1.out); (case side4 => repeat (first | exact (qB HR0_0.out HB.out) | (with_reducible refine qc ?_ _) | (with_reducible refine qe ?_ _) | (with_reducible refine qf ?_))); (case side5 => exact HC0_0.out); (case side6 => repeat (first | exact (qB HR0_1.out HB.out) | (with_reducible refine qc ?_ _) | (with_reducible refine qe ?_ _) | (with_reducible refine qf ?_))); (case side7 => exact HC0_1.out); rintro e w12 ⟨rfl, hb⟩; have n0_ := qM (blk_below (g := gb725) (o := .cells #[.slice A0_0 l0_0.length c0_0, .slice A0_1 l0_1.length c0_1] 56 (0, 0)) (by (with_reducible repeat (first | apply qn | apply qd | apply qa)); exact BK725.out) hb); have n1_ := qM (qs (by repeat (first | (with_reducible first | exact HB.out | apply qA | apply qN | apply qD | refine qS ?_ GE725.out) | exact HB.out)) hb); clear BK725; clear HB; have BK725 := n0_; have HB := n1_; clear n0_ n1_; (try clear hb); (try clear hb2); (try clear hk); (try clear hi)))
  go_ret
  exact ⟨by first | rfl | (simp [errW_none, errW_some] <;> rfl) | (simp [*, errW_none, errW_some] <;> rfl), by repeat (first | (with_reducible first | exact HB.out | apply qA | apply qN | apply qD | refine qS ?_ GE725.out) | exact HB.out)⟩
end Go.Proofs.Ytgbjbpjmbghlbaa.G
end
section
namespace Go.Proofs.Ytgbjbpjmbghlbaa.G
open Go.RowKit Go.Proofs.YtgbjbpjmbghlbaaW.PrintWords
def OwnI {α : Type} (d : Kd α) (e : Nat) (W0 W : World) (lo hi : Nat) (v : Value) (xs : List α) : Prop := W0.heap.size ≤ lo ∧ hi ≤ W.heap.size ∧ Kd.R d e W W0.heap.size (fun k => lo ≤ k ∧ k < hi) v xs
def OwnS {α : Type} (d : Kd α) (e : Nat) (W0 W : World) (lo hi : Nat) (v : Value) (xs : List α) : Prop := W0.heap.size ≤ lo ∧ hi ≤ W.heap.size ∧ Kd.S d e W W0.heap.size (fun k => lo ≤ k ∧ k < hi) v xs
section
variable {α : Type} {d : Kd α} {e : Nat} {W0 W W' : World} {lo hi lo' hi' : Nat} {ok : Nat → Prop} {v : Value} {xs : List α}
theorem OwnI.new (hB : W0.heap.size ≤ W.heap.size) (hl : W.heap.size ≤ W'.heap.size) (ho : Kd.R d e W' W.heap.size ok v xs) : OwnI d e W0 W' W.heap.size W'.heap.size v xs :=
  ⟨hB, Nat.le_refl _, Kd.R_lower (Kd.R_mono (Kd.R_bound ho) (fun k hk => ⟨hk.2.1, hk.2.2.1⟩)) hB⟩
theorem OwnS.new (hB : W0.heap.size ≤ W.heap.size) (hl : W.heap.size ≤ W'.heap.size) (ho : Kd.S d e W' W.heap.size ok v xs) : OwnS d e W0 W' W.heap.size W'.heap.size v xs :=
  ⟨hB, Nat.le_refl _, Kd.S_lower (Kd.S_mono (Kd.S_bound ho) (fun k hk => ⟨hk.2.1, hk.2.2.1⟩)) hB⟩
theorem OwnI.below (h : OwnI d e W0 W lo hi v xs) (hb : Below W.heap.size W W') : OwnI d e W0 W' lo hi v xs := ⟨h.1, Nat.le_trans h.2.1 hb.size, Kd.R_below h.2.2 hb⟩
theorem OwnS.below (h : OwnS d e W0 W lo hi v xs) (hb : Below W.heap.size W W') : OwnS d e W0 W' lo hi v xs := ⟨h.1, Nat.le_trans h.2.1 hb.size, Kd.S_below h.2.2 hb⟩
theorem OwnI.slice (h : OwnI d e W0 W lo hi v xs) : ∃ A c, v = .slice A xs.length c := Kd.R_slice h.2.2
theorem OwnS.slice (h : OwnS d e W0 W lo hi v xs) : ∃ A c, v = .slice A xs.length c := Kd.S_slice h.2.2
theorem OwnI.C {A : Option Addr} {n c : Nat} (h : OwnI d e W0 W lo hi (.slice A n c) xs) : d.C W A xs.length xs := (Kd.R_reads' h.2.2).2.2
theorem OwnS.C {A : Option Addr} {n c : Nat} (h : OwnS d e W0 W lo hi (.slice A n c) xs) : d.C W A xs.length xs := (Kd.S_reads' h.2.2).2.2
theorem OwnI.room {A : Option Addr} {n c : Nat} (h : OwnI d e W0 W lo hi (.slice A n c) xs) : xs.length ≤ c := by have h1 := Kd.R_reads' h.2.2; omega
theorem OwnS.room {A : Option Addr} {n c : Nat} (h : OwnS d e W0 W lo hi (.slice A n c) xs) : xs.length ≤ c := by have h1 := Kd.S_reads' h.2.2; omega
end
end Go.Proofs.Ytgbjbpjmbghlbaa.G
end
section
namespace Go.Proofs.Ytgbjbpjmbghlbaa.G
open Go.RowKit Go.Proofs.YtgbjbpjmbghlbaaW.PrintWords Go.Proofs.YtgbjbpjmbghlbaaW.PrintLast Go.Proofs.YtgbjbpjmbghlbaaW.PrintMore
theorem lw_FnExactTracesHonest (A0_0 : Option Addr) (c0_0 : Nat) (l0_0 : List (Bool)) (A0_1 : Option Addr) (c0_1 : Nat) (l0_1 : List (S24)) (A1 : Option Addr) (c1 : Nat) (l1 : List (S81)) (w : World) (hr0_0 : Kd.C Kd.bool w A0_0 l0_0.length l0_0) (hc0_0 : l0_0.length ≤ c0_0) (hr0_1 : Kd.C k24 w A0_1 l0_1.length l0_1) (hc0_1 : l0_1.length ≤ c0_1) (hr1 : Kd.C k81 w A1 l1.length l1) (hc1 : l1.length ≤ c1)  (r1 : Int) (r2 : Int) (r3 : List Bool) (r4 : List (S30)) (r5 : List (S87)) (r6 : Bool) (K1 : Nat) (H1 : laws_szSheet.f K1 l0_0 l0_1 1048576 = some r1) (K2 : Nat) (H2 : laws_szTraceS.f K2 l1 r1 = some r2) (K3 : Nat) (H3 : laws_toSheet.f K3 l0_0 l0_1 = some (r3, r4)) (K4 : Nat) (H4 : laws_toTraceS.f K4 l1 = some r5) (K5 : Nat) (H5 : spec_TracesHonest.f K5 r3 r4 r5 = some r6) (K6 : Nat) (H6 : impl_TracesHonest.f K6 r3 r4 r5 = some r6) (K7 : Nat) (H7 : laws_eqSheet.f K7 r3 r4 r3 r4 = some true) (K8 : Nat) (H8 : laws_eqTraceS.f K8 r5 r5 = some true) (hx_1 : 0 ≤ r1) (hx_2 : 0 ≤ r2) :
   Calls Try.prog 7 #[.agg #[.slice A0_0 l0_0.length c0_0, .slice A0_1 l0_1.length c0_1], .slice A1 l1.length c1] w fun e w' => e = .returned (.bool true) ∧ Below w.heap.size w w' := by
 have hu48 := Try.underlying48
 have hu56 := Try.underlying56
 have HR0_0 := qM hr0_0
 have HC0_0 := qM hc0_0
 clear hr0_0 hc0_0
 have HR0_1 := qM hr0_1
 have HC0_1 := qM hc0_1
 clear hr0_1 hc0_1
 have HR1 := qM hr1
 have HC1 := qM hc1
 clear hr1 hc1
 have G1 := qM H1
 clear H1
 have G2 := qM H2
 clear H2
 have G3 := qM H3
 clear H3
 have G4 := qM H4
 clear H4
 have G5 := qM H5
 clear H5
 have G6 := qM H6
 clear H6
 have G7 := qM H7
 clear H7
 have G8 := qM H8
 clear H8
 have HX1 := qM hx_1
 have HX2 := qM hx_2
 have hd_1 : decide (r1 < 0) = false := decide_eq_false (by omega)
 have hd_2 : decide (r2 < 0) = false := decide_eq_false (by omega)
 clear hx_1 hx_2
 have HB := qM (Below.refl w.heap.size w)
 go_enter Try.func7, Try.ntmps7
 have hx1 : (w.alloc (.cells #[.slice A0_0 l0_0.length c0_0, .slice A0_1 l0_1.length c0_1] 48)).cell? ⟨w.heap.size, 0, none⟩ = some (.slice A0_0 l0_0.length c0_0) := (qC (show (w.alloc (.cells #[.slice A0_0 l0_0.length c0_0, .slice A0_1 l0_1.length c0_1] 48)).heap[w.heap.size]? = some (.cells #[.slice A0_0 l0_0.length c0_0, .slice A0_1 l0_1.length c0_1] 48 (0, 0)) from by have h_ := heap_alloc_new w (.cells #[.slice A0_0 l0_0.length c0_0, .slice A0_1 l0_1.length c0_1] 48); simpa using h_) 0).trans rfl
 have hx2 : (w.alloc (.cells #[.slice A0_0 l0_0.length c0_0, .slice A0_1 l0_1.length c0_1] 48)).cell? ⟨w.heap.size, 1, none⟩ = some (.slice A0_1 l0_1.length c0_1) := (qC (show (w.alloc (.cells #[.slice A0_0 l0_0.length c0_0, .slice A0_1 l0_1.length c0_1] 48)).heap[w.heap.size]? = some (.cells #[.slice A0_0 l0_0.length c0_0, .slice A0_1 l0_1.length c0_1] 48 (0, 0)) from by have h_ := heap_alloc_new w (.cells #[.slice A0_0 l0_0.length c0_0, .slice A0_1 l0_1.length c0_1] 48); simpa using h_) 1).trans rfl
 have CK := qM (laws_szSheet.calls K1 A0_0 c0_0 l0_0 A0_1 c0_1 l0_1 1048576 r1 (w.alloc (.cells #[.slice A0_0 l0_0.length c0_0, .slice A0_1 l0_1.length c0_1] 48)) (qB HR0_0.out (qA HB.out _)) HC0_0.out (qB HR0_1.out (qA HB.out _)) HC0_1.out G1.out)
 go_wp2_with fail
 with_reducible refine CK.out.mono ?_
 rintro e w3 ⟨rfl, hb0⟩
 have hb := hb0
 clear CK hb0
 clear hx1 hx2
 have hW_ : Below w.heap.size w w3 := (qA (Below.refl w.heap.size w) _).trans (hb.mono (qA (Below.refl w.heap.size w) _).size)
 have SZ1 := qM (Nat.le_trans (Nat.succ_le_of_lt (blk_lt (show (w.alloc (.cells #[.slice A0_0 l0_0.length c0_0, .slice A0_1 l0_1.length c0_1] 48)).heap[w.heap.size]? = some (.cells #[.slice A0_0 l0_0.length c0_0, .slice A0_1 l0_1.length c0_1] 48 (0, 0)) from by have h_ := heap_alloc_new w (.cells #[.slice A0_0 l0_0.length c0_0, .slice A0_1 l0_1.length c0_1] 48); simpa using h_)) : w.heap.size + 1 ≤ (w.alloc (.cells #[.slice A0_0 l0_0.length c0_0, .slice A0_1 l0_1.length c0_1] 48)).heap.size) hb.size)
 have SS1 := SZ1
 clear SZ1
 have BX0 := qM ((hb.block _ (blk_lt (show (w.alloc (.cells #[.slice A0_0 l0_0.length c0_0, .slice A0_1 l0_1.length c0_1] 48)).heap[w.heap.size]? = some (.cells #[.slice A0_0 l0_0.length c0_0, .slice A0_1 l0_1.length c0_1] 48 (0, 0)) from by have h_ := heap_alloc_new w (.cells #[.slice A0_0 l0_0.length c0_0, .slice A0_1 l0_1.length c0_1] 48); simpa using h_))).trans (show (w.alloc (.cells #[.slice A0_0 l0_0.length c0_0, .slice A0_1 l0_1.length c0_1] 48)).heap[w.heap.size]? = some (.cells #[.slice A0_0 l0_0.length c0_0, .slice A0_1 l0_1.length c0_1] 48 (0, 0)) from by have h_ := heap_alloc_new w (.cells #[.slice A0_0 l0_0.length c0_0, .slice A0_1 l0_1.length c0_1] 48); simpa using h_))
 replace HB := qM (HB.out.trans (hW_.mono HB.out.size))
 clear hb hW_
 have CK := qM (laws_szTraceS.calls K2 A1 c1 l1 r1 r2 w3 (qB HR1.out HB.out) HC1.out G2.out)
 go_wp2_with fail
 with_reducible refine CK.out.mono ?_
 rintro e w4 ⟨rfl, hb0⟩
 have hb := hb0
 clear CK hb0
 have hW_ := hb
 have SZ2 := qM hb.size
 have SS2 := qM (And.intro SZ2.out SS1.out)
 clear SS1
 clear SZ2
 replace BX0 := qM ((hb.block _ (blk_lt BX0.out)).trans BX0.out)
 replace HB := qM (HB.out.trans (hW_.mono HB.out.size))
 clear hb hW_
 have hx5 : w4.cell? ⟨w.heap.size, 0, none⟩ = some (.slice A0_0 l0_0.length c0_0) := (qC BX0.out 0).trans rfl
 have hx6 : w4.cell? ⟨w.heap.size, 1, none⟩ = some (.slice A0_1 l0_1.length c0_1) := (qC BX0.out 1).trans rfl
 have CK := qM (laws_toSheet.calls K3 A0_0 c0_0 l0_0 A0_1 c0_1 l0_1 r3 r4 w4 (qB HR0_0.out HB.out) HC0_0.out (qB HR0_1.out HB.out) HC0_1.out G3.out)
 go_wp2_with fail
 with_reducible refine CK.out.mono ?_
 rintro e w7 ⟨v0_, v1_, rfl, ho0, ho1, hb0⟩
 have hb := hb0
 clear CK hb0
 clear hx5 hx6
 have hW_ := hb
 replace BX0 := qM ((hb.block _ (blk_lt BX0.out)).trans BX0.out)
 obtain ⟨lo1, elo1⟩ : ∃ n_, w4.heap.size = n_ := ⟨_, rfl⟩
 obtain ⟨hi1, ehi1⟩ : ∃ n_, w7.heap.size = n_ := ⟨_, rfl⟩
 have hn_0 := OwnI.new (W0 := w) HB.out.size hb.size ho0
 rw [elo1, ehi1] at hn_0
 obtain ⟨Ao8, co8, rfl⟩ := hn_0.slice
 have HOo8 := qM hn_0
 clear hn_0 ho0
 have hn_1 := OwnI.new (W0 := w) HB.out.size hb.size ho1
 rw [elo1, ehi1] at hn_1
 obtain ⟨Ao9, co9, rfl⟩ := hn_1.slice
 have HOo9 := qM hn_1
 clear hn_1 ho1
 have SP1 := qM (And.intro (by have h_ := hb.size; rw [elo1, ehi1] at h_; exact h_ : lo1 ≤ hi1) (And.intro (Nat.le_of_eq elo1 : w4.heap.size ≤ lo1) (Nat.le_of_eq ehi1.symm : hi1 ≤ w7.heap.size)))
 have SS3 := qM (And.intro SP1.out SS2.out)
 clear SS2
 clear SP1
 replace HB := qM (HB.out.trans (hW_.mono HB.out.size))
 clear hb hW_ elo1 ehi1
 have CK := qM (laws_toTraceS.calls K4 A1 c1 l1 r5 w7 (qB HR1.out HB.out) HC1.out G4.out)
 go_wp2_with fail
 with_reducible refine CK.out.mono ?_
 rintro e w10 ⟨v0_, rfl, ho0, hb0⟩
 have hb := hb0
 clear CK hb0
 have hW_ := hb
 replace BX0 := qM ((hb.block _ (blk_lt BX0.out)).trans BX0.out)
 replace HOo8 := qM (HOo8.out.below hW_)
 replace HOo9 := qM (HOo9.out.below hW_)
 obtain ⟨lo2, elo2⟩ : ∃ n_, w7.heap.size = n_ := ⟨_, rfl⟩
 obtain ⟨hi2, ehi2⟩ : ∃ n_, w10.heap.size = n_ := ⟨_, rfl⟩
 have hn_0 := OwnS.new (W0 := w) HB.out.size hb.size ho0
 rw [elo2, ehi2] at hn_0
 obtain ⟨Ao11, co11, rfl⟩ := hn_0.slice
 have HOo11 := qM hn_0
 clear hn_0 ho0
 have SP2 := qM (And.intro (by have h_ := hb.size; rw [elo2, ehi2] at h_; exact h_ : lo2 ≤ hi2) (And.intro (Nat.le_of_eq elo2 : w7.heap.size ≤ lo2) (Nat.le_of_eq ehi2.symm : hi2 ≤ w10.heap.size)))
 have SS4 := qM (And.intro SP2.out SS3.out)
 clear SS3
 clear SP2
 replace HB := qM (HB.out.trans (hW_.mono HB.out.size))
 clear hb hW_ elo2 ehi2
 have CK := qM (spec_TracesHonest.calls K5 Ao8 co8 r3 Ao9 co9 r4 Ao11 co11 r5 r6 w10 HOo8.out.C HOo8.out.room HOo9.out.C HOo9.out.room HOo11.out.C HOo11.out.room G5.out)
 go_wp2_with fail
 with_reducible refine CK.out.mono ?_
 rintro e w12 ⟨rfl, hb0⟩
 have hb := hb0
 clear CK hb0
 have hW_ := hb
 have SZ3 := qM hb.size
 have SS5 := qM (And.intro SZ3.out SS4.out)
 clear SS4
 clear SZ3
 replace BX0 := qM ((hb.block _ (blk_lt BX0.out)).trans BX0.out)
 replace HOo8 := qM (HOo8.out.below hW_)
 replace HOo9 := qM (HOo9.out.below hW_)
 replace HOo11 := qM (HOo11.out.below hW_)
 replace HB := qM (HB.out.trans (hW_.mono HB.out.size))
 clear hb hW_
 have hx13 : w12.cell? ⟨w.heap.size, 0, none⟩ = some (.slice A0_0 l0_0.length c0_0) := (qC BX0.out 0).trans rfl
 have hx14 : w12.cell? ⟨w.heap.size, 1, none⟩ = some (.slice A0_1 l0_1.length c0_1) := (qC BX0.out 1).trans rfl
 have CK := qM (laws_toSheet.calls K3 A0_0 c0_0 l0_0 A0_1 c0_1 l0_1 r3 r4 w12 (qB HR0_0.out HB.out) HC0_0.out (qB HR0_1.out HB.out) HC0_1.out G3.out)
 go_wp2_with fail
 with_reducible refine CK.out.mono ?_
 rintro e w15 ⟨v0_, v1_, rfl, ho0, ho1, hb0⟩
 have hb := hb0
 clear CK hb0
 clear hx13 hx14
 have hW_ := hb
 replace BX0 := qM ((hb.block _ (blk_lt BX0.out)).trans BX0.out)
 replace HOo8 := qM (HOo8.out.below hW_)
 replace HOo9 := qM (HOo9.out.below hW_)
 replace HOo11 := qM (HOo11.out.below hW_)
 obtain ⟨lo3, elo3⟩ : ∃ n_, w12.heap.size = n_ := ⟨_, rfl⟩
 obtain ⟨hi3, ehi3⟩ : ∃ n_, w15.heap.size = n_ := ⟨_, rfl⟩
 have hn_0 := OwnI.new (W0 := w) HB.out.size hb.size ho0
 rw [elo3, ehi3] at hn_0
 obtain ⟨Ao16, co16, rfl⟩ := hn_0.slice
 have HOo16 := qM hn_0
 clear hn_0 ho0
 have hn_1 := OwnI.new (W0 := w) HB.out.size hb.size ho1
 rw [elo3, ehi3] at hn_1
 obtain ⟨Ao17, co17, rfl⟩ := hn_1.slice
 have HOo17 := qM hn_1
 clear hn_1 ho1
 have SP3 := qM (And.intro (by have h_ := hb.size; rw [elo3, ehi3] at h_; exact h_ : lo3 ≤ hi3) (And.intro (Nat.le_of_eq elo3 : w12.heap.size ≤ lo3) (Nat.le_of_eq ehi3.symm : hi3 ≤ w15.heap.size)))
 have SS6 := qM (And.intro SP3.out SS5.out)
 clear SS5
 clear SP3
 replace HB := qM (HB.out.trans (hW_.mono HB.out.size))
 clear hb hW_ elo3 ehi3
 have CK := qM (laws_toTraceS.calls K4 A1 c1 l1 r5 (w15.alloc (.cells #[.slice Ao16 r3.length co16, .slice Ao17 r4.length co17] 56)) (qB HR1.out (qA HB.out _)) HC1.out G4.out)
 go_wp2_with fail
 with_reducible refine CK.out.mono ?_
 rintro e w18 ⟨v0_, rfl, ho0, hb0⟩
 have hb := hb0
 clear CK hb0
 have hW_ : Below w15.heap.size w15 w18 := (qA (Below.refl w15.heap.size w15) _).trans (hb.mono (qA (Below.refl w15.heap.size w15) _).size)
 replace BX0 := qM ((hb.block _ (blk_lt (qa BX0.out _))).trans (qa BX0.out _))
 have BX1 := qM ((hb.block _ (blk_lt (show (w15.alloc (.cells #[.slice Ao16 r3.length co16, .slice Ao17 r4.length co17] 56)).heap[w15.heap.size]? = some (.cells #[.slice Ao16 r3.length co16, .slice Ao17 r4.length co17] 56 (0, 0)) from by have h_ := heap_alloc_new w15 (.cells #[.slice Ao16 r3.length co16, .slice Ao17 r4.length co17] 56); simpa using h_))).trans (show (w15.alloc (.cells #[.slice Ao16 r3.length co16, .slice Ao17 r4.length co17] 56)).heap[w15.heap.size]? = some (.cells #[.slice Ao16 r3.length co16, .slice Ao17 r4.length co17] 56 (0, 0)) from by have h_ := heap_alloc_new w15 (.cells #[.slice Ao16 r3.length co16, .slice Ao17 r4.length co17] 56); simpa using h_))
 replace HOo8 := qM (HOo8.out.below hW_)
 replace HOo9 := qM (HOo9.out.below hW_)
 replace HOo11 := qM (HOo11.out.below hW_)
 replace HOo16 := qM (HOo16.out.below hW_)
 replace HOo17 := qM (HOo17.out.below hW_)
 obtain ⟨lo4, elo4⟩ : ∃ n_, (w15.alloc (.cells #[.slice Ao16 r3.length co16, .slice Ao17 r4.length co17] 56)).heap.size = n_ := ⟨_, rfl⟩
 obtain ⟨hi4, ehi4⟩ : ∃ n_, w18.heap.size = n_ := ⟨_, rfl⟩
 have hn_0 := OwnS.new (W0 := w) (qA HB.out _).size hb.size ho0
 rw [elo4, ehi4] at hn_0
 obtain ⟨Ao19, co19, rfl⟩ := hn_0.slice
 have HOo19 := qM hn_0
 clear hn_0 ho0
 have SP4 := qM (And.intro (by have h_ := hb.size; rw [elo4, ehi4] at h_; exact h_ : lo4 ≤ hi4) (And.intro (by have h_ := (Nat.succ_le_of_lt (blk_lt (show (w15.alloc (.cells #[.slice Ao16 r3.length co16, .slice Ao17 r4.length co17] 56)).heap[w15.heap.size]? = some (.cells #[.slice Ao16 r3.length co16, .slice Ao17 r4.length co17] 56 (0, 0)) from by have h_ := heap_alloc_new w15 (.cells #[.slice Ao16 r3.length co16, .slice Ao17 r4.length co17] 56); simpa using h_)) : w15.heap.size + 1 ≤ (w15.alloc (.cells #[.slice Ao16 r3.length co16, .slice Ao17 r4.length co17] 56)).heap.size); rw [elo4] at h_; exact h_ : w15.heap.size + 1 ≤ lo4) (Nat.le_of_eq ehi4.symm : hi4 ≤ w18.heap.size)))
 have SS7 := qM (And.intro SP4.out SS6.out)
 clear SS6
 clear SP4
 replace HB := qM (HB.out.trans (hW_.mono HB.out.size))
 clear hb hW_ elo4 ehi4
 have hx20 : w18.cell? ⟨w15.heap.size, 0, none⟩ = some (.slice Ao16 r3.length co16) := (qC BX1.out 0).trans rfl
 have hx21 : w18.cell? ⟨w15.heap.size, 1, none⟩ = some (.slice Ao17 r4.length co17) := (qC BX1.out 1).trans rfl
 have CK := qM (impl_TracesHonest.calls K6 Ao16 co16 r3 Ao17 co17 r4 Ao19 co19 r5 r6 w18 HOo16.out.C HOo16.out.room HOo17.out.C HOo17.out.room HOo19.out.C HOo19.out.room G6.out)
 go_wp2_with fail
 with_reducible refine CK.out.mono ?_
 rintro e w22 ⟨rfl, hb0⟩
 have hb := hb0
 clear CK hb0
 clear hx20 hx21
 have hW_ := hb
 have SZ4 := qM hb.size
 have SS8 := qM (And.intro SZ4.out SS7.out)
 clear SS7
 clear SZ4
 replace BX0 := qM ((hb.block _ (blk_lt BX0.out)).trans BX0.out)
 replace BX1 := qM ((hb.block _ (blk_lt BX1.out)).trans BX1.out)
 replace HOo8 := qM (HOo8.out.below hW_)
 replace HOo9 := qM (HOo9.out.below hW_)
 replace HOo11 := qM (HOo11.out.below hW_)
 replace HOo16 := qM (HOo16.out.below hW_)
 replace HOo17 := qM (HOo17.out.below hW_)
 replace HOo19 := qM (HOo19.out.below hW_)
 replace HB := qM (HB.out.trans (hW_.mono HB.out.size))
 clear hb hW_
 try go_wp2_with fail
 refine start_ (n := 5) (S := fun w' => w'.cell? ⟨w15.heap.size, 0, none⟩ = some (.slice Ao16 r3.length co16) ∧ w'.cell? ⟨w15.heap.size, 1, none⟩ = some (.slice Ao17 r4.length co17) ∧ w'.cell? ⟨w.heap.size, 0, none⟩ = some (.slice A0_0 l0_0.length c0_0) ∧ w'.cell? ⟨w.heap.size, 1, none⟩ = some (.slice A0_1 l0_1.length c0_1)) (ds := []) #[false, false, false, false, false] (by kernel_rfl) rfl rfl ⟨(qC (qd BX1.out) 0).trans rfl, (qC (qd BX1.out) 1).trans rfl, (qC (qd BX0.out) 0).trans rfl, (qC (qd BX0.out) 1).trans rfl⟩ (fun hHeld => ?_)
 have hW_ := qD (Below.refl w22.heap.size w22)
 have SZ5 := qM (Nat.le_trans (Nat.le_refl w22.heap.size : w22.heap.size ≤ w22.heap.size) (qD (Below.refl w22.heap.size w22)).size)
 replace BX0 := qM (qd BX0.out)
 replace BX1 := qM (qd BX1.out)
 generalize w22.drew = w23 at hW_ hHeld SZ5 BX0 BX1 ⊢
 have SS9 := qM (And.intro SZ5.out SS8.out)
 clear SS8
 clear SZ5
 replace HOo8 := qM (HOo8.out.below hW_)
 replace HOo9 := qM (HOo9.out.below hW_)
 replace HOo11 := qM (HOo11.out.below hW_)
 replace HOo16 := qM (HOo16.out.below hW_)
 replace HOo17 := qM (HOo17.out.below hW_)
 replace HOo19 := qM (HOo19.out.below hW_)
 replace HB := qM (HB.out.trans (hW_.mono HB.out.size))
 clear hW_
 refine take_ (i := 0) (N := some 35) (v := ?_) (a' := ?_) #[true, false, false, false, false] rfl rfl (by kernel_rfl) (fun _ _ _ h => h) (Or.inl ⟨by rfl, ?_⟩) hHeld ?_ ?_
 rotate_left
 · rintro w' ⟨s0, s1, s2, s3⟩
   go_simp
   with_reducible rfl
 rotate_left
 · simp only [Act.put, qT, qU, qV, i64_w, i32_w]
   rfl
 refine take_ (i := 1) (N := some 36) (v := ?_) (a' := ?_) #[true, true, false, false, false] rfl rfl (by kernel_rfl) (fun _ _ _ h => h) (Or.inl ⟨by rfl, ?_⟩) hHeld ?_ ?_
 rotate_left
 · rintro w' ⟨s0, s1, s2, s3⟩
   go_simp
   with_reducible rfl
 rotate_left
 · simp only [Act.put, qT, qU, qV, i64_w, i32_w]
   rfl
 have CK := qM (laws_toSheet.calls K3 A0_0 c0_0 l0_0 A0_1 c0_1 l0_1 r3 r4 w23 (qB HR0_0.out HB.out) HC0_0.out (qB HR0_1.out HB.out) HC0_1.out G3.out)
 refine one_ (i := 2) (N := some 37) #[true, true, true, false, false] rfl rfl (by kernel_rfl) (by decide) (fun K hK => ?_)
 refine goes_ Try.func35 (by kernel_rfl) rfl #[.agg #[.slice A0_0 l0_0.length c0_0, .slice A0_1 l0_1.length c0_1]] (by rfl) rfl rfl (by (try simp only [jC, jD, jE]); first | done | rfl) ?_
 with_reducible refine CK.out.mono ?_
 rintro e w24 ⟨v0_, v1_, rfl, ho0, ho1, hb0⟩
 refine ⟨_, rfl, ?_⟩
 have hb := hb0
 clear CK hb0
 have hW_ := hb
 replace BX0 := qM ((hb.block _ (blk_lt BX0.out)).trans BX0.out)
 replace BX1 := qM ((hb.block _ (blk_lt BX1.out)).trans BX1.out)
 replace HOo8 := qM (HOo8.out.below hW_)
 replace HOo9 := qM (HOo9.out.below hW_)
 replace HOo11 := qM (HOo11.out.below hW_)
 replace HOo16 := qM (HOo16.out.below hW_)
 replace HOo17 := qM (HOo17.out.below hW_)
 replace HOo19 := qM (HOo19.out.below hW_)
 obtain ⟨lo5, elo5⟩ : ∃ n_, w23.heap.size = n_ := ⟨_, rfl⟩
 obtain ⟨hi5, ehi5⟩ : ∃ n_, w24.heap.size = n_ := ⟨_, rfl⟩
 have hn_0 := OwnI.new (W0 := w) HB.out.size hb.size ho0
 rw [elo5, ehi5] at hn_0
 obtain ⟨Ao25, co25, rfl⟩ := hn_0.slice
 have HOo25 := qM hn_0
 clear hn_0 ho0
 have hn_1 := OwnI.new (W0 := w) HB.out.size hb.size ho1
 rw [elo5, ehi5] at hn_1
 obtain ⟨Ao26, co26, rfl⟩ := hn_1.slice
 have HOo26 := qM hn_1
 clear hn_1 ho1
 have SP5 := qM (And.intro (by have h_ := hb.size; rw [elo5, ehi5] at h_; exact h_ : lo5 ≤ hi5) (And.intro (Nat.le_of_eq elo5 : w23.heap.size ≤ lo5) (Nat.le_of_eq ehi5.symm : hi5 ≤ w24.heap.size)))
 have SS10 := qM (And.intro SP5.out SS9.out)
 clear SS9
 clear SP5
 replace HB := qM (HB.out.trans (hW_.mono HB.out.size))
 clear hb hW_ elo5 ehi5
 refine hK.out _ _ ⟨(qC BX1.out 0).trans rfl, (qC BX1.out 1).trans rfl, (qC BX0.out 0).trans rfl, (qC BX0.out 1).trans rfl⟩ (fun hHeld => ?_)
 clear hK K
 refine norm_ (a' := ?_) ?_ ?_
 rotate_left
 · show Act.put _ (some 37) _ = _
   simp only [Act.put, qT, qU, qV, i64_w, i32_w]
   rfl
 have CK := qM (laws_eqSheet.calls K7 Ao16 co16 r3 Ao17 co17 r4 Ao25 co25 r3 Ao26 co26 r4 true w24 HOo16.out.C HOo16.out.room HOo17.out.C HOo17.out.room HOo25.out.C HOo25.out.room HOo26.out.C HOo26.out.room G7.out)
 refine one_ (i := 3) (N := some 38) #[true, true, true, true, false] rfl rfl (by kernel_rfl) (by decide) (fun K hK => ?_)
 refine goes_ Try.func38 (by kernel_rfl) rfl #[.agg #[.slice Ao16 r3.length co16, .slice Ao17 r4.length co17], .agg #[.slice Ao25 r3.length co25, .slice Ao26 r4.length co26]] (by rfl) rfl rfl (by (try simp only [jC, jD, jE]); first | done | rfl) ?_
 with_reducible refine CK.out.mono ?_
 rintro e w27 ⟨rfl, hb0⟩
 refine ⟨_, rfl, ?_⟩
 have hb := hb0
 clear CK hb0
 have hW_ := hb
 have SZ6 := qM hb.size
 have SS11 := qM (And.intro SZ6.out SS10.out)
 clear SS10
 clear SZ6
 replace BX0 := qM ((hb.block _ (blk_lt BX0.out)).trans BX0.out)
 replace BX1 := qM ((hb.block _ (blk_lt BX1.out)).trans BX1.out)
 replace HOo8 := qM (HOo8.out.below hW_)
 replace HOo9 := qM (HOo9.out.below hW_)
 replace HOo11 := qM (HOo11.out.below hW_)
 replace HOo16 := qM (HOo16.out.below hW_)
 replace HOo17 := qM (HOo17.out.below hW_)
 replace HOo19 := qM (HOo19.out.below hW_)
 replace HOo25 := qM (HOo25.out.below hW_)
 replace HOo26 := qM (HOo26.out.below hW_)
 replace HB := qM (HB.out.trans (hW_.mono HB.out.size))
 clear hb hW_
 refine hK.out _ _ ⟨(qC BX1.out 0).trans rfl, (qC BX1.out 1).trans rfl, (qC BX0.out 0).trans rfl, (qC BX0.out 1).trans rfl⟩ (fun hHeld => ?_)
 clear hK K
 refine norm_ (a' := ?_) ?_ ?_
 rotate_left
 · show Act.put _ (some 38) _ = _
   simp only [Act.put, qT, qU, qV, i64_w, i32_w]
   rfl
 refine pure_ (i := 4) (N := some 39) (v := ?_) (a' := ?_) #[true, true, true, true, true] rfl rfl (by kernel_rfl) (fun _ _ _ h => h) (Or.inl ⟨by rfl, ?_⟩) ?_ ?_
 rotate_left
 · intro w'
   go_simp
   with_reducible rfl
 rotate_left
 · simp only [Act.put, qT, qU, qV, i64_w, i32_w]
   rfl
 refine done_ (by kernel_rfl) ?_
 clear hHeld
 have CK := qM (laws_toTraceS.calls K4 A1 c1 l1 r5 w27 (qB HR1.out HB.out) HC1.out G4.out)
 go_wp2_with fail
 with_reducible refine CK.out.mono ?_
 rintro e w28 ⟨v0_, rfl, ho0, hb0⟩
 have hb := hb0
 clear CK hb0
 have hW_ := hb
 replace BX0 := qM ((hb.block _ (blk_lt BX0.out)).trans BX0.out)
 replace BX1 := qM ((hb.block _ (blk_lt BX1.out)).trans BX1.out)
 replace HOo8 := qM (HOo8.out.below hW_)
 replace HOo9 := qM (HOo9.out.below hW_)
 replace HOo11 := qM (HOo11.out.below hW_)
 replace HOo16 := qM (HOo16.out.below hW_)
 replace HOo17 := qM (HOo17.out.below hW_)
 replace HOo19 := qM (HOo19.out.below hW_)
 replace HOo25 := qM (HOo25.out.below hW_)
 replace HOo26 := qM (HOo26.out.below hW_)
 obtain ⟨lo6, elo6⟩ : ∃ n_, w27.heap.size = n_ := ⟨_, rfl⟩
 obtain ⟨hi6, ehi6⟩ : ∃ n_, w28.heap.size = n_ := ⟨_, rfl⟩
 have hn_0 := OwnS.new (W0 := w) HB.out.size hb.size ho0
 rw [elo6, ehi6] at hn_0
 obtain ⟨Ao29, co29, rfl⟩ := hn_0.slice
 have HOo29 := qM hn_0
 clear hn_0 ho0
 have SP6 := qM (And.intro (by have h_ := hb.size; rw [elo6, ehi6] at h_; exact h_ : lo6 ≤ hi6) (And.intro (Nat.le_of_eq elo6 : w27.heap.size ≤ lo6) (Nat.le_of_eq ehi6.symm : hi6 ≤ w28.heap.size)))
 have SS12 := qM (And.intro SP6.out SS11.out)
 clear SS11
 clear SP6
 replace HB := qM (HB.out.trans (hW_.mono HB.out.size))
 clear hb hW_ elo6 ehi6
 have CK := qM (laws_eqTraceS.calls K8 Ao19 co19 r5 Ao29 co29 r5 true w28 HOo19.out.C HOo19.out.room HOo29.out.C HOo29.out.room G8.out)
 go_wp2_with fail
 with_reducible refine CK.out.mono ?_
 rintro e w30 ⟨rfl, hb0⟩
 have hb := hb0
 clear CK hb0
 have hW_ := hb
 have SZ7 := qM hb.size
 have SS13 := qM (And.intro SZ7.out SS12.out)
 clear SS12
 clear SZ7
 replace BX0 := qM ((hb.block _ (blk_lt BX0.out)).trans BX0.out)
 replace BX1 := qM ((hb.block _ (blk_lt BX1.out)).trans BX1.out)
 replace HOo8 := qM (HOo8.out.below hW_)
 replace HOo9 := qM (HOo9.out.below hW_)
 replace HOo11 := qM (HOo11.out.below hW_)
 replace HOo16 := qM (HOo16.out.below hW_)
 replace HOo17 := qM (HOo17.out.below hW_)
 replace HOo19 := qM (HOo19.out.below hW_)
 replace HOo25 := qM (HOo25.out.below hW_)
 replace HOo26 := qM (HOo26.out.below hW_)
 replace HOo29 := qM (HOo29.out.below hW_)
 replace HB := qM (HB.out.trans (hW_.mono HB.out.size))
 clear hb hW_
 go_wp2
 go_ret
 exact ⟨rfl, HB.out⟩
theorem lw_FnExactTracesHonest_e0 (A0_0 : Option Addr) (c0_0 : Nat) (l0_0 : List (Bool)) (A0_1 : Option Addr) (c0_1 : Nat) (l0_1 : List (S24)) (A1 : Option Addr) (c1 : Nat) (l1 : List (S81)) (w : World) (hr0_0 : Kd.C Kd.bool w A0_0 l0_0.length l0_0) (hc0_0 : l0_0.length ≤ c0_0) (hr0_1 : Kd.C k24 w A0_1 l0_1.length l0_1) (hc0_1 : l0_1.length ≤ c0_1) (hr1 : Kd.C k81 w A1 l1.length l1) (hc1 : l1.length ≤ c1)  (r1 : Int) (K1 : Nat) (H1 : laws_szSheet.f K1 l0_0 l0_1 1048576 = some r1) (hx_1 : r1 < 0) :
   Calls Try.prog 7 #[.agg #[.slice A0_0 l0_0.length c0_0, .slice A0_1 l0_1.length c0_1], .slice A1 l1.length c1] w fun e w' => e = .returned (.bool true) ∧ Below w.heap.size w w' := by
 have hu48 := Try.underlying48
 have hu56 := Try.underlying56
 have HR0_0 := qM hr0_0
 have HC0_0 := qM hc0_0
 clear hr0_0 hc0_0
 have HR0_1 := qM hr0_1
 have HC0_1 := qM hc0_1
 clear hr0_1 hc0_1
 have HR1 := qM hr1
 have HC1 := qM hc1
 clear hr1 hc1
 have G1 := qM H1
 clear H1
 have HX1 := qM hx_1
 have hd_1 : decide (r1 < 0) = true := decide_eq_true (by omega)
 clear hx_1
 have HB := qM (Below.refl w.heap.size w)
 go_enter Try.func7, Try.ntmps7
 have hx1 : (w.alloc (.cells #[.slice A0_0 l0_0.length c0_0, .slice A0_1 l0_1.length c0_1] 48)).cell? ⟨w.heap.size, 0, none⟩ = some (.slice A0_0 l0_0.length c0_0) := (qC (show (w.alloc (.cells #[.slice A0_0 l0_0.length c0_0, .slice A0_1 l0_1.length c0_1] 48)).heap[w.heap.size]? = some (.cells #[.slice A0_0 l0_0.length c0_0, .slice A0_1 l0_1.length c0_1] 48 (0, 0)) from by have h_ := heap_alloc_new w (.cells #[.slice A0_0 l0_0.length c0_0, .slice A0_1 l0_1.length c0_1] 48); simpa using h_) 0).trans rfl
 have hx2 : (w.alloc (.cells #[.slice A0_0 l0_0.length c0_0, .slice A0_1 l0_1.length c0_1] 48)).cell? ⟨w.heap.size, 1, none⟩ = some (.slice A0_1 l0_1.length c0_1) := (qC (show (w.alloc (.cells #[.slice A0_0 l0_0.length c0_0, .slice A0_1 l0_1.length c0_1] 48)).heap[w.heap.size]? = some (.cells #[.slice A0_0 l0_0.length c0_0, .slice A0_1 l0_1.length c0_1] 48 (0, 0)) from by have h_ := heap_alloc_new w (.cells #[.slice A0_0 l0_0.length c0_0, .slice A0_1 l0_1.length c0_1] 48); simpa using h_) 1).trans rfl
 have CK := qM (laws_szSheet.calls K1 A0_0 c0_0 l0_0 A0_1 c0_1 l0_1 1048576 r1 (w.alloc (.cells #[.slice A0_0 l0_0.length c0_0, .slice A0_1 l0_1.length c0_1] 48)) (qB HR0_0.out (qA HB.out _)) HC0_0.out (qB HR0_1.out (qA HB.out _)) HC0_1.out G1.out)
 go_wp2_with fail
 with_reducible refine CK.out.mono ?_
 rintro e w3 ⟨rfl, hb0⟩
 have hb := hb0
 clear CK hb0
 clear hx1 hx2
 have hW_ : Below w.heap.size w w3 := (qA (Below.refl w.heap.size w) _).trans (hb.mono (qA (Below.refl w.heap.size w) _).size)
 have SZ1 := qM (Nat.le_trans (Nat.succ_le_of_lt (blk_lt (show (w.alloc (.cells #[.slice A0_0 l0_0.length c0_0, .slice A0_1 l0_1.length c0_1] 48)).heap[w.heap.size]? = some (.cells #[.slice A0_0 l0_0.length c0_0, .slice A0_1 l0_1.length c0_1] 48 (0, 0)) from by have h_ := heap_alloc_new w (.cells #[.slice A0_0 l0_0.length c0_0, .slice A0_1 l0_1.length c0_1] 48); simpa using h_)) : w.heap.size + 1 ≤ (w.alloc (.cells #[.slice A0_0 l0_0.length c0_0, .slice A0_1 l0_1.length c0_1] 48)).heap.size) hb.size)
 have SS1 := SZ1
 clear SZ1
 have BX0 := qM ((hb.block _ (blk_lt (show (w.alloc (.cells #[.slice A0_0 l0_0.length c0_0, .slice A0_1 l0_1.length c0_1] 48)).heap[w.heap.size]? = some (.cells #[.slice A0_0 l0_0.length c0_0, .slice A0_1 l0_1.length c0_1] 48 (0, 0)) from by have h_ := heap_alloc_new w (.cells #[.slice A0_0 l0_0.length c0_0, .slice A0_1 l0_1.length c0_1] 48); simpa using h_))).trans (show (w.alloc (.cells #[.slice A0_0 l0_0.length c0_0, .slice A0_1 l0_1.length c0_1] 48)).heap[w.heap.size]? = some (.cells #[.slice A0_0 l0_0.length c0_0, .slice A0_1 l0_1.length c0_1] 48 (0, 0)) from by have h_ := heap_alloc_new w (.cells #[.slice A0_0 l0_0.length c0_0, .slice A0_1 l0_1.length c0_1] 48); simpa using h_))
 replace HB := qM (HB.out.trans (hW_.mono HB.out.size))
 clear hb hW_
 go_wp2
 go_ret
 exact ⟨rfl, HB.out⟩
theorem lw_FnExactTracesHonest_e1 (A0_0 : Option Addr) (c0_0 : Nat) (l0_0 : List (Bool)) (A0_1 : Option Addr) (c0_1 : Nat) (l0_1 : List (S24)) (A1 : Option Addr) (c1 : Nat) (l1 : List (S81)) (w : World) (hr0_0 : Kd.C Kd.bool w A0_0 l0_0.length l0_0) (hc0_0 : l0_0.length ≤ c0_0) (hr0_1 : Kd.C k24 w A0_1 l0_1.length l0_1) (hc0_1 : l0_1.length ≤ c0_1) (hr1 : Kd.C k81 w A1 l1.length l1) (hc1 : l1.length ≤ c1)  (r1 : Int) (r2 : Int) (K1 : Nat) (H1 : laws_szSheet.f K1 l0_0 l0_1 1048576 = some r1) (K2 : Nat) (H2 : laws_szTraceS.f K2 l1 r1 = some r2) (hx_1 : 0 ≤ r1) (hx_2 : r2 < 0) :
   Calls Try.prog 7 #[.agg #[.slice A0_0 l0_0.length c0_0, .slice A0_1 l0_1.length c0_1], .slice A1 l1.length c1] w fun e w' => e = .returned (.bool true) ∧ Below w.heap.size w w' := by
 have hu48 := Try.underlying48
 have hu56 := Try.underlying56
 have HR0_0 := qM hr0_0
 have HC0_0 := qM hc0_0
 clear hr0_0 hc0_0
 have HR0_1 := qM hr0_1
 have HC0_1 := qM hc0_1
 clear hr0_1 hc0_1
 have HR1 := qM hr1
 have HC1 := qM hc1
 clear hr1 hc1
 have G1 := qM H1
 clear H1
 have G2 := qM H2
 clear H2
 have HX1 := qM hx_1
 have HX2 := qM hx_2
 have hd_1 : decide (r1 < 0) = false := decide_eq_false (by omega)
 have hd_2 : decide (r2 < 0) = true := decide_eq_true (by omega)
 clear hx_1 hx_2
 have HB := qM (Below.refl w.heap.size w)
 go_enter Try.func7, Try.ntmps7
 have hx1 : (w.alloc (.cells #[.slice A0_0 l0_0.length c0_0, .slice A0_1 l0_1.length c0_1] 48)).cell? ⟨w.heap.size, 0, none⟩ = some (.slice A0_0 l0_0.length c0_0) := (qC (show (w.alloc (.cells #[.slice A0_0 l0_0.length c0_0, .slice A0_1 l0_1.length c0_1] 48)).heap[w.heap.size]? = some (.cells #[.slice A0_0 l0_0.length c0_0, .slice A0_1 l0_1.length c0_1] 48 (0, 0)) from by have h_ := heap_alloc_new w (.cells #[.slice A0_0 l0_0.length c0_0, .slice A0_1 l0_1.length c0_1] 48); simpa using h_) 0).trans rfl
 have hx2 : (w.alloc (.cells #[.slice A0_0 l0_0.length c0_0, .slice A0_1 l0_1.length c0_1] 48)).cell? ⟨w.heap.size, 1, none⟩ = some (.slice A0_1 l0_1.length c0_1) := (qC (show (w.alloc (.cells #[.slice A0_0 l0_0.length c0_0, .slice A0_1 l0_1.length c0_1] 48)).heap[w.heap.size]? = some (.cells #[.slice A0_0 l0_0.length c0_0, .slice A0_1 l0_1.length c0_1] 48 (0, 0)) from by have h_ := heap_alloc_new w (.cells #[.slice A0_0 l0_0.length c0_0, .slice A0_1 l0_1.length c0_1] 48); simpa using h_) 1).trans rfl
 have CK := qM (laws_szSheet.calls K1 A0_0 c0_0 l0_0 A0_1 c0_1 l0_1 1048576 r1 (w.alloc (.cells #[.slice A0_0 l0_0.length c0_0, .slice A0_1 l0_1.length c0_1] 48)) (qB HR0_0.out (qA HB.out _)) HC0_0.out (qB HR0_1.out (qA HB.out _)) HC0_1.out G1.out)
 go_wp2_with fail
 with_reducible refine CK.out.mono ?_
 rintro e w3 ⟨rfl, hb0⟩
 have hb := hb0
 clear CK hb0
 clear hx1 hx2
 have hW_ : Below w.heap.size w w3 := (qA (Below.refl w.heap.size w) _).trans (hb.mono (qA (Below.refl w.heap.size w) _).size)
 have SZ1 := qM (Nat.le_trans (Nat.succ_le_of_lt (blk_lt (show (w.alloc (.cells #[.slice A0_0 l0_0.length c0_0, .slice A0_1 l0_1.length c0_1] 48)).heap[w.heap.size]? = some (.cells #[.slice A0_0 l0_0.length c0_0, .slice A0_1 l0_1.length c0_1] 48 (0, 0)) from by have h_ := heap_alloc_new w (.cells #[.slice A0_0 l0_0.length c0_0, .slice A0_1 l0_1.length c0_1] 48); simpa using h_)) : w.heap.size + 1 ≤ (w.alloc (.cells #[.slice A0_0 l0_0.length c0_0, .slice A0_1 l0_1.length c0_1] 48)).heap.size) hb.size)
 have SS1 := SZ1
 clear SZ1
 have BX0 := qM ((hb.block _ (blk_lt (show (w.alloc (.cells #[.slice A0_0 l0_0.length c0_0, .slice A0_1 l0_1.length c0_1] 48)).heap[w.heap.size]? = some (.cells #[.slice A0_0 l0_0.length c0_0, .slice A0_1 l0_1.length c0_1] 48 (0, 0)) from by have h_ := heap_alloc_new w (.cells #[.slice A0_0 l0_0.length c0_0, .slice A0_1 l0_1.length c0_1] 48); simpa using h_))).trans (show (w.alloc (.cells #[.slice A0_0 l0_0.length c0_0, .slice A0_1 l0_1.length c0_1] 48)).heap[w.heap.size]? = some (.cells #[.slice A0_0 l0_0.length c0_0, .slice A0_1 l0_1.length c0_1] 48 (0, 0)) from by have h_ := heap_alloc_new w (.cells #[.slice A0_0 l0_0.length c0_0, .slice A0_1 l0_1.length c0_1] 48); simpa using h_))
 replace HB := qM (HB.out.trans (hW_.mono HB.out.size))
 clear hb hW_
 have CK := qM (laws_szTraceS.calls K2 A1 c1 l1 r1 r2 w3 (qB HR1.out HB.out) HC1.out G2.out)
 go_wp2_with fail
 with_reducible refine CK.out.mono ?_
 rintro e w4 ⟨rfl, hb0⟩
 have hb := hb0
 clear CK hb0
 have hW_ := hb
 have SZ2 := qM hb.size
 have SS2 := qM (And.intro SZ2.out SS1.out)
 clear SS1
 clear SZ2
 replace BX0 := qM ((hb.block _ (blk_lt BX0.out)).trans BX0.out)
 replace HB := qM (HB.out.trans (hW_.mono HB.out.size))
 clear hb hW_
 go_wp2
 go_ret
 exact ⟨rfl, HB.out⟩
end Go.Proofs.Ytgbjbpjmbghlbaa.G
end
section
namespace Go.Proofs.Ytgbjbpjmbghlbaa.G
open Go.RowKit Go.Proofs.YtgbjbpjmbghlbaaW.PrintWords
theorem isKey_ev (a : Int) : impl_isKey.f a = some (decide (0 ≤ a ∧ a < 10)) := by
  unfold impl_isKey.f
  by_cases h : a ≥ 0
  · rw [if_pos h]; simp only [ge_iff_le] at h; simp [h]
  · rw [if_neg h]; simp only [ge_iff_le] at h; simp [h]
theorem isValue_ev (a : Int) : impl_isValue.f a = some (decide (0 ≤ a ∧ a ≤ 96)) := by
  unfold impl_isValue.f
  by_cases h : a ≥ 0
  · rw [if_pos h]; simp only [ge_iff_le] at h; simp [h]
  · rw [if_neg h]; simp only [ge_iff_le] at h; simp [h]
theorem ite_prop (P : Prop) [Decidable P] (c : Bool) : (if P then some c else some false) = some (decide P && c) := by by_cases h : P <;> simp [h]
theorem fits_now (k : Nat) (a b : Int) (l : List Tk) : impl_Task_fits.f (k + 1) a b l = some (shapeB a b l.length) := by
  unfold impl_Task_fits.f
  have e0 : ∀ m : Nat, ((l.length : Int) == (m : Int)) = decide (l.length = m) := fun m => by rw [Bool.eq_iff_iff]; simp only [beq_iff_eq, decide_eq_true_eq]; omega
  have e1 : ((l.length : Int) == 0) = decide (l.length = 0) := e0 0
  have e2 : ((l.length : Int) == 1) = decide (l.length = 1) := e0 1
  have e3 : ((l.length : Int) == 2) = decide (l.length = 2) := e0 2
  have e4 : ((l.length : Int) == 3) = decide (l.length = 3) := e0 3
  simp only [impl_Task_fits.j0, isKey_ev, isValue_ev, Option.bind_some, e1, e2, e3, e4, ite_prop, Bool.decide_eq_true]
  clear e0 e1 e2 e3 e4
  unfold shapeB
  by_cases h0 : a = 0
  · simp only [h0, if_true]
  by_cases h1 : a = 1
  · simp only [h0, h1, if_true, if_false, show ¬ ((1 : Int) = 0) by decide]
  by_cases h2 : a = 2
  · simp only [h2, if_true, if_false, show ¬ ((2 : Int) = 0) by decide, show ¬ ((2 : Int) = 1) by decide, show ((2 : Int) == 2) = true by decide]
  by_cases h3 : a = 3
  · simp only [h3, if_true, if_false, show ¬ ((3 : Int) = 0) by decide, show ¬ ((3 : Int) = 1) by decide, show ¬ ((3 : Int) = 2) by decide, show ((3 : Int) == 3) = true by decide]
  have h3b : (a == 3) = false := beq_eq_false_iff_ne.mpr h3
  by_cases h4 : a = 4
  · simp only [h4, if_true, if_false, show ¬ ((4 : Int) = 0) by decide, show ¬ ((4 : Int) = 1) by decide, show ¬ ((4 : Int) = 2) by decide, show ¬ ((4 : Int) = 3) by decide, show ((4 : Int) == 3) = false by decide, Bool.false_eq_true, decide_true, Bool.true_and]
  by_cases h5 : a = 5
  · simp only [h5, if_true, if_false, show ¬ ((5 : Int) = 0) by decide, show ¬ ((5 : Int) = 1) by decide, show ¬ ((5 : Int) = 2) by decide, show ¬ ((5 : Int) = 3) by decide, show ¬ ((5 : Int) = 4) by decide, show ((5 : Int) == 3) = false by decide, Bool.false_eq_true, decide_true, Bool.true_and]
  simp only [h0, h1, h2, h3, h4, h5, h3b, if_false, Bool.false_eq_true, decide_false, Bool.false_and]
theorem fits_ev (a b : Int) (l : List Tk) : Ev (fun k => impl_Task_fits.f k a b l) (shapeB a b l.length) := ⟨1, fun k hk => by
  obtain ⟨m, rfl⟩ : ∃ m, k = m + 1 := ⟨k - 1, by omega⟩
  exact fits_now m a b l⟩
theorem Ev.eq {α : Type} {g : Nat → Option α} {r r' : α} (h : Ev g r) (e : r = r') : Ev g r' := e ▸ h
theorem Ev.of_eq {α : Type} {o : Option α} {r : α} (h : o = some r) : Ev (fun _ => o) r := ⟨0, fun _ _ => h⟩
def CountsTo (t : Tk) (room r : Int) : Prop := ((fitT t = true ∧ (nodT t : Int) ≤ room) → r = nodT t) ∧ (¬ (fitT t = true ∧ (nodT t : Int) ≤ room) → room < r) ∧ 1 ≤ r ∧ r ≤ 16 + 16 * room
theorem countTo_loop (ps : List Tk) (hlen : ps.length ≤ 3) (room : Int) (h0 : 0 ≤ room) (h1 : room ≤ 15)
    (ih : ∀ p ∈ ps, ∀ rm : Int, 0 ≤ rm → rm ≤ 15 → ∃ r, Ev (fun k => impl_Task_countTo.f k p.f0 p.f1 p.f2 rm) r ∧ CountsTo p rm r) :
    ∀ (d i : Nat) (n : Int), d = ps.length - i → i ≤ ps.length → 1 ≤ n → n ≤ 16 + 16 * room →
      ∃ r, Ev (fun k => impl_Task_countTo.l0 k room n ps (ps.length : Int) (i : Int)) r ∧ ((fitL (ps.drop i) = true ∧ n + (nodL (ps.drop i) : Int) ≤ room) → r = n + nodL (ps.drop i)) ∧ (¬ (fitL (ps.drop i) = true ∧ n + (nodL (ps.drop i) : Int) ≤ room) → room < r) ∧ 1 ≤ r ∧ r ≤ 16 + 16 * room := by
  intro d
  induction d with
  | zero =>
    intro i n hd hi hn hn2
    have e : i = ps.length := by omega
    subst e
    refine ⟨n, Ev.step (fun k => by rw [impl_Task_countTo.l0]) ?_, ?_⟩
    · simp only [if_neg (show ¬ ((ps.length : Int) < (ps.length : Int)) by omega)]
      exact Ev.now n
    · simp only [List.drop_length, fitL, nodL]
      refine ⟨fun _ => by simp, fun h => ?_, hn, hn2⟩
      simp at h
      omega
  | succ d ihd =>
    intro i n hd hi hn hn2
    have hlt : i < ps.length := by omega
    have hrd := rd_tk ps i hlt
    have hdr := drop_tk ps i hlt
    have hmem : ps[i] ∈ ps := List.getElem_mem hlt
    by_cases hg : n > room
    · refine ⟨16, Ev.step (fun k => by rw [impl_Task_countTo.l0]) ?_, fun h => ?_, fun _ => by omega, by omega, by omega⟩
      · simp only [if_pos (show (i : Int) < (ps.length : Int) by omega), if_pos (show (0 : Int) ≤ (i : Int) by omega), if_pos hg]
        exact Ev.now 16
      · exfalso
        have := h.2
        omega
    · obtain ⟨c, hc, hc1, hc2, hc3, hc4⟩ := ih ps[i] hmem (room - n) (by omega) (by omega)
      obtain ⟨r, hr, hr1, hr2, hr3, hr4⟩ := ihd (i + 1) (n + c) (by omega) (by omega) (by omega) (by omega)
      refine ⟨r, Ev.step (fun k => by rw [impl_Task_countTo.l0]) ?_, ?_, ?_, hr3, hr4⟩
      · simp only [if_pos (show (i : Int) < (ps.length : Int) by omega), if_pos (show (0 : Int) ≤ (i : Int) by omega), if_neg hg, hrd]
        rw [wrap_id (room - n) (by omega) (by omega), wrap_nat i (by omega)]
        refine Ev.bind hc ?_
        simp only [wrap_id (n + c) (by omega) (by omega)]
        exact hr
      · rw [hdr]
        simp only [fitL, nodL, Bool.and_eq_true]
        rintro ⟨⟨f1, f2⟩, h3⟩
        have e := hc1 ⟨f1, by omega⟩
        rw [hr1 ⟨f2, by omega⟩]
        omega
      · rw [hdr]
        simp only [fitL, nodL, Bool.and_eq_true]
        intro hno
        by_cases hp : fitT ps[i] = true ∧ (nodT ps[i] : Int) ≤ room - n
        · have e := hc1 hp
          exact hr2 (fun h => hno ⟨⟨hp.1, h.1⟩, by have := h.2; omega⟩)
        · have := hc2 hp
          exact hr2 (fun h => by have := h.2; omega)
theorem countTo_ev : ∀ t : Tk, ∀ room : Int, 0 ≤ room → room ≤ 15 → ∃ r, Ev (fun k => impl_Task_countTo.f k t.f0 t.f1 t.f2 room) r ∧ CountsTo t room r := by
  refine tk_ind fun t ih room h0 h1 => ?_
  by_cases hr : room < 1
  · refine ⟨16, Ev.step (fun k => by rw [impl_Task_countTo.f]) ?_, ?_, ?_, by omega, by omega⟩
    · simp only [if_pos hr]
      refine Ev.step (fun k => by rw [impl_Task_countTo.j0]) ?_
      simp only [if_true]
      exact Ev.now 16
    · rintro ⟨_, h⟩
      have := nodT_pos t
      omega
    · intro _
      omega
  · have hshape := fits_ev t.f0 t.f1 t.f2
    by_cases hf : shapeB t.f0 t.f1 t.f2.length = true
    · obtain ⟨r, hr1, hr2, hr3, hr4, hr5⟩ := countTo_loop t.f2 (shapeB_len hf) room h0 h1 ih t.f2.length 0 1 (by omega) (by omega) (by omega) (by omega)
      refine ⟨r, Ev.step (fun k => by rw [impl_Task_countTo.f]) ?_, ?_, ?_, hr4, hr5⟩
      · simp only [if_neg hr]
        refine Ev.bind hshape ?_
        simp only [hf, Bool.not_true]
        refine Ev.step (fun k => by rw [impl_Task_countTo.j0]) ?_
        simp only [Bool.false_eq_true, if_false]
        exact hr1
      · rw [fitT_eq, nodT_eq, hf]
        simp only [List.drop_zero, Bool.true_and] at hr2 ⊢
        rintro ⟨a, b⟩
        rw [hr2 ⟨a, by omega⟩]
        omega
      · rw [fitT_eq, nodT_eq, hf]
        simp only [List.drop_zero, Bool.true_and] at hr3 ⊢
        intro h
        exact hr3 (fun ⟨a, b⟩ => h ⟨a, by omega⟩)
    · refine ⟨16, Ev.step (fun k => by rw [impl_Task_countTo.f]) ?_, ?_, ?_, by omega, by omega⟩
      · simp only [if_neg hr]
        refine Ev.bind hshape ?_
        simp only [Bool.not_eq_true] at hf
        simp only [hf, Bool.not_false]
        refine Ev.step (fun k => by rw [impl_Task_countTo.j0]) ?_
        simp only [if_true]
        exact Ev.now 16
      · rw [fitT_eq]
        intro h
        simp [hf] at h
      · intro _
        omega
theorem count_loop (ps : List Tk) (hlen : ps.length ≤ 3) :
    ∀ (d i : Nat) (n : Int), d = ps.length - i → i ≤ ps.length → 1 ≤ n → n ≤ 300 →
      ∃ r, Ev (fun k => impl_Task_count.l0 k n ps (ps.length : Int) (i : Int)) r ∧ ((fitL (ps.drop i) = true ∧ n + (nodL (ps.drop i) : Int) ≤ 15) → r = n + nodL (ps.drop i)) ∧ (¬ (fitL (ps.drop i) = true ∧ n + (nodL (ps.drop i) : Int) ≤ 15) → 15 < r) := by
  intro d
  induction d with
  | zero =>
    intro i n hd hi hn hn2
    have e : i = ps.length := by omega
    subst e
    refine ⟨n, Ev.step (fun k => by rw [impl_Task_count.l0]) ?_, ?_⟩
    · simp only [if_neg (show ¬ ((ps.length : Int) < (ps.length : Int)) by omega)]
      exact Ev.now n
    · simp only [List.drop_length, fitL, nodL]
      refine ⟨fun _ => by simp, fun h => ?_⟩
      simp at h
      omega
  | succ d ihd =>
    intro i n hd hi hn hn2
    have hlt : i < ps.length := by omega
    have hrd := rd_tk ps i hlt
    have hdr := drop_tk ps i hlt
    by_cases hg : n > 15
    · refine ⟨n, Ev.step (fun k => by rw [impl_Task_count.l0]) ?_, fun h => ?_, fun _ => by omega⟩
      · simp only [if_pos (show (i : Int) < (ps.length : Int) by omega), if_pos (show (0 : Int) ≤ (i : Int) by omega), if_pos hg]
        exact Ev.now n
      · exfalso
        have := h.2
        omega
    · obtain ⟨c, hc, hc1, hc2, hc3, hc4⟩ := countTo_ev ps[i] (15 - n) (by omega) (by omega)
      obtain ⟨r, hr, hr1, hr2⟩ := ihd (i + 1) (n + c) (by omega) (by omega) (by omega) (by omega)
      refine ⟨r, Ev.step (fun k => by rw [impl_Task_count.l0]) ?_, ?_, ?_⟩
      · simp only [if_pos (show (i : Int) < (ps.length : Int) by omega), if_pos (show (0 : Int) ≤ (i : Int) by omega), if_neg hg, hrd]
        rw [wrap_id (15 - n) (by omega) (by omega), wrap_nat i (by omega)]
        refine Ev.bind hc ?_
        simp only [wrap_id (n + c) (by omega) (by omega)]
        exact hr
      · rw [hdr]
        simp only [fitL, nodL, Bool.and_eq_true]
        rintro ⟨⟨f1, f2⟩, h3⟩
        have e := hc1 ⟨f1, by omega⟩
        rw [hr1 ⟨f2, by omega⟩]
        omega
      · rw [hdr]
        simp only [fitL, nodL, Bool.and_eq_true]
        intro hno
        by_cases hp : fitT ps[i] = true ∧ (nodT ps[i] : Int) ≤ 15 - n
        · have e := hc1 hp
          exact hr2 (fun h => hno ⟨⟨hp.1, h.1⟩, by have := h.2; omega⟩)
        · have := hc2 hp
          exact hr2 (fun h => by have := h.2; omega)
theorem count_ev (t : Tk) : ∃ r, Ev (fun k => impl_Task_count.f k t.f0 t.f1 t.f2) r ∧ (okT t = true → r = nodT t) ∧ (okT t = false → 15 < r) := by
  have hshape := fits_ev t.f0 t.f1 t.f2
  by_cases hf : shapeB t.f0 t.f1 t.f2.length = true
  · obtain ⟨r, hr1, hr2, hr3⟩ := count_loop t.f2 (shapeB_len hf) t.f2.length 0 1 (by omega) (by omega) (by omega) (by omega)
    refine ⟨r, ?_, ?_, ?_⟩
    · unfold impl_Task_count.f
      refine Ev.bind hshape ?_
      simp only [hf, if_true]
      exact hr1
    · intro h
      have h1 := okT_fit h
      have h2 := okT_nod h
      rw [fitT_eq, Bool.and_eq_true] at h1
      rw [nodT_eq] at h2 ⊢
      simp only [List.drop_zero] at hr2
      rw [hr2 ⟨h1.2, by omega⟩]
      omega
    · intro h
      simp only [List.drop_zero] at hr3
      refine hr3 (fun ⟨a, b⟩ => ?_)
      rw [okT, fitT_eq, nodT_eq, hf, a] at h
      simp at h
      omega
  · refine ⟨16, ?_, ?_, fun _ => by omega⟩
    · unfold impl_Task_count.f
      refine Ev.bind hshape ?_
      simp only [hf, Bool.false_eq_true, if_false]
      exact Ev.now 16
    · intro h
      have h1 := okT_fit h
      rw [fitT_eq, Bool.and_eq_true] at h1
      exact absurd h1.1 hf
theorem implOk_ev (t : Tk) : Ev (fun k => impl_TaskOk.f k t.f0 t.f1 t.f2) (okT t) := by
  obtain ⟨r, hr, h1, h2⟩ := count_ev t
  unfold impl_TaskOk.f
  refine Ev.bind hr ?_
  refine Ev.of_eq ?_
  cases h : okT t with
  | true => have := h1 h; have := okT_nod h; simp; omega
  | false => have := h2 h; simp; omega
theorem l1Shape_now (k : Nat) (a : Int) : spec_l1Shape.f (k + 1) a = some (if a = 0 then (0, 96, true) else if a = 1 then (0, 9, true) else if a = 2 then (2, 0, true) else if a = 3 then (2, 0, true) else if a = 4 then (3, 0, true) else if a = 5 then (1, 9, true) else (0, 0, false)) := by
  unfold spec_l1Shape.f
  simp only [spec_l1Shape.j0]
  repeat' split
  all_goals simp_all
theorem l1Shape_ev (a : Int) : Ev (fun k => spec_l1Shape.f k a) (if a = 0 then (0, 96, true) else if a = 1 then (0, 9, true) else if a = 2 then (2, 0, true) else if a = 3 then (2, 0, true) else if a = 4 then (3, 0, true) else if a = 5 then (1, 9, true) else (0, 0, false)) := ⟨1, fun k hk => by
  obtain ⟨m, rfl⟩ : ∃ m, k = m + 1 := ⟨k - 1, by omega⟩
  exact l1Shape_now m a⟩
theorem l6In_ev (a b c : Int) : spec_l6In.f a b c = some (decide (b ≤ a ∧ a ≤ c)) := by
  unfold spec_l6In.f
  by_cases h : a ≥ b
  · rw [if_pos h]; simp only [ge_iff_le] at h; simp [h]
  · rw [if_neg h]; simp only [ge_iff_le] at h; simp [h]
theorem l1Fit_loop (a b : Int) (ps : List Tk) (hlen : ps.length ≤ 3) (ih : ∀ p ∈ ps, Ev (fun k => spec_l1Fit.f k p.f0 p.f1 p.f2) (fitT p)) :
    ∀ (d i : Nat), d = ps.length - i → i ≤ ps.length → Ev (fun k => spec_l1Fit.l0 k (i : Int) a b ps) (fitL (ps.drop i)) := by
  intro d
  induction d with
  | zero =>
    intro i hd hi
    have e : i = ps.length := by omega
    subst e
    refine Ev.step (fun k => by rw [spec_l1Fit.l0]) ?_
    simp only [if_neg (show ¬ ((ps.length : Int) < (ps.length : Int)) by omega), List.drop_length, fitL]
    exact Ev.now true
  | succ d ihd =>
    intro i hd hi
    have hlt : i < ps.length := by omega
    have hrd := rd_tk ps i hlt
    have hmem : ps[i] ∈ ps := List.getElem_mem hlt
    rw [drop_tk ps i hlt]
    refine Ev.step (fun k => by rw [spec_l1Fit.l0]) ?_
    simp only [if_pos (show (i : Int) < (ps.length : Int) by omega), if_pos (show (0 : Int) ≤ (i : Int) by omega), hrd]
    refine Ev.bind (ih _ hmem) ?_
    simp only [fitL]
    cases h : fitT ps[i] with
    | true =>
      simp only [if_true, Bool.true_and, wrap_nat i (by omega)]
      exact ihd (i + 1) (by omega) (by omega)
    | false =>
      simp only [Bool.false_eq_true, if_false, Bool.false_and]
      exact Ev.now false
theorem l1Fit_ev : ∀ t : Tk, Ev (fun k => spec_l1Fit.f k t.f0 t.f1 t.f2) (fitT t) := by
  refine tk_ind fun t ih => ?_
  refine Ev.step (fun k => by rw [spec_l1Fit.f]) ?_
  refine Ev.bind (l1Shape_ev t.f0) ?_
  rw [fitT_eq]
  have bad : Ev (fun k => spec_l1Fit.j0 k true t.f0 t.f1 t.f2) false := by
    refine Ev.step (fun k => by rw [spec_l1Fit.j0]) ?_
    simp only [if_true]
    exact Ev.now false
  have good : t.f2.length ≤ 3 → ∀ c : Bool, Ev (fun k => spec_l1Fit.j0 k (!c) t.f0 t.f1 t.f2) (c && fitL t.f2) := by
    intro hl c
    refine Ev.step (fun k => by rw [spec_l1Fit.j0]) ?_
    cases c with
    | false =>
      simp only [Bool.not_false, if_true, Bool.false_and]
      exact Ev.now false
    | true =>
      simp only [Bool.not_true, Bool.false_eq_true, if_false, Bool.true_and]
      exact l1Fit_loop t.f0 t.f1 t.f2 hl ih t.f2.length 0 (by omega) (by omega)
  have e0 : ∀ m : Nat, ((t.f2.length : Int) = (m : Int)) = (t.f2.length = m) := fun m => by rw [eq_iff_iff]; omega
  have e1 : ((t.f2.length : Int) = 0) = (t.f2.length = 0) := e0 0
  have e2 : ((t.f2.length : Int) = 1) = (t.f2.length = 1) := e0 1
  have e3 : ((t.f2.length : Int) = 2) = (t.f2.length = 2) := e0 2
  have e4 : ((t.f2.length : Int) = 3) = (t.f2.length = 3) := e0 3
  simp only [l6In_ev, Option.bind_some]
  unfold shapeB
  by_cases h0 : t.f0 = 0
  · simp only [h0, if_true, e1] at good bad ⊢
    by_cases hl : t.f2.length = 0
    · simp only [hl, if_true, decide_true, Bool.and_true] at good ⊢
      exact good (by omega) _
    · simp only [hl, if_false, decide_false, Bool.and_false, Bool.false_and]
      exact bad
  by_cases h1 : t.f0 = 1
  · have e9 : ∀ x : Int, (0 ≤ x ∧ x < 10) = (0 ≤ x ∧ x ≤ 9) := fun x => by rw [eq_iff_iff]; omega
    simp only [h1, if_true, e1, e9, show ¬ ((1 : Int) = 0) by decide, if_false] at good bad ⊢
    by_cases hl : t.f2.length = 0
    · simp only [hl, if_true, decide_true, Bool.and_true] at good ⊢
      exact good (by omega) _
    · simp only [hl, if_false, decide_false, Bool.and_false, Bool.false_and]
      exact bad
  by_cases h2 : t.f0 = 2
  · have e9 : ∀ x : Int, (x = 0) = (0 ≤ x ∧ x ≤ 0) := fun x => by rw [eq_iff_iff]; omega
    simp only [h2, if_true, e3, e9 t.f1, show ¬ ((2 : Int) = 0) by decide, show ¬ ((2 : Int) = 1) by decide, if_false] at good bad ⊢
    by_cases hl : t.f2.length = 2
    · simp only [hl, if_true, decide_true, Bool.and_true] at good ⊢
      exact good (by omega) _
    · simp only [hl, if_false, decide_false, Bool.and_false, Bool.false_and]
      exact bad
  by_cases h3 : t.f0 = 3
  · have e9 : ∀ x : Int, (x = 0) = (0 ≤ x ∧ x ≤ 0) := fun x => by rw [eq_iff_iff]; omega
    simp only [h3, if_true, e3, e9 t.f1, show ¬ ((3 : Int) = 0) by decide, show ¬ ((3 : Int) = 1) by decide, show ¬ ((3 : Int) = 2) by decide, if_false] at good bad ⊢
    by_cases hl : t.f2.length = 2
    · simp only [hl, if_true, decide_true, Bool.and_true] at good ⊢
      exact good (by omega) _
    · simp only [hl, if_false, decide_false, Bool.and_false, Bool.false_and]
      exact bad
  by_cases h4 : t.f0 = 4
  · have e9 : ∀ x : Int, (x = 0) = (0 ≤ x ∧ x ≤ 0) := fun x => by rw [eq_iff_iff]; omega
    simp only [h4, if_true, e4, e9 t.f1, show ¬ ((4 : Int) = 0) by decide, show ¬ ((4 : Int) = 1) by decide, show ¬ ((4 : Int) = 2) by decide, show ¬ ((4 : Int) = 3) by decide, if_false] at good bad ⊢
    by_cases hl : t.f2.length = 3
    · simp only [hl, if_true, decide_true, Bool.and_true] at good ⊢
      exact good (by omega) _
    · simp only [hl, if_false, decide_false, Bool.and_false, Bool.false_and]
      exact bad
  by_cases h5 : t.f0 = 5
  · have e9 : ∀ x : Int, (0 ≤ x ∧ x < 10) = (0 ≤ x ∧ x ≤ 9) := fun x => by rw [eq_iff_iff]; omega
    simp only [h5, if_true, e2, e9 t.f1, show ¬ ((5 : Int) = 0) by decide, show ¬ ((5 : Int) = 1) by decide, show ¬ ((5 : Int) = 2) by decide, show ¬ ((5 : Int) = 3) by decide, show ¬ ((5 : Int) = 4) by decide, if_false] at good bad ⊢
    by_cases hl : t.f2.length = 1
    · simp only [hl, if_true, decide_true, Bool.and_true] at good ⊢
      exact good (by omega) _
    · simp only [hl, if_false, decide_false, Bool.and_false, Bool.false_and]
      exact bad
  · simp only [h0, h1, h2, h3, h4, h5, if_false, Bool.false_eq_true, Bool.false_and]
    exact bad
theorem l1Nodes_loop (a b : Int) (ps : List Tk) (hlen : ps.length ≤ 4000000000) (ih : ∀ p ∈ ps, (nodT p : Int) ≤ 4000000000 → Ev (fun k => spec_l1Nodes.f k p.f0 p.f1 p.f2) (nodT p : Int)) :
    ∀ (d i : Nat) (n : Int), d = ps.length - i → i ≤ ps.length → 0 ≤ n → n + (nodL (ps.drop i) : Int) ≤ 4000000000 → Ev (fun k => spec_l1Nodes.l0 k n (i : Int) a b ps) (n + nodL (ps.drop i)) := by
  intro d
  induction d with
  | zero =>
    intro i n hd hi hn hb
    have e : i = ps.length := by omega
    subst e
    refine Ev.step (fun k => by rw [spec_l1Nodes.l0]) ?_
    simp only [if_neg (show ¬ ((ps.length : Int) < (ps.length : Int)) by omega), List.drop_length, nodL]
    exact Ev.eq (Ev.now n) (by omega)
  | succ d ihd =>
    intro i n hd hi hn hb
    have hlt : i < ps.length := by omega
    have hrd := rd_tk ps i hlt
    have hmem : ps[i] ∈ ps := List.getElem_mem hlt
    rw [drop_tk ps i hlt] at hb ⊢
    simp only [nodL] at hb ⊢
    refine Ev.step (fun k => by rw [spec_l1Nodes.l0]) ?_
    simp only [if_pos (show (i : Int) < (ps.length : Int) by omega), if_pos (show (0 : Int) ≤ (i : Int) by omega), hrd]
    refine Ev.bind (ih _ hmem (by omega)) ?_
    simp only [wrap_nat i (by omega), wrap_id (n + (nodT ps[i] : Int)) (by omega) (by omega)]
    exact Ev.eq (ihd (i + 1) (n + nodT ps[i]) (by omega) (by omega) (by omega) (by omega)) (by omega)
theorem l1Nodes_ev : ∀ t : Tk, (nodT t : Int) ≤ 4000000000 → Ev (fun k => spec_l1Nodes.f k t.f0 t.f1 t.f2) (nodT t : Int) := by
  refine tk_ind fun t ih hb => ?_
  rw [nodT_eq] at hb ⊢
  have := nodL_len t.f2
  refine Ev.step (fun k => by rw [spec_l1Nodes.f]) ?_
  exact Ev.eq (l1Nodes_loop t.f0 t.f1 t.f2 (by omega) ih t.f2.length 0 1 (by omega) (by omega) (by omega) (by rw [List.drop_zero]; omega)) (by rw [List.drop_zero]; omega)
theorem specOk_ev (t : Tk) (hb : (nodT t : Int) ≤ 4000000000) : Ev (fun k => spec_TaskOk.f k t.f0 t.f1 t.f2) (okT t) := by
  unfold spec_TaskOk.f
  refine Ev.bind (l1Fit_ev t) ?_
  unfold okT
  cases h : fitT t with
  | false =>
    simp only [Bool.false_eq_true, if_false, Bool.false_and]
    exact Ev.now false
  | true =>
    simp only [if_true, Bool.true_and]
    refine Ev.bind (l1Nodes_ev t hb) ?_
    refine Ev.of_eq ?_
    congr 1
    rw [Bool.eq_iff_iff]
    simp only [decide_eq_true_eq]
    omega
end Go.Proofs.Ytgbjbpjmbghlbaa.G
end
