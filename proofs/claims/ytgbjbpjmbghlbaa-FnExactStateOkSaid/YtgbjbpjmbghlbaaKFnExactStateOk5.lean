-- Written by pack.py (ours): the claim's texts, cut down to what its theorem reaches.
import Derived.Test.YtgbjbpjmbghlbaaKFnExactStateOk4
section
namespace Go.Proofs.Ytgbjbpjmbghlbaa.G
open Go.RowKit Go.Proofs.YtgbjbpjmbghlbaaW.PrintWords Go.Proofs.YtgbjbpjmbghlbaaW.PrintLast Go.Proofs.YtgbjbpjmbghlbaaW.PrintMore
attribute [local go_sem] max2_int min2_int max_two min_two max_three min_three max_four min_four
set_option linter.unusedVariables false
set_option linter.unusedSimpArgs false
def impl_TracesOk.f (l0 : List (S87)) : Option (Bool) := if (l0.length : Int) ≤ 60 then ((impl_TracesOk_1_any.f l0).bind fun t604 => (some (!t604))) else (some false)
set_option maxHeartbeats 8000000 in
set_option maxRecDepth 100000 in
theorem impl_TracesOk.calls (A0 : Option Addr) (c0 : Nat) (l0 : List (S87)) (r : Bool) (w : World) (hr0 : Kd.C k87 w A0 l0.length l0) (hc0 : l0.length ≤ c0) (h : impl_TracesOk.f l0 = some r) :
    Calls Try.prog 63 #[.slice A0 l0.length c0] w fun e w' => e = .returned (.bool r) ∧ Below w.heap.size w w' := by
  have HR0 := qM hr0
  have HC0 := qM hc0
  clear hr0 hc0
  have HB := qM (Below.refl w.heap.size w)
  have H : (if (l0.length : Int) ≤ 60 then ((impl_TracesOk_1_any.f l0).bind fun t604 => (some (!t604))) else (some false)) = some r := h
  clear h
  by_cases c2 : (l0.length : Int) ≤ 60
  rotate_left
  · rw [if_neg c2] at H
    have c2b0 : decide ((l0.length : Int) ≤ 60) = false := decide_eq_false c2
    have c2b1 : decide (l0.length ≤ 60) = false := decide_eq_false (by omega)
    clear c2
    obtain rfl := Option.some.inj H
    go_enter Try.func63, Try.ntmps63
    go_wp2
    go_ret
    exact ⟨by first | rfl | (simp [errW_none, errW_some] <;> rfl) | (simp [*, errW_none, errW_some] <;> rfl), by repeat (first | (with_reducible first | exact HB.out | apply qA | apply qN | apply qD) | exact HB.out)⟩
  rw [if_pos c2] at H
  have c2b0 : decide ((l0.length : Int) ≤ 60) = true := decide_eq_true c2
  have c2b1 : decide (l0.length ≤ 60) = true := decide_eq_true (by omega)
  clear c2
  replace H := Option.bind_eq_some_iff.mp H
  obtain ⟨t604, A30, H⟩ := H
  replace H : (some (!t604)) = some r := H
  have A3 := qM A30
  clear A30
  obtain rfl := Option.some.inj H
  go_enter Try.func63, Try.ntmps63
  go_wp2_with (first | (go_at_call 92; (with_reducible refine (impl_TracesOk_1_any.calls _ _ l0  t604 _ ?side1 ?side2 A3.out).mono ?_); (case side1 => repeat (first | exact HR0.out | (with_reducible refine qc ?_ _) | (with_reducible refine qe ?_ _) | (with_reducible refine qf ?_))); (case side2 => exact HC0.out); rintro e w4 ⟨rfl, hb⟩; have n0_ := qM (qs (by repeat (first | (with_reducible first | exact HB.out | apply qA | apply qN | apply qD) | exact HB.out)) hb); clear HB; have HB := n0_; clear n0_; (try clear hb); (try clear hb2); (try clear hk); (try clear hi)))
  go_ret
  exact ⟨by first | rfl | (simp [errW_none, errW_some] <;> rfl) | (simp [*, errW_none, errW_some] <;> rfl), by repeat (first | (with_reducible first | exact HB.out | apply qA | apply qN | apply qD) | exact HB.out)⟩
mutual
def impl_SheetOk.j0 : Nat → Bool → List Bool → List (S30) → Option (Bool)
  | 0, _, _, _ => none
  | k + 1, x17, x606000, x606001 => if x17 = true then (some false) else (impl_SheetOk.l0 k x606001 (x606001.length : Int) 0 x606000 x606001)
def impl_SheetOk.l0 : Nat → List (S30) → Int → Int → List Bool → List (S30) → Option (Bool)
  | 0, _, _, _, _, _ => none
  | k + 1, x19, x20, x21, x606000, x606001 => if x21 < x20 then (if 0 ≤ x21 then (if x21 < (x19.length : Int) then ((impl_TaskOk.f k ((rd_T30 x19 x21).f0) ((rd_T30 x19 x21).f1) ((rd_T30 x19 x21).f2)).bind fun t608 => (if t608 = true then (if x21 < (x606000.length : Int) then (if rdOf false x606000 x21 = true then (impl_SheetOk.l0 k x19 x20 (wrap64 (x21 + 1)) x606000 x606001) else (if ((rd_T30 x19 x21).f0) = 0 then (if ((rd_T30 x19 x21).f1) = 0 then (impl_SheetOk.l0 k x19 x20 (wrap64 (x21 + 1)) x606000 x606001) else (some false)) else (some false))) else (none)) else (some false))) else (none)) else (none)) else (some true)
end
def impl_SheetOk.f (k : Nat) (l0_0 : List Bool) (l0_1 : List (S30)) : Option (Bool) := if (l0_0.length : Int) = (l0_1.length : Int) then (impl_SheetOk.j0 k (decide ((l0_0.length : Int) > 10)) l0_0 l0_1) else (impl_SheetOk.j0 k true l0_0 l0_1)
set_option maxHeartbeats 8000000 in
set_option maxRecDepth 100000 in
theorem impl_SheetOk.calls (k : Nat) (A0_0 : Option Addr) (c0_0 : Nat) (l0_0 : List Bool) (A0_1 : Option Addr) (c0_1 : Nat) (l0_1 : List (S30)) (r : Bool) (w : World) (hr0_0 : Kd.C Kd.bool w A0_0 l0_0.length l0_0) (hc0_0 : l0_0.length ≤ c0_0) (hr0_1 : Kd.C k30 w A0_1 l0_1.length l0_1) (hc0_1 : l0_1.length ≤ c0_1) (h : impl_SheetOk.f k l0_0 l0_1 = some r) :
    Calls Try.prog 90 #[.agg #[.slice A0_0 l0_0.length c0_0, .slice A0_1 l0_1.length c0_1]] w fun e w' => e = .returned (.bool r) ∧ Below w.heap.size w w' := by
  have hu56 := Try.underlying56
  have hu30 := Try.underlying30
  have HR0_0 := qM hr0_0
  have HC0_0 := qM hc0_0
  clear hr0_0 hc0_0
  have HR0_1 := qM hr0_1
  have HC0_1 := qM hc0_1
  clear hr0_1 hc0_1
  have HB := qM (Below.refl w.heap.size w)
  have H : (if (l0_0.length : Int) = (l0_1.length : Int) then (impl_SheetOk.j0 k (decide ((l0_0.length : Int) > 10)) l0_0 l0_1) else (impl_SheetOk.j0 k true l0_0 l0_1)) = some r := h
  clear h
  have HC2 := qM H
  clear H
  go_enter Try.func90, Try.ntmps90
  go_upto_region 1 with (first | ((with_reducible refine gate_dst (N := 1) rfl ?_); (try (refine gate_guard (by rfl) ?_; dsimp only)); refine box_event ?hg (N := 1) ?hd (cs := #[.slice A0_0 l0_0.length c0_0, .slice A0_1 l0_1.length c0_1]) (t := 56) ?hr ?_; (case hd => rfl); (case hg => rfl); (case hr => first | (go_simp; done) | (go_simp; rfl)); intro gb605 hg w3 hbox hb; have n0_ := qM (qs (by repeat (first | (with_reducible first | exact HB.out | apply qA | apply qN | apply qD) | exact HB.out)) hb); have n1_ := qM (hbox); have n2_ := qM ((by rw [hg]; exact (qz (by repeat (first | (with_reducible first | exact HB.out | apply qA | apply qN | apply qD) | exact HB.out))) : w.heap.size ≤ gb605)); have n3_ := qM ((by rw [hg]; exact (qz (by repeat (first | (with_reducible first | exact HB.out | apply qA | apply qN | apply qD) | exact HB.out))) : w.heap.size ≤ gb605)); clear HB; have HB := n0_; have BK605 := n1_; have GW605 := n2_; have GE605 := n3_; clear n0_ n1_ n2_ n3_; clear hb hbox hg))
  (try simp only [Act.put, List.setIfInBounds_toArray, List.set_cons_zero, List.set_cons_succ])
  go_cut [17] (fun v17 wc => ∃ (kq : Nat) (x17_1 : Bool), v17 = .bool x17_1 ∧ Aside0 (impl_SheetOk.j0 kq x17_1 l0_0 l0_1 = some r) ∧ Aside0 (kq ≤ k) ∧ Aside0 (wc.heap[gb605]? = some (.cells #[(.slice A0_0 l0_0.length c0_0), (.slice A0_1 l0_1.length c0_1)] 56 (0, 0))) ∧ Aside0 (Below w.heap.size w wc))
  case first =>
    have H := HC2.out
    clear HC2
    by_cases c4 : (l0_0.length : Int) = (l0_1.length : Int)
    rotate_left
    · rw [if_neg c4] at H
      have c4b0 : ((l0_0.length : Int) == (l0_1.length : Int)) = false := beq_eq_false_iff_ne.mpr c4
      have c4b1 : ((l0_0.length : Int) != (l0_1.length : Int)) = true := bne_iff_ne.mpr c4
      have c4b2 : (l0_0.length == l0_1.length) = false := by first | simpa using c4 | (simp at c4 ⊢; omega)
      (first | rw [c4b0] | (simp only [i64_w, i32_w]; rw [c4b0]) | skip)
      have H' := qM H
      clear H
      have hcz6_0 : w3.cell? ⟨gb605, 0, none⟩ = some (.slice A0_0 l0_0.length c0_0) := (qC BK605.out 0).trans rfl
      have hcz6_1 : w3.cell? ⟨gb605, 1, none⟩ = some (.slice A0_1 l0_1.length c0_1) := (qC BK605.out 1).trans rfl
      have hfz6_0 := qF BK605.out 0
      have hfz6_1 := qF BK605.out 1
      go_wp2
      go_meet
      case rel => exact ⟨_, (true), (by first | rfl | (simp; done) | (simp [*]; done)), H', ⟨by first | omega | exact Nat.le_refl _⟩, ⟨by (with_reducible repeat (first | refine qn ?_ _ | refine qd ?_ | refine qa ?_ _)); exact BK605.out⟩, ⟨by repeat (first | (with_reducible first | exact HB.out | apply qA | apply qN | apply qD | refine qS ?_ GE605.out) | exact HB.out)⟩⟩
    rw [if_pos c4] at H
    have c4b0 : ((l0_0.length : Int) == (l0_1.length : Int)) = true := beq_iff_eq.mpr c4
    have c4b1 : ((l0_0.length : Int) != (l0_1.length : Int)) = false := bne_eq_false_iff_eq.mpr c4
    have c4b2 : (l0_0.length == l0_1.length) = true := by first | simpa using c4 | (simp at c4 ⊢; omega)
    clear c4
    (first | rw [c4b0] | (simp only [i64_w, i32_w]; rw [c4b0]) | skip)
    have H' := qM H
    clear H
    have hcz5_0 : w3.cell? ⟨gb605, 0, none⟩ = some (.slice A0_0 l0_0.length c0_0) := (qC BK605.out 0).trans rfl
    have hcz5_1 : w3.cell? ⟨gb605, 1, none⟩ = some (.slice A0_1 l0_1.length c0_1) := (qC BK605.out 1).trans rfl
    have hfz5_0 := qF BK605.out 0
    have hfz5_1 := qF BK605.out 1
    go_wp2
    go_meet
    case rel => exact ⟨_, (decide ((l0_0.length : Int) > 10)), (by first | rfl | (simp; done) | (simp [*]; done)), H', ⟨by first | omega | exact Nat.le_refl _⟩, ⟨by (with_reducible repeat (first | refine qn ?_ _ | refine qd ?_ | refine qa ?_ _)); exact BK605.out⟩, ⟨by repeat (first | (with_reducible first | exact HB.out | apply qA | apply qN | apply qD | refine qS ?_ GE605.out) | exact HB.out)⟩⟩
  case rest =>
    clear HC2
    try clear p2
    try clear c4
    try clear c4b0
    try clear c4b1
    try clear c4b2
    try clear hcz5_0
    try clear hcz5_1
    try clear hcz6_0
    try clear hcz6_1
    try clear hfz5_0
    try clear hfz5_1
    try clear hfz6_0
    try clear hfz6_1
    obtain ⟨kq, x17_1, rfl, HA, HJ1, BK605, HB⟩ := hcut
    cases kq with
    | zero => exact absurd HA.out (by simp [impl_SheetOk.j0])
    | succ kj1 =>
      have H := HA.out
      clear HA
      simp only [impl_SheetOk.j0] at H
      by_cases c7 : x17_1 = true
      · subst c7
        have H1 : (some false) = some r := by rw [if_pos rfl] at H; exact H
        clear H
        have H := H1
        clear H1
        obtain rfl := Option.some.inj H
        go_wp2
        go_ret
        exact ⟨by first | rfl | (simp [errW_none, errW_some] <;> rfl) | (simp [*, errW_none, errW_some] <;> rfl), by repeat (first | (with_reducible first | exact HB.out | apply qA | apply qN | apply qD | refine qS ?_ GE605.out) | exact HB.out)⟩
      replace c7 := Bool.eq_false_iff.mpr c7
      subst c7
      have H1 : (impl_SheetOk.l0 kj1 l0_1 (l0_1.length : Int) 0 l0_0 l0_1) = some r := by rw [if_neg (show ¬ (false = true) by decide)] at H; exact H
      clear H
      have H := H1
      clear H1
      have H' := qM H
      clear H
      have hcz8_0 : wc.cell? ⟨gb605, 0, none⟩ = some (.slice A0_0 l0_0.length c0_0) := (qC BK605.out 0).trans rfl
      have hcz8_1 : wc.cell? ⟨gb605, 1, none⟩ = some (.slice A0_1 l0_1.length c0_1) := (qC BK605.out 1).trans rfl
      have hfz8_0 := qF BK605.out 0
      have hfz8_1 := qF BK605.out 1
      go_wp2
      go_loopg [21] kj1 (fun kq v21 w' => ∃ (x21_2 : Int), v21 = .int .i64 x21_2 ∧ Aside0 (impl_SheetOk.l0 kq l0_1 (l0_1.length : Int) x21_2 l0_0 l0_1 = some r) ∧ Aside0 (kq ≤ kj1) ∧ Aside0 (w'.heap[gb605]? = some (.cells #[(.slice A0_0 l0_0.length c0_0), (.slice A0_1 l0_1.length c0_1)] 56 (0, 0))) ∧ Aside0 (Below w.heap.size w w'))
      case atStart => exact ⟨(0), (by first | rfl | (simp; done) | (simp [*]; done)), H', ⟨Nat.le_refl _⟩, ⟨by (with_reducible repeat (first | refine qn ?_ _ | refine qd ?_ | refine qa ?_ _)); exact BK605.out⟩, ⟨by repeat (first | (with_reducible first | exact HB.out | apply qA | apply qN | apply qD | refine qS ?_ GE605.out) | exact HB.out)⟩⟩
      case round =>
        clear H'
        try clear p2
        try clear c4
        try clear c4b0
        try clear c4b1
        try clear c4b2
        try clear c7
        try clear hcz5_0
        try clear hcz5_1
        try clear hcz6_0
        try clear hcz6_1
        try clear hcz8_0
        try clear hcz8_1
        try clear hfz5_0
        try clear hfz5_1
        try clear hfz6_0
        try clear hfz6_1
        try clear hfz8_0
        try clear hfz8_1
        try clear p2
        obtain ⟨x21_2, rfl, HA, HK2, BK605, HB⟩ := hrel
        cases gk with
        | zero => exact absurd HA.out (by simp [impl_SheetOk.l0])
        | succ k2 =>
          have H := HA.out
          clear HA
          simp only [impl_SheetOk.l0] at H
          by_cases c9 : x21_2 < (l0_1.length : Int)
          rotate_left
          · rw [if_neg c9] at H
            have c9b0 : decide (x21_2 < (l0_1.length : Int)) = false := decide_eq_false c9
            clear c9
            obtain rfl := Option.some.inj H
            go_wp2
            go_ret
            exact ⟨by first | rfl | (simp [errW_none, errW_some] <;> rfl) | (simp [*, errW_none, errW_some] <;> rfl), by repeat (first | (with_reducible first | exact HB.out | apply qA | apply qN | apply qD | refine qS ?_ GE605.out) | exact HB.out)⟩
          rw [if_pos c9] at H
          have c9b0 : decide (x21_2 < (l0_1.length : Int)) = true := decide_eq_true c9
          clear c9
          by_cases c10 : 0 ≤ x21_2
          rotate_left
          · rw [if_neg c10] at H
            exact absurd H (by simp)
          rw [if_pos c10] at H
          have c10b0 : decide (0 ≤ x21_2) = true := decide_eq_true c10
          clear c10
          by_cases c11 : x21_2 < (l0_1.length : Int)
          rotate_left
          · rw [if_neg c11] at H
            exact absurd H (by simp)
          rw [if_pos c11] at H
          have c11b0 : decide (x21_2 < (l0_1.length : Int)) = true := decide_eq_true c11
          clear c11
          replace H := Option.bind_eq_some_iff.mp H
          obtain ⟨t608, A120, H⟩ := H
          replace H : (if t608 = true then (if x21_2 < (l0_0.length : Int) then (if rdOf false l0_0 x21_2 = true then (impl_SheetOk.l0 k2 l0_1 (l0_1.length : Int) (wrap64 (x21_2 + 1)) l0_0 l0_1) else (if ((rd_T30 l0_1 x21_2).f0) = 0 then (if ((rd_T30 l0_1 x21_2).f1) = 0 then (impl_SheetOk.l0 k2 l0_1 (l0_1.length : Int) (wrap64 (x21_2 + 1)) l0_0 l0_1) else (some false)) else (some false))) else (none)) else (some false)) = some r := H
          have A12 := qM A120
          clear A120
          by_cases c13 : t608 = true
          rotate_left
          · replace c13 := Bool.eq_false_iff.mpr c13
            subst c13
            have H1 : (some false) = some r := by rw [if_neg (show ¬ (false = true) by decide)] at H; exact H
            clear H
            have H := H1
            clear H1
            obtain rfl := Option.some.inj H
            have p606 : 0 ≤ (x21_2 : Int) := qO (by first | (with_reducible assumption) | assumption)
            have q606 : x21_2 < (l0_1.length : Int) := qO (by first | (with_reducible assumption) | assumption)
            obtain ⟨ad606, A606_2, c606_2, e606, hx606_0, hx606_1, hx606_2, hl606_2, hi606_2⟩ := at_T30 HR0_1.out x21_2 p606 q606
            cases e606
            replace hx606_0 := (HB.out.cell (qL w _ hx606_0)).trans hx606_0
            replace hx606_1 := (HB.out.cell (qL w _ hx606_1)).trans hx606_1
            replace hx606_2 := (HB.out.cell (qL w _ hx606_2)).trans hx606_2
            have HR606_2 := qM hi606_2
            have HC606_2 := qM hl606_2
            clear hi606_2 hl606_2
            replace p606 := eq_true p606
            replace q606 := eq_true q606
            go_wp2_with (first | ((with_reducible refine gate_dst (N := 4) rfl ?_); (try (refine gate_guard (by rfl) ?_; dsimp only)); refine box_event ?hg (N := 4) ?hd (cs := #[.int .i64 0, .int .i64 0, .slice none 0 0]) (t := 30) ?hr ?_; (case hd => rfl); (case hg => rfl); (case hr => first | (go_simp; done) | (go_simp; rfl)); intro gb607 hg w42 hbox hb; have n0_ := qM (blk_below (g := gb605) (o := .cells #[.slice A0_0 l0_0.length c0_0, .slice (some ad606) l0_1.length c0_1] 56 (0, 0)) (by (with_reducible repeat (first | refine qn ?_ _ | refine qd ?_ | refine qa ?_ _)); exact BK605.out) hb); have n1_ := qM (qs (by repeat (first | (with_reducible first | exact HB.out | apply qA | apply qN | apply qD | refine qS ?_ GE605.out) | exact HB.out)) hb); have n2_ := qM (hbox); have n3_ := qM ((by rw [hg]; exact (qz (by repeat (first | (with_reducible first | exact HB.out | apply qA | apply qN | apply qD | refine qS ?_ GE605.out) | exact HB.out))) : w.heap.size ≤ gb607)); have n4_ := qM ((by rw [hg]; exact (qz (by repeat (first | (with_reducible first | exact HB.out | apply qA | apply qN | apply qD | refine qS ?_ GE605.out) | exact HB.out))) : w.heap.size ≤ gb607)); have n5_ := qM ((by rw [hg]; exact Nat.ne_of_lt (blk_lt (g := gb605) (o := .cells #[.slice A0_0 l0_0.length c0_0, .slice (some ad606) l0_1.length c0_1] 56 (0, 0)) (by (with_reducible repeat (first | refine qn ?_ _ | refine qd ?_ | refine qa ?_ _)); exact BK605.out)) : gb605 ≠ gb607)); have n6_ := qM ((by rw [hg]; exact Nat.ne_of_gt (blk_lt (g := gb605) (o := .cells #[.slice A0_0 l0_0.length c0_0, .slice (some ad606) l0_1.length c0_1] 56 (0, 0)) (by (with_reducible repeat (first | refine qn ?_ _ | refine qd ?_ | refine qa ?_ _)); exact BK605.out)) : gb607 ≠ gb605)); clear BK605; clear HB; have BK605 := n0_; have HB := n1_; have BK607 := n2_; have GW607 := n3_; have GE607 := n4_; have NB605_607 := n5_; have NB607_605 := n6_; clear n0_ n1_ n2_ n3_ n4_ n5_ n6_; clear hb hbox hg; have hnb43 := NB607_605.out; have hnc43 := NB605_607.out; have hcz44_0 : w42.cell? ⟨gb607, 0, none⟩ = some (.int .i64 0) := (qC BK607.out 0).trans rfl; have hcz44_1 : w42.cell? ⟨gb607, 1, none⟩ = some (.int .i64 0) := (qC BK607.out 1).trans rfl; have hcz44_2 : w42.cell? ⟨gb607, 2, none⟩ = some (.slice none 0 0) := (qC BK607.out 2).trans rfl; have hfz44_0 := qF BK607.out 0; have hfz44_1 := qF BK607.out 1; have hfz44_2 := qF BK607.out 2) | ((with_reducible refine gate_callee (f := 26) rfl ?_); refine goesL_ (some 27) rfl rfl Try.func26 (by kernel_rfl) rfl #[.agg #[.int .i64 ((rd_T30 l0_1 x21_2).f0), .int .i64 ((rd_T30 l0_1 x21_2).f1), .slice A606_2 ((rd_T30 l0_1 x21_2).f2).length c606_2]] rfl (by (try simp only [List.map_toArray, List.map_cons, List.map_nil]); first | done | rfl | (simp only [List.length_drop, List.length_take]; rfl)) ?_; (with_reducible refine (impl_TaskOk.calls k2 ((rd_T30 l0_1 x21_2).f0) ((rd_T30 l0_1 x21_2).f1) _ _ ((rd_T30 l0_1 x21_2).f2) false _ ?side1 ?side2 A12.out).mono ?_); (case side1 => exact qB HR606_2.out (by repeat (first | (with_reducible first | exact HB.out | apply qA | apply qN | apply qD | refine qS ?_ GE605.out | refine qS ?_ GE607.out) | exact HB.out))); (case side2 => exact HC606_2.out); rintro e w45 ⟨rfl, hb⟩; refine ⟨_, rfl, ?_⟩; have n0_ := qM (blk_below (g := gb605) (o := .cells #[.slice A0_0 l0_0.length c0_0, .slice (some ad606) l0_1.length c0_1] 56 (0, 0)) (by (with_reducible repeat (first | refine qn ?_ _ | refine qd ?_ | refine qa ?_ _)); refine blk_far ?_ NB605_607.out _; (with_reducible repeat (first | refine qn ?_ _ | refine qd ?_ | refine qa ?_ _)); refine blk_far ?_ NB605_607.out _; (with_reducible repeat (first | refine qn ?_ _ | refine qd ?_ | refine qa ?_ _)); refine blk_far ?_ NB605_607.out _; (with_reducible repeat (first | refine qn ?_ _ | refine qd ?_ | refine qa ?_ _)); exact BK605.out) hb); have n1_ := qM (blk_below (g := gb607) (o := .cells #[.int .i64 ((rd_T30 l0_1 x21_2).f0), .int .i64 ((rd_T30 l0_1 x21_2).f1), .slice A606_2 ((rd_T30 l0_1 x21_2).f2).length c606_2] 30 (0, 0)) (by (with_reducible repeat (first | refine qn ?_ _ | refine qd ?_ | refine qa ?_ _)); refine blk_put (cs := #[.int .i64 ((rd_T30 l0_1 x21_2).f0), .int .i64 ((rd_T30 l0_1 x21_2).f1), .slice none 0 0]) ?_ 2 _ rfl; (with_reducible repeat (first | refine qn ?_ _ | refine qd ?_ | refine qa ?_ _)); refine blk_put (cs := #[.int .i64 ((rd_T30 l0_1 x21_2).f0), .int .i64 0, .slice none 0 0]) ?_ 1 _ rfl; (with_reducible repeat (first | refine qn ?_ _ | refine qd ?_ | refine qa ?_ _)); refine blk_put (cs := #[.int .i64 0, .int .i64 0, .slice none 0 0]) ?_ 0 _ rfl; (with_reducible repeat (first | refine qn ?_ _ | refine qd ?_ | refine qa ?_ _)); exact BK607.out) hb); have n2_ := qM (qs (by repeat (first | (with_reducible first | exact HB.out | apply qA | apply qN | apply qD | refine qS ?_ GE605.out | refine qS ?_ GE607.out) | exact HB.out)) hb); clear BK605; clear BK607; clear HB; have BK605 := n0_; have BK607 := n1_; have HB := n2_; clear n0_ n1_ n2_; (try clear hb); (try clear hb2); (try clear hk); (try clear hi)))
            go_ret
            exact ⟨by first | rfl | (simp [errW_none, errW_some] <;> rfl) | (simp [*, errW_none, errW_some] <;> rfl), by repeat (first | (with_reducible first | exact HB.out | apply qA | apply qN | apply qD | refine qS ?_ GE605.out | refine qS ?_ GE607.out) | exact HB.out)⟩
          subst c13
          have H1 : (if x21_2 < (l0_0.length : Int) then (if rdOf false l0_0 x21_2 = true then (impl_SheetOk.l0 k2 l0_1 (l0_1.length : Int) (wrap64 (x21_2 + 1)) l0_0 l0_1) else (if ((rd_T30 l0_1 x21_2).f0) = 0 then (if ((rd_T30 l0_1 x21_2).f1) = 0 then (impl_SheetOk.l0 k2 l0_1 (l0_1.length : Int) (wrap64 (x21_2 + 1)) l0_0 l0_1) else (some false)) else (some false))) else (none)) = some r := by rw [if_pos rfl] at H; exact H
          clear H
          have H := H1
          clear H1
          by_cases c14 : x21_2 < (l0_0.length : Int)
          rotate_left
          · rw [if_neg c14] at H
            exact absurd H (by simp)
          rw [if_pos c14] at H
          have c14b0 : decide (x21_2 < (l0_0.length : Int)) = true := decide_eq_true c14
          clear c14
          obtain ⟨bq15, hbq15⟩ : ∃ b_ : Bool, b_ = (rdOf false l0_0 x21_2) := ⟨_, rfl⟩
          replace H : (if bq15 = true then (impl_SheetOk.l0 k2 l0_1 (l0_1.length : Int) (wrap64 (x21_2 + 1)) l0_0 l0_1) else (if ((rd_T30 l0_1 x21_2).f0) = 0 then (if ((rd_T30 l0_1 x21_2).f1) = 0 then (impl_SheetOk.l0 k2 l0_1 (l0_1.length : Int) (wrap64 (x21_2 + 1)) l0_0 l0_1) else (some false)) else (some false))) = some r := by rw [← hbq15] at H; exact H
          have Nbq15 := qM hbq15
          clear hbq15
          by_cases c16 : bq15 = true
          · subst c16
            have H1 : (impl_SheetOk.l0 k2 l0_1 (l0_1.length : Int) (wrap64 (x21_2 + 1)) l0_0 l0_1) = some r := by rw [if_pos rfl] at H; exact H
            clear H
            have H := H1
            clear H1
            have H' := qM H
            clear H
            have p606 : 0 ≤ (x21_2 : Int) := qO (by first | (with_reducible assumption) | assumption)
            have q606 : x21_2 < (l0_1.length : Int) := qO (by first | (with_reducible assumption) | assumption)
            obtain ⟨ad606, A606_2, c606_2, e606, hx606_0, hx606_1, hx606_2, hl606_2, hi606_2⟩ := at_T30 HR0_1.out x21_2 p606 q606
            cases e606
            replace hx606_0 := (HB.out.cell (qL w _ hx606_0)).trans hx606_0
            replace hx606_1 := (HB.out.cell (qL w _ hx606_1)).trans hx606_1
            replace hx606_2 := (HB.out.cell (qL w _ hx606_2)).trans hx606_2
            have HR606_2 := qM hi606_2
            have HC606_2 := qM hl606_2
            clear hi606_2 hl606_2
            replace p606 := eq_true p606
            replace q606 := eq_true q606
            go_wp2_with (first | ((with_reducible refine gate_dst (N := 4) rfl ?_); (try (refine gate_guard (by rfl) ?_; dsimp only)); refine box_event ?hg (N := 4) ?hd (cs := #[.int .i64 0, .int .i64 0, .slice none 0 0]) (t := 30) ?hr ?_; (case hd => rfl); (case hg => rfl); (case hr => first | (go_simp; done) | (go_simp; rfl)); intro gb607 hg w17 hbox hb; have n0_ := qM (blk_below (g := gb605) (o := .cells #[.slice A0_0 l0_0.length c0_0, .slice (some ad606) l0_1.length c0_1] 56 (0, 0)) (by (with_reducible repeat (first | refine qn ?_ _ | refine qd ?_ | refine qa ?_ _)); exact BK605.out) hb); have n1_ := qM (qs (by repeat (first | (with_reducible first | exact HB.out | apply qA | apply qN | apply qD | refine qS ?_ GE605.out) | exact HB.out)) hb); have n2_ := qM (hbox); have n3_ := qM ((by rw [hg]; exact (qz (by repeat (first | (with_reducible first | exact HB.out | apply qA | apply qN | apply qD | refine qS ?_ GE605.out) | exact HB.out))) : w.heap.size ≤ gb607)); have n4_ := qM ((by rw [hg]; exact (qz (by repeat (first | (with_reducible first | exact HB.out | apply qA | apply qN | apply qD | refine qS ?_ GE605.out) | exact HB.out))) : w.heap.size ≤ gb607)); have n5_ := qM ((by rw [hg]; exact Nat.ne_of_lt (blk_lt (g := gb605) (o := .cells #[.slice A0_0 l0_0.length c0_0, .slice (some ad606) l0_1.length c0_1] 56 (0, 0)) (by (with_reducible repeat (first | refine qn ?_ _ | refine qd ?_ | refine qa ?_ _)); exact BK605.out)) : gb605 ≠ gb607)); have n6_ := qM ((by rw [hg]; exact Nat.ne_of_gt (blk_lt (g := gb605) (o := .cells #[.slice A0_0 l0_0.length c0_0, .slice (some ad606) l0_1.length c0_1] 56 (0, 0)) (by (with_reducible repeat (first | refine qn ?_ _ | refine qd ?_ | refine qa ?_ _)); exact BK605.out)) : gb607 ≠ gb605)); clear BK605; clear HB; have BK605 := n0_; have HB := n1_; have BK607 := n2_; have GW607 := n3_; have GE607 := n4_; have NB605_607 := n5_; have NB607_605 := n6_; clear n0_ n1_ n2_ n3_ n4_ n5_ n6_; clear hb hbox hg; have hnb18 := NB607_605.out; have hnc18 := NB605_607.out; have hcz19_0 : w17.cell? ⟨gb607, 0, none⟩ = some (.int .i64 0) := (qC BK607.out 0).trans rfl; have hcz19_1 : w17.cell? ⟨gb607, 1, none⟩ = some (.int .i64 0) := (qC BK607.out 1).trans rfl; have hcz19_2 : w17.cell? ⟨gb607, 2, none⟩ = some (.slice none 0 0) := (qC BK607.out 2).trans rfl; have hfz19_0 := qF BK607.out 0; have hfz19_1 := qF BK607.out 1; have hfz19_2 := qF BK607.out 2) | ((with_reducible refine gate_callee (f := 26) rfl ?_); refine goesL_ (some 27) rfl rfl Try.func26 (by kernel_rfl) rfl #[.agg #[.int .i64 ((rd_T30 l0_1 x21_2).f0), .int .i64 ((rd_T30 l0_1 x21_2).f1), .slice A606_2 ((rd_T30 l0_1 x21_2).f2).length c606_2]] rfl (by (try simp only [List.map_toArray, List.map_cons, List.map_nil]); first | done | rfl | (simp only [List.length_drop, List.length_take]; rfl)) ?_; (with_reducible refine (impl_TaskOk.calls k2 ((rd_T30 l0_1 x21_2).f0) ((rd_T30 l0_1 x21_2).f1) _ _ ((rd_T30 l0_1 x21_2).f2) true _ ?side1 ?side2 A12.out).mono ?_); (case side1 => exact qB HR606_2.out (by repeat (first | (with_reducible first | exact HB.out | apply qA | apply qN | apply qD | refine qS ?_ GE605.out | refine qS ?_ GE607.out) | exact HB.out))); (case side2 => exact HC606_2.out); rintro e w20 ⟨rfl, hb⟩; refine ⟨_, rfl, ?_⟩; have n0_ := qM (blk_below (g := gb605) (o := .cells #[.slice A0_0 l0_0.length c0_0, .slice (some ad606) l0_1.length c0_1] 56 (0, 0)) (by (with_reducible repeat (first | refine qn ?_ _ | refine qd ?_ | refine qa ?_ _)); refine blk_far ?_ NB605_607.out _; (with_reducible repeat (first | refine qn ?_ _ | refine qd ?_ | refine qa ?_ _)); refine blk_far ?_ NB605_607.out _; (with_reducible repeat (first | refine qn ?_ _ | refine qd ?_ | refine qa ?_ _)); refine blk_far ?_ NB605_607.out _; (with_reducible repeat (first | refine qn ?_ _ | refine qd ?_ | refine qa ?_ _)); exact BK605.out) hb); have n1_ := qM (blk_below (g := gb607) (o := .cells #[.int .i64 ((rd_T30 l0_1 x21_2).f0), .int .i64 ((rd_T30 l0_1 x21_2).f1), .slice A606_2 ((rd_T30 l0_1 x21_2).f2).length c606_2] 30 (0, 0)) (by (with_reducible repeat (first | refine qn ?_ _ | refine qd ?_ | refine qa ?_ _)); refine blk_put (cs := #[.int .i64 ((rd_T30 l0_1 x21_2).f0), .int .i64 ((rd_T30 l0_1 x21_2).f1), .slice none 0 0]) ?_ 2 _ rfl; (with_reducible repeat (first | refine qn ?_ _ | refine qd ?_ | refine qa ?_ _)); refine blk_put (cs := #[.int .i64 ((rd_T30 l0_1 x21_2).f0), .int .i64 0, .slice none 0 0]) ?_ 1 _ rfl; (with_reducible repeat (first | refine qn ?_ _ | refine qd ?_ | refine qa ?_ _)); refine blk_put (cs := #[.int .i64 0, .int .i64 0, .slice none 0 0]) ?_ 0 _ rfl; (with_reducible repeat (first | refine qn ?_ _ | refine qd ?_ | refine qa ?_ _)); exact BK607.out) hb); have n2_ := qM (qs (by repeat (first | (with_reducible first | exact HB.out | apply qA | apply qN | apply qD | refine qS ?_ GE605.out | refine qS ?_ GE607.out) | exact HB.out)) hb); clear BK605; clear BK607; clear HB; have BK605 := n0_; have BK607 := n1_; have HB := n2_; clear n0_ n1_ n2_; (try clear hb); (try clear hb2); (try clear hk); (try clear hi); have hcz21_0 : w20.cell? ⟨gb605, 0, none⟩ = some (.slice A0_0 l0_0.length c0_0) := (qC BK605.out 0).trans rfl; have hcz21_1 : w20.cell? ⟨gb605, 1, none⟩ = some (.slice (some ad606) l0_1.length c0_1) := (qC BK605.out 1).trans rfl; have hfz21_0 := qF BK605.out 0; have hfz21_1 := qF BK605.out 1; have p609 : 0 ≤ (x21_2 : Int) := qO (by first | (with_reducible assumption) | assumption); have q609 : x21_2 < (l0_0.length : Int) := qO (by first | (with_reducible assumption) | assumption); obtain ⟨ad609, e609, hx609_0⟩ := Kd.at_bool HR0_0.out x21_2 p609 q609; (try rw [← Nbq15.out] at hx609_0); cases e609; replace hx609_0 := (HB.out.cell (qL w _ hx609_0)).trans hx609_0; replace p609 := eq_true p609; replace q609 := eq_true q609))
            go_roundg k2
            case measure => have := HJ1.out; have := HK2.out; omega
            case rel => exact ⟨(wrap64 (x21_2 + 1)), (by first | rfl | (simp; done) | (simp [*]; done)), H', ⟨by have := HJ1.out; have := HK2.out; omega⟩, ⟨by (with_reducible repeat (first | refine qn ?_ _ | refine qd ?_ | refine qa ?_ _)); exact BK605.out⟩, ⟨by repeat (first | (with_reducible first | exact HB.out | apply qA | apply qN | apply qD | refine qS ?_ GE605.out | refine qS ?_ GE607.out) | exact HB.out)⟩⟩
          replace c16 := Bool.eq_false_iff.mpr c16
          subst c16
          have H1 : (if ((rd_T30 l0_1 x21_2).f0) = 0 then (if ((rd_T30 l0_1 x21_2).f1) = 0 then (impl_SheetOk.l0 k2 l0_1 (l0_1.length : Int) (wrap64 (x21_2 + 1)) l0_0 l0_1) else (some false)) else (some false)) = some r := by rw [if_neg (show ¬ (false = true) by decide)] at H; exact H
          clear H
          have H := H1
          clear H1
          by_cases c22 : ((rd_T30 l0_1 x21_2).f0) = 0
          rotate_left
          · rw [if_neg c22] at H
            have c22b0 : (((rd_T30 l0_1 x21_2).f0) == 0) = false := beq_eq_false_iff_ne.mpr c22
            have c22b1 : (((rd_T30 l0_1 x21_2).f0) != 0) = true := bne_iff_ne.mpr c22
            obtain rfl := Option.some.inj H
            have p606 : 0 ≤ (x21_2 : Int) := qO (by first | (with_reducible assumption) | assumption)
            have q606 : x21_2 < (l0_1.length : Int) := qO (by first | (with_reducible assumption) | assumption)
            obtain ⟨ad606, A606_2, c606_2, e606, hx606_0, hx606_1, hx606_2, hl606_2, hi606_2⟩ := at_T30 HR0_1.out x21_2 p606 q606
            cases e606
            replace hx606_0 := (HB.out.cell (qL w _ hx606_0)).trans hx606_0
            replace hx606_1 := (HB.out.cell (qL w _ hx606_1)).trans hx606_1
            replace hx606_2 := (HB.out.cell (qL w _ hx606_2)).trans hx606_2
            have HR606_2 := qM hi606_2
            have HC606_2 := qM hl606_2
            clear hi606_2 hl606_2
            replace p606 := eq_true p606
            replace q606 := eq_true q606
            go_wp2_with (first | ((with_reducible refine gate_dst (N := 4) rfl ?_); (try (refine gate_guard (by rfl) ?_; dsimp only)); refine box_event ?hg (N := 4) ?hd (cs := #[.int .i64 0, .int .i64 0, .slice none 0 0]) (t := 30) ?hr ?_; (case hd => rfl); (case hg => rfl); (case hr => first | (go_simp; done) | (go_simp; rfl)); intro gb607 hg w36 hbox hb; have n0_ := qM (blk_below (g := gb605) (o := .cells #[.slice A0_0 l0_0.length c0_0, .slice (some ad606) l0_1.length c0_1] 56 (0, 0)) (by (with_reducible repeat (first | refine qn ?_ _ | refine qd ?_ | refine qa ?_ _)); exact BK605.out) hb); have n1_ := qM (qs (by repeat (first | (with_reducible first | exact HB.out | apply qA | apply qN | apply qD | refine qS ?_ GE605.out) | exact HB.out)) hb); have n2_ := qM (hbox); have n3_ := qM ((by rw [hg]; exact (qz (by repeat (first | (with_reducible first | exact HB.out | apply qA | apply qN | apply qD | refine qS ?_ GE605.out) | exact HB.out))) : w.heap.size ≤ gb607)); have n4_ := qM ((by rw [hg]; exact (qz (by repeat (first | (with_reducible first | exact HB.out | apply qA | apply qN | apply qD | refine qS ?_ GE605.out) | exact HB.out))) : w.heap.size ≤ gb607)); have n5_ := qM ((by rw [hg]; exact Nat.ne_of_lt (blk_lt (g := gb605) (o := .cells #[.slice A0_0 l0_0.length c0_0, .slice (some ad606) l0_1.length c0_1] 56 (0, 0)) (by (with_reducible repeat (first | refine qn ?_ _ | refine qd ?_ | refine qa ?_ _)); exact BK605.out)) : gb605 ≠ gb607)); have n6_ := qM ((by rw [hg]; exact Nat.ne_of_gt (blk_lt (g := gb605) (o := .cells #[.slice A0_0 l0_0.length c0_0, .slice (some ad606) l0_1.length c0_1] 56 (0, 0)) (by (with_reducible repeat (first | refine qn ?_ _ | refine qd ?_ | refine qa ?_ _)); exact BK605.out)) : gb607 ≠ gb605)); clear BK605; clear HB; have BK605 := n0_; have HB := n1_; have BK607 := n2_; have GW607 := n3_; have GE607 := n4_; have NB605_607 := n5_; have NB607_605 := n6_; clear n0_ n1_ n2_ n3_ n4_ n5_ n6_; clear hb hbox hg; have hnb37 := NB607_605.out; have hnc37 := NB605_607.out; have hcz38_0 : w36.cell? ⟨gb607, 0, none⟩ = some (.int .i64 0) := (qC BK607.out 0).trans rfl; have hcz38_1 : w36.cell? ⟨gb607, 1, none⟩ = some (.int .i64 0) := (qC BK607.out 1).trans rfl; have hcz38_2 : w36.cell? ⟨gb607, 2, none⟩ = some (.slice none 0 0) := (qC BK607.out 2).trans rfl; have hfz38_0 := qF BK607.out 0; have hfz38_1 := qF BK607.out 1; have hfz38_2 := qF BK607.out 2) | ((with_reducible refine gate_callee (f := 26) rfl ?_); refine goesL_ (some 27) rfl rfl Try.func26 (by kernel_rfl) rfl #[.agg #[.int .i64 ((rd_T30 l0_1 x21_2).f0), .int .i64 ((rd_T30 l0_1 x21_2).f1), .slice A606_2 ((rd_T30 l0_1 x21_2).f2).length c606_2]] rfl (by (try simp only [List.map_toArray, List.map_cons, List.map_nil]); first | done | rfl | (simp only [List.length_drop, List.length_take]; rfl)) ?_; (with_reducible refine (impl_TaskOk.calls k2 ((rd_T30 l0_1 x21_2).f0) ((rd_T30 l0_1 x21_2).f1) _ _ ((rd_T30 l0_1 x21_2).f2) true _ ?side1 ?side2 A12.out).mono ?_); (case side1 => exact qB HR606_2.out (by repeat (first | (with_reducible first | exact HB.out | apply qA | apply qN | apply qD | refine qS ?_ GE605.out | refine qS ?_ GE607.out) | exact HB.out))); (case side2 => exact HC606_2.out); rintro e w39 ⟨rfl, hb⟩; refine ⟨_, rfl, ?_⟩; have n0_ := qM (blk_below (g := gb605) (o := .cells #[.slice A0_0 l0_0.length c0_0, .slice (some ad606) l0_1.length c0_1] 56 (0, 0)) (by (with_reducible repeat (first | refine qn ?_ _ | refine qd ?_ | refine qa ?_ _)); refine blk_far ?_ NB605_607.out _; (with_reducible repeat (first | refine qn ?_ _ | refine qd ?_ | refine qa ?_ _)); refine blk_far ?_ NB605_607.out _; (with_reducible repeat (first | refine qn ?_ _ | refine qd ?_ | refine qa ?_ _)); refine blk_far ?_ NB605_607.out _; (with_reducible repeat (first | refine qn ?_ _ | refine qd ?_ | refine qa ?_ _)); exact BK605.out) hb); have n1_ := qM (blk_below (g := gb607) (o := .cells #[.int .i64 ((rd_T30 l0_1 x21_2).f0), .int .i64 ((rd_T30 l0_1 x21_2).f1), .slice A606_2 ((rd_T30 l0_1 x21_2).f2).length c606_2] 30 (0, 0)) (by (with_reducible repeat (first | refine qn ?_ _ | refine qd ?_ | refine qa ?_ _)); refine blk_put (cs := #[.int .i64 ((rd_T30 l0_1 x21_2).f0), .int .i64 ((rd_T30 l0_1 x21_2).f1), .slice none 0 0]) ?_ 2 _ rfl; (with_reducible repeat (first | refine qn ?_ _ | refine qd ?_ | refine qa ?_ _)); refine blk_put (cs := #[.int .i64 ((rd_T30 l0_1 x21_2).f0), .int .i64 0, .slice none 0 0]) ?_ 1 _ rfl; (with_reducible repeat (first | refine qn ?_ _ | refine qd ?_ | refine qa ?_ _)); refine blk_put (cs := #[.int .i64 0, .int .i64 0, .slice none 0 0]) ?_ 0 _ rfl; (with_reducible repeat (first | refine qn ?_ _ | refine qd ?_ | refine qa ?_ _)); exact BK607.out) hb); have n2_ := qM (qs (by repeat (first | (with_reducible first | exact HB.out | apply qA | apply qN | apply qD | refine qS ?_ GE605.out | refine qS ?_ GE607.out) | exact HB.out)) hb); clear BK605; clear BK607; clear HB; have BK605 := n0_; have BK607 := n1_; have HB := n2_; clear n0_ n1_ n2_; (try clear hb); (try clear hb2); (try clear hk); (try clear hi); have hcz40_0 : w39.cell? ⟨gb605, 0, none⟩ = some (.slice A0_0 l0_0.length c0_0) := (qC BK605.out 0).trans rfl; have hcz40_1 : w39.cell? ⟨gb605, 1, none⟩ = some (.slice (some ad606) l0_1.length c0_1) := (qC BK605.out 1).trans rfl; have hfz40_0 := qF BK605.out 0; have hfz40_1 := qF BK605.out 1; have p609 : 0 ≤ (x21_2 : Int) := qO (by first | (with_reducible assumption) | assumption); have q609 : x21_2 < (l0_0.length : Int) := qO (by first | (with_reducible assumption) | assumption); obtain ⟨ad609, e609, hx609_0⟩ := Kd.at_bool HR0_0.out x21_2 p609 q609; (try rw [← Nbq15.out] at hx609_0); cases e609; replace hx609_0 := (HB.out.cell (qL w _ hx609_0)).trans hx609_0; replace p609 := eq_true p609; replace q609 := eq_true q609; have hcz41_0 : w39.cell? ⟨gb607, 0, none⟩ = some (.int .i64 ((rd_T30 l0_1 x21_2).f0)) := (qC BK607.out 0).trans rfl; have hcz41_1 : w39.cell? ⟨gb607, 1, none⟩ = some (.int .i64 ((rd_T30 l0_1 x21_2).f1)) := (qC BK607.out 1).trans rfl; have hcz41_2 : w39.cell? ⟨gb607, 2, none⟩ = some (.slice A606_2 ((rd_T30 l0_1 x21_2).f2).length c606_2) := (qC BK607.out 2).trans rfl; have hfz41_0 := qF BK607.out 0; have hfz41_1 := qF BK607.out 1; have hfz41_2 := qF BK607.out 2))
            go_ret
            exact ⟨by first | rfl | (simp [errW_none, errW_some] <;> rfl) | (simp [*, errW_none, errW_some] <;> rfl), by repeat (first | (with_reducible first | exact HB.out | apply qA | apply qN | apply qD | refine qS ?_ GE605.out | refine qS ?_ GE607.out) | exact HB.out)⟩
          rw [if_pos c22] at H
          have c22b0 : (((rd_T30 l0_1 x21_2).f0) == 0) = true := beq_iff_eq.mpr c22
          have c22b1 : (((rd_T30 l0_1 x21_2).f0) != 0) = false := bne_eq_false_iff_eq.mpr c22
          clear c22
          by_cases c23 : ((rd_T30 l0_1 x21_2).f1) = 0
          rotate_left
          · rw [if_neg c23] at H
            have c23b0 : (((rd_T30 l0_1 x21_2).f1) == 0) = false := beq_eq_false_iff_ne.mpr c23
            have c23b1 : (((rd_T30 l0_1 x21_2).f1) != 0) = true := bne_iff_ne.mpr c23
            obtain rfl := Option.some.inj H
            have p606 : 0 ≤ (x21_2 : Int) := qO (by first | (with_reducible assumption) | assumption)
            have q606 : x21_2 < (l0_1.length : Int) := qO (by first | (with_reducible assumption) | assumption)
            obtain ⟨ad606, A606_2, c606_2, e606, hx606_0, hx606_1, hx606_2, hl606_2, hi606_2⟩ := at_T30 HR0_1.out x21_2 p606 q606
            cases e606
            replace hx606_0 := (HB.out.cell (qL w _ hx606_0)).trans hx606_0
            replace hx606_1 := (HB.out.cell (qL w _ hx606_1)).trans hx606_1
            replace hx606_2 := (HB.out.cell (qL w _ hx606_2)).trans hx606_2
            have HR606_2 := qM hi606_2
            have HC606_2 := qM hl606_2
            clear hi606_2 hl606_2
            replace p606 := eq_true p606
            replace q606 := eq_true q606
            go_wp2_with (first | ((with_reducible refine gate_dst (N := 4) rfl ?_); (try (refine gate_guard (by rfl) ?_; dsimp only)); refine box_event ?hg (N := 4) ?hd (cs := #[.int .i64 0, .int .i64 0, .slice none 0 0]) (t := 30) ?hr ?_; (case hd => rfl); (case hg => rfl); (case hr => first | (go_simp; done) | (go_simp; rfl)); intro gb607 hg w30 hbox hb; have n0_ := qM (blk_below (g := gb605) (o := .cells #[.slice A0_0 l0_0.length c0_0, .slice (some ad606) l0_1.length c0_1] 56 (0, 0)) (by (with_reducible repeat (first | refine qn ?_ _ | refine qd ?_ | refine qa ?_ _)); exact BK605.out) hb); have n1_ := qM (qs (by repeat (first | (with_reducible first | exact HB.out | apply qA | apply qN | apply qD | refine qS ?_ GE605.out) | exact HB.out)) hb); have n2_ := qM (hbox); have n3_ := qM ((by rw [hg]; exact (qz (by repeat (first | (with_reducible first | exact HB.out | apply qA | apply qN | apply qD | refine qS ?_ GE605.out) | exact HB.out))) : w.heap.size ≤ gb607)); have n4_ := qM ((by rw [hg]; exact (qz (by repeat (first | (with_reducible first | exact HB.out | apply qA | apply qN | apply qD | refine qS ?_ GE605.out) | exact HB.out))) : w.heap.size ≤ gb607)); have n5_ := qM ((by rw [hg]; exact Nat.ne_of_lt (blk_lt (g := gb605) (o := .cells #[.slice A0_0 l0_0.length c0_0, .slice (some ad606) l0_1.length c0_1] 56 (0, 0)) (by (with_reducible repeat (first | refine qn ?_ _ | refine qd ?_ | refine qa ?_ _)); exact BK605.out)) : gb605 ≠ gb607)); have n6_ := qM ((by rw [hg]; exact Nat.ne_of_gt (blk_lt (g := gb605) (o := .cells #[.slice A0_0 l0_0.length c0_0, .slice (some ad606) l0_1.length c0_1] 56 (0, 0)) (by (with_reducible repeat (first | refine qn ?_ _ | refine qd ?_ | refine qa ?_ _)); exact BK605.out)) : gb607 ≠ gb605)); clear BK605; clear HB; have BK605 := n0_; have HB := n1_; have BK607 := n2_; have GW607 := n3_; have GE607 := n4_; have NB605_607 := n5_; have NB607_605 := n6_; clear n0_ n1_ n2_ n3_ n4_ n5_ n6_; clear hb hbox hg; have hnb31 := NB607_605.out; have hnc31 := NB605_607.out; have hcz32_0 : w30.cell? ⟨gb607, 0, none⟩ = some (.int .i64 0) := (qC BK607.out 0).trans rfl; have hcz32_1 : w30.cell? ⟨gb607, 1, none⟩ = some (.int .i64 0) := (qC BK607.out 1).trans rfl; have hcz32_2 : w30.cell? ⟨gb607, 2, none⟩ = some (.slice none 0 0) := (qC BK607.out 2).trans rfl; have hfz32_0 := qF BK607.out 0; have hfz32_1 := qF BK607.out 1; have hfz32_2 := qF BK607.out 2) | ((with_reducible refine gate_callee (f := 26) rfl ?_); refine goesL_ (some 27) rfl rfl Try.func26 (by kernel_rfl) rfl #[.agg #[.int .i64 ((rd_T30 l0_1 x21_2).f0), .int .i64 ((rd_T30 l0_1 x21_2).f1), .slice A606_2 ((rd_T30 l0_1 x21_2).f2).length c606_2]] rfl (by (try simp only [List.map_toArray, List.map_cons, List.map_nil]); first | done | rfl | (simp only [List.length_drop, List.length_take]; rfl)) ?_; (with_reducible refine (impl_TaskOk.calls k2 ((rd_T30 l0_1 x21_2).f0) ((rd_T30 l0_1 x21_2).f1) _ _ ((rd_T30 l0_1 x21_2).f2) true _ ?side1 ?side2 A12.out).mono ?_); (case side1 => exact qB HR606_2.out (by repeat (first | (with_reducible first | exact HB.out | apply qA | apply qN | apply qD | refine qS ?_ GE605.out | refine qS ?_ GE607.out) | exact HB.out))); (case side2 => exact HC606_2.out); rintro e w33 ⟨rfl, hb⟩; refine ⟨_, rfl, ?_⟩; have n0_ := qM (blk_below (g := gb605) (o := .cells #[.slice A0_0 l0_0.length c0_0, .slice (some ad606) l0_1.length c0_1] 56 (0, 0)) (by (with_reducible repeat (first | refine qn ?_ _ | refine qd ?_ | refine qa ?_ _)); refine blk_far ?_ NB605_607.out _; (with_reducible repeat (first | refine qn ?_ _ | refine qd ?_ | refine qa ?_ _)); refine blk_far ?_ NB605_607.out _; (with_reducible repeat (first | refine qn ?_ _ | refine qd ?_ | refine qa ?_ _)); refine blk_far ?_ NB605_607.out _; (with_reducible repeat (first | refine qn ?_ _ | refine qd ?_ | refine qa ?_ _)); exact BK605.out) hb); have n1_ := qM (blk_below (g := gb607) (o := .cells #[.int .i64 ((rd_T30 l0_1 x21_2).f0), .int .i64 ((rd_T30 l0_1 x21_2).f1), .slice A606_2 ((rd_T30 l0_1 x21_2).f2).length c606_2] 30 (0, 0)) (by (with_reducible repeat (first | refine qn ?_ _ | refine qd ?_ | refine qa ?_ _)); refine blk_put (cs := #[.int .i64 ((rd_T30 l0_1 x21_2).f0), .int .i64 ((rd_T30 l0_1 x21_2).f1), .slice none 0 0]) ?_ 2 _ rfl; (with_reducible repeat (first | refine qn ?_ _ | refine qd ?_ | refine qa ?_ _)); refine blk_put (cs := #[.int .i64 ((rd_T30 l0_1 x21_2).f0), .int .i64 0, .slice none 0 0]) ?_ 1 _ rfl; (with_reducible repeat (first | refine qn ?_ _ | refine qd ?_ | refine qa ?_ _)); refine blk_put (cs := #[.int .i64 0, .int .i64 0, .slice none 0 0]) ?_ 0 _ rfl; (with_reducible repeat (first | refine qn ?_ _ | refine qd ?_ | refine qa ?_ _)); exact BK607.out) hb); have n2_ := qM (qs (by repeat (first | (with_reducible first | exact HB.out | apply qA | apply qN | apply qD | refine qS ?_ GE605.out | refine qS ?_ GE607.out) | exact HB.out)) hb); clear BK605; clear BK607; clear HB; have BK605 := n0_; have BK607 := n1_; have HB := n2_; clear n0_ n1_ n2_; (try clear hb); (try clear hb2); (try clear hk); (try clear hi); have hcz34_0 : w33.cell? ⟨gb605, 0, none⟩ = some (.slice A0_0 l0_0.length c0_0) := (qC BK605.out 0).trans rfl; have hcz34_1 : w33.cell? ⟨gb605, 1, none⟩ = some (.slice (some ad606) l0_1.length c0_1) := (qC BK605.out 1).trans rfl; have hfz34_0 := qF BK605.out 0; have hfz34_1 := qF BK605.out 1; have p609 : 0 ≤ (x21_2 : Int) := qO (by first | (with_reducible assumption) | assumption); have q609 : x21_2 < (l0_0.length : Int) := qO (by first | (with_reducible assumption) | assumption); obtain ⟨ad609, e609, hx609_0⟩ := Kd.at_bool HR0_0.out x21_2 p609 q609; (try rw [← Nbq15.out] at hx609_0); cases e609; replace hx609_0 := (HB.out.cell (qL w _ hx609_0)).trans hx609_0; replace p609 := eq_true p609; replace q609 := eq_true q609; have hcz35_0 : w33.cell? ⟨gb607, 0, none⟩ = some (.int .i64 ((rd_T30 l0_1 x21_2).f0)) := (qC BK607.out 0).trans rfl; have hcz35_1 : w33.cell? ⟨gb607, 1, none⟩ = some (.int .i64 ((rd_T30 l0_1 x21_2).f1)) := (qC BK607.out 1).trans rfl; have hcz35_2 : w33.cell? ⟨gb607, 2, none⟩ = some (.slice A606_2 ((rd_T30 l0_1 x21_2).f2).length c606_2) := (qC BK607.out 2).trans rfl; have hfz35_0 := qF BK607.out 0; have hfz35_1 := qF BK607.out 1; have hfz35_2 := qF BK607.out 2))
            go_ret
            exact ⟨by first | rfl | (simp [errW_none, errW_some] <;> rfl) | (simp [*, errW_none, errW_some] <;> rfl), by repeat (first | (with_reducible first | exact HB.out | apply qA | apply qN | apply qD | refine qS ?_ GE605.out | refine qS ?_ GE607.out) | exact HB.out)⟩
          rw [if_pos c23] at H
          have c23b0 : (((rd_T30 l0_1 x21_2).f1) == 0) = true := beq_iff_eq.mpr c23
          have c23b1 : (((rd_T30 l0_1 x21_2).f1) != 0) = false := bne_eq_false_iff_eq.mpr c23
          clear c23
          have H' := qM H
          clear H
          have p606 : 0 ≤ (x21_2 : Int) := qO (by first | (with_reducible assumption) | assumption)
          have q606 : x21_2 < (l0_1.length : Int) := qO (by first | (with_reducible assumption) | assumption)
          obtain ⟨ad606, A606_2, c606_2, e606, hx606_0, hx606_1, hx606_2, hl606_2, hi606_2⟩ := at_T30 HR0_1.out x21_2 p606 q606
          cases e606
          replace hx606_0 := (HB.out.cell (qL w _ hx606_0)).trans hx606_0
          replace hx606_1 := (HB.out.cell (qL w _ hx606_1)).trans hx606_1
          replace hx606_2 := (HB.out.cell (qL w _ hx606_2)).trans hx606_2
          have HR606_2 := qM hi606_2
          have HC606_2 := qM hl606_2
          clear hi606_2 hl606_2
          replace p606 := eq_true p606
          replace q606 := eq_true q606
          go_wp2_with (first | ((with_reducible refine gate_dst (N := 4) rfl ?_); (try (refine gate_guard (by rfl) ?_; dsimp only)); refine box_event ?hg (N := 4) ?hd (cs := #[.int .i64 0, .int .i64 0, .slice none 0 0]) (t := 30) ?hr ?_; (case hd => rfl); (case hg => rfl); (case hr => first | (go_simp; done) | (go_simp; rfl)); intro gb607 hg w24 hbox hb; have n0_ := qM (blk_below (g := gb605) (o := .cells #[.slice A0_0 l0_0.length c0_0, .slice (some ad606) l0_1.length c0_1] 56 (0, 0)) (by (with_reducible repeat (first | refine qn ?_ _ | refine qd ?_ | refine qa ?_ _)); exact BK605.out) hb); have n1_ := qM (qs (by repeat (first | (with_reducible first | exact HB.out | apply qA | apply qN | apply qD | refine qS ?_ GE605.out) | exact HB.out)) hb); have n2_ := qM (hbox); have n3_ := qM ((by rw [hg]; exact (qz (by repeat (first | (with_reducible first | exact HB.out | apply qA | apply qN | apply qD | refine qS ?_ GE605.out) | exact HB.out))) : w.heap.size ≤ gb607)); have n4_ := qM ((by rw [hg]; exact (qz (by repeat (first | (with_reducible first | exact HB.out | apply qA | apply qN | apply qD | refine qS ?_ GE605.out) | exact HB.out))) : w.heap.size ≤ gb607)); have n5_ := qM ((by rw [hg]; exact Nat.ne_of_lt (blk_lt (g := gb605) (o := .cells #[.slice A0_0 l0_0.length c0_0, .slice (some ad606) l0_1.length c0_1] 56 (0, 0)) (by (with_reducible repeat (first | refine qn ?_ _ | refine qd ?_ | refine qa ?_ _)); exact BK605.out)) : gb605 ≠ gb607)); have n6_ := qM ((by rw [hg]; exact Nat.ne_of_gt (blk_lt (g := gb605) (o := .cells #[.slice A0_0 l0_0.length c0_0, .slice (some ad606) l0_1.length c0_1] 56 (0, 0)) (by (with_reducible repeat (first | refine qn ?_ _ | refine qd ?_ | refine qa ?_ _)); exact BK605.out)) : gb607 ≠ gb605)); clear BK605; clear HB; have BK605 := n0_; have HB := n1_; have BK607 := n2_; have GW607 := n3_; have GE607 := n4_; have NB605_607 := n5_; have NB607_605 := n6_; clear n0_ n1_ n2_ n3_ n4_ n5_ n6_; clear hb hbox hg; have hnb25 := NB607_605.out; have hnc25 := NB605_607.out; have hcz26_0 : w24.cell? ⟨gb607, 0, none⟩ = some (.int .i64 0) := (qC BK607.out 0).trans rfl; have hcz26_1 : w24.cell? ⟨gb607, 1, none⟩ = some (.int .i64 0) := (qC BK607.out 1).trans rfl; have hcz26_2 : w24.cell? ⟨gb607, 2, none⟩ = some (.slice none 0 0) := (qC BK607.out 2).trans rfl; have hfz26_0 := qF BK607.out 0; have hfz26_1 := qF BK607.out 1; have hfz26_2 := qF BK607.out 2) | ((with_reducible refine gate_callee (f := 26) rfl ?_); refine goesL_ (some 27) rfl rfl Try.func26 (by kernel_rfl) rfl #[.agg #[.int .i64 ((rd_T30 l0_1 x21_2).f0), .int .i64 ((rd_T30 l0_1 x21_2).f1), .slice A606_2 ((rd_T30 l0_1 x21_2).f2).length c606_2]] rfl (by (try simp only [List.map_toArray, List.map_cons, List.map_nil]); first | done | rfl | (simp only [List.length_drop, List.length_take]; rfl)) ?_; (with_reducible refine (impl_TaskOk.calls k2 ((rd_T30 l0_1 x21_2).f0) ((rd_T30 l0_1 x21_2).f1) _ _ ((rd_T30 l0_1 x21_2).f2) true _ ?side1 ?side2 A12.out).mono ?_); (case side1 => exact qB HR606_2.out (by repeat (first | (with_reducible first | exact HB.out | apply qA | apply qN | apply qD | refine qS ?_ GE605.out | refine qS ?_ GE607.out) | exact HB.out))); (case side2 => exact HC606_2.out); rintro e w27 ⟨rfl, hb⟩; refine ⟨_, rfl, ?_⟩; have n0_ := qM (blk_below (g := gb605) (o := .cells #[.slice A0_0 l0_0.length c0_0, .slice (some ad606) l0_1.length c0_1] 56 (0, 0)) (by (with_reducible repeat (first | refine qn ?_ _ | refine qd ?_ | refine qa ?_ _)); refine blk_far ?_ NB605_607.out _; (with_reducible repeat (first | refine qn ?_ _ | refine qd ?_ | refine qa ?_ _)); refine blk_far ?_ NB605_607.out _; (with_reducible repeat (first | refine qn ?_ _ | refine qd ?_ | refine qa ?_ _)); refine blk_far ?_ NB605_607.out _; (with_reducible repeat (first | refine qn ?_ _ | refine qd ?_ | refine qa ?_ _)); exact BK605.out) hb); have n1_ := qM (blk_below (g := gb607) (o := .cells #[.int .i64 ((rd_T30 l0_1 x21_2).f0), .int .i64 ((rd_T30 l0_1 x21_2).f1), .slice A606_2 ((rd_T30 l0_1 x21_2).f2).length c606_2] 30 (0, 0)) (by (with_reducible repeat (first | refine qn ?_ _ | refine qd ?_ | refine qa ?_ _)); refine blk_put (cs := #[.int .i64 ((rd_T30 l0_1 x21_2).f0), .int .i64 ((rd_T30 l0_1 x21_2).f1), .slice none 0 0]) ?_ 2 _ rfl; (with_reducible repeat (first | refine qn ?_ _ | refine qd ?_ | refine qa ?_ _)); refine blk_put (cs := #[.int .i64 ((rd_T30 l0_1 x21_2).f0), .int .i64 0, .slice none 0 0]) ?_ 1 _ rfl; (with_reducible repeat (first | refine qn ?_ _ | refine qd ?_ | refine qa ?_ _)); refine blk_put (cs := #[.int .i64 0, .int .i64 0, .slice none 0 0]) ?_ 0 _ rfl; (with_reducible repeat (first | refine qn ?_ _ | refine qd ?_ | refine qa ?_ _)); exact BK607.out) hb); have n2_ := qM (qs (by repeat (first | (with_reducible first | exact HB.out | apply qA | apply qN | apply qD | refine qS ?_ GE605.out | refine qS ?_ GE607.out) | exact HB.out)) hb); clear BK605; clear BK607; clear HB; have BK605 := n0_; have BK607 := n1_; have HB := n2_; clear n0_ n1_ n2_; (try clear hb); (try clear hb2); (try clear hk); (try clear hi); have hcz28_0 : w27.cell? ⟨gb605, 0, none⟩ = some (.slice A0_0 l0_0.length c0_0) := (qC BK605.out 0).trans rfl; have hcz28_1 : w27.cell? ⟨gb605, 1, none⟩ = some (.slice (some ad606) l0_1.length c0_1) := (qC BK605.out 1).trans rfl; have hfz28_0 := qF BK605.out 0; have hfz28_1 := qF BK605.out 1; have p609 : 0 ≤ (x21_2 : Int) := qO (by first | (with_reducible assumption) | assumption); have q609 : x21_2 < (l0_0.length : Int) := qO (by first | (with_reducible assumption) | assumption); obtain ⟨ad609, e609, hx609_0⟩ := Kd.at_bool HR0_0.out x21_2 p609 q609; (try rw [← Nbq15.out] at hx609_0); cases e609; replace hx609_0 := (HB.out.cell (qL w _ hx609_0)).trans hx609_0; replace p609 := eq_true p609; replace q609 := eq_true q609; have hcz29_0 : w27.cell? ⟨gb607, 0, none⟩ = some (.int .i64 ((rd_T30 l0_1 x21_2).f0)) := (qC BK607.out 0).trans rfl; have hcz29_1 : w27.cell? ⟨gb607, 1, none⟩ = some (.int .i64 ((rd_T30 l0_1 x21_2).f1)) := (qC BK607.out 1).trans rfl; have hcz29_2 : w27.cell? ⟨gb607, 2, none⟩ = some (.slice A606_2 ((rd_T30 l0_1 x21_2).f2).length c606_2) := (qC BK607.out 2).trans rfl; have hfz29_0 := qF BK607.out 0; have hfz29_1 := qF BK607.out 1; have hfz29_2 := qF BK607.out 2))
          go_roundg k2
          case measure => have := HJ1.out; have := HK2.out; omega
          case rel => exact ⟨(wrap64 (x21_2 + 1)), (by first | rfl | (simp; done) | (simp [*]; done)), H', ⟨by have := HJ1.out; have := HK2.out; omega⟩, ⟨by (with_reducible repeat (first | refine qn ?_ _ | refine qd ?_ | refine qa ?_ _)); exact BK605.out⟩, ⟨by repeat (first | (with_reducible first | exact HB.out | apply qA | apply qN | apply qD | refine qS ?_ GE605.out | refine qS ?_ GE607.out) | exact HB.out)⟩⟩
def impl_Sheet_has.f (l0_0 : List Bool) (l0_1 : List (S30)) (a1 : Int) : Option (Bool) := if a1 ≥ 0 then (some (decide (a1 < (l0_0.length : Int)))) else (some false)
set_option maxHeartbeats 8000000 in
set_option maxRecDepth 100000 in
theorem impl_Sheet_has.calls (A0_0 : Option Addr) (c0_0 : Nat) (l0_0 : List Bool) (A0_1 : Option Addr) (c0_1 : Nat) (l0_1 : List (S30)) (a1 : Int) (r : Bool) (w : World) (hr0_0 : Kd.C Kd.bool w A0_0 l0_0.length l0_0) (hc0_0 : l0_0.length ≤ c0_0) (hr0_1 : Kd.C k30 w A0_1 l0_1.length l0_1) (hc0_1 : l0_1.length ≤ c0_1) (h : impl_Sheet_has.f l0_0 l0_1 a1 = some r) :
    Calls Try.prog 124 #[.agg #[.slice A0_0 l0_0.length c0_0, .slice A0_1 l0_1.length c0_1], .int .i64 a1] w fun e w' => e = .returned (.bool r) ∧ Below w.heap.size w w' := by
  have hu56 := Try.underlying56
  have HR0_0 := qM hr0_0
  have HC0_0 := qM hc0_0
  clear hr0_0 hc0_0
  have HR0_1 := qM hr0_1
  have HC0_1 := qM hc0_1
  clear hr0_1 hc0_1
  have HB := qM (Below.refl w.heap.size w)
  have H : (if a1 ≥ 0 then (some (decide (a1 < (l0_0.length : Int)))) else (some false)) = some r := h
  clear h
  by_cases c3 : a1 ≥ 0
  rotate_left
  · rw [if_neg c3] at H
    have c3b0 : decide (0 ≤ a1) = false := decide_eq_false c3
    clear c3
    obtain rfl := Option.some.inj H
    go_enter Try.func124, Try.ntmps124
    go_wp2_with (first | ((with_reducible refine gate_dst (N := 2) rfl ?_); (try (refine gate_guard (by rfl) ?_; dsimp only)); refine box_event ?hg (N := 2) ?hd (cs := #[.slice A0_0 l0_0.length c0_0, .slice A0_1 l0_1.length c0_1]) (t := 56) ?hr ?_; (case hd => rfl); (case hg => rfl); (case hr => first | (go_simp; done) | (go_simp; rfl)); intro gb610 hg w6 hbox hb; have n0_ := qM (qs (by repeat (first | (with_reducible first | exact HB.out | apply qA | apply qN | apply qD) | exact HB.out)) hb); have n1_ := qM (hbox); have n2_ := qM ((by rw [hg]; exact (qz (by repeat (first | (with_reducible first | exact HB.out | apply qA | apply qN | apply qD) | exact HB.out))) : w.heap.size ≤ gb610)); have n3_ := qM ((by rw [hg]; exact (qz (by repeat (first | (with_reducible first | exact HB.out | apply qA | apply qN | apply qD) | exact HB.out))) : w.heap.size ≤ gb610)); clear HB; have HB := n0_; have BK610 := n1_; have GW610 := n2_; have GE610 := n3_; clear n0_ n1_ n2_ n3_; clear hb hbox hg))
    go_ret
    exact ⟨by first | rfl | (simp [errW_none, errW_some] <;> rfl) | (simp [*, errW_none, errW_some] <;> rfl), by repeat (first | (with_reducible first | exact HB.out | apply qA | apply qN | apply qD | refine qS ?_ GE610.out) | exact HB.out)⟩
  rw [if_pos c3] at H
  have c3b0 : decide (0 ≤ a1) = true := decide_eq_true c3
  clear c3
  obtain rfl := Option.some.inj H
  go_enter Try.func124, Try.ntmps124
  go_wp2_with (first | ((with_reducible refine gate_dst (N := 2) rfl ?_); (try (refine gate_guard (by rfl) ?_; dsimp only)); refine box_event ?hg (N := 2) ?hd (cs := #[.slice A0_0 l0_0.length c0_0, .slice A0_1 l0_1.length c0_1]) (t := 56) ?hr ?_; (case hd => rfl); (case hg => rfl); (case hr => first | (go_simp; done) | (go_simp; rfl)); intro gb610 hg w4 hbox hb; have n0_ := qM (qs (by repeat (first | (with_reducible first | exact HB.out | apply qA | apply qN | apply qD) | exact HB.out)) hb); have n1_ := qM (hbox); have n2_ := qM ((by rw [hg]; exact (qz (by repeat (first | (with_reducible first | exact HB.out | apply qA | apply qN | apply qD) | exact HB.out))) : w.heap.size ≤ gb610)); have n3_ := qM ((by rw [hg]; exact (qz (by repeat (first | (with_reducible first | exact HB.out | apply qA | apply qN | apply qD) | exact HB.out))) : w.heap.size ≤ gb610)); clear HB; have HB := n0_; have BK610 := n1_; have GW610 := n2_; have GE610 := n3_; clear n0_ n1_ n2_ n3_; clear hb hbox hg; have hcz5_0 : w4.cell? ⟨gb610, 0, none⟩ = some (.slice A0_0 l0_0.length c0_0) := (qC BK610.out 0).trans rfl; have hcz5_1 : w4.cell? ⟨gb610, 1, none⟩ = some (.slice A0_1 l0_1.length c0_1) := (qC BK610.out 1).trans rfl; have hfz5_0 := qF BK610.out 0; have hfz5_1 := qF BK610.out 1))
  go_ret
  exact ⟨by first | rfl | (simp [errW_none, errW_some] <;> rfl) | (simp [*, errW_none, errW_some] <;> rfl), by repeat (first | (with_reducible first | exact HB.out | apply qA | apply qN | apply qD | refine qS ?_ GE610.out) | exact HB.out)⟩
end Go.Proofs.Ytgbjbpjmbghlbaa.G
end
section
namespace Go.Proofs.Ytgbjbpjmbghlbaa.G
open Go.RowKit Go.Proofs.YtgbjbpjmbghlbaaW.PrintWords Go.Proofs.YtgbjbpjmbghlbaaW.PrintLast Go.Proofs.YtgbjbpjmbghlbaaW.PrintMore
attribute [local go_sem] max2_int min2_int max_two min_two max_three min_three max_four min_four
set_option linter.unusedVariables false
set_option linter.unusedSimpArgs false
def impl_Sheet_makes.f (l0_0 : List Bool) (l0_1 : List (S30)) (a1 : Int) : Option (Bool) := (impl_Sheet_has.f l0_0 l0_1 a1).bind fun t612 => (if t612 = true then (if 0 ≤ a1 then (if a1 < (l0_0.length : Int) then (some (rdOf false l0_0 a1)) else (none)) else (none)) else (some false))
set_option maxHeartbeats 8000000 in
set_option maxRecDepth 100000 in
theorem impl_Sheet_makes.calls (A0_0 : Option Addr) (c0_0 : Nat) (l0_0 : List Bool) (A0_1 : Option Addr) (c0_1 : Nat) (l0_1 : List (S30)) (a1 : Int) (r : Bool) (w : World) (hr0_0 : Kd.C Kd.bool w A0_0 l0_0.length l0_0) (hc0_0 : l0_0.length ≤ c0_0) (hr0_1 : Kd.C k30 w A0_1 l0_1.length l0_1) (hc0_1 : l0_1.length ≤ c0_1) (h : impl_Sheet_makes.f l0_0 l0_1 a1 = some r) :
    Calls Try.prog 94 #[.agg #[.slice A0_0 l0_0.length c0_0, .slice A0_1 l0_1.length c0_1], .int .i64 a1] w fun e w' => e = .returned (.bool r) ∧ Below w.heap.size w w' := by
  have hu56 := Try.underlying56
  have HR0_0 := qM hr0_0
  have HC0_0 := qM hc0_0
  clear hr0_0 hc0_0
  have HR0_1 := qM hr0_1
  have HC0_1 := qM hc0_1
  clear hr0_1 hc0_1
  have HB := qM (Below.refl w.heap.size w)
  have H : ((impl_Sheet_has.f l0_0 l0_1 a1).bind fun t612 => (if t612 = true then (if 0 ≤ a1 then (if a1 < (l0_0.length : Int) then (some (rdOf false l0_0 a1)) else (none)) else (none)) else (some false))) = some r := h
  clear h
  replace H := Option.bind_eq_some_iff.mp H
  obtain ⟨t612, A30, H⟩ := H
  replace H : (if t612 = true then (if 0 ≤ a1 then (if a1 < (l0_0.length : Int) then (some (rdOf false l0_0 a1)) else (none)) else (none)) else (some false)) = some r := H
  have A3 := qM A30
  clear A30
  by_cases c4 : t612 = true
  rotate_left
  · replace c4 := Bool.eq_false_iff.mpr c4
    subst c4
    have H1 : (some false) = some r := by rw [if_neg (show ¬ (false = true) by decide)] at H; exact H
    clear H
    have H := H1
    clear H1
    obtain rfl := Option.some.inj H
    go_enter Try.func94, Try.ntmps94
    go_wp2_with (first | ((with_reducible refine gate_dst (N := 2) rfl ?_); refine box_event ?hg (N := 2) ?hd (cs := #[.slice A0_0 l0_0.length c0_0, .slice A0_1 l0_1.length c0_1]) (t := 56) ?hr ?_; (case hd => rfl); (case hg => rfl); (case hr => first | (go_simp; done) | (go_simp; rfl)); intro gb611 hg w11 hbox hb; have n0_ := qM (qs (by repeat (first | (with_reducible first | exact HB.out | apply qA | apply qN | apply qD) | exact HB.out)) hb); have n1_ := qM (hbox); have n2_ := qM ((by rw [hg]; exact (qz (by repeat (first | (with_reducible first | exact HB.out | apply qA | apply qN | apply qD) | exact HB.out))) : w.heap.size ≤ gb611)); have n3_ := qM ((by rw [hg]; exact (qz (by repeat (first | (with_reducible first | exact HB.out | apply qA | apply qN | apply qD) | exact HB.out))) : w.heap.size ≤ gb611)); clear HB; have HB := n0_; have BK611 := n1_; have GW611 := n2_; have GE611 := n3_; clear n0_ n1_ n2_ n3_; clear hb hbox hg; have hcz12_0 : w11.cell? ⟨gb611, 0, none⟩ = some (.slice A0_0 l0_0.length c0_0) := (qC BK611.out 0).trans rfl; have hcz12_1 : w11.cell? ⟨gb611, 1, none⟩ = some (.slice A0_1 l0_1.length c0_1) := (qC BK611.out 1).trans rfl; have hfz12_0 := qF BK611.out 0; have hfz12_1 := qF BK611.out 1) | ((with_reducible refine gate_callee (f := 124) rfl ?_); refine goesL_ (some 7) rfl rfl Try.func124 (by kernel_rfl) rfl #[.agg #[.slice A0_0 l0_0.length c0_0, .slice A0_1 l0_1.length c0_1], .int .i64 a1] rfl (by (try simp only [List.map_toArray, List.map_cons, List.map_nil]); first | done | rfl | (simp only [List.length_drop, List.length_take]; rfl)) ?_; (with_reducible refine (impl_Sheet_has.calls _ _ l0_0 _ _ l0_1 a1 false _ ?side1 ?side2 ?side3 ?side4 A3.out).mono ?_); (case side1 => repeat (first | exact (qB HR0_0.out HB.out) | (with_reducible refine qc ?_ _) | (with_reducible refine qe ?_ _) | (with_reducible refine qf ?_))); (case side2 => exact HC0_0.out); (case side3 => repeat (first | exact (qB HR0_1.out HB.out) | (with_reducible refine qc ?_ _) | (with_reducible refine qe ?_ _) | (with_reducible refine qf ?_))); (case side4 => exact HC0_1.out); rintro e w13 ⟨rfl, hb⟩; refine ⟨_, rfl, ?_⟩; have n0_ := qM (blk_below (g := gb611) (o := .cells #[.slice A0_0 l0_0.length c0_0, .slice A0_1 l0_1.length c0_1] 56 (0, 0)) (by (with_reducible repeat (first | refine qn ?_ _ | refine qd ?_ | refine qa ?_ _)); exact BK611.out) hb); have n1_ := qM (qs (by repeat (first | (with_reducible first | exact HB.out | apply qA | apply qN | apply qD | refine qS ?_ GE611.out) | exact HB.out)) hb); clear BK611; clear HB; have BK611 := n0_; have HB := n1_; clear n0_ n1_; (try clear hb); (try clear hb2); (try clear hk); (try clear hi)))
    go_ret
    exact ⟨by first | rfl | (simp [errW_none, errW_some] <;> rfl) | (simp [*, errW_none, errW_some] <;> rfl), by repeat (first | (with_reducible first | exact HB.out | apply qA | apply qN | apply qD | refine qS ?_ GE611.out) | exact HB.out)⟩
  subst c4
  have H1 : (if 0 ≤ a1 then (if a1 < (l0_0.length : Int) then (some (rdOf false l0_0 a1)) else (none)) else (none)) = some r := by rw [if_pos rfl] at H; exact H
  clear H
  have H := H1
  clear H1
  by_cases c5 : 0 ≤ a1
  rotate_left
  · rw [if_neg c5] at H
    exact absurd H (by simp)
  rw [if_pos c5] at H
  have c5b0 : decide (0 ≤ a1) = true := decide_eq_true c5
  clear c5
  by_cases c6 : a1 < (l0_0.length : Int)
  rotate_left
  · rw [if_neg c6] at H
    exact absurd H (by simp)
  rw [if_pos c6] at H
  have c6b0 : decide (a1 < (l0_0.length : Int)) = true := decide_eq_true c6
  clear c6
  obtain rfl := Option.some.inj H
  go_enter Try.func94, Try.ntmps94
  go_wp2_with (first | ((with_reducible refine gate_dst (N := 2) rfl ?_); refine box_event ?hg (N := 2) ?hd (cs := #[.slice A0_0 l0_0.length c0_0, .slice A0_1 l0_1.length c0_1]) (t := 56) ?hr ?_; (case hd => rfl); (case hg => rfl); (case hr => first | (go_simp; done) | (go_simp; rfl)); intro gb611 hg w7 hbox hb; have n0_ := qM (qs (by repeat (first | (with_reducible first | exact HB.out | apply qA | apply qN | apply qD) | exact HB.out)) hb); have n1_ := qM (hbox); have n2_ := qM ((by rw [hg]; exact (qz (by repeat (first | (with_reducible first | exact HB.out | apply qA | apply qN | apply qD) | exact HB.out))) : w.heap.size ≤ gb611)); have n3_ := qM ((by rw [hg]; exact (qz (by repeat (first | (with_reducible first | exact HB.out | apply qA | apply qN | apply qD) | exact HB.out))) : w.heap.size ≤ gb611)); clear HB; have HB := n0_; have BK611 := n1_; have GW611 := n2_; have GE611 := n3_; clear n0_ n1_ n2_ n3_; clear hb hbox hg; have hcz8_0 : w7.cell? ⟨gb611, 0, none⟩ = some (.slice A0_0 l0_0.length c0_0) := (qC BK611.out 0).trans rfl; have hcz8_1 : w7.cell? ⟨gb611, 1, none⟩ = some (.slice A0_1 l0_1.length c0_1) := (qC BK611.out 1).trans rfl; have hfz8_0 := qF BK611.out 0; have hfz8_1 := qF BK611.out 1) | ((with_reducible refine gate_callee (f := 124) rfl ?_); refine goesL_ (some 7) rfl rfl Try.func124 (by kernel_rfl) rfl #[.agg #[.slice A0_0 l0_0.length c0_0, .slice A0_1 l0_1.length c0_1], .int .i64 a1] rfl (by (try simp only [List.map_toArray, List.map_cons, List.map_nil]); first | done | rfl | (simp only [List.length_drop, List.length_take]; rfl)) ?_; (with_reducible refine (impl_Sheet_has.calls _ _ l0_0 _ _ l0_1 a1 true _ ?side1 ?side2 ?side3 ?side4 A3.out).mono ?_); (case side1 => repeat (first | exact (qB HR0_0.out HB.out) | (with_reducible refine qc ?_ _) | (with_reducible refine qe ?_ _) | (with_reducible refine qf ?_))); (case side2 => exact HC0_0.out); (case side3 => repeat (first | exact (qB HR0_1.out HB.out) | (with_reducible refine qc ?_ _) | (with_reducible refine qe ?_ _) | (with_reducible refine qf ?_))); (case side4 => exact HC0_1.out); rintro e w9 ⟨rfl, hb⟩; refine ⟨_, rfl, ?_⟩; have n0_ := qM (blk_below (g := gb611) (o := .cells #[.slice A0_0 l0_0.length c0_0, .slice A0_1 l0_1.length c0_1] 56 (0, 0)) (by (with_reducible repeat (first | refine qn ?_ _ | refine qd ?_ | refine qa ?_ _)); exact BK611.out) hb); have n1_ := qM (qs (by repeat (first | (with_reducible first | exact HB.out | apply qA | apply qN | apply qD | refine qS ?_ GE611.out) | exact HB.out)) hb); clear BK611; clear HB; have BK611 := n0_; have HB := n1_; clear n0_ n1_; (try clear hb); (try clear hb2); (try clear hk); (try clear hi); have hcz10_0 : w9.cell? ⟨gb611, 0, none⟩ = some (.slice A0_0 l0_0.length c0_0) := (qC BK611.out 0).trans rfl; have hcz10_1 : w9.cell? ⟨gb611, 1, none⟩ = some (.slice A0_1 l0_1.length c0_1) := (qC BK611.out 1).trans rfl; have hfz10_0 := qF BK611.out 0; have hfz10_1 := qF BK611.out 1; have p613 : 0 ≤ (a1 : Int) := qO (by first | (with_reducible assumption) | assumption); have q613 : a1 < (l0_0.length : Int) := qO (by first | (with_reducible assumption) | assumption); obtain ⟨ad613, e613, hx613_0⟩ := Kd.at_bool HR0_0.out a1 p613 q613; cases e613; replace hx613_0 := (HB.out.cell (qL w _ hx613_0)).trans hx613_0; replace p613 := eq_true p613; replace q613 := eq_true q613))
  go_ret
  exact ⟨by first | rfl | (simp [errW_none, errW_some] <;> rfl) | (simp [*, errW_none, errW_some] <;> rfl), by repeat (first | (with_reducible first | exact HB.out | apply qA | apply qN | apply qD | refine qS ?_ GE611.out) | exact HB.out)⟩
end Go.Proofs.Ytgbjbpjmbghlbaa.G
end
section
namespace Go.Proofs.Ytgbjbpjmbghlbaa.G
open Go.RowKit Go.Proofs.YtgbjbpjmbghlbaaW.PrintWords Go.Proofs.YtgbjbpjmbghlbaaW.PrintLast Go.Proofs.YtgbjbpjmbghlbaaW.PrintMore
set_option linter.unusedVariables false
set_option linter.unusedSimpArgs false
set_option maxHeartbeats 8000000 in
set_option maxRecDepth 100000 in
theorem impl_StateOk_1.calls (x : S87) (Au : Option Addr) (cu : Nat) (g : Nat) (A0 : Option Addr) (c0 : Nat) (l0 : List Bool) (A1 : Option Addr) (c1 : Nat) (l1 : List S30) (r : Bool) (w : World) (hg : w.heap[g]? = some (.cells #[.slice A0 l0.length c0, .slice A1 l1.length c1] 56 (0, 0))) (hr0 : Kd.C Kd.bool w A0 l0.length l0) (hc0 : l0.length ≤ c0) (hr1 : Kd.C k30 w A1 l1.length l1) (hc1 : l1.length ≤ c1) (h : impl_Sheet_makes.f l0 l1 x.f0 = some r) :
    Calls Try.prog 93 #[.agg #[.int .i64 x.f0, .slice Au x.f1.length cu, .int .i64 x.f2], .pointer (some ⟨g, 0, none⟩)] w fun e w' => e = .returned (.bool (!r)) ∧ Below w.heap.size w w' := by
  have hu1 := Try.underlying87
  have hu2 := Try.underlying56
  have hg' := qa hg (.cells #[.int .i64 x.f0, .slice Au x.f1.length cu, .int .i64 x.f2] 87)
  have hk0 := (qC hg' 0).trans rfl
  have hk1 := (qC hg' 1).trans rfl
  have HC := qM (impl_Sheet_makes.calls A0 c0 l0 A1 c1 l1 x.f0 r (w.alloc (.cells #[.int .i64 x.f0, .slice Au x.f1.length cu, .int .i64 x.f2] 87)) (qc hr0 _) hc0 (qc hr1 _) hc1 h)
  have hx : (w.alloc (.cells #[.int .i64 x.f0, .slice Au x.f1.length cu, .int .i64 x.f2] 87)).cell? ⟨g, 0, none⟩ = some (.slice A0 l0.length c0) := hk0
  have hy : (w.alloc (.cells #[.int .i64 x.f0, .slice Au x.f1.length cu, .int .i64 x.f2] 87)).cell? ⟨g, 1, none⟩ = some (.slice A1 l1.length c1) := hk1
  clear hk0 hk1 hg' hg hr0 hr1 hc0 hc1 h
  go_enter Try.func93, Try.ntmps93
  go_wp2_with fail
  with_reducible refine HC.out.mono ?_
  rintro e w1 ⟨rfl, hb⟩
  have HB := qM (Below.trans ((Below.refl w.heap.size w).alloc (Nat.le_refl _) _) (hb.mono (by simp)))
  clear hb
  go_wp2
  go_ret
  exact ⟨rfl, HB.out⟩
def impl_StateOk_1_any.f (l0 : List S87) (m : List Bool) (ts : List S30) : Option Bool := if (∀ x ∈ l0, (impl_Sheet_makes.f m ts x.f0).isSome = true) then some (l0.any fun x => !((impl_Sheet_makes.f m ts x.f0).getD false)) else none
theorem impl_StateOk_1_any.calls (A0 : Option Addr) (c0 : Nat) (l0 : List S87) (g : Nat) (A1 : Option Addr) (c1 : Nat) (l1 : List Bool) (A2 : Option Addr) (c2 : Nat) (l2 : List S30) (r : Bool) (w : World) (hg : w.heap[g]? = some (.cells #[.slice A1 l1.length c1, .slice A2 l2.length c2] 56 (0, 0))) (hr0 : Kd.C k87 w A0 l0.length l0) (hc0 : l0.length ≤ c0) (hr1 : Kd.C Kd.bool w A1 l1.length l1) (hc1 : l1.length ≤ c1) (hr2 : Kd.C k30 w A2 l2.length l2) (hc2 : l2.length ≤ c2) (h : impl_StateOk_1_any.f l0 l1 l2 = some r) :
    Calls Try.prog 92 #[.slice A0 l0.length c0, .func (.func 93) #[] #[.pointer (some ⟨g, 0, none⟩)]] w fun e w' => e = .returned (.bool r) ∧ Below w.heap.size w w' := by
  unfold impl_StateOk_1_any.f at h
  split at h
  · rename_i hs
    obtain rfl := Option.some.inj h
    refine containsFuncTrace 93 #[.pointer (some ⟨g, 0, none⟩)] _ A0 c0 l0 w hr0 (enters_fn Try.func93 (by kernel_rfl) rfl) (fun x hx cs W hb hK => ?_)
    obtain ⟨Au, cu, rfl, _, _⟩ := k87_open hK
    obtain ⟨b, hbb⟩ := Option.isSome_iff_exists.1 (hs x hx)
    rw [hbb]
    exact impl_StateOk_1.calls x Au cu g A1 c1 l1 A2 c2 l2 b W ((hb.block g (blk_lt hg)).trans hg) (qB hr1 hb) hc1 (qB hr2 hb) hc2 hbb
  · cases h
end Go.Proofs.Ytgbjbpjmbghlbaa.G
end
section
namespace Go.Proofs.Ytgbjbpjmbghlbaa.G
open Go.RowKit Go.Proofs.YtgbjbpjmbghlbaaW.PrintWords Go.Proofs.YtgbjbpjmbghlbaaW.PrintLast Go.Proofs.YtgbjbpjmbghlbaaW.PrintMore
attribute [local go_sem] max2_int min2_int max_two min_two max_three min_three max_four min_four
set_option linter.unusedVariables false
set_option linter.unusedSimpArgs false
mutual
def impl_StateOk.j0 : Nat → Bool → List Bool → List (S30) → List Int → List Bool → List Int → List (S87) → Option (Bool)
  | 0, _, _, _, _, _, _, _ => none
  | k + 1, x52, x615000, x615001, x616000, x616001, x616002, x616003 => if x52 = true then (some false) else (impl_StateOk.l0 k x615000 (x615000.length : Int) 0 x615000 x615001 x616000 x616001 x616002 x616003)
def impl_StateOk.l0 : Nat → List Bool → Int → Int → List Bool → List (S30) → List Int → List Bool → List Int → List (S87) → Option (Bool)
  | 0, _, _, _, _, _, _, _, _, _ => none
  | k + 1, x54, x55, x56, x615000, x615001, x616000, x616001, x616002, x616003 => if x56 < x55 then (if 0 ≤ x56 then (if x56 < (x54.length : Int) then (if rdOf false x54 x56 = true then (if x56 < (x616002.length : Int) then (if (rd x616002 x56) = 0 then (impl_StateOk.l0 k x54 x55 (wrap64 (x56 + 1)) x615000 x615001 x616000 x616001 x616002 x616003) else (some false)) else (none)) else (if x56 < (x616001.length : Int) then (if rdOf false x616001 x56 = true then (some false) else (if x56 < (x616000.length : Int) then (if x56 < (x616002.length : Int) then (if (rd x616000 x56) = (rd x616002 x56) then (impl_StateOk.l0 k x54 x55 (wrap64 (x56 + 1)) x615000 x615001 x616000 x616001 x616002 x616003) else (some false)) else (none)) else (none))) else (none))) else (none)) else (none)) else ((impl_StateOk_1_any.f x616003 x615000 x615001).bind fun t625 => (some (!t625)))
end
def impl_StateOk.f (k : Nat) (l0_0 : List Bool) (l0_1 : List (S30)) (l1_0 : List Int) (l1_1 : List Bool) (l1_2 : List Int) (l1_3 : List (S87)) : Option (Bool) := (impl_SheetOk.f k l0_0 l0_1).bind fun t616 => (if t616 = true then (if (l1_0.length : Int) = (l0_0.length : Int) then (if (l1_1.length : Int) = (l0_0.length : Int) then (if (l1_2.length : Int) = (l0_0.length : Int) then ((impl_areValues.f l1_0).bind fun t617 => (if t617 = true then ((impl_areValues.f l1_2).bind fun t618 => (if t618 = true then ((impl_TracesOk.f l1_3).bind fun t619 => (impl_StateOk.j0 k (!t619) l0_0 l0_1 l1_0 l1_1 l1_2 l1_3)) else (impl_StateOk.j0 k true l0_0 l0_1 l1_0 l1_1 l1_2 l1_3))) else (impl_StateOk.j0 k true l0_0 l0_1 l1_0 l1_1 l1_2 l1_3))) else (impl_StateOk.j0 k true l0_0 l0_1 l1_0 l1_1 l1_2 l1_3)) else (impl_StateOk.j0 k true l0_0 l0_1 l1_0 l1_1 l1_2 l1_3)) else (impl_StateOk.j0 k true l0_0 l0_1 l1_0 l1_1 l1_2 l1_3)) else (impl_StateOk.j0 k true l0_0 l0_1 l1_0 l1_1 l1_2 l1_3))
set_option maxHeartbeats 8000000 in
set_option maxRecDepth 100000 in
theorem impl_StateOk.calls (k : Nat) (A0_0 : Option Addr) (c0_0 : Nat) (l0_0 : List Bool) (A0_1 : Option Addr) (c0_1 : Nat) (l0_1 : List (S30)) (A1_0 : Option Addr) (c1_0 : Nat) (l1_0 : List Int) (A1_1 : Option Addr) (c1_1 : Nat) (l1_1 : List Bool) (A1_2 : Option Addr) (c1_2 : Nat) (l1_2 : List Int) (A1_3 : Option Addr) (c1_3 : Nat) (l1_3 : List (S87)) (r : Bool) (w : World) (hr0_0 : Kd.C Kd.bool w A0_0 l0_0.length l0_0) (hc0_0 : l0_0.length ≤ c0_0) (hr0_1 : Kd.C k30 w A0_1 l0_1.length l0_1) (hc0_1 : l0_1.length ≤ c0_1) (hr1_0 : Kd.C (Kd.int .i64) w A1_0 l1_0.length l1_0) (hc1_0 : l1_0.length ≤ c1_0) (hr1_1 : Kd.C Kd.bool w A1_1 l1_1.length l1_1) (hc1_1 : l1_1.length ≤ c1_1) (hr1_2 : Kd.C (Kd.int .i64) w A1_2 l1_2.length l1_2) (hc1_2 : l1_2.length ≤ c1_2) (hr1_3 : Kd.C k87 w A1_3 l1_3.length l1_3) (hc1_3 : l1_3.length ≤ c1_3) (h : impl_StateOk.f k l0_0 l0_1 l1_0 l1_1 l1_2 l1_3 = some r) :
    Calls Try.prog 37 #[.agg #[.slice A0_0 l0_0.length c0_0, .slice A0_1 l0_1.length c0_1], .agg #[.slice A1_0 l1_0.length c1_0, .slice A1_1 l1_1.length c1_1, .slice A1_2 l1_2.length c1_2, .slice A1_3 l1_3.length c1_3]] w fun e w' => e = .returned (.bool r) ∧ Below w.heap.size w w' := by
  have hu56 := Try.underlying56
  have hu60 := Try.underlying60
  have hmf : ∀ (fn : Fn) (first cap : Array Value) (W : World), (Instr.makeFunc fn first cap).run Try.prog W = .ok (.func fn first cap) W := fun _ _ _ _ => rfl
  have HR0_0 := qM hr0_0
  have HC0_0 := qM hc0_0
  clear hr0_0 hc0_0
  have HR0_1 := qM hr0_1
  have HC0_1 := qM hc0_1
  clear hr0_1 hc0_1
  have HR1_0 := qM hr1_0
  have HC1_0 := qM hc1_0
  clear hr1_0 hc1_0
  have HR1_1 := qM hr1_1
  have HC1_1 := qM hc1_1
  clear hr1_1 hc1_1
  have HR1_2 := qM hr1_2
  have HC1_2 := qM hc1_2
  clear hr1_2 hc1_2
  have HR1_3 := qM hr1_3
  have HC1_3 := qM hc1_3
  clear hr1_3 hc1_3
  have HB := qM (Below.refl w.heap.size w)
  have H : ((impl_SheetOk.f k l0_0 l0_1).bind fun t616 => (if t616 = true then (if (l1_0.length : Int) = (l0_0.length : Int) then (if (l1_1.length : Int) = (l0_0.length : Int) then (if (l1_2.length : Int) = (l0_0.length : Int) then ((impl_areValues.f l1_0).bind fun t617 => (if t617 = true then ((impl_areValues.f l1_2).bind fun t618 => (if t618 = true then ((impl_TracesOk.f l1_3).bind fun t619 => (impl_StateOk.j0 k (!t619) l0_0 l0_1 l1_0 l1_1 l1_2 l1_3)) else (impl_StateOk.j0 k true l0_0 l0_1 l1_0 l1_1 l1_2 l1_3))) else (impl_StateOk.j0 k true l0_0 l0_1 l1_0 l1_1 l1_2 l1_3))) else (impl_StateOk.j0 k true l0_0 l0_1 l1_0 l1_1 l1_2 l1_3)) else (impl_StateOk.j0 k true l0_0 l0_1 l1_0 l1_1 l1_2 l1_3)) else (impl_StateOk.j0 k true l0_0 l0_1 l1_0 l1_1 l1_2 l1_3)) else (impl_StateOk.j0 k true l0_0 l0_1 l1_0 l1_1 l1_2 l1_3))) = some r := h
  clear h
  have HC3 := qM H
  clear H
  go_enter Try.func37, Try.ntmps37
  go_upto_region 2 with (first | ((with_reducible refine gate_dst (N := 2) rfl ?_); (try (refine gate_guard (by rfl) ?_; dsimp only)); refine box_event ?hg (N := 2) ?hd (cs := #[.slice A0_0 l0_0.length c0_0, .slice A0_1 l0_1.length c0_1]) (t := 56) ?hr ?_; (case hd => rfl); (case hg => rfl); (case hr => first | (go_simp; done) | (go_simp; rfl)); intro gb614 hg w4 hbox hb; have n0_ := qM (qs (by repeat (first | (with_reducible first | exact HB.out | apply qA | apply qN | apply qD) | exact HB.out)) hb); have n1_ := qM (hbox); have n2_ := qM ((by rw [hg]; exact (qz (by repeat (first | (with_reducible first | exact HB.out | apply qA | apply qN | apply qD) | exact HB.out))) : w.heap.size ≤ gb614)); have n3_ := qM ((by rw [hg]; exact (qz (by repeat (first | (with_reducible first | exact HB.out | apply qA | apply qN | apply qD) | exact HB.out))) : w.heap.size ≤ gb614)); clear HB; have HB := n0_; have BK614 := n1_; have GW614 := n2_; have GE614 := n3_; clear n0_ n1_ n2_ n3_; clear hb hbox hg) | ((with_reducible refine gate_dst (N := 3) rfl ?_); (try (refine gate_guard (by rfl) ?_; dsimp only)); refine box_event ?hg (N := 3) ?hd (cs := #[.slice A1_0 l1_0.length c1_0, .slice A1_1 l1_1.length c1_1, .slice A1_2 l1_2.length c1_2, .slice A1_3 l1_3.length c1_3]) (t := 60) ?hr ?_; (case hd => rfl); (case hg => rfl); (case hr => first | (go_simp; done) | (go_simp; rfl)); intro gb615 hg w5 hbox hb; have n0_ := qM (blk_below (g := gb614) (o := .cells #[.slice A0_0 l0_0.length c0_0, .slice A0_1 l0_1.length c0_1] 56 (0, 0)) (by (with_reducible repeat (first | refine qn ?_ _ | refine qd ?_ | refine qa ?_ _)); exact BK614.out) hb); have n1_ := qM (qs (by repeat (first | (with_reducible first | exact HB.out | apply qA | apply qN | apply qD | refine qS ?_ GE614.out) | exact HB.out)) hb); have n2_ := qM (hbox); have n3_ := qM ((by rw [hg]; exact (qz (by repeat (first | (with_reducible first | exact HB.out | apply qA | apply qN | apply qD | refine qS ?_ GE614.out) | exact HB.out))) : w.heap.size ≤ gb615)); have n4_ := qM ((by rw [hg]; exact (qz (by repeat (first | (with_reducible first | exact HB.out | apply qA | apply qN | apply qD | refine qS ?_ GE614.out) | exact HB.out))) : w.heap.size ≤ gb615)); have n5_ := qM ((by rw [hg]; exact Nat.ne_of_lt (blk_lt (g := gb614) (o := .cells #[.slice A0_0 l0_0.length c0_0, .slice A0_1 l0_1.length c0_1] 56 (0, 0)) (by (with_reducible repeat (first | refine qn ?_ _ | refine qd ?_ | refine qa ?_ _)); exact BK614.out)) : gb614 ≠ gb615)); have n6_ := qM ((by rw [hg]; exact Nat.ne_of_gt (blk_lt (g := gb614) (o := .cells #[.slice A0_0 l0_0.length c0_0, .slice A0_1 l0_1.length c0_1] 56 (0, 0)) (by (with_reducible repeat (first | refine qn ?_ _ | refine qd ?_ | refine qa ?_ _)); exact BK614.out)) : gb615 ≠ gb614)); clear BK614; clear HB; have BK614 := n0_; have HB := n1_; have BK615 := n2_; have GW615 := n3_; have GE615 := n4_; have NB614_615 := n5_; have NB615_614 := n6_; clear n0_ n1_ n2_ n3_ n4_ n5_ n6_; clear hb hbox hg; have hnb6 := NB614_615.out; have hnc6 := NB615_614.out; have hcz7_0 : w5.cell? ⟨gb614, 0, none⟩ = some (.slice A0_0 l0_0.length c0_0) := (qC BK614.out 0).trans rfl; have hcz7_1 : w5.cell? ⟨gb614, 1, none⟩ = some (.slice A0_1 l0_1.length c0_1) := (qC BK614.out 1).trans rfl; have hfz7_0 := qF BK614.out 0; have hfz7_1 := qF BK614.out 1))
  repeat (go_quiet (first | ((with_reducible refine gate_dst (N := 2) rfl ?_); (try (refine gate_guard (by rfl) ?_; dsimp only)); refine box_event ?hg (N := 2) ?hd (cs := #[.slice A0_0 l0_0.length c0_0, .slice A0_1 l0_1.length c0_1]) (t := 56) ?hr ?_; (case hd => rfl); (case hg => rfl); (case hr => first | (go_simp; done) | (go_simp; rfl)); intro gb614 hg w4 hbox hb; have n0_ := qM (qs (by repeat (first | (with_reducible first | exact HB.out | apply qA | apply qN | apply qD) | exact HB.out)) hb); have n1_ := qM (hbox); have n2_ := qM ((by rw [hg]; exact (qz (by repeat (first | (with_reducible first | exact HB.out | apply qA | apply qN | apply qD) | exact HB.out))) : w.heap.size ≤ gb614)); have n3_ := qM ((by rw [hg]; exact (qz (by repeat (first | (with_reducible first | exact HB.out | apply qA | apply qN | apply qD) | exact HB.out))) : w.heap.size ≤ gb614)); clear HB; have HB := n0_; have BK614 := n1_; have GW614 := n2_; have GE614 := n3_; clear n0_ n1_ n2_ n3_; clear hb hbox hg) | ((with_reducible refine gate_dst (N := 3) rfl ?_); (try (refine gate_guard (by rfl) ?_; dsimp only)); refine box_event ?hg (N := 3) ?hd (cs := #[.slice A1_0 l1_0.length c1_0, .slice A1_1 l1_1.length c1_1, .slice A1_2 l1_2.length c1_2, .slice A1_3 l1_3.length c1_3]) (t := 60) ?hr ?_; (case hd => rfl); (case hg => rfl); (case hr => first | (go_simp; done) | (go_simp; rfl)); intro gb615 hg w5 hbox hb; have n0_ := qM (blk_below (g := gb614) (o := .cells #[.slice A0_0 l0_0.length c0_0, .slice A0_1 l0_1.length c0_1] 56 (0, 0)) (by (with_reducible repeat (first | refine qn ?_ _ | refine qd ?_ | refine qa ?_ _)); exact BK614.out) hb); have n1_ := qM (qs (by repeat (first | (with_reducible first | exact HB.out | apply qA | apply qN | apply qD | refine qS ?_ GE614.out) | exact HB.out)) hb); have n2_ := qM (hbox); have n3_ := qM ((by rw [hg]; exact (qz (by repeat (first | (with_reducible first | exact HB.out | apply qA | apply qN | apply qD | refine qS ?_ GE614.out) | exact HB.out))) : w.heap.size ≤ gb615)); have n4_ := qM ((by rw [hg]; exact (qz (by repeat (first | (with_reducible first | exact HB.out | apply qA | apply qN | apply qD | refine qS ?_ GE614.out) | exact HB.out))) : w.heap.size ≤ gb615)); have n5_ := qM ((by rw [hg]; exact Nat.ne_of_lt (blk_lt (g := gb614) (o := .cells #[.slice A0_0 l0_0.length c0_0, .slice A0_1 l0_1.length c0_1] 56 (0, 0)) (by (with_reducible repeat (first | refine qn ?_ _ | refine qd ?_ | refine qa ?_ _)); exact BK614.out)) : gb614 ≠ gb615)); have n6_ := qM ((by rw [hg]; exact Nat.ne_of_gt (blk_lt (g := gb614) (o := .cells #[.slice A0_0 l0_0.length c0_0, .slice A0_1 l0_1.length c0_1] 56 (0, 0)) (by (with_reducible repeat (first | refine qn ?_ _ | refine qd ?_ | refine qa ?_ _)); exact BK614.out)) : gb615 ≠ gb614)); clear BK614; clear HB; have BK614 := n0_; have HB := n1_; have BK615 := n2_; have GW615 := n3_; have GE615 := n4_; have NB614_615 := n5_; have NB615_614 := n6_; clear n0_ n1_ n2_ n3_ n4_ n5_ n6_; clear hb hbox hg; have hnb6 := NB614_615.out; have hnc6 := NB615_614.out; have hcz7_0 : w5.cell? ⟨gb614, 0, none⟩ = some (.slice A0_0 l0_0.length c0_0) := (qC BK614.out 0).trans rfl; have hcz7_1 : w5.cell? ⟨gb614, 1, none⟩ = some (.slice A0_1 l0_1.length c0_1) := (qC BK614.out 1).trans rfl; have hfz7_0 := qF BK614.out 0; have hfz7_1 := qF BK614.out 1)); go_upto_region 2 with (first | ((with_reducible refine gate_dst (N := 2) rfl ?_); (try (refine gate_guard (by rfl) ?_; dsimp only)); refine box_event ?hg (N := 2) ?hd (cs := #[.slice A0_0 l0_0.length c0_0, .slice A0_1 l0_1.length c0_1]) (t := 56) ?hr ?_; (case hd => rfl); (case hg => rfl); (case hr => first | (go_simp; done) | (go_simp; rfl)); intro gb614 hg w4 hbox hb; have n0_ := qM (qs (by repeat (first | (with_reducible first | exact HB.out | apply qA | apply qN | apply qD) | exact HB.out)) hb); have n1_ := qM (hbox); have n2_ := qM ((by rw [hg]; exact (qz (by repeat (first | (with_reducible first | exact HB.out | apply qA | apply qN | apply qD) | exact HB.out))) : w.heap.size ≤ gb614)); have n3_ := qM ((by rw [hg]; exact (qz (by repeat (first | (with_reducible first | exact HB.out | apply qA | apply qN | apply qD) | exact HB.out))) : w.heap.size ≤ gb614)); clear HB; have HB := n0_; have BK614 := n1_; have GW614 := n2_; have GE614 := n3_; clear n0_ n1_ n2_ n3_; clear hb hbox hg) | ((with_reducible refine gate_dst (N := 3) rfl ?_); (try (refine gate_guard (by rfl) ?_; dsimp only)); refine box_event ?hg (N := 3) ?hd (cs := #[.slice A1_0 l1_0.length c1_0, .slice A1_1 l1_1.length c1_1, .slice A1_2 l1_2.length c1_2, .slice A1_3 l1_3.length c1_3]) (t := 60) ?hr ?_; (case hd => rfl); (case hg => rfl); (case hr => first | (go_simp; done) | (go_simp; rfl)); intro gb615 hg w5 hbox hb; have n0_ := qM (blk_below (g := gb614) (o := .cells #[.slice A0_0 l0_0.length c0_0, .slice A0_1 l0_1.length c0_1] 56 (0, 0)) (by (with_reducible repeat (first | refine qn ?_ _ | refine qd ?_ | refine qa ?_ _)); exact BK614.out) hb); have n1_ := qM (qs (by repeat (first | (with_reducible first | exact HB.out | apply qA | apply qN | apply qD | refine qS ?_ GE614.out) | exact HB.out)) hb); have n2_ := qM (hbox); have n3_ := qM ((by rw [hg]; exact (qz (by repeat (first | (with_reducible first | exact HB.out | apply qA | apply qN | apply qD | refine qS ?_ GE614.out) | exact HB.out))) : w.heap.size ≤ gb615)); have n4_ := qM ((by rw [hg]; exact (qz (by repeat (first | (with_reducible first | exact HB.out | apply qA | apply qN | apply qD | refine qS ?_ GE614.out) | exact HB.out))) : w.heap.size ≤ gb615)); have n5_ := qM ((by rw [hg]; exact Nat.ne_of_lt (blk_lt (g := gb614) (o := .cells #[.slice A0_0 l0_0.length c0_0, .slice A0_1 l0_1.length c0_1] 56 (0, 0)) (by (with_reducible repeat (first | refine qn ?_ _ | refine qd ?_ | refine qa ?_ _)); exact BK614.out)) : gb614 ≠ gb615)); have n6_ := qM ((by rw [hg]; exact Nat.ne_of_gt (blk_lt (g := gb614) (o := .cells #[.slice A0_0 l0_0.length c0_0, .slice A0_1 l0_1.length c0_1] 56 (0, 0)) (by (with_reducible repeat (first | refine qn ?_ _ | refine qd ?_ | refine qa ?_ _)); exact BK614.out)) : gb615 ≠ gb614)); clear BK614; clear HB; have BK614 := n0_; have HB := n1_; have BK615 := n2_; have GW615 := n3_; have GE615 := n4_; have NB614_615 := n5_; have NB615_614 := n6_; clear n0_ n1_ n2_ n3_ n4_ n5_ n6_; clear hb hbox hg; have hnb6 := NB614_615.out; have hnc6 := NB615_614.out; have hcz7_0 : w5.cell? ⟨gb614, 0, none⟩ = some (.slice A0_0 l0_0.length c0_0) := (qC BK614.out 0).trans rfl; have hcz7_1 : w5.cell? ⟨gb614, 1, none⟩ = some (.slice A0_1 l0_1.length c0_1) := (qC BK614.out 1).trans rfl; have hfz7_0 := qF BK614.out 0; have hfz7_1 := qF BK614.out 1)))
  (try simp only [Act.put, List.setIfInBounds_toArray, List.set_cons_zero, List.set_cons_succ])
  go_cut [52] (fun v52 wc => ∃ (kq : Nat) (x52_2 : Bool), v52 = .bool x52_2 ∧ Aside0 (impl_StateOk.j0 kq x52_2 l0_0 l0_1 l1_0 l1_1 l1_2 l1_3 = some r) ∧ Aside0 (kq ≤ k) ∧ Aside0 (wc.heap[gb614]? = some (.cells #[(.slice A0_0 l0_0.length c0_0), (.slice A0_1 l0_1.length c0_1)] 56 (0, 0))) ∧ Aside0 (wc.heap[gb615]? = some (.cells #[(.slice A1_0 l1_0.length c1_0), (.slice A1_1 l1_1.length c1_1), (.slice A1_2 l1_2.length c1_2), (.slice A1_3 l1_3.length c1_3)] 60 (0, 0))) ∧ Aside0 (Below w.heap.size w wc))
  case first =>
    have H := HC3.out
    clear HC3
    replace H := Option.bind_eq_some_iff.mp H
    obtain ⟨t616, A80, H⟩ := H
    replace H : (if t616 = true then (if (l1_0.length : Int) = (l0_0.length : Int) then (if (l1_1.length : Int) = (l0_0.length : Int) then (if (l1_2.length : Int) = (l0_0.length : Int) then ((impl_areValues.f l1_0).bind fun t617 => (if t617 = true then ((impl_areValues.f l1_2).bind fun t618 => (if t618 = true then ((impl_TracesOk.f l1_3).bind fun t619 => (impl_StateOk.j0 k (!t619) l0_0 l0_1 l1_0 l1_1 l1_2 l1_3)) else (impl_StateOk.j0 k true l0_0 l0_1 l1_0 l1_1 l1_2 l1_3))) else (impl_StateOk.j0 k true l0_0 l0_1 l1_0 l1_1 l1_2 l1_3))) else (impl_StateOk.j0 k true l0_0 l0_1 l1_0 l1_1 l1_2 l1_3)) else (impl_StateOk.j0 k true l0_0 l0_1 l1_0 l1_1 l1_2 l1_3)) else (impl_StateOk.j0 k true l0_0 l0_1 l1_0 l1_1 l1_2 l1_3)) else (impl_StateOk.j0 k true l0_0 l0_1 l1_0 l1_1 l1_2 l1_3)) = some r := H
    have A8 := qM A80
    clear A80
    by_cases c9 : t616 = true
    rotate_left
    · replace c9 := Bool.eq_false_iff.mpr c9
      subst c9
      have H1 : (impl_StateOk.j0 k true l0_0 l0_1 l1_0 l1_1 l1_2 l1_3) = some r := by rw [if_neg (show ¬ (false = true) by decide)] at H; exact H
      clear H
      have H := H1
      clear H1
      have H' := qM H
      clear H
      have hnb51 := NB614_615.out
      have hnc51 := NB615_614.out
      have hcz52_0 : w5.cell? ⟨gb614, 0, none⟩ = some (.slice A0_0 l0_0.length c0_0) := (qC BK614.out 0).trans rfl
      have hcz52_1 : w5.cell? ⟨gb614, 1, none⟩ = some (.slice A0_1 l0_1.length c0_1) := (qC BK614.out 1).trans rfl
      have hfz52_0 := qF BK614.out 0
      have hfz52_1 := qF BK614.out 1
      go_wp2_with (first | (go_at_call 90; (with_reducible refine (impl_SheetOk.calls k _ _ l0_0 _ _ l0_1 false _ ?side1 ?side2 ?side3 ?side4 A8.out).mono ?_); (case side1 => repeat (first | exact (qB HR0_0.out HB.out) | (with_reducible refine qc ?_ _) | (with_reducible refine qe ?_ _) | (with_reducible refine qf ?_))); (case side2 => exact HC0_0.out); (case side3 => repeat (first | exact (qB HR0_1.out HB.out) | (with_reducible refine qc ?_ _) | (with_reducible refine qe ?_ _) | (with_reducible refine qf ?_))); (case side4 => exact HC0_1.out); rintro e w53 ⟨rfl, hb⟩; have n0_ := qM (blk_below (g := gb614) (o := .cells #[.slice A0_0 l0_0.length c0_0, .slice A0_1 l0_1.length c0_1] 56 (0, 0)) (by (with_reducible repeat (first | refine qn ?_ _ | refine qd ?_ | refine qa ?_ _)); exact BK614.out) hb); have n1_ := qM (blk_below (g := gb615) (o := .cells #[.slice A1_0 l1_0.length c1_0, .slice A1_1 l1_1.length c1_1, .slice A1_2 l1_2.length c1_2, .slice A1_3 l1_3.length c1_3] 60 (0, 0)) (by (with_reducible repeat (first | refine qn ?_ _ | refine qd ?_ | refine qa ?_ _)); exact BK615.out) hb); have n2_ := qM (qs (by repeat (first | (with_reducible first | exact HB.out | apply qA | apply qN | apply qD | refine qS ?_ GE614.out | refine qS ?_ GE615.out) | exact HB.out)) hb); clear BK614; clear BK615; clear HB; have BK614 := n0_; have BK615 := n1_; have HB := n2_; clear n0_ n1_ n2_; (try clear hb); (try clear hb2); (try clear hk); (try clear hi)))
      repeat (go_quiet (fail); try go_wp2)
      go_meet
      case rel => exact ⟨_, (true), (by first | rfl | (simp; done) | (simp [*]; done)), H', ⟨by first | omega | exact Nat.le_refl _⟩, ⟨by (with_reducible repeat (first | refine qn ?_ _ | refine qd ?_ | refine qa ?_ _)); exact BK614.out⟩, ⟨by (with_reducible repeat (first | refine qn ?_ _ | refine qd ?_ | refine qa ?_ _)); exact BK615.out⟩, ⟨by repeat (first | (with_reducible first | exact HB.out | apply qA | apply qN | apply qD | refine qS ?_ GE614.out | refine qS ?_ GE615.out) | exact HB.out)⟩⟩
    subst c9
    have H1 : (if (l1_0.length : Int) = (l0_0.length : Int) then (if (l1_1.length : Int) = (l0_0.length : Int) then (if (l1_2.length : Int) = (l0_0.length : Int) then ((impl_areValues.f l1_0).bind fun t617 => (if t617 = true then ((impl_areValues.f l1_2).bind fun t618 => (if t618 = true then ((impl_TracesOk.f l1_3).bind fun t619 => (impl_StateOk.j0 k (!t619) l0_0 l0_1 l1_0 l1_1 l1_2 l1_3)) else (impl_StateOk.j0 k true l0_0 l0_1 l1_0 l1_1 l1_2 l1_3))) else (impl_StateOk.j0 k true l0_0 l0_1 l1_0 l1_1 l1_2 l1_3))) else (impl_StateOk.j0 k true l0_0 l0_1 l1_0 l1_1 l1_2 l1_3)) else (impl_StateOk.j0 k true l0_0 l0_1 l1_0 l1_1 l1_2 l1_3)) else (impl_StateOk.j0 k true l0_0 l0_1 l1_0 l1_1 l1_2 l1_3)) = some r := by rw [if_pos rfl] at H; exact H
    clear H
    have H := H1
    clear H1
    by_cases c10 : (l1_0.length : Int) = (l0_0.length : Int)
    rotate_left
    · rw [if_neg c10] at H
      have c10b0 : ((l1_0.length : Int) == (l0_0.length : Int)) = false := beq_eq_false_iff_ne.mpr c10
      have c10b1 : ((l1_0.length : Int) != (l0_0.length : Int)) = true := bne_iff_ne.mpr c10
      have c10b2 : (l1_0.length == l0_0.length) = false := by first | simpa using c10 | (simp at c10 ⊢; omega)
      (first | rw [c10b0] | (simp only [i64_w, i32_w]; rw [c10b0]) | skip)
      have H' := qM H
      clear H
      have hnb47 := NB614_615.out
      have hnc47 := NB615_614.out
      have hcz48_0 : w5.cell? ⟨gb614, 0, none⟩ = some (.slice A0_0 l0_0.length c0_0) := (qC BK614.out 0).trans rfl
      have hcz48_1 : w5.cell? ⟨gb614, 1, none⟩ = some (.slice A0_1 l0_1.length c0_1) := (qC BK614.out 1).trans rfl
      have hfz48_0 := qF BK614.out 0
      have hfz48_1 := qF BK614.out 1
      go_wp2_with (first | (go_at_call 90; (with_reducible refine (impl_SheetOk.calls k _ _ l0_0 _ _ l0_1 true _ ?side1 ?side2 ?side3 ?side4 A8.out).mono ?_); (case side1 => repeat (first | exact (qB HR0_0.out HB.out) | (with_reducible refine qc ?_ _) | (with_reducible refine qe ?_ _) | (with_reducible refine qf ?_))); (case side2 => exact HC0_0.out); (case side3 => repeat (first | exact (qB HR0_1.out HB.out) | (with_reducible refine qc ?_ _) | (with_reducible refine qe ?_ _) | (with_reducible refine qf ?_))); (case side4 => exact HC0_1.out); rintro e w49 ⟨rfl, hb⟩; have n0_ := qM (blk_below (g := gb614) (o := .cells #[.slice A0_0 l0_0.length c0_0, .slice A0_1 l0_1.length c0_1] 56 (0, 0)) (by (with_reducible repeat (first | refine qn ?_ _ | refine qd ?_ | refine qa ?_ _)); exact BK614.out) hb); have n1_ := qM (blk_below (g := gb615) (o := .cells #[.slice A1_0 l1_0.length c1_0, .slice A1_1 l1_1.length c1_1, .slice A1_2 l1_2.length c1_2, .slice A1_3 l1_3.length c1_3] 60 (0, 0)) (by (with_reducible repeat (first | refine qn ?_ _ | refine qd ?_ | refine qa ?_ _)); exact BK615.out) hb); have n2_ := qM (qs (by repeat (first | (with_reducible first | exact HB.out | apply qA | apply qN | apply qD | refine qS ?_ GE614.out | refine qS ?_ GE615.out) | exact HB.out)) hb); clear BK614; clear BK615; clear HB; have BK614 := n0_; have BK615 := n1_; have HB := n2_; clear n0_ n1_ n2_; (try clear hb); (try clear hb2); (try clear hk); (try clear hi); have hcz50_0 : w49.cell? ⟨gb615, 0, none⟩ = some (.slice A1_0 l1_0.length c1_0) := (qC BK615.out 0).trans rfl; have hcz50_1 : w49.cell? ⟨gb615, 1, none⟩ = some (.slice A1_1 l1_1.length c1_1) := (qC BK615.out 1).trans rfl; have hcz50_2 : w49.cell? ⟨gb615, 2, none⟩ = some (.slice A1_2 l1_2.length c1_2) := (qC BK615.out 2).trans rfl; have hcz50_3 : w49.cell? ⟨gb615, 3, none⟩ = some (.slice A1_3 l1_3.length c1_3) := (qC BK615.out 3).trans rfl; have hfz50_0 := qF BK615.out 0; have hfz50_1 := qF BK615.out 1; have hfz50_2 := qF BK615.out 2; have hfz50_3 := qF BK615.out 3))
      repeat (go_quiet (fail); try go_wp2)
      go_meet
      case rel => exact ⟨_, (true), (by first | rfl | (simp; done) | (simp [*]; done)), H', ⟨by first | omega | exact Nat.le_refl _⟩, ⟨by (with_reducible repeat (first | refine qn ?_ _ | refine qd ?_ | refine qa ?_ _)); exact BK614.out⟩, ⟨by (with_reducible repeat (first | refine qn ?_ _ | refine qd ?_ | refine qa ?_ _)); exact BK615.out⟩, ⟨by repeat (first | (with_reducible first | exact HB.out | apply qA | apply qN | apply qD | refine qS ?_ GE614.out | refine qS ?_ GE615.out) | exact HB.out)⟩⟩
    rw [if_pos c10] at H
    have c10b0 : ((l1_0.length : Int) == (l0_0.length : Int)) = true := beq_iff_eq.mpr c10
    have c10b1 : ((l1_0.length : Int) != (l0_0.length : Int)) = false := bne_eq_false_iff_eq.mpr c10
    have c10b2 : (l1_0.length == l0_0.length) = true := by first | simpa using c10 | (simp at c10 ⊢; omega)
    clear c10
    (first | rw [c10b0] | (simp only [i64_w, i32_w]; rw [c10b0]) | skip)
    by_cases c11 : (l1_1.length : Int) = (l0_0.length : Int)
    rotate_left
    · rw [if_neg c11] at H
      have c11b0 : ((l1_1.length : Int) == (l0_0.length : Int)) = false := beq_eq_false_iff_ne.mpr c11
      have c11b1 : ((l1_1.length : Int) != (l0_0.length : Int)) = true := bne_iff_ne.mpr c11
      have c11b2 : (l1_1.length == l0_0.length) = false := by first | simpa using c11 | (simp at c11 ⊢; omega)
      have H' := qM H
      clear H
      have hnb43 := NB614_615.out
      have hnc43 := NB615_614.out
      have hcz44_0 : w5.cell? ⟨gb614, 0, none⟩ = some (.slice A0_0 l0_0.length c0_0) := (qC BK614.out 0).trans rfl
      have hcz44_1 : w5.cell? ⟨gb614, 1, none⟩ = some (.slice A0_1 l0_1.length c0_1) := (qC BK614.out 1).trans rfl
      have hfz44_0 := qF BK614.out 0
      have hfz44_1 := qF BK614.out 1
      go_wp2_with (first | (go_at_call 90; (with_reducible refine (impl_SheetOk.calls k _ _ l0_0 _ _ l0_1 true _ ?side1 ?side2 ?side3 ?side4 A8.out).mono ?_); (case side1 => repeat (first | exact (qB HR0_0.out HB.out) | (with_reducible refine qc ?_ _) | (with_reducible refine qe ?_ _) | (with_reducible refine qf ?_))); (case side2 => exact HC0_0.out); (case side3 => repeat (first | exact (qB HR0_1.out HB.out) | (with_reducible refine qc ?_ _) | (with_reducible refine qe ?_ _) | (with_reducible refine qf ?_))); (case side4 => exact HC0_1.out); rintro e w45 ⟨rfl, hb⟩; have n0_ := qM (blk_below (g := gb614) (o := .cells #[.slice A0_0 l0_0.length c0_0, .slice A0_1 l0_1.length c0_1] 56 (0, 0)) (by (with_reducible repeat (first | refine qn ?_ _ | refine qd ?_ | refine qa ?_ _)); exact BK614.out) hb); have n1_ := qM (blk_below (g := gb615) (o := .cells #[.slice A1_0 l1_0.length c1_0, .slice A1_1 l1_1.length c1_1, .slice A1_2 l1_2.length c1_2, .slice A1_3 l1_3.length c1_3] 60 (0, 0)) (by (with_reducible repeat (first | refine qn ?_ _ | refine qd ?_ | refine qa ?_ _)); exact BK615.out) hb); have n2_ := qM (qs (by repeat (first | (with_reducible first | exact HB.out | apply qA | apply qN | apply qD | refine qS ?_ GE614.out | refine qS ?_ GE615.out) | exact HB.out)) hb); clear BK614; clear BK615; clear HB; have BK614 := n0_; have BK615 := n1_; have HB := n2_; clear n0_ n1_ n2_; (try clear hb); (try clear hb2); (try clear hk); (try clear hi); have hcz46_0 : w45.cell? ⟨gb615, 0, none⟩ = some (.slice A1_0 l1_0.length c1_0) := (qC BK615.out 0).trans rfl; have hcz46_1 : w45.cell? ⟨gb615, 1, none⟩ = some (.slice A1_1 l1_1.length c1_1) := (qC BK615.out 1).trans rfl; have hcz46_2 : w45.cell? ⟨gb615, 2, none⟩ = some (.slice A1_2 l1_2.length c1_2) := (qC BK615.out 2).trans rfl; have hcz46_3 : w45.cell? ⟨gb615, 3, none⟩ = some (.slice A1_3 l1_3.length c1_3) := (qC BK615.out 3).trans rfl; have hfz46_0 := qF BK615.out 0; have hfz46_1 := qF BK615.out 1; have hfz46_2 := qF BK615.out 2; have hfz46_3 := qF BK615.out 3))
      repeat (go_quiet (fail); try go_wp2)
      go_meet
      case rel => exact ⟨_, (true), (by first | rfl | (simp; done) | (simp [*]; done)), H', ⟨by first | omega | exact Nat.le_refl _⟩, ⟨by (with_reducible repeat (first | refine qn ?_ _ | refine qd ?_ | refine qa ?_ _)); exact BK614.out⟩, ⟨by (with_reducible repeat (first | refine qn ?_ _ | refine qd ?_ | refine qa ?_ _)); exact BK615.out⟩, ⟨by repeat (first | (with_reducible first | exact HB.out | apply qA | apply qN | apply qD | refine qS ?_ GE614.out | refine qS ?_ GE615.out) | exact HB.out)⟩⟩
    rw [if_pos c11] at H
    have c11b0 : ((l1_1.length : Int) == (l0_0.length : Int)) = true := beq_iff_eq.mpr c11
    have c11b1 : ((l1_1.length : Int) != (l0_0.length : Int)) = false := bne_eq_false_iff_eq.mpr c11
    have c11b2 : (l1_1.length == l0_0.length) = true := by first | simpa using c11 | (simp at c11 ⊢; omega)
    clear c11
    by_cases c12 : (l1_2.length : Int) = (l0_0.length : Int)
    rotate_left
    · rw [if_neg c12] at H
      have c12b0 : ((l1_2.length : Int) == (l0_0.length : Int)) = false := beq_eq_false_iff_ne.mpr c12
      have c12b1 : ((l1_2.length : Int) != (l0_0.length : Int)) = true := bne_iff_ne.mpr c12
      have c12b2 : (l1_2.length == l0_0.length) = false := by first | simpa using c12 | (simp at c12 ⊢; omega)
      have H' := qM H
      clear H
      have hnb39 := NB614_615.out
      have hnc39 := NB615_614.out
      have hcz40_0 : w5.cell? ⟨gb614, 0, none⟩ = some (.slice A0_0 l0_0.length c0_0) := (qC BK614.out 0).trans rfl
      have hcz40_1 : w5.cell? ⟨gb614, 1, none⟩ = some (.slice A0_1 l0_1.length c0_1) := (qC BK614.out 1).trans rfl
      have hfz40_0 := qF BK614.out 0
      have hfz40_1 := qF BK614.out 1
      go_wp2_with (first | (go_at_call 90; (with_reducible refine (impl_SheetOk.calls k _ _ l0_0 _ _ l0_1 true _ ?side1 ?side2 ?side3 ?side4 A8.out).mono ?_); (case side1 => repeat (first | exact (qB HR0_0.out HB.out) | (with_reducible refine qc ?_ _) | (with_reducible refine qe ?_ _) | (with_reducible refine qf ?_))); (case side2 => exact HC0_0.out); (case side3 => repeat (first | exact (qB HR0_1.out HB.out) | (with_reducible refine qc ?_ _) | (with_reducible refine qe ?_ _) | (with_reducible refine qf ?_))); (case side4 => exact HC0_1.out); rintro e w41 ⟨rfl, hb⟩; have n0_ := qM (blk_below (g := gb614) (o := .cells #[.slice A0_0 l0_0.length c0_0, .slice A0_1 l0_1.length c0_1] 56 (0, 0)) (by (with_reducible repeat (first | refine qn ?_ _ | refine qd ?_ | refine qa ?_ _)); exact BK614.out) hb); have n1_ := qM (blk_below (g := gb615) (o := .cells #[.slice A1_0 l1_0.length c1_0, .slice A1_1 l1_1.length c1_1, .slice A1_2 l1_2.length c1_2, .slice A1_3 l1_3.length c1_3] 60 (0, 0)) (by (with_reducible repeat (first | refine qn ?_ _ | refine qd ?_ | refine qa ?_ _)); exact BK615.out) hb); have n2_ := qM (qs (by repeat (first | (with_reducible first | exact HB.out | apply qA | apply qN | apply qD | refine qS ?_ GE614.out | refine qS ?_ GE615.out) | exact HB.out)) hb); clear BK614; clear BK615; clear HB; have BK614 := n0_; have BK615 := n1_; have HB := n2_; clear n0_ n1_ n2_; (try clear hb); (try clear hb2); (try clear hk); (try clear hi); have hcz42_0 : w41.cell? ⟨gb615, 0, none⟩ = some (.slice A1_0 l1_0.length c1_0) := (qC BK615.out 0).trans rfl; have hcz42_1 : w41.cell? ⟨gb615, 1, none⟩ = some (.slice A1_1 l1_1.length c1_1) := (qC BK615.out 1).trans rfl; have hcz42_2 : w41.cell? ⟨gb615, 2, none⟩ = some (.slice A1_2 l1_2.length c1_2) := (qC BK615.out 2).trans rfl; have hcz42_3 : w41.cell? ⟨gb615, 3, none⟩ = some (.slice A1_3 l1_3.length c1_3) := (qC BK615.out 3).trans rfl; have hfz42_0 := qF BK615.out 0; have hfz42_1 := qF BK615.out 1; have hfz42_2 := qF BK615.out 2; have hfz42_3 := qF BK615.out 3))
      repeat (go_quiet (fail); try go_wp2)
      go_meet
      case rel => exact ⟨_, (true), (by first | rfl | (simp; done) | (simp [*]; done)), H', ⟨by first | omega | exact Nat.le_refl _⟩, ⟨by (with_reducible repeat (first | refine qn ?_ _ | refine qd ?_ | refine qa ?_ _)); exact BK614.out⟩, ⟨by (with_reducible repeat (first | refine qn ?_ _ | refine qd ?_ | refine qa ?_ _)); exact BK615.out⟩, ⟨by repeat (first | (with_reducible first | exact HB.out | apply qA | apply qN | apply qD | refine qS ?_ GE614.out | refine qS ?_ GE615.out) | exact HB.out)⟩⟩
    rw [if_pos c12] at H
    have c12b0 : ((l1_2.length : Int) == (l0_0.length : Int)) = true := beq_iff_eq.mpr c12
    have c12b1 : ((l1_2.length : Int) != (l0_0.length : Int)) = false := bne_eq_false_iff_eq.mpr c12
    have c12b2 : (l1_2.length == l0_0.length) = true := by first | simpa using c12 | (simp at c12 ⊢; omega)
    clear c12
    replace H := Option.bind_eq_some_iff.mp H
    obtain ⟨t617, A130, H⟩ := H
    replace H : (if t617 = true then ((impl_areValues.f l1_2).bind fun t618 => (if t618 = true then ((impl_TracesOk.f l1_3).bind fun t619 => (impl_StateOk.j0 k (!t619) l0_0 l0_1 l1_0 l1_1 l1_2 l1_3)) else (impl_StateOk.j0 k true l0_0 l0_1 l1_0 l1_1 l1_2 l1_3))) else (impl_StateOk.j0 k true l0_0 l0_1 l1_0 l1_1 l1_2 l1_3)) = some r := H
    have A13 := qM A130
    clear A130
    by_cases c14 : t617 = true
    rotate_left
    · replace c14 := Bool.eq_false_iff.mpr c14
      subst c14
      have H1 : (impl_StateOk.j0 k true l0_0 l0_1 l1_0 l1_1 l1_2 l1_3) = some r := by rw [if_neg (show ¬ (false = true) by decide)] at H; exact H
      clear H
      have H := H1
      clear H1
      have H' := qM H
      clear H
      have hnb34 := NB614_615.out
      have hnc34 := NB615_614.out
      have hcz35_0 : w5.cell? ⟨gb614, 0, none⟩ = some (.slice A0_0 l0_0.length c0_0) := (qC BK614.out 0).trans rfl
      have hcz35_1 : w5.cell? ⟨gb614, 1, none⟩ = some (.slice A0_1 l0_1.length c0_1) := (qC BK614.out 1).trans rfl
      have hfz35_0 := qF BK614.out 0
      have hfz35_1 := qF BK614.out 1
      go_wp2_with (first | (go_at_call 90; (with_reducible refine (impl_SheetOk.calls k _ _ l0_0 _ _ l0_1 true _ ?side1 ?side2 ?side3 ?side4 A8.out).mono ?_); (case side1 => repeat (first | exact (qB HR0_0.out HB.out) | (with_reducible refine qc ?_ _) | (with_reducible refine qe ?_ _) | (with_reducible refine qf ?_))); (case side2 => exact HC0_0.out); (case side3 => repeat (first | exact (qB HR0_1.out HB.out) | (with_reducible refine qc ?_ _) | (with_reducible refine qe ?_ _) | (with_reducible refine qf ?_))); (case side4 => exact HC0_1.out); rintro e w36 ⟨rfl, hb⟩; have n0_ := qM (blk_below (g := gb614) (o := .cells #[.slice A0_0 l0_0.length c0_0, .slice A0_1 l0_1.length c0_1] 56 (0, 0)) (by (with_reducible repeat (first | refine qn ?_ _ | refine qd ?_ | refine qa ?_ _)); exact BK614.out) hb); have n1_ := qM (blk_below (g := gb615) (o := .cells #[.slice A1_0 l1_0.length c1_0, .slice A1_1 l1_1.length c1_1, .slice A1_2 l1_2.length c1_2, .slice A1_3 l1_3.length c1_3] 60 (0, 0)) (by (with_reducible repeat (first | refine qn ?_ _ | refine qd ?_ | refine qa ?_ _)); exact BK615.out) hb); have n2_ := qM (qs (by repeat (first | (with_reducible first | exact HB.out | apply qA | apply qN | apply qD | refine qS ?_ GE614.out | refine qS ?_ GE615.out) | exact HB.out)) hb); clear BK614; clear BK615; clear HB; have BK614 := n0_; have BK615 := n1_; have HB := n2_; clear n0_ n1_ n2_; (try clear hb); (try clear hb2); (try clear hk); (try clear hi); have hcz37_0 : w36.cell? ⟨gb615, 0, none⟩ = some (.slice A1_0 l1_0.length c1_0) := (qC BK615.out 0).trans rfl; have hcz37_1 : w36.cell? ⟨gb615, 1, none⟩ = some (.slice A1_1 l1_1.length c1_1) := (qC BK615.out 1).trans rfl; have hcz37_2 : w36.cell? ⟨gb615, 2, none⟩ = some (.slice A1_2 l1_2.length c1_2) := (qC BK615.out 2).trans rfl; have hcz37_3 : w36.cell? ⟨gb615, 3, none⟩ = some (.slice A1_3 l1_3.length c1_3) := (qC BK615.out 3).trans rfl; have hfz37_0 := qF BK615.out 0; have hfz37_1 := qF BK615.out 1; have hfz37_2 := qF BK615.out 2; have hfz37_3 := qF BK615.out 3) | (go_at_call 91; (with_reducible refine (impl_areValues.calls _ _ l1_0 false _ ?side1 ?side2 A13.out).mono ?_); (case side1 => repeat (first | exact (qB HR1_0.out HB.out) | (with_reducible refine qc ?_ _) | (with_reducible refine qe ?_ _) | (with_reducible refine qf ?_))); (case side2 => exact HC1_0.out); rintro e w38 ⟨rfl, hb⟩; have n0_ := qM (blk_below (g := gb614) (o := .cells #[.slice A0_0 l0_0.length c0_0, .slice A0_1 l0_1.length c0_1] 56 (0, 0)) (by (with_reducible repeat (first | refine qn ?_ _ | refine qd ?_ | refine qa ?_ _)); exact BK614.out) hb); have n1_ := qM (blk_below (g := gb615) (o := .cells #[.slice A1_0 l1_0.length c1_0, .slice A1_1 l1_1.length c1_1, .slice A1_2 l1_2.length c1_2, .slice A1_3 l1_3.length c1_3] 60 (0, 0)) (by (with_reducible repeat (first | refine qn ?_ _ | refine qd ?_ | refine qa ?_ _)); exact BK615.out) hb); have n2_ := qM (qs (by repeat (first | (with_reducible first | exact HB.out | apply qA | apply qN | apply qD | refine qS ?_ GE614.out | refine qS ?_ GE615.out) | exact HB.out)) hb); clear BK614; clear BK615; clear HB; have BK614 := n0_; have BK615 := n1_; have HB := n2_; clear n0_ n1_ n2_; (try clear hb); (try clear hb2); (try clear hk); (try clear hi)))
      repeat (go_quiet (fail); try go_wp2)
      go_meet
      case rel => exact ⟨_, (true), (by first | rfl | (simp; done) | (simp [*]; done)), H', ⟨by first | omega | exact Nat.le_refl _⟩, ⟨by (with_reducible repeat (first | refine qn ?_ _ | refine qd ?_ | refine qa ?_ _)); exact BK614.out⟩, ⟨by (with_reducible repeat (first | refine qn ?_ _ | refine qd ?_ | refine qa ?_ _)); exact BK615.out⟩, ⟨by repeat (first | (with_reducible first | exact HB.out | apply qA | apply qN | apply qD | refine qS ?_ GE614.out | refine qS ?_ GE615.out) | exact HB.out)⟩⟩
    subst c14
    have H1 : ((impl_areValues.f l1_2).bind fun t618 => (if t618 = true then ((impl_TracesOk.f l1_3).bind fun t619 => (impl_StateOk.j0 k (!t619) l0_0 l0_1 l1_0 l1_1 l1_2 l1_3)) else (impl_StateOk.j0 k true l0_0 l0_1 l1_0 l1_1 l1_2 l1_3))) = some r := by rw [if_pos rfl] at H; exact H
    clear H
    have H := H1
    clear H1
    replace H := Option.bind_eq_some_iff.mp H
    obtain ⟨t618, A150, H⟩ := H
    replace H : (if t618 = true then ((impl_TracesOk.f l1_3).bind fun t619 => (impl_StateOk.j0 k (!t619) l0_0 l0_1 l1_0 l1_1 l1_2 l1_3)) else (impl_StateOk.j0 k true l0_0 l0_1 l1_0 l1_1 l1_2 l1_3)) = some r := H
    have A15 := qM A150
    clear A150
    by_cases c16 : t618 = true
    rotate_left
    · replace c16 := Bool.eq_false_iff.mpr c16
      subst c16
      have H1 : (impl_StateOk.j0 k true l0_0 l0_1 l1_0 l1_1 l1_2 l1_3) = some r := by rw [if_neg (show ¬ (false = true) by decide)] at H; exact H
      clear H
      have H := H1
      clear H1
      have H' := qM H
      clear H
      have hnb27 := NB614_615.out
      have hnc27 := NB615_614.out
      have hcz28_0 : w5.cell? ⟨gb614, 0, none⟩ = some (.slice A0_0 l0_0.length c0_0) := (qC BK614.out 0).trans rfl
      have hcz28_1 : w5.cell? ⟨gb614, 1, none⟩ = some (.slice A0_1 l0_1.length c0_1) := (qC BK614.out 1).trans rfl
      have hfz28_0 := qF BK614.out 0
      have hfz28_1 := qF BK614.out 1
      go_wp2_with (first | (go_at_call 90; (with_reducible refine (impl_SheetOk.calls k _ _ l0_0 _ _ l0_1 true _ ?side1 ?side2 ?side3 ?side4 A8.out).mono ?_); (case side1 => repeat (first | exact (qB HR0_0.out HB.out) | (with_reducible refine qc ?_ _) | (with_reducible refine qe ?_ _) | (with_reducible refine qf ?_))); (case side2 => exact HC0_0.out); (case side3 => repeat (first | exact (qB HR0_1.out HB.out) | (with_reducible refine qc ?_ _) | (with_reducible refine qe ?_ _) | (with_reducible refine qf ?_))); (case side4 => exact HC0_1.out); rintro e w29 ⟨rfl, hb⟩; have n0_ := qM (blk_below (g := gb614) (o := .cells #[.slice A0_0 l0_0.length c0_0, .slice A0_1 l0_1.length c0_1] 56 (0, 0)) (by (with_reducible repeat (first | refine qn ?_ _ | refine qd ?_ | refine qa ?_ _)); exact BK614.out) hb); have n1_ := qM (blk_below (g := gb615) (o := .cells #[.slice A1_0 l1_0.length c1_0, .slice A1_1 l1_1.length c1_1, .slice A1_2 l1_2.length c1_2, .slice A1_3 l1_3.length c1_3] 60 (0, 0)) (by (with_reducible repeat (first | refine qn ?_ _ | refine qd ?_ | refine qa ?_ _)); exact BK615.out) hb); have n2_ := qM (qs (by repeat (first | (with_reducible first | exact HB.out | apply qA | apply qN | apply qD | refine qS ?_ GE614.out | refine qS ?_ GE615.out) | exact HB.out)) hb); clear BK614; clear BK615; clear HB; have BK614 := n0_; have BK615 := n1_; have HB := n2_; clear n0_ n1_ n2_; (try clear hb); (try clear hb2); (try clear hk); (try clear hi); have hcz30_0 : w29.cell? ⟨gb615, 0, none⟩ = some (.slice A1_0 l1_0.length c1_0) := (qC BK615.out 0).trans rfl; have hcz30_1 : w29.cell? ⟨gb615, 1, none⟩ = some (.slice A1_1 l1_1.length c1_1) := (qC BK615.out 1).trans rfl; have hcz30_2 : w29.cell? ⟨gb615, 2, none⟩ = some (.slice A1_2 l1_2.length c1_2) := (qC BK615.out 2).trans rfl; have hcz30_3 : w29.cell? ⟨gb615, 3, none⟩ = some (.slice A1_3 l1_3.length c1_3) := (qC BK615.out 3).trans rfl; have hfz30_0 := qF BK615.out 0; have hfz30_1 := qF BK615.out 1; have hfz30_2 := qF BK615.out 2; have hfz30_3 := qF BK615.out 3) | (go_at_call 91; (with_reducible refine (impl_areValues.calls _ _ l1_0 true _ ?side1 ?side2 A13.out).mono ?_); (case side1 => repeat (first | exact (qB HR1_0.out HB.out) | (with_reducible refine qc ?_ _) | (with_reducible refine qe ?_ _) | (with_reducible refine qf ?_))); (case side2 => exact HC1_0.out); rintro e w31 ⟨rfl, hb⟩; have n0_ := qM (blk_below (g := gb614) (o := .cells #[.slice A0_0 l0_0.length c0_0, .slice A0_1 l0_1.length c0_1] 56 (0, 0)) (by (with_reducible repeat (first | refine qn ?_ _ | refine qd ?_ | refine qa ?_ _)); exact BK614.out) hb); have n1_ := qM (blk_below (g := gb615) (o := .cells #[.slice A1_0 l1_0.length c1_0, .slice A1_1 l1_1.length c1_1, .slice A1_2 l1_2.length c1_2, .slice A1_3 l1_3.length c1_3] 60 (0, 0)) (by (with_reducible repeat (first | refine qn ?_ _ | refine qd ?_ | refine qa ?_ _)); exact BK615.out) hb); have n2_ := qM (qs (by repeat (first | (with_reducible first | exact HB.out | apply qA | apply qN | apply qD | refine qS ?_ GE614.out | refine qS ?_ GE615.out) | exact HB.out)) hb); clear BK614; clear BK615; clear HB; have BK614 := n0_; have BK615 := n1_; have HB := n2_; clear n0_ n1_ n2_; (try clear hb); (try clear hb2); (try clear hk); (try clear hi); have hcz32_0 : w31.cell? ⟨gb615, 0, none⟩ = some (.slice A1_0 l1_0.length c1_0) := (qC BK615.out 0).trans rfl; have hcz32_1 : w31.cell? ⟨gb615, 1, none⟩ = some (.slice A1_1 l1_1.length c1_1) := (qC BK615.out 1).trans rfl; have hcz32_2 : w31.cell? ⟨gb615, 2, none⟩ = some (.slice A1_2 l1_2.length c1_2) := (qC BK615.out 2).trans rfl; have hcz32_3 : w31.cell? ⟨gb615, 3, none⟩ = some (.slice A1_3 l1_3.length c1_3) := (qC BK615.out 3).trans rfl; have hfz32_0 := qF BK615.out 0; have hfz32_1 := qF BK615.out 1; have hfz32_2 := qF BK615.out 2; have hfz32_3 := qF BK615.out 3) | (go_at_call 91; (with_reducible refine (impl_areValues.calls _ _ l1_2 false _ ?side1 ?side2 A15.out).mono ?_); (case side1 => repeat (first | exact (qB HR1_2.out HB.out) | (with_reducible refine qc ?_ _) | (with_reducible refine qe ?_ _) | (with_reducible refine qf ?_))); (case side2 => exact HC1_2.out); rintro e w33 ⟨rfl, hb⟩; have n0_ := qM (blk_below (g := gb614) (o := .cells #[.slice A0_0 l0_0.length c0_0, .slice A0_1 l0_1.length c0_1] 56 (0, 0)) (by (with_reducible repeat (first | refine qn ?_ _ | refine qd ?_ | refine qa ?_ _)); exact BK614.out) hb); have n1_ := qM (blk_below (g := gb615) (o := .cells #[.slice A1_0 l1_0.length c1_0, .slice A1_1 l1_1.length c1_1, .slice A1_2 l1_2.length c1_2, .slice A1_3 l1_3.length c1_3] 60 (0, 0)) (by (with_reducible repeat (first | refine qn ?_ _ | refine qd ?_ | refine qa ?_ _)); exact BK615.out) hb); have n2_ := qM (qs (by repeat (first | (with_reducible first | exact HB.out | apply qA | apply qN | apply qD | refine qS ?_ GE614.out | refine qS ?_ GE615.out) | exact HB.out)) hb); clear BK614; clear BK615; clear HB; have BK614 := n0_; have BK615 := n1_; have HB := n2_; clear n0_ n1_ n2_; (try clear hb); (try clear hb2); (try clear hk); (try clear hi)))
      repeat (go_quiet (fail); try go_wp2)
      go_meet
      case rel => exact ⟨_, (true), (by first | rfl | (simp; done) | (simp [*]; done)), H', ⟨by first | omega | exact Nat.le_refl _⟩, ⟨by (with_reducible repeat (first | refine qn ?_ _ | refine qd ?_ | refine qa ?_ _)); exact BK614.out⟩, ⟨by (with_reducible repeat (first | refine qn ?_ _ | refine qd ?_ | refine qa ?_ _)); exact BK615.out⟩, ⟨by repeat (first | (with_reducible first | exact HB.out | apply qA | apply qN | apply qD | refine qS ?_ GE614.out | refine qS ?_ GE615.out) | exact HB.out)⟩⟩
    subst c16
    have H1 : ((impl_TracesOk.f l1_3).bind fun t619 => (impl_StateOk.j0 k (!t619) l0_0 l0_1 l1_0 l1_1 l1_2 l1_3)) = some r := by rw [if_pos rfl] at H; exact H
    clear H
    have H := H1
    clear H1
    replace H := Option.bind_eq_some_iff.mp H
    obtain ⟨t619, A170, H⟩ := H
    replace H : (impl_StateOk.j0 k (!t619) l0_0 l0_1 l1_0 l1_1 l1_2 l1_3) = some r := H
    have A17 := qM A170
    clear A170
    have H' := qM H
    clear H
    have hnb18 := NB614_615.out
    have hnc18 := NB615_614.out
    have hcz19_0 : w5.cell? ⟨gb614, 0, none⟩ = some (.slice A0_0 l0_0.length c0_0) := (qC BK614.out 0).trans rfl
    have hcz19_1 : w5.cell? ⟨gb614, 1, none⟩ = some (.slice A0_1 l0_1.length c0_1) := (qC BK614.out 1).trans rfl
    have hfz19_0 := qF BK614.out 0
    have hfz19_1 := qF BK614.out 1
    go_wp2_with (first | (go_at_call 90; (with_reducible refine (impl_SheetOk.calls k _ _ l0_0 _ _ l0_1 true _ ?side1 ?side2 ?side3 ?side4 A8.out).mono ?_); (case side1 => repeat (first | exact (qB HR0_0.out HB.out) | (with_reducible refine qc ?_ _) | (with_reducible refine qe ?_ _) | (with_reducible refine qf ?_))); (case side2 => exact HC0_0.out); (case side3 => repeat (first | exact (qB HR0_1.out HB.out) | (with_reducible refine qc ?_ _) | (with_reducible refine qe ?_ _) | (with_reducible refine qf ?_))); (case side4 => exact HC0_1.out); rintro e w20 ⟨rfl, hb⟩; have n0_ := qM (blk_below (g := gb614) (o := .cells #[.slice A0_0 l0_0.length c0_0, .slice A0_1 l0_1.length c0_1] 56 (0, 0)) (by (with_reducible repeat (first | refine qn ?_ _ | refine qd ?_ | refine qa ?_ _)); exact BK614.out) hb); have n1_ := qM (blk_below (g := gb615) (o := .cells #[.slice A1_0 l1_0.length c1_0, .slice A1_1 l1_1.length c1_1, .slice A1_2 l1_2.length c1_2, .slice A1_3 l1_3.length c1_3] 60 (0, 0)) (by (with_reducible repeat (first | refine qn ?_ _ | refine qd ?_ | refine qa ?_ _)); exact BK615.out) hb); have n2_ := qM (qs (by repeat (first | (with_reducible first | exact HB.out | apply qA | apply qN | apply qD | refine qS ?_ GE614.out | refine qS ?_ GE615.out) | exact HB.out)) hb); clear BK614; clear BK615; clear HB; have BK614 := n0_; have BK615 := n1_; have HB := n2_; clear n0_ n1_ n2_; (try clear hb); (try clear hb2); (try clear hk); (try clear hi); have hcz21_0 : w20.cell? ⟨gb615, 0, none⟩ = some (.slice A1_0 l1_0.length c1_0) := (qC BK615.out 0).trans rfl; have hcz21_1 : w20.cell? ⟨gb615, 1, none⟩ = some (.slice A1_1 l1_1.length c1_1) := (qC BK615.out 1).trans rfl; have hcz21_2 : w20.cell? ⟨gb615, 2, none⟩ = some (.slice A1_2 l1_2.length c1_2) := (qC BK615.out 2).trans rfl; have hcz21_3 : w20.cell? ⟨gb615, 3, none⟩ = some (.slice A1_3 l1_3.length c1_3) := (qC BK615.out 3).trans rfl; have hfz21_0 := qF BK615.out 0; have hfz21_1 := qF BK615.out 1; have hfz21_2 := qF BK615.out 2; have hfz21_3 := qF BK615.out 3) | (go_at_call 91; (with_reducible refine (impl_areValues.calls _ _ l1_0 true _ ?side1 ?side2 A13.out).mono ?_); (case side1 => repeat (first | exact (qB HR1_0.out HB.out) | (with_reducible refine qc ?_ _) | (with_reducible refine qe ?_ _) | (with_reducible refine qf ?_))); (case side2 => exact HC1_0.out); rintro e w22 ⟨rfl, hb⟩; have n0_ := qM (blk_below (g := gb614) (o := .cells #[.slice A0_0 l0_0.length c0_0, .slice A0_1 l0_1.length c0_1] 56 (0, 0)) (by (with_reducible repeat (first | refine qn ?_ _ | refine qd ?_ | refine qa ?_ _)); exact BK614.out) hb); have n1_ := qM (blk_below (g := gb615) (o := .cells #[.slice A1_0 l1_0.length c1_0, .slice A1_1 l1_1.length c1_1, .slice A1_2 l1_2.length c1_2, .slice A1_3 l1_3.length c1_3] 60 (0, 0)) (by (with_reducible repeat (first | refine qn ?_ _ | refine qd ?_ | refine qa ?_ _)); exact BK615.out) hb); have n2_ := qM (qs (by repeat (first | (with_reducible first | exact HB.out | apply qA | apply qN | apply qD | refine qS ?_ GE614.out | refine qS ?_ GE615.out) | exact HB.out)) hb); clear BK614; clear BK615; clear HB; have BK614 := n0_; have BK615 := n1_; have HB := n2_; clear n0_ n1_ n2_; (try clear hb); (try clear hb2); (try clear hk); (try clear hi); have hcz23_0 : w22.cell? ⟨gb615, 0, none⟩ = some (.slice A1_0 l1_0.length c1_0) := (qC BK615.out 0).trans rfl; have hcz23_1 : w22.cell? ⟨gb615, 1, none⟩ = some (.slice A1_1 l1_1.length c1_1) := (qC BK615.out 1).trans rfl; have hcz23_2 : w22.cell? ⟨gb615, 2, none⟩ = some (.slice A1_2 l1_2.length c1_2) := (qC BK615.out 2).trans rfl; have hcz23_3 : w22.cell? ⟨gb615, 3, none⟩ = some (.slice A1_3 l1_3.length c1_3) := (qC BK615.out 3).trans rfl; have hfz23_0 := qF BK615.out 0; have hfz23_1 := qF BK615.out 1; have hfz23_2 := qF BK615.out 2; have hfz23_3 := qF BK615.out 3) | (go_at_call 91; (with_reducible refine (impl_areValues.calls _ _ l1_2 true _ ?side1 ?side2 A15.out).mono ?_); (case side1 => repeat (first | exact (qB HR1_2.out HB.out) | (with_reducible refine qc ?_ _) | (with_reducible refine qe ?_ _) | (with_reducible refine qf ?_))); (case side2 => exact HC1_2.out); rintro e w24 ⟨rfl, hb⟩; have n0_ := qM (blk_below (g := gb614) (o := .cells #[.slice A0_0 l0_0.length c0_0, .slice A0_1 l0_1.length c0_1] 56 (0, 0)) (by (with_reducible repeat (first | refine qn ?_ _ | refine qd ?_ | refine qa ?_ _)); exact BK614.out) hb); have n1_ := qM (blk_below (g := gb615) (o := .cells #[.slice A1_0 l1_0.length c1_0, .slice A1_1 l1_1.length c1_1, .slice A1_2 l1_2.length c1_2, .slice A1_3 l1_3.length c1_3] 60 (0, 0)) (by (with_reducible repeat (first | refine qn ?_ _ | refine qd ?_ | refine qa ?_ _)); exact BK615.out) hb); have n2_ := qM (qs (by repeat (first | (with_reducible first | exact HB.out | apply qA | apply qN | apply qD | refine qS ?_ GE614.out | refine qS ?_ GE615.out) | exact HB.out)) hb); clear BK614; clear BK615; clear HB; have BK614 := n0_; have BK615 := n1_; have HB := n2_; clear n0_ n1_ n2_; (try clear hb); (try clear hb2); (try clear hk); (try clear hi); have hcz25_0 : w24.cell? ⟨gb615, 0, none⟩ = some (.slice A1_0 l1_0.length c1_0) := (qC BK615.out 0).trans rfl; have hcz25_1 : w24.cell? ⟨gb615, 1, none⟩ = some (.slice A1_1 l1_1.length c1_1) := (qC BK615.out 1).trans rfl; have hcz25_2 : w24.cell? ⟨gb615, 2, none⟩ = some (.slice A1_2 l1_2.length c1_2) := (qC BK615.out 2).trans rfl; have hcz25_3 : w24.cell? ⟨gb615, 3, none⟩ = some (.slice A1_3 l1_3.length c1_3) := (qC BK615.out 3).trans rfl; have hfz25_0 := qF BK615.out 0; have hfz25_1 := qF BK615.out 1; have hfz25_2 := qF BK615.out 2; have hfz25_3 := qF BK615.out 3) | (go_at_call 63; (with_reducible refine (impl_TracesOk.calls _ _ l1_3 t619 _ ?side1 ?side2 A17.out).mono ?_); (case side1 => repeat (first | exact (qB HR1_3.out HB.out) | (with_reducible refine qc ?_ _) | (with_reducible refine qe ?_ _) | (with_reducible refine qf ?_))); (case side2 => exact HC1_3.out); rintro e w26 ⟨rfl, hb⟩; have n0_ := qM (blk_below (g := gb614) (o := .cells #[.slice A0_0 l0_0.length c0_0, .slice A0_1 l0_1.length c0_1] 56 (0, 0)) (by (with_reducible repeat (first | refine qn ?_ _ | refine qd ?_ | refine qa ?_ _)); exact BK614.out) hb); have n1_ := qM (blk_below (g := gb615) (o := .cells #[.slice A1_0 l1_0.length c1_0, .slice A1_1 l1_1.length c1_1, .slice A1_2 l1_2.length c1_2, .slice A1_3 l1_3.length c1_3] 60 (0, 0)) (by (with_reducible repeat (first | refine qn ?_ _ | refine qd ?_ | refine qa ?_ _)); exact BK615.out) hb); have n2_ := qM (qs (by repeat (first | (with_reducible first | exact HB.out | apply qA | apply qN | apply qD | refine qS ?_ GE614.out | refine qS ?_ GE615.out) | exact HB.out)) hb); clear BK614; clear BK615; clear HB; have BK614 := n0_; have BK615 := n1_; have HB := n2_; clear n0_ n1_ n2_; (try clear hb); (try clear hb2); (try clear hk); (try clear hi)))
    repeat (go_quiet (fail); try go_wp2)
    go_meet
    case rel => exact ⟨_, (!t619), (by first | rfl | (simp; done) | (simp [*]; done)), H', ⟨by first | omega | exact Nat.le_refl _⟩, ⟨by (with_reducible repeat (first | refine qn ?_ _ | refine qd ?_ | refine qa ?_ _)); exact BK614.out⟩, ⟨by (with_reducible repeat (first | refine qn ?_ _ | refine qd ?_ | refine qa ?_ _)); exact BK615.out⟩, ⟨by repeat (first | (with_reducible first | exact HB.out | apply qA | apply qN | apply qD | refine qS ?_ GE614.out | refine qS ?_ GE615.out) | exact HB.out)⟩⟩
  case rest =>
    clear HC3
    try clear c1
    try clear c2
    try clear p2
    try clear c3
    try clear c4
    try clear c5
    try clear c6
    try clear c9
    try clear c10
    try clear c10b0
    try clear c10b1
    try clear c10b2
    try clear c11
    try clear c11b0
    try clear c11b1
    try clear c11b2
    try clear c12
    try clear c12b0
    try clear c12b1
    try clear c12b2
    try clear c14
    try clear c16
    try clear c18
    try clear c27
    try clear c34
    try clear c37
    try clear c39
    try clear c43
    try clear c47
    try clear c51
    try clear hcz19_0
    try clear hcz19_1
    try clear hcz21_0
    try clear hcz21_1
    try clear hcz21_2
    try clear hcz21_3
    try clear hcz23_0
    try clear hcz23_1
    try clear hcz23_2
    try clear hcz23_3
    try clear hcz25_0
    try clear hcz25_1
    try clear hcz25_2
    try clear hcz25_3
    try clear hcz28_0
    try clear hcz28_1
    try clear hcz30_0
    try clear hcz30_1
    try clear hcz30_2
    try clear hcz30_3
    try clear hcz32_0
    try clear hcz32_1
    try clear hcz32_2
    try clear hcz32_3
    try clear hcz35_0
    try clear hcz35_1
    try clear hcz37_0
    try clear hcz37_1
    try clear hcz37_2
    try clear hcz37_3
    try clear hcz40_0
    try clear hcz40_1
    try clear hcz42_0
    try clear hcz42_1
    try clear hcz42_2
    try clear hcz42_3
    try clear hcz44_0
    try clear hcz44_1
    try clear hcz46_0
    try clear hcz46_1
    try clear hcz46_2
    try clear hcz46_3
    try clear hcz48_0
    try clear hcz48_1
    try clear hcz50_0
    try clear hcz50_1
    try clear hcz50_2
    try clear hcz50_3
    try clear hcz52_0
    try clear hcz52_1
    try clear hcz7_0
    try clear hcz7_1
    try clear hfz19_0
    try clear hfz19_1
    try clear hfz21_0
    try clear hfz21_1
    try clear hfz21_2
    try clear hfz21_3
    try clear hfz23_0
    try clear hfz23_1
    try clear hfz23_2
    try clear hfz23_3
    try clear hfz25_0
    try clear hfz25_1
    try clear hfz25_2
    try clear hfz25_3
    try clear hfz28_0
    try clear hfz28_1
    try clear hfz30_0
    try clear hfz30_1
    try clear hfz30_2
    try clear hfz30_3
    try clear hfz32_0
    try clear hfz32_1
    try clear hfz32_2
    try clear hfz32_3
    try clear hfz35_0
    try clear hfz35_1
    try clear hfz37_0
    try clear hfz37_1
    try clear hfz37_2
    try clear hfz37_3
    try clear hfz40_0
    try clear hfz40_1
    try clear hfz42_0
    try clear hfz42_1
    try clear hfz42_2
    try clear hfz42_3
    try clear hfz44_0
    try clear hfz44_1
    try clear hfz46_0
    try clear hfz46_1
    try clear hfz46_2
    try clear hfz46_3
    try clear hfz48_0
    try clear hfz48_1
    try clear hfz50_0
    try clear hfz50_1
    try clear hfz50_2
    try clear hfz50_3
    try clear hfz52_0
    try clear hfz52_1
    try clear hfz7_0
    try clear hfz7_1
    obtain ⟨kq, x52_2, rfl, HA, HJ2, BK614, BK615, HB⟩ := hcut
    cases kq with
    | zero => exact absurd HA.out (by simp [impl_StateOk.j0])
    | succ kj2 =>
      have H := HA.out
      clear HA
      simp only [impl_StateOk.j0] at H
      by_cases c54 : x52_2 = true
      · subst c54
        have H1 : (some false) = some r := by rw [if_pos rfl] at H; exact H
        clear H
        have H := H1
        clear H1
        obtain rfl := Option.some.inj H
        go_wp2
        repeat (go_quiet (fail); try go_wp2)
        go_ret
        exact ⟨by first | rfl | (simp [errW_none, errW_some] <;> rfl) | (simp [*, errW_none, errW_some] <;> rfl), by repeat (first | (with_reducible first | exact HB.out | apply qA | apply qN | apply qD | refine qS ?_ GE614.out | refine qS ?_ GE615.out) | exact HB.out)⟩
      replace c54 := Bool.eq_false_iff.mpr c54
      subst c54
      have H1 : (impl_StateOk.l0 kj2 l0_0 (l0_0.length : Int) 0 l0_0 l0_1 l1_0 l1_1 l1_2 l1_3) = some r := by rw [if_neg (show ¬ (false = true) by decide)] at H; exact H
      clear H
      have H := H1
      clear H1
      have H' := qM H
      clear H
      have hnb55 := NB614_615.out
      have hnc55 := NB615_614.out
      have hcz56_0 : wc.cell? ⟨gb614, 0, none⟩ = some (.slice A0_0 l0_0.length c0_0) := (qC BK614.out 0).trans rfl
      have hcz56_1 : wc.cell? ⟨gb614, 1, none⟩ = some (.slice A0_1 l0_1.length c0_1) := (qC BK614.out 1).trans rfl
      have hfz56_0 := qF BK614.out 0
      have hfz56_1 := qF BK614.out 1
      go_wp2
      repeat (go_quiet (fail); try go_wp2)
      go_loopg [56] kj2 (fun kq v56 w' => ∃ (x56_2 : Int), v56 = .int .i64 x56_2 ∧ Aside0 (impl_StateOk.l0 kq l0_0 (l0_0.length : Int) x56_2 l0_0 l0_1 l1_0 l1_1 l1_2 l1_3 = some r) ∧ Aside0 (kq ≤ kj2) ∧ Aside0 (w'.heap[gb614]? = some (.cells #[(.slice A0_0 l0_0.length c0_0), (.slice A0_1 l0_1.length c0_1)] 56 (0, 0))) ∧ Aside0 (w'.heap[gb615]? = some (.cells #[(.slice A1_0 l1_0.length c1_0), (.slice A1_1 l1_1.length c1_1), (.slice A1_2 l1_2.length c1_2), (.slice A1_3 l1_3.length c1_3)] 60 (0, 0))) ∧ Aside0 (Below w.heap.size w w'))
      case atStart => exact ⟨(0), (by first | rfl | (simp; done) | (simp [*]; done)), H', ⟨Nat.le_refl _⟩, ⟨by (with_reducible repeat (first | refine qn ?_ _ | refine qd ?_ | refine qa ?_ _)); exact BK614.out⟩, ⟨by (with_reducible repeat (first | refine qn ?_ _ | refine qd ?_ | refine qa ?_ _)); exact BK615.out⟩, ⟨by repeat (first | (with_reducible first | exact HB.out | apply qA | apply qN | apply qD | refine qS ?_ GE614.out | refine qS ?_ GE615.out) | exact HB.out)⟩⟩
      case round =>
        clear H'
        try clear c1
        try clear c2
        try clear p2
        try clear c3
        try clear c4
        try clear c5
        try clear c6
        try clear c9
        try clear c10
        try clear c10b0
        try clear c10b1
        try clear c10b2
        try clear c11
        try clear c11b0
        try clear c11b1
        try clear c11b2
        try clear c12
        try clear c12b0
        try clear c12b1
        try clear c12b2
        try clear c14
        try clear c16
        try clear c18
        try clear c27
        try clear c34
        try clear c37
        try clear c39
        try clear c43
        try clear c47
        try clear c51
        try clear c54
        try clear c55
        try clear hcz19_0
        try clear hcz19_1
        try clear hcz21_0
        try clear hcz21_1
        try clear hcz21_2
        try clear hcz21_3
        try clear hcz23_0
        try clear hcz23_1
        try clear hcz23_2
        try clear hcz23_3
        try clear hcz25_0
        try clear hcz25_1
        try clear hcz25_2
        try clear hcz25_3
        try clear hcz28_0
        try clear hcz28_1
        try clear hcz30_0
        try clear hcz30_1
        try clear hcz30_2
        try clear hcz30_3
        try clear hcz32_0
        try clear hcz32_1
        try clear hcz32_2
        try clear hcz32_3
        try clear hcz35_0
        try clear hcz35_1
        try clear hcz37_0
        try clear hcz37_1
        try clear hcz37_2
        try clear hcz37_3
        try clear hcz40_0
        try clear hcz40_1
        try clear hcz42_0
        try clear hcz42_1
        try clear hcz42_2
        try clear hcz42_3
        try clear hcz44_0
        try clear hcz44_1
        try clear hcz46_0
        try clear hcz46_1
        try clear hcz46_2
        try clear hcz46_3
        try clear hcz48_0
        try clear hcz48_1
        try clear hcz50_0
        try clear hcz50_1
        try clear hcz50_2
        try clear hcz50_3
        try clear hcz52_0
        try clear hcz52_1
        try clear hcz56_0
        try clear hcz56_1
        try clear hcz7_0
        try clear hcz7_1
        try clear hfz19_0
        try clear hfz19_1
        try clear hfz21_0
        try clear hfz21_1
        try clear hfz21_2
        try clear hfz21_3
        try clear hfz23_0
        try clear hfz23_1
        try clear hfz23_2
        try clear hfz23_3
        try clear hfz25_0
        try clear hfz25_1
        try clear hfz25_2
        try clear hfz25_3
        try clear hfz28_0
        try clear hfz28_1
        try clear hfz30_0
        try clear hfz30_1
        try clear hfz30_2
        try clear hfz30_3
        try clear hfz32_0
        try clear hfz32_1
        try clear hfz32_2
        try clear hfz32_3
        try clear hfz35_0
        try clear hfz35_1
        try clear hfz37_0
        try clear hfz37_1
        try clear hfz37_2
        try clear hfz37_3
        try clear hfz40_0
        try clear hfz40_1
        try clear hfz42_0
        try clear hfz42_1
        try clear hfz42_2
        try clear hfz42_3
        try clear hfz44_0
        try clear hfz44_1
        try clear hfz46_0
        try clear hfz46_1
        try clear hfz46_2
        try clear hfz46_3
        try clear hfz48_0
        try clear hfz48_1
        try clear hfz50_0
        try clear hfz50_1
        try clear hfz50_2
        try clear hfz50_3
        try clear hfz52_0
        try clear hfz52_1
        try clear hfz56_0
        try clear hfz56_1
        try clear hfz7_0
        try clear hfz7_1
        try clear p2
        obtain ⟨x56_2, rfl, HA, HK2, BK614, BK615, HB⟩ := hrel
        cases gk with
        | zero => exact absurd HA.out (by simp [impl_StateOk.l0])
        | succ k2 =>
          have H := HA.out
          clear HA
          simp only [impl_StateOk.l0] at H
          by_cases c57 : x56_2 < (l0_0.length : Int)
          rotate_left
          · rw [if_neg c57] at H
            have c57b0 : decide (x56_2 < (l0_0.length : Int)) = false := decide_eq_false c57
            clear c57
            replace H := Option.bind_eq_some_iff.mp H
            obtain ⟨t625, A800, H⟩ := H
            replace H : (some (!t625)) = some r := H
            have A80 := qM A800
            clear A800
            obtain rfl := Option.some.inj H
            have hnb81 := NB615_614.out
            have hnc81 := NB614_615.out
            have hcz82_0 : wr.cell? ⟨gb615, 0, none⟩ = some (.slice A1_0 l1_0.length c1_0) := (qC BK615.out 0).trans rfl
            have hcz82_1 : wr.cell? ⟨gb615, 1, none⟩ = some (.slice A1_1 l1_1.length c1_1) := (qC BK615.out 1).trans rfl
            have hcz82_2 : wr.cell? ⟨gb615, 2, none⟩ = some (.slice A1_2 l1_2.length c1_2) := (qC BK615.out 2).trans rfl
            have hcz82_3 : wr.cell? ⟨gb615, 3, none⟩ = some (.slice A1_3 l1_3.length c1_3) := (qC BK615.out 3).trans rfl
            have hfz82_0 := qF BK615.out 0
            have hfz82_1 := qF BK615.out 1
            have hfz82_2 := qF BK615.out 2
            have hfz82_3 := qF BK615.out 3
            go_wp2_with (first | (go_at_call 92; (with_reducible refine (impl_StateOk_1_any.calls _ _ l1_3 gb614 A0_0 c0_0 l0_0 A0_1 c0_1 l0_1 t625 _ ?side1 ?side2 ?side3 ?side4 ?side5 ?side6 ?side7 A80.out).mono ?_); (case side1 => (with_reducible repeat (first | refine qn ?_ _ | refine qd ?_ | refine qa ?_ _)); exact BK614.out); (case side2 => repeat (first | exact (qB HR1_3.out HB.out) | (with_reducible refine qc ?_ _) | (with_reducible refine qe ?_ _) | (with_reducible refine qf ?_))); (case side3 => exact HC1_3.out); (case side4 => repeat (first | exact (qB HR0_0.out HB.out) | (with_reducible refine qc ?_ _) | (with_reducible refine qe ?_ _) | (with_reducible refine qf ?_))); (case side5 => exact HC0_0.out); (case side6 => repeat (first | exact (qB HR0_1.out HB.out) | (with_reducible refine qc ?_ _) | (with_reducible refine qe ?_ _) | (with_reducible refine qf ?_))); (case side7 => exact HC0_1.out); rintro e w83 ⟨rfl, hb⟩; have n0_ := qM (blk_below (g := gb614) (o := .cells #[.slice A0_0 l0_0.length c0_0, .slice A0_1 l0_1.length c0_1] 56 (0, 0)) (by (with_reducible repeat (first | refine qn ?_ _ | refine qd ?_ | refine qa ?_ _)); exact BK614.out) hb); have n1_ := qM (blk_below (g := gb615) (o := .cells #[.slice A1_0 l1_0.length c1_0, .slice A1_1 l1_1.length c1_1, .slice A1_2 l1_2.length c1_2, .slice A1_3 l1_3.length c1_3] 60 (0, 0)) (by (with_reducible repeat (first | refine qn ?_ _ | refine qd ?_ | refine qa ?_ _)); exact BK615.out) hb); have n2_ := qM (qs (by repeat (first | (with_reducible first | exact HB.out | apply qA | apply qN | apply qD | refine qS ?_ GE614.out | refine qS ?_ GE615.out) | exact HB.out)) hb); clear BK614; clear BK615; clear HB; have BK614 := n0_; have BK615 := n1_; have HB := n2_; clear n0_ n1_ n2_; (try clear hb); (try clear hb2); (try clear hk); (try clear hi)))
            repeat (go_quiet (fail); try go_wp2)
            go_ret
            exact ⟨by first | rfl | (simp [errW_none, errW_some] <;> rfl) | (simp [*, errW_none, errW_some] <;> rfl), by repeat (first | (with_reducible first | exact HB.out | apply qA | apply qN | apply qD | refine qS ?_ GE614.out | refine qS ?_ GE615.out) | exact HB.out)⟩
          rw [if_pos c57] at H
          have c57b0 : decide (x56_2 < (l0_0.length : Int)) = true := decide_eq_true c57
          clear c57
          by_cases c58 : 0 ≤ x56_2
          rotate_left
          · rw [if_neg c58] at H
            exact absurd H (by simp)
          rw [if_pos c58] at H
          have c58b0 : decide (0 ≤ x56_2) = true := decide_eq_true c58
          clear c58
          by_cases c59 : x56_2 < (l0_0.length : Int)
          rotate_left
          · rw [if_neg c59] at H
            exact absurd H (by simp)
          rw [if_pos c59] at H
          have c59b0 : decide (x56_2 < (l0_0.length : Int)) = true := decide_eq_true c59
          clear c59
          obtain ⟨bq60, hbq60⟩ : ∃ b_ : Bool, b_ = (rdOf false l0_0 x56_2) := ⟨_, rfl⟩
          replace H : (if bq60 = true then (if x56_2 < (l1_2.length : Int) then (if (rd l1_2 x56_2) = 0 then (impl_StateOk.l0 k2 l0_0 (l0_0.length : Int) (wrap64 (x56_2 + 1)) l0_0 l0_1 l1_0 l1_1 l1_2 l1_3) else (some false)) else (none)) else (if x56_2 < (l1_1.length : Int) then (if rdOf false l1_1 x56_2 = true then (some false) else (if x56_2 < (l1_0.length : Int) then (if x56_2 < (l1_2.length : Int) then (if (rd l1_0 x56_2) = (rd l1_2 x56_2) then (impl_StateOk.l0 k2 l0_0 (l0_0.length : Int) (wrap64 (x56_2 + 1)) l0_0 l0_1 l1_0 l1_1 l1_2 l1_3) else (some false)) else (none)) else (none))) else (none))) = some r := by rw [← hbq60] at H; exact H
          have Nbq60 := qM hbq60
          clear hbq60
          by_cases c61 : bq60 = true
          · subst c61
            have H1 : (if x56_2 < (l1_2.length : Int) then (if (rd l1_2 x56_2) = 0 then (impl_StateOk.l0 k2 l0_0 (l0_0.length : Int) (wrap64 (x56_2 + 1)) l0_0 l0_1 l1_0 l1_1 l1_2 l1_3) else (some false)) else (none)) = some r := by rw [if_pos rfl] at H; exact H
            clear H
            have H := H1
            clear H1
            by_cases c62 : x56_2 < (l1_2.length : Int)
            rotate_left
            · rw [if_neg c62] at H
              exact absurd H (by simp)
            rw [if_pos c62] at H
            have c62b0 : decide (x56_2 < (l1_2.length : Int)) = true := decide_eq_true c62
            clear c62
            by_cases c63 : (rd l1_2 x56_2) = 0
            rotate_left
            · rw [if_neg c63] at H
              have c63b0 : ((rd l1_2 x56_2) == 0) = false := beq_eq_false_iff_ne.mpr c63
              have c63b1 : ((rd l1_2 x56_2) != 0) = true := bne_iff_ne.mpr c63
              obtain rfl := Option.some.inj H
              have p620 : 0 ≤ (x56_2 : Int) := qO (by first | (with_reducible assumption) | assumption)
              have q620 : x56_2 < (l0_0.length : Int) := qO (by first | (with_reducible assumption) | assumption)
              obtain ⟨ad620, e620, hx620_0⟩ := Kd.at_bool HR0_0.out x56_2 p620 q620
              (try rw [← Nbq60.out] at hx620_0)
              cases e620
              replace hx620_0 := (HB.out.cell (qL w _ hx620_0)).trans hx620_0
              replace p620 := eq_true p620
              replace q620 := eq_true q620
              have hnb66 := NB615_614.out
              have hnc66 := NB614_615.out
              have hcz67_0 : wr.cell? ⟨gb615, 0, none⟩ = some (.slice A1_0 l1_0.length c1_0) := (qC BK615.out 0).trans rfl
              have hcz67_1 : wr.cell? ⟨gb615, 1, none⟩ = some (.slice A1_1 l1_1.length c1_1) := (qC BK615.out 1).trans rfl
              have hcz67_2 : wr.cell? ⟨gb615, 2, none⟩ = some (.slice A1_2 l1_2.length c1_2) := (qC BK615.out 2).trans rfl
              have hcz67_3 : wr.cell? ⟨gb615, 3, none⟩ = some (.slice A1_3 l1_3.length c1_3) := (qC BK615.out 3).trans rfl
              have hfz67_0 := qF BK615.out 0
              have hfz67_1 := qF BK615.out 1
              have hfz67_2 := qF BK615.out 2
              have hfz67_3 := qF BK615.out 3
              have p621 : 0 ≤ (x56_2 : Int) := qO (by first | (with_reducible assumption) | assumption)
              have q621 : x56_2 < (l1_2.length : Int) := qO (by first | (with_reducible assumption) | assumption)
              obtain ⟨ad621, e621, hx621_0⟩ := Kd.at_int HR1_2.out x56_2 p621 q621
              cases e621
              replace hx621_0 := (HB.out.cell (qL w _ hx621_0)).trans hx621_0
              replace p621 := eq_true p621
              replace q621 := eq_true q621
              go_wp2
              repeat (go_quiet (fail); try go_wp2)
              go_ret
              exact ⟨by first | rfl | (simp [errW_none, errW_some] <;> rfl) | (simp [*, errW_none, errW_some] <;> rfl), by repeat (first | (with_reducible first | exact HB.out | apply qA | apply qN | apply qD | refine qS ?_ GE614.out | refine qS ?_ GE615.out) | exact HB.out)⟩
            rw [if_pos c63] at H
            have c63b0 : ((rd l1_2 x56_2) == 0) = true := beq_iff_eq.mpr c63
            have c63b1 : ((rd l1_2 x56_2) != 0) = false := bne_eq_false_iff_eq.mpr c63
            clear c63
            have H' := qM H
            clear H
            have p620 : 0 ≤ (x56_2 : Int) := qO (by first | (with_reducible assumption) | assumption)
            have q620 : x56_2 < (l0_0.length : Int) := qO (by first | (with_reducible assumption) | assumption)
            obtain ⟨ad620, e620, hx620_0⟩ := Kd.at_bool HR0_0.out x56_2 p620 q620
            (try rw [← Nbq60.out] at hx620_0)
            cases e620
            replace hx620_0 := (HB.out.cell (qL w _ hx620_0)).trans hx620_0
            replace p620 := eq_true p620
            replace q620 := eq_true q620
            have hnb64 := NB615_614.out
            have hnc64 := NB614_615.out
            have hcz65_0 : wr.cell? ⟨gb615, 0, none⟩ = some (.slice A1_0 l1_0.length c1_0) := (qC BK615.out 0).trans rfl
            have hcz65_1 : wr.cell? ⟨gb615, 1, none⟩ = some (.slice A1_1 l1_1.length c1_1) := (qC BK615.out 1).trans rfl
            have hcz65_2 : wr.cell? ⟨gb615, 2, none⟩ = some (.slice A1_2 l1_2.length c1_2) := (qC BK615.out 2).trans rfl
            have hcz65_3 : wr.cell? ⟨gb615, 3, none⟩ = some (.slice A1_3 l1_3.length c1_3) := (qC BK615.out 3).trans rfl
            have hfz65_0 := qF BK615.out 0
            have hfz65_1 := qF BK615.out 1
            have hfz65_2 := qF BK615.out 2
            have hfz65_3 := qF BK615.out 3
            have p621 : 0 ≤ (x56_2 : Int) := qO (by first | (with_reducible assumption) | assumption)
            have q621 : x56_2 < (l1_2.length : Int) := qO (by first | (with_reducible assumption) | assumption)
            obtain ⟨ad621, e621, hx621_0⟩ := Kd.at_int HR1_2.out x56_2 p621 q621
            cases e621
            replace hx621_0 := (HB.out.cell (qL w _ hx621_0)).trans hx621_0
            replace p621 := eq_true p621
            replace q621 := eq_true q621
            go_wp2
            repeat (go_quiet (fail); try go_wp2)
            go_roundg k2
            case measure => have := HJ2.out; have := HK2.out; omega
            case rel => exact ⟨(wrap64 (x56_2 + 1)), (by first | rfl | (simp; done) | (simp [*]; done)), H', ⟨by have := HJ2.out; have := HK2.out; omega⟩, ⟨by (with_reducible repeat (first | refine qn ?_ _ | refine qd ?_ | refine qa ?_ _)); exact BK614.out⟩, ⟨by (with_reducible repeat (first | refine qn ?_ _ | refine qd ?_ | refine qa ?_ _)); exact BK615.out⟩, ⟨by repeat (first | (with_reducible first | exact HB.out | apply qA | apply qN | apply qD | refine qS ?_ GE614.out | refine qS ?_ GE615.out) | exact HB.out)⟩⟩
          replace c61 := Bool.eq_false_iff.mpr c61
          subst c61
          have H1 : (if x56_2 < (l1_1.length : Int) then (if rdOf false l1_1 x56_2 = true then (some false) else (if x56_2 < (l1_0.length : Int) then (if x56_2 < (l1_2.length : Int) then (if (rd l1_0 x56_2) = (rd l1_2 x56_2) then (impl_StateOk.l0 k2 l0_0 (l0_0.length : Int) (wrap64 (x56_2 + 1)) l0_0 l0_1 l1_0 l1_1 l1_2 l1_3) else (some false)) else (none)) else (none))) else (none)) = some r := by rw [if_neg (show ¬ (false = true) by decide)] at H; exact H
          clear H
          have H := H1
          clear H1
          by_cases c68 : x56_2 < (l1_1.length : Int)
          rotate_left
          · rw [if_neg c68] at H
            exact absurd H (by simp)
          rw [if_pos c68] at H
          have c68b0 : decide (x56_2 < (l1_1.length : Int)) = true := decide_eq_true c68
          clear c68
          obtain ⟨bq69, hbq69⟩ : ∃ b_ : Bool, b_ = (rdOf false l1_1 x56_2) := ⟨_, rfl⟩
          replace H : (if bq69 = true then (some false) else (if x56_2 < (l1_0.length : Int) then (if x56_2 < (l1_2.length : Int) then (if (rd l1_0 x56_2) = (rd l1_2 x56_2) then (impl_StateOk.l0 k2 l0_0 (l0_0.length : Int) (wrap64 (x56_2 + 1)) l0_0 l0_1 l1_0 l1_1 l1_2 l1_3) else (some false)) else (none)) else (none))) = some r := by rw [← hbq69] at H; exact H
          have Nbq69 := qM hbq69
          clear hbq69
          by_cases c70 : bq69 = true
          · subst c70
            have H1 : (some false) = some r := by rw [if_pos rfl] at H; exact H
            clear H
            have H := H1
            clear H1
            obtain rfl := Option.some.inj H
            have p620 : 0 ≤ (x56_2 : Int) := qO (by first | (with_reducible assumption) | assumption)
            have q620 : x56_2 < (l0_0.length : Int) := qO (by first | (with_reducible assumption) | assumption)
            obtain ⟨ad620, e620, hx620_0⟩ := Kd.at_bool HR0_0.out x56_2 p620 q620
            (try rw [← Nbq60.out] at hx620_0)
            (try rw [← Nbq69.out] at hx620_0)
            cases e620
            replace hx620_0 := (HB.out.cell (qL w _ hx620_0)).trans hx620_0
            replace p620 := eq_true p620
            replace q620 := eq_true q620
            have hnb71 := NB615_614.out
            have hnc71 := NB614_615.out
            have hcz72_0 : wr.cell? ⟨gb615, 0, none⟩ = some (.slice A1_0 l1_0.length c1_0) := (qC BK615.out 0).trans rfl
            have hcz72_1 : wr.cell? ⟨gb615, 1, none⟩ = some (.slice A1_1 l1_1.length c1_1) := (qC BK615.out 1).trans rfl
            have hcz72_2 : wr.cell? ⟨gb615, 2, none⟩ = some (.slice A1_2 l1_2.length c1_2) := (qC BK615.out 2).trans rfl
            have hcz72_3 : wr.cell? ⟨gb615, 3, none⟩ = some (.slice A1_3 l1_3.length c1_3) := (qC BK615.out 3).trans rfl
            have hfz72_0 := qF BK615.out 0
            have hfz72_1 := qF BK615.out 1
            have hfz72_2 := qF BK615.out 2
            have hfz72_3 := qF BK615.out 3
            have p622 : 0 ≤ (x56_2 : Int) := qO (by first | (with_reducible assumption) | assumption)
            have q622 : x56_2 < (l1_1.length : Int) := qO (by first | (with_reducible assumption) | assumption)
            obtain ⟨ad622, e622, hx622_0⟩ := Kd.at_bool HR1_1.out x56_2 p622 q622
            (try rw [← Nbq60.out] at hx622_0)
            (try rw [← Nbq69.out] at hx622_0)
            cases e622
            replace hx622_0 := (HB.out.cell (qL w _ hx622_0)).trans hx622_0
            replace p622 := eq_true p622
            replace q622 := eq_true q622
            go_wp2
            repeat (go_quiet (fail); try go_wp2)
            go_ret
            exact ⟨by first | rfl | (simp [errW_none, errW_some] <;> rfl) | (simp [*, errW_none, errW_some] <;> rfl), by repeat (first | (with_reducible first | exact HB.out | apply qA | apply qN | apply qD | refine qS ?_ GE614.out | refine qS ?_ GE615.out) | exact HB.out)⟩
          replace c70 := Bool.eq_false_iff.mpr c70
          subst c70
          have H1 : (if x56_2 < (l1_0.length : Int) then (if x56_2 < (l1_2.length : Int) then (if (rd l1_0 x56_2) = (rd l1_2 x56_2) then (impl_StateOk.l0 k2 l0_0 (l0_0.length : Int) (wrap64 (x56_2 + 1)) l0_0 l0_1 l1_0 l1_1 l1_2 l1_3) else (some false)) else (none)) else (none)) = some r := by rw [if_neg (show ¬ (false = true) by decide)] at H; exact H
          clear H
          have H := H1
          clear H1
          by_cases c73 : x56_2 < (l1_0.length : Int)
          rotate_left
          · rw [if_neg c73] at H
            exact absurd H (by simp)
          rw [if_pos c73] at H
          have c73b0 : decide (x56_2 < (l1_0.length : Int)) = true := decide_eq_true c73
          clear c73
          by_cases c74 : x56_2 < (l1_2.length : Int)
          rotate_left
          · rw [if_neg c74] at H
            exact absurd H (by simp)
          rw [if_pos c74] at H
          have c74b0 : decide (x56_2 < (l1_2.length : Int)) = true := decide_eq_true c74
          clear c74
          by_cases c75 : (rd l1_0 x56_2) = (rd l1_2 x56_2)
          rotate_left
          · rw [if_neg c75] at H
            have c75b0 : ((rd l1_0 x56_2) == (rd l1_2 x56_2)) = false := beq_eq_false_iff_ne.mpr c75
            have c75b1 : ((rd l1_0 x56_2) != (rd l1_2 x56_2)) = true := bne_iff_ne.mpr c75
            obtain rfl := Option.some.inj H
            have p620 : 0 ≤ (x56_2 : Int) := qO (by first | (with_reducible assumption) | assumption)
            have q620 : x56_2 < (l0_0.length : Int) := qO (by first | (with_reducible assumption) | assumption)
            obtain ⟨ad620, e620, hx620_0⟩ := Kd.at_bool HR0_0.out x56_2 p620 q620
            (try rw [← Nbq60.out] at hx620_0)
            (try rw [← Nbq69.out] at hx620_0)
            cases e620
            replace hx620_0 := (HB.out.cell (qL w _ hx620_0)).trans hx620_0
            replace p620 := eq_true p620
            replace q620 := eq_true q620
            have hnb78 := NB615_614.out
            have hnc78 := NB614_615.out
            have hcz79_0 : wr.cell? ⟨gb615, 0, none⟩ = some (.slice A1_0 l1_0.length c1_0) := (qC BK615.out 0).trans rfl
            have hcz79_1 : wr.cell? ⟨gb615, 1, none⟩ = some (.slice A1_1 l1_1.length c1_1) := (qC BK615.out 1).trans rfl
            have hcz79_2 : wr.cell? ⟨gb615, 2, none⟩ = some (.slice A1_2 l1_2.length c1_2) := (qC BK615.out 2).trans rfl
            have hcz79_3 : wr.cell? ⟨gb615, 3, none⟩ = some (.slice A1_3 l1_3.length c1_3) := (qC BK615.out 3).trans rfl
            have hfz79_0 := qF BK615.out 0
            have hfz79_1 := qF BK615.out 1
            have hfz79_2 := qF BK615.out 2
            have hfz79_3 := qF BK615.out 3
            have p622 : 0 ≤ (x56_2 : Int) := qO (by first | (with_reducible assumption) | assumption)
            have q622 : x56_2 < (l1_1.length : Int) := qO (by first | (with_reducible assumption) | assumption)
            obtain ⟨ad622, e622, hx622_0⟩ := Kd.at_bool HR1_1.out x56_2 p622 q622
            (try rw [← Nbq60.out] at hx622_0)
            (try rw [← Nbq69.out] at hx622_0)
            cases e622
            replace hx622_0 := (HB.out.cell (qL w _ hx622_0)).trans hx622_0
            replace p622 := eq_true p622
            replace q622 := eq_true q622
            have p623 : 0 ≤ (x56_2 : Int) := qO (by first | (with_reducible assumption) | assumption)
            have q623 : x56_2 < (l1_0.length : Int) := qO (by first | (with_reducible assumption) | assumption)
            obtain ⟨ad623, e623, hx623_0⟩ := Kd.at_int HR1_0.out x56_2 p623 q623
            cases e623
            replace hx623_0 := (HB.out.cell (qL w _ hx623_0)).trans hx623_0
            replace p623 := eq_true p623
            replace q623 := eq_true q623
            have p624 : 0 ≤ (x56_2 : Int) := qO (by first | (with_reducible assumption) | assumption)
            have q624 : x56_2 < (l1_2.length : Int) := qO (by first | (with_reducible assumption) | assumption)
            obtain ⟨ad624, e624, hx624_0⟩ := Kd.at_int HR1_2.out x56_2 p624 q624
            cases e624
            replace hx624_0 := (HB.out.cell (qL w _ hx624_0)).trans hx624_0
            replace p624 := eq_true p624
            replace q624 := eq_true q624
            go_wp2
            repeat (go_quiet (fail); try go_wp2)
            go_ret
            exact ⟨by first | rfl | (simp [errW_none, errW_some] <;> rfl) | (simp [*, errW_none, errW_some] <;> rfl), by repeat (first | (with_reducible first | exact HB.out | apply qA | apply qN | apply qD | refine qS ?_ GE614.out | refine qS ?_ GE615.out) | exact HB.out)⟩
          rw [if_pos c75] at H
          have c75b0 : ((rd l1_0 x56_2) == (rd l1_2 x56_2)) = true := beq_iff_eq.mpr c75
          have c75b1 : ((rd l1_0 x56_2) != (rd l1_2 x56_2)) = false := bne_eq_false_iff_eq.mpr c75
          clear c75
          have H' := qM H
          clear H
          have p620 : 0 ≤ (x56_2 : Int) := qO (by first | (with_reducible assumption) | assumption)
          have q620 : x56_2 < (l0_0.length : Int) := qO (by first | (with_reducible assumption) | assumption)
          obtain ⟨ad620, e620, hx620_0⟩ := Kd.at_bool HR0_0.out x56_2 p620 q620
          (try rw [← Nbq60.out] at hx620_0)
          (try rw [← Nbq69.out] at hx620_0)
          cases e620
          replace hx620_0 := (HB.out.cell (qL w _ hx620_0)).trans hx620_0
          replace p620 := eq_true p620
          replace q620 := eq_true q620
          have hnb76 := NB615_614.out
          have hnc76 := NB614_615.out
          have hcz77_0 : wr.cell? ⟨gb615, 0, none⟩ = some (.slice A1_0 l1_0.length c1_0) := (qC BK615.out 0).trans rfl
          have hcz77_1 : wr.cell? ⟨gb615, 1, none⟩ = some (.slice A1_1 l1_1.length c1_1) := (qC BK615.out 1).trans rfl
          have hcz77_2 : wr.cell? ⟨gb615, 2, none⟩ = some (.slice A1_2 l1_2.length c1_2) := (qC BK615.out 2).trans rfl
          have hcz77_3 : wr.cell? ⟨gb615, 3, none⟩ = some (.slice A1_3 l1_3.length c1_3) := (qC BK615.out 3).trans rfl
          have hfz77_0 := qF BK615.out 0
          have hfz77_1 := qF BK615.out 1
          have hfz77_2 := qF BK615.out 2
          have hfz77_3 := qF BK615.out 3
          have p622 : 0 ≤ (x56_2 : Int) := qO (by first | (with_reducible assumption) | assumption)
          have q622 : x56_2 < (l1_1.length : Int) := qO (by first | (with_reducible assumption) | assumption)
          obtain ⟨ad622, e622, hx622_0⟩ := Kd.at_bool HR1_1.out x56_2 p622 q622
          (try rw [← Nbq60.out] at hx622_0)
          (try rw [← Nbq69.out] at hx622_0)
          cases e622
          replace hx622_0 := (HB.out.cell (qL w _ hx622_0)).trans hx622_0
          replace p622 := eq_true p622
          replace q622 := eq_true q622
          have p623 : 0 ≤ (x56_2 : Int) := qO (by first | (with_reducible assumption) | assumption)
          have q623 : x56_2 < (l1_0.length : Int) := qO (by first | (with_reducible assumption) | assumption)
          obtain ⟨ad623, e623, hx623_0⟩ := Kd.at_int HR1_0.out x56_2 p623 q623
          cases e623
          replace hx623_0 := (HB.out.cell (qL w _ hx623_0)).trans hx623_0
          replace p623 := eq_true p623
          replace q623 := eq_true q623
          have p624 : 0 ≤ (x56_2 : Int) := qO (by first | (with_reducible assumption) | assumption)
          have q624 : x56_2 < (l1_2.length : Int) := qO (by first | (with_reducible assumption) | assumption)
          obtain ⟨ad624, e624, hx624_0⟩ := Kd.at_int HR1_2.out x56_2 p624 q624
          cases e624
          replace hx624_0 := (HB.out.cell (qL w _ hx624_0)).trans hx624_0
          replace p624 := eq_true p624
          replace q624 := eq_true q624
          go_wp2
          repeat (go_quiet (fail); try go_wp2)
          go_roundg k2
          case measure => have := HJ2.out; have := HK2.out; omega
          case rel => exact ⟨(wrap64 (x56_2 + 1)), (by first | rfl | (simp; done) | (simp [*]; done)), H', ⟨by have := HJ2.out; have := HK2.out; omega⟩, ⟨by (with_reducible repeat (first | refine qn ?_ _ | refine qd ?_ | refine qa ?_ _)); exact BK614.out⟩, ⟨by (with_reducible repeat (first | refine qn ?_ _ | refine qd ?_ | refine qa ?_ _)); exact BK615.out⟩, ⟨by repeat (first | (with_reducible first | exact HB.out | apply qA | apply qN | apply qD | refine qS ?_ GE614.out | refine qS ?_ GE615.out) | exact HB.out)⟩⟩
end Go.Proofs.Ytgbjbpjmbghlbaa.G
end
section
namespace Go.Proofs.Ytgbjbpjmbghlbaa.G
open Go.RowKit Go.Proofs.YtgbjbpjmbghlbaaW.PrintWords Go.Proofs.YtgbjbpjmbghlbaaW.PrintLast Go.Proofs.YtgbjbpjmbghlbaaW.PrintMore
attribute [local go_sem] max2_int min2_int max_two min_two max_three min_three max_four min_four
set_option linter.unusedVariables false
set_option linter.unusedSimpArgs false
def laws_eqIntS.l0 : Nat → List Int → List Int → Int → Option (Bool)
  | 0, _, _, _ => none
  | k + 1, x0, x1, x5 => if x5 < (x0.length : Int) then (if 0 ≤ x5 then (if x5 < (x1.length : Int) then (if (rd x0 x5) = (rd x1 x5) then (laws_eqIntS.l0 k x0 x1 (wrap64 (x5 + 1))) else (some false)) else (none)) else (none)) else (some true)
def laws_eqIntS.f (k : Nat) (l0 : List Int) (l1 : List Int) : Option (Bool) := if (l0.length : Int) = (l1.length : Int) then (laws_eqIntS.l0 k l0 l1 0) else (some false)
set_option maxHeartbeats 8000000 in
set_option maxRecDepth 100000 in
theorem laws_eqIntS.calls (k : Nat) (A0 : Option Addr) (c0 : Nat) (l0 : List Int) (A1 : Option Addr) (c1 : Nat) (l1 : List Int) (r : Bool) (w : World) (hr0 : Kd.C (Kd.int .i64) w A0 l0.length l0) (hc0 : l0.length ≤ c0) (hr1 : Kd.C (Kd.int .i64) w A1 l1.length l1) (hc1 : l1.length ≤ c1) (h : laws_eqIntS.f k l0 l1 = some r) :
    Calls Try.prog 19 #[.slice A0 l0.length c0, .slice A1 l1.length c1] w fun e w' => e = .returned (.bool r) ∧ Drawn0 w w' := by
  have HR0 := qM hr0
  have HC0 := qM hc0
  clear hr0 hc0
  have HR1 := qM hr1
  have HC1 := qM hc1
  clear hr1 hc1
  have H : (if (l0.length : Int) = (l1.length : Int) then (laws_eqIntS.l0 k l0 l1 0) else (some false)) = some r := h
  clear h
  by_cases c3 : (l0.length : Int) = (l1.length : Int)
  rotate_left
  · rw [if_neg c3] at H
    have c3b0 : ((l0.length : Int) == (l1.length : Int)) = false := beq_eq_false_iff_ne.mpr c3
    have c3b1 : ((l0.length : Int) != (l1.length : Int)) = true := bne_iff_ne.mpr c3
    have c3b2 : (l0.length == l1.length) = false := by first | simpa using c3 | (simp at c3 ⊢; omega)
    obtain rfl := Option.some.inj H
    go_enter Try.func19, Try.ntmps19
    go_wp2
    repeat (go_quiet (fail); try go_wp2)
    go_ret
    exact ⟨by first | rfl | (simp; done) | (simp [*]; done), by repeat (first | exact Drawn0.refl _ | apply Drawn0.step)⟩
  rw [if_pos c3] at H
  have c3b0 : ((l0.length : Int) == (l1.length : Int)) = true := beq_iff_eq.mpr c3
  have c3b1 : ((l0.length : Int) != (l1.length : Int)) = false := bne_eq_false_iff_eq.mpr c3
  have c3b2 : (l0.length == l1.length) = true := by first | simpa using c3 | (simp at c3 ⊢; omega)
  clear c3
  have H' := qM H
  clear H
  go_enter Try.func19, Try.ntmps19
  go_wp2
  repeat (go_quiet (fail); try go_wp2)
  go_loopg [5] k (fun kq v5 w' => ∃ (x5_1 : Int), v5 = .int .i64 x5_1 ∧ Aside0 (laws_eqIntS.l0 kq l0 l1 x5_1 = some r) ∧ Aside0 (kq ≤ k) ∧ Drawn0 w w')
  case atStart => exact ⟨(0), (by first | rfl | (simp; done) | (simp [*]; done)), H', ⟨Nat.le_refl _⟩, by repeat (first | exact Drawn0.refl _ | apply Drawn0.step)⟩
  case round =>
    clear H'
    try clear c1
    try clear p2
    try clear c3
    try clear c3b0
    try clear c3b1
    try clear c3b2
    obtain ⟨x5_1, rfl, HA, HK1, ⟨m1, rfl⟩⟩ := hrel
    cases gk with
    | zero => exact absurd HA.out (by simp [laws_eqIntS.l0])
    | succ k1 =>
      have H := HA.out
      clear HA
      simp only [laws_eqIntS.l0] at H
      by_cases c4 : x5_1 < (l0.length : Int)
      rotate_left
      · rw [if_neg c4] at H
        have c4b0 : decide (x5_1 < (l0.length : Int)) = false := decide_eq_false c4
        clear c4
        obtain rfl := Option.some.inj H
        go_wp2
        repeat (go_quiet (fail); try go_wp2)
        go_ret
        exact ⟨by first | rfl | (simp; done) | (simp [*]; done), by repeat (first | exact Drawn0.refl _ | apply Drawn0.step)⟩
      rw [if_pos c4] at H
      have c4b0 : decide (x5_1 < (l0.length : Int)) = true := decide_eq_true c4
      clear c4
      by_cases c5 : 0 ≤ x5_1
      rotate_left
      · rw [if_neg c5] at H
        exact absurd H (by simp)
      rw [if_pos c5] at H
      have c5b0 : decide (0 ≤ x5_1) = true := decide_eq_true c5
      clear c5
      by_cases c6 : x5_1 < (l1.length : Int)
      rotate_left
      · rw [if_neg c6] at H
        exact absurd H (by simp)
      rw [if_pos c6] at H
      have c6b0 : decide (x5_1 < (l1.length : Int)) = true := decide_eq_true c6
      clear c6
      by_cases c7 : (rd l0 x5_1) = (rd l1 x5_1)
      rotate_left
      · rw [if_neg c7] at H
        have c7b0 : ((rd l0 x5_1) == (rd l1 x5_1)) = false := beq_eq_false_iff_ne.mpr c7
        have c7b1 : ((rd l0 x5_1) != (rd l1 x5_1)) = true := bne_iff_ne.mpr c7
        obtain rfl := Option.some.inj H
        have p155 : 0 ≤ (x5_1 : Int) := qO (by first | (with_reducible assumption) | assumption)
        have q155 : x5_1 < (l0.length : Int) := qO (by first | (with_reducible assumption) | assumption)
        obtain ⟨ad155, e155, hx155_0⟩ := Kd.at_int HR0.out x5_1 p155 q155
        cases e155
        replace p155 := eq_true p155
        replace q155 := eq_true q155
        have p156 : 0 ≤ (x5_1 : Int) := qO (by first | (with_reducible assumption) | assumption)
        have q156 : x5_1 < (l1.length : Int) := qO (by first | (with_reducible assumption) | assumption)
        obtain ⟨ad156, e156, hx156_0⟩ := Kd.at_int HR1.out x5_1 p156 q156
        cases e156
        replace p156 := eq_true p156
        replace q156 := eq_true q156
        go_wp2
        repeat (go_quiet (fail); try go_wp2)
        go_ret
        exact ⟨by first | rfl | (simp; done) | (simp [*]; done), by repeat (first | exact Drawn0.refl _ | apply Drawn0.step)⟩
      rw [if_pos c7] at H
      have c7b0 : ((rd l0 x5_1) == (rd l1 x5_1)) = true := beq_iff_eq.mpr c7
      have c7b1 : ((rd l0 x5_1) != (rd l1 x5_1)) = false := bne_eq_false_iff_eq.mpr c7
      clear c7
      have H' := qM H
      clear H
      have p155 : 0 ≤ (x5_1 : Int) := qO (by first | (with_reducible assumption) | assumption)
      have q155 : x5_1 < (l0.length : Int) := qO (by first | (with_reducible assumption) | assumption)
      obtain ⟨ad155, e155, hx155_0⟩ := Kd.at_int HR0.out x5_1 p155 q155
      cases e155
      replace p155 := eq_true p155
      replace q155 := eq_true q155
      have p156 : 0 ≤ (x5_1 : Int) := qO (by first | (with_reducible assumption) | assumption)
      have q156 : x5_1 < (l1.length : Int) := qO (by first | (with_reducible assumption) | assumption)
      obtain ⟨ad156, e156, hx156_0⟩ := Kd.at_int HR1.out x5_1 p156 q156
      cases e156
      replace p156 := eq_true p156
      replace q156 := eq_true q156
      go_wp2
      repeat (go_quiet (fail); try go_wp2)
      go_roundg k1
      case measure => have := HK1.out; omega
      case rel => exact ⟨(wrap64 (x5_1 + 1)), (by first | rfl | (simp; done) | (simp [*]; done)), H', ⟨by have := HK1.out; omega⟩, by repeat (first | exact Drawn0.refl _ | apply Drawn0.step)⟩
mutual
def laws_eqTask.f : Nat → Int → Int → List (S30) → Int → Int → List (S30) → Option (Bool)
  | 0, _, _, _, _, _, _ => none
  | k + 1, a0_0, a0_1, l0_2, a1_0, a1_1, l1_2 => if a0_0 = a1_0 then (if a0_1 = a1_1 then ((laws_eqTaskS.f k l0_2 l1_2).bind fun t159 => (if t159 = true then (some true) else (some false))) else (some false)) else (some false)
def laws_eqTaskS.l0 : Nat → List (S30) → List (S30) → Int → Option (Bool)
  | 0, _, _, _ => none
  | k + 1, x0, x1, x5 => if x5 < (x0.length : Int) then (if 0 ≤ x5 then (if x5 < (x1.length : Int) then ((laws_eqTask.f k ((rd_T30 x0 x5).f0) ((rd_T30 x0 x5).f1) ((rd_T30 x0 x5).f2) ((rd_T30 x1 x5).f0) ((rd_T30 x1 x5).f1) ((rd_T30 x1 x5).f2)).bind fun t162 => (if t162 = true then (laws_eqTaskS.l0 k x0 x1 (wrap64 (x5 + 1))) else (some false))) else (none)) else (none)) else (some true)
def laws_eqTaskS.f : Nat → List (S30) → List (S30) → Option (Bool)
  | 0, _, _ => none
  | k + 1, l0, l1 => if (l0.length : Int) = (l1.length : Int) then (laws_eqTaskS.l0 k l0 l1 0) else (some false)
end
set_option maxHeartbeats 8000000 in
set_option maxRecDepth 100000 in
theorem laws_eqTask.calls_ih (k : Nat) (ih_20 : ∀ j, j < k → ∀ (a0_0 : Int) (a0_1 : Int) (A0_2 : Option Addr) (c0_2 : Nat) (l0_2 : List (S30)) (a1_0 : Int) (a1_1 : Int) (A1_2 : Option Addr) (c1_2 : Nat) (l1_2 : List (S30)) (r : Bool) (w : World) (hr0_2 : Kd.C k30 w A0_2 l0_2.length l0_2) (hc0_2 : l0_2.length ≤ c0_2) (hr1_2 : Kd.C k30 w A1_2 l1_2.length l1_2) (hc1_2 : l1_2.length ≤ c1_2) (h : laws_eqTask.f j a0_0 a0_1 l0_2 a1_0 a1_1 l1_2 = some r),
    Calls Try.prog 20 #[.agg #[.int .i64 a0_0, .int .i64 a0_1, .slice A0_2 l0_2.length c0_2], .agg #[.int .i64 a1_0, .int .i64 a1_1, .slice A1_2 l1_2.length c1_2]] w fun e w' => e = .returned (.bool r) ∧ Below w.heap.size w w') (ih_73 : ∀ j, j < k → ∀ (A0 : Option Addr) (c0 : Nat) (l0 : List (S30)) (A1 : Option Addr) (c1 : Nat) (l1 : List (S30)) (r : Bool) (w : World) (hr0 : Kd.C k30 w A0 l0.length l0) (hc0 : l0.length ≤ c0) (hr1 : Kd.C k30 w A1 l1.length l1) (hc1 : l1.length ≤ c1) (h : laws_eqTaskS.f j l0 l1 = some r),
    Calls Try.prog 73 #[.slice A0 l0.length c0, .slice A1 l1.length c1] w fun e w' => e = .returned (.bool r) ∧ Below w.heap.size w w') : ∀ (a0_0 : Int) (a0_1 : Int) (A0_2 : Option Addr) (c0_2 : Nat) (l0_2 : List (S30)) (a1_0 : Int) (a1_1 : Int) (A1_2 : Option Addr) (c1_2 : Nat) (l1_2 : List (S30)) (r : Bool) (w : World) (hr0_2 : Kd.C k30 w A0_2 l0_2.length l0_2) (hc0_2 : l0_2.length ≤ c0_2) (hr1_2 : Kd.C k30 w A1_2 l1_2.length l1_2) (hc1_2 : l1_2.length ≤ c1_2) (h : laws_eqTask.f k a0_0 a0_1 l0_2 a1_0 a1_1 l1_2 = some r),
    Calls Try.prog 20 #[.agg #[.int .i64 a0_0, .int .i64 a0_1, .slice A0_2 l0_2.length c0_2], .agg #[.int .i64 a1_0, .int .i64 a1_1, .slice A1_2 l1_2.length c1_2]] w fun e w' => e = .returned (.bool r) ∧ Below w.heap.size w w' := by
  intro a0_0 a0_1 A0_2 c0_2 l0_2 a1_0 a1_1 A1_2 c1_2 l1_2 r w hr0_2 hc0_2 hr1_2 hc1_2 h
  cases k with
  | zero => exact absurd h (by simp [laws_eqTask.f])
  | succ k =>
  simp only [laws_eqTask.f] at h
  have hu30 := Try.underlying30
  have HR0_2 := qM hr0_2
  have HC0_2 := qM hc0_2
  clear hr0_2 hc0_2
  have HR1_2 := qM hr1_2
  have HC1_2 := qM hc1_2
  clear hr1_2 hc1_2
  have HB := qM (Below.refl w.heap.size w)
  have H : (if a0_0 = a1_0 then (if a0_1 = a1_1 then ((laws_eqTaskS.f k l0_2 l1_2).bind fun t159 => (if t159 = true then (some true) else (some false))) else (some false)) else (some false)) = some r := h
  clear h
  by_cases c3 : a0_0 = a1_0
  rotate_left
  · rw [if_neg c3] at H
    have c3b0 : (a0_0 == a1_0) = false := beq_eq_false_iff_ne.mpr c3
    have c3b1 : (a0_0 != a1_0) = true := bne_iff_ne.mpr c3
    obtain rfl := Option.some.inj H
    go_enter Try.func20, Try.ntmps20
    go_wp2_with (first | ((with_reducible refine gate_dst (N := 2) rfl ?_); refine box_event ?hg (N := 2) ?hd (cs := #[.int .i64 a0_0, .int .i64 a0_1, .slice A0_2 l0_2.length c0_2]) (t := 30) ?hr ?_; (case hd => rfl); (case hg => rfl); (case hr => first | (go_simp; done) | (go_simp; rfl)); intro gb157 hg w24 hbox hb; have n0_ := qM (qs (by repeat (first | (with_reducible first | exact HB.out | apply qA | apply qN | apply qD) | exact HB.out)) hb); have n1_ := qM (hbox); have n2_ := qM ((by rw [hg]; exact (qz (by repeat (first | (with_reducible first | exact HB.out | apply qA | apply qN | apply qD) | exact HB.out))) : w.heap.size ≤ gb157)); have n3_ := qM ((by rw [hg]; exact (qz (by repeat (first | (with_reducible first | exact HB.out | apply qA | apply qN | apply qD) | exact HB.out))) : w.heap.size ≤ gb157)); clear HB; have HB := n0_; have BK157 := n1_; have GW157 := n2_; have GE157 := n3_; clear n0_ n1_ n2_ n3_; clear hb hbox hg) | ((with_reducible refine gate_dst (N := 3) rfl ?_); refine box_event ?hg (N := 3) ?hd (cs := #[.int .i64 a1_0, .int .i64 a1_1, .slice A1_2 l1_2.length c1_2]) (t := 30) ?hr ?_; (case hd => rfl); (case hg => rfl); (case hr => first | (go_simp; done) | (go_simp; rfl)); intro gb158 hg w25 hbox hb; have n0_ := qM (blk_below (g := gb157) (o := .cells #[.int .i64 a0_0, .int .i64 a0_1, .slice A0_2 l0_2.length c0_2] 30 (0, 0)) (by (with_reducible repeat (first | refine qn ?_ _ | refine qd ?_ | refine qa ?_ _)); exact BK157.out) hb); have n1_ := qM (qs (by repeat (first | (with_reducible first | exact HB.out | apply qA | apply qN | apply qD | refine qS ?_ GE157.out) | exact HB.out)) hb); have n2_ := qM (hbox); have n3_ := qM ((by rw [hg]; exact (qz (by repeat (first | (with_reducible first | exact HB.out | apply qA | apply qN | apply qD | refine qS ?_ GE157.out) | exact HB.out))) : w.heap.size ≤ gb158)); have n4_ := qM ((by rw [hg]; exact (qz (by repeat (first | (with_reducible first | exact HB.out | apply qA | apply qN | apply qD | refine qS ?_ GE157.out) | exact HB.out))) : w.heap.size ≤ gb158)); have n5_ := qM ((by rw [hg]; exact Nat.ne_of_lt (blk_lt (g := gb157) (o := .cells #[.int .i64 a0_0, .int .i64 a0_1, .slice A0_2 l0_2.length c0_2] 30 (0, 0)) (by (with_reducible repeat (first | refine qn ?_ _ | refine qd ?_ | refine qa ?_ _)); exact BK157.out)) : gb157 ≠ gb158)); have n6_ := qM ((by rw [hg]; exact Nat.ne_of_gt (blk_lt (g := gb157) (o := .cells #[.int .i64 a0_0, .int .i64 a0_1, .slice A0_2 l0_2.length c0_2] 30 (0, 0)) (by (with_reducible repeat (first | refine qn ?_ _ | refine qd ?_ | refine qa ?_ _)); exact BK157.out)) : gb158 ≠ gb157)); clear BK157; clear HB; have BK157 := n0_; have HB := n1_; have BK158 := n2_; have GW158 := n3_; have GE158 := n4_; have NB157_158 := n5_; have NB158_157 := n6_; clear n0_ n1_ n2_ n3_ n4_ n5_ n6_; clear hb hbox hg; have hnb26 := NB157_158.out; have hnc26 := NB158_157.out; have hcz27_0 : w25.cell? ⟨gb157, 0, none⟩ = some (.int .i64 a0_0) := (qC BK157.out 0).trans rfl; have hcz27_1 : w25.cell? ⟨gb157, 1, none⟩ = some (.int .i64 a0_1) := (qC BK157.out 1).trans rfl; have hcz27_2 : w25.cell? ⟨gb157, 2, none⟩ = some (.slice A0_2 l0_2.length c0_2) := (qC BK157.out 2).trans rfl; have hfz27_0 := qF BK157.out 0; have hfz27_1 := qF BK157.out 1; have hfz27_2 := qF BK157.out 2; have hcz28_0 : w25.cell? ⟨gb158, 0, none⟩ = some (.int .i64 a1_0) := (qC BK158.out 0).trans rfl; have hcz28_1 : w25.cell? ⟨gb158, 1, none⟩ = some (.int .i64 a1_1) := (qC BK158.out 1).trans rfl; have hcz28_2 : w25.cell? ⟨gb158, 2, none⟩ = some (.slice A1_2 l1_2.length c1_2) := (qC BK158.out 2).trans rfl; have hfz28_0 := qF BK158.out 0; have hfz28_1 := qF BK158.out 1; have hfz28_2 := qF BK158.out 2))
    go_ret
    exact ⟨by first | rfl | (simp [errW_none, errW_some] <;> rfl) | (simp [*, errW_none, errW_some] <;> rfl), by repeat (first | (with_reducible first | exact HB.out | apply qA | apply qN | apply qD | refine qS ?_ GE157.out | refine qS ?_ GE158.out) | exact HB.out)⟩
  rw [if_pos c3] at H
  have c3b0 : (a0_0 == a1_0) = true := beq_iff_eq.mpr c3
  have c3b1 : (a0_0 != a1_0) = false := bne_eq_false_iff_eq.mpr c3
  clear c3
  by_cases c4 : a0_1 = a1_1
  rotate_left
  · rw [if_neg c4] at H
    have c4b0 : (a0_1 == a1_1) = false := beq_eq_false_iff_ne.mpr c4
    have c4b1 : (a0_1 != a1_1) = true := bne_iff_ne.mpr c4
    obtain rfl := Option.some.inj H
    go_enter Try.func20, Try.ntmps20
    go_wp2_with (first | ((with_reducible refine gate_dst (N := 2) rfl ?_); refine box_event ?hg (N := 2) ?hd (cs := #[.int .i64 a0_0, .int .i64 a0_1, .slice A0_2 l0_2.length c0_2]) (t := 30) ?hr ?_; (case hd => rfl); (case hg => rfl); (case hr => first | (go_simp; done) | (go_simp; rfl)); intro gb157 hg w19 hbox hb; have n0_ := qM (qs (by repeat (first | (with_reducible first | exact HB.out | apply qA | apply qN | apply qD) | exact HB.out)) hb); have n1_ := qM (hbox); have n2_ := qM ((by rw [hg]; exact (qz (by repeat (first | (with_reducible first | exact HB.out | apply qA | apply qN | apply qD) | exact HB.out))) : w.heap.size ≤ gb157)); have n3_ := qM ((by rw [hg]; exact (qz (by repeat (first | (with_reducible first | exact HB.out | apply qA | apply qN | apply qD) | exact HB.out))) : w.heap.size ≤ gb157)); clear HB; have HB := n0_; have BK157 := n1_; have GW157 := n2_; have GE157 := n3_; clear n0_ n1_ n2_ n3_; clear hb hbox hg) | ((with_reducible refine gate_dst (N := 3) rfl ?_); refine box_event ?hg (N := 3) ?hd (cs := #[.int .i64 a1_0, .int .i64 a1_1, .slice A1_2 l1_2.length c1_2]) (t := 30) ?hr ?_; (case hd => rfl); (case hg => rfl); (case hr => first | (go_simp; done) | (go_simp; rfl)); intro gb158 hg w20 hbox hb; have n0_ := qM (blk_below (g := gb157) (o := .cells #[.int .i64 a0_0, .int .i64 a0_1, .slice A0_2 l0_2.length c0_2] 30 (0, 0)) (by (with_reducible repeat (first | refine qn ?_ _ | refine qd ?_ | refine qa ?_ _)); exact BK157.out) hb); have n1_ := qM (qs (by repeat (first | (with_reducible first | exact HB.out | apply qA | apply qN | apply qD | refine qS ?_ GE157.out) | exact HB.out)) hb); have n2_ := qM (hbox); have n3_ := qM ((by rw [hg]; exact (qz (by repeat (first | (with_reducible first | exact HB.out | apply qA | apply qN | apply qD | refine qS ?_ GE157.out) | exact HB.out))) : w.heap.size ≤ gb158)); have n4_ := qM ((by rw [hg]; exact (qz (by repeat (first | (with_reducible first | exact HB.out | apply qA | apply qN | apply qD | refine qS ?_ GE157.out) | exact HB.out))) : w.heap.size ≤ gb158)); have n5_ := qM ((by rw [hg]; exact Nat.ne_of_lt (blk_lt (g := gb157) (o := .cells #[.int .i64 a0_0, .int .i64 a0_1, .slice A0_2 l0_2.length c0_2] 30 (0, 0)) (by (with_reducible repeat (first | refine qn ?_ _ | refine qd ?_ | refine qa ?_ _)); exact BK157.out)) : gb157 ≠ gb158)); have n6_ := qM ((by rw [hg]; exact Nat.ne_of_gt (blk_lt (g := gb157) (o := .cells #[.int .i64 a0_0, .int .i64 a0_1, .slice A0_2 l0_2.length c0_2] 30 (0, 0)) (by (with_reducible repeat (first | refine qn ?_ _ | refine qd ?_ | refine qa ?_ _)); exact BK157.out)) : gb158 ≠ gb157)); clear BK157; clear HB; have BK157 := n0_; have HB := n1_; have BK158 := n2_; have GW158 := n3_; have GE158 := n4_; have NB157_158 := n5_; have NB158_157 := n6_; clear n0_ n1_ n2_ n3_ n4_ n5_ n6_; clear hb hbox hg; have hnb21 := NB157_158.out; have hnc21 := NB158_157.out; have hcz22_0 : w20.cell? ⟨gb157, 0, none⟩ = some (.int .i64 a0_0) := (qC BK157.out 0).trans rfl; have hcz22_1 : w20.cell? ⟨gb157, 1, none⟩ = some (.int .i64 a0_1) := (qC BK157.out 1).trans rfl; have hcz22_2 : w20.cell? ⟨gb157, 2, none⟩ = some (.slice A0_2 l0_2.length c0_2) := (qC BK157.out 2).trans rfl; have hfz22_0 := qF BK157.out 0; have hfz22_1 := qF BK157.out 1; have hfz22_2 := qF BK157.out 2; have hcz23_0 : w20.cell? ⟨gb158, 0, none⟩ = some (.int .i64 a1_0) := (qC BK158.out 0).trans rfl; have hcz23_1 : w20.cell? ⟨gb158, 1, none⟩ = some (.int .i64 a1_1) := (qC BK158.out 1).trans rfl; have hcz23_2 : w20.cell? ⟨gb158, 2, none⟩ = some (.slice A1_2 l1_2.length c1_2) := (qC BK158.out 2).trans rfl; have hfz23_0 := qF BK158.out 0; have hfz23_1 := qF BK158.out 1; have hfz23_2 := qF BK158.out 2))
    go_ret
    exact ⟨by first | rfl | (simp [errW_none, errW_some] <;> rfl) | (simp [*, errW_none, errW_some] <;> rfl), by repeat (first | (with_reducible first | exact HB.out | apply qA | apply qN | apply qD | refine qS ?_ GE157.out | refine qS ?_ GE158.out) | exact HB.out)⟩
  rw [if_pos c4] at H
  have c4b0 : (a0_1 == a1_1) = true := beq_iff_eq.mpr c4
  have c4b1 : (a0_1 != a1_1) = false := bne_eq_false_iff_eq.mpr c4
  clear c4
  replace H := Option.bind_eq_some_iff.mp H
  obtain ⟨t159, A50, H⟩ := H
  replace H : (if t159 = true then (some true) else (some false)) = some r := H
  have A5 := qM A50
  clear A50
  by_cases c6 : t159 = true
  · subst c6
    have H1 : (some true) = some r := by rw [if_pos rfl] at H; exact H
    clear H
    have H := H1
    clear H1
    obtain rfl := Option.some.inj H
    go_enter Try.func20, Try.ntmps20
    go_wp2_with (first | ((with_reducible refine gate_dst (N := 2) rfl ?_); refine box_event ?hg (N := 2) ?hd (cs := #[.int .i64 a0_0, .int .i64 a0_1, .slice A0_2 l0_2.length c0_2]) (t := 30) ?hr ?_; (case hd => rfl); (case hg => rfl); (case hr => first | (go_simp; done) | (go_simp; rfl)); intro gb157 hg w7 hbox hb; have n0_ := qM (qs (by repeat (first | (with_reducible first | exact HB.out | apply qA | apply qN | apply qD) | exact HB.out)) hb); have n1_ := qM (hbox); have n2_ := qM ((by rw [hg]; exact (qz (by repeat (first | (with_reducible first | exact HB.out | apply qA | apply qN | apply qD) | exact HB.out))) : w.heap.size ≤ gb157)); have n3_ := qM ((by rw [hg]; exact (qz (by repeat (first | (with_reducible first | exact HB.out | apply qA | apply qN | apply qD) | exact HB.out))) : w.heap.size ≤ gb157)); clear HB; have HB := n0_; have BK157 := n1_; have GW157 := n2_; have GE157 := n3_; clear n0_ n1_ n2_ n3_; clear hb hbox hg) | ((with_reducible refine gate_dst (N := 3) rfl ?_); refine box_event ?hg (N := 3) ?hd (cs := #[.int .i64 a1_0, .int .i64 a1_1, .slice A1_2 l1_2.length c1_2]) (t := 30) ?hr ?_; (case hd => rfl); (case hg => rfl); (case hr => first | (go_simp; done) | (go_simp; rfl)); intro gb158 hg w8 hbox hb; have n0_ := qM (blk_below (g := gb157) (o := .cells #[.int .i64 a0_0, .int .i64 a0_1, .slice A0_2 l0_2.length c0_2] 30 (0, 0)) (by (with_reducible repeat (first | refine qn ?_ _ | refine qd ?_ | refine qa ?_ _)); exact BK157.out) hb); have n1_ := qM (qs (by repeat (first | (with_reducible first | exact HB.out | apply qA | apply qN | apply qD | refine qS ?_ GE157.out) | exact HB.out)) hb); have n2_ := qM (hbox); have n3_ := qM ((by rw [hg]; exact (qz (by repeat (first | (with_reducible first | exact HB.out | apply qA | apply qN | apply qD | refine qS ?_ GE157.out) | exact HB.out))) : w.heap.size ≤ gb158)); have n4_ := qM ((by rw [hg]; exact (qz (by repeat (first | (with_reducible first | exact HB.out | apply qA | apply qN | apply qD | refine qS ?_ GE157.out) | exact HB.out))) : w.heap.size ≤ gb158)); have n5_ := qM ((by rw [hg]; exact Nat.ne_of_lt (blk_lt (g := gb157) (o := .cells #[.int .i64 a0_0, .int .i64 a0_1, .slice A0_2 l0_2.length c0_2] 30 (0, 0)) (by (with_reducible repeat (first | refine qn ?_ _ | refine qd ?_ | refine qa ?_ _)); exact BK157.out)) : gb157 ≠ gb158)); have n6_ := qM ((by rw [hg]; exact Nat.ne_of_gt (blk_lt (g := gb157) (o := .cells #[.int .i64 a0_0, .int .i64 a0_1, .slice A0_2 l0_2.length c0_2] 30 (0, 0)) (by (with_reducible repeat (first | refine qn ?_ _ | refine qd ?_ | refine qa ?_ _)); exact BK157.out)) : gb158 ≠ gb157)); clear BK157; clear HB; have BK157 := n0_; have HB := n1_; have BK158 := n2_; have GW158 := n3_; have GE158 := n4_; have NB157_158 := n5_; have NB158_157 := n6_; clear n0_ n1_ n2_ n3_ n4_ n5_ n6_; clear hb hbox hg; have hnb9 := NB157_158.out; have hnc9 := NB158_157.out; have hcz10_0 : w8.cell? ⟨gb157, 0, none⟩ = some (.int .i64 a0_0) := (qC BK157.out 0).trans rfl; have hcz10_1 : w8.cell? ⟨gb157, 1, none⟩ = some (.int .i64 a0_1) := (qC BK157.out 1).trans rfl; have hcz10_2 : w8.cell? ⟨gb157, 2, none⟩ = some (.slice A0_2 l0_2.length c0_2) := (qC BK157.out 2).trans rfl; have hfz10_0 := qF BK157.out 0; have hfz10_1 := qF BK157.out 1; have hfz10_2 := qF BK157.out 2; have hcz11_0 : w8.cell? ⟨gb158, 0, none⟩ = some (.int .i64 a1_0) := (qC BK158.out 0).trans rfl; have hcz11_1 : w8.cell? ⟨gb158, 1, none⟩ = some (.int .i64 a1_1) := (qC BK158.out 1).trans rfl; have hcz11_2 : w8.cell? ⟨gb158, 2, none⟩ = some (.slice A1_2 l1_2.length c1_2) := (qC BK158.out 2).trans rfl; have hfz11_0 := qF BK158.out 0; have hfz11_1 := qF BK158.out 1; have hfz11_2 := qF BK158.out 2) | ((with_reducible refine gate_callee (f := 73) rfl ?_); refine goesL_ (some 19) rfl rfl Try.func73 (by kernel_rfl) rfl #[.slice A0_2 l0_2.length c0_2, .slice A1_2 l1_2.length c1_2] rfl (by (try simp only [List.map_toArray, List.map_cons, List.map_nil]); first | done | rfl | (simp only [List.length_drop, List.length_take]; rfl)) ?_; (with_reducible refine (ih_73 k (by omega) _ _ l0_2 _ _ l1_2 true _ ?side1 ?side2 ?side3 ?side4 A5.out).mono ?_); (case side1 => repeat (first | exact (qB HR0_2.out HB.out) | (with_reducible refine qc ?_ _) | (with_reducible refine qe ?_ _) | (with_reducible refine qf ?_))); (case side2 => exact HC0_2.out); (case side3 => repeat (first | exact (qB HR1_2.out HB.out) | (with_reducible refine qc ?_ _) | (with_reducible refine qe ?_ _) | (with_reducible refine qf ?_))); (case side4 => exact HC1_2.out); rintro e w12 ⟨rfl, hb⟩; refine ⟨_, rfl, ?_⟩; have n0_ := qM (blk_below (g := gb157) (o := .cells #[.int .i64 a0_0, .int .i64 a0_1, .slice A0_2 l0_2.length c0_2] 30 (0, 0)) (by (with_reducible repeat (first | refine qn ?_ _ | refine qd ?_ | refine qa ?_ _)); exact BK157.out) hb); have n1_ := qM (blk_below (g := gb158) (o := .cells #[.int .i64 a1_0, .int .i64 a1_1, .slice A1_2 l1_2.length c1_2] 30 (0, 0)) (by (with_reducible repeat (first | refine qn ?_ _ | refine qd ?_ | refine qa ?_ _)); exact BK158.out) hb); have n2_ := qM (qs (by repeat (first | (with_reducible first | exact HB.out | apply qA | apply qN | apply qD | refine qS ?_ GE157.out | refine qS ?_ GE158.out) | exact HB.out)) hb); clear BK157; clear BK158; clear HB; have BK157 := n0_; have BK158 := n1_; have HB := n2_; clear n0_ n1_ n2_; (try clear hb); (try clear hb2); (try clear hk); (try clear hi)))
    go_ret
    exact ⟨by first | rfl | (simp [errW_none, errW_some] <;> rfl) | (simp [*, errW_none, errW_some] <;> rfl), by repeat (first | (with_reducible first | exact HB.out | apply qA | apply qN | apply qD | refine qS ?_ GE157.out | refine qS ?_ GE158.out) | exact HB.out)⟩
  replace c6 := Bool.eq_false_iff.mpr c6
  subst c6
  have H1 : (some false) = some r := by rw [if_neg (show ¬ (false = true) by decide)] at H; exact H
  clear H
  have H := H1
  clear H1
  obtain rfl := Option.some.inj H
  go_enter Try.func20, Try.ntmps20
  go_wp2_with (first | ((with_reducible refine gate_dst (N := 2) rfl ?_); refine box_event ?hg (N := 2) ?hd (cs := #[.int .i64 a0_0, .int .i64 a0_1, .slice A0_2 l0_2.length c0_2]) (t := 30) ?hr ?_; (case hd => rfl); (case hg => rfl); (case hr => first | (go_simp; done) | (go_simp; rfl)); intro gb157 hg w13 hbox hb; have n0_ := qM (qs (by repeat (first | (with_reducible first | exact HB.out | apply qA | apply qN | apply qD) | exact HB.out)) hb); have n1_ := qM (hbox); have n2_ := qM ((by rw [hg]; exact (qz (by repeat (first | (with_reducible first | exact HB.out | apply qA | apply qN | apply qD) | exact HB.out))) : w.heap.size ≤ gb157)); have n3_ := qM ((by rw [hg]; exact (qz (by repeat (first | (with_reducible first | exact HB.out | apply qA | apply qN | apply qD) | exact HB.out))) : w.heap.size ≤ gb157)); clear HB; have HB := n0_; have BK157 := n1_; have GW157 := n2_; have GE157 := n3_; clear n0_ n1_ n2_ n3_; clear hb hbox hg) | ((with_reducible refine gate_dst (N := 3) rfl ?_); refine box_event ?hg (N := 3) ?hd (cs := #[.int .i64 a1_0, .int .i64 a1_1, .slice A1_2 l1_2.length c1_2]) (t := 30) ?hr ?_; (case hd => rfl); (case hg => rfl); (case hr => first | (go_simp; done) | (go_simp; rfl)); intro gb158 hg w14 hbox hb; have n0_ := qM (blk_below (g := gb157) (o := .cells #[.int .i64 a0_0, .int .i64 a0_1, .slice A0_2 l0_2.length c0_2] 30 (0, 0)) (by (with_reducible repeat (first | refine qn ?_ _ | refine qd ?_ | refine qa ?_ _)); exact BK157.out) hb); have n1_ := qM (qs (by repeat (first | (with_reducible first | exact HB.out | apply qA | apply qN | apply qD | refine qS ?_ GE157.out) | exact HB.out)) hb); have n2_ := qM (hbox); have n3_ := qM ((by rw [hg]; exact (qz (by repeat (first | (with_reducible first | exact HB.out | apply qA | apply qN | apply qD | refine qS ?_ GE157.out) | exact HB.out))) : w.heap.size ≤ gb158)); have n4_ := qM ((by rw [hg]; exact (qz (by repeat (first | (with_reducible first | exact HB.out | apply qA | apply qN | apply qD | refine qS ?_ GE157.out) | exact HB.out))) : w.heap.size ≤ gb158)); have n5_ := qM ((by rw [hg]; exact Nat.ne_of_lt (blk_lt (g := gb157) (o := .cells #[.int .i64 a0_0, .int .i64 a0_1, .slice A0_2 l0_2.length c0_2] 30 (0, 0)) (by (with_reducible repeat (first | refine qn ?_ _ | refine qd ?_ | refine qa ?_ _)); exact BK157.out)) : gb157 ≠ gb158)); have n6_ := qM ((by rw [hg]; exact Nat.ne_of_gt (blk_lt (g := gb157) (o := .cells #[.int .i64 a0_0, .int .i64 a0_1, .slice A0_2 l0_2.length c0_2] 30 (0, 0)) (by (with_reducible repeat (first | refine qn ?_ _ | refine qd ?_ | refine qa ?_ _)); exact BK157.out)) : gb158 ≠ gb157)); clear BK157; clear HB; have BK157 := n0_; have HB := n1_; have BK158 := n2_; have GW158 := n3_; have GE158 := n4_; have NB157_158 := n5_; have NB158_157 := n6_; clear n0_ n1_ n2_ n3_ n4_ n5_ n6_; clear hb hbox hg; have hnb15 := NB157_158.out; have hnc15 := NB158_157.out; have hcz16_0 : w14.cell? ⟨gb157, 0, none⟩ = some (.int .i64 a0_0) := (qC BK157.out 0).trans rfl; have hcz16_1 : w14.cell? ⟨gb157, 1, none⟩ = some (.int .i64 a0_1) := (qC BK157.out 1).trans rfl; have hcz16_2 : w14.cell? ⟨gb157, 2, none⟩ = some (.slice A0_2 l0_2.length c0_2) := (qC BK157.out 2).trans rfl; have hfz16_0 := qF BK157.out 0; have hfz16_1 := qF BK157.out 1; have hfz16_2 := qF BK157.out 2; have hcz17_0 : w14.cell? ⟨gb158, 0, none⟩ = some (.int .i64 a1_0) := (qC BK158.out 0).trans rfl; have hcz17_1 : w14.cell? ⟨gb158, 1, none⟩ = some (.int .i64 a1_1) := (qC BK158.out 1).trans rfl; have hcz17_2 : w14.cell? ⟨gb158, 2, none⟩ = some (.slice A1_2 l1_2.length c1_2) := (qC BK158.out 2).trans rfl; have hfz17_0 := qF BK158.out 0; have hfz17_1 := qF BK158.out 1; have hfz17_2 := qF BK158.out 2) | ((with_reducible refine gate_callee (f := 73) rfl ?_); refine goesL_ (some 19) rfl rfl Try.func73 (by kernel_rfl) rfl #[.slice A0_2 l0_2.length c0_2, .slice A1_2 l1_2.length c1_2] rfl (by (try simp only [List.map_toArray, List.map_cons, List.map_nil]); first | done | rfl | (simp only [List.length_drop, List.length_take]; rfl)) ?_; (with_reducible refine (ih_73 k (by omega) _ _ l0_2 _ _ l1_2 false _ ?side1 ?side2 ?side3 ?side4 A5.out).mono ?_); (case side1 => repeat (first | exact (qB HR0_2.out HB.out) | (with_reducible refine qc ?_ _) | (with_reducible refine qe ?_ _) | (with_reducible refine qf ?_))); (case side2 => exact HC0_2.out); (case side3 => repeat (first | exact (qB HR1_2.out HB.out) | (with_reducible refine qc ?_ _) | (with_reducible refine qe ?_ _) | (with_reducible refine qf ?_))); (case side4 => exact HC1_2.out); rintro e w18 ⟨rfl, hb⟩; refine ⟨_, rfl, ?_⟩; have n0_ := qM (blk_below (g := gb157) (o := .cells #[.int .i64 a0_0, .int .i64 a0_1, .slice A0_2 l0_2.length c0_2] 30 (0, 0)) (by (with_reducible repeat (first | refine qn ?_ _ | refine qd ?_ | refine qa ?_ _)); exact BK157.out) hb); have n1_ := qM (blk_below (g := gb158) (o := .cells #[.int .i64 a1_0, .int .i64 a1_1, .slice A1_2 l1_2.length c1_2] 30 (0, 0)) (by (with_reducible repeat (first | refine qn ?_ _ | refine qd ?_ | refine qa ?_ _)); exact BK158.out) hb); have n2_ := qM (qs (by repeat (first | (with_reducible first | exact HB.out | apply qA | apply qN | apply qD | refine qS ?_ GE157.out | refine qS ?_ GE158.out) | exact HB.out)) hb); clear BK157; clear BK158; clear HB; have BK157 := n0_; have BK158 := n1_; have HB := n2_; clear n0_ n1_ n2_; (try clear hb); (try clear hb2); (try clear hk); (try clear hi)))
  go_ret
  exact ⟨by first | rfl | (simp [errW_none, errW_some] <;> rfl) | (simp [*, errW_none, errW_some] <;> rfl), by repeat (first | (with_reducible first | exact HB.out | apply qA | apply qN | apply qD | refine qS ?_ GE157.out | refine qS ?_ GE158.out) | exact HB.out)⟩
set_option maxHeartbeats 8000000 in
def laws_eqTaskS.T6 : Bool × List (List Nat × List Nat) := (true, [([], []), ([], []), ([0, 1], [0, 1]), ([2], [2]), ([], []), ([], []), ([4, 5], [4, 5]), ([6], [6]), ([3, 7], [3, 7]), ([8], [8])])
def laws_eqTaskS.B6 : List Nat := [0, 0, 3, 7, 0, 0, 48, 112, 255, 511]
theorem laws_eqTaskS.tab6 : rtab .any (opsOf Try.f73 6) = laws_eqTaskS.T6 := by kernel_rfl
theorem laws_eqTaskS.bits6 : waitsOk laws_eqTaskS.T6.2 laws_eqTaskS.B6 = true := by kernel_rfl
set_option maxRecDepth 100000 in
theorem laws_eqTaskS.calls_ih (k : Nat) (ih_20 : ∀ j, j < k → ∀ (a0_0 : Int) (a0_1 : Int) (A0_2 : Option Addr) (c0_2 : Nat) (l0_2 : List (S30)) (a1_0 : Int) (a1_1 : Int) (A1_2 : Option Addr) (c1_2 : Nat) (l1_2 : List (S30)) (r : Bool) (w : World) (hr0_2 : Kd.C k30 w A0_2 l0_2.length l0_2) (hc0_2 : l0_2.length ≤ c0_2) (hr1_2 : Kd.C k30 w A1_2 l1_2.length l1_2) (hc1_2 : l1_2.length ≤ c1_2) (h : laws_eqTask.f j a0_0 a0_1 l0_2 a1_0 a1_1 l1_2 = some r),
    Calls Try.prog 20 #[.agg #[.int .i64 a0_0, .int .i64 a0_1, .slice A0_2 l0_2.length c0_2], .agg #[.int .i64 a1_0, .int .i64 a1_1, .slice A1_2 l1_2.length c1_2]] w fun e w' => e = .returned (.bool r) ∧ Below w.heap.size w w') (ih_73 : ∀ j, j < k → ∀ (A0 : Option Addr) (c0 : Nat) (l0 : List (S30)) (A1 : Option Addr) (c1 : Nat) (l1 : List (S30)) (r : Bool) (w : World) (hr0 : Kd.C k30 w A0 l0.length l0) (hc0 : l0.length ≤ c0) (hr1 : Kd.C k30 w A1 l1.length l1) (hc1 : l1.length ≤ c1) (h : laws_eqTaskS.f j l0 l1 = some r),
    Calls Try.prog 73 #[.slice A0 l0.length c0, .slice A1 l1.length c1] w fun e w' => e = .returned (.bool r) ∧ Below w.heap.size w w') : ∀ (A0 : Option Addr) (c0 : Nat) (l0 : List (S30)) (A1 : Option Addr) (c1 : Nat) (l1 : List (S30)) (r : Bool) (w : World) (hr0 : Kd.C k30 w A0 l0.length l0) (hc0 : l0.length ≤ c0) (hr1 : Kd.C k30 w A1 l1.length l1) (hc1 : l1.length ≤ c1) (h : laws_eqTaskS.f k l0 l1 = some r),
    Calls Try.prog 73 #[.slice A0 l0.length c0, .slice A1 l1.length c1] w fun e w' => e = .returned (.bool r) ∧ Below w.heap.size w w' := by
  intro A0 c0 l0 A1 c1 l1 r w hr0 hc0 hr1 hc1 h
  cases k with
  | zero => exact absurd h (by simp [laws_eqTaskS.f])
  | succ k =>
  simp only [laws_eqTaskS.f] at h
  have hu30 := Try.underlying30
  have HR0 := qM hr0
  have HC0 := qM hc0
  clear hr0 hc0
  have HR1 := qM hr1
  have HC1 := qM hc1
  clear hr1 hc1
  have HB := qM (Below.refl w.heap.size w)
  have H : (if (l0.length : Int) = (l1.length : Int) then (laws_eqTaskS.l0 k l0 l1 0) else (some false)) = some r := h
  clear h
  by_cases c3 : (l0.length : Int) = (l1.length : Int)
  rotate_left
  · rw [if_neg c3] at H
    have c3b0 : ((l0.length : Int) == (l1.length : Int)) = false := beq_eq_false_iff_ne.mpr c3
    have c3b1 : ((l0.length : Int) != (l1.length : Int)) = true := bne_iff_ne.mpr c3
    have c3b2 : (l0.length == l1.length) = false := by first | simpa using c3 | (simp at c3 ⊢; omega)
    obtain rfl := Option.some.inj H
    go_enter Try.func73, Try.ntmps73
    go_wp2
    go_ret
    exact ⟨by first | rfl | (simp [errW_none, errW_some] <;> rfl) | (simp [*, errW_none, errW_some] <;> rfl), by repeat (first | (with_reducible first | exact HB.out | apply qA | apply qN | apply qD) | exact HB.out)⟩
  rw [if_pos c3] at H
  have c3b0 : ((l0.length : Int) == (l1.length : Int)) = true := beq_iff_eq.mpr c3
  have c3b1 : ((l0.length : Int) != (l1.length : Int)) = false := bne_eq_false_iff_eq.mpr c3
  have c3b2 : (l0.length == l1.length) = true := by first | simpa using c3 | (simp at c3 ⊢; omega)
  clear c3
  have H' := qM H
  clear H
  go_enter Try.func73, Try.ntmps73
  go_wp2
  go_loopg [5] k (fun kq v5 w' => ∃ (x5_1 : Int), v5 = .int .i64 x5_1 ∧ Aside0 (laws_eqTaskS.l0 kq l0 l1 x5_1 = some r) ∧ Aside0 (kq ≤ k) ∧ Aside0 (Below w.heap.size w w'))
  case atStart => exact ⟨(0), (by first | rfl | (simp; done) | (simp [*]; done)), H', ⟨Nat.le_refl _⟩, ⟨by repeat (first | (with_reducible first | exact HB.out | apply qA | apply qN | apply qD) | exact HB.out)⟩⟩
  case round =>
    clear H'
    try clear c1
    try clear p2
    try clear c3
    try clear c3b0
    try clear c3b1
    try clear c3b2
    obtain ⟨x5_1, rfl, HA, HK1, HB⟩ := hrel
    cases gk with
    | zero => exact absurd HA.out (by simp [laws_eqTaskS.l0])
    | succ k1 =>
      have H := HA.out
      clear HA
      simp only [laws_eqTaskS.l0] at H
      by_cases c4 : x5_1 < (l0.length : Int)
      rotate_left
      · rw [if_neg c4] at H
        have c4b0 : decide (x5_1 < (l0.length : Int)) = false := decide_eq_false c4
        clear c4
        obtain rfl := Option.some.inj H
        go_wp2
        go_ret
        exact ⟨by first | rfl | (simp [errW_none, errW_some] <;> rfl) | (simp [*, errW_none, errW_some] <;> rfl), by repeat (first | (with_reducible first | exact HB.out | apply qA | apply qN | apply qD) | exact HB.out)⟩
      rw [if_pos c4] at H
      have c4b0 : decide (x5_1 < (l0.length : Int)) = true := decide_eq_true c4
      clear c4
      by_cases c5 : 0 ≤ x5_1
      rotate_left
      · rw [if_neg c5] at H
        exact absurd H (by simp)
      rw [if_pos c5] at H
      have c5b0 : decide (0 ≤ x5_1) = true := decide_eq_true c5
      clear c5
      by_cases c6 : x5_1 < (l1.length : Int)
      rotate_left
      · rw [if_neg c6] at H
        exact absurd H (by simp)
      rw [if_pos c6] at H
      have c6b0 : decide (x5_1 < (l1.length : Int)) = true := decide_eq_true c6
      clear c6
      replace H := Option.bind_eq_some_iff.mp H
      obtain ⟨t162, A70, H⟩ := H
      replace H : (if t162 = true then (laws_eqTaskS.l0 k1 l0 l1 (wrap64 (x5_1 + 1))) else (some false)) = some r := H
      have A7 := qM A70
      clear A70
      by_cases c8 : t162 = true
      rotate_left
      · replace c8 := Bool.eq_false_iff.mpr c8
        subst c8
        have H1 : (some false) = some r := by rw [if_neg (show ¬ (false = true) by decide)] at H; exact H
        clear H
        have H := H1
        clear H1
        obtain rfl := Option.some.inj H
        try go_wp2
        have n0_ := qM (qD HB.out)
        clear HB
        have HB := n0_
        clear n0_
        have p160 : 0 ≤ (x5_1 : Int) := qO (by first | (with_reducible assumption) | assumption)
        have q160 : x5_1 < (l0.length : Int) := qO (by first | (with_reducible assumption) | assumption)
        obtain ⟨ad160, A160_2, c160_2, e160, hx160_0, hx160_1, hx160_2, hl160_2, hi160_2⟩ := at_T30 HR0.out x5_1 p160 q160
        have hw160_2 := hx160_2
        have hw160_1 := hx160_1
        have hw160_0 := hx160_0
        cases e160
        replace hx160_0 := (HB.out.cell (qL w _ hx160_0)).trans hx160_0
        replace hx160_1 := (HB.out.cell (qL w _ hx160_1)).trans hx160_1
        replace hx160_2 := (HB.out.cell (qL w _ hx160_2)).trans hx160_2
        have HR160_2 := qM hi160_2
        have HC160_2 := qM hl160_2
        clear hi160_2 hl160_2
        replace p160 := eq_true p160
        replace q160 := eq_true q160
        have p161 : 0 ≤ (x5_1 : Int) := qO (by first | (with_reducible assumption) | assumption)
        have q161 : x5_1 < (l1.length : Int) := qO (by first | (with_reducible assumption) | assumption)
        obtain ⟨ad161, A161_2, c161_2, e161, hx161_0, hx161_1, hx161_2, hl161_2, hi161_2⟩ := at_T30 HR1.out x5_1 p161 q161
        have hw161_2 := hx161_2
        have hw161_1 := hx161_1
        have hw161_0 := hx161_0
        cases e161
        replace hx161_0 := (HB.out.cell (qL w _ hx161_0)).trans hx161_0
        replace hx161_1 := (HB.out.cell (qL w _ hx161_1)).trans hx161_1
        replace hx161_2 := (HB.out.cell (qL w _ hx161_2)).trans hx161_2
        have HR161_2 := qM hi161_2
        have HC161_2 := qM hl161_2
        clear hi161_2 hl161_2
        replace p161 := eq_true p161
        replace q161 := eq_true q161
        refine start_ (n := 10) (S := fun w' => w'.cell? (ad160.add ((x5_1).toNat * 3)) = some (.int .i64 ((rd_T30 l0 x5_1).f0)) ∧ w'.cell? ⟨(ad160.add ((x5_1).toNat * 3)).block, (ad160.add ((x5_1).toNat * 3)).off + 1, none⟩ = some (.int .i64 ((rd_T30 l0 x5_1).f1)) ∧ w'.cell? ⟨(ad160.add ((x5_1).toNat * 3)).block, (ad160.add ((x5_1).toNat * 3)).off + 2, none⟩ = some (.slice A160_2 ((rd_T30 l0 x5_1).f2).length c160_2) ∧ w'.cell? (ad161.add ((x5_1).toNat * 3)) = some (.int .i64 ((rd_T30 l1 x5_1).f0)) ∧ w'.cell? ⟨(ad161.add ((x5_1).toNat * 3)).block, (ad161.add ((x5_1).toNat * 3)).off + 1, none⟩ = some (.int .i64 ((rd_T30 l1 x5_1).f1)) ∧ w'.cell? ⟨(ad161.add ((x5_1).toNat * 3)).block, (ad161.add ((x5_1).toNat * 3)).off + 2, none⟩ = some (.slice A161_2 ((rd_T30 l1 x5_1).f2).length c161_2)) (ds := []) #[false, false, false, false, false, false, false, false, false, false] (by kernel_rfl) rfl rfl ⟨((HB.out.cell (qL w _ hw160_0)).trans hw160_0), ((HB.out.cell (qL w _ hw160_1)).trans hw160_1), ((HB.out.cell (qL w _ hw160_2)).trans hw160_2), ((HB.out.cell (qL w _ hw161_0)).trans hw161_0), ((HB.out.cell (qL w _ hw161_1)).trans hw161_1), ((HB.out.cell (qL w _ hw161_2)).trans hw161_2)⟩ (fun hHeld => ?_); refine with_tabW laws_eqTaskS.tab6 laws_eqTaskS.bits6 (fun HT_ HW_ => ?_)
        generalize wr.drew = w11 at HB HR160_2 HR161_2 hx160_0 hx160_1 hx160_2 hx161_0 hx161_1 hx161_2 hHeld ⊢
        refine pure_ (i := 0) (N := some 17) (v := ?_) (a' := ?_) #[true, false, false, false, false, false, false, false, false, false] rfl rfl (any_of HT_.out (by kernel_rfl)) (fun _ _ _ h => h) (Or.inl ⟨by rfl, ?_⟩) ?_ ?_
        rotate_left
        · intro w'
          go_simp
          with_reducible rfl
        rotate_left
        · simp only [Act.put, List.setIfInBounds_toArray, List.set_cons_zero, List.set_cons_succ, i64_w, i32_w]
          rfl
        refine pure_ (i := 1) (N := some 18) (v := ?_) (a' := ?_) #[true, true, false, false, false, false, false, false, false, false] rfl rfl (any_of HT_.out (by kernel_rfl)) (fun _ _ _ h => h) (Or.inl ⟨by rfl, ?_⟩) ?_ ?_
        rotate_left
        · intro w'
          go_simp
          with_reducible rfl
        rotate_left
        · simp only [Act.put, List.setIfInBounds_toArray, List.set_cons_zero, List.set_cons_succ, i64_w, i32_w]
          rfl
        refine pure_ (i := 2) (N := some 19) (v := ?_) (a' := ?_) #[true, true, true, false, false, false, false, false, false, false] rfl rfl (any_of HT_.out (by kernel_rfl)) (fun _ _ _ h => h) (Or.inl ⟨by rfl, ?_⟩) ?_ ?_
        rotate_left
        · intro w'
          go_simp
          with_reducible rfl
        rotate_left
        · simp only [Act.put, List.setIfInBounds_toArray, List.set_cons_zero, List.set_cons_succ, i64_w, i32_w]
          rfl
        refine pure_ (i := 4) (N := some 21) (v := ?_) (a' := ?_) #[true, true, true, false, true, false, false, false, false, false] rfl rfl (any_of HT_.out (by kernel_rfl)) (fun _ _ _ h => h) (Or.inl ⟨by rfl, ?_⟩) ?_ ?_
        rotate_left
        · intro w'
          go_simp
          with_reducible rfl
        rotate_left
        · simp only [Act.put, List.setIfInBounds_toArray, List.set_cons_zero, List.set_cons_succ, i64_w, i32_w]
          rfl
        refine pure_ (i := 5) (N := some 22) (v := ?_) (a' := ?_) #[true, true, true, false, true, true, false, false, false, false] rfl rfl (any_of HT_.out (by kernel_rfl)) (fun _ _ _ h => h) (Or.inl ⟨by rfl, ?_⟩) ?_ ?_
        rotate_left
        · intro w'
          go_simp
          with_reducible rfl
        rotate_left
        · simp only [Act.put, List.setIfInBounds_toArray, List.set_cons_zero, List.set_cons_succ, i64_w, i32_w]
          rfl
        refine pure_ (i := 6) (N := some 23) (v := ?_) (a' := ?_) #[true, true, true, false, true, true, true, false, false, false] rfl rfl (any_of HT_.out (by kernel_rfl)) (fun _ _ _ h => h) (Or.inl ⟨by rfl, ?_⟩) ?_ ?_
        rotate_left
        · intro w'
          go_simp
          with_reducible rfl
        rotate_left
        · simp only [Act.put, List.setIfInBounds_toArray, List.set_cons_zero, List.set_cons_succ, i64_w, i32_w]
          rfl
        refine take_ (i := 3) (N := some 20) (v := ?_) (a' := ?_) #[true, true, true, true, true, true, true, false, false, false] rfl rfl (take_ofW HT_.out HW_.out (by kernel_rfl)) (fun _ _ _ h => h) (Or.inl ⟨by rfl, ?_⟩) hHeld ?_ ?_
        rotate_left
        · rintro w' ⟨s0, s1, s2, s3, s4, s5⟩
          go_simp
          with_reducible rfl
        rotate_left
        · simp only [Act.put, List.setIfInBounds_toArray, List.set_cons_zero, List.set_cons_succ, i64_w, i32_w]
          rfl
        refine take_ (i := 7) (N := some 24) (v := ?_) (a' := ?_) #[true, true, true, true, true, true, true, true, false, false] rfl rfl (take_ofW HT_.out HW_.out (by kernel_rfl)) (fun _ _ _ h => h) (Or.inl ⟨by rfl, ?_⟩) hHeld ?_ ?_
        rotate_left
        · rintro w' ⟨s0, s1, s2, s3, s4, s5⟩
          go_simp
          with_reducible rfl
        rotate_left
        · simp only [Act.put, List.setIfInBounds_toArray, List.set_cons_zero, List.set_cons_succ, i64_w, i32_w]
          rfl
        refine one_ (i := 8) (N := some 25) #[true, true, true, true, true, true, true, true, true, false] rfl rfl (one_of HT_.out (by kernel_rfl)) (by decide) (fun K hK => ?_)
        refine goes_ Try.func20 (by kernel_rfl) rfl #[.agg #[.int .i64 ((rd_T30 l0 x5_1).f0), .int .i64 ((rd_T30 l0 x5_1).f1), .slice A160_2 ((rd_T30 l0 x5_1).f2).length c160_2], .agg #[.int .i64 ((rd_T30 l1 x5_1).f0), .int .i64 ((rd_T30 l1 x5_1).f1), .slice A161_2 ((rd_T30 l1 x5_1).f2).length c161_2]] (by rfl) rfl rfl (by (try simp only [List.map_toArray, List.map_cons, List.map_nil]); first | done | rfl | (simp only [List.length_drop, List.length_take]; rfl)) ?_
        with_reducible refine (ih_20 k1 (by have := HK1.out; omega) ((rd_T30 l0 x5_1).f0) ((rd_T30 l0 x5_1).f1) _ _ ((rd_T30 l0 x5_1).f2) ((rd_T30 l1 x5_1).f0) ((rd_T30 l1 x5_1).f1) _ _ ((rd_T30 l1 x5_1).f2) false _ ?side1 ?side2 ?side3 ?side4 A7.out).mono ?_
        (case side1 => repeat (first | exact (qB HR160_2.out HB.out) | (with_reducible refine qc ?_ _) | (with_reducible refine qe ?_ _) | (with_reducible refine qf ?_)))
        (case side2 => exact HC160_2.out)
        (case side3 => repeat (first | exact (qB HR161_2.out HB.out) | (with_reducible refine qc ?_ _) | (with_reducible refine qe ?_ _) | (with_reducible refine qf ?_)))
        (case side4 => exact HC161_2.out)
        rintro e w12 ⟨rfl, hb⟩
        refine ⟨_, rfl, ?_⟩
        have n0_ := qM (qs (by repeat (first | (with_reducible first | exact HB.out | apply qA | apply qN | apply qD) | exact HB.out)) hb)
        clear HB
        have HB := n0_
        clear n0_
        (try clear hb)
        (try clear hb2)
        (try clear hk)
        (try clear hi)
        refine hK.out _ _ ⟨((HB.out.cell (qL w _ hw160_0)).trans hw160_0), ((HB.out.cell (qL w _ hw160_1)).trans hw160_1), ((HB.out.cell (qL w _ hw160_2)).trans hw160_2), ((HB.out.cell (qL w _ hw161_0)).trans hw161_0), ((HB.out.cell (qL w _ hw161_1)).trans hw161_1), ((HB.out.cell (qL w _ hw161_2)).trans hw161_2)⟩ (fun hHeld => ?_)
        clear hK K
        refine norm_ (a' := ?_) ?_ ?_
        rotate_left
        · show Act.put _ (some 25) _ = _
          simp only [Act.put, List.setIfInBounds_toArray, List.set_cons_zero, List.set_cons_succ, i64_w, i32_w]
          rfl
        refine pure_ (i := 9) (N := some 26) (v := ?_) (a' := ?_) #[true, true, true, true, true, true, true, true, true, true] rfl rfl (any_of HT_.out (by kernel_rfl)) (fun _ _ _ h => h) (Or.inl ⟨by rfl, ?_⟩) ?_ ?_
        rotate_left
        · intro w'
          go_simp
          with_reducible rfl
        rotate_left
        · simp only [Act.put, List.setIfInBounds_toArray, List.set_cons_zero, List.set_cons_succ, i64_w, i32_w]
          rfl
        refine done_ (done_of HT_.out (by kernel_rfl)) ?_
        try go_wp2
        go_ret
        exact ⟨by first | rfl | (simp [errW_none, errW_some] <;> rfl) | (simp [*, errW_none, errW_some] <;> rfl), by repeat (first | (with_reducible first | exact HB.out | apply qA | apply qN | apply qD) | exact HB.out)⟩
      subst c8
      have H1 : (laws_eqTaskS.l0 k1 l0 l1 (wrap64 (x5_1 + 1))) = some r := by rw [if_pos rfl] at H; exact H
      clear H
      have H := H1
      clear H1
      have H' := qM H
      clear H
      try go_wp2
      have n0_ := qM (qD HB.out)
      clear HB
      have HB := n0_
      clear n0_
      have p160 : 0 ≤ (x5_1 : Int) := qO (by first | (with_reducible assumption) | assumption)
      have q160 : x5_1 < (l0.length : Int) := qO (by first | (with_reducible assumption) | assumption)
      obtain ⟨ad160, A160_2, c160_2, e160, hx160_0, hx160_1, hx160_2, hl160_2, hi160_2⟩ := at_T30 HR0.out x5_1 p160 q160
      have hw160_2 := hx160_2
      have hw160_1 := hx160_1
      have hw160_0 := hx160_0
      cases e160
      replace hx160_0 := (HB.out.cell (qL w _ hx160_0)).trans hx160_0
      replace hx160_1 := (HB.out.cell (qL w _ hx160_1)).trans hx160_1
      replace hx160_2 := (HB.out.cell (qL w _ hx160_2)).trans hx160_2
      have HR160_2 := qM hi160_2
      have HC160_2 := qM hl160_2
      clear hi160_2 hl160_2
      replace p160 := eq_true p160
      replace q160 := eq_true q160
      have p161 : 0 ≤ (x5_1 : Int) := qO (by first | (with_reducible assumption) | assumption)
      have q161 : x5_1 < (l1.length : Int) := qO (by first | (with_reducible assumption) | assumption)
      obtain ⟨ad161, A161_2, c161_2, e161, hx161_0, hx161_1, hx161_2, hl161_2, hi161_2⟩ := at_T30 HR1.out x5_1 p161 q161
      have hw161_2 := hx161_2
      have hw161_1 := hx161_1
      have hw161_0 := hx161_0
      cases e161
      replace hx161_0 := (HB.out.cell (qL w _ hx161_0)).trans hx161_0
      replace hx161_1 := (HB.out.cell (qL w _ hx161_1)).trans hx161_1
      replace hx161_2 := (HB.out.cell (qL w _ hx161_2)).trans hx161_2
      have HR161_2 := qM hi161_2
      have HC161_2 := qM hl161_2
      clear hi161_2 hl161_2
      replace p161 := eq_true p161
      replace q161 := eq_true q161
      refine start_ (n := 10) (S := fun w' => w'.cell? (ad160.add ((x5_1).toNat * 3)) = some (.int .i64 ((rd_T30 l0 x5_1).f0)) ∧ w'.cell? ⟨(ad160.add ((x5_1).toNat * 3)).block, (ad160.add ((x5_1).toNat * 3)).off + 1, none⟩ = some (.int .i64 ((rd_T30 l0 x5_1).f1)) ∧ w'.cell? ⟨(ad160.add ((x5_1).toNat * 3)).block, (ad160.add ((x5_1).toNat * 3)).off + 2, none⟩ = some (.slice A160_2 ((rd_T30 l0 x5_1).f2).length c160_2) ∧ w'.cell? (ad161.add ((x5_1).toNat * 3)) = some (.int .i64 ((rd_T30 l1 x5_1).f0)) ∧ w'.cell? ⟨(ad161.add ((x5_1).toNat * 3)).block, (ad161.add ((x5_1).toNat * 3)).off + 1, none⟩ = some (.int .i64 ((rd_T30 l1 x5_1).f1)) ∧ w'.cell? ⟨(ad161.add ((x5_1).toNat * 3)).block, (ad161.add ((x5_1).toNat * 3)).off + 2, none⟩ = some (.slice A161_2 ((rd_T30 l1 x5_1).f2).length c161_2)) (ds := []) #[false, false, false, false, false, false, false, false, false, false] (by kernel_rfl) rfl rfl ⟨((HB.out.cell (qL w _ hw160_0)).trans hw160_0), ((HB.out.cell (qL w _ hw160_1)).trans hw160_1), ((HB.out.cell (qL w _ hw160_2)).trans hw160_2), ((HB.out.cell (qL w _ hw161_0)).trans hw161_0), ((HB.out.cell (qL w _ hw161_1)).trans hw161_1), ((HB.out.cell (qL w _ hw161_2)).trans hw161_2)⟩ (fun hHeld => ?_); refine with_tabW laws_eqTaskS.tab6 laws_eqTaskS.bits6 (fun HT_ HW_ => ?_)
      generalize wr.drew = w9 at HB HR160_2 HR161_2 hx160_0 hx160_1 hx160_2 hx161_0 hx161_1 hx161_2 hHeld ⊢
      refine pure_ (i := 0) (N := some 17) (v := ?_) (a' := ?_) #[true, false, false, false, false, false, false, false, false, false] rfl rfl (any_of HT_.out (by kernel_rfl)) (fun _ _ _ h => h) (Or.inl ⟨by rfl, ?_⟩) ?_ ?_
      rotate_left
      · intro w'
        go_simp
        with_reducible rfl
      rotate_left
      · simp only [Act.put, List.setIfInBounds_toArray, List.set_cons_zero, List.set_cons_succ, i64_w, i32_w]
        rfl
      refine pure_ (i := 1) (N := some 18) (v := ?_) (a' := ?_) #[true, true, false, false, false, false, false, false, false, false] rfl rfl (any_of HT_.out (by kernel_rfl)) (fun _ _ _ h => h) (Or.inl ⟨by rfl, ?_⟩) ?_ ?_
      rotate_left
      · intro w'
        go_simp
        with_reducible rfl
      rotate_left
      · simp only [Act.put, List.setIfInBounds_toArray, List.set_cons_zero, List.set_cons_succ, i64_w, i32_w]
        rfl
      refine pure_ (i := 2) (N := some 19) (v := ?_) (a' := ?_) #[true, true, true, false, false, false, false, false, false, false] rfl rfl (any_of HT_.out (by kernel_rfl)) (fun _ _ _ h => h) (Or.inl ⟨by rfl, ?_⟩) ?_ ?_
      rotate_left
      · intro w'
        go_simp
        with_reducible rfl
      rotate_left
      · simp only [Act.put, List.setIfInBounds_toArray, List.set_cons_zero, List.set_cons_succ, i64_w, i32_w]
        rfl
      refine pure_ (i := 4) (N := some 21) (v := ?_) (a' := ?_) #[true, true, true, false, true, false, false, false, false, false] rfl rfl (any_of HT_.out (by kernel_rfl)) (fun _ _ _ h => h) (Or.inl ⟨by rfl, ?_⟩) ?_ ?_
      rotate_left
      · intro w'
        go_simp
        with_reducible rfl
      rotate_left
      · simp only [Act.put, List.setIfInBounds_toArray, List.set_cons_zero, List.set_cons_succ, i64_w, i32_w]
        rfl
      refine pure_ (i := 5) (N := some 22) (v := ?_) (a' := ?_) #[true, true, true, false, true, true, false, false, false, false] rfl rfl (any_of HT_.out (by kernel_rfl)) (fun _ _ _ h => h) (Or.inl ⟨by rfl, ?_⟩) ?_ ?_
      rotate_left
      · intro w'
        go_simp
        with_reducible rfl
      rotate_left
      · simp only [Act.put, List.setIfInBounds_toArray, List.set_cons_zero, List.set_cons_succ, i64_w, i32_w]
        rfl
      refine pure_ (i := 6) (N := some 23) (v := ?_) (a' := ?_) #[true, true, true, false, true, true, true, false, false, false] rfl rfl (any_of HT_.out (by kernel_rfl)) (fun _ _ _ h => h) (Or.inl ⟨by rfl, ?_⟩) ?_ ?_
      rotate_left
      · intro w'
        go_simp
        with_reducible rfl
      rotate_left
      · simp only [Act.put, List.setIfInBounds_toArray, List.set_cons_zero, List.set_cons_succ, i64_w, i32_w]
        rfl
      refine take_ (i := 3) (N := some 20) (v := ?_) (a' := ?_) #[true, true, true, true, true, true, true, false, false, false] rfl rfl (take_ofW HT_.out HW_.out (by kernel_rfl)) (fun _ _ _ h => h) (Or.inl ⟨by rfl, ?_⟩) hHeld ?_ ?_
      rotate_left
      · rintro w' ⟨s0, s1, s2, s3, s4, s5⟩
        go_simp
        with_reducible rfl
      rotate_left
      · simp only [Act.put, List.setIfInBounds_toArray, List.set_cons_zero, List.set_cons_succ, i64_w, i32_w]
        rfl
      refine take_ (i := 7) (N := some 24) (v := ?_) (a' := ?_) #[true, true, true, true, true, true, true, true, false, false] rfl rfl (take_ofW HT_.out HW_.out (by kernel_rfl)) (fun _ _ _ h => h) (Or.inl ⟨by rfl, ?_⟩) hHeld ?_ ?_
      rotate_left
      · rintro w' ⟨s0, s1, s2, s3, s4, s5⟩
        go_simp
        with_reducible rfl
      rotate_left
      · simp only [Act.put, List.setIfInBounds_toArray, List.set_cons_zero, List.set_cons_succ, i64_w, i32_w]
        rfl
      refine one_ (i := 8) (N := some 25) #[true, true, true, true, true, true, true, true, true, false] rfl rfl (one_of HT_.out (by kernel_rfl)) (by decide) (fun K hK => ?_)
      refine goes_ Try.func20 (by kernel_rfl) rfl #[.agg #[.int .i64 ((rd_T30 l0 x5_1).f0), .int .i64 ((rd_T30 l0 x5_1).f1), .slice A160_2 ((rd_T30 l0 x5_1).f2).length c160_2], .agg #[.int .i64 ((rd_T30 l1 x5_1).f0), .int .i64 ((rd_T30 l1 x5_1).f1), .slice A161_2 ((rd_T30 l1 x5_1).f2).length c161_2]] (by rfl) rfl rfl (by (try simp only [List.map_toArray, List.map_cons, List.map_nil]); first | done | rfl | (simp only [List.length_drop, List.length_take]; rfl)) ?_
      with_reducible refine (ih_20 k1 (by have := HK1.out; omega) ((rd_T30 l0 x5_1).f0) ((rd_T30 l0 x5_1).f1) _ _ ((rd_T30 l0 x5_1).f2) ((rd_T30 l1 x5_1).f0) ((rd_T30 l1 x5_1).f1) _ _ ((rd_T30 l1 x5_1).f2) true _ ?side1 ?side2 ?side3 ?side4 A7.out).mono ?_
      (case side1 => repeat (first | exact (qB HR160_2.out HB.out) | (with_reducible refine qc ?_ _) | (with_reducible refine qe ?_ _) | (with_reducible refine qf ?_)))
      (case side2 => exact HC160_2.out)
      (case side3 => repeat (first | exact (qB HR161_2.out HB.out) | (with_reducible refine qc ?_ _) | (with_reducible refine qe ?_ _) | (with_reducible refine qf ?_)))
      (case side4 => exact HC161_2.out)
      rintro e w10 ⟨rfl, hb⟩
      refine ⟨_, rfl, ?_⟩
      have n0_ := qM (qs (by repeat (first | (with_reducible first | exact HB.out | apply qA | apply qN | apply qD) | exact HB.out)) hb)
      clear HB
      have HB := n0_
      clear n0_
      (try clear hb)
      (try clear hb2)
      (try clear hk)
      (try clear hi)
      refine hK.out _ _ ⟨((HB.out.cell (qL w _ hw160_0)).trans hw160_0), ((HB.out.cell (qL w _ hw160_1)).trans hw160_1), ((HB.out.cell (qL w _ hw160_2)).trans hw160_2), ((HB.out.cell (qL w _ hw161_0)).trans hw161_0), ((HB.out.cell (qL w _ hw161_1)).trans hw161_1), ((HB.out.cell (qL w _ hw161_2)).trans hw161_2)⟩ (fun hHeld => ?_)
      clear hK K
      refine norm_ (a' := ?_) ?_ ?_
      rotate_left
      · show Act.put _ (some 25) _ = _
        simp only [Act.put, List.setIfInBounds_toArray, List.set_cons_zero, List.set_cons_succ, i64_w, i32_w]
        rfl
      refine pure_ (i := 9) (N := some 26) (v := ?_) (a' := ?_) #[true, true, true, true, true, true, true, true, true, true] rfl rfl (any_of HT_.out (by kernel_rfl)) (fun _ _ _ h => h) (Or.inl ⟨by rfl, ?_⟩) ?_ ?_
      rotate_left
      · intro w'
        go_simp
        with_reducible rfl
      rotate_left
      · simp only [Act.put, List.setIfInBounds_toArray, List.set_cons_zero, List.set_cons_succ, i64_w, i32_w]
        rfl
      refine done_ (done_of HT_.out (by kernel_rfl)) ?_
      try go_wp2
      go_roundg k1
      case measure => have := HK1.out; omega
      case rel => exact ⟨(wrap64 (x5_1 + 1)), (by first | rfl | (simp; done) | (simp [*]; done)), H', ⟨by have := HK1.out; omega⟩, ⟨by repeat (first | (with_reducible first | exact HB.out | apply qA | apply qN | apply qD) | exact HB.out)⟩⟩
theorem laws_eqTask.calls_all (k : Nat) : (∀ (a0_0 : Int) (a0_1 : Int) (A0_2 : Option Addr) (c0_2 : Nat) (l0_2 : List (S30)) (a1_0 : Int) (a1_1 : Int) (A1_2 : Option Addr) (c1_2 : Nat) (l1_2 : List (S30)) (r : Bool) (w : World) (hr0_2 : Kd.C k30 w A0_2 l0_2.length l0_2) (hc0_2 : l0_2.length ≤ c0_2) (hr1_2 : Kd.C k30 w A1_2 l1_2.length l1_2) (hc1_2 : l1_2.length ≤ c1_2) (h : laws_eqTask.f k a0_0 a0_1 l0_2 a1_0 a1_1 l1_2 = some r),
    Calls Try.prog 20 #[.agg #[.int .i64 a0_0, .int .i64 a0_1, .slice A0_2 l0_2.length c0_2], .agg #[.int .i64 a1_0, .int .i64 a1_1, .slice A1_2 l1_2.length c1_2]] w fun e w' => e = .returned (.bool r) ∧ Below w.heap.size w w') ∧ (∀ (A0 : Option Addr) (c0 : Nat) (l0 : List (S30)) (A1 : Option Addr) (c1 : Nat) (l1 : List (S30)) (r : Bool) (w : World) (hr0 : Kd.C k30 w A0 l0.length l0) (hc0 : l0.length ≤ c0) (hr1 : Kd.C k30 w A1 l1.length l1) (hc1 : l1.length ≤ c1) (h : laws_eqTaskS.f k l0 l1 = some r),
    Calls Try.prog 73 #[.slice A0 l0.length c0, .slice A1 l1.length c1] w fun e w' => e = .returned (.bool r) ∧ Below w.heap.size w w') := by
  induction k using Nat.strongRecOn with
  | _ k ih =>
  exact ⟨laws_eqTask.calls_ih k (fun j hj => (ih j hj).1) (fun j hj => (ih j hj).2), laws_eqTaskS.calls_ih k (fun j hj => (ih j hj).1) (fun j hj => (ih j hj).2)⟩
theorem laws_eqTaskS.calls (k : Nat) : ∀ (A0 : Option Addr) (c0 : Nat) (l0 : List (S30)) (A1 : Option Addr) (c1 : Nat) (l1 : List (S30)) (r : Bool) (w : World) (hr0 : Kd.C k30 w A0 l0.length l0) (hc0 : l0.length ≤ c0) (hr1 : Kd.C k30 w A1 l1.length l1) (hc1 : l1.length ≤ c1) (h : laws_eqTaskS.f k l0 l1 = some r),
    Calls Try.prog 73 #[.slice A0 l0.length c0, .slice A1 l1.length c1] w fun e w' => e = .returned (.bool r) ∧ Below w.heap.size w w' := (laws_eqTask.calls_all k).2
end Go.Proofs.Ytgbjbpjmbghlbaa.G
end
