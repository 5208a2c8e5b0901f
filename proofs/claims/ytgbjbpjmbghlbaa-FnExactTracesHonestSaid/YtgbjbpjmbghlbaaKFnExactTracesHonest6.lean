-- Written by pack.py (ours): the claim's texts, cut down to what its theorem reaches.
import Derived.Test.YtgbjbpjmbghlbaaKFnExactTracesHonest5
set_option maxHeartbeats 8000000
set_option maxRecDepth 100000
set_option linter.unusedVariables false
set_option linter.unusedSimpArgs false
section
namespace Go.Proofs.Ytgbjbpjmbghlbaa.G
open Go.RowKit Go.Proofs.YtgbjbpjmbghlbaaW.PrintWords Go.Proofs.YtgbjbpjmbghlbaaW.PrintLast Go.Proofs.YtgbjbpjmbghlbaaW.PrintMore
attribute [local go_sem] max2_int min2_int max_two min_two max_three min_three max_four min_four
mutual
def spec_TracesHonest.j0 : Nat → List (S87) → Bool → List Bool → List (S30) → Option (Bool)
  | 0, _, _, _, _ => none
  | k + 1, x1, x14, x670000, x670001 => if x14 = true then (some false) else (spec_TracesHonest.l0 k x1 0 x670000 x670001)
def spec_TracesHonest.l0 : Nat → List (S87) → Int → List Bool → List (S30) → Option (Bool)
  | 0, _, _, _, _ => none
  | k + 1, x1, x5, x670000, x670001 => if x5 < (x1.length : Int) then (if 0 ≤ x5 then (if ((rd_T87 x1 x5).f0) ≥ (x670000.length : Int) then (some false) else (if 0 ≤ ((rd_T87 x1 x5).f0) then (if ((rd_T87 x1 x5).f0) < (x670000.length : Int) then (if (rdOf false x670000 ((rd_T87 x1 x5).f0) = true) then (if ((rd_T87 x1 x5).f0) < (x670001.length : Int) then ((spec_l5Back.f k ((rd_T87 x1 x5).f0) ((rd_T87 x1 x5).f1) ((rd_T87 x1 x5).f2)).bind fun t676 => ((spec_l5Of.f k ((rd_T87 x1 x5).f0) ((rd_T30 x670001 ((rd_T87 x1 x5).f0)).f0) ((rd_T30 x670001 ((rd_T87 x1 x5).f0)).f1) ((rd_T30 x670001 ((rd_T87 x1 x5).f0)).f2) t676).bind fun bt679 => ((spec_l5Same.f k bt679.1 bt679.2.1 bt679.2.2 ((rd_T87 x1 x5).f0) ((rd_T87 x1 x5).f1) ((rd_T87 x1 x5).f2)).bind fun t685 => (if t685 = true then (spec_TracesHonest.l0 k x1 (wrap64 (x5 + 1)) x670000 x670001) else (some false))))) else (none)) else (some false)) else (none)) else (none))) else (none)) else (some true)
end
def spec_TracesHonest.f (k : Nat) (l0_0 : List Bool) (l0_1 : List (S30)) (l1 : List (S87)) : Option (Bool) := (spec_SheetOk.f k l0_0 l0_1).bind fun t670 => (if t670 = true then ((spec_TracesOk.f k l1).bind fun t671 => (spec_TracesHonest.j0 k l1 (!t671) l0_0 l0_1)) else (spec_TracesHonest.j0 k l1 true l0_0 l0_1))
def spec_TracesHonest.T7 : Bool × List (List Nat × List Nat) := (true, [([], []), ([], []), ([1], [1]), ([2], [2]), ([0, 3], [0, 3]), ([4], [4]), ([5], [5]), ([6, 5], [5, 6]), ([5], [5]), ([7, 8, 5], [5, 7, 8]), ([9, 5], [5, 9]), ([10, 5], [5, 10]), ([5, 11], [5, 11]), ([12, 5], [12]), ([13], [13]), ([13], [13]), ([15, 13], [13, 15]), ([13], [13]), ([16, 17, 13], [13, 16, 17]), ([18, 13], [13, 18]), ([13], [13]), ([13], [13]), ([20, 21, 13], [13, 20, 21]), ([22, 13], [13, 22]), ([23, 13, 13], [13, 23]), ([14, 19, 24, 24, 13], [13, 14, 19, 24]), ([13], [13]), ([13], [13]), ([26, 27, 13], [13, 26, 27]), ([28, 13], [13, 28]), ([25, 29, 25, 13], [13, 25, 29]), ([30, 13], [13, 30]), ([13, 31], [13, 31])])
def spec_TracesHonest.B7 : List Nat := [0, 0, 2, 6, 15, 31, 63, 127, 63, 511, 1023, 2047, 4095, 8191, 16383, 16383, 49151, 16383, 245759, 507903, 16383, 16383, 3162111, 7356415, 15745023, 33554431, 16383, 16383, 201342975, 469778431, 1073741823, 2147483647, 4294967295]
theorem spec_TracesHonest.tab7 : rtab .any (opsOf Try.f41 7) = spec_TracesHonest.T7 := by kernel_rfl
theorem spec_TracesHonest.bits7 : waitsOk spec_TracesHonest.T7.2 spec_TracesHonest.B7 = true := by kernel_rfl
theorem spec_TracesHonest.calls (k : Nat) (A0_0 : Option Addr) (c0_0 : Nat) (l0_0 : List Bool) (A0_1 : Option Addr) (c0_1 : Nat) (l0_1 : List (S30)) (A1 : Option Addr) (c1 : Nat) (l1 : List (S87)) (r : Bool) (w : World) (hr0_0 : Kd.C Kd.bool w A0_0 l0_0.length l0_0) (hc0_0 : l0_0.length ≤ c0_0) (hr0_1 : Kd.C k30 w A0_1 l0_1.length l0_1) (hc0_1 : l0_1.length ≤ c0_1) (hr1 : Kd.C k87 w A1 l1.length l1) (hc1 : l1.length ≤ c1) (h : spec_TracesHonest.f k l0_0 l0_1 l1 = some r) :
    Calls Try.prog 41 #[.agg #[.slice A0_0 l0_0.length c0_0, .slice A0_1 l0_1.length c0_1], .slice A1 l1.length c1] w fun e w' => e = .returned (.bool r) ∧ Below w.heap.size w w' := by
  have hu56 := Try.underlying56
  have hu30 := Try.underlying30
  have hu87 := Try.underlying87
  have HR0_0 := qM hr0_0
  have HC0_0 := qM hc0_0
  clear hr0_0 hc0_0
  have HR0_1 := qM hr0_1
  have HC0_1 := qM hc0_1
  clear hr0_1 hc0_1
  have HR1 := qM hr1
  have HC1 := qM hc1
  clear hr1 hc1
  have HB := qM (Below.refl w.heap.size w)
  have H : ((spec_SheetOk.f k l0_0 l0_1).bind fun t670 => (if t670 = true then ((spec_TracesOk.f k l1).bind fun t671 => (spec_TracesHonest.j0 k l1 (!t671) l0_0 l0_1)) else (spec_TracesHonest.j0 k l1 true l0_0 l0_1))) = some r := h
  clear h
  have HC3 := qM H
  clear H
  go_enter Try.func41, Try.ntmps41
  go_upto_region 1 with (first | ((with_reducible refine gate_dst (N := 2) rfl ?_); refine box_event ?hg (N := 2) ?hd (cs := #[.slice A0_0 l0_0.length c0_0, .slice A0_1 l0_1.length c0_1]) (t := 56) ?hr ?_; (case hd => rfl); (case hg => rfl); (case hr => first | (go_simp; done) | (go_simp; rfl)); intro gb669 hg w4 hbox hb; have n0_ := qM (qs (by repeat (first | (with_reducible first | exact HB.out | apply qA | apply qN | apply qD) | exact HB.out)) hb); have n1_ := qM (hbox); have n2_ := qM ((by rw [hg]; exact (qz (by repeat (first | (with_reducible first | exact HB.out | apply qA | apply qN | apply qD) | exact HB.out))) : w.heap.size ≤ gb669)); have n3_ := qM ((by rw [hg]; exact (qz (by repeat (first | (with_reducible first | exact HB.out | apply qA | apply qN | apply qD) | exact HB.out))) : w.heap.size ≤ gb669)); clear HB; have HB := n0_; have BK669 := n1_; have GW669 := n2_; have GE669 := n3_; clear n0_ n1_ n2_ n3_; clear hb hbox hg))
  (try simp only [Act.put, qT, qU, qV])
  go_cut [14] (fun v14 wc => ∃ (kq : Nat) (x14_2 : Bool), v14 = .bool x14_2 ∧ Aside0 (spec_TracesHonest.j0 kq l1 x14_2 l0_0 l0_1 = some r) ∧ Aside0 (kq ≤ k) ∧ Aside0 (wc.heap[gb669]? = some (.cells #[(.slice A0_0 l0_0.length c0_0), (.slice A0_1 l0_1.length c0_1)] 56 (0, 0))) ∧ Aside0 (Below w.heap.size w wc))
  case first =>
    have H := HC3.out
    clear HC3
    replace H := jG H
    obtain ⟨t670, A50, H⟩ := H
    replace H : (if t670 = true then ((spec_TracesOk.f k l1).bind fun t671 => (spec_TracesHonest.j0 k l1 (!t671) l0_0 l0_1)) else (spec_TracesHonest.j0 k l1 true l0_0 l0_1)) = some r := H
    have A5 := qM A50
    clear A50
    by_cases c6 : t670 = true
    rotate_left
    · replace c6 := Bool.eq_false_iff.mpr c6
      subst c6
      have H1 : (spec_TracesHonest.j0 k l1 true l0_0 l0_1) = some r := by rw [if_neg (show ¬ (false = true) by decide)] at H; exact H
      clear H
      have H := H1
      clear H1
      have H' := qM H
      clear H
      have hcz11_0 : w4.cell? ⟨gb669, 0, none⟩ = some (.slice A0_0 l0_0.length c0_0) := (qC BK669.out 0).trans rfl
      have hcz11_1 : w4.cell? ⟨gb669, 1, none⟩ = some (.slice A0_1 l0_1.length c0_1) := (qC BK669.out 1).trans rfl
      have hfz11_0 := qF BK669.out 0
      have hfz11_1 := qF BK669.out 1
      go_wp2_with (first | ((with_reducible refine gate_callee (f := 85) rfl ?_); refine goesL_ (some 8) rfl rfl Try.func85 (by kernel_rfl) rfl #[.agg #[.slice A0_0 l0_0.length c0_0, .slice A0_1 l0_1.length c0_1]] rfl (by (try simp only [jC, jD, jE]); first | done | rfl | (simp only [jB, jA]; rfl)) ?_; (with_reducible refine (spec_SheetOk.calls k _ _ l0_0 _ _ l0_1 false _ ?side1 ?side2 ?side3 ?side4 A5.out).mono ?_); (case side1 => repeat (first | exact (qB HR0_0.out HB.out) | (with_reducible refine qc ?_ _) | (with_reducible refine qe ?_ _) | (with_reducible refine qf ?_))); (case side2 => exact HC0_0.out); (case side3 => repeat (first | exact (qB HR0_1.out HB.out) | (with_reducible refine qc ?_ _) | (with_reducible refine qe ?_ _) | (with_reducible refine qf ?_))); (case side4 => exact HC0_1.out); rintro e w12 ⟨rfl, hb⟩; refine ⟨_, rfl, ?_⟩; have n0_ := qM (blk_below (g := gb669) (o := .cells #[.slice A0_0 l0_0.length c0_0, .slice A0_1 l0_1.length c0_1] 56 (0, 0)) (by (with_reducible repeat (first | apply qn | apply qd | apply qa)); exact BK669.out) hb); have n1_ := qM (qs (by repeat (first | (with_reducible first | exact HB.out | apply qA | apply qN | apply qD | refine qS ?_ GE669.out) | exact HB.out)) hb); clear BK669; clear HB; have BK669 := n0_; have HB := n1_; clear n0_ n1_; (try clear hb); (try clear hb2); (try clear hk); (try clear hi)))
      go_meet
      case rel => exact ⟨_, (true), (by first | rfl | (simp; done) | (simp [*]; done)), H', ⟨by first | omega | exact Nat.le_refl _⟩, ⟨by (with_reducible repeat (first | apply qn | apply qd | apply qa)); exact BK669.out⟩, ⟨by repeat (first | (with_reducible first | exact HB.out | apply qA | apply qN | apply qD | refine qS ?_ GE669.out) | exact HB.out)⟩⟩
    subst c6
    have H1 : ((spec_TracesOk.f k l1).bind fun t671 => (spec_TracesHonest.j0 k l1 (!t671) l0_0 l0_1)) = some r := by rw [if_pos rfl] at H; exact H
    clear H
    have H := H1
    clear H1
    replace H := jG H
    obtain ⟨t671, A70, H⟩ := H
    replace H : (spec_TracesHonest.j0 k l1 (!t671) l0_0 l0_1) = some r := H
    have A7 := qM A70
    clear A70
    have H' := qM H
    clear H
    have hcz8_0 : w4.cell? ⟨gb669, 0, none⟩ = some (.slice A0_0 l0_0.length c0_0) := (qC BK669.out 0).trans rfl
    have hcz8_1 : w4.cell? ⟨gb669, 1, none⟩ = some (.slice A0_1 l0_1.length c0_1) := (qC BK669.out 1).trans rfl
    have hfz8_0 := qF BK669.out 0
    have hfz8_1 := qF BK669.out 1
    go_wp2_with (first | ((with_reducible refine gate_callee (f := 85) rfl ?_); refine goesL_ (some 8) rfl rfl Try.func85 (by kernel_rfl) rfl #[.agg #[.slice A0_0 l0_0.length c0_0, .slice A0_1 l0_1.length c0_1]] rfl (by (try simp only [jC, jD, jE]); first | done | rfl | (simp only [jB, jA]; rfl)) ?_; (with_reducible refine (spec_SheetOk.calls k _ _ l0_0 _ _ l0_1 true _ ?side1 ?side2 ?side3 ?side4 A5.out).mono ?_); (case side1 => repeat (first | exact (qB HR0_0.out HB.out) | (with_reducible refine qc ?_ _) | (with_reducible refine qe ?_ _) | (with_reducible refine qf ?_))); (case side2 => exact HC0_0.out); (case side3 => repeat (first | exact (qB HR0_1.out HB.out) | (with_reducible refine qc ?_ _) | (with_reducible refine qe ?_ _) | (with_reducible refine qf ?_))); (case side4 => exact HC0_1.out); rintro e w9 ⟨rfl, hb⟩; refine ⟨_, rfl, ?_⟩; have n0_ := qM (blk_below (g := gb669) (o := .cells #[.slice A0_0 l0_0.length c0_0, .slice A0_1 l0_1.length c0_1] 56 (0, 0)) (by (with_reducible repeat (first | apply qn | apply qd | apply qa)); exact BK669.out) hb); have n1_ := qM (qs (by repeat (first | (with_reducible first | exact HB.out | apply qA | apply qN | apply qD | refine qS ?_ GE669.out) | exact HB.out)) hb); clear BK669; clear HB; have BK669 := n0_; have HB := n1_; clear n0_ n1_; (try clear hb); (try clear hb2); (try clear hk); (try clear hi)) | (go_at_call 87; (with_reducible refine (spec_TracesOk.calls k _ _ l1 t671 _ ?side1 ?side2 A7.out).mono ?_); (case side1 => repeat (first | exact (qB HR1.out HB.out) | (with_reducible refine qc ?_ _) | (with_reducible refine qe ?_ _) | (with_reducible refine qf ?_))); (case side2 => exact HC1.out); rintro e w10 ⟨rfl, hb⟩; have n0_ := qM (blk_below (g := gb669) (o := .cells #[.slice A0_0 l0_0.length c0_0, .slice A0_1 l0_1.length c0_1] 56 (0, 0)) (by (with_reducible repeat (first | apply qn | apply qd | apply qa)); exact BK669.out) hb); have n1_ := qM (qs (by repeat (first | (with_reducible first | exact HB.out | apply qA | apply qN | apply qD | refine qS ?_ GE669.out) | exact HB.out)) hb); clear BK669; clear HB; have BK669 := n0_; have HB := n1_; clear n0_ n1_; (try clear hb); (try clear hb2); (try clear hk); (try clear hi)))
    go_meet
    case rel => exact ⟨_, (!t671), (by first | rfl | (simp; done) | (simp [*]; done)), H', ⟨by first | omega | exact Nat.le_refl _⟩, ⟨by (with_reducible repeat (first | apply qn | apply qd | apply qa)); exact BK669.out⟩, ⟨by repeat (first | (with_reducible first | exact HB.out | apply qA | apply qN | apply qD | refine qS ?_ GE669.out) | exact HB.out)⟩⟩
  case rest =>
    clear HC3
    try clear c1
    try clear p2
    try clear c4
    try clear c6
    try clear c8
    try clear hcz11_0
    try clear hcz11_1
    try clear hcz8_0
    try clear hcz8_1
    try clear hfz11_0
    try clear hfz11_1
    try clear hfz8_0
    try clear hfz8_1
    obtain ⟨kq, x14_2, rfl, HA, HJ2, BK669, HB⟩ := hcut
    cases kq with
    | zero => exact absurd HA.out (by simp [spec_TracesHonest.j0])
    | succ kj2 =>
      have H := HA.out
      clear HA
      simp only [spec_TracesHonest.j0] at H
      by_cases c13 : x14_2 = true
      · subst c13
        have H1 : (some false) = some r := by rw [if_pos rfl] at H; exact H
        clear H
        have H := H1
        clear H1
        obtain rfl := jF H
        go_wp2
        go_ret
        exact ⟨by first | rfl | (simp [errW_none, errW_some] <;> rfl) | (simp [*, errW_none, errW_some] <;> rfl), by repeat (first | (with_reducible first | exact HB.out | apply qA | apply qN | apply qD | refine qS ?_ GE669.out) | exact HB.out)⟩
      replace c13 := Bool.eq_false_iff.mpr c13
      subst c13
      have H1 : (spec_TracesHonest.l0 kj2 l1 0 l0_0 l0_1) = some r := by rw [if_neg (show ¬ (false = true) by decide)] at H; exact H
      clear H
      have H := H1
      clear H1
      have H' := qM H
      clear H
      go_wp2
      go_loopg [5] kj2 (fun kq v5 w' => ∃ (x5_2 : Int), v5 = .int .i64 x5_2 ∧ Aside0 (spec_TracesHonest.l0 kq l1 x5_2 l0_0 l0_1 = some r) ∧ Aside0 (kq ≤ kj2) ∧ Aside0 (w'.heap[gb669]? = some (.cells #[(.slice A0_0 l0_0.length c0_0), (.slice A0_1 l0_1.length c0_1)] 56 (0, 0))) ∧ Aside0 (Below w.heap.size w w'))
      case atStart => exact ⟨(0), (by first | rfl | (simp; done) | (simp [*]; done)), H', ⟨Nat.le_refl _⟩, ⟨by (with_reducible repeat (first | apply qn | apply qd | apply qa)); exact BK669.out⟩, ⟨by repeat (first | (with_reducible first | exact HB.out | apply qA | apply qN | apply qD | refine qS ?_ GE669.out) | exact HB.out)⟩⟩
      case round =>
        clear H'
        try clear c1
        try clear p2
        try clear c4
        try clear c6
        try clear c8
        try clear c13
        try clear hcz11_0
        try clear hcz11_1
        try clear hcz8_0
        try clear hcz8_1
        try clear hfz11_0
        try clear hfz11_1
        try clear hfz8_0
        try clear hfz8_1
        try clear p2
        obtain ⟨x5_2, rfl, HA, HK2, BK669, HB⟩ := hrel
        cases gk with
        | zero => exact absurd HA.out (by simp [spec_TracesHonest.l0])
        | succ k2 =>
          have H := HA.out
          clear HA
          simp only [spec_TracesHonest.l0] at H
          by_cases c14 : x5_2 < (l1.length : Int)
          rotate_left
          · rw [if_neg c14] at H
            have c14b0 : decide (x5_2 < (l1.length : Int)) = false := decide_eq_false c14
            clear c14
            obtain rfl := jF H
            go_wp2
            go_ret
            exact ⟨by first | rfl | (simp [errW_none, errW_some] <;> rfl) | (simp [*, errW_none, errW_some] <;> rfl), by repeat (first | (with_reducible first | exact HB.out | apply qA | apply qN | apply qD | refine qS ?_ GE669.out) | exact HB.out)⟩
          rw [if_pos c14] at H
          have c14b0 : decide (x5_2 < (l1.length : Int)) = true := decide_eq_true c14
          clear c14
          by_cases c15 : 0 ≤ x5_2
          rotate_left
          · rw [if_neg c15] at H
            exact absurd H (by simp)
          rw [if_pos c15] at H
          have c15b0 : decide (0 ≤ x5_2) = true := decide_eq_true c15
          clear c15
          by_cases c16 : ((rd_T87 l1 x5_2).f0) ≥ (l0_0.length : Int)
          · rw [if_pos c16] at H
            have c16b0 : decide ((l0_0.length : Int) ≤ ((rd_T87 l1 x5_2).f0)) = true := decide_eq_true c16
            clear c16
            obtain rfl := jF H
            have p672 : 0 ≤ (x5_2 : Int) := qO (by first | (with_reducible assumption) | assumption)
            have q672 : x5_2 < (l1.length : Int) := qO (by first | (with_reducible assumption) | assumption)
            obtain ⟨ad672, A672_1, c672_1, e672, hx672_0, hx672_1, hx672_2, hl672_1, hi672_1⟩ := at_T87 HR1.out x5_2 p672 q672
            cases e672
            replace hx672_0 := (HB.out.cell (qL w _ hx672_0)).trans hx672_0
            replace hx672_1 := (HB.out.cell (qL w _ hx672_1)).trans hx672_1
            replace hx672_2 := (HB.out.cell (qL w _ hx672_2)).trans hx672_2
            have HR672_1 := qM hi672_1
            have HC672_1 := qM hl672_1
            clear hi672_1 hl672_1
            replace p672 := eq_true p672
            replace q672 := eq_true q672
            try go_wp2
            have n0_ := qM (qd BK669.out)
            have n1_ := qM (qD HB.out)
            clear BK669
            clear HB
            have BK669 := n0_
            have HB := n1_
            clear n0_ n1_
            refine start_ (n := 33) (S := fun w' => w'.cell? ⟨gb669, 0, none⟩ = some (.slice A0_0 l0_0.length c0_0) ∧ w'.cell? ⟨gb669, 1, none⟩ = some (.slice A0_1 l0_1.length c0_1)) (ds := []) #[false, false, false, false, false, false, false, false, false, false, false, false, false, false, false, false, false, false, false, false, false, false, false, false, false, false, false, false, false, false, false, false, false] (by kernel_rfl) rfl rfl ⟨(qC BK669.out 0).trans rfl, (qC BK669.out 1).trans rfl⟩ (fun hHeld => ?_); refine with_tabW spec_TracesHonest.tab7 spec_TracesHonest.bits7 (fun HT_ HW_ => ?_)
            generalize wr.drew = w17 at BK669 HB hHeld ⊢
            refine pure_ (i := 0) (N := some 26) (v := ?_) (a' := ?_) #[true, false, false, false, false, false, false, false, false, false, false, false, false, false, false, false, false, false, false, false, false, false, false, false, false, false, false, false, false, false, false, false, false] rfl rfl (any_of HT_.out (by kernel_rfl)) (fun _ _ _ h => h) (Or.inl ⟨by rfl, ?_⟩) ?_ ?_
            rotate_left
            · intro w'
              go_simp
              with_reducible rfl
            rotate_left
            · simp only [Act.put, qT, qU, qV, i64_w, i32_w]
              rfl
            refine pure_ (i := 1) (N := some 27) (v := ?_) (a' := ?_) #[true, true, false, false, false, false, false, false, false, false, false, false, false, false, false, false, false, false, false, false, false, false, false, false, false, false, false, false, false, false, false, false, false] rfl rfl (any_of HT_.out (by kernel_rfl)) (fun _ _ _ h => h) (Or.inl ⟨by rfl, ?_⟩) ?_ ?_
            rotate_left
            · intro w'
              go_simp
              with_reducible rfl
            rotate_left
            · simp only [Act.put, qT, qU, qV, i64_w, i32_w]
              rfl
            refine take_ (i := 2) (N := some 28) (v := ?_) (a' := ?_) #[true, true, true, false, false, false, false, false, false, false, false, false, false, false, false, false, false, false, false, false, false, false, false, false, false, false, false, false, false, false, false, false, false] rfl rfl (take_ofW HT_.out HW_.out (by kernel_rfl)) (fun _ _ _ h => h) (Or.inl ⟨by rfl, ?_⟩) hHeld ?_ ?_
            rotate_left
            · rintro w' ⟨s0, s1⟩
              go_simp
              with_reducible rfl
            rotate_left
            · simp only [Act.put, qT, qU, qV, i64_w, i32_w]
              rfl
            refine pure_ (i := 3) (N := some 29) (v := ?_) (a' := ?_) #[true, true, true, true, false, false, false, false, false, false, false, false, false, false, false, false, false, false, false, false, false, false, false, false, false, false, false, false, false, false, false, false, false] rfl rfl (any_of HT_.out (by kernel_rfl)) (fun _ _ _ h => h) (Or.inl ⟨by rfl, ?_⟩) ?_ ?_
            rotate_left
            · intro w'
              go_simp
              with_reducible rfl
            rotate_left
            · simp only [Act.put, qT, qU, qV, i64_w, i32_w]
              rfl
            refine pure_ (i := 4) (N := some 30) (v := ?_) (a' := ?_) #[true, true, true, true, true, false, false, false, false, false, false, false, false, false, false, false, false, false, false, false, false, false, false, false, false, false, false, false, false, false, false, false, false] rfl rfl (any_of HT_.out (by kernel_rfl)) (fun _ _ _ h => h) (Or.inl ⟨by rfl, ?_⟩) ?_ ?_
            rotate_left
            · intro w'
              go_simp
              with_reducible rfl
            rotate_left
            · simp only [Act.put, qT, qU, qV, i64_w, i32_w]
              rfl
            refine pure_ (i := 5) (N := some 31) (v := ?_) (a' := ?_) #[true, true, true, true, true, true, false, false, false, false, false, false, false, false, false, false, false, false, false, false, false, false, false, false, false, false, false, false, false, false, false, false, false] rfl rfl (any_of HT_.out (by kernel_rfl)) (fun _ _ _ h => h) (Or.inl ⟨by rfl, ?_⟩) ?_ ?_
            rotate_left
            · intro w'
              go_simp
              with_reducible rfl
            rotate_left
            · simp only [Act.put, qT, qU, qV, i64_w, i32_w]
              rfl
            refine pure_ (i := 6) (N := some 32) (v := undef) (a' := ?_) #[true, true, true, true, true, true, true, false, false, false, false, false, false, false, false, false, false, false, false, false, false, false, false, false, false, false, false, false, false, false, false, false, false] rfl rfl (any_of HT_.out (by kernel_rfl)) (fun _ _ _ h => h) (Or.inr ⟨by rfl, rfl⟩) ?_ ?_
            rotate_left
            · simp only [Act.put, qT, qU, qV, i64_w, i32_w]
              rfl
            refine pure_ (i := 7) (N := some 33) (v := undef) (a' := ?_) #[true, true, true, true, true, true, true, true, false, false, false, false, false, false, false, false, false, false, false, false, false, false, false, false, false, false, false, false, false, false, false, false, false] rfl rfl (any_of HT_.out (by kernel_rfl)) (fun _ _ _ h => h) (Or.inr ⟨by rfl, rfl⟩) ?_ ?_
            rotate_left
            · simp only [Act.put, qT, qU, qV, i64_w, i32_w]
              rfl
            refine pure_ (i := 8) (N := some 34) (v := undef) (a' := ?_) #[true, true, true, true, true, true, true, true, true, false, false, false, false, false, false, false, false, false, false, false, false, false, false, false, false, false, false, false, false, false, false, false, false] rfl rfl (any_of HT_.out (by kernel_rfl)) (fun _ _ _ h => h) (Or.inr ⟨by rfl, rfl⟩) ?_ ?_
            rotate_left
            · simp only [Act.put, qT, qU, qV, i64_w, i32_w]
              rfl
            refine pure_ (i := 9) (N := some 35) (v := undef) (a' := ?_) #[true, true, true, true, true, true, true, true, true, true, false, false, false, false, false, false, false, false, false, false, false, false, false, false, false, false, false, false, false, false, false, false, false] rfl rfl (any_of HT_.out (by kernel_rfl)) (fun _ _ _ h => h) (Or.inr ⟨by rfl, rfl⟩) ?_ ?_
            rotate_left
            · simp only [Act.put, qT, qU, qV, i64_w, i32_w]
              rfl
            refine pure_ (i := 10) (N := some 36) (v := undef) (a' := ?_) #[true, true, true, true, true, true, true, true, true, true, true, false, false, false, false, false, false, false, false, false, false, false, false, false, false, false, false, false, false, false, false, false, false] rfl rfl (any_of HT_.out (by kernel_rfl)) (fun _ _ _ h => h) (Or.inr ⟨by rfl, rfl⟩) ?_ ?_
            rotate_left
            · simp only [Act.put, qT, qU, qV, i64_w, i32_w]
              rfl
            refine pure_ (i := 11) (N := some 37) (v := undef) (a' := ?_) #[true, true, true, true, true, true, true, true, true, true, true, true, false, false, false, false, false, false, false, false, false, false, false, false, false, false, false, false, false, false, false, false, false] rfl rfl (any_of HT_.out (by kernel_rfl)) (fun _ _ _ h => h) (Or.inr ⟨by rfl, rfl⟩) ?_ ?_
            rotate_left
            · simp only [Act.put, qT, qU, qV, i64_w, i32_w]
              rfl
            refine pure_ (i := 12) (N := some 38) (v := ?_) (a' := ?_) #[true, true, true, true, true, true, true, true, true, true, true, true, true, false, false, false, false, false, false, false, false, false, false, false, false, false, false, false, false, false, false, false, false] rfl rfl (any_of HT_.out (by kernel_rfl)) (fun _ _ _ h => h) (Or.inl ⟨by rfl, ?_⟩) ?_ ?_
            rotate_left
            · intro w'
              go_simp
              with_reducible rfl
            rotate_left
            · simp only [Act.put, qT, qU, qV, i64_w, i32_w]
              rfl
            refine pure_ (i := 13) (N := some 39) (v := ?_) (a' := ?_) #[true, true, true, true, true, true, true, true, true, true, true, true, true, true, false, false, false, false, false, false, false, false, false, false, false, false, false, false, false, false, false, false, false] rfl rfl (any_of HT_.out (by kernel_rfl)) (fun _ _ _ h => h) (Or.inl ⟨by rfl, ?_⟩) ?_ ?_
            rotate_left
            · intro w'
              go_simp
              with_reducible rfl
            rotate_left
            · simp only [Act.put, qT, qU, qV, i64_w, i32_w]
              rfl
            refine pure_ (i := 14) (N := some 40) (v := undef) (a' := ?_) #[true, true, true, true, true, true, true, true, true, true, true, true, true, true, true, false, false, false, false, false, false, false, false, false, false, false, false, false, false, false, false, false, false] rfl rfl (any_of HT_.out (by kernel_rfl)) (fun _ _ _ h => h) (Or.inr ⟨by rfl, rfl⟩) ?_ ?_
            rotate_left
            · simp only [Act.put, qT, qU, qV, i64_w, i32_w]
              rfl
            refine pure_ (i := 15) (N := some 41) (v := undef) (a' := ?_) #[true, true, true, true, true, true, true, true, true, true, true, true, true, true, true, true, false, false, false, false, false, false, false, false, false, false, false, false, false, false, false, false, false] rfl rfl (any_of HT_.out (by kernel_rfl)) (fun _ _ _ h => h) (Or.inr ⟨by rfl, rfl⟩) ?_ ?_
            rotate_left
            · simp only [Act.put, qT, qU, qV, i64_w, i32_w]
              rfl
            refine pure_ (i := 16) (N := some 42) (v := undef) (a' := ?_) #[true, true, true, true, true, true, true, true, true, true, true, true, true, true, true, true, true, false, false, false, false, false, false, false, false, false, false, false, false, false, false, false, false] rfl rfl (any_of HT_.out (by kernel_rfl)) (fun _ _ _ h => h) (Or.inr ⟨by rfl, rfl⟩) ?_ ?_
            rotate_left
            · simp only [Act.put, qT, qU, qV, i64_w, i32_w]
              rfl
            refine pure_ (i := 17) (N := some 43) (v := undef) (a' := ?_) #[true, true, true, true, true, true, true, true, true, true, true, true, true, true, true, true, true, true, false, false, false, false, false, false, false, false, false, false, false, false, false, false, false] rfl rfl (any_of HT_.out (by kernel_rfl)) (fun _ _ _ h => h) (Or.inr ⟨by rfl, rfl⟩) ?_ ?_
            rotate_left
            · simp only [Act.put, qT, qU, qV, i64_w, i32_w]
              rfl
            refine pure_ (i := 18) (N := some 44) (v := undef) (a' := ?_) #[true, true, true, true, true, true, true, true, true, true, true, true, true, true, true, true, true, true, true, false, false, false, false, false, false, false, false, false, false, false, false, false, false] rfl rfl (any_of HT_.out (by kernel_rfl)) (fun _ _ _ h => h) (Or.inr ⟨by rfl, rfl⟩) ?_ ?_
            rotate_left
            · simp only [Act.put, qT, qU, qV, i64_w, i32_w]
              rfl
            refine pure_ (i := 19) (N := some 45) (v := undef) (a' := ?_) #[true, true, true, true, true, true, true, true, true, true, true, true, true, true, true, true, true, true, true, true, false, false, false, false, false, false, false, false, false, false, false, false, false] rfl rfl (any_of HT_.out (by kernel_rfl)) (fun _ _ _ h => h) (Or.inr ⟨by rfl, rfl⟩) ?_ ?_
            rotate_left
            · simp only [Act.put, qT, qU, qV, i64_w, i32_w]
              rfl
            refine pure_ (i := 20) (N := some 46) (v := undef) (a' := ?_) #[true, true, true, true, true, true, true, true, true, true, true, true, true, true, true, true, true, true, true, true, true, false, false, false, false, false, false, false, false, false, false, false, false] rfl rfl (any_of HT_.out (by kernel_rfl)) (fun _ _ _ h => h) (Or.inr ⟨by rfl, rfl⟩) ?_ ?_
            rotate_left
            · simp only [Act.put, qT, qU, qV, i64_w, i32_w]
              rfl
            refine pure_ (i := 21) (N := some 47) (v := undef) (a' := ?_) #[true, true, true, true, true, true, true, true, true, true, true, true, true, true, true, true, true, true, true, true, true, true, false, false, false, false, false, false, false, false, false, false, false] rfl rfl (any_of HT_.out (by kernel_rfl)) (fun _ _ _ h => h) (Or.inr ⟨by rfl, rfl⟩) ?_ ?_
            rotate_left
            · simp only [Act.put, qT, qU, qV, i64_w, i32_w]
              rfl
            refine pure_ (i := 22) (N := some 48) (v := undef) (a' := ?_) #[true, true, true, true, true, true, true, true, true, true, true, true, true, true, true, true, true, true, true, true, true, true, true, false, false, false, false, false, false, false, false, false, false] rfl rfl (any_of HT_.out (by kernel_rfl)) (fun _ _ _ h => h) (Or.inr ⟨by rfl, rfl⟩) ?_ ?_
            rotate_left
            · simp only [Act.put, qT, qU, qV, i64_w, i32_w]
              rfl
            refine pure_ (i := 23) (N := some 49) (v := undef) (a' := ?_) #[true, true, true, true, true, true, true, true, true, true, true, true, true, true, true, true, true, true, true, true, true, true, true, true, false, false, false, false, false, false, false, false, false] rfl rfl (any_of HT_.out (by kernel_rfl)) (fun _ _ _ h => h) (Or.inr ⟨by rfl, rfl⟩) ?_ ?_
            rotate_left
            · simp only [Act.put, qT, qU, qV, i64_w, i32_w]
              rfl
            refine pure_ (i := 24) (N := some 50) (v := undef) (a' := ?_) #[true, true, true, true, true, true, true, true, true, true, true, true, true, true, true, true, true, true, true, true, true, true, true, true, true, false, false, false, false, false, false, false, false] rfl rfl (any_of HT_.out (by kernel_rfl)) (fun _ _ _ h => h) (Or.inr ⟨by rfl, rfl⟩) ?_ ?_
            rotate_left
            · simp only [Act.put, qT, qU, qV, i64_w, i32_w]
              rfl
            refine pure_ (i := 25) (N := some 51) (v := undef) (a' := ?_) #[true, true, true, true, true, true, true, true, true, true, true, true, true, true, true, true, true, true, true, true, true, true, true, true, true, true, false, false, false, false, false, false, false] rfl rfl (any_of HT_.out (by kernel_rfl)) (fun _ _ _ h => h) (Or.inr ⟨by rfl, rfl⟩) ?_ ?_
            rotate_left
            · simp only [Act.put, qT, qU, qV, i64_w, i32_w]
              rfl
            refine pure_ (i := 26) (N := some 52) (v := undef) (a' := ?_) #[true, true, true, true, true, true, true, true, true, true, true, true, true, true, true, true, true, true, true, true, true, true, true, true, true, true, true, false, false, false, false, false, false] rfl rfl (any_of HT_.out (by kernel_rfl)) (fun _ _ _ h => h) (Or.inr ⟨by rfl, rfl⟩) ?_ ?_
            rotate_left
            · simp only [Act.put, qT, qU, qV, i64_w, i32_w]
              rfl
            refine pure_ (i := 27) (N := some 53) (v := undef) (a' := ?_) #[true, true, true, true, true, true, true, true, true, true, true, true, true, true, true, true, true, true, true, true, true, true, true, true, true, true, true, true, false, false, false, false, false] rfl rfl (any_of HT_.out (by kernel_rfl)) (fun _ _ _ h => h) (Or.inr ⟨by rfl, rfl⟩) ?_ ?_
            rotate_left
            · simp only [Act.put, qT, qU, qV, i64_w, i32_w]
              rfl
            refine pure_ (i := 28) (N := some 54) (v := undef) (a' := ?_) #[true, true, true, true, true, true, true, true, true, true, true, true, true, true, true, true, true, true, true, true, true, true, true, true, true, true, true, true, true, false, false, false, false] rfl rfl (any_of HT_.out (by kernel_rfl)) (fun _ _ _ h => h) (Or.inr ⟨by rfl, rfl⟩) ?_ ?_
            rotate_left
            · simp only [Act.put, qT, qU, qV, i64_w, i32_w]
              rfl
            refine pure_ (i := 29) (N := some 55) (v := undef) (a' := ?_) #[true, true, true, true, true, true, true, true, true, true, true, true, true, true, true, true, true, true, true, true, true, true, true, true, true, true, true, true, true, true, false, false, false] rfl rfl (any_of HT_.out (by kernel_rfl)) (fun _ _ _ h => h) (Or.inr ⟨by rfl, rfl⟩) ?_ ?_
            rotate_left
            · simp only [Act.put, qT, qU, qV, i64_w, i32_w]
              rfl
            refine pure_ (i := 30) (N := some 56) (v := undef) (a' := ?_) #[true, true, true, true, true, true, true, true, true, true, true, true, true, true, true, true, true, true, true, true, true, true, true, true, true, true, true, true, true, true, true, false, false] rfl rfl (any_of HT_.out (by kernel_rfl)) (fun _ _ _ h => h) (Or.inr ⟨by rfl, rfl⟩) ?_ ?_
            rotate_left
            · simp only [Act.put, qT, qU, qV, i64_w, i32_w]
              rfl
            refine pure_ (i := 31) (N := some 57) (v := undef) (a' := ?_) #[true, true, true, true, true, true, true, true, true, true, true, true, true, true, true, true, true, true, true, true, true, true, true, true, true, true, true, true, true, true, true, true, false] rfl rfl (any_of HT_.out (by kernel_rfl)) (fun _ _ _ h => h) (Or.inr ⟨by rfl, rfl⟩) ?_ ?_
            rotate_left
            · simp only [Act.put, qT, qU, qV, i64_w, i32_w]
              rfl
            refine pure_ (i := 32) (N := some 58) (v := ?_) (a' := ?_) #[true, true, true, true, true, true, true, true, true, true, true, true, true, true, true, true, true, true, true, true, true, true, true, true, true, true, true, true, true, true, true, true, true] rfl rfl (any_of HT_.out (by kernel_rfl)) (fun _ _ _ h => h) (Or.inl ⟨by rfl, ?_⟩) ?_ ?_
            rotate_left
            · intro w'
              go_simp
              with_reducible rfl
            rotate_left
            · simp only [Act.put, qT, qU, qV, i64_w, i32_w]
              rfl
            refine done_ (done_of HT_.out (by kernel_rfl)) ?_
            try go_wp2
            go_ret
            exact ⟨by first | rfl | (simp [errW_none, errW_some] <;> rfl) | (simp [*, errW_none, errW_some] <;> rfl), by repeat (first | (with_reducible first | exact HB.out | apply qA | apply qN | apply qD | refine qS ?_ GE669.out) | exact HB.out)⟩
          rw [if_neg c16] at H
          have c16b0 : decide ((l0_0.length : Int) ≤ ((rd_T87 l1 x5_2).f0)) = false := decide_eq_false c16
          clear c16
          by_cases c18 : 0 ≤ ((rd_T87 l1 x5_2).f0)
          rotate_left
          · rw [if_neg c18] at H
            exact absurd H (by simp)
          rw [if_pos c18] at H
          have c18b0 : decide (0 ≤ ((rd_T87 l1 x5_2).f0)) = true := decide_eq_true c18
          clear c18
          by_cases c19 : ((rd_T87 l1 x5_2).f0) < (l0_0.length : Int)
          rotate_left
          · rw [if_neg c19] at H
            exact absurd H (by simp)
          rw [if_pos c19] at H
          have c19b0 : decide (((rd_T87 l1 x5_2).f0) < (l0_0.length : Int)) = true := decide_eq_true c19
          clear c19
          obtain ⟨bq20, hbq20⟩ : ∃ b_ : Bool, b_ = (rdOf false l0_0 ((rd_T87 l1 x5_2).f0)) := ⟨_, rfl⟩
          replace H : (if (bq20 = true) then (if ((rd_T87 l1 x5_2).f0) < (l0_1.length : Int) then ((spec_l5Back.f k2 ((rd_T87 l1 x5_2).f0) ((rd_T87 l1 x5_2).f1) ((rd_T87 l1 x5_2).f2)).bind fun t676 => ((spec_l5Of.f k2 ((rd_T87 l1 x5_2).f0) ((rd_T30 l0_1 ((rd_T87 l1 x5_2).f0)).f0) ((rd_T30 l0_1 ((rd_T87 l1 x5_2).f0)).f1) ((rd_T30 l0_1 ((rd_T87 l1 x5_2).f0)).f2) t676).bind fun bt679 => ((spec_l5Same.f k2 bt679.1 bt679.2.1 bt679.2.2 ((rd_T87 l1 x5_2).f0) ((rd_T87 l1 x5_2).f1) ((rd_T87 l1 x5_2).f2)).bind fun t685 => (if t685 = true then (spec_TracesHonest.l0 k2 l1 (wrap64 (x5_2 + 1)) l0_0 l0_1) else (some false))))) else (none)) else (some false)) = some r := by rw [← hbq20] at H; exact H
          have Nbq20 := qM hbq20
          clear hbq20
          by_cases c21 : (bq20 = true)
          rotate_left
          · replace c21 := Bool.eq_false_iff.mpr c21
            subst c21
            have H1 : (some false) = some r := by rw [if_neg (show ¬ (false = true) by decide)] at H; exact H
            clear H
            have H := H1
            clear H1
            obtain rfl := jF H
            have p672 : 0 ≤ (x5_2 : Int) := qO (by first | (with_reducible assumption) | assumption)
            have q672 : x5_2 < (l1.length : Int) := qO (by first | (with_reducible assumption) | assumption)
            obtain ⟨ad672, A672_1, c672_1, e672, hx672_0, hx672_1, hx672_2, hl672_1, hi672_1⟩ := at_T87 HR1.out x5_2 p672 q672
            cases e672
            replace hx672_0 := (HB.out.cell (qL w _ hx672_0)).trans hx672_0
            replace hx672_1 := (HB.out.cell (qL w _ hx672_1)).trans hx672_1
            replace hx672_2 := (HB.out.cell (qL w _ hx672_2)).trans hx672_2
            have HR672_1 := qM hi672_1
            have HC672_1 := qM hl672_1
            clear hi672_1 hl672_1
            replace p672 := eq_true p672
            replace q672 := eq_true q672
            try go_wp2
            have n0_ := qM (qd BK669.out)
            have n1_ := qM (qD HB.out)
            clear BK669
            clear HB
            have BK669 := n0_
            have HB := n1_
            clear n0_ n1_
            have p673 : 0 ≤ (((rd_T87 l1 x5_2).f0) : Int) := qO (by first | (with_reducible assumption) | assumption)
            have q673 : ((rd_T87 l1 x5_2).f0) < (l0_0.length : Int) := qO (by first | (with_reducible assumption) | assumption)
            obtain ⟨ad673, e673, hx673_0⟩ := Kd.at_bool HR0_0.out ((rd_T87 l1 x5_2).f0) p673 q673
            have hw673_0 := hx673_0
            (try rw [← Nbq20.out] at hx673_0)
            (try rw [← Nbq20.out] at hw673_0)
            cases e673
            replace hx673_0 := (HB.out.cell (qL w _ hx673_0)).trans hx673_0
            replace p673 := eq_true p673
            replace q673 := eq_true q673
            refine start_ (n := 33) (S := fun w' => w'.cell? ⟨gb669, 0, none⟩ = some (.slice (some ad673) l0_0.length c0_0) ∧ w'.cell? ⟨gb669, 1, none⟩ = some (.slice A0_1 l0_1.length c0_1) ∧ w'.cell? (ad673.add (((rd_T87 l1 x5_2).f0)).toNat) = some (.bool false)) (ds := []) #[false, false, false, false, false, false, false, false, false, false, false, false, false, false, false, false, false, false, false, false, false, false, false, false, false, false, false, false, false, false, false, false, false] (by kernel_rfl) rfl rfl ⟨(qC BK669.out 0).trans rfl, (qC BK669.out 1).trans rfl, ((HB.out.cell (qL w _ hw673_0)).trans hw673_0)⟩ (fun hHeld => ?_); refine with_tabW spec_TracesHonest.tab7 spec_TracesHonest.bits7 (fun HT_ HW_ => ?_)
            generalize wr.drew = w39 at BK669 HB hx673_0 hHeld ⊢
            refine pure_ (i := 0) (N := some 26) (v := ?_) (a' := ?_) #[true, false, false, false, false, false, false, false, false, false, false, false, false, false, false, false, false, false, false, false, false, false, false, false, false, false, false, false, false, false, false, false, false] rfl rfl (any_of HT_.out (by kernel_rfl)) (fun _ _ _ h => h) (Or.inl ⟨by rfl, ?_⟩) ?_ ?_
            rotate_left
            · intro w'
              go_simp
              with_reducible rfl
            rotate_left
            · simp only [Act.put, qT, qU, qV, i64_w, i32_w]
              rfl
            refine pure_ (i := 1) (N := some 27) (v := ?_) (a' := ?_) #[true, true, false, false, false, false, false, false, false, false, false, false, false, false, false, false, false, false, false, false, false, false, false, false, false, false, false, false, false, false, false, false, false] rfl rfl (any_of HT_.out (by kernel_rfl)) (fun _ _ _ h => h) (Or.inl ⟨by rfl, ?_⟩) ?_ ?_
            rotate_left
            · intro w'
              go_simp
              with_reducible rfl
            rotate_left
            · simp only [Act.put, qT, qU, qV, i64_w, i32_w]
              rfl
            refine take_ (i := 2) (N := some 28) (v := ?_) (a' := ?_) #[true, true, true, false, false, false, false, false, false, false, false, false, false, false, false, false, false, false, false, false, false, false, false, false, false, false, false, false, false, false, false, false, false] rfl rfl (take_ofW HT_.out HW_.out (by kernel_rfl)) (fun _ _ _ h => h) (Or.inl ⟨by rfl, ?_⟩) hHeld ?_ ?_
            rotate_left
            · rintro w' ⟨s0, s1, s2⟩
              go_simp
              with_reducible rfl
            rotate_left
            · simp only [Act.put, qT, qU, qV, i64_w, i32_w]
              rfl
            refine pure_ (i := 3) (N := some 29) (v := ?_) (a' := ?_) #[true, true, true, true, false, false, false, false, false, false, false, false, false, false, false, false, false, false, false, false, false, false, false, false, false, false, false, false, false, false, false, false, false] rfl rfl (any_of HT_.out (by kernel_rfl)) (fun _ _ _ h => h) (Or.inl ⟨by rfl, ?_⟩) ?_ ?_
            rotate_left
            · intro w'
              go_simp
              with_reducible rfl
            rotate_left
            · simp only [Act.put, qT, qU, qV, i64_w, i32_w]
              rfl
            refine pure_ (i := 4) (N := some 30) (v := ?_) (a' := ?_) #[true, true, true, true, true, false, false, false, false, false, false, false, false, false, false, false, false, false, false, false, false, false, false, false, false, false, false, false, false, false, false, false, false] rfl rfl (any_of HT_.out (by kernel_rfl)) (fun _ _ _ h => h) (Or.inl ⟨by rfl, ?_⟩) ?_ ?_
            rotate_left
            · intro w'
              go_simp
              with_reducible rfl
            rotate_left
            · simp only [Act.put, qT, qU, qV, i64_w, i32_w]
              rfl
            refine pure_ (i := 5) (N := some 31) (v := ?_) (a' := ?_) #[true, true, true, true, true, true, false, false, false, false, false, false, false, false, false, false, false, false, false, false, false, false, false, false, false, false, false, false, false, false, false, false, false] rfl rfl (any_of HT_.out (by kernel_rfl)) (fun _ _ _ h => h) (Or.inl ⟨by rfl, ?_⟩) ?_ ?_
            rotate_left
            · intro w'
              go_simp
              with_reducible rfl
            rotate_left
            · simp only [Act.put, qT, qU, qV, i64_w, i32_w]
              rfl
            refine pure_ (i := 6) (N := some 32) (v := ?_) (a' := ?_) #[true, true, true, true, true, true, true, false, false, false, false, false, false, false, false, false, false, false, false, false, false, false, false, false, false, false, false, false, false, false, false, false, false] rfl rfl (any_of HT_.out (by kernel_rfl)) (fun _ _ _ h => h) (Or.inl ⟨by rfl, ?_⟩) ?_ ?_
            rotate_left
            · intro w'
              go_simp
              with_reducible rfl
            rotate_left
            · simp only [Act.put, qT, qU, qV, i64_w, i32_w]
              rfl
            refine pure_ (i := 8) (N := some 34) (v := ?_) (a' := ?_) #[true, true, true, true, true, true, true, false, true, false, false, false, false, false, false, false, false, false, false, false, false, false, false, false, false, false, false, false, false, false, false, false, false] rfl rfl (any_of HT_.out (by kernel_rfl)) (fun _ _ _ h => h) (Or.inl ⟨by rfl, ?_⟩) ?_ ?_
            rotate_left
            · intro w'
              go_simp
              with_reducible rfl
            rotate_left
            · simp only [Act.put, qT, qU, qV, i64_w, i32_w]
              rfl
            refine take_ (i := 7) (N := some 33) (v := ?_) (a' := ?_) #[true, true, true, true, true, true, true, true, true, false, false, false, false, false, false, false, false, false, false, false, false, false, false, false, false, false, false, false, false, false, false, false, false] rfl rfl (take_ofW HT_.out HW_.out (by kernel_rfl)) (fun _ _ _ h => h) (Or.inl ⟨by rfl, ?_⟩) hHeld ?_ ?_
            rotate_left
            · rintro w' ⟨s0, s1, s2⟩
              go_simp
              with_reducible rfl
            rotate_left
            · simp only [Act.put, qT, qU, qV, i64_w, i32_w]
              rfl
            refine pure_ (i := 9) (N := some 35) (v := ?_) (a' := ?_) #[true, true, true, true, true, true, true, true, true, true, false, false, false, false, false, false, false, false, false, false, false, false, false, false, false, false, false, false, false, false, false, false, false] rfl rfl (any_of HT_.out (by kernel_rfl)) (fun _ _ _ h => h) (Or.inl ⟨by rfl, ?_⟩) ?_ ?_
            rotate_left
            · intro w'
              go_simp
              with_reducible rfl
            rotate_left
            · simp only [Act.put, qT, qU, qV, i64_w, i32_w]
              rfl
            refine take_ (i := 10) (N := some 36) (v := ?_) (a' := ?_) #[true, true, true, true, true, true, true, true, true, true, true, false, false, false, false, false, false, false, false, false, false, false, false, false, false, false, false, false, false, false, false, false, false] rfl rfl (take_ofW HT_.out HW_.out (by kernel_rfl)) (fun _ _ _ h => h) (Or.inl ⟨by rfl, ?_⟩) hHeld ?_ ?_
            rotate_left
            · rintro w' ⟨s0, s1, s2⟩
              go_simp
              with_reducible rfl
            rotate_left
            · simp only [Act.put, qT, qU, qV, i64_w, i32_w]
              rfl
            refine pure_ (i := 11) (N := some 37) (v := ?_) (a' := ?_) #[true, true, true, true, true, true, true, true, true, true, true, true, false, false, false, false, false, false, false, false, false, false, false, false, false, false, false, false, false, false, false, false, false] rfl rfl (any_of HT_.out (by kernel_rfl)) (fun _ _ _ h => h) (Or.inl ⟨by rfl, ?_⟩) ?_ ?_
            rotate_left
            · intro w'
              go_simp
              with_reducible rfl
            rotate_left
            · simp only [Act.put, qT, qU, qV, i64_w, i32_w]
              rfl
            refine pure_ (i := 12) (N := some 38) (v := ?_) (a' := ?_) #[true, true, true, true, true, true, true, true, true, true, true, true, true, false, false, false, false, false, false, false, false, false, false, false, false, false, false, false, false, false, false, false, false] rfl rfl (any_of HT_.out (by kernel_rfl)) (fun _ _ _ h => h) (Or.inl ⟨by rfl, ?_⟩) ?_ ?_
            rotate_left
            · intro w'
              go_simp
              with_reducible rfl
            rotate_left
            · simp only [Act.put, qT, qU, qV, i64_w, i32_w]
              rfl
            refine pure_ (i := 13) (N := some 39) (v := ?_) (a' := ?_) #[true, true, true, true, true, true, true, true, true, true, true, true, true, true, false, false, false, false, false, false, false, false, false, false, false, false, false, false, false, false, false, false, false] rfl rfl (any_of HT_.out (by kernel_rfl)) (fun _ _ _ h => h) (Or.inl ⟨by rfl, ?_⟩) ?_ ?_
            rotate_left
            · intro w'
              go_simp
              with_reducible rfl
            rotate_left
            · simp only [Act.put, qT, qU, qV, i64_w, i32_w]
              rfl
            refine pure_ (i := 14) (N := some 40) (v := undef) (a' := ?_) #[true, true, true, true, true, true, true, true, true, true, true, true, true, true, true, false, false, false, false, false, false, false, false, false, false, false, false, false, false, false, false, false, false] rfl rfl (any_of HT_.out (by kernel_rfl)) (fun _ _ _ h => h) (Or.inr ⟨by rfl, rfl⟩) ?_ ?_
            rotate_left
            · simp only [Act.put, qT, qU, qV, i64_w, i32_w]
              rfl
            refine pure_ (i := 15) (N := some 41) (v := undef) (a' := ?_) #[true, true, true, true, true, true, true, true, true, true, true, true, true, true, true, true, false, false, false, false, false, false, false, false, false, false, false, false, false, false, false, false, false] rfl rfl (any_of HT_.out (by kernel_rfl)) (fun _ _ _ h => h) (Or.inr ⟨by rfl, rfl⟩) ?_ ?_
            rotate_left
            · simp only [Act.put, qT, qU, qV, i64_w, i32_w]
              rfl
            refine pure_ (i := 16) (N := some 42) (v := undef) (a' := ?_) #[true, true, true, true, true, true, true, true, true, true, true, true, true, true, true, true, true, false, false, false, false, false, false, false, false, false, false, false, false, false, false, false, false] rfl rfl (any_of HT_.out (by kernel_rfl)) (fun _ _ _ h => h) (Or.inr ⟨by rfl, rfl⟩) ?_ ?_
            rotate_left
            · simp only [Act.put, qT, qU, qV, i64_w, i32_w]
              rfl
            refine pure_ (i := 17) (N := some 43) (v := undef) (a' := ?_) #[true, true, true, true, true, true, true, true, true, true, true, true, true, true, true, true, true, true, false, false, false, false, false, false, false, false, false, false, false, false, false, false, false] rfl rfl (any_of HT_.out (by kernel_rfl)) (fun _ _ _ h => h) (Or.inr ⟨by rfl, rfl⟩) ?_ ?_
            rotate_left
            · simp only [Act.put, qT, qU, qV, i64_w, i32_w]
              rfl
            refine pure_ (i := 18) (N := some 44) (v := undef) (a' := ?_) #[true, true, true, true, true, true, true, true, true, true, true, true, true, true, true, true, true, true, true, false, false, false, false, false, false, false, false, false, false, false, false, false, false] rfl rfl (any_of HT_.out (by kernel_rfl)) (fun _ _ _ h => h) (Or.inr ⟨by rfl, rfl⟩) ?_ ?_
            rotate_left
            · simp only [Act.put, qT, qU, qV, i64_w, i32_w]
              rfl
            refine pure_ (i := 19) (N := some 45) (v := undef) (a' := ?_) #[true, true, true, true, true, true, true, true, true, true, true, true, true, true, true, true, true, true, true, true, false, false, false, false, false, false, false, false, false, false, false, false, false] rfl rfl (any_of HT_.out (by kernel_rfl)) (fun _ _ _ h => h) (Or.inr ⟨by rfl, rfl⟩) ?_ ?_
            rotate_left
            · simp only [Act.put, qT, qU, qV, i64_w, i32_w]
              rfl
            refine pure_ (i := 20) (N := some 46) (v := undef) (a' := ?_) #[true, true, true, true, true, true, true, true, true, true, true, true, true, true, true, true, true, true, true, true, true, false, false, false, false, false, false, false, false, false, false, false, false] rfl rfl (any_of HT_.out (by kernel_rfl)) (fun _ _ _ h => h) (Or.inr ⟨by rfl, rfl⟩) ?_ ?_
            rotate_left
            · simp only [Act.put, qT, qU, qV, i64_w, i32_w]
              rfl
            refine pure_ (i := 21) (N := some 47) (v := undef) (a' := ?_) #[true, true, true, true, true, true, true, true, true, true, true, true, true, true, true, true, true, true, true, true, true, true, false, false, false, false, false, false, false, false, false, false, false] rfl rfl (any_of HT_.out (by kernel_rfl)) (fun _ _ _ h => h) (Or.inr ⟨by rfl, rfl⟩) ?_ ?_
            rotate_left
            · simp only [Act.put, qT, qU, qV, i64_w, i32_w]
              rfl
            refine pure_ (i := 22) (N := some 48) (v := undef) (a' := ?_) #[true, true, true, true, true, true, true, true, true, true, true, true, true, true, true, true, true, true, true, true, true, true, true, false, false, false, false, false, false, false, false, false, false] rfl rfl (any_of HT_.out (by kernel_rfl)) (fun _ _ _ h => h) (Or.inr ⟨by rfl, rfl⟩) ?_ ?_
            rotate_left
            · simp only [Act.put, qT, qU, qV, i64_w, i32_w]
              rfl
            refine pure_ (i := 23) (N := some 49) (v := undef) (a' := ?_) #[true, true, true, true, true, true, true, true, true, true, true, true, true, true, true, true, true, true, true, true, true, true, true, true, false, false, false, false, false, false, false, false, false] rfl rfl (any_of HT_.out (by kernel_rfl)) (fun _ _ _ h => h) (Or.inr ⟨by rfl, rfl⟩) ?_ ?_
            rotate_left
            · simp only [Act.put, qT, qU, qV, i64_w, i32_w]
              rfl
            refine pure_ (i := 24) (N := some 50) (v := undef) (a' := ?_) #[true, true, true, true, true, true, true, true, true, true, true, true, true, true, true, true, true, true, true, true, true, true, true, true, true, false, false, false, false, false, false, false, false] rfl rfl (any_of HT_.out (by kernel_rfl)) (fun _ _ _ h => h) (Or.inr ⟨by rfl, rfl⟩) ?_ ?_
            rotate_left
            · simp only [Act.put, qT, qU, qV, i64_w, i32_w]
              rfl
            refine pure_ (i := 25) (N := some 51) (v := undef) (a' := ?_) #[true, true, true, true, true, true, true, true, true, true, true, true, true, true, true, true, true, true, true, true, true, true, true, true, true, true, false, false, false, false, false, false, false] rfl rfl (any_of HT_.out (by kernel_rfl)) (fun _ _ _ h => h) (Or.inr ⟨by rfl, rfl⟩) ?_ ?_
            rotate_left
            · simp only [Act.put, qT, qU, qV, i64_w, i32_w]
              rfl
            refine pure_ (i := 26) (N := some 52) (v := undef) (a' := ?_) #[true, true, true, true, true, true, true, true, true, true, true, true, true, true, true, true, true, true, true, true, true, true, true, true, true, true, true, false, false, false, false, false, false] rfl rfl (any_of HT_.out (by kernel_rfl)) (fun _ _ _ h => h) (Or.inr ⟨by rfl, rfl⟩) ?_ ?_
            rotate_left
            · simp only [Act.put, qT, qU, qV, i64_w, i32_w]
              rfl
            refine pure_ (i := 27) (N := some 53) (v := undef) (a' := ?_) #[true, true, true, true, true, true, true, true, true, true, true, true, true, true, true, true, true, true, true, true, true, true, true, true, true, true, true, true, false, false, false, false, false] rfl rfl (any_of HT_.out (by kernel_rfl)) (fun _ _ _ h => h) (Or.inr ⟨by rfl, rfl⟩) ?_ ?_
            rotate_left
            · simp only [Act.put, qT, qU, qV, i64_w, i32_w]
              rfl
            refine pure_ (i := 28) (N := some 54) (v := undef) (a' := ?_) #[true, true, true, true, true, true, true, true, true, true, true, true, true, true, true, true, true, true, true, true, true, true, true, true, true, true, true, true, true, false, false, false, false] rfl rfl (any_of HT_.out (by kernel_rfl)) (fun _ _ _ h => h) (Or.inr ⟨by rfl, rfl⟩) ?_ ?_
            rotate_left
            · simp only [Act.put, qT, qU, qV, i64_w, i32_w]
              rfl
            refine pure_ (i := 29) (N := some 55) (v := undef) (a' := ?_) #[true, true, true, true, true, true, true, true, true, true, true, true, true, true, true, true, true, true, true, true, true, true, true, true, true, true, true, true, true, true, false, false, false] rfl rfl (any_of HT_.out (by kernel_rfl)) (fun _ _ _ h => h) (Or.inr ⟨by rfl, rfl⟩) ?_ ?_
            rotate_left
            · simp only [Act.put, qT, qU, qV, i64_w, i32_w]
              rfl
            refine pure_ (i := 30) (N := some 56) (v := undef) (a' := ?_) #[true, true, true, true, true, true, true, true, true, true, true, true, true, true, true, true, true, true, true, true, true, true, true, true, true, true, true, true, true, true, true, false, false] rfl rfl (any_of HT_.out (by kernel_rfl)) (fun _ _ _ h => h) (Or.inr ⟨by rfl, rfl⟩) ?_ ?_
            rotate_left
            · simp only [Act.put, qT, qU, qV, i64_w, i32_w]
              rfl
            refine pure_ (i := 31) (N := some 57) (v := undef) (a' := ?_) #[true, true, true, true, true, true, true, true, true, true, true, true, true, true, true, true, true, true, true, true, true, true, true, true, true, true, true, true, true, true, true, true, false] rfl rfl (any_of HT_.out (by kernel_rfl)) (fun _ _ _ h => h) (Or.inr ⟨by rfl, rfl⟩) ?_ ?_
            rotate_left
            · simp only [Act.put, qT, qU, qV, i64_w, i32_w]
              rfl
            refine pure_ (i := 32) (N := some 58) (v := ?_) (a' := ?_) #[true, true, true, true, true, true, true, true, true, true, true, true, true, true, true, true, true, true, true, true, true, true, true, true, true, true, true, true, true, true, true, true, true] rfl rfl (any_of HT_.out (by kernel_rfl)) (fun _ _ _ h => h) (Or.inl ⟨by rfl, ?_⟩) ?_ ?_
            rotate_left
            · intro w'
              go_simp
              with_reducible rfl
            rotate_left
            · simp only [Act.put, qT, qU, qV, i64_w, i32_w]
              rfl
            refine done_ (done_of HT_.out (by kernel_rfl)) ?_
            try go_wp2
            go_ret
            exact ⟨by first | rfl | (simp [errW_none, errW_some] <;> rfl) | (simp [*, errW_none, errW_some] <;> rfl), by repeat (first | (with_reducible first | exact HB.out | apply qA | apply qN | apply qD | refine qS ?_ GE669.out) | exact HB.out)⟩
          subst c21
          have H1 : (if ((rd_T87 l1 x5_2).f0) < (l0_1.length : Int) then ((spec_l5Back.f k2 ((rd_T87 l1 x5_2).f0) ((rd_T87 l1 x5_2).f1) ((rd_T87 l1 x5_2).f2)).bind fun t676 => ((spec_l5Of.f k2 ((rd_T87 l1 x5_2).f0) ((rd_T30 l0_1 ((rd_T87 l1 x5_2).f0)).f0) ((rd_T30 l0_1 ((rd_T87 l1 x5_2).f0)).f1) ((rd_T30 l0_1 ((rd_T87 l1 x5_2).f0)).f2) t676).bind fun bt679 => ((spec_l5Same.f k2 bt679.1 bt679.2.1 bt679.2.2 ((rd_T87 l1 x5_2).f0) ((rd_T87 l1 x5_2).f1) ((rd_T87 l1 x5_2).f2)).bind fun t685 => (if t685 = true then (spec_TracesHonest.l0 k2 l1 (wrap64 (x5_2 + 1)) l0_0 l0_1) else (some false))))) else (none)) = some r := by rw [if_pos rfl] at H; exact H
          clear H
          have H := H1
          clear H1
          by_cases c22 : ((rd_T87 l1 x5_2).f0) < (l0_1.length : Int)
          rotate_left
          · rw [if_neg c22] at H
            exact absurd H (by simp)
          rw [if_pos c22] at H
          have c22b0 : decide (((rd_T87 l1 x5_2).f0) < (l0_1.length : Int)) = true := decide_eq_true c22
          clear c22
          replace H := jG H
          obtain ⟨t676, A230, H⟩ := H
          replace H : ((spec_l5Of.f k2 ((rd_T87 l1 x5_2).f0) ((rd_T30 l0_1 ((rd_T87 l1 x5_2).f0)).f0) ((rd_T30 l0_1 ((rd_T87 l1 x5_2).f0)).f1) ((rd_T30 l0_1 ((rd_T87 l1 x5_2).f0)).f2) t676).bind fun bt679 => ((spec_l5Same.f k2 bt679.1 bt679.2.1 bt679.2.2 ((rd_T87 l1 x5_2).f0) ((rd_T87 l1 x5_2).f1) ((rd_T87 l1 x5_2).f2)).bind fun t685 => (if t685 = true then (spec_TracesHonest.l0 k2 l1 (wrap64 (x5_2 + 1)) l0_0 l0_1) else (some false)))) = some r := H
          have A23 := qM A230
          clear A230
          replace H := jG H
          obtain ⟨⟨t679, t680, t683⟩, A240, H⟩ := H
          replace H : ((spec_l5Same.f k2 t679 t680 t683 ((rd_T87 l1 x5_2).f0) ((rd_T87 l1 x5_2).f1) ((rd_T87 l1 x5_2).f2)).bind fun t685 => (if t685 = true then (spec_TracesHonest.l0 k2 l1 (wrap64 (x5_2 + 1)) l0_0 l0_1) else (some false))) = some r := H
          have A24 := qM A240
          clear A240
          replace H := jG H
          obtain ⟨t685, A250, H⟩ := H
          replace H : (if t685 = true then (spec_TracesHonest.l0 k2 l1 (wrap64 (x5_2 + 1)) l0_0 l0_1) else (some false)) = some r := H
          have A25 := qM A250
          clear A250
          by_cases c26 : t685 = true
          rotate_left
          · replace c26 := Bool.eq_false_iff.mpr c26
            subst c26
            have H1 : (some false) = some r := by rw [if_neg (show ¬ (false = true) by decide)] at H; exact H
            clear H
            have H := H1
            clear H1
            obtain rfl := jF H
            have p672 : 0 ≤ (x5_2 : Int) := qO (by first | (with_reducible assumption) | assumption)
            have q672 : x5_2 < (l1.length : Int) := qO (by first | (with_reducible assumption) | assumption)
            obtain ⟨ad672, A672_1, c672_1, e672, hx672_0, hx672_1, hx672_2, hl672_1, hi672_1⟩ := at_T87 HR1.out x5_2 p672 q672
            cases e672
            replace hx672_0 := (HB.out.cell (qL w _ hx672_0)).trans hx672_0
            replace hx672_1 := (HB.out.cell (qL w _ hx672_1)).trans hx672_1
            replace hx672_2 := (HB.out.cell (qL w _ hx672_2)).trans hx672_2
            have HR672_1 := qM hi672_1
            have HC672_1 := qM hl672_1
            clear hi672_1 hl672_1
            replace p672 := eq_true p672
            replace q672 := eq_true q672
            try go_wp2
            have n0_ := qM (qd BK669.out)
            have n1_ := qM (qD HB.out)
            clear BK669
            clear HB
            have BK669 := n0_
            have HB := n1_
            clear n0_ n1_
            have p673 : 0 ≤ (((rd_T87 l1 x5_2).f0) : Int) := qO (by first | (with_reducible assumption) | assumption)
            have q673 : ((rd_T87 l1 x5_2).f0) < (l0_0.length : Int) := qO (by first | (with_reducible assumption) | assumption)
            obtain ⟨ad673, e673, hx673_0⟩ := Kd.at_bool HR0_0.out ((rd_T87 l1 x5_2).f0) p673 q673
            have hw673_0 := hx673_0
            (try rw [← Nbq20.out] at hx673_0)
            (try rw [← Nbq20.out] at hw673_0)
            cases e673
            replace hx673_0 := (HB.out.cell (qL w _ hx673_0)).trans hx673_0
            replace p673 := eq_true p673
            replace q673 := eq_true q673
            have p674 : 0 ≤ (((rd_T87 l1 x5_2).f0) : Int) := qO (by first | (with_reducible assumption) | assumption)
            have q674 : ((rd_T87 l1 x5_2).f0) < (l0_1.length : Int) := qO (by first | (with_reducible assumption) | assumption)
            obtain ⟨ad674, A674_2, c674_2, e674, hx674_0, hx674_1, hx674_2, hl674_2, hi674_2⟩ := at_T30 HR0_1.out ((rd_T87 l1 x5_2).f0) p674 q674
            have hw674_2 := hx674_2
            have hw674_1 := hx674_1
            have hw674_0 := hx674_0
            cases e674
            replace hx674_0 := (HB.out.cell (qL w _ hx674_0)).trans hx674_0
            replace hx674_1 := (HB.out.cell (qL w _ hx674_1)).trans hx674_1
            replace hx674_2 := (HB.out.cell (qL w _ hx674_2)).trans hx674_2
            have HR674_2 := qM hi674_2
            have HC674_2 := qM hl674_2
            clear hi674_2 hl674_2
            replace p674 := eq_true p674
            replace q674 := eq_true q674
            have p675 : 0 ≤ (x5_2 : Int) := qO (by first | (with_reducible assumption) | assumption)
            have q675 : x5_2 < (l1.length : Int) := qO (by first | (with_reducible assumption) | assumption)
            obtain ⟨ad675, A675_1, c675_1, e675, hx675_0, hx675_1, hx675_2, hl675_1, hi675_1⟩ := at_T87 HR1.out x5_2 p675 q675
            have hw675_2 := hx675_2
            have hw675_1 := hx675_1
            have hw675_0 := hx675_0
            obtain rfl : ad672 = ad675 := (by injection e675)
            replace hx675_0 := (HB.out.cell (qL w _ hx675_0)).trans hx675_0
            replace hx675_1 := (HB.out.cell (qL w _ hx675_1)).trans hx675_1
            replace hx675_2 := (HB.out.cell (qL w _ hx675_2)).trans hx675_2
            have HR675_1 := qM hi675_1
            have HC675_1 := qM hl675_1
            clear hi675_1 hl675_1
            replace p675 := eq_true p675
            replace q675 := eq_true q675
            have p684 : 0 ≤ (x5_2 : Int) := qO (by first | (with_reducible assumption) | assumption)
            have q684 : x5_2 < (l1.length : Int) := qO (by first | (with_reducible assumption) | assumption)
            obtain ⟨ad684, A684_1, c684_1, e684, hx684_0, hx684_1, hx684_2, hl684_1, hi684_1⟩ := at_T87 HR1.out x5_2 p684 q684
            have hw684_2 := hx684_2
            have hw684_1 := hx684_1
            have hw684_0 := hx684_0
            obtain rfl : ad672 = ad684 := (by injection e684)
            replace hx684_0 := (HB.out.cell (qL w _ hx684_0)).trans hx684_0
            replace hx684_1 := (HB.out.cell (qL w _ hx684_1)).trans hx684_1
            replace hx684_2 := (HB.out.cell (qL w _ hx684_2)).trans hx684_2
            have HR684_1 := qM hi684_1
            have HC684_1 := qM hl684_1
            clear hi684_1 hl684_1
            replace p684 := eq_true p684
            replace q684 := eq_true q684
            have ea_ := jF (hx675_1.symm.trans hx684_1)
            injection ea_ with ea_ en_ ec_
            subst ea_
            subst ec_
            clear en_
            refine start_ (n := 33) (S := fun w' => w'.cell? ⟨gb669, 0, none⟩ = some (.slice (some ad673) l0_0.length c0_0) ∧ w'.cell? ⟨gb669, 1, none⟩ = some (.slice (some ad674) l0_1.length c0_1) ∧ w'.cell? (ad673.add (((rd_T87 l1 x5_2).f0)).toNat) = some (.bool true) ∧ w'.cell? (ad674.add ((((rd_T87 l1 x5_2).f0)).toNat * 3)) = some (.int .i64 ((rd_T30 l0_1 ((rd_T87 l1 x5_2).f0)).f0)) ∧ w'.cell? ⟨(ad674.add ((((rd_T87 l1 x5_2).f0)).toNat * 3)).block, (ad674.add ((((rd_T87 l1 x5_2).f0)).toNat * 3)).off + 1, none⟩ = some (.int .i64 ((rd_T30 l0_1 ((rd_T87 l1 x5_2).f0)).f1)) ∧ w'.cell? ⟨(ad674.add ((((rd_T87 l1 x5_2).f0)).toNat * 3)).block, (ad674.add ((((rd_T87 l1 x5_2).f0)).toNat * 3)).off + 2, none⟩ = some (.slice A674_2 ((rd_T30 l0_1 ((rd_T87 l1 x5_2).f0)).f2).length c674_2) ∧ w'.cell? (ad672.add ((x5_2).toNat * 3)) = some (.int .i64 ((rd_T87 l1 x5_2).f0)) ∧ w'.cell? ⟨(ad672.add ((x5_2).toNat * 3)).block, (ad672.add ((x5_2).toNat * 3)).off + 1, none⟩ = some (.slice A675_1 ((rd_T87 l1 x5_2).f1).length c675_1) ∧ w'.cell? ⟨(ad672.add ((x5_2).toNat * 3)).block, (ad672.add ((x5_2).toNat * 3)).off + 2, none⟩ = some (.int .i64 ((rd_T87 l1 x5_2).f2)) ∧ w'.cell? (ad672.add ((x5_2).toNat * 3)) = some (.int .i64 ((rd_T87 l1 x5_2).f0)) ∧ w'.cell? ⟨(ad672.add ((x5_2).toNat * 3)).block, (ad672.add ((x5_2).toNat * 3)).off + 1, none⟩ = some (.slice A675_1 ((rd_T87 l1 x5_2).f1).length c675_1) ∧ w'.cell? ⟨(ad672.add ((x5_2).toNat * 3)).block, (ad672.add ((x5_2).toNat * 3)).off + 2, none⟩ = some (.int .i64 ((rd_T87 l1 x5_2).f2))) (ds := []) #[false, false, false, false, false, false, false, false, false, false, false, false, false, false, false, false, false, false, false, false, false, false, false, false, false, false, false, false, false, false, false, false, false] (by kernel_rfl) rfl rfl ⟨(qC BK669.out 0).trans rfl, (qC BK669.out 1).trans rfl, ((HB.out.cell (qL w _ hw673_0)).trans hw673_0), ((HB.out.cell (qL w _ hw674_0)).trans hw674_0), ((HB.out.cell (qL w _ hw674_1)).trans hw674_1), ((HB.out.cell (qL w _ hw674_2)).trans hw674_2), ((HB.out.cell (qL w _ hw675_0)).trans hw675_0), ((HB.out.cell (qL w _ hw675_1)).trans hw675_1), ((HB.out.cell (qL w _ hw675_2)).trans hw675_2), ((HB.out.cell (qL w _ hw684_0)).trans hw684_0), ((HB.out.cell (qL w _ hw684_1)).trans hw684_1), ((HB.out.cell (qL w _ hw684_2)).trans hw684_2)⟩ (fun hHeld => ?_); refine with_tabW spec_TracesHonest.tab7 spec_TracesHonest.bits7 (fun HT_ HW_ => ?_)
            generalize wr.drew = w33 at BK669 HB HR674_2 HR675_1 HR684_1 hx673_0 hx674_0 hx674_1 hx674_2 hx675_0 hx675_1 hx675_2 hx684_0 hx684_1 hx684_2 hHeld ⊢
            refine pure_ (i := 0) (N := some 26) (v := ?_) (a' := ?_) #[true, false, false, false, false, false, false, false, false, false, false, false, false, false, false, false, false, false, false, false, false, false, false, false, false, false, false, false, false, false, false, false, false] rfl rfl (any_of HT_.out (by kernel_rfl)) (fun _ _ _ h => h) (Or.inl ⟨by rfl, ?_⟩) ?_ ?_
            rotate_left
            · intro w'
              go_simp
              with_reducible rfl
            rotate_left
            · simp only [Act.put, qT, qU, qV, i64_w, i32_w]
              rfl
            refine pure_ (i := 1) (N := some 27) (v := ?_) (a' := ?_) #[true, true, false, false, false, false, false, false, false, false, false, false, false, false, false, false, false, false, false, false, false, false, false, false, false, false, false, false, false, false, false, false, false] rfl rfl (any_of HT_.out (by kernel_rfl)) (fun _ _ _ h => h) (Or.inl ⟨by rfl, ?_⟩) ?_ ?_
            rotate_left
            · intro w'
              go_simp
              with_reducible rfl
            rotate_left
            · simp only [Act.put, qT, qU, qV, i64_w, i32_w]
              rfl
            refine take_ (i := 2) (N := some 28) (v := ?_) (a' := ?_) #[true, true, true, false, false, false, false, false, false, false, false, false, false, false, false, false, false, false, false, false, false, false, false, false, false, false, false, false, false, false, false, false, false] rfl rfl (take_ofW HT_.out HW_.out (by kernel_rfl)) (fun _ _ _ h => h) (Or.inl ⟨by rfl, ?_⟩) hHeld ?_ ?_
            rotate_left
            · rintro w' ⟨s0, s1, s2, s3, s4, s5, s6, s7, s8, s9, s10, s11⟩
              go_simp
              with_reducible rfl
            rotate_left
            · simp only [Act.put, qT, qU, qV, i64_w, i32_w]
              rfl
            refine pure_ (i := 3) (N := some 29) (v := ?_) (a' := ?_) #[true, true, true, true, false, false, false, false, false, false, false, false, false, false, false, false, false, false, false, false, false, false, false, false, false, false, false, false, false, false, false, false, false] rfl rfl (any_of HT_.out (by kernel_rfl)) (fun _ _ _ h => h) (Or.inl ⟨by rfl, ?_⟩) ?_ ?_
            rotate_left
            · intro w'
              go_simp
              with_reducible rfl
            rotate_left
            · simp only [Act.put, qT, qU, qV, i64_w, i32_w]
              rfl
            refine pure_ (i := 4) (N := some 30) (v := ?_) (a' := ?_) #[true, true, true, true, true, false, false, false, false, false, false, false, false, false, false, false, false, false, false, false, false, false, false, false, false, false, false, false, false, false, false, false, false] rfl rfl (any_of HT_.out (by kernel_rfl)) (fun _ _ _ h => h) (Or.inl ⟨by rfl, ?_⟩) ?_ ?_
            rotate_left
            · intro w'
              go_simp
              with_reducible rfl
            rotate_left
            · simp only [Act.put, qT, qU, qV, i64_w, i32_w]
              rfl
            refine pure_ (i := 5) (N := some 31) (v := ?_) (a' := ?_) #[true, true, true, true, true, true, false, false, false, false, false, false, false, false, false, false, false, false, false, false, false, false, false, false, false, false, false, false, false, false, false, false, false] rfl rfl (any_of HT_.out (by kernel_rfl)) (fun _ _ _ h => h) (Or.inl ⟨by rfl, ?_⟩) ?_ ?_
            rotate_left
            · intro w'
              go_simp
              with_reducible rfl
            rotate_left
            · simp only [Act.put, qT, qU, qV, i64_w, i32_w]
              rfl
            refine pure_ (i := 6) (N := some 32) (v := ?_) (a' := ?_) #[true, true, true, true, true, true, true, false, false, false, false, false, false, false, false, false, false, false, false, false, false, false, false, false, false, false, false, false, false, false, false, false, false] rfl rfl (any_of HT_.out (by kernel_rfl)) (fun _ _ _ h => h) (Or.inl ⟨by rfl, ?_⟩) ?_ ?_
            rotate_left
            · intro w'
              go_simp
              with_reducible rfl
            rotate_left
            · simp only [Act.put, qT, qU, qV, i64_w, i32_w]
              rfl
            refine pure_ (i := 8) (N := some 34) (v := ?_) (a' := ?_) #[true, true, true, true, true, true, true, false, true, false, false, false, false, false, false, false, false, false, false, false, false, false, false, false, false, false, false, false, false, false, false, false, false] rfl rfl (any_of HT_.out (by kernel_rfl)) (fun _ _ _ h => h) (Or.inl ⟨by rfl, ?_⟩) ?_ ?_
            rotate_left
            · intro w'
              go_simp
              with_reducible rfl
            rotate_left
            · simp only [Act.put, qT, qU, qV, i64_w, i32_w]
              rfl
            refine take_ (i := 7) (N := some 33) (v := ?_) (a' := ?_) #[true, true, true, true, true, true, true, true, true, false, false, false, false, false, false, false, false, false, false, false, false, false, false, false, false, false, false, false, false, false, false, false, false] rfl rfl (take_ofW HT_.out HW_.out (by kernel_rfl)) (fun _ _ _ h => h) (Or.inl ⟨by rfl, ?_⟩) hHeld ?_ ?_
            rotate_left
            · rintro w' ⟨s0, s1, s2, s3, s4, s5, s6, s7, s8, s9, s10, s11⟩
              go_simp
              with_reducible rfl
            rotate_left
            · simp only [Act.put, qT, qU, qV, i64_w, i32_w]
              rfl
            refine pure_ (i := 9) (N := some 35) (v := ?_) (a' := ?_) #[true, true, true, true, true, true, true, true, true, true, false, false, false, false, false, false, false, false, false, false, false, false, false, false, false, false, false, false, false, false, false, false, false] rfl rfl (any_of HT_.out (by kernel_rfl)) (fun _ _ _ h => h) (Or.inl ⟨by rfl, ?_⟩) ?_ ?_
            rotate_left
            · intro w'
              go_simp
              with_reducible rfl
            rotate_left
            · simp only [Act.put, qT, qU, qV, i64_w, i32_w]
              rfl
            refine take_ (i := 10) (N := some 36) (v := ?_) (a' := ?_) #[true, true, true, true, true, true, true, true, true, true, true, false, false, false, false, false, false, false, false, false, false, false, false, false, false, false, false, false, false, false, false, false, false] rfl rfl (take_ofW HT_.out HW_.out (by kernel_rfl)) (fun _ _ _ h => h) (Or.inl ⟨by rfl, ?_⟩) hHeld ?_ ?_
            rotate_left
            · rintro w' ⟨s0, s1, s2, s3, s4, s5, s6, s7, s8, s9, s10, s11⟩
              go_simp
              with_reducible rfl
            rotate_left
            · simp only [Act.put, qT, qU, qV, i64_w, i32_w]
              rfl
            refine pure_ (i := 11) (N := some 37) (v := ?_) (a' := ?_) #[true, true, true, true, true, true, true, true, true, true, true, true, false, false, false, false, false, false, false, false, false, false, false, false, false, false, false, false, false, false, false, false, false] rfl rfl (any_of HT_.out (by kernel_rfl)) (fun _ _ _ h => h) (Or.inl ⟨by rfl, ?_⟩) ?_ ?_
            rotate_left
            · intro w'
              go_simp
              with_reducible rfl
            rotate_left
            · simp only [Act.put, qT, qU, qV, i64_w, i32_w]
              rfl
            refine pure_ (i := 12) (N := some 38) (v := ?_) (a' := ?_) #[true, true, true, true, true, true, true, true, true, true, true, true, true, false, false, false, false, false, false, false, false, false, false, false, false, false, false, false, false, false, false, false, false] rfl rfl (any_of HT_.out (by kernel_rfl)) (fun _ _ _ h => h) (Or.inl ⟨by rfl, ?_⟩) ?_ ?_
            rotate_left
            · intro w'
              go_simp
              with_reducible rfl
            rotate_left
            · simp only [Act.put, qT, qU, qV, i64_w, i32_w]
              rfl
            refine pure_ (i := 13) (N := some 39) (v := ?_) (a' := ?_) #[true, true, true, true, true, true, true, true, true, true, true, true, true, true, false, false, false, false, false, false, false, false, false, false, false, false, false, false, false, false, false, false, false] rfl rfl (any_of HT_.out (by kernel_rfl)) (fun _ _ _ h => h) (Or.inl ⟨by rfl, ?_⟩) ?_ ?_
            rotate_left
            · intro w'
              go_simp
              with_reducible rfl
            rotate_left
            · simp only [Act.put, qT, qU, qV, i64_w, i32_w]
              rfl
            refine pure_ (i := 14) (N := some 40) (v := ?_) (a' := ?_) #[true, true, true, true, true, true, true, true, true, true, true, true, true, true, true, false, false, false, false, false, false, false, false, false, false, false, false, false, false, false, false, false, false] rfl rfl (any_of HT_.out (by kernel_rfl)) (fun _ _ _ h => h) (Or.inl ⟨by rfl, ?_⟩) ?_ ?_
            rotate_left
            · intro w'
              go_simp
              with_reducible rfl
            rotate_left
            · simp only [Act.put, qT, qU, qV, i64_w, i32_w]
              rfl
            refine pure_ (i := 15) (N := some 41) (v := ?_) (a' := ?_) #[true, true, true, true, true, true, true, true, true, true, true, true, true, true, true, true, false, false, false, false, false, false, false, false, false, false, false, false, false, false, false, false, false] rfl rfl (any_of HT_.out (by kernel_rfl)) (fun _ _ _ h => h) (Or.inl ⟨by rfl, ?_⟩) ?_ ?_
            rotate_left
            · intro w'
              go_simp
              with_reducible rfl
            rotate_left
            · simp only [Act.put, qT, qU, qV, i64_w, i32_w]
              rfl
            refine pure_ (i := 17) (N := some 43) (v := ?_) (a' := ?_) #[true, true, true, true, true, true, true, true, true, true, true, true, true, true, true, true, false, true, false, false, false, false, false, false, false, false, false, false, false, false, false, false, false] rfl rfl (any_of HT_.out (by kernel_rfl)) (fun _ _ _ h => h) (Or.inl ⟨by rfl, ?_⟩) ?_ ?_
            rotate_left
            · intro w'
              go_simp
              with_reducible rfl
            rotate_left
            · simp only [Act.put, qT, qU, qV, i64_w, i32_w]
              rfl
            refine pure_ (i := 20) (N := some 46) (v := ?_) (a' := ?_) #[true, true, true, true, true, true, true, true, true, true, true, true, true, true, true, true, false, true, false, false, true, false, false, false, false, false, false, false, false, false, false, false, false] rfl rfl (any_of HT_.out (by kernel_rfl)) (fun _ _ _ h => h) (Or.inl ⟨by rfl, ?_⟩) ?_ ?_
            rotate_left
            · intro w'
              go_simp
              with_reducible rfl
            rotate_left
            · simp only [Act.put, qT, qU, qV, i64_w, i32_w]
              rfl
            refine pure_ (i := 21) (N := some 47) (v := ?_) (a' := ?_) #[true, true, true, true, true, true, true, true, true, true, true, true, true, true, true, true, false, true, false, false, true, true, false, false, false, false, false, false, false, false, false, false, false] rfl rfl (any_of HT_.out (by kernel_rfl)) (fun _ _ _ h => h) (Or.inl ⟨by rfl, ?_⟩) ?_ ?_
            rotate_left
            · intro w'
              go_simp
              with_reducible rfl
            rotate_left
            · simp only [Act.put, qT, qU, qV, i64_w, i32_w]
              rfl
            refine pure_ (i := 22) (N := some 48) (v := ?_) (a' := ?_) #[true, true, true, true, true, true, true, true, true, true, true, true, true, true, true, true, false, true, false, false, true, true, true, false, false, false, false, false, false, false, false, false, false] rfl rfl (any_of HT_.out (by kernel_rfl)) (fun _ _ _ h => h) (Or.inl ⟨by rfl, ?_⟩) ?_ ?_
            rotate_left
            · intro w'
              go_simp
              with_reducible rfl
            rotate_left
            · simp only [Act.put, qT, qU, qV, i64_w, i32_w]
              rfl
            refine pure_ (i := 26) (N := some 52) (v := ?_) (a' := ?_) #[true, true, true, true, true, true, true, true, true, true, true, true, true, true, true, true, false, true, false, false, true, true, true, false, false, false, true, false, false, false, false, false, false] rfl rfl (any_of HT_.out (by kernel_rfl)) (fun _ _ _ h => h) (Or.inl ⟨by rfl, ?_⟩) ?_ ?_
            rotate_left
            · intro w'
              go_simp
              with_reducible rfl
            rotate_left
            · simp only [Act.put, qT, qU, qV, i64_w, i32_w]
              rfl
            refine pure_ (i := 27) (N := some 53) (v := ?_) (a' := ?_) #[true, true, true, true, true, true, true, true, true, true, true, true, true, true, true, true, false, true, false, false, true, true, true, false, false, false, true, true, false, false, false, false, false] rfl rfl (any_of HT_.out (by kernel_rfl)) (fun _ _ _ h => h) (Or.inl ⟨by rfl, ?_⟩) ?_ ?_
            rotate_left
            · intro w'
              go_simp
              with_reducible rfl
            rotate_left
            · simp only [Act.put, qT, qU, qV, i64_w, i32_w]
              rfl
            refine pure_ (i := 28) (N := some 54) (v := ?_) (a' := ?_) #[true, true, true, true, true, true, true, true, true, true, true, true, true, true, true, true, false, true, false, false, true, true, true, false, false, false, true, true, true, false, false, false, false] rfl rfl (any_of HT_.out (by kernel_rfl)) (fun _ _ _ h => h) (Or.inl ⟨by rfl, ?_⟩) ?_ ?_
            rotate_left
            · intro w'
              go_simp
              with_reducible rfl
            rotate_left
            · simp only [Act.put, qT, qU, qV, i64_w, i32_w]
              rfl
            refine take_ (i := 16) (N := some 42) (v := ?_) (a' := ?_) #[true, true, true, true, true, true, true, true, true, true, true, true, true, true, true, true, true, true, false, false, true, true, true, false, false, false, true, true, true, false, false, false, false] rfl rfl (take_ofW HT_.out HW_.out (by kernel_rfl)) (fun _ _ _ h => h) (Or.inl ⟨by rfl, ?_⟩) hHeld ?_ ?_
            rotate_left
            · rintro w' ⟨s0, s1, s2, s3, s4, s5, s6, s7, s8, s9, s10, s11⟩
              go_simp
              with_reducible rfl
            rotate_left
            · simp only [Act.put, qT, qU, qV, i64_w, i32_w]
              rfl
            refine pure_ (i := 18) (N := some 44) (v := ?_) (a' := ?_) #[true, true, true, true, true, true, true, true, true, true, true, true, true, true, true, true, true, true, true, false, true, true, true, false, false, false, true, true, true, false, false, false, false] rfl rfl (any_of HT_.out (by kernel_rfl)) (fun _ _ _ h => h) (Or.inl ⟨by rfl, ?_⟩) ?_ ?_
            rotate_left
            · intro w'
              go_simp
              with_reducible rfl
            rotate_left
            · simp only [Act.put, qT, qU, qV, i64_w, i32_w]
              rfl
            refine take_ (i := 19) (N := some 45) (v := ?_) (a' := ?_) #[true, true, true, true, true, true, true, true, true, true, true, true, true, true, true, true, true, true, true, true, true, true, true, false, false, false, true, true, true, false, false, false, false] rfl rfl (take_ofW HT_.out HW_.out (by kernel_rfl)) (fun _ _ _ h => h) (Or.inl ⟨by rfl, ?_⟩) hHeld ?_ ?_
            rotate_left
            · rintro w' ⟨s0, s1, s2, s3, s4, s5, s6, s7, s8, s9, s10, s11⟩
              go_simp
              with_reducible rfl
            rotate_left
            · simp only [Act.put, qT, qU, qV, i64_w, i32_w]
              rfl
            refine take_ (i := 23) (N := some 49) (v := ?_) (a' := ?_) #[true, true, true, true, true, true, true, true, true, true, true, true, true, true, true, true, true, true, true, true, true, true, true, true, false, false, true, true, true, false, false, false, false] rfl rfl (take_ofW HT_.out HW_.out (by kernel_rfl)) (fun _ _ _ h => h) (Or.inl ⟨by rfl, ?_⟩) hHeld ?_ ?_
            rotate_left
            · rintro w' ⟨s0, s1, s2, s3, s4, s5, s6, s7, s8, s9, s10, s11⟩
              go_simp
              with_reducible rfl
            rotate_left
            · simp only [Act.put, qT, qU, qV, i64_w, i32_w]
              rfl
            refine take_ (i := 29) (N := some 55) (v := ?_) (a' := ?_) #[true, true, true, true, true, true, true, true, true, true, true, true, true, true, true, true, true, true, true, true, true, true, true, true, false, false, true, true, true, true, false, false, false] rfl rfl (take_ofW HT_.out HW_.out (by kernel_rfl)) (fun _ _ _ h => h) (Or.inl ⟨by rfl, ?_⟩) hHeld ?_ ?_
            rotate_left
            · rintro w' ⟨s0, s1, s2, s3, s4, s5, s6, s7, s8, s9, s10, s11⟩
              go_simp
              with_reducible rfl
            rotate_left
            · simp only [Act.put, qT, qU, qV, i64_w, i32_w]
              rfl
            refine one_ (i := 24) (N := some 50) #[true, true, true, true, true, true, true, true, true, true, true, true, true, true, true, true, true, true, true, true, true, true, true, true, true, false, true, true, true, true, false, false, false] rfl rfl (one_of HT_.out (by kernel_rfl)) (by decide) (fun K hK => ?_)
            refine goes_ Try.func98 (by kernel_rfl) rfl #[.agg #[.int .i64 ((rd_T87 l1 x5_2).f0), .slice A675_1 ((rd_T87 l1 x5_2).f1).length c675_1, .int .i64 ((rd_T87 l1 x5_2).f2)]] (by rfl) rfl rfl (by (try simp only [jC, jD, jE]); first | done | rfl | (simp only [jB, jA]; rfl)) ?_
            with_reducible refine (spec_l5Back.calls k2 ((rd_T87 l1 x5_2).f0) _ _ ((rd_T87 l1 x5_2).f1) ((rd_T87 l1 x5_2).f2) t676 _ ?side1 ?side2 A23.out).mono ?_
            (case side1 => repeat (first | exact (qB HR675_1.out HB.out) | (with_reducible refine qc ?_ _) | (with_reducible refine qe ?_ _) | (with_reducible refine qf ?_)))
            (case side2 => exact HC675_1.out)
            rintro e w34 ⟨v677, rfl, ho0, hb⟩
            refine ⟨_, rfl, ?_⟩
            have n0_ := qM (Kd.R_lower ho0 (qz (by repeat (first | (with_reducible first | exact HB.out | apply qA | apply qN | apply qD | refine qS ?_ GE669.out) | exact HB.out))))
            have n1_ := qM (blk_below (g := gb669) (o := .cells #[.slice (some ad673) l0_0.length c0_0, .slice (some ad674) l0_1.length c0_1] 56 (0, 0)) (by (with_reducible repeat (first | apply qn | apply qd | apply qa)); exact BK669.out) hb)
            have n2_ := qM (qs (by repeat (first | (with_reducible first | exact HB.out | apply qA | apply qN | apply qD | refine qS ?_ GE669.out) | exact HB.out)) hb)
            clear BK669
            clear HB
            have HO678 := n0_
            have BK669 := n1_
            have HB := n2_
            clear n0_ n1_ n2_
            (try clear hb)
            (try clear hb2)
            (try clear hk)
            (try clear hi)
            (try clear ho0)
            obtain ⟨Ao35, co35, eo35⟩ := Kd.R_slice HO678.out
            (first | subst eo35 | (injection eo35 with f1_ f2_ f3_; have f4_ := f1_.symm; have f5_ := f3_.symm; clear f1_ f2_ f3_; subst f4_; subst f5_))
            refine hK.out _ _ ⟨(qC BK669.out 0).trans rfl, (qC BK669.out 1).trans rfl, ((HB.out.cell (qL w _ hw673_0)).trans hw673_0), ((HB.out.cell (qL w _ hw674_0)).trans hw674_0), ((HB.out.cell (qL w _ hw674_1)).trans hw674_1), ((HB.out.cell (qL w _ hw674_2)).trans hw674_2), ((HB.out.cell (qL w _ hw675_0)).trans hw675_0), ((HB.out.cell (qL w _ hw675_1)).trans hw675_1), ((HB.out.cell (qL w _ hw675_2)).trans hw675_2), ((HB.out.cell (qL w _ hw684_0)).trans hw684_0), ((HB.out.cell (qL w _ hw684_1)).trans hw684_1), ((HB.out.cell (qL w _ hw684_2)).trans hw684_2)⟩ (fun hHeld => ?_)
            clear hK K
            refine norm_ (a' := ?_) ?_ ?_
            rotate_left
            · show Act.put _ (some 50) _ = _
              simp only [Act.put, qT, qU, qV, i64_w, i32_w]
              rfl
            refine one_ (i := 25) (N := some 51) #[true, true, true, true, true, true, true, true, true, true, true, true, true, true, true, true, true, true, true, true, true, true, true, true, true, true, true, true, true, true, false, false, false] rfl rfl (one_of HT_.out (by kernel_rfl)) (by decide) (fun K hK => ?_)
            refine goes_ Try.func97 (by kernel_rfl) rfl #[.int .i64 ((rd_T87 l1 x5_2).f0), .agg #[.int .i64 ((rd_T30 l0_1 ((rd_T87 l1 x5_2).f0)).f0), .int .i64 ((rd_T30 l0_1 ((rd_T87 l1 x5_2).f0)).f1), .slice A674_2 ((rd_T30 l0_1 ((rd_T87 l1 x5_2).f0)).f2).length c674_2], .slice Ao35 t676.length co35] (by rfl) rfl rfl (by (try simp only [jC, jD, jE]); first | done | rfl | (simp only [jB, jA]; rfl)) ?_
            with_reducible refine (spec_l5Of.calls k2 ((rd_T87 l1 x5_2).f0) ((rd_T30 l0_1 ((rd_T87 l1 x5_2).f0)).f0) ((rd_T30 l0_1 ((rd_T87 l1 x5_2).f0)).f1) _ _ ((rd_T30 l0_1 ((rd_T87 l1 x5_2).f0)).f2) _ _ t676 t679 t680 t683 _ ?side1 ?side2 ?side3 ?side4 A24.out).mono ?_
            (case side1 => repeat (first | exact (qB HR674_2.out HB.out) | (with_reducible refine qc ?_ _) | (with_reducible refine qe ?_ _) | (with_reducible refine qf ?_)))
            (case side2 => exact HC674_2.out)
            (case side3 => repeat (first | exact (Kd.R_reads' HO678.out).2.2 | (with_reducible refine qc ?_ _) | (with_reducible refine qe ?_ _) | (with_reducible refine qf ?_)))
            (case side4 => exact (Kd.R_reads' HO678.out).2.1)
            rintro e w36 ⟨v681, rfl, ho0, hb⟩
            refine ⟨_, rfl, ?_⟩
            have n0_ := qM (Kd.R_below (by (with_reducible repeat (first | apply Kd.R_alloc | apply Kd.R_drewN | apply Kd.R_drew)); exact HO678.out) hb)
            have n1_ := qM (Kd.R_lower ho0 (qz (by repeat (first | (with_reducible first | exact HB.out | apply qA | apply qN | apply qD | refine qS ?_ GE669.out) | exact HB.out))))
            have n2_ := qM (blk_below (g := gb669) (o := .cells #[.slice (some ad673) l0_0.length c0_0, .slice (some ad674) l0_1.length c0_1] 56 (0, 0)) (by (with_reducible repeat (first | apply qn | apply qd | apply qa)); exact BK669.out) hb)
            have n3_ := qM (qs (by repeat (first | (with_reducible first | exact HB.out | apply qA | apply qN | apply qD | refine qS ?_ GE669.out) | exact HB.out)) hb)
            clear HO678
            clear BK669
            clear HB
            have HO678 := n0_
            have HO682 := n1_
            have BK669 := n2_
            have HB := n3_
            clear n0_ n1_ n2_ n3_
            (try clear hb)
            (try clear hb2)
            (try clear hk)
            (try clear hi)
            (try clear ho0)
            obtain ⟨Ao37, co37, eo37⟩ := Kd.R_slice HO682.out
            (first | subst eo37 | (injection eo37 with f1_ f2_ f3_; have f4_ := f1_.symm; have f5_ := f3_.symm; clear f1_ f2_ f3_; subst f4_; subst f5_))
            refine hK.out _ _ ⟨(qC BK669.out 0).trans rfl, (qC BK669.out 1).trans rfl, ((HB.out.cell (qL w _ hw673_0)).trans hw673_0), ((HB.out.cell (qL w _ hw674_0)).trans hw674_0), ((HB.out.cell (qL w _ hw674_1)).trans hw674_1), ((HB.out.cell (qL w _ hw674_2)).trans hw674_2), ((HB.out.cell (qL w _ hw675_0)).trans hw675_0), ((HB.out.cell (qL w _ hw675_1)).trans hw675_1), ((HB.out.cell (qL w _ hw675_2)).trans hw675_2), ((HB.out.cell (qL w _ hw684_0)).trans hw684_0), ((HB.out.cell (qL w _ hw684_1)).trans hw684_1), ((HB.out.cell (qL w _ hw684_2)).trans hw684_2)⟩ (fun hHeld => ?_)
            clear hK K
            refine norm_ (a' := ?_) ?_ ?_
            rotate_left
            · show Act.put _ (some 51) _ = _
              simp only [Act.put, qT, qU, qV, i64_w, i32_w]
              rfl
            refine one_ (i := 30) (N := some 56) #[true, true, true, true, true, true, true, true, true, true, true, true, true, true, true, true, true, true, true, true, true, true, true, true, true, true, true, true, true, true, true, false, false] rfl rfl (one_of HT_.out (by kernel_rfl)) (by decide) (fun K hK => ?_)
            refine goes_ Try.func96 (by kernel_rfl) rfl #[.agg #[.int .i64 t679, .slice Ao37 t680.length co37, .int .i64 t683], .agg #[.int .i64 ((rd_T87 l1 x5_2).f0), .slice A675_1 ((rd_T87 l1 x5_2).f1).length c675_1, .int .i64 ((rd_T87 l1 x5_2).f2)]] (by rfl) rfl rfl (by (try simp only [jC, jD, jE]); first | done | rfl | (simp only [jB, jA]; rfl)) ?_
            with_reducible refine (spec_l5Same.calls k2 t679 _ _ t680 t683 ((rd_T87 l1 x5_2).f0) _ _ ((rd_T87 l1 x5_2).f1) ((rd_T87 l1 x5_2).f2) false _ ?side1 ?side2 ?side3 ?side4 A25.out).mono ?_
            (case side1 => repeat (first | exact (Kd.R_reads' HO682.out).2.2 | (with_reducible refine qc ?_ _) | (with_reducible refine qe ?_ _) | (with_reducible refine qf ?_)))
            (case side2 => exact (Kd.R_reads' HO682.out).2.1)
            (case side3 => repeat (first | exact (qB HR684_1.out HB.out) | (with_reducible refine qc ?_ _) | (with_reducible refine qe ?_ _) | (with_reducible refine qf ?_)))
            (case side4 => exact HC684_1.out)
            rintro e w38 ⟨rfl, hb⟩
            refine ⟨_, rfl, ?_⟩
            have n0_ := qM (Kd.R_below (by (with_reducible repeat (first | apply Kd.R_alloc | apply Kd.R_drewN | apply Kd.R_drew)); exact HO678.out) hb)
            have n1_ := qM (Kd.R_below (by (with_reducible repeat (first | apply Kd.R_alloc | apply Kd.R_drewN | apply Kd.R_drew)); exact HO682.out) hb)
            have n2_ := qM (blk_below (g := gb669) (o := .cells #[.slice (some ad673) l0_0.length c0_0, .slice (some ad674) l0_1.length c0_1] 56 (0, 0)) (by (with_reducible repeat (first | apply qn | apply qd | apply qa)); exact BK669.out) hb)
            have n3_ := qM (qs (by repeat (first | (with_reducible first | exact HB.out | apply qA | apply qN | apply qD | refine qS ?_ GE669.out) | exact HB.out)) hb)
            clear HO678
            clear HO682
            clear BK669
            clear HB
            have HO678 := n0_
            have HO682 := n1_
            have BK669 := n2_
            have HB := n3_
            clear n0_ n1_ n2_ n3_
            (try clear hb)
            (try clear hb2)
            (try clear hk)
            (try clear hi)
            refine hK.out _ _ ⟨(qC BK669.out 0).trans rfl, (qC BK669.out 1).trans rfl, ((HB.out.cell (qL w _ hw673_0)).trans hw673_0), ((HB.out.cell (qL w _ hw674_0)).trans hw674_0), ((HB.out.cell (qL w _ hw674_1)).trans hw674_1), ((HB.out.cell (qL w _ hw674_2)).trans hw674_2), ((HB.out.cell (qL w _ hw675_0)).trans hw675_0), ((HB.out.cell (qL w _ hw675_1)).trans hw675_1), ((HB.out.cell (qL w _ hw675_2)).trans hw675_2), ((HB.out.cell (qL w _ hw684_0)).trans hw684_0), ((HB.out.cell (qL w _ hw684_1)).trans hw684_1), ((HB.out.cell (qL w _ hw684_2)).trans hw684_2)⟩ (fun hHeld => ?_)
            clear hK K
            refine norm_ (a' := ?_) ?_ ?_
            rotate_left
            · show Act.put _ (some 56) _ = _
              simp only [Act.put, qT, qU, qV, i64_w, i32_w]
              rfl
            refine pure_ (i := 31) (N := some 57) (v := ?_) (a' := ?_) #[true, true, true, true, true, true, true, true, true, true, true, true, true, true, true, true, true, true, true, true, true, true, true, true, true, true, true, true, true, true, true, true, false] rfl rfl (any_of HT_.out (by kernel_rfl)) (fun _ _ _ h => h) (Or.inl ⟨by rfl, ?_⟩) ?_ ?_
            rotate_left
            · intro w'
              go_simp
              with_reducible rfl
            rotate_left
            · simp only [Act.put, qT, qU, qV, i64_w, i32_w]
              rfl
            refine pure_ (i := 32) (N := some 58) (v := ?_) (a' := ?_) #[true, true, true, true, true, true, true, true, true, true, true, true, true, true, true, true, true, true, true, true, true, true, true, true, true, true, true, true, true, true, true, true, true] rfl rfl (any_of HT_.out (by kernel_rfl)) (fun _ _ _ h => h) (Or.inl ⟨by rfl, ?_⟩) ?_ ?_
            rotate_left
            · intro w'
              go_simp
              with_reducible rfl
            rotate_left
            · simp only [Act.put, qT, qU, qV, i64_w, i32_w]
              rfl
            refine done_ (done_of HT_.out (by kernel_rfl)) ?_
            try go_wp2
            go_ret
            exact ⟨by first | rfl | (simp [errW_none, errW_some] <;> rfl) | (simp [*, errW_none, errW_some] <;> rfl), by repeat (first | (with_reducible first | exact HB.out | apply qA | apply qN | apply qD | refine qS ?_ GE669.out) | exact HB.out)⟩
          subst c26
          have H1 : (spec_TracesHonest.l0 k2 l1 (wrap64 (x5_2 + 1)) l0_0 l0_1) = some r := by rw [if_pos rfl] at H; exact H
          clear H
          have H := H1
          clear H1
          have H' := qM H
          clear H
          have p672 : 0 ≤ (x5_2 : Int) := qO (by first | (with_reducible assumption) | assumption)
          have q672 : x5_2 < (l1.length : Int) := qO (by first | (with_reducible assumption) | assumption)
          obtain ⟨ad672, A672_1, c672_1, e672, hx672_0, hx672_1, hx672_2, hl672_1, hi672_1⟩ := at_T87 HR1.out x5_2 p672 q672
          cases e672
          replace hx672_0 := (HB.out.cell (qL w _ hx672_0)).trans hx672_0
          replace hx672_1 := (HB.out.cell (qL w _ hx672_1)).trans hx672_1
          replace hx672_2 := (HB.out.cell (qL w _ hx672_2)).trans hx672_2
          have HR672_1 := qM hi672_1
          have HC672_1 := qM hl672_1
          clear hi672_1 hl672_1
          replace p672 := eq_true p672
          replace q672 := eq_true q672
          try go_wp2
          have n0_ := qM (qd BK669.out)
          have n1_ := qM (qD HB.out)
          clear BK669
          clear HB
          have BK669 := n0_
          have HB := n1_
          clear n0_ n1_
          have p673 : 0 ≤ (((rd_T87 l1 x5_2).f0) : Int) := qO (by first | (with_reducible assumption) | assumption)
          have q673 : ((rd_T87 l1 x5_2).f0) < (l0_0.length : Int) := qO (by first | (with_reducible assumption) | assumption)
          obtain ⟨ad673, e673, hx673_0⟩ := Kd.at_bool HR0_0.out ((rd_T87 l1 x5_2).f0) p673 q673
          have hw673_0 := hx673_0
          (try rw [← Nbq20.out] at hx673_0)
          (try rw [← Nbq20.out] at hw673_0)
          cases e673
          replace hx673_0 := (HB.out.cell (qL w _ hx673_0)).trans hx673_0
          replace p673 := eq_true p673
          replace q673 := eq_true q673
          have p674 : 0 ≤ (((rd_T87 l1 x5_2).f0) : Int) := qO (by first | (with_reducible assumption) | assumption)
          have q674 : ((rd_T87 l1 x5_2).f0) < (l0_1.length : Int) := qO (by first | (with_reducible assumption) | assumption)
          obtain ⟨ad674, A674_2, c674_2, e674, hx674_0, hx674_1, hx674_2, hl674_2, hi674_2⟩ := at_T30 HR0_1.out ((rd_T87 l1 x5_2).f0) p674 q674
          have hw674_2 := hx674_2
          have hw674_1 := hx674_1
          have hw674_0 := hx674_0
          cases e674
          replace hx674_0 := (HB.out.cell (qL w _ hx674_0)).trans hx674_0
          replace hx674_1 := (HB.out.cell (qL w _ hx674_1)).trans hx674_1
          replace hx674_2 := (HB.out.cell (qL w _ hx674_2)).trans hx674_2
          have HR674_2 := qM hi674_2
          have HC674_2 := qM hl674_2
          clear hi674_2 hl674_2
          replace p674 := eq_true p674
          replace q674 := eq_true q674
          have p675 : 0 ≤ (x5_2 : Int) := qO (by first | (with_reducible assumption) | assumption)
          have q675 : x5_2 < (l1.length : Int) := qO (by first | (with_reducible assumption) | assumption)
          obtain ⟨ad675, A675_1, c675_1, e675, hx675_0, hx675_1, hx675_2, hl675_1, hi675_1⟩ := at_T87 HR1.out x5_2 p675 q675
          have hw675_2 := hx675_2
          have hw675_1 := hx675_1
          have hw675_0 := hx675_0
          obtain rfl : ad672 = ad675 := (by injection e675)
          replace hx675_0 := (HB.out.cell (qL w _ hx675_0)).trans hx675_0
          replace hx675_1 := (HB.out.cell (qL w _ hx675_1)).trans hx675_1
          replace hx675_2 := (HB.out.cell (qL w _ hx675_2)).trans hx675_2
          have HR675_1 := qM hi675_1
          have HC675_1 := qM hl675_1
          clear hi675_1 hl675_1
          replace p675 := eq_true p675
          replace q675 := eq_true q675
          have p684 : 0 ≤ (x5_2 : Int) := qO (by first | (with_reducible assumption) | assumption)
          have q684 : x5_2 < (l1.length : Int) := qO (by first | (with_reducible assumption) | assumption)
          obtain ⟨ad684, A684_1, c684_1, e684, hx684_0, hx684_1, hx684_2, hl684_1, hi684_1⟩ := at_T87 HR1.out x5_2 p684 q684
          have hw684_2 := hx684_2
          have hw684_1 := hx684_1
          have hw684_0 := hx684_0
          obtain rfl : ad672 = ad684 := (by injection e684)
          replace hx684_0 := (HB.out.cell (qL w _ hx684_0)).trans hx684_0
          replace hx684_1 := (HB.out.cell (qL w _ hx684_1)).trans hx684_1
          replace hx684_2 := (HB.out.cell (qL w _ hx684_2)).trans hx684_2
          have HR684_1 := qM hi684_1
          have HC684_1 := qM hl684_1
          clear hi684_1 hl684_1
          replace p684 := eq_true p684
          replace q684 := eq_true q684
          have ea_ := jF (hx675_1.symm.trans hx684_1)
          injection ea_ with ea_ en_ ec_
          subst ea_
          subst ec_
          clear en_
          refine start_ (n := 33) (S := fun w' => w'.cell? ⟨gb669, 0, none⟩ = some (.slice (some ad673) l0_0.length c0_0) ∧ w'.cell? ⟨gb669, 1, none⟩ = some (.slice (some ad674) l0_1.length c0_1) ∧ w'.cell? (ad673.add (((rd_T87 l1 x5_2).f0)).toNat) = some (.bool true) ∧ w'.cell? (ad674.add ((((rd_T87 l1 x5_2).f0)).toNat * 3)) = some (.int .i64 ((rd_T30 l0_1 ((rd_T87 l1 x5_2).f0)).f0)) ∧ w'.cell? ⟨(ad674.add ((((rd_T87 l1 x5_2).f0)).toNat * 3)).block, (ad674.add ((((rd_T87 l1 x5_2).f0)).toNat * 3)).off + 1, none⟩ = some (.int .i64 ((rd_T30 l0_1 ((rd_T87 l1 x5_2).f0)).f1)) ∧ w'.cell? ⟨(ad674.add ((((rd_T87 l1 x5_2).f0)).toNat * 3)).block, (ad674.add ((((rd_T87 l1 x5_2).f0)).toNat * 3)).off + 2, none⟩ = some (.slice A674_2 ((rd_T30 l0_1 ((rd_T87 l1 x5_2).f0)).f2).length c674_2) ∧ w'.cell? (ad672.add ((x5_2).toNat * 3)) = some (.int .i64 ((rd_T87 l1 x5_2).f0)) ∧ w'.cell? ⟨(ad672.add ((x5_2).toNat * 3)).block, (ad672.add ((x5_2).toNat * 3)).off + 1, none⟩ = some (.slice A675_1 ((rd_T87 l1 x5_2).f1).length c675_1) ∧ w'.cell? ⟨(ad672.add ((x5_2).toNat * 3)).block, (ad672.add ((x5_2).toNat * 3)).off + 2, none⟩ = some (.int .i64 ((rd_T87 l1 x5_2).f2)) ∧ w'.cell? (ad672.add ((x5_2).toNat * 3)) = some (.int .i64 ((rd_T87 l1 x5_2).f0)) ∧ w'.cell? ⟨(ad672.add ((x5_2).toNat * 3)).block, (ad672.add ((x5_2).toNat * 3)).off + 1, none⟩ = some (.slice A675_1 ((rd_T87 l1 x5_2).f1).length c675_1) ∧ w'.cell? ⟨(ad672.add ((x5_2).toNat * 3)).block, (ad672.add ((x5_2).toNat * 3)).off + 2, none⟩ = some (.int .i64 ((rd_T87 l1 x5_2).f2))) (ds := []) #[false, false, false, false, false, false, false, false, false, false, false, false, false, false, false, false, false, false, false, false, false, false, false, false, false, false, false, false, false, false, false, false, false] (by kernel_rfl) rfl rfl ⟨(qC BK669.out 0).trans rfl, (qC BK669.out 1).trans rfl, ((HB.out.cell (qL w _ hw673_0)).trans hw673_0), ((HB.out.cell (qL w _ hw674_0)).trans hw674_0), ((HB.out.cell (qL w _ hw674_1)).trans hw674_1), ((HB.out.cell (qL w _ hw674_2)).trans hw674_2), ((HB.out.cell (qL w _ hw675_0)).trans hw675_0), ((HB.out.cell (qL w _ hw675_1)).trans hw675_1), ((HB.out.cell (qL w _ hw675_2)).trans hw675_2), ((HB.out.cell (qL w _ hw684_0)).trans hw684_0), ((HB.out.cell (qL w _ hw684_1)).trans hw684_1), ((HB.out.cell (qL w _ hw684_2)).trans hw684_2)⟩ (fun hHeld => ?_); refine with_tabW spec_TracesHonest.tab7 spec_TracesHonest.bits7 (fun HT_ HW_ => ?_)
          generalize wr.drew = w27 at BK669 HB HR674_2 HR675_1 HR684_1 hx673_0 hx674_0 hx674_1 hx674_2 hx675_0 hx675_1 hx675_2 hx684_0 hx684_1 hx684_2 hHeld ⊢
          refine pure_ (i := 0) (N := some 26) (v := ?_) (a' := ?_) #[true, false, false, false, false, false, false, false, false, false, false, false, false, false, false, false, false, false, false, false, false, false, false, false, false, false, false, false, false, false, false, false, false] rfl rfl (any_of HT_.out (by kernel_rfl)) (fun _ _ _ h => h) (Or.inl ⟨by rfl, ?_⟩) ?_ ?_
          rotate_left
          · intro w'
            go_simp
            with_reducible rfl
          rotate_left
          · simp only [Act.put, qT, qU, qV, i64_w, i32_w]
            rfl
          refine pure_ (i := 1) (N := some 27) (v := ?_) (a' := ?_) #[true, true, false, false, false, false, false, false, false, false, false, false, false, false, false, false, false, false, false, false, false, false, false, false, false, false, false, false, false, false, false, false, false] rfl rfl (any_of HT_.out (by kernel_rfl)) (fun _ _ _ h => h) (Or.inl ⟨by rfl, ?_⟩) ?_ ?_
          rotate_left
          · intro w'
            go_simp
            with_reducible rfl
          rotate_left
          · simp only [Act.put, qT, qU, qV, i64_w, i32_w]
            rfl
          refine take_ (i := 2) (N := some 28) (v := ?_) (a' := ?_) #[true, true, true, false, false, false, false, false, false, false, false, false, false, false, false, false, false, false, false, false, false, false, false, false, false, false, false, false, false, false, false, false, false] rfl rfl (take_ofW HT_.out HW_.out (by kernel_rfl)) (fun _ _ _ h => h) (Or.inl ⟨by rfl, ?_⟩) hHeld ?_ ?_
          rotate_left
          · rintro w' ⟨s0, s1, s2, s3, s4, s5, s6, s7, s8, s9, s10, s11⟩
            go_simp
            with_reducible rfl
          rotate_left
          · simp only [Act.put, qT, qU, qV, i64_w, i32_w]
            rfl
          refine pure_ (i := 3) (N := some 29) (v := ?_) (a' := ?_) #[true, true, true, true, false, false, false, false, false, false, false, false, false, false, false, false, false, false, false, false, false, false, false, false, false, false, false, false, false, false, false, false, false] rfl rfl (any_of HT_.out (by kernel_rfl)) (fun _ _ _ h => h) (Or.inl ⟨by rfl, ?_⟩) ?_ ?_
          rotate_left
          · intro w'
            go_simp
            with_reducible rfl
          rotate_left
          · simp only [Act.put, qT, qU, qV, i64_w, i32_w]
            rfl
          refine pure_ (i := 4) (N := some 30) (v := ?_) (a' := ?_) #[true, true, true, true, true, false, false, false, false, false, false, false, false, false, false, false, false, false, false, false, false, false, false, false, false, false, false, false, false, false, false, false, false] rfl rfl (any_of HT_.out (by kernel_rfl)) (fun _ _ _ h => h) (Or.inl ⟨by rfl, ?_⟩) ?_ ?_
          rotate_left
          · intro w'
            go_simp
            with_reducible rfl
          rotate_left
          · simp only [Act.put, qT, qU, qV, i64_w, i32_w]
            rfl
          refine pure_ (i := 5) (N := some 31) (v := ?_) (a' := ?_) #[true, true, true, true, true, true, false, false, false, false, false, false, false, false, false, false, false, false, false, false, false, false, false, false, false, false, false, false, false, false, false, false, false] rfl rfl (any_of HT_.out (by kernel_rfl)) (fun _ _ _ h => h) (Or.inl ⟨by rfl, ?_⟩) ?_ ?_
          rotate_left
          · intro w'
            go_simp
            with_reducible rfl
          rotate_left
          · simp only [Act.put, qT, qU, qV, i64_w, i32_w]
            rfl
          refine pure_ (i := 6) (N := some 32) (v := ?_) (a' := ?_) #[true, true, true, true, true, true, true, false, false, false, false, false, false, false, false, false, false, false, false, false, false, false, false, false, false, false, false, false, false, false, false, false, false] rfl rfl (any_of HT_.out (by kernel_rfl)) (fun _ _ _ h => h) (Or.inl ⟨by rfl, ?_⟩) ?_ ?_
          rotate_left
          · intro w'
            go_simp
            with_reducible rfl
          rotate_left
          · simp only [Act.put, qT, qU, qV, i64_w, i32_w]
            rfl
          refine pure_ (i := 8) (N := some 34) (v := ?_) (a' := ?_) #[true, true, true, true, true, true, true, false, true, false, false, false, false, false, false, false, false, false, false, false, false, false, false, false, false, false, false, false, false, false, false, false, false] rfl rfl (any_of HT_.out (by kernel_rfl)) (fun _ _ _ h => h) (Or.inl ⟨by rfl, ?_⟩) ?_ ?_
          rotate_left
          · intro w'
            go_simp
            with_reducible rfl
          rotate_left
          · simp only [Act.put, qT, qU, qV, i64_w, i32_w]
            rfl
          refine take_ (i := 7) (N := some 33) (v := ?_) (a' := ?_) #[true, true, true, true, true, true, true, true, true, false, false, false, false, false, false, false, false, false, false, false, false, false, false, false, false, false, false, false, false, false, false, false, false] rfl rfl (take_ofW HT_.out HW_.out (by kernel_rfl)) (fun _ _ _ h => h) (Or.inl ⟨by rfl, ?_⟩) hHeld ?_ ?_
          rotate_left
          · rintro w' ⟨s0, s1, s2, s3, s4, s5, s6, s7, s8, s9, s10, s11⟩
            go_simp
            with_reducible rfl
          rotate_left
          · simp only [Act.put, qT, qU, qV, i64_w, i32_w]
            rfl
          refine pure_ (i := 9) (N := some 35) (v := ?_) (a' := ?_) #[true, true, true, true, true, true, true, true, true, true, false, false, false, false, false, false, false, false, false, false, false, false, false, false, false, false, false, false, false, false, false, false, false] rfl rfl (any_of HT_.out (by kernel_rfl)) (fun _ _ _ h => h) (Or.inl ⟨by rfl, ?_⟩) ?_ ?_
          rotate_left
          · intro w'
            go_simp
            with_reducible rfl
          rotate_left
          · simp only [Act.put, qT, qU, qV, i64_w, i32_w]
            rfl
          refine take_ (i := 10) (N := some 36) (v := ?_) (a' := ?_) #[true, true, true, true, true, true, true, true, true, true, true, false, false, false, false, false, false, false, false, false, false, false, false, false, false, false, false, false, false, false, false, false, false] rfl rfl (take_ofW HT_.out HW_.out (by kernel_rfl)) (fun _ _ _ h => h) (Or.inl ⟨by rfl, ?_⟩) hHeld ?_ ?_
          rotate_left
          · rintro w' ⟨s0, s1, s2, s3, s4, s5, s6, s7, s8, s9, s10, s11⟩
            go_simp
            with_reducible rfl
          rotate_left
          · simp only [Act.put, qT, qU, qV, i64_w, i32_w]
            rfl
          refine pure_ (i := 11) (N := some 37) (v := ?_) (a' := ?_) #[true, true, true, true, true, true, true, true, true, true, true, true, false, false, false, false, false, false, false, false, false, false, false, false, false, false, false, false, false, false, false, false, false] rfl rfl (any_of HT_.out (by kernel_rfl)) (fun _ _ _ h => h) (Or.inl ⟨by rfl, ?_⟩) ?_ ?_
          rotate_left
          · intro w'
            go_simp
            with_reducible rfl
          rotate_left
          · simp only [Act.put, qT, qU, qV, i64_w, i32_w]
            rfl
          refine pure_ (i := 12) (N := some 38) (v := ?_) (a' := ?_) #[true, true, true, true, true, true, true, true, true, true, true, true, true, false, false, false, false, false, false, false, false, false, false, false, false, false, false, false, false, false, false, false, false] rfl rfl (any_of HT_.out (by kernel_rfl)) (fun _ _ _ h => h) (Or.inl ⟨by rfl, ?_⟩) ?_ ?_
          rotate_left
          · intro w'
            go_simp
            with_reducible rfl
          rotate_left
          · simp only [Act.put, qT, qU, qV, i64_w, i32_w]
            rfl
          refine pure_ (i := 13) (N := some 39) (v := ?_) (a' := ?_) #[true, true, true, true, true, true, true, true, true, true, true, true, true, true, false, false, false, false, false, false, false, false, false, false, false, false, false, false, false, false, false, false, false] rfl rfl (any_of HT_.out (by kernel_rfl)) (fun _ _ _ h => h) (Or.inl ⟨by rfl, ?_⟩) ?_ ?_
          rotate_left
          · intro w'
            go_simp
            with_reducible rfl
          rotate_left
          · simp only [Act.put, qT, qU, qV, i64_w, i32_w]
            rfl
          refine pure_ (i := 14) (N := some 40) (v := ?_) (a' := ?_) #[true, true, true, true, true, true, true, true, true, true, true, true, true, true, true, false, false, false, false, false, false, false, false, false, false, false, false, false, false, false, false, false, false] rfl rfl (any_of HT_.out (by kernel_rfl)) (fun _ _ _ h => h) (Or.inl ⟨by rfl, ?_⟩) ?_ ?_
          rotate_left
          · intro w'
            go_simp
            with_reducible rfl
          rotate_left
          · simp only [Act.put, qT, qU, qV, i64_w, i32_w]
            rfl
          refine pure_ (i := 15) (N := some 41) (v := ?_) (a' := ?_) #[true, true, true, true, true, true, true, true, true, true, true, true, true, true, true, true, false, false, false, false, false, false, false, false, false, false, false, false, false, false, false, false, false] rfl rfl (any_of HT_.out (by kernel_rfl)) (fun _ _ _ h => h) (Or.inl ⟨by rfl, ?_⟩) ?_ ?_
          rotate_left
          · intro w'
            go_simp
            with_reducible rfl
          rotate_left
          · simp only [Act.put, qT, qU, qV, i64_w, i32_w]
            rfl
          refine pure_ (i := 17) (N := some 43) (v := ?_) (a' := ?_) #[true, true, true, true, true, true, true, true, true, true, true, true, true, true, true, true, false, true, false, false, false, false, false, false, false, false, false, false, false, false, false, false, false] rfl rfl (any_of HT_.out (by kernel_rfl)) (fun _ _ _ h => h) (Or.inl ⟨by rfl, ?_⟩) ?_ ?_
          rotate_left
          · intro w'
            go_simp
            with_reducible rfl
          rotate_left
          · simp only [Act.put, qT, qU, qV, i64_w, i32_w]
            rfl
          refine pure_ (i := 20) (N := some 46) (v := ?_) (a' := ?_) #[true, true, true, true, true, true, true, true, true, true, true, true, true, true, true, true, false, true, false, false, true, false, false, false, false, false, false, false, false, false, false, false, false] rfl rfl (any_of HT_.out (by kernel_rfl)) (fun _ _ _ h => h) (Or.inl ⟨by rfl, ?_⟩) ?_ ?_
          rotate_left
          · intro w'
            go_simp
            with_reducible rfl
          rotate_left
          · simp only [Act.put, qT, qU, qV, i64_w, i32_w]
            rfl
          refine pure_ (i := 21) (N := some 47) (v := ?_) (a' := ?_) #[true, true, true, true, true, true, true, true, true, true, true, true, true, true, true, true, false, true, false, false, true, true, false, false, false, false, false, false, false, false, false, false, false] rfl rfl (any_of HT_.out (by kernel_rfl)) (fun _ _ _ h => h) (Or.inl ⟨by rfl, ?_⟩) ?_ ?_
          rotate_left
          · intro w'
            go_simp
            with_reducible rfl
          rotate_left
          · simp only [Act.put, qT, qU, qV, i64_w, i32_w]
            rfl
          refine pure_ (i := 22) (N := some 48) (v := ?_) (a' := ?_) #[true, true, true, true, true, true, true, true, true, true, true, true, true, true, true, true, false, true, false, false, true, true, true, false, false, false, false, false, false, false, false, false, false] rfl rfl (any_of HT_.out (by kernel_rfl)) (fun _ _ _ h => h) (Or.inl ⟨by rfl, ?_⟩) ?_ ?_
          rotate_left
          · intro w'
            go_simp
            with_reducible rfl
          rotate_left
          · simp only [Act.put, qT, qU, qV, i64_w, i32_w]
            rfl
          refine pure_ (i := 26) (N := some 52) (v := ?_) (a' := ?_) #[true, true, true, true, true, true, true, true, true, true, true, true, true, true, true, true, false, true, false, false, true, true, true, false, false, false, true, false, false, false, false, false, false] rfl rfl (any_of HT_.out (by kernel_rfl)) (fun _ _ _ h => h) (Or.inl ⟨by rfl, ?_⟩) ?_ ?_
          rotate_left
          · intro w'
            go_simp
            with_reducible rfl
          rotate_left
          · simp only [Act.put, qT, qU, qV, i64_w, i32_w]
            rfl
          refine pure_ (i := 27) (N := some 53) (v := ?_) (a' := ?_) #[true, true, true, true, true, true, true, true, true, true, true, true, true, true, true, true, false, true, false, false, true, true, true, false, false, false, true, true, false, false, false, false, false] rfl rfl (any_of HT_.out (by kernel_rfl)) (fun _ _ _ h => h) (Or.inl ⟨by rfl, ?_⟩) ?_ ?_
          rotate_left
          · intro w'
            go_simp
            with_reducible rfl
          rotate_left
          · simp only [Act.put, qT, qU, qV, i64_w, i32_w]
            rfl
          refine pure_ (i := 28) (N := some 54) (v := ?_) (a' := ?_) #[true, true, true, true, true, true, true, true, true, true, true, true, true, true, true, true, false, true, false, false, true, true, true, false, false, false, true, true, true, false, false, false, false] rfl rfl (any_of HT_.out (by kernel_rfl)) (fun _ _ _ h => h) (Or.inl ⟨by rfl, ?_⟩) ?_ ?_
          rotate_left
          · intro w'
            go_simp
            with_reducible rfl
          rotate_left
          · simp only [Act.put, qT, qU, qV, i64_w, i32_w]
            rfl
          refine take_ (i := 16) (N := some 42) (v := ?_) (a' := ?_) #[true, true, true, true, true, true, true, true, true, true, true, true, true, true, true, true, true, true, false, false, true, true, true, false, false, false, true, true, true, false, false, false, false] rfl rfl (take_ofW HT_.out HW_.out (by kernel_rfl)) (fun _ _ _ h => h) (Or.inl ⟨by rfl, ?_⟩) hHeld ?_ ?_
          rotate_left
          · rintro w' ⟨s0, s1, s2, s3, s4, s5, s6, s7, s8, s9, s10, s11⟩
            go_simp
            with_reducible rfl
          rotate_left
          · simp only [Act.put, qT, qU, qV, i64_w, i32_w]
            rfl
          refine pure_ (i := 18) (N := some 44) (v := ?_) (a' := ?_) #[true, true, true, true, true, true, true, true, true, true, true, true, true, true, true, true, true, true, true, false, true, true, true, false, false, false, true, true, true, false, false, false, false] rfl rfl (any_of HT_.out (by kernel_rfl)) (fun _ _ _ h => h) (Or.inl ⟨by rfl, ?_⟩) ?_ ?_
          rotate_left
          · intro w'
            go_simp
            with_reducible rfl
          rotate_left
          · simp only [Act.put, qT, qU, qV, i64_w, i32_w]
            rfl
          refine take_ (i := 19) (N := some 45) (v := ?_) (a' := ?_) #[true, true, true, true, true, true, true, true, true, true, true, true, true, true, true, true, true, true, true, true, true, true, true, false, false, false, true, true, true, false, false, false, false] rfl rfl (take_ofW HT_.out HW_.out (by kernel_rfl)) (fun _ _ _ h => h) (Or.inl ⟨by rfl, ?_⟩) hHeld ?_ ?_
          rotate_left
          · rintro w' ⟨s0, s1, s2, s3, s4, s5, s6, s7, s8, s9, s10, s11⟩
            go_simp
            with_reducible rfl
          rotate_left
          · simp only [Act.put, qT, qU, qV, i64_w, i32_w]
            rfl
          refine take_ (i := 23) (N := some 49) (v := ?_) (a' := ?_) #[true, true, true, true, true, true, true, true, true, true, true, true, true, true, true, true, true, true, true, true, true, true, true, true, false, false, true, true, true, false, false, false, false] rfl rfl (take_ofW HT_.out HW_.out (by kernel_rfl)) (fun _ _ _ h => h) (Or.inl ⟨by rfl, ?_⟩) hHeld ?_ ?_
          rotate_left
          · rintro w' ⟨s0, s1, s2, s3, s4, s5, s6, s7, s8, s9, s10, s11⟩
            go_simp
            with_reducible rfl
          rotate_left
          · simp only [Act.put, qT, qU, qV, i64_w, i32_w]
            rfl
          refine take_ (i := 29) (N := some 55) (v := ?_) (a' := ?_) #[true, true, true, true, true, true, true, true, true, true, true, true, true, true, true, true, true, true, true, true, true, true, true, true, false, false, true, true, true, true, false, false, false] rfl rfl (take_ofW HT_.out HW_.out (by kernel_rfl)) (fun _ _ _ h => h) (Or.inl ⟨by rfl, ?_⟩) hHeld ?_ ?_
          rotate_left
          · rintro w' ⟨s0, s1, s2, s3, s4, s5, s6, s7, s8, s9, s10, s11⟩
            go_simp
            with_reducible rfl
          rotate_left
          · simp only [Act.put, qT, qU, qV, i64_w, i32_w]
            rfl
          refine one_ (i := 24) (N := some 50) #[true, true, true, true, true, true, true, true, true, true, true, true, true, true, true, true, true, true, true, true, true, true, true, true, true, false, true, true, true, true, false, false, false] rfl rfl (one_of HT_.out (by kernel_rfl)) (by decide) (fun K hK => ?_)
          refine goes_ Try.func98 (by kernel_rfl) rfl #[.agg #[.int .i64 ((rd_T87 l1 x5_2).f0), .slice A675_1 ((rd_T87 l1 x5_2).f1).length c675_1, .int .i64 ((rd_T87 l1 x5_2).f2)]] (by rfl) rfl rfl (by (try simp only [jC, jD, jE]); first | done | rfl | (simp only [jB, jA]; rfl)) ?_
          with_reducible refine (spec_l5Back.calls k2 ((rd_T87 l1 x5_2).f0) _ _ ((rd_T87 l1 x5_2).f1) ((rd_T87 l1 x5_2).f2) t676 _ ?side1 ?side2 A23.out).mono ?_
          (case side1 => repeat (first | exact (qB HR675_1.out HB.out) | (with_reducible refine qc ?_ _) | (with_reducible refine qe ?_ _) | (with_reducible refine qf ?_)))
          (case side2 => exact HC675_1.out)
          rintro e w28 ⟨v677, rfl, ho0, hb⟩
          refine ⟨_, rfl, ?_⟩
          have n0_ := qM (Kd.R_lower ho0 (qz (by repeat (first | (with_reducible first | exact HB.out | apply qA | apply qN | apply qD | refine qS ?_ GE669.out) | exact HB.out))))
          have n1_ := qM (blk_below (g := gb669) (o := .cells #[.slice (some ad673) l0_0.length c0_0, .slice (some ad674) l0_1.length c0_1] 56 (0, 0)) (by (with_reducible repeat (first | apply qn | apply qd | apply qa)); exact BK669.out) hb)
          have n2_ := qM (qs (by repeat (first | (with_reducible first | exact HB.out | apply qA | apply qN | apply qD | refine qS ?_ GE669.out) | exact HB.out)) hb)
          clear BK669
          clear HB
          have HO678 := n0_
          have BK669 := n1_
          have HB := n2_
          clear n0_ n1_ n2_
          (try clear hb)
          (try clear hb2)
          (try clear hk)
          (try clear hi)
          (try clear ho0)
          obtain ⟨Ao29, co29, eo29⟩ := Kd.R_slice HO678.out
          (first | subst eo29 | (injection eo29 with f1_ f2_ f3_; have f4_ := f1_.symm; have f5_ := f3_.symm; clear f1_ f2_ f3_; subst f4_; subst f5_))
          refine hK.out _ _ ⟨(qC BK669.out 0).trans rfl, (qC BK669.out 1).trans rfl, ((HB.out.cell (qL w _ hw673_0)).trans hw673_0), ((HB.out.cell (qL w _ hw674_0)).trans hw674_0), ((HB.out.cell (qL w _ hw674_1)).trans hw674_1), ((HB.out.cell (qL w _ hw674_2)).trans hw674_2), ((HB.out.cell (qL w _ hw675_0)).trans hw675_0), ((HB.out.cell (qL w _ hw675_1)).trans hw675_1), ((HB.out.cell (qL w _ hw675_2)).trans hw675_2), ((HB.out.cell (qL w _ hw684_0)).trans hw684_0), ((HB.out.cell (qL w _ hw684_1)).trans hw684_1), ((HB.out.cell (qL w _ hw684_2)).trans hw684_2)⟩ (fun hHeld => ?_)
          clear hK K
          refine norm_ (a' := ?_) ?_ ?_
          rotate_left
          · show Act.put _ (some 50) _ = _
            simp only [Act.put, qT, qU, qV, i64_w, i32_w]
            rfl
          refine one_ (i := 25) (N := some 51) #[true, true, true, true, true, true, true, true, true, true, true, true, true, true, true, true, true, true, true, true, true, true, true, true, true, true, true, true, true, true, false, false, false] rfl rfl (one_of HT_.out (by kernel_rfl)) (by decide) (fun K hK => ?_)
          refine goes_ Try.func97 (by kernel_rfl) rfl #[.int .i64 ((rd_T87 l1 x5_2).f0), .agg #[.int .i64 ((rd_T30 l0_1 ((rd_T87 l1 x5_2).f0)).f0), .int .i64 ((rd_T30 l0_1 ((rd_T87 l1 x5_2).f0)).f1), .slice A674_2 ((rd_T30 l0_1 ((rd_T87 l1 x5_2).f0)).f2).length c674_2], .slice Ao29 t676.length co29] (by rfl) rfl rfl (by (try simp only [jC, jD, jE]); first | done | rfl | (simp only [jB, jA]; rfl)) ?_
          with_reducible refine (spec_l5Of.calls k2 ((rd_T87 l1 x5_2).f0) ((rd_T30 l0_1 ((rd_T87 l1 x5_2).f0)).f0) ((rd_T30 l0_1 ((rd_T87 l1 x5_2).f0)).f1) _ _ ((rd_T30 l0_1 ((rd_T87 l1 x5_2).f0)).f2) _ _ t676 t679 t680 t683 _ ?side1 ?side2 ?side3 ?side4 A24.out).mono ?_
          (case side1 => repeat (first | exact (qB HR674_2.out HB.out) | (with_reducible refine qc ?_ _) | (with_reducible refine qe ?_ _) | (with_reducible refine qf ?_)))
          (case side2 => exact HC674_2.out)
          (case side3 => repeat (first | exact (Kd.R_reads' HO678.out).2.2 | (with_reducible refine qc ?_ _) | (with_reducible refine qe ?_ _) | (with_reducible refine qf ?_)))
          (case side4 => exact (Kd.R_reads' HO678.out).2.1)
          rintro e w30 ⟨v681, rfl, ho0, hb⟩
          refine ⟨_, rfl, ?_⟩
          have n0_ := qM (Kd.R_below (by (with_reducible repeat (first | apply Kd.R_alloc | apply Kd.R_drewN | apply Kd.R_drew)); exact HO678.out) hb)
          have n1_ := qM (Kd.R_lower ho0 (qz (by repeat (first | (with_reducible first | exact HB.out | apply qA | apply qN | apply qD | refine qS ?_ GE669.out) | exact HB.out))))
          have n2_ := qM (blk_below (g := gb669) (o := .cells #[.slice (some ad673) l0_0.length c0_0, .slice (some ad674) l0_1.length c0_1] 56 (0, 0)) (by (with_reducible repeat (first | apply qn | apply qd | apply qa)); exact BK669.out) hb)
          have n3_ := qM (qs (by repeat (first | (with_reducible first | exact HB.out | apply qA | apply qN | apply qD | refine qS ?_ GE669.out) | exact HB.out)) hb)
          clear HO678
          clear BK669
          clear HB
          have HO678 := n0_
          have HO682 := n1_
          have BK669 := n2_
          have HB := n3_
          clear n0_ n1_ n2_ n3_
          (try clear hb)
          (try clear hb2)
          (try clear hk)
          (try clear hi)
          (try clear ho0)
          obtain ⟨Ao31, co31, eo31⟩ := Kd.R_slice HO682.out
          (first | subst eo31 | (injection eo31 with f1_ f2_ f3_; have f4_ := f1_.symm; have f5_ := f3_.symm; clear f1_ f2_ f3_; subst f4_; subst f5_))
          refine hK.out _ _ ⟨(qC BK669.out 0).trans rfl, (qC BK669.out 1).trans rfl, ((HB.out.cell (qL w _ hw673_0)).trans hw673_0), ((HB.out.cell (qL w _ hw674_0)).trans hw674_0), ((HB.out.cell (qL w _ hw674_1)).trans hw674_1), ((HB.out.cell (qL w _ hw674_2)).trans hw674_2), ((HB.out.cell (qL w _ hw675_0)).trans hw675_0), ((HB.out.cell (qL w _ hw675_1)).trans hw675_1), ((HB.out.cell (qL w _ hw675_2)).trans hw675_2), ((HB.out.cell (qL w _ hw684_0)).trans hw684_0), ((HB.out.cell (qL w _ hw684_1)).trans hw684_1), ((HB.out.cell (qL w _ hw684_2)).trans hw684_2)⟩ (fun hHeld => ?_)
          clear hK K
          refine norm_ (a' := ?_) ?_ ?_
          rotate_left
          · show Act.put _ (some 51) _ = _
            simp only [Act.put, qT, qU, qV, i64_w, i32_w]
            rfl
          refine one_ (i := 30) (N := some 56) #[true, true, true, true, true, true, true, true, true, true, true, true, true, true, true, true, true, true, true, true, true, true, true, true, true, true, true, true, true, true, true, false, false] rfl rfl (one_of HT_.out (by kernel_rfl)) (by decide) (fun K hK => ?_)
          refine goes_ Try.func96 (by kernel_rfl) rfl #[.agg #[.int .i64 t679, .slice Ao31 t680.length co31, .int .i64 t683], .agg #[.int .i64 ((rd_T87 l1 x5_2).f0), .slice A675_1 ((rd_T87 l1 x5_2).f1).length c675_1, .int .i64 ((rd_T87 l1 x5_2).f2)]] (by rfl) rfl rfl (by (try simp only [jC, jD, jE]); first | done | rfl | (simp only [jB, jA]; rfl)) ?_
          with_reducible refine (spec_l5Same.calls k2 t679 _ _ t680 t683 ((rd_T87 l1 x5_2).f0) _ _ ((rd_T87 l1 x5_2).f1) ((rd_T87 l1 x5_2).f2) true _ ?side1 ?side2 ?side3 ?side4 A25.out).mono ?_
          (case side1 => repeat (first | exact (Kd.R_reads' HO682.out).2.2 | (with_reducible refine qc ?_ _) | (with_reducible refine qe ?_ _) | (with_reducible refine qf ?_)))
          (case side2 => exact (Kd.R_reads' HO682.out).2.1)
          (case side3 => repeat (first | exact (qB HR684_1.out HB.out) | (with_reducible refine qc ?_ _) | (with_reducible refine qe ?_ _) | (with_reducible refine qf ?_)))
          (case side4 => exact HC684_1.out)
          rintro e w32 ⟨rfl, hb⟩
          refine ⟨_, rfl, ?_⟩
          have n0_ := qM (Kd.R_below (by (with_reducible repeat (first | apply Kd.R_alloc | apply Kd.R_drewN | apply Kd.R_drew)); exact HO678.out) hb)
          have n1_ := qM (Kd.R_below (by (with_reducible repeat (first | apply Kd.R_alloc | apply Kd.R_drewN | apply Kd.R_drew)); exact HO682.out) hb)
          have n2_ := qM (blk_below (g := gb669) (o := .cells #[.slice (some ad673) l0_0.length c0_0, .slice (some ad674) l0_1.length c0_1] 56 (0, 0)) (by (with_reducible repeat (first | apply qn | apply qd | apply qa)); exact BK669.out) hb)
          have n3_ := qM (qs (by repeat (first | (with_reducible first | exact HB.out | apply qA | apply qN | apply qD | refine qS ?_ GE669.out) | exact HB.out)) hb)
          clear HO678
          clear HO682
          clear BK669
          clear HB
          have HO678 := n0_
          have HO682 := n1_
          have BK669 := n2_
          have HB := n3_
          clear n0_ n1_ n2_ n3_
          (try clear hb)
          (try clear hb2)
          (try clear hk)
          (try clear hi)
          refine hK.out _ _ ⟨(qC BK669.out 0).trans rfl, (qC BK669.out 1).trans rfl, ((HB.out.cell (qL w _ hw673_0)).trans hw673_0), ((HB.out.cell (qL w _ hw674_0)).trans hw674_0), ((HB.out.cell (qL w _ hw674_1)).trans hw674_1), ((HB.out.cell (qL w _ hw674_2)).trans hw674_2), ((HB.out.cell (qL w _ hw675_0)).trans hw675_0), ((HB.out.cell (qL w _ hw675_1)).trans hw675_1), ((HB.out.cell (qL w _ hw675_2)).trans hw675_2), ((HB.out.cell (qL w _ hw684_0)).trans hw684_0), ((HB.out.cell (qL w _ hw684_1)).trans hw684_1), ((HB.out.cell (qL w _ hw684_2)).trans hw684_2)⟩ (fun hHeld => ?_)
          clear hK K
          refine norm_ (a' := ?_) ?_ ?_
          rotate_left
          · show Act.put _ (some 56) _ = _
            simp only [Act.put, qT, qU, qV, i64_w, i32_w]
            rfl
          refine pure_ (i := 31) (N := some 57) (v := ?_) (a' := ?_) #[true, true, true, true, true, true, true, true, true, true, true, true, true, true, true, true, true, true, true, true, true, true, true, true, true, true, true, true, true, true, true, true, false] rfl rfl (any_of HT_.out (by kernel_rfl)) (fun _ _ _ h => h) (Or.inl ⟨by rfl, ?_⟩) ?_ ?_
          rotate_left
          · intro w'
            go_simp
            with_reducible rfl
          rotate_left
          · simp only [Act.put, qT, qU, qV, i64_w, i32_w]
            rfl
          refine pure_ (i := 32) (N := some 58) (v := ?_) (a' := ?_) #[true, true, true, true, true, true, true, true, true, true, true, true, true, true, true, true, true, true, true, true, true, true, true, true, true, true, true, true, true, true, true, true, true] rfl rfl (any_of HT_.out (by kernel_rfl)) (fun _ _ _ h => h) (Or.inl ⟨by rfl, ?_⟩) ?_ ?_
          rotate_left
          · intro w'
            go_simp
            with_reducible rfl
          rotate_left
          · simp only [Act.put, qT, qU, qV, i64_w, i32_w]
            rfl
          refine done_ (done_of HT_.out (by kernel_rfl)) ?_
          try go_wp2
          go_roundg k2
          case measure => have := HJ2.out; have := HK2.out; omega
          case rel => exact ⟨(wrap64 (x5_2 + 1)), (by first | rfl | (simp; done) | (simp [*]; done)), H', ⟨by have := HJ2.out; have := HK2.out; omega⟩, ⟨by (with_reducible repeat (first | apply qn | apply qd | apply qa)); exact BK669.out⟩, ⟨by repeat (first | (with_reducible first | exact HB.out | apply qA | apply qN | apply qD | refine qS ?_ GE669.out) | exact HB.out)⟩⟩
end Go.Proofs.Ytgbjbpjmbghlbaa.G
end
section
namespace Go.Proofs.Ytgbjbpjmbghlbaa.G
open Go.RowKit Go.Proofs.YtgbjbpjmbghlbaaW.PrintWords Go.Proofs.YtgbjbpjmbghlbaaW.PrintLast Go.Proofs.YtgbjbpjmbghlbaaW.PrintMore
def impl_Trace_ok_1_any.f (l0 : List S117) : Option Bool := if (∀ x ∈ l0, (impl_Trace_ok_1.f x.f0 x.f1).isSome = true) then some (l0.any fun x => (impl_Trace_ok_1.f x.f0 x.f1).getD false) else none
theorem impl_Trace_ok_1_any.calls (A0 : Option Addr) (c0 : Nat) (l0 : List S117) (r : Bool) (w : World) (hr0 : Kd.C k117 w A0 l0.length l0) (hc0 : l0.length ≤ c0) (h : impl_Trace_ok_1_any.f l0 = some r) :
    Calls Try.prog 139 #[.slice A0 l0.length c0, .func (.func 157) #[] #[]] w fun e w' => e = .returned (.bool r) ∧ Below w.heap.size w w' := by
  unfold impl_Trace_ok_1_any.f at h
  split at h
  · rename_i hs
    obtain rfl := jF h
    refine containsFuncFetch 157 #[] _ A0 c0 l0 w hr0 (enters_fn Try.func157 (by kernel_rfl) rfl) (fun x hx cs W hb hK => ?_)
    obtain rfl := k117_open hK
    obtain ⟨b, hb⟩ := Option.isSome_iff_exists.1 (hs x hx)
    rw [hb]
    exact impl_Trace_ok_1.calls x.f0 x.f1 b W hb
  · cases h
end Go.Proofs.Ytgbjbpjmbghlbaa.G
end
section
namespace Go.Proofs.Ytgbjbpjmbghlbaa.G
open Go.RowKit Go.Proofs.YtgbjbpjmbghlbaaW.PrintWords Go.Proofs.YtgbjbpjmbghlbaaW.PrintLast Go.Proofs.YtgbjbpjmbghlbaaW.PrintMore
attribute [local go_sem] max2_int min2_int max_two min_two max_three min_three max_four min_four
def impl_Trace_ok.f (a0_0 : Int) (l0_1 : List (S117)) (a0_2 : Int) : Option (Bool) := (impl_isKey.f a0_0).bind fun t596 => (if t596 = true then ((impl_isValue.f a0_2).bind fun t597 => (if t597 = true then ((impl_once.f l0_1).bind fun t598 => (if (t598.length : Int) = (l0_1.length : Int) then ((impl_Trace_ok_1_any.f l0_1).bind fun t601 => (some (!t601))) else (some false))) else (some false))) else (some false))
def impl_Trace_ok.T1 : Bool × List (List Nat × List Nat) := (true, [([], []), ([0], [0]), ([1], [1]), ([2], [2]), ([3, 2], [3]), ([4], [4]), ([5, 4], [4, 5]), ([6, 4, 4], [4, 6]), ([7, 4], [4, 7]), ([4, 8], [4, 8]), ([9, 7], [9]), ([10], [10]), ([11, 10], [10, 11]), ([12, 10, 10], [10, 12]), ([13, 10], [10, 13]), ([10], [10]), ([15, 10], [10, 15]), ([16, 10], [10, 16]), ([14, 17, 10], [10, 14, 17]), ([10, 18], [10, 18])])
def impl_Trace_ok.B1 : List Nat := [0, 1, 3, 7, 15, 31, 63, 127, 255, 511, 1023, 2047, 4095, 8191, 16383, 2047, 34815, 100351, 262143, 524287]
theorem impl_Trace_ok.tab1 : rtab .any (opsOf Try.f112 1) = impl_Trace_ok.T1 := by kernel_rfl
theorem impl_Trace_ok.bits1 : waitsOk impl_Trace_ok.T1.2 impl_Trace_ok.B1 = true := by kernel_rfl
theorem impl_Trace_ok.calls (a0_0 : Int) (A0_1 : Option Addr) (c0_1 : Nat) (l0_1 : List (S117)) (a0_2 : Int) (r : Bool) (w : World) (hr0_1 : Kd.C k117 w A0_1 l0_1.length l0_1) (hc0_1 : l0_1.length ≤ c0_1) (h : impl_Trace_ok.f a0_0 l0_1 a0_2 = some r) :
    Calls Try.prog 112 #[.agg #[.int .i64 a0_0, .slice A0_1 l0_1.length c0_1, .int .i64 a0_2]] w fun e w' => e = .returned (.bool r) ∧ Below w.heap.size w w' := by
  have hu87 := Try.underlying87
  have HR0_1 := qM hr0_1
  have HC0_1 := qM hc0_1
  clear hr0_1 hc0_1
  have HB := qM (Below.refl w.heap.size w)
  have H : ((impl_isKey.f a0_0).bind fun t596 => (if t596 = true then ((impl_isValue.f a0_2).bind fun t597 => (if t597 = true then ((impl_once.f l0_1).bind fun t598 => (if (t598.length : Int) = (l0_1.length : Int) then ((impl_Trace_ok_1_any.f l0_1).bind fun t601 => (some (!t601))) else (some false))) else (some false))) else (some false))) = some r := h
  clear h
  replace H := jG H
  obtain ⟨t596, A20, H⟩ := H
  replace H : (if t596 = true then ((impl_isValue.f a0_2).bind fun t597 => (if t597 = true then ((impl_once.f l0_1).bind fun t598 => (if (t598.length : Int) = (l0_1.length : Int) then ((impl_Trace_ok_1_any.f l0_1).bind fun t601 => (some (!t601))) else (some false))) else (some false))) else (some false)) = some r := H
  have A2 := qM A20
  clear A20
  by_cases c3 : t596 = true
  rotate_left
  · replace c3 := Bool.eq_false_iff.mpr c3
    subst c3
    have H1 : (some false) = some r := by rw [if_neg (show ¬ (false = true) by decide)] at H; exact H
    clear H
    have H := H1
    clear H1
    obtain rfl := jF H
    go_enter Try.func112, Try.ntmps112
    try go_wp2_with (first | ((with_reducible refine gate_dst (N := 1) rfl ?_); (try (refine gate_guard (by rfl) ?_; dsimp only)); refine box_event ?hg (N := 1) ?hd (cs := #[.int .i64 a0_0, .slice A0_1 l0_1.length c0_1, .int .i64 a0_2]) (t := 87) ?hr ?_; (case hd => rfl); (case hg => rfl); (case hr => first | (go_simp; done) | (go_simp; rfl)); intro gb595 hg w21 hbox hb; have n0_ := qM (qs (by repeat (first | (with_reducible first | exact HB.out | apply qA | apply qN | apply qD) | exact HB.out)) hb); have n1_ := qM (hbox); have n2_ := qM ((by rw [hg]; exact (qz (by repeat (first | (with_reducible first | exact HB.out | apply qA | apply qN | apply qD) | exact HB.out))) : w.heap.size ≤ gb595)); have n3_ := qM ((by rw [hg]; exact (qz (by repeat (first | (with_reducible first | exact HB.out | apply qA | apply qN | apply qD) | exact HB.out))) : w.heap.size ≤ gb595)); clear HB; have HB := n0_; have BK595 := n1_; have GW595 := n2_; have GE595 := n3_; clear n0_ n1_ n2_ n3_; clear hb hbox hg))
    have n0_ := qM (qd BK595.out)
    have n1_ := qM (qD HB.out)
    clear BK595
    clear HB
    have BK595 := n0_
    have HB := n1_
    clear n0_ n1_
    refine start_ (n := 20) (S := fun w' => w'.cell? ⟨gb595, 0, none⟩ = some (.int .i64 a0_0) ∧ w'.cell? ⟨gb595, 1, none⟩ = some (.slice A0_1 l0_1.length c0_1) ∧ w'.cell? ⟨gb595, 2, none⟩ = some (.int .i64 a0_2)) (ds := []) #[false, false, false, false, false, false, false, false, false, false, false, false, false, false, false, false, false, false, false, false] (by kernel_rfl) rfl rfl ⟨(qC BK595.out 0).trans rfl, (qC BK595.out 1).trans rfl, (qC BK595.out 2).trans rfl⟩ (fun hHeld => ?_); refine with_tabW impl_Trace_ok.tab1 impl_Trace_ok.bits1 (fun HT_ HW_ => ?_)
    generalize w21.drew = w22 at BK595 HB hHeld ⊢
    refine pure_ (i := 0) (N := some 3) (v := ?_) (a' := ?_) #[true, false, false, false, false, false, false, false, false, false, false, false, false, false, false, false, false, false, false, false] rfl rfl (any_of HT_.out (by kernel_rfl)) (fun _ _ _ h => h) (Or.inl ⟨by rfl, ?_⟩) ?_ ?_
    rotate_left
    · intro w'
      go_simp
      with_reducible rfl
    rotate_left
    · simp only [Act.put, qT, qU, qV, i64_w, i32_w]
      rfl
    refine take_ (i := 1) (N := some 4) (v := ?_) (a' := ?_) #[true, true, false, false, false, false, false, false, false, false, false, false, false, false, false, false, false, false, false, false] rfl rfl (take_ofW HT_.out HW_.out (by kernel_rfl)) (fun _ _ _ h => h) (Or.inl ⟨by rfl, ?_⟩) hHeld ?_ ?_
    rotate_left
    · rintro w' ⟨s0, s1, s2⟩
      go_simp
      with_reducible rfl
    rotate_left
    · simp only [Act.put, qT, qU, qV, i64_w, i32_w]
      rfl
    refine one_ (i := 2) (N := some 5) #[true, true, true, false, false, false, false, false, false, false, false, false, false, false, false, false, false, false, false, false] rfl rfl (one_of HT_.out (by kernel_rfl)) (by decide) (fun K hK => ?_)
    refine goes_ Try.func106 (by kernel_rfl) rfl #[.int .i64 a0_0] (by rfl) rfl rfl (by (try simp only [jC, jD, jE]); first | done | rfl | (simp only [jB, jA]; rfl)) ?_
    with_reducible refine (impl_isKey.calls a0_0 false _ A2.out).mono ?_
    rintro e w' ⟨rfl, ⟨nd, rfl⟩⟩
    refine ⟨_, rfl, ?_⟩
    refine hK.out _ _ ⟨(qC BK595.out 0).trans rfl, (qC BK595.out 1).trans rfl, (qC BK595.out 2).trans rfl⟩ (fun hHeld => ?_)
    clear hK K
    refine norm_ (a' := ?_) ?_ ?_
    rotate_left
    · show Act.put _ (some 5) _ = _
      simp only [Act.put, qT, qU, qV, i64_w, i32_w]
      rfl
    refine pure_ (i := 3) (N := some 6) (v := ?_) (a' := ?_) #[true, true, true, true, false, false, false, false, false, false, false, false, false, false, false, false, false, false, false, false] rfl rfl (any_of HT_.out (by kernel_rfl)) (fun _ _ _ h => h) (Or.inl ⟨by rfl, ?_⟩) ?_ ?_
    rotate_left
    · intro w'
      go_simp
      with_reducible rfl
    rotate_left
    · simp only [Act.put, qT, qU, qV, i64_w, i32_w]
      rfl
    refine pure_ (i := 4) (N := some 7) (v := ?_) (a' := ?_) #[true, true, true, true, true, false, false, false, false, false, false, false, false, false, false, false, false, false, false, false] rfl rfl (any_of HT_.out (by kernel_rfl)) (fun _ _ _ h => h) (Or.inl ⟨by rfl, ?_⟩) ?_ ?_
    rotate_left
    · intro w'
      go_simp
      with_reducible rfl
    rotate_left
    · simp only [Act.put, qT, qU, qV, i64_w, i32_w]
      rfl
    refine pure_ (i := 5) (N := some 8) (v := undef) (a' := ?_) #[true, true, true, true, true, true, false, false, false, false, false, false, false, false, false, false, false, false, false, false] rfl rfl (any_of HT_.out (by kernel_rfl)) (fun _ _ _ h => h) (Or.inr ⟨by rfl, rfl⟩) ?_ ?_
    rotate_left
    · simp only [Act.put, qT, qU, qV, i64_w, i32_w]
      rfl
    refine pure_ (i := 6) (N := some 9) (v := undef) (a' := ?_) #[true, true, true, true, true, true, true, false, false, false, false, false, false, false, false, false, false, false, false, false] rfl rfl (any_of HT_.out (by kernel_rfl)) (fun _ _ _ h => h) (Or.inr ⟨by rfl, rfl⟩) ?_ ?_
    rotate_left
    · simp only [Act.put, qT, qU, qV, i64_w, i32_w]
      rfl
    refine pure_ (i := 7) (N := some 10) (v := undef) (a' := ?_) #[true, true, true, true, true, true, true, true, false, false, false, false, false, false, false, false, false, false, false, false] rfl rfl (any_of HT_.out (by kernel_rfl)) (fun _ _ _ h => h) (Or.inr ⟨by rfl, rfl⟩) ?_ ?_
    rotate_left
    · simp only [Act.put, qT, qU, qV, i64_w, i32_w]
      rfl
    refine pure_ (i := 8) (N := some 11) (v := undef) (a' := ?_) #[true, true, true, true, true, true, true, true, true, false, false, false, false, false, false, false, false, false, false, false] rfl rfl (any_of HT_.out (by kernel_rfl)) (fun _ _ _ h => h) (Or.inr ⟨by rfl, rfl⟩) ?_ ?_
    rotate_left
    · simp only [Act.put, qT, qU, qV, i64_w, i32_w]
      rfl
    refine pure_ (i := 9) (N := some 12) (v := ?_) (a' := ?_) #[true, true, true, true, true, true, true, true, true, true, false, false, false, false, false, false, false, false, false, false] rfl rfl (any_of HT_.out (by kernel_rfl)) (fun _ _ _ h => h) (Or.inl ⟨by rfl, ?_⟩) ?_ ?_
    rotate_left
    · intro w'
      go_simp
      with_reducible rfl
    rotate_left
    · simp only [Act.put, qT, qU, qV, i64_w, i32_w]
      rfl
    refine pure_ (i := 10) (N := some 13) (v := ?_) (a' := ?_) #[true, true, true, true, true, true, true, true, true, true, true, false, false, false, false, false, false, false, false, false] rfl rfl (any_of HT_.out (by kernel_rfl)) (fun _ _ _ h => h) (Or.inl ⟨by rfl, ?_⟩) ?_ ?_
    rotate_left
    · intro w'
      go_simp
      with_reducible rfl
    rotate_left
    · simp only [Act.put, qT, qU, qV, i64_w, i32_w]
      rfl
    refine pure_ (i := 11) (N := some 14) (v := undef) (a' := ?_) #[true, true, true, true, true, true, true, true, true, true, true, true, false, false, false, false, false, false, false, false] rfl rfl (any_of HT_.out (by kernel_rfl)) (fun _ _ _ h => h) (Or.inr ⟨by rfl, rfl⟩) ?_ ?_
    rotate_left
    · simp only [Act.put, qT, qU, qV, i64_w, i32_w]
      rfl
    refine pure_ (i := 12) (N := some 15) (v := undef) (a' := ?_) #[true, true, true, true, true, true, true, true, true, true, true, true, true, false, false, false, false, false, false, false] rfl rfl (any_of HT_.out (by kernel_rfl)) (fun _ _ _ h => h) (Or.inr ⟨by rfl, rfl⟩) ?_ ?_
    rotate_left
    · simp only [Act.put, qT, qU, qV, i64_w, i32_w]
      rfl
    refine pure_ (i := 13) (N := some 16) (v := undef) (a' := ?_) #[true, true, true, true, true, true, true, true, true, true, true, true, true, true, false, false, false, false, false, false] rfl rfl (any_of HT_.out (by kernel_rfl)) (fun _ _ _ h => h) (Or.inr ⟨by rfl, rfl⟩) ?_ ?_
    rotate_left
    · simp only [Act.put, qT, qU, qV, i64_w, i32_w]
      rfl
    refine pure_ (i := 14) (N := some 17) (v := undef) (a' := ?_) #[true, true, true, true, true, true, true, true, true, true, true, true, true, true, true, false, false, false, false, false] rfl rfl (any_of HT_.out (by kernel_rfl)) (fun _ _ _ h => h) (Or.inr ⟨by rfl, rfl⟩) ?_ ?_
    rotate_left
    · simp only [Act.put, qT, qU, qV, i64_w, i32_w]
      rfl
    refine pure_ (i := 15) (N := some 18) (v := undef) (a' := ?_) #[true, true, true, true, true, true, true, true, true, true, true, true, true, true, true, true, false, false, false, false] rfl rfl (any_of HT_.out (by kernel_rfl)) (fun _ _ _ h => h) (Or.inr ⟨by rfl, rfl⟩) ?_ ?_
    rotate_left
    · simp only [Act.put, qT, qU, qV, i64_w, i32_w]
      rfl
    refine pure_ (i := 16) (N := some 19) (v := undef) (a' := ?_) #[true, true, true, true, true, true, true, true, true, true, true, true, true, true, true, true, true, false, false, false] rfl rfl (any_of HT_.out (by kernel_rfl)) (fun _ _ _ h => h) (Or.inr ⟨by rfl, rfl⟩) ?_ ?_
    rotate_left
    · simp only [Act.put, qT, qU, qV, i64_w, i32_w]
      rfl
    refine pure_ (i := 17) (N := some 20) (v := undef) (a' := ?_) #[true, true, true, true, true, true, true, true, true, true, true, true, true, true, true, true, true, true, false, false] rfl rfl (any_of HT_.out (by kernel_rfl)) (fun _ _ _ h => h) (Or.inr ⟨by rfl, rfl⟩) ?_ ?_
    rotate_left
    · simp only [Act.put, qT, qU, qV, i64_w, i32_w]
      rfl
    refine pure_ (i := 18) (N := some 21) (v := undef) (a' := ?_) #[true, true, true, true, true, true, true, true, true, true, true, true, true, true, true, true, true, true, true, false] rfl rfl (any_of HT_.out (by kernel_rfl)) (fun _ _ _ h => h) (Or.inr ⟨by rfl, rfl⟩) ?_ ?_
    rotate_left
    · simp only [Act.put, qT, qU, qV, i64_w, i32_w]
      rfl
    refine pure_ (i := 19) (N := some 22) (v := ?_) (a' := ?_) #[true, true, true, true, true, true, true, true, true, true, true, true, true, true, true, true, true, true, true, true] rfl rfl (any_of HT_.out (by kernel_rfl)) (fun _ _ _ h => h) (Or.inl ⟨by rfl, ?_⟩) ?_ ?_
    rotate_left
    · intro w'
      go_simp
      with_reducible rfl
    rotate_left
    · simp only [Act.put, qT, qU, qV, i64_w, i32_w]
      rfl
    refine done_ (done_of HT_.out (by kernel_rfl)) ?_
    try go_wp2
    go_ret
    exact ⟨by first | rfl | (simp [errW_none, errW_some] <;> rfl) | (simp [*, errW_none, errW_some] <;> rfl), by repeat (first | (with_reducible first | exact HB.out | apply qA | apply qN | apply qD | refine qS ?_ GE595.out) | exact HB.out)⟩
  subst c3
  have H1 : ((impl_isValue.f a0_2).bind fun t597 => (if t597 = true then ((impl_once.f l0_1).bind fun t598 => (if (t598.length : Int) = (l0_1.length : Int) then ((impl_Trace_ok_1_any.f l0_1).bind fun t601 => (some (!t601))) else (some false))) else (some false))) = some r := by rw [if_pos rfl] at H; exact H
  clear H
  have H := H1
  clear H1
  replace H := jG H
  obtain ⟨t597, A40, H⟩ := H
  replace H : (if t597 = true then ((impl_once.f l0_1).bind fun t598 => (if (t598.length : Int) = (l0_1.length : Int) then ((impl_Trace_ok_1_any.f l0_1).bind fun t601 => (some (!t601))) else (some false))) else (some false)) = some r := H
  have A4 := qM A40
  clear A40
  by_cases c5 : t597 = true
  rotate_left
  · replace c5 := Bool.eq_false_iff.mpr c5
    subst c5
    have H1 : (some false) = some r := by rw [if_neg (show ¬ (false = true) by decide)] at H; exact H
    clear H
    have H := H1
    clear H1
    obtain rfl := jF H
    go_enter Try.func112, Try.ntmps112
    try go_wp2_with (first | ((with_reducible refine gate_dst (N := 1) rfl ?_); (try (refine gate_guard (by rfl) ?_; dsimp only)); refine box_event ?hg (N := 1) ?hd (cs := #[.int .i64 a0_0, .slice A0_1 l0_1.length c0_1, .int .i64 a0_2]) (t := 87) ?hr ?_; (case hd => rfl); (case hg => rfl); (case hr => first | (go_simp; done) | (go_simp; rfl)); intro gb595 hg w19 hbox hb; have n0_ := qM (qs (by repeat (first | (with_reducible first | exact HB.out | apply qA | apply qN | apply qD) | exact HB.out)) hb); have n1_ := qM (hbox); have n2_ := qM ((by rw [hg]; exact (qz (by repeat (first | (with_reducible first | exact HB.out | apply qA | apply qN | apply qD) | exact HB.out))) : w.heap.size ≤ gb595)); have n3_ := qM ((by rw [hg]; exact (qz (by repeat (first | (with_reducible first | exact HB.out | apply qA | apply qN | apply qD) | exact HB.out))) : w.heap.size ≤ gb595)); clear HB; have HB := n0_; have BK595 := n1_; have GW595 := n2_; have GE595 := n3_; clear n0_ n1_ n2_ n3_; clear hb hbox hg))
    have n0_ := qM (qd BK595.out)
    have n1_ := qM (qD HB.out)
    clear BK595
    clear HB
    have BK595 := n0_
    have HB := n1_
    clear n0_ n1_
    refine start_ (n := 20) (S := fun w' => w'.cell? ⟨gb595, 0, none⟩ = some (.int .i64 a0_0) ∧ w'.cell? ⟨gb595, 1, none⟩ = some (.slice A0_1 l0_1.length c0_1) ∧ w'.cell? ⟨gb595, 2, none⟩ = some (.int .i64 a0_2)) (ds := []) #[false, false, false, false, false, false, false, false, false, false, false, false, false, false, false, false, false, false, false, false] (by kernel_rfl) rfl rfl ⟨(qC BK595.out 0).trans rfl, (qC BK595.out 1).trans rfl, (qC BK595.out 2).trans rfl⟩ (fun hHeld => ?_); refine with_tabW impl_Trace_ok.tab1 impl_Trace_ok.bits1 (fun HT_ HW_ => ?_)
    generalize w19.drew = w20 at BK595 HB hHeld ⊢
    refine pure_ (i := 0) (N := some 3) (v := ?_) (a' := ?_) #[true, false, false, false, false, false, false, false, false, false, false, false, false, false, false, false, false, false, false, false] rfl rfl (any_of HT_.out (by kernel_rfl)) (fun _ _ _ h => h) (Or.inl ⟨by rfl, ?_⟩) ?_ ?_
    rotate_left
    · intro w'
      go_simp
      with_reducible rfl
    rotate_left
    · simp only [Act.put, qT, qU, qV, i64_w, i32_w]
      rfl
    refine take_ (i := 1) (N := some 4) (v := ?_) (a' := ?_) #[true, true, false, false, false, false, false, false, false, false, false, false, false, false, false, false, false, false, false, false] rfl rfl (take_ofW HT_.out HW_.out (by kernel_rfl)) (fun _ _ _ h => h) (Or.inl ⟨by rfl, ?_⟩) hHeld ?_ ?_
    rotate_left
    · rintro w' ⟨s0, s1, s2⟩
      go_simp
      with_reducible rfl
    rotate_left
    · simp only [Act.put, qT, qU, qV, i64_w, i32_w]
      rfl
    refine one_ (i := 2) (N := some 5) #[true, true, true, false, false, false, false, false, false, false, false, false, false, false, false, false, false, false, false, false] rfl rfl (one_of HT_.out (by kernel_rfl)) (by decide) (fun K hK => ?_)
    refine goes_ Try.func106 (by kernel_rfl) rfl #[.int .i64 a0_0] (by rfl) rfl rfl (by (try simp only [jC, jD, jE]); first | done | rfl | (simp only [jB, jA]; rfl)) ?_
    with_reducible refine (impl_isKey.calls a0_0 true _ A2.out).mono ?_
    rintro e w' ⟨rfl, ⟨nd, rfl⟩⟩
    refine ⟨_, rfl, ?_⟩
    refine hK.out _ _ ⟨(qC BK595.out 0).trans rfl, (qC BK595.out 1).trans rfl, (qC BK595.out 2).trans rfl⟩ (fun hHeld => ?_)
    clear hK K
    refine norm_ (a' := ?_) ?_ ?_
    rotate_left
    · show Act.put _ (some 5) _ = _
      simp only [Act.put, qT, qU, qV, i64_w, i32_w]
      rfl
    refine pure_ (i := 3) (N := some 6) (v := ?_) (a' := ?_) #[true, true, true, true, false, false, false, false, false, false, false, false, false, false, false, false, false, false, false, false] rfl rfl (any_of HT_.out (by kernel_rfl)) (fun _ _ _ h => h) (Or.inl ⟨by rfl, ?_⟩) ?_ ?_
    rotate_left
    · intro w'
      go_simp
      with_reducible rfl
    rotate_left
    · simp only [Act.put, qT, qU, qV, i64_w, i32_w]
      rfl
    refine pure_ (i := 4) (N := some 7) (v := ?_) (a' := ?_) #[true, true, true, true, true, false, false, false, false, false, false, false, false, false, false, false, false, false, false, false] rfl rfl (any_of HT_.out (by kernel_rfl)) (fun _ _ _ h => h) (Or.inl ⟨by rfl, ?_⟩) ?_ ?_
    rotate_left
    · intro w'
      go_simp
      with_reducible rfl
    rotate_left
    · simp only [Act.put, qT, qU, qV, i64_w, i32_w]
      rfl
    refine pure_ (i := 5) (N := some 8) (v := ?_) (a' := ?_) #[true, true, true, true, true, true, false, false, false, false, false, false, false, false, false, false, false, false, false, false] rfl rfl (any_of HT_.out (by kernel_rfl)) (fun _ _ _ h => h) (Or.inl ⟨by rfl, ?_⟩) ?_ ?_
    rotate_left
    · intro w'
      go_simp
      with_reducible rfl
    rotate_left
    · simp only [Act.put, qT, qU, qV, i64_w, i32_w]
      rfl
    refine take_ (i := 6) (N := some 9) (v := ?_) (a' := ?_) #[true, true, true, true, true, true, true, false, false, false, false, false, false, false, false, false, false, false, false, false] rfl rfl (take_ofW HT_.out HW_.out (by kernel_rfl)) (fun _ _ _ h => h) (Or.inl ⟨by rfl, ?_⟩) hHeld ?_ ?_
    rotate_left
    · rintro w' ⟨s0, s1, s2⟩
      go_simp
      with_reducible rfl
    rotate_left
    · simp only [Act.put, qT, qU, qV, i64_w, i32_w]
      rfl
    refine one_ (i := 7) (N := some 10) #[true, true, true, true, true, true, true, true, false, false, false, false, false, false, false, false, false, false, false, false] rfl rfl (one_of HT_.out (by kernel_rfl)) (by decide) (fun K hK => ?_)
    refine goes_ Try.func145 (by kernel_rfl) rfl #[.int .i64 a0_2] (by rfl) rfl rfl (by (try simp only [jC, jD, jE]); first | done | rfl | (simp only [jB, jA]; rfl)) ?_
    with_reducible refine (impl_isValue.calls a0_2 false _ A4.out).mono ?_
    rintro e w' ⟨rfl, ⟨nd, rfl⟩⟩
    refine ⟨_, rfl, ?_⟩
    refine hK.out _ _ ⟨(qC BK595.out 0).trans rfl, (qC BK595.out 1).trans rfl, (qC BK595.out 2).trans rfl⟩ (fun hHeld => ?_)
    clear hK K
    refine norm_ (a' := ?_) ?_ ?_
    rotate_left
    · show Act.put _ (some 10) _ = _
      simp only [Act.put, qT, qU, qV, i64_w, i32_w]
      rfl
    refine pure_ (i := 8) (N := some 11) (v := ?_) (a' := ?_) #[true, true, true, true, true, true, true, true, true, false, false, false, false, false, false, false, false, false, false, false] rfl rfl (any_of HT_.out (by kernel_rfl)) (fun _ _ _ h => h) (Or.inl ⟨by rfl, ?_⟩) ?_ ?_
    rotate_left
    · intro w'
      go_simp
      with_reducible rfl
    rotate_left
    · simp only [Act.put, qT, qU, qV, i64_w, i32_w]
      rfl
    refine pure_ (i := 9) (N := some 12) (v := ?_) (a' := ?_) #[true, true, true, true, true, true, true, true, true, true, false, false, false, false, false, false, false, false, false, false] rfl rfl (any_of HT_.out (by kernel_rfl)) (fun _ _ _ h => h) (Or.inl ⟨by rfl, ?_⟩) ?_ ?_
    rotate_left
    · intro w'
      go_simp
      with_reducible rfl
    rotate_left
    · simp only [Act.put, qT, qU, qV, i64_w, i32_w]
      rfl
    refine pure_ (i := 10) (N := some 13) (v := ?_) (a' := ?_) #[true, true, true, true, true, true, true, true, true, true, true, false, false, false, false, false, false, false, false, false] rfl rfl (any_of HT_.out (by kernel_rfl)) (fun _ _ _ h => h) (Or.inl ⟨by rfl, ?_⟩) ?_ ?_
    rotate_left
    · intro w'
      go_simp
      with_reducible rfl
    rotate_left
    · simp only [Act.put, qT, qU, qV, i64_w, i32_w]
      rfl
    refine pure_ (i := 11) (N := some 14) (v := undef) (a' := ?_) #[true, true, true, true, true, true, true, true, true, true, true, true, false, false, false, false, false, false, false, false] rfl rfl (any_of HT_.out (by kernel_rfl)) (fun _ _ _ h => h) (Or.inr ⟨by rfl, rfl⟩) ?_ ?_
    rotate_left
    · simp only [Act.put, qT, qU, qV, i64_w, i32_w]
      rfl
    refine pure_ (i := 12) (N := some 15) (v := undef) (a' := ?_) #[true, true, true, true, true, true, true, true, true, true, true, true, true, false, false, false, false, false, false, false] rfl rfl (any_of HT_.out (by kernel_rfl)) (fun _ _ _ h => h) (Or.inr ⟨by rfl, rfl⟩) ?_ ?_
    rotate_left
    · simp only [Act.put, qT, qU, qV, i64_w, i32_w]
      rfl
    refine pure_ (i := 13) (N := some 16) (v := undef) (a' := ?_) #[true, true, true, true, true, true, true, true, true, true, true, true, true, true, false, false, false, false, false, false] rfl rfl (any_of HT_.out (by kernel_rfl)) (fun _ _ _ h => h) (Or.inr ⟨by rfl, rfl⟩) ?_ ?_
    rotate_left
    · simp only [Act.put, qT, qU, qV, i64_w, i32_w]
      rfl
    refine pure_ (i := 14) (N := some 17) (v := undef) (a' := ?_) #[true, true, true, true, true, true, true, true, true, true, true, true, true, true, true, false, false, false, false, false] rfl rfl (any_of HT_.out (by kernel_rfl)) (fun _ _ _ h => h) (Or.inr ⟨by rfl, rfl⟩) ?_ ?_
    rotate_left
    · simp only [Act.put, qT, qU, qV, i64_w, i32_w]
      rfl
    refine pure_ (i := 15) (N := some 18) (v := undef) (a' := ?_) #[true, true, true, true, true, true, true, true, true, true, true, true, true, true, true, true, false, false, false, false] rfl rfl (any_of HT_.out (by kernel_rfl)) (fun _ _ _ h => h) (Or.inr ⟨by rfl, rfl⟩) ?_ ?_
    rotate_left
    · simp only [Act.put, qT, qU, qV, i64_w, i32_w]
      rfl
    refine pure_ (i := 16) (N := some 19) (v := undef) (a' := ?_) #[true, true, true, true, true, true, true, true, true, true, true, true, true, true, true, true, true, false, false, false] rfl rfl (any_of HT_.out (by kernel_rfl)) (fun _ _ _ h => h) (Or.inr ⟨by rfl, rfl⟩) ?_ ?_
    rotate_left
    · simp only [Act.put, qT, qU, qV, i64_w, i32_w]
      rfl
    refine pure_ (i := 17) (N := some 20) (v := undef) (a' := ?_) #[true, true, true, true, true, true, true, true, true, true, true, true, true, true, true, true, true, true, false, false] rfl rfl (any_of HT_.out (by kernel_rfl)) (fun _ _ _ h => h) (Or.inr ⟨by rfl, rfl⟩) ?_ ?_
    rotate_left
    · simp only [Act.put, qT, qU, qV, i64_w, i32_w]
      rfl
    refine pure_ (i := 18) (N := some 21) (v := undef) (a' := ?_) #[true, true, true, true, true, true, true, true, true, true, true, true, true, true, true, true, true, true, true, false] rfl rfl (any_of HT_.out (by kernel_rfl)) (fun _ _ _ h => h) (Or.inr ⟨by rfl, rfl⟩) ?_ ?_
    rotate_left
    · simp only [Act.put, qT, qU, qV, i64_w, i32_w]
      rfl
    refine pure_ (i := 19) (N := some 22) (v := ?_) (a' := ?_) #[true, true, true, true, true, true, true, true, true, true, true, true, true, true, true, true, true, true, true, true] rfl rfl (any_of HT_.out (by kernel_rfl)) (fun _ _ _ h => h) (Or.inl ⟨by rfl, ?_⟩) ?_ ?_
    rotate_left
    · intro w'
      go_simp
      with_reducible rfl
    rotate_left
    · simp only [Act.put, qT, qU, qV, i64_w, i32_w]
      rfl
    refine done_ (done_of HT_.out (by kernel_rfl)) ?_
    try go_wp2
    go_ret
    exact ⟨by first | rfl | (simp [errW_none, errW_some] <;> rfl) | (simp [*, errW_none, errW_some] <;> rfl), by repeat (first | (with_reducible first | exact HB.out | apply qA | apply qN | apply qD | refine qS ?_ GE595.out) | exact HB.out)⟩
  subst c5
  have H1 : ((impl_once.f l0_1).bind fun t598 => (if (t598.length : Int) = (l0_1.length : Int) then ((impl_Trace_ok_1_any.f l0_1).bind fun t601 => (some (!t601))) else (some false))) = some r := by rw [if_pos rfl] at H; exact H
  clear H
  have H := H1
  clear H1
  replace H := jG H
  obtain ⟨t598, A60, H⟩ := H
  replace H : (if (t598.length : Int) = (l0_1.length : Int) then ((impl_Trace_ok_1_any.f l0_1).bind fun t601 => (some (!t601))) else (some false)) = some r := H
  have A6 := qM A60
  clear A60
  by_cases c7 : (t598.length : Int) = (l0_1.length : Int)
  rotate_left
  · rw [if_neg c7] at H
    have c7b0 : ((t598.length : Int) == (l0_1.length : Int)) = false := beq_eq_false_iff_ne.mpr c7
    have c7b1 : ((t598.length : Int) != (l0_1.length : Int)) = true := bne_iff_ne.mpr c7
    have c7b2 : (t598.length == l0_1.length) = false := by first | simpa using c7 | (simp at c7 ⊢; omega)
    obtain rfl := jF H
    go_enter Try.func112, Try.ntmps112
    try go_wp2_with (first | ((with_reducible refine gate_dst (N := 1) rfl ?_); (try (refine gate_guard (by rfl) ?_; dsimp only)); refine box_event ?hg (N := 1) ?hd (cs := #[.int .i64 a0_0, .slice A0_1 l0_1.length c0_1, .int .i64 a0_2]) (t := 87) ?hr ?_; (case hd => rfl); (case hg => rfl); (case hr => first | (go_simp; done) | (go_simp; rfl)); intro gb595 hg w15 hbox hb; have n0_ := qM (qs (by repeat (first | (with_reducible first | exact HB.out | apply qA | apply qN | apply qD) | exact HB.out)) hb); have n1_ := qM (hbox); have n2_ := qM ((by rw [hg]; exact (qz (by repeat (first | (with_reducible first | exact HB.out | apply qA | apply qN | apply qD) | exact HB.out))) : w.heap.size ≤ gb595)); have n3_ := qM ((by rw [hg]; exact (qz (by repeat (first | (with_reducible first | exact HB.out | apply qA | apply qN | apply qD) | exact HB.out))) : w.heap.size ≤ gb595)); clear HB; have HB := n0_; have BK595 := n1_; have GW595 := n2_; have GE595 := n3_; clear n0_ n1_ n2_ n3_; clear hb hbox hg))
    have n0_ := qM (qd BK595.out)
    have n1_ := qM (qD HB.out)
    clear BK595
    clear HB
    have BK595 := n0_
    have HB := n1_
    clear n0_ n1_
    refine start_ (n := 20) (S := fun w' => w'.cell? ⟨gb595, 0, none⟩ = some (.int .i64 a0_0) ∧ w'.cell? ⟨gb595, 1, none⟩ = some (.slice A0_1 l0_1.length c0_1) ∧ w'.cell? ⟨gb595, 2, none⟩ = some (.int .i64 a0_2)) (ds := []) #[false, false, false, false, false, false, false, false, false, false, false, false, false, false, false, false, false, false, false, false] (by kernel_rfl) rfl rfl ⟨(qC BK595.out 0).trans rfl, (qC BK595.out 1).trans rfl, (qC BK595.out 2).trans rfl⟩ (fun hHeld => ?_); refine with_tabW impl_Trace_ok.tab1 impl_Trace_ok.bits1 (fun HT_ HW_ => ?_)
    generalize w15.drew = w16 at BK595 HB hHeld ⊢
    refine pure_ (i := 0) (N := some 3) (v := ?_) (a' := ?_) #[true, false, false, false, false, false, false, false, false, false, false, false, false, false, false, false, false, false, false, false] rfl rfl (any_of HT_.out (by kernel_rfl)) (fun _ _ _ h => h) (Or.inl ⟨by rfl, ?_⟩) ?_ ?_
    rotate_left
    · intro w'
      go_simp
      with_reducible rfl
    rotate_left
    · simp only [Act.put, qT, qU, qV, i64_w, i32_w]
      rfl
    refine take_ (i := 1) (N := some 4) (v := ?_) (a' := ?_) #[true, true, false, false, false, false, false, false, false, false, false, false, false, false, false, false, false, false, false, false] rfl rfl (take_ofW HT_.out HW_.out (by kernel_rfl)) (fun _ _ _ h => h) (Or.inl ⟨by rfl, ?_⟩) hHeld ?_ ?_
    rotate_left
    · rintro w' ⟨s0, s1, s2⟩
      go_simp
      with_reducible rfl
    rotate_left
    · simp only [Act.put, qT, qU, qV, i64_w, i32_w]
      rfl
    refine one_ (i := 2) (N := some 5) #[true, true, true, false, false, false, false, false, false, false, false, false, false, false, false, false, false, false, false, false] rfl rfl (one_of HT_.out (by kernel_rfl)) (by decide) (fun K hK => ?_)
    refine goes_ Try.func106 (by kernel_rfl) rfl #[.int .i64 a0_0] (by rfl) rfl rfl (by (try simp only [jC, jD, jE]); first | done | rfl | (simp only [jB, jA]; rfl)) ?_
    with_reducible refine (impl_isKey.calls a0_0 true _ A2.out).mono ?_
    rintro e w' ⟨rfl, ⟨nd, rfl⟩⟩
    refine ⟨_, rfl, ?_⟩
    refine hK.out _ _ ⟨(qC BK595.out 0).trans rfl, (qC BK595.out 1).trans rfl, (qC BK595.out 2).trans rfl⟩ (fun hHeld => ?_)
    clear hK K
    refine norm_ (a' := ?_) ?_ ?_
    rotate_left
    · show Act.put _ (some 5) _ = _
      simp only [Act.put, qT, qU, qV, i64_w, i32_w]
      rfl
    refine pure_ (i := 3) (N := some 6) (v := ?_) (a' := ?_) #[true, true, true, true, false, false, false, false, false, false, false, false, false, false, false, false, false, false, false, false] rfl rfl (any_of HT_.out (by kernel_rfl)) (fun _ _ _ h => h) (Or.inl ⟨by rfl, ?_⟩) ?_ ?_
    rotate_left
    · intro w'
      go_simp
      with_reducible rfl
    rotate_left
    · simp only [Act.put, qT, qU, qV, i64_w, i32_w]
      rfl
    refine pure_ (i := 4) (N := some 7) (v := ?_) (a' := ?_) #[true, true, true, true, true, false, false, false, false, false, false, false, false, false, false, false, false, false, false, false] rfl rfl (any_of HT_.out (by kernel_rfl)) (fun _ _ _ h => h) (Or.inl ⟨by rfl, ?_⟩) ?_ ?_
    rotate_left
    · intro w'
      go_simp
      with_reducible rfl
    rotate_left
    · simp only [Act.put, qT, qU, qV, i64_w, i32_w]
      rfl
    refine pure_ (i := 5) (N := some 8) (v := ?_) (a' := ?_) #[true, true, true, true, true, true, false, false, false, false, false, false, false, false, false, false, false, false, false, false] rfl rfl (any_of HT_.out (by kernel_rfl)) (fun _ _ _ h => h) (Or.inl ⟨by rfl, ?_⟩) ?_ ?_
    rotate_left
    · intro w'
      go_simp
      with_reducible rfl
    rotate_left
    · simp only [Act.put, qT, qU, qV, i64_w, i32_w]
      rfl
    refine take_ (i := 6) (N := some 9) (v := ?_) (a' := ?_) #[true, true, true, true, true, true, true, false, false, false, false, false, false, false, false, false, false, false, false, false] rfl rfl (take_ofW HT_.out HW_.out (by kernel_rfl)) (fun _ _ _ h => h) (Or.inl ⟨by rfl, ?_⟩) hHeld ?_ ?_
    rotate_left
    · rintro w' ⟨s0, s1, s2⟩
      go_simp
      with_reducible rfl
    rotate_left
    · simp only [Act.put, qT, qU, qV, i64_w, i32_w]
      rfl
    refine one_ (i := 7) (N := some 10) #[true, true, true, true, true, true, true, true, false, false, false, false, false, false, false, false, false, false, false, false] rfl rfl (one_of HT_.out (by kernel_rfl)) (by decide) (fun K hK => ?_)
    refine goes_ Try.func145 (by kernel_rfl) rfl #[.int .i64 a0_2] (by rfl) rfl rfl (by (try simp only [jC, jD, jE]); first | done | rfl | (simp only [jB, jA]; rfl)) ?_
    with_reducible refine (impl_isValue.calls a0_2 true _ A4.out).mono ?_
    rintro e w' ⟨rfl, ⟨nd, rfl⟩⟩
    refine ⟨_, rfl, ?_⟩
    refine hK.out _ _ ⟨(qC BK595.out 0).trans rfl, (qC BK595.out 1).trans rfl, (qC BK595.out 2).trans rfl⟩ (fun hHeld => ?_)
    clear hK K
    refine norm_ (a' := ?_) ?_ ?_
    rotate_left
    · show Act.put _ (some 10) _ = _
      simp only [Act.put, qT, qU, qV, i64_w, i32_w]
      rfl
    refine pure_ (i := 8) (N := some 11) (v := ?_) (a' := ?_) #[true, true, true, true, true, true, true, true, true, false, false, false, false, false, false, false, false, false, false, false] rfl rfl (any_of HT_.out (by kernel_rfl)) (fun _ _ _ h => h) (Or.inl ⟨by rfl, ?_⟩) ?_ ?_
    rotate_left
    · intro w'
      go_simp
      with_reducible rfl
    rotate_left
    · simp only [Act.put, qT, qU, qV, i64_w, i32_w]
      rfl
    refine pure_ (i := 9) (N := some 12) (v := ?_) (a' := ?_) #[true, true, true, true, true, true, true, true, true, true, false, false, false, false, false, false, false, false, false, false] rfl rfl (any_of HT_.out (by kernel_rfl)) (fun _ _ _ h => h) (Or.inl ⟨by rfl, ?_⟩) ?_ ?_
    rotate_left
    · intro w'
      go_simp
      with_reducible rfl
    rotate_left
    · simp only [Act.put, qT, qU, qV, i64_w, i32_w]
      rfl
    refine pure_ (i := 10) (N := some 13) (v := ?_) (a' := ?_) #[true, true, true, true, true, true, true, true, true, true, true, false, false, false, false, false, false, false, false, false] rfl rfl (any_of HT_.out (by kernel_rfl)) (fun _ _ _ h => h) (Or.inl ⟨by rfl, ?_⟩) ?_ ?_
    rotate_left
    · intro w'
      go_simp
      with_reducible rfl
    rotate_left
    · simp only [Act.put, qT, qU, qV, i64_w, i32_w]
      rfl
    refine pure_ (i := 11) (N := some 14) (v := ?_) (a' := ?_) #[true, true, true, true, true, true, true, true, true, true, true, true, false, false, false, false, false, false, false, false] rfl rfl (any_of HT_.out (by kernel_rfl)) (fun _ _ _ h => h) (Or.inl ⟨by rfl, ?_⟩) ?_ ?_
    rotate_left
    · intro w'
      go_simp
      with_reducible rfl
    rotate_left
    · simp only [Act.put, qT, qU, qV, i64_w, i32_w]
      rfl
    refine pure_ (i := 15) (N := some 18) (v := ?_) (a' := ?_) #[true, true, true, true, true, true, true, true, true, true, true, true, false, false, false, true, false, false, false, false] rfl rfl (any_of HT_.out (by kernel_rfl)) (fun _ _ _ h => h) (Or.inl ⟨by rfl, ?_⟩) ?_ ?_
    rotate_left
    · intro w'
      go_simp
      with_reducible rfl
    rotate_left
    · simp only [Act.put, qT, qU, qV, i64_w, i32_w]
      rfl
    refine take_ (i := 12) (N := some 15) (v := ?_) (a' := ?_) #[true, true, true, true, true, true, true, true, true, true, true, true, true, false, false, true, false, false, false, false] rfl rfl (take_ofW HT_.out HW_.out (by kernel_rfl)) (fun _ _ _ h => h) (Or.inl ⟨by rfl, ?_⟩) hHeld ?_ ?_
    rotate_left
    · rintro w' ⟨s0, s1, s2⟩
      go_simp
      with_reducible rfl
    rotate_left
    · simp only [Act.put, qT, qU, qV, i64_w, i32_w]
      rfl
    refine take_ (i := 16) (N := some 19) (v := ?_) (a' := ?_) #[true, true, true, true, true, true, true, true, true, true, true, true, true, false, false, true, true, false, false, false] rfl rfl (take_ofW HT_.out HW_.out (by kernel_rfl)) (fun _ _ _ h => h) (Or.inl ⟨by rfl, ?_⟩) hHeld ?_ ?_
    rotate_left
    · rintro w' ⟨s0, s1, s2⟩
      go_simp
      with_reducible rfl
    rotate_left
    · simp only [Act.put, qT, qU, qV, i64_w, i32_w]
      rfl
    refine pure_ (i := 17) (N := some 20) (v := ?_) (a' := ?_) #[true, true, true, true, true, true, true, true, true, true, true, true, true, false, false, true, true, true, false, false] rfl rfl (any_of HT_.out (by kernel_rfl)) (fun _ _ _ h => h) (Or.inl ⟨by rfl, ?_⟩) ?_ ?_
    rotate_left
    · intro w'
      go_simp
      with_reducible rfl
    rotate_left
    · simp only [Act.put, qT, qU, qV, i64_w, i32_w]
      rfl
    refine one_ (i := 13) (N := some 16) #[true, true, true, true, true, true, true, true, true, true, true, true, true, true, false, true, true, true, false, false] rfl rfl (one_of HT_.out (by kernel_rfl)) (by decide) (fun K hK => ?_)
    refine goes_ Try.func80 (by kernel_rfl) rfl #[.slice A0_1 l0_1.length c0_1] (by rfl) rfl rfl (by (try simp only [jC, jD, jE]); first | done | rfl | (simp only [jB, jA]; rfl)) ?_
    with_reducible refine (impl_once.calls _ _ l0_1 t598 _ ?side1 ?side2 A6.out).mono ?_
    (case side1 => repeat (first | exact (qB HR0_1.out (by repeat (first | (with_reducible first | exact HB.out | apply qA | apply qN | apply qD | refine qS ?_ GE595.out) | exact HB.out))) | (with_reducible refine qc ?_ _) | (with_reducible refine qe ?_ _) | (with_reducible refine qf ?_)))
    (case side2 => exact HC0_1.out)
    rintro e w17 ⟨v599, rfl, ho0, hb⟩
    refine ⟨_, rfl, ?_⟩
    have n0_ := qM (Kd.R_lower ho0 (qz (by repeat (first | (with_reducible first | exact HB.out | apply qA | apply qN | apply qD | refine qS ?_ GE595.out) | exact HB.out))))
    have n1_ := qM (blk_below (g := gb595) (o := .cells #[.int .i64 a0_0, .slice A0_1 l0_1.length c0_1, .int .i64 a0_2] 87 (0, 0)) (by (with_reducible repeat (first | apply qn | apply qd | apply qa)); exact BK595.out) hb)
    have n2_ := qM (qs (by repeat (first | (with_reducible first | exact HB.out | apply qA | apply qN | apply qD | refine qS ?_ GE595.out) | exact HB.out)) hb)
    clear BK595
    clear HB
    have HO600 := n0_
    have BK595 := n1_
    have HB := n2_
    clear n0_ n1_ n2_
    (try clear hb)
    (try clear hb2)
    (try clear hk)
    (try clear hi)
    (try clear ho0)
    obtain ⟨Ao18, co18, eo18⟩ := Kd.R_slice HO600.out
    (first | subst eo18 | (injection eo18 with f1_ f2_ f3_; have f4_ := f1_.symm; have f5_ := f3_.symm; clear f1_ f2_ f3_; subst f4_; subst f5_))
    refine hK.out _ _ ⟨(qC BK595.out 0).trans rfl, (qC BK595.out 1).trans rfl, (qC BK595.out 2).trans rfl⟩ (fun hHeld => ?_)
    clear hK K
    refine norm_ (a' := ?_) ?_ ?_
    rotate_left
    · show Act.put _ (some 16) _ = _
      simp only [Act.put, qT, qU, qV, i64_w, i32_w]
      rfl
    refine pure_ (i := 14) (N := some 17) (v := ?_) (a' := ?_) #[true, true, true, true, true, true, true, true, true, true, true, true, true, true, true, true, true, true, false, false] rfl rfl (any_of HT_.out (by kernel_rfl)) (fun _ _ _ h => h) (Or.inl ⟨by rfl, ?_⟩) ?_ ?_
    rotate_left
    · intro w'
      go_simp
      with_reducible rfl
    rotate_left
    · simp only [Act.put, qT, qU, qV, i64_w, i32_w]
      rfl
    refine pure_ (i := 18) (N := some 21) (v := ?_) (a' := ?_) #[true, true, true, true, true, true, true, true, true, true, true, true, true, true, true, true, true, true, true, false] rfl rfl (any_of HT_.out (by kernel_rfl)) (fun _ _ _ h => h) (Or.inl ⟨by rfl, ?_⟩) ?_ ?_
    rotate_left
    · intro w'
      go_simp
      with_reducible rfl
    rotate_left
    · simp only [Act.put, qT, qU, qV, i64_w, i32_w]
      rfl
    refine pure_ (i := 19) (N := some 22) (v := ?_) (a' := ?_) #[true, true, true, true, true, true, true, true, true, true, true, true, true, true, true, true, true, true, true, true] rfl rfl (any_of HT_.out (by kernel_rfl)) (fun _ _ _ h => h) (Or.inl ⟨by rfl, ?_⟩) ?_ ?_
    rotate_left
    · intro w'
      go_simp
      with_reducible rfl
    rotate_left
    · simp only [Act.put, qT, qU, qV, i64_w, i32_w]
      rfl
    refine done_ (done_of HT_.out (by kernel_rfl)) ?_
    try go_wp2
    go_ret
    exact ⟨by first | rfl | (simp [errW_none, errW_some] <;> rfl) | (simp [*, errW_none, errW_some] <;> rfl), by repeat (first | (with_reducible first | exact HB.out | apply qA | apply qN | apply qD | refine qS ?_ GE595.out) | exact HB.out)⟩
  rw [if_pos c7] at H
  have c7b0 : ((t598.length : Int) == (l0_1.length : Int)) = true := beq_iff_eq.mpr c7
  have c7b1 : ((t598.length : Int) != (l0_1.length : Int)) = false := bne_eq_false_iff_eq.mpr c7
  have c7b2 : (t598.length == l0_1.length) = true := by first | simpa using c7 | (simp at c7 ⊢; omega)
  clear c7
  replace H := jG H
  obtain ⟨t601, A80, H⟩ := H
  replace H : (some (!t601)) = some r := H
  have A8 := qM A80
  clear A80
  obtain rfl := jF H
  go_enter Try.func112, Try.ntmps112
  try go_wp2_with (first | ((with_reducible refine gate_dst (N := 1) rfl ?_); (try (refine gate_guard (by rfl) ?_; dsimp only)); refine box_event ?hg (N := 1) ?hd (cs := #[.int .i64 a0_0, .slice A0_1 l0_1.length c0_1, .int .i64 a0_2]) (t := 87) ?hr ?_; (case hd => rfl); (case hg => rfl); (case hr => first | (go_simp; done) | (go_simp; rfl)); intro gb595 hg w9 hbox hb; have n0_ := qM (qs (by repeat (first | (with_reducible first | exact HB.out | apply qA | apply qN | apply qD) | exact HB.out)) hb); have n1_ := qM (hbox); have n2_ := qM ((by rw [hg]; exact (qz (by repeat (first | (with_reducible first | exact HB.out | apply qA | apply qN | apply qD) | exact HB.out))) : w.heap.size ≤ gb595)); have n3_ := qM ((by rw [hg]; exact (qz (by repeat (first | (with_reducible first | exact HB.out | apply qA | apply qN | apply qD) | exact HB.out))) : w.heap.size ≤ gb595)); clear HB; have HB := n0_; have BK595 := n1_; have GW595 := n2_; have GE595 := n3_; clear n0_ n1_ n2_ n3_; clear hb hbox hg))
  have n0_ := qM (qd BK595.out)
  have n1_ := qM (qD HB.out)
  clear BK595
  clear HB
  have BK595 := n0_
  have HB := n1_
  clear n0_ n1_
  refine start_ (n := 20) (S := fun w' => w'.cell? ⟨gb595, 0, none⟩ = some (.int .i64 a0_0) ∧ w'.cell? ⟨gb595, 1, none⟩ = some (.slice A0_1 l0_1.length c0_1) ∧ w'.cell? ⟨gb595, 2, none⟩ = some (.int .i64 a0_2)) (ds := []) #[false, false, false, false, false, false, false, false, false, false, false, false, false, false, false, false, false, false, false, false] (by kernel_rfl) rfl rfl ⟨(qC BK595.out 0).trans rfl, (qC BK595.out 1).trans rfl, (qC BK595.out 2).trans rfl⟩ (fun hHeld => ?_); refine with_tabW impl_Trace_ok.tab1 impl_Trace_ok.bits1 (fun HT_ HW_ => ?_)
  generalize w9.drew = w10 at BK595 HB hHeld ⊢
  refine pure_ (i := 0) (N := some 3) (v := ?_) (a' := ?_) #[true, false, false, false, false, false, false, false, false, false, false, false, false, false, false, false, false, false, false, false] rfl rfl (any_of HT_.out (by kernel_rfl)) (fun _ _ _ h => h) (Or.inl ⟨by rfl, ?_⟩) ?_ ?_
  rotate_left
  · intro w'
    go_simp
    with_reducible rfl
  rotate_left
  · simp only [Act.put, qT, qU, qV, i64_w, i32_w]
    rfl
  refine take_ (i := 1) (N := some 4) (v := ?_) (a' := ?_) #[true, true, false, false, false, false, false, false, false, false, false, false, false, false, false, false, false, false, false, false] rfl rfl (take_ofW HT_.out HW_.out (by kernel_rfl)) (fun _ _ _ h => h) (Or.inl ⟨by rfl, ?_⟩) hHeld ?_ ?_
  rotate_left
  · rintro w' ⟨s0, s1, s2⟩
    go_simp
    with_reducible rfl
  rotate_left
  · simp only [Act.put, qT, qU, qV, i64_w, i32_w]
    rfl
  refine one_ (i := 2) (N := some 5) #[true, true, true, false, false, false, false, false, false, false, false, false, false, false, false, false, false, false, false, false] rfl rfl (one_of HT_.out (by kernel_rfl)) (by decide) (fun K hK => ?_)
  refine goes_ Try.func106 (by kernel_rfl) rfl #[.int .i64 a0_0] (by rfl) rfl rfl (by (try simp only [jC, jD, jE]); first | done | rfl | (simp only [jB, jA]; rfl)) ?_
  with_reducible refine (impl_isKey.calls a0_0 true _ A2.out).mono ?_
  rintro e w' ⟨rfl, ⟨nd, rfl⟩⟩
  refine ⟨_, rfl, ?_⟩
  refine hK.out _ _ ⟨(qC BK595.out 0).trans rfl, (qC BK595.out 1).trans rfl, (qC BK595.out 2).trans rfl⟩ (fun hHeld => ?_)
  clear hK K
  refine norm_ (a' := ?_) ?_ ?_
  rotate_left
  · show Act.put _ (some 5) _ = _
    simp only [Act.put, qT, qU, qV, i64_w, i32_w]
    rfl
  refine pure_ (i := 3) (N := some 6) (v := ?_) (a' := ?_) #[true, true, true, true, false, false, false, false, false, false, false, false, false, false, false, false, false, false, false, false] rfl rfl (any_of HT_.out (by kernel_rfl)) (fun _ _ _ h => h) (Or.inl ⟨by rfl, ?_⟩) ?_ ?_
  rotate_left
  · intro w'
    go_simp
    with_reducible rfl
  rotate_left
  · simp only [Act.put, qT, qU, qV, i64_w, i32_w]
    rfl
  refine pure_ (i := 4) (N := some 7) (v := ?_) (a' := ?_) #[true, true, true, true, true, false, false, false, false, false, false, false, false, false, false, false, false, false, false, false] rfl rfl (any_of HT_.out (by kernel_rfl)) (fun _ _ _ h => h) (Or.inl ⟨by rfl, ?_⟩) ?_ ?_
  rotate_left
  · intro w'
    go_simp
    with_reducible rfl
  rotate_left
  · simp only [Act.put, qT, qU, qV, i64_w, i32_w]
    rfl
  refine pure_ (i := 5) (N := some 8) (v := ?_) (a' := ?_) #[true, true, true, true, true, true, false, false, false, false, false, false, false, false, false, false, false, false, false, false] rfl rfl (any_of HT_.out (by kernel_rfl)) (fun _ _ _ h => h) (Or.inl ⟨by rfl, ?_⟩) ?_ ?_
  rotate_left
  · intro w'
    go_simp
    with_reducible rfl
  rotate_left
  · simp only [Act.put, qT, qU, qV, i64_w, i32_w]
    rfl
  refine take_ (i := 6) (N := some 9) (v := ?_) (a' := ?_) #[true, true, true, true, true, true, true, false, false, false, false, false, false, false, false, false, false, false, false, false] rfl rfl (take_ofW HT_.out HW_.out (by kernel_rfl)) (fun _ _ _ h => h) (Or.inl ⟨by rfl, ?_⟩) hHeld ?_ ?_
  rotate_left
  · rintro w' ⟨s0, s1, s2⟩
    go_simp
    with_reducible rfl
  rotate_left
  · simp only [Act.put, qT, qU, qV, i64_w, i32_w]
    rfl
  refine one_ (i := 7) (N := some 10) #[true, true, true, true, true, true, true, true, false, false, false, false, false, false, false, false, false, false, false, false] rfl rfl (one_of HT_.out (by kernel_rfl)) (by decide) (fun K hK => ?_)
  refine goes_ Try.func145 (by kernel_rfl) rfl #[.int .i64 a0_2] (by rfl) rfl rfl (by (try simp only [jC, jD, jE]); first | done | rfl | (simp only [jB, jA]; rfl)) ?_
  with_reducible refine (impl_isValue.calls a0_2 true _ A4.out).mono ?_
  rintro e w' ⟨rfl, ⟨nd, rfl⟩⟩
  refine ⟨_, rfl, ?_⟩
  refine hK.out _ _ ⟨(qC BK595.out 0).trans rfl, (qC BK595.out 1).trans rfl, (qC BK595.out 2).trans rfl⟩ (fun hHeld => ?_)
  clear hK K
  refine norm_ (a' := ?_) ?_ ?_
  rotate_left
  · show Act.put _ (some 10) _ = _
    simp only [Act.put, qT, qU, qV, i64_w, i32_w]
    rfl
  refine pure_ (i := 8) (N := some 11) (v := ?_) (a' := ?_) #[true, true, true, true, true, true, true, true, true, false, false, false, false, false, false, false, false, false, false, false] rfl rfl (any_of HT_.out (by kernel_rfl)) (fun _ _ _ h => h) (Or.inl ⟨by rfl, ?_⟩) ?_ ?_
  rotate_left
  · intro w'
    go_simp
    with_reducible rfl
  rotate_left
  · simp only [Act.put, qT, qU, qV, i64_w, i32_w]
    rfl
  refine pure_ (i := 9) (N := some 12) (v := ?_) (a' := ?_) #[true, true, true, true, true, true, true, true, true, true, false, false, false, false, false, false, false, false, false, false] rfl rfl (any_of HT_.out (by kernel_rfl)) (fun _ _ _ h => h) (Or.inl ⟨by rfl, ?_⟩) ?_ ?_
  rotate_left
  · intro w'
    go_simp
    with_reducible rfl
  rotate_left
  · simp only [Act.put, qT, qU, qV, i64_w, i32_w]
    rfl
  refine pure_ (i := 10) (N := some 13) (v := ?_) (a' := ?_) #[true, true, true, true, true, true, true, true, true, true, true, false, false, false, false, false, false, false, false, false] rfl rfl (any_of HT_.out (by kernel_rfl)) (fun _ _ _ h => h) (Or.inl ⟨by rfl, ?_⟩) ?_ ?_
  rotate_left
  · intro w'
    go_simp
    with_reducible rfl
  rotate_left
  · simp only [Act.put, qT, qU, qV, i64_w, i32_w]
    rfl
  refine pure_ (i := 11) (N := some 14) (v := ?_) (a' := ?_) #[true, true, true, true, true, true, true, true, true, true, true, true, false, false, false, false, false, false, false, false] rfl rfl (any_of HT_.out (by kernel_rfl)) (fun _ _ _ h => h) (Or.inl ⟨by rfl, ?_⟩) ?_ ?_
  rotate_left
  · intro w'
    go_simp
    with_reducible rfl
  rotate_left
  · simp only [Act.put, qT, qU, qV, i64_w, i32_w]
    rfl
  refine pure_ (i := 15) (N := some 18) (v := ?_) (a' := ?_) #[true, true, true, true, true, true, true, true, true, true, true, true, false, false, false, true, false, false, false, false] rfl rfl (any_of HT_.out (by kernel_rfl)) (fun _ _ _ h => h) (Or.inl ⟨by rfl, ?_⟩) ?_ ?_
  rotate_left
  · intro w'
    go_simp
    with_reducible rfl
  rotate_left
  · simp only [Act.put, qT, qU, qV, i64_w, i32_w]
    rfl
  refine take_ (i := 12) (N := some 15) (v := ?_) (a' := ?_) #[true, true, true, true, true, true, true, true, true, true, true, true, true, false, false, true, false, false, false, false] rfl rfl (take_ofW HT_.out HW_.out (by kernel_rfl)) (fun _ _ _ h => h) (Or.inl ⟨by rfl, ?_⟩) hHeld ?_ ?_
  rotate_left
  · rintro w' ⟨s0, s1, s2⟩
    go_simp
    with_reducible rfl
  rotate_left
  · simp only [Act.put, qT, qU, qV, i64_w, i32_w]
    rfl
  refine take_ (i := 16) (N := some 19) (v := ?_) (a' := ?_) #[true, true, true, true, true, true, true, true, true, true, true, true, true, false, false, true, true, false, false, false] rfl rfl (take_ofW HT_.out HW_.out (by kernel_rfl)) (fun _ _ _ h => h) (Or.inl ⟨by rfl, ?_⟩) hHeld ?_ ?_
  rotate_left
  · rintro w' ⟨s0, s1, s2⟩
    go_simp
    with_reducible rfl
  rotate_left
  · simp only [Act.put, qT, qU, qV, i64_w, i32_w]
    rfl
  refine pure_ (i := 17) (N := some 20) (v := ?_) (a' := ?_) #[true, true, true, true, true, true, true, true, true, true, true, true, true, false, false, true, true, true, false, false] rfl rfl (any_of HT_.out (by kernel_rfl)) (fun _ _ _ h => h) (Or.inl ⟨by rfl, ?_⟩) ?_ ?_
  rotate_left
  · intro w'
    go_simp
    with_reducible rfl
  rotate_left
  · simp only [Act.put, qT, qU, qV, i64_w, i32_w]
    rfl
  refine one_ (i := 13) (N := some 16) #[true, true, true, true, true, true, true, true, true, true, true, true, true, true, false, true, true, true, false, false] rfl rfl (one_of HT_.out (by kernel_rfl)) (by decide) (fun K hK => ?_)
  refine goes_ Try.func80 (by kernel_rfl) rfl #[.slice A0_1 l0_1.length c0_1] (by rfl) rfl rfl (by (try simp only [jC, jD, jE]); first | done | rfl | (simp only [jB, jA]; rfl)) ?_
  with_reducible refine (impl_once.calls _ _ l0_1 t598 _ ?side1 ?side2 A6.out).mono ?_
  (case side1 => repeat (first | exact (qB HR0_1.out (by repeat (first | (with_reducible first | exact HB.out | apply qA | apply qN | apply qD | refine qS ?_ GE595.out) | exact HB.out))) | (with_reducible refine qc ?_ _) | (with_reducible refine qe ?_ _) | (with_reducible refine qf ?_)))
  (case side2 => exact HC0_1.out)
  rintro e w11 ⟨v599, rfl, ho0, hb⟩
  refine ⟨_, rfl, ?_⟩
  have n0_ := qM (Kd.R_lower ho0 (qz (by repeat (first | (with_reducible first | exact HB.out | apply qA | apply qN | apply qD | refine qS ?_ GE595.out) | exact HB.out))))
  have n1_ := qM (blk_below (g := gb595) (o := .cells #[.int .i64 a0_0, .slice A0_1 l0_1.length c0_1, .int .i64 a0_2] 87 (0, 0)) (by (with_reducible repeat (first | apply qn | apply qd | apply qa)); exact BK595.out) hb)
  have n2_ := qM (qs (by repeat (first | (with_reducible first | exact HB.out | apply qA | apply qN | apply qD | refine qS ?_ GE595.out) | exact HB.out)) hb)
  clear BK595
  clear HB
  have HO600 := n0_
  have BK595 := n1_
  have HB := n2_
  clear n0_ n1_ n2_
  (try clear hb)
  (try clear hb2)
  (try clear hk)
  (try clear hi)
  (try clear ho0)
  obtain ⟨Ao12, co12, eo12⟩ := Kd.R_slice HO600.out
  (first | subst eo12 | (injection eo12 with f1_ f2_ f3_; have f4_ := f1_.symm; have f5_ := f3_.symm; clear f1_ f2_ f3_; subst f4_; subst f5_))
  refine hK.out _ _ ⟨(qC BK595.out 0).trans rfl, (qC BK595.out 1).trans rfl, (qC BK595.out 2).trans rfl⟩ (fun hHeld => ?_)
  clear hK K
  refine norm_ (a' := ?_) ?_ ?_
  rotate_left
  · show Act.put _ (some 16) _ = _
    simp only [Act.put, qT, qU, qV, i64_w, i32_w]
    rfl
  refine pure_ (i := 14) (N := some 17) (v := ?_) (a' := ?_) #[true, true, true, true, true, true, true, true, true, true, true, true, true, true, true, true, true, true, false, false] rfl rfl (any_of HT_.out (by kernel_rfl)) (fun _ _ _ h => h) (Or.inl ⟨by rfl, ?_⟩) ?_ ?_
  rotate_left
  · intro w'
    go_simp
    with_reducible rfl
  rotate_left
  · simp only [Act.put, qT, qU, qV, i64_w, i32_w]
    rfl
  refine pure_ (i := 18) (N := some 21) (v := ?_) (a' := ?_) #[true, true, true, true, true, true, true, true, true, true, true, true, true, true, true, true, true, true, true, false] rfl rfl (any_of HT_.out (by kernel_rfl)) (fun _ _ _ h => h) (Or.inl ⟨by rfl, ?_⟩) ?_ ?_
  rotate_left
  · intro w'
    go_simp
    with_reducible rfl
  rotate_left
  · simp only [Act.put, qT, qU, qV, i64_w, i32_w]
    rfl
  refine pure_ (i := 19) (N := some 22) (v := ?_) (a' := ?_) #[true, true, true, true, true, true, true, true, true, true, true, true, true, true, true, true, true, true, true, true] rfl rfl (any_of HT_.out (by kernel_rfl)) (fun _ _ _ h => h) (Or.inl ⟨by rfl, ?_⟩) ?_ ?_
  rotate_left
  · intro w'
    go_simp
    with_reducible rfl
  rotate_left
  · simp only [Act.put, qT, qU, qV, i64_w, i32_w]
    rfl
  refine done_ (done_of HT_.out (by kernel_rfl)) ?_
  have hcz13_0 : w11.cell? ⟨gb595, 0, none⟩ = some (.int .i64 a0_0) := (qC BK595.out 0).trans rfl
  have hcz13_1 : w11.cell? ⟨gb595, 1, none⟩ = some (.slice A0_1 l0_1.length c0_1) := (qC BK595.out 1).trans rfl
  have hcz13_2 : w11.cell? ⟨gb595, 2, none⟩ = some (.int .i64 a0_2) := (qC BK595.out 2).trans rfl
  have hfz13_0 := qF BK595.out 0
  have hfz13_1 := qF BK595.out 1
  have hfz13_2 := qF BK595.out 2
  try go_wp2_with (first | ((with_reducible refine gate_callee (f := 139) rfl ?_); refine goesL_ (some 25) rfl rfl Try.func139 (by kernel_rfl) rfl #[.slice A0_1 l0_1.length c0_1, .func (.func 157) #[] #[]] rfl (by (try simp only [jC, jD, jE]); first | done | rfl | (simp only [jB, jA]; rfl)) ?_; (with_reducible refine (impl_Trace_ok_1_any.calls _ _ l0_1  t601 _ ?side1 ?side2 A8.out).mono ?_); (case side1 => repeat (first | exact (qB HR0_1.out HB.out) | (with_reducible refine qc ?_ _) | (with_reducible refine qe ?_ _) | (with_reducible refine qf ?_))); (case side2 => exact HC0_1.out); rintro e w14 ⟨rfl, hb⟩; refine ⟨_, rfl, ?_⟩; have n0_ := qM (Kd.R_below (by (with_reducible repeat (first | apply Kd.R_alloc | apply Kd.R_drewN | apply Kd.R_drew)); exact HO600.out) hb); have n1_ := qM (blk_below (g := gb595) (o := .cells #[.int .i64 a0_0, .slice A0_1 l0_1.length c0_1, .int .i64 a0_2] 87 (0, 0)) (by (with_reducible repeat (first | apply qn | apply qd | apply qa)); exact BK595.out) hb); have n2_ := qM (qs (by repeat (first | (with_reducible first | exact HB.out | apply qA | apply qN | apply qD | refine qS ?_ GE595.out) | exact HB.out)) hb); clear HO600; clear BK595; clear HB; have HO600 := n0_; have BK595 := n1_; have HB := n2_; clear n0_ n1_ n2_; (try clear hb); (try clear hb2); (try clear hk); (try clear hi)))
  go_ret
  exact ⟨by first | rfl | (simp [errW_none, errW_some] <;> rfl) | (simp [*, errW_none, errW_some] <;> rfl), by repeat (first | (with_reducible first | exact HB.out | apply qA | apply qN | apply qD | refine qS ?_ GE595.out) | exact HB.out)⟩
def impl_TracesOk_1.f (a0_0 : Int) (l0_1 : List (S117)) (a0_2 : Int) : Option (Bool) := (impl_Trace_ok.f a0_0 l0_1 a0_2).bind fun t603 => (some (!t603))
theorem impl_TracesOk_1.calls (a0_0 : Int) (A0_1 : Option Addr) (c0_1 : Nat) (l0_1 : List (S117)) (a0_2 : Int) (r : Bool) (w : World) (hr0_1 : Kd.C k117 w A0_1 l0_1.length l0_1) (hc0_1 : l0_1.length ≤ c0_1) (h : impl_TracesOk_1.f a0_0 l0_1 a0_2 = some r) :
    Calls Try.prog 121 #[.agg #[.int .i64 a0_0, .slice A0_1 l0_1.length c0_1, .int .i64 a0_2]] w fun e w' => e = .returned (.bool r) ∧ Below w.heap.size w w' := by
  have hu87 := Try.underlying87
  have HR0_1 := qM hr0_1
  have HC0_1 := qM hc0_1
  clear hr0_1 hc0_1
  have HB := qM (Below.refl w.heap.size w)
  have H : ((impl_Trace_ok.f a0_0 l0_1 a0_2).bind fun t603 => (some (!t603))) = some r := h
  clear h
  replace H := jG H
  obtain ⟨t603, A20, H⟩ := H
  replace H : (some (!t603)) = some r := H
  have A2 := qM A20
  clear A20
  obtain rfl := jF H
  go_enter Try.func121, Try.ntmps121
  go_wp2_with (first | ((with_reducible refine gate_dst (N := 1) rfl ?_); refine box_event ?hg (N := 1) ?hd (cs := #[.int .i64 a0_0, .slice A0_1 l0_1.length c0_1, .int .i64 a0_2]) (t := 87) ?hr ?_; (case hd => rfl); (case hg => rfl); (case hr => first | (go_simp; done) | (go_simp; rfl)); intro gb602 hg w3 hbox hb; have n0_ := qM (qs (by repeat (first | (with_reducible first | exact HB.out | apply qA | apply qN | apply qD) | exact HB.out)) hb); have n1_ := qM (hbox); have n2_ := qM ((by rw [hg]; exact (qz (by repeat (first | (with_reducible first | exact HB.out | apply qA | apply qN | apply qD) | exact HB.out))) : w.heap.size ≤ gb602)); have n3_ := qM ((by rw [hg]; exact (qz (by repeat (first | (with_reducible first | exact HB.out | apply qA | apply qN | apply qD) | exact HB.out))) : w.heap.size ≤ gb602)); clear HB; have HB := n0_; have BK602 := n1_; have GW602 := n2_; have GE602 := n3_; clear n0_ n1_ n2_ n3_; clear hb hbox hg; have hcz4_0 : w3.cell? ⟨gb602, 0, none⟩ = some (.int .i64 a0_0) := (qC BK602.out 0).trans rfl; have hcz4_1 : w3.cell? ⟨gb602, 1, none⟩ = some (.slice A0_1 l0_1.length c0_1) := (qC BK602.out 1).trans rfl; have hcz4_2 : w3.cell? ⟨gb602, 2, none⟩ = some (.int .i64 a0_2) := (qC BK602.out 2).trans rfl; have hfz4_0 := qF BK602.out 0; have hfz4_1 := qF BK602.out 1; have hfz4_2 := qF BK602.out 2) | ((with_reducible refine gate_callee (f := 112) rfl ?_); refine goesL_ (some 4) rfl rfl Try.func112 (by kernel_rfl) rfl #[.agg #[.int .i64 a0_0, .slice A0_1 l0_1.length c0_1, .int .i64 a0_2]] rfl (by (try simp only [jC, jD, jE]); first | done | rfl | (simp only [jB, jA]; rfl)) ?_; (with_reducible refine (impl_Trace_ok.calls a0_0 _ _ l0_1 a0_2 t603 _ ?side1 ?side2 A2.out).mono ?_); (case side1 => repeat (first | exact (qB HR0_1.out HB.out) | (with_reducible refine qc ?_ _) | (with_reducible refine qe ?_ _) | (with_reducible refine qf ?_))); (case side2 => exact HC0_1.out); rintro e w5 ⟨rfl, hb⟩; refine ⟨_, rfl, ?_⟩; have n0_ := qM (blk_below (g := gb602) (o := .cells #[.int .i64 a0_0, .slice A0_1 l0_1.length c0_1, .int .i64 a0_2] 87 (0, 0)) (by (with_reducible repeat (first | apply qn | apply qd | apply qa)); exact BK602.out) hb); have n1_ := qM (qs (by repeat (first | (with_reducible first | exact HB.out | apply qA | apply qN | apply qD | refine qS ?_ GE602.out) | exact HB.out)) hb); clear BK602; clear HB; have BK602 := n0_; have HB := n1_; clear n0_ n1_; (try clear hb); (try clear hb2); (try clear hk); (try clear hi)))
  go_ret
  exact ⟨by first | rfl | (simp [errW_none, errW_some] <;> rfl) | (simp [*, errW_none, errW_some] <;> rfl), by repeat (first | (with_reducible first | exact HB.out | apply qA | apply qN | apply qD | refine qS ?_ GE602.out) | exact HB.out)⟩
end Go.Proofs.Ytgbjbpjmbghlbaa.G
end
section
namespace Go.Proofs.Ytgbjbpjmbghlbaa.G
open Go.RowKit Go.Proofs.YtgbjbpjmbghlbaaW.PrintWords Go.Proofs.YtgbjbpjmbghlbaaW.PrintLast Go.Proofs.YtgbjbpjmbghlbaaW.PrintMore
def TellsTrace (c : Nat) (lb : Array Value) (P : S87 → Bool) (w : World) (l : List (S87)) : Prop :=
  ∀ x ∈ l, ∀ (cs : List Value) (W : World), Below w.heap.size w W → k87.K W x cs → Calls Try.prog c (#[.agg cs.toArray] ++ lb) W fun e W' => e = .returned (.bool (P x)) ∧ Below W.heap.size W W'
theorem rd_atTrace (l : List S87) (i : Nat) (h : i < l.length) : rd_T87 l (i : Int) = l[i] := by
  simp only [rd_T87, Int.toNat_natCast, List.getD_eq_getElem?_getD, List.getElem?_eq_getElem h, Option.getD_some]
theorem indexFuncTrace (c : Nat) (lb : Array Value) (P : S87 → Bool) (A : Option Addr) (cap : Nat) (l : List S87) (w : World) (hr : Kd.C k87 w A l.length l) (hrun : ∀ (args : Array Value) (W : World), (callFunc c args).run Try.prog W = .ok (.enter c args) W) (hT : TellsTrace c lb P w l) :
    Calls Try.prog 146 #[.slice A l.length cap, .func (.func c) #[] lb] w fun e w' => e = .returned (.int .i64 (idxFrom P l 0)) ∧ Below w.heap.size w w' := by
  have hu := Try.underlying87
  have HR := qM hr
  have HT := qM hT
  have hE := hrun
  clear hr hT hrun
  go_enter Try.func146, Try.ntmps146
  go_wp2
  go_loopg [8] l.length (fun kq v8 w' => ∃ i : Nat, v8 = .int .i64 (i : Int) ∧ Aside0 (i + kq = l.length) ∧ Aside0 (idxFrom P l 0 = idxFrom P (l.drop i) i) ∧ Aside0 (Below w.heap.size w w'))
  case atStart => exact ⟨0, by simp, ⟨by omega⟩, ⟨by simp⟩, ⟨Below.refl _ _⟩⟩
  case round =>
    obtain ⟨i, rfl, HI, HP, HB⟩ := hrel
    cases gk with
    | zero =>
      have hi : i = l.length := by have := HI.out; omega
      subst hi
      have hb : decide ((l.length : Int) < (l.length : Int)) = false := decide_eq_false (by omega)
      have hres : idxFrom P l 0 = -1 := by rw [HP.out, List.drop_length]; rfl
      have HRes := qM hres
      clear hres HP
      go_wp2
      go_ret
      exact ⟨by rw [HRes.out]; rfl, HB.out⟩
    | succ gk =>
      have hlt : i < l.length := by have := HI.out; omega
      have hb : decide ((i : Int) < (l.length : Int)) = true := decide_eq_true (by omega)
      obtain ⟨ad, A1, c1, e, hx0, hx1, hx2, hl1, hC1⟩ := at_T87 HR.out (i : Int) (by omega) (by omega)
      cases e
      have hlen := HR.out.2.1
      have hmax : (i : Int) + 1 ≤ 9223372036854775807 := by omega
      have hc0 : wr.cell? (ad.add (i * 3)) = some (.int .i64 (rd_T87 l (i : Int)).f0) := by
        have h1 := (HB.out.cell (qL w _ hx0)).trans hx0
        simpa only [Int.toNat_natCast] using h1
      have hc1 : wr.cell? (⟨(ad.add (i * 3)).block, (ad.add (i * 3)).off + 1, none⟩) = some (.slice A1 (rd_T87 l (i : Int)).f1.length c1) := by
        have h1 := (HB.out.cell (qL w _ hx1)).trans hx1
        simpa only [Int.toNat_natCast] using h1
      have hc2 : wr.cell? (⟨(ad.add (i * 3)).block, (ad.add (i * 3)).off + 2, none⟩) = some (.int .i64 (rd_T87 l (i : Int)).f2) := by
        have h1 := (HB.out.cell (qL w _ hx2)).trans hx2
        simpa only [Int.toNat_natCast] using h1
      have HK := qM (k87_mk wr (rd_T87 l (i : Int)) hl1 (qB hC1 HB.out))
      clear hx0 hx1 hx2
      have p0 : (0 ≤ (i : Int)) = True := eq_true (by omega)
      have q0 : ((i : Int) < (l.length : Int)) = True := eq_true (by omega)
      have hstep : idxFrom P l 0 = if P (rd_T87 l (i : Int)) = true then (i : Int) else idxFrom P (l.drop (i + 1)) (i + 1) := by
        rw [HP.out, List.drop_eq_getElem_cons hlt, idxFrom, rd_atTrace l i hlt]
      have HS := qM hstep
      clear hstep HP
      go_wp2_with fail
      refine (HT.out _ (by rw [rd_atTrace l i hlt]; exact List.getElem_mem hlt) _ wr HB.out HK.out).mono ?_
      rintro e w1 ⟨rfl, hb1⟩
      have HB1 := qM (HB.out.trans (hb1.mono HB.out.size))
      clear hb1 HB hc0 hc1 hc2 HK
      by_cases hP : P (rd_T87 l (i : Int)) = true
      · have HR1 := qM (HS.out.trans (if_pos hP))
        go_wp2
        go_ret
        exact ⟨by rw [HR1.out]; rfl, HB1.out⟩
      · have HR1 := qM (HS.out.trans (if_neg hP))
        have hP' : P (rd_T87 l (i : Int)) = false := by simpa using hP
        clear hP
        go_wp2
        go_roundg gk
        case measure => omega
        case rel => exact ⟨i + 1, by go_num, ⟨by have := HI.out; omega⟩, ⟨HR1.out⟩, HB1⟩
theorem containsFuncTrace (c : Nat) (lb : Array Value) (P : S87 → Bool) (A : Option Addr) (cap : Nat) (l : List S87) (w : World) (hr : Kd.C k87 w A l.length l) (hrun : ∀ (args : Array Value) (W : World), (callFunc c args).run Try.prog W = .ok (.enter c args) W) (hT : TellsTrace c lb P w l) :
    Calls Try.prog 92 #[.slice A l.length cap, .func (.func c) #[] lb] w fun e w' => e = .returned (.bool (l.any P)) ∧ Below w.heap.size w w' := by
  have HR := qM hr
  have HT := qM hT
  have HE := qM hrun
  clear hr hT hrun
  have hany : decide (0 ≤ idxFrom P l 0) = l.any P := idx_any P l 0
  have HA := qM hany
  clear hany
  generalize hx : l.any P = b at HA ⊢
  clear hx
  go_enter Try.func92, Try.ntmps92
  go_wp2_with (go_at_call 146; refine (indexFuncTrace c lb P A cap l _ HR.out HE.out HT.out).mono ?_; rintro e w1 ⟨rfl, hb1⟩)
  go_ret
  exact ⟨by rw [← HA.out]; rfl, hb1⟩
def impl_TracesOk_1_any.f (l0 : List S87) : Option Bool := if (∀ x ∈ l0, (impl_TracesOk_1.f x.f0 x.f1 x.f2).isSome = true) then some (l0.any fun x => (impl_TracesOk_1.f x.f0 x.f1 x.f2).getD false) else none
theorem impl_TracesOk_1_any.calls (A0 : Option Addr) (c0 : Nat) (l0 : List S87) (r : Bool) (w : World) (hr0 : Kd.C k87 w A0 l0.length l0) (hc0 : l0.length ≤ c0) (h : impl_TracesOk_1_any.f l0 = some r) :
    Calls Try.prog 92 #[.slice A0 l0.length c0, .func (.func 121) #[] #[]] w fun e w' => e = .returned (.bool r) ∧ Below w.heap.size w w' := by
  unfold impl_TracesOk_1_any.f at h
  split at h
  · rename_i hs
    obtain rfl := jF h
    refine containsFuncTrace 121 #[] _ A0 c0 l0 w hr0 (enters_fn Try.func121 (by kernel_rfl) rfl) (fun x hx cs W hb hK => ?_)
    obtain ⟨A1, c1, rfl, hl, hC⟩ := k87_open hK
    obtain ⟨b, hb⟩ := Option.isSome_iff_exists.1 (hs x hx)
    rw [hb]
    exact impl_TracesOk_1.calls x.f0 A1 c1 x.f1 x.f2 b W hC hl hb
  · cases h
end Go.Proofs.Ytgbjbpjmbghlbaa.G
end
section
namespace Go.Proofs.Ytgbjbpjmbghlbaa.G
open Go.RowKit Go.Proofs.YtgbjbpjmbghlbaaW.PrintWords Go.Proofs.YtgbjbpjmbghlbaaW.PrintLast Go.Proofs.YtgbjbpjmbghlbaaW.PrintMore
attribute [local go_sem] max2_int min2_int max_two min_two max_three min_three max_four min_four
def impl_TracesOk.f (l0 : List (S87)) : Option (Bool) := if (l0.length : Int) ≤ 60 then ((impl_TracesOk_1_any.f l0).bind fun t604 => (some (!t604))) else (some false)
theorem impl_TracesOk.calls (A0 : Option Addr) (c0 : Nat) (l0 : List (S87)) (r : Bool) (w : World) (hr0 : Kd.C k87 w A0 l0.length l0) (hc0 : l0.length ≤ c0) (h : impl_TracesOk.f l0 = some r) :
    Calls Try.prog 63 #[.slice A0 l0.length c0] w fun e w' => e = .returned (.bool r) ∧ Below w.heap.size w w' := by
  have HR0 := qM hr0
  have HC0 := qM hc0
  clear hr0 hc0
  have HB := qM (Below.refl w.heap.size w)
  have H : (if (l0.length : Int) ≤ 60 then ((impl_TracesOk_1_any.f l0).bind fun t604 => (some (!t604))) else (some false)) = some r := h
  clear h
  by_cases c2 : (l0.length : Int) ≤ 60
  rotate_left
  · rw [if_neg c2] at H
    have c2b0 : decide ((l0.length : Int) ≤ 60) = false := decide_eq_false c2
    have c2b1 : decide (l0.length ≤ 60) = false := decide_eq_false (by omega)
    clear c2
    obtain rfl := jF H
    go_enter Try.func63, Try.ntmps63
    go_wp2
    go_ret
    exact ⟨by first | rfl | (simp [errW_none, errW_some] <;> rfl) | (simp [*, errW_none, errW_some] <;> rfl), by repeat (first | (with_reducible first | exact HB.out | apply qA | apply qN | apply qD) | exact HB.out)⟩
  rw [if_pos c2] at H
  have c2b0 : decide ((l0.length : Int) ≤ 60) = true := decide_eq_true c2
  have c2b1 : decide (l0.length ≤ 60) = true := decide_eq_true (by omega)
  clear c2
  replace H := jG H
  obtain ⟨t604, A30, H⟩ := H
  replace H : (some (!t604)) = some r := H
  have A3 := qM A30
  clear A30
  obtain rfl := jF H
  go_enter Try.func63, Try.ntmps63
  go_wp2_with (first | (go_at_call 92; (with_reducible refine (impl_TracesOk_1_any.calls _ _ l0  t604 _ ?side1 ?side2 A3.out).mono ?_); (case side1 => repeat (first | exact HR0.out | (with_reducible refine qc ?_ _) | (with_reducible refine qe ?_ _) | (with_reducible refine qf ?_))); (case side2 => exact HC0.out); rintro e w4 ⟨rfl, hb⟩; have n0_ := qM (qs (by repeat (first | (with_reducible first | exact HB.out | apply qA | apply qN | apply qD) | exact HB.out)) hb); clear HB; have HB := n0_; clear n0_; (try clear hb); (try clear hb2); (try clear hk); (try clear hi)))
  go_ret
  exact ⟨by first | rfl | (simp [errW_none, errW_some] <;> rfl) | (simp [*, errW_none, errW_some] <;> rfl), by repeat (first | (with_reducible first | exact HB.out | apply qA | apply qN | apply qD) | exact HB.out)⟩
mutual
def impl_SheetOk.j0 : Nat → Bool → List Bool → List (S30) → Option (Bool)
  | 0, _, _, _ => none
  | k + 1, x17, x606000, x606001 => if x17 = true then (some false) else (impl_SheetOk.l0 k x606001 (x606001.length : Int) 0 x606000 x606001)
def impl_SheetOk.l0 : Nat → List (S30) → Int → Int → List Bool → List (S30) → Option (Bool)
  | 0, _, _, _, _, _ => none
  | k + 1, x19, x20, x21, x606000, x606001 => if x21 < x20 then (if 0 ≤ x21 then (if x21 < (x19.length : Int) then ((impl_TaskOk.f k ((rd_T30 x19 x21).f0) ((rd_T30 x19 x21).f1) ((rd_T30 x19 x21).f2)).bind fun t608 => (if t608 = true then (if x21 < (x606000.length : Int) then (if rdOf false x606000 x21 = true then (impl_SheetOk.l0 k x19 x20 (wrap64 (x21 + 1)) x606000 x606001) else (if ((rd_T30 x19 x21).f0) = 0 then (if ((rd_T30 x19 x21).f1) = 0 then (impl_SheetOk.l0 k x19 x20 (wrap64 (x21 + 1)) x606000 x606001) else (some false)) else (some false))) else (none)) else (some false))) else (none)) else (none)) else (some true)
end
def impl_SheetOk.f (k : Nat) (l0_0 : List Bool) (l0_1 : List (S30)) : Option (Bool) := if (l0_0.length : Int) = (l0_1.length : Int) then (impl_SheetOk.j0 k (decide ((l0_0.length : Int) > 10)) l0_0 l0_1) else (impl_SheetOk.j0 k true l0_0 l0_1)
theorem impl_SheetOk.calls (k : Nat) (A0_0 : Option Addr) (c0_0 : Nat) (l0_0 : List Bool) (A0_1 : Option Addr) (c0_1 : Nat) (l0_1 : List (S30)) (r : Bool) (w : World) (hr0_0 : Kd.C Kd.bool w A0_0 l0_0.length l0_0) (hc0_0 : l0_0.length ≤ c0_0) (hr0_1 : Kd.C k30 w A0_1 l0_1.length l0_1) (hc0_1 : l0_1.length ≤ c0_1) (h : impl_SheetOk.f k l0_0 l0_1 = some r) :
    Calls Try.prog 90 #[.agg #[.slice A0_0 l0_0.length c0_0, .slice A0_1 l0_1.length c0_1]] w fun e w' => e = .returned (.bool r) ∧ Below w.heap.size w w' := by
  have hu56 := Try.underlying56
  have hu30 := Try.underlying30
  have HR0_0 := qM hr0_0
  have HC0_0 := qM hc0_0
  clear hr0_0 hc0_0
  have HR0_1 := qM hr0_1
  have HC0_1 := qM hc0_1
  clear hr0_1 hc0_1
  have HB := qM (Below.refl w.heap.size w)
  have H : (if (l0_0.length : Int) = (l0_1.length : Int) then (impl_SheetOk.j0 k (decide ((l0_0.length : Int) > 10)) l0_0 l0_1) else (impl_SheetOk.j0 k true l0_0 l0_1)) = some r := h
  clear h
  have HC2 := qM H
  clear H
  go_enter Try.func90, Try.ntmps90
  go_upto_region 1 with (first | ((with_reducible refine gate_dst (N := 1) rfl ?_); (try (refine gate_guard (by rfl) ?_; dsimp only)); refine box_event ?hg (N := 1) ?hd (cs := #[.slice A0_0 l0_0.length c0_0, .slice A0_1 l0_1.length c0_1]) (t := 56) ?hr ?_; (case hd => rfl); (case hg => rfl); (case hr => first | (go_simp; done) | (go_simp; rfl)); intro gb605 hg w3 hbox hb; have n0_ := qM (qs (by repeat (first | (with_reducible first | exact HB.out | apply qA | apply qN | apply qD) | exact HB.out)) hb); have n1_ := qM (hbox); have n2_ := qM ((by rw [hg]; exact (qz (by repeat (first | (with_reducible first | exact HB.out | apply qA | apply qN | apply qD) | exact HB.out))) : w.heap.size ≤ gb605)); have n3_ := qM ((by rw [hg]; exact (qz (by repeat (first | (with_reducible first | exact HB.out | apply qA | apply qN | apply qD) | exact HB.out))) : w.heap.size ≤ gb605)); clear HB; have HB := n0_; have BK605 := n1_; have GW605 := n2_; have GE605 := n3_; clear n0_ n1_ n2_ n3_; clear hb hbox hg))
  (try simp only [Act.put, qT, qU, qV])
  go_cut [17] (fun v17 wc => ∃ (kq : Nat) (x17_1 : Bool), v17 = .bool x17_1 ∧ Aside0 (impl_SheetOk.j0 kq x17_1 l0_0 l0_1 = some r) ∧ Aside0 (kq ≤ k) ∧ Aside0 (wc.heap[gb605]? = some (.cells #[(.slice A0_0 l0_0.length c0_0), (.slice A0_1 l0_1.length c0_1)] 56 (0, 0))) ∧ Aside0 (Below w.heap.size w wc))
  case first =>
    have H := HC2.out
    clear HC2
    by_cases c4 : (l0_0.length : Int) = (l0_1.length : Int)
    rotate_left
    · rw [if_neg c4] at H
      have c4b0 : ((l0_0.length : Int) == (l0_1.length : Int)) = false := beq_eq_false_iff_ne.mpr c4
      have c4b1 : ((l0_0.length : Int) != (l0_1.length : Int)) = true := bne_iff_ne.mpr c4
      have c4b2 : (l0_0.length == l0_1.length) = false := by first | simpa using c4 | (simp at c4 ⊢; omega)
      (first | rw [c4b0] | (simp only [i64_w, i32_w]; rw [c4b0]) | skip)
      have H' := qM H
      clear H
      have hcz6_0 : w3.cell? ⟨gb605, 0, none⟩ = some (.slice A0_0 l0_0.length c0_0) := (qC BK605.out 0).trans rfl
      have hcz6_1 : w3.cell? ⟨gb605, 1, none⟩ = some (.slice A0_1 l0_1.length c0_1) := (qC BK605.out 1).trans rfl
      have hfz6_0 := qF BK605.out 0
      have hfz6_1 := qF BK605.out 1
      go_wp2
      go_meet
      case rel => exact ⟨_, (true), (by first | rfl | (simp; done) | (simp [*]; done)), H', ⟨by first | omega | exact Nat.le_refl _⟩, ⟨by (with_reducible repeat (first | apply qn | apply qd | apply qa)); exact BK605.out⟩, ⟨by repeat (first | (with_reducible first | exact HB.out | apply qA | apply qN | apply qD | refine qS ?_ GE605.out) | exact HB.out)⟩⟩
    rw [if_pos c4] at H
    have c4b0 : ((l0_0.length : Int) == (l0_1.length : Int)) = true := beq_iff_eq.mpr c4
    have c4b1 : ((l0_0.length : Int) != (l0_1.length : Int)) = false := bne_eq_false_iff_eq.mpr c4
    have c4b2 : (l0_0.length == l0_1.length) = true := by first | simpa using c4 | (simp at c4 ⊢; omega)
    clear c4
    (first | rw [c4b0] | (simp only [i64_w, i32_w]; rw [c4b0]) | skip)
    have H' := qM H
    clear H
    have hcz5_0 : w3.cell? ⟨gb605, 0, none⟩ = some (.slice A0_0 l0_0.length c0_0) := (qC BK605.out 0).trans rfl
    have hcz5_1 : w3.cell? ⟨gb605, 1, none⟩ = some (.slice A0_1 l0_1.length c0_1) := (qC BK605.out 1).trans rfl
    have hfz5_0 := qF BK605.out 0
    have hfz5_1 := qF BK605.out 1
    go_wp2
    go_meet
    case rel => exact ⟨_, (decide ((l0_0.length : Int) > 10)), (by first | rfl | (simp; done) | (simp [*]; done)), H', ⟨by first | omega | exact Nat.le_refl _⟩, ⟨by (with_reducible repeat (first | apply qn | apply qd | apply qa)); exact BK605.out⟩, ⟨by repeat (first | (with_reducible first | exact HB.out | apply qA | apply qN | apply qD | refine qS ?_ GE605.out) | exact HB.out)⟩⟩
  case rest =>
    clear HC2
    try clear p2
    try clear c4
    try clear c4b0
    try clear c4b1
    try clear c4b2
    try clear hcz5_0
    try clear hcz5_1
    try clear hcz6_0
    try clear hcz6_1
    try clear hfz5_0
    try clear hfz5_1
    try clear hfz6_0
    try clear hfz6_1
    obtain ⟨kq, x17_1, rfl, HA, HJ1, BK605, HB⟩ := hcut
    cases kq with
    | zero => exact absurd HA.out (by simp [impl_SheetOk.j0])
    | succ kj1 =>
      have H := HA.out
      clear HA
      simp only [impl_SheetOk.j0] at H
      by_cases c7 : x17_1 = true
      · subst c7
        have H1 : (some false) = some r := by rw [if_pos rfl] at H; exact H
        clear H
        have H := H1
        clear H1
        obtain rfl := jF H
        go_wp2
        go_ret
        exact ⟨by first | rfl | (simp [errW_none, errW_some] <;> rfl) | (simp [*, errW_none, errW_some] <;> rfl), by repeat (first | (with_reducible first | exact HB.out | apply qA | apply qN | apply qD | refine qS ?_ GE605.out) | exact HB.out)⟩
      replace c7 := Bool.eq_false_iff.mpr c7
      subst c7
      have H1 : (impl_SheetOk.l0 kj1 l0_1 (l0_1.length : Int) 0 l0_0 l0_1) = some r := by rw [if_neg (show ¬ (false = true) by decide)] at H; exact H
      clear H
      have H := H1
      clear H1
      have H' := qM H
      clear H
      have hcz8_0 : wc.cell? ⟨gb605, 0, none⟩ = some (.slice A0_0 l0_0.length c0_0) := (qC BK605.out 0).trans rfl
      have hcz8_1 : wc.cell? ⟨gb605, 1, none⟩ = some (.slice A0_1 l0_1.length c0_1) := (qC BK605.out 1).trans rfl
      have hfz8_0 := qF BK605.out 0
      have hfz8_1 := qF BK605.out 1
      go_wp2
      go_loopg [21] kj1 (fun kq v21 w' => ∃ (x21_2 : Int), v21 = .int .i64 x21_2 ∧ Aside0 (impl_SheetOk.l0 kq l0_1 (l0_1.length : Int) x21_2 l0_0 l0_1 = some r) ∧ Aside0 (kq ≤ kj1) ∧ Aside0 (w'.heap[gb605]? = some (.cells #[(.slice A0_0 l0_0.length c0_0), (.slice A0_1 l0_1.length c0_1)] 56 (0, 0))) ∧ Aside0 (Below w.heap.size w w'))
      case atStart => exact ⟨(0), (by first | rfl | (simp; done) | (simp [*]; done)), H', ⟨Nat.le_refl _⟩, ⟨by (with_reducible repeat (first | apply qn | apply qd | apply qa)); exact BK605.out⟩, ⟨by repeat (first | (with_reducible first | exact HB.out | apply qA | apply qN | apply qD | refine qS ?_ GE605.out) | exact HB.out)⟩⟩
      case round =>
        clear H'
        try clear p2
        try clear c4
        try clear c4b0
        try clear c4b1
        try clear c4b2
        try clear c7
        try clear hcz5_0
        try clear hcz5_1
        try clear hcz6_0
        try clear hcz6_1
        try clear hcz8_0
        try clear hcz8_1
        try clear hfz5_0
        try clear hfz5_1
        try clear hfz6_0
        try clear hfz6_1
        try clear hfz8_0
        try clear hfz8_1
        try clear p2
        obtain ⟨x21_2, rfl, HA, HK2, BK605, HB⟩ := hrel
        cases gk with
        | zero => exact absurd HA.out (by simp [impl_SheetOk.l0])
        | succ k2 =>
          have H := HA.out
          clear HA
          simp only [impl_SheetOk.l0] at H
          by_cases c9 : x21_2 < (l0_1.length : Int)
          rotate_left
          · rw [if_neg c9] at H
            have c9b0 : decide (x21_2 < (l0_1.length : Int)) = false := decide_eq_false c9
            clear c9
            obtain rfl := jF H
            go_wp2
            go_ret
            exact ⟨by first | rfl | (simp [errW_none, errW_some] <;> rfl) | (simp [*, errW_none, errW_some] <;> rfl), by repeat (first | (with_reducible first | exact HB.out | apply qA | apply qN | apply qD | refine qS ?_ GE605.out) | exact HB.out)⟩
          rw [if_pos c9] at H
          have c9b0 : decide (x21_2 < (l0_1.length : Int)) = true := decide_eq_true c9
          clear c9
          by_cases c10 : 0 ≤ x21_2
          rotate_left
          · rw [if_neg c10] at H
            exact absurd H (by simp)
          rw [if_pos c10] at H
          have c10b0 : decide (0 ≤ x21_2) = true := decide_eq_true c10
          clear c10
          by_cases c11 : x21_2 < (l0_1.length : Int)
          rotate_left
          · rw [if_neg c11] at H
            exact absurd H (by simp)
          rw [if_pos c11] at H
          have c11b0 : decide (x21_2 < (l0_1.length : Int)) = true := decide_eq_true c11
          clear c11
          replace H := jG H
          obtain ⟨t608, A120, H⟩ := H
          replace H : (if t608 = true then (if x21_2 < (l0_0.length : Int) then (if rdOf false l0_0 x21_2 = true then (impl_SheetOk.l0 k2 l0_1 (l0_1.length : Int) (wrap64 (x21_2 + 1)) l0_0 l0_1) else (if ((rd_T30 l0_1 x21_2).f0) = 0 then (if ((rd_T30 l0_1 x21_2).f1) = 0 then (impl_SheetOk.l0 k2 l0_1 (l0_1.length : Int) (wrap64 (x21_2 + 1)) l0_0 l0_1) else (some false)) else (some false))) else (none)) else (some false)) = some r := H
          have A12 := qM A120
          clear A120
          by_cases c13 : t608 = true
          rotate_left
          · replace c13 := Bool.eq_false_iff.mpr c13
            subst c13
            have H1 : (some false) = some r := by rw [if_neg (show ¬ (false = true) by decide)] at H; exact H
            clear H
            have H := H1
            clear H1
            obtain rfl := jF H
            have p606 : 0 ≤ (x21_2 : Int) := qO (by first | (with_reducible assumption) | assumption)
            have q606 : x21_2 < (l0_1.length : Int) := qO (by first | (with_reducible assumption) | assumption)
            obtain ⟨ad606, A606_2, c606_2, e606, hx606_0, hx606_1, hx606_2, hl606_2, hi606_2⟩ := at_T30 HR0_1.out x21_2 p606 q606
            cases e606
            replace hx606_0 := (HB.out.cell (qL w _ hx606_0)).trans hx606_0
            replace hx606_1 := (HB.out.cell (qL w _ hx606_1)).trans hx606_1
            replace hx606_2 := (HB.out.cell (qL w _ hx606_2)).trans hx606_2
            have HR606_2 := qM hi606_2
            have HC606_2 := qM hl606_2
            clear hi606_2 hl606_2
            replace p606 := eq_true p606
            replace q606 := eq_true q606
            go_wp2_with (first | ((with_reducible refine gate_dst (N := 4) rfl ?_); (try (refine gate_guard (by rfl) ?_; dsimp only)); refine box_event ?hg (N := 4) ?hd (cs := #[.int .i64 0, .int .i64 0, .slice none 0 0]) (t := 30) ?hr ?_; (case hd => rfl); (case hg => rfl); (case hr => first | (go_simp; done) | (go_simp; rfl)); intro gb607 hg w42 hbox hb; have n0_ := qM (blk_below (g := gb605) (o := .cells #[.slice A0_0 l0_0.length c0_0, .slice (some ad606) l0_1.length c0_1] 56 (0, 0)) (by (with_reducible repeat (first | apply qn | apply qd | apply qa)); exact BK605.out) hb); have n1_ := qM (qs (by repeat (first | (with_reducible first | exact HB.out | apply qA | apply qN | apply qD | refine qS ?_ GE605.out) | exact HB.out)) hb); have n2_ := qM (hbox); have n3_ := qM ((by rw [hg]; exact (qz (by repeat (first | (with_reducible first | exact HB.out | apply qA | apply qN | apply qD | refine qS ?_ GE605.out) | exact HB.out))) : w.heap.size ≤ gb607)); have n4_ := qM ((by rw [hg]; exact (qz (by repeat (first | (with_reducible first | exact HB.out | apply qA | apply qN | apply qD | refine qS ?_ GE605.out) | exact HB.out))) : w.heap.size ≤ gb607)); have n5_ := qM ((by rw [hg]; exact Nat.ne_of_lt (blk_lt (g := gb605) (o := .cells #[.slice A0_0 l0_0.length c0_0, .slice (some ad606) l0_1.length c0_1] 56 (0, 0)) (by (with_reducible repeat (first | apply qn | apply qd | apply qa)); exact BK605.out)) : gb605 ≠ gb607)); have n6_ := qM ((by rw [hg]; exact Nat.ne_of_gt (blk_lt (g := gb605) (o := .cells #[.slice A0_0 l0_0.length c0_0, .slice (some ad606) l0_1.length c0_1] 56 (0, 0)) (by (with_reducible repeat (first | apply qn | apply qd | apply qa)); exact BK605.out)) : gb607 ≠ gb605)); clear BK605; clear HB; have BK605 := n0_; have HB := n1_; have BK607 := n2_; have GW607 := n3_; have GE607 := n4_; have NB605_607 := n5_; have NB607_605 := n6_; clear n0_ n1_ n2_ n3_ n4_ n5_ n6_; clear hb hbox hg; have hnb43 := NB607_605.out; have hnc43 := NB605_607.out; have hcz44_0 : w42.cell? ⟨gb607, 0, none⟩ = some (.int .i64 0) := (qC BK607.out 0).trans rfl; have hcz44_1 : w42.cell? ⟨gb607, 1, none⟩ = some (.int .i64 0) := (qC BK607.out 1).trans rfl; have hcz44_2 : w42.cell? ⟨gb607, 2, none⟩ = some (.slice none 0 0) := (qC BK607.out 2).trans rfl; have hfz44_0 := qF BK607.out 0; have hfz44_1 := qF BK607.out 1; have hfz44_2 := qF BK607.out 2) | ((with_reducible refine gate_callee (f := 26) rfl ?_); refine goesL_ (some 27) rfl rfl Try.func26 (by kernel_rfl) rfl #[.agg #[.int .i64 ((rd_T30 l0_1 x21_2).f0), .int .i64 ((rd_T30 l0_1 x21_2).f1), .slice A606_2 ((rd_T30 l0_1 x21_2).f2).length c606_2]] rfl (by (try simp only [jC, jD, jE]); first | done | rfl | (simp only [jB, jA]; rfl)) ?_; (with_reducible refine (impl_TaskOk.calls k2 ((rd_T30 l0_1 x21_2).f0) ((rd_T30 l0_1 x21_2).f1) _ _ ((rd_T30 l0_1 x21_2).f2) false _ ?side1 ?side2 A12.out).mono ?_); (case side1 => exact qB HR606_2.out (by repeat (first | (with_reducible first | exact HB.out | apply qA | apply qN | apply qD | refine qS ?_ GE605.out | refine qS ?_ GE607.out) | exact HB.out))); (case side2 => exact HC606_2.out); rintro e w45 ⟨rfl, hb⟩; refine ⟨_, rfl, ?_⟩; have n0_ := qM (blk_below (g := gb605) (o := .cells #[.slice A0_0 l0_0.length c0_0, .slice (some ad606) l0_1.length c0_1] 56 (0, 0)) (by (with_reducible repeat (first | apply qn | apply qd | apply qa)); refine blk_far ?_ NB605_607.out _; (with_reducible repeat (first | apply qn | apply qd | apply qa)); refine blk_far ?_ NB605_607.out _; (with_reducible repeat (first | apply qn | apply qd | apply qa)); refine blk_far ?_ NB605_607.out _; (with_reducible repeat (first | apply qn | apply qd | apply qa)); exact BK605.out) hb); have n1_ := qM (blk_below (g := gb607) (o := .cells #[.int .i64 ((rd_T30 l0_1 x21_2).f0), .int .i64 ((rd_T30 l0_1 x21_2).f1), .slice A606_2 ((rd_T30 l0_1 x21_2).f2).length c606_2] 30 (0, 0)) (by (with_reducible repeat (first | apply qn | apply qd | apply qa)); refine blk_put (cs := #[.int .i64 ((rd_T30 l0_1 x21_2).f0), .int .i64 ((rd_T30 l0_1 x21_2).f1), .slice none 0 0]) ?_ 2 _ rfl; (with_reducible repeat (first | apply qn | apply qd | apply qa)); refine blk_put (cs := #[.int .i64 ((rd_T30 l0_1 x21_2).f0), .int .i64 0, .slice none 0 0]) ?_ 1 _ rfl; (with_reducible repeat (first | apply qn | apply qd | apply qa)); refine blk_put (cs := #[.int .i64 0, .int .i64 0, .slice none 0 0]) ?_ 0 _ rfl; (with_reducible repeat (first | apply qn | apply qd | apply qa)); exact BK607.out) hb); have n2_ := qM (qs (by repeat (first | (with_reducible first | exact HB.out | apply qA | apply qN | apply qD | refine qS ?_ GE605.out | refine qS ?_ GE607.out) | exact HB.out)) hb); clear BK605; clear BK607; clear HB; have BK605 := n0_; have BK607 := n1_; have HB := n2_; clear n0_ n1_ n2_; (try clear hb); (try clear hb2); (try clear hk); (try clear hi)))
            go_ret
            exact ⟨by first | rfl | (simp [errW_none, errW_some] <;> rfl) | (simp [*, errW_none, errW_some] <;> rfl), by repeat (first | (with_reducible first | exact HB.out | apply qA | apply qN | apply qD | refine qS ?_ GE605.out | refine qS ?_ GE607.out) | exact HB.out)⟩
          subst c13
          have H1 : (if x21_2 < (l0_0.length : Int) then (if rdOf false l0_0 x21_2 = true then (impl_SheetOk.l0 k2 l0_1 (l0_1.length : Int) (wrap64 (x21_2 + 1)) l0_0 l0_1) else (if ((rd_T30 l0_1 x21_2).f0) = 0 then (if ((rd_T30 l0_1 x21_2).f1) = 0 then (impl_SheetOk.l0 k2 l0_1 (l0_1.length : Int) (wrap64 (x21_2 + 1)) l0_0 l0_1) else (some false)) else (some false))) else (none)) = some r := by rw [if_pos rfl] at H; exact H
          clear H
          have H := H1
          clear H1
          by_cases c14 : x21_2 < (l0_0.length : Int)
          rotate_left
          · rw [if_neg c14] at H
            exact absurd H (by simp)
          rw [if_pos c14] at H
          have c14b0 : decide (x21_2 < (l0_0.length : Int)) = true := decide_eq_true c14
          clear c14
          obtain ⟨bq15, hbq15⟩ : ∃ b_ : Bool, b_ = (rdOf false l0_0 x21_2) := ⟨_, rfl⟩
          replace H : (if bq15 = true then (impl_SheetOk.l0 k2 l0_1 (l0_1.length : Int) (wrap64 (x21_2 + 1)) l0_0 l0_1) else (if ((rd_T30 l0_1 x21_2).f0) = 0 then (if ((rd_T30 l0_1 x21_2).f1) = 0 then (impl_SheetOk.l0 k2 l0_1 (l0_1.length : Int) (wrap64 (x21_2 + 1)) l0_0 l0_1) else (some false)) else (some false))) = some r := by rw [← hbq15] at H; exact H
          have Nbq15 := qM hbq15
          clear hbq15
          by_cases c16 : bq15 = true
          · subst c16
            have H1 : (impl_SheetOk.l0 k2 l0_1 (l0_1.length : Int) (wrap64 (x21_2 + 1)) l0_0 l0_1) = some r := by rw [if_pos rfl] at H; exact H
            clear H
            have H := H1
            clear H1
            have H' := qM H
            clear H
            have p606 : 0 ≤ (x21_2 : Int) := qO (by first | (with_reducible assumption) | assumption)
            have q606 : x21_2 < (l0_1.length : Int) := qO (by first | (with_reducible assumption) | assumption)
            obtain ⟨ad606, A606_2, c606_2, e606, hx606_0, hx606_1, hx606_2, hl606_2, hi606_2⟩ := at_T30 HR0_1.out x21_2 p606 q606
            cases e606
            replace hx606_0 := (HB.out.cell (qL w _ hx606_0)).trans hx606_0
            replace hx606_1 := (HB.out.cell (qL w _ hx606_1)).trans hx606_1
            replace hx606_2 := (HB.out.cell (qL w _ hx606_2)).trans hx606_2
            have HR606_2 := qM hi606_2
            have HC606_2 := qM hl606_2
            clear hi606_2 hl606_2
            replace p606 := eq_true p606
            replace q606 := eq_true q606
            go_wp2_with (first | ((with_reducible refine gate_dst (N := 4) rfl ?_); (try (refine gate_guard (by rfl) ?_; dsimp only)); refine box_event ?hg (N := 4) ?hd (cs := #[.int .i64 0, .int .i64 0, .slice none 0 0]) (t := 30) ?hr ?_; (case hd => rfl); (case hg => rfl); (case hr => first | (go_simp; done) | (go_simp; rfl)); intro gb607 hg w17 hbox hb; have n0_ := qM (blk_below (g := gb605) (o := .cells #[.slice A0_0 l0_0.length c0_0, .slice (some ad606) l0_1.length c0_1] 56 (0, 0)) (by (with_reducible repeat (first | apply qn | apply qd | apply qa)); exact BK605.out) hb); have n1_ := qM (qs (by repeat (first | (with_reducible first | exact HB.out | apply qA | apply qN | apply qD | refine qS ?_ GE605.out) | exact HB.out)) hb); have n2_ := qM (hbox); have n3_ := qM ((by rw [hg]; exact (qz (by repeat (first | (with_reducible first | exact HB.out | apply qA | apply qN | apply qD | refine qS ?_ GE605.out) | exact HB.out))) : w.heap.size ≤ gb607)); have n4_ := qM ((by rw [hg]; exact (qz (by repeat (first | (with_reducible first | exact HB.out | apply qA | apply qN | apply qD | refine qS ?_ GE605.out) | exact HB.out))) : w.heap.size ≤ gb607)); have n5_ := qM ((by rw [hg]; exact Nat.ne_of_lt (blk_lt (g := gb605) (o := .cells #[.slice A0_0 l0_0.length c0_0, .slice (some ad606) l0_1.length c0_1] 56 (0, 0)) (by (with_reducible repeat (first | apply qn | apply qd | apply qa)); exact BK605.out)) : gb605 ≠ gb607)); have n6_ := qM ((by rw [hg]; exact Nat.ne_of_gt (blk_lt (g := gb605) (o := .cells #[.slice A0_0 l0_0.length c0_0, .slice (some ad606) l0_1.length c0_1] 56 (0, 0)) (by (with_reducible repeat (first | apply qn | apply qd | apply qa)); exact BK605.out)) : gb607 ≠ gb605)); clear BK605; clear HB; have BK605 := n0_; have HB := n1_; have BK607 := n2_; have GW607 := n3_; have GE607 := n4_; have NB605_607 := n5_; have NB607_605 := n6_; clear n0_ n1_ n2_ n3_ n4_ n5_ n6_; clear hb hbox hg; have hnb18 := NB607_605.out; have hnc18 := NB605_607.out; have hcz19_0 : w17.cell? ⟨gb607, 0, none⟩ = some (.int .i64 0) := (qC BK607.out 0).trans rfl; have hcz19_1 : w17.cell? ⟨gb607, 1, none⟩ = some (.int .i64 0) := (qC BK607.out 1).trans rfl; have hcz19_2 : w17.cell? ⟨gb607, 2, none⟩ = some (.slice none 0 0) := (qC BK607.out 2).trans rfl; have hfz19_0 := qF BK607.out 0; have hfz19_1 := qF BK607.out 1; have hfz19_2 := qF BK607.out 2) | ((with_reducible refine gate_callee (f := 26) rfl ?_); refine goesL_ (some 27) rfl rfl Try.func26 (by kernel_rfl) rfl #[.agg #[.int .i64 ((rd_T30 l0_1 x21_2).f0), .int .i64 ((rd_T30 l0_1 x21_2).f1), .slice A606_2 ((rd_T30 l0_1 x21_2).f2).length c606_2]] rfl (by (try simp only [jC, jD, jE]); first | done | rfl | (simp only [jB, jA]; rfl)) ?_; (with_reducible refine (impl_TaskOk.calls k2 ((rd_T30 l0_1 x21_2).f0) ((rd_T30 l0_1 x21_2).f1) _ _ ((rd_T30 l0_1 x21_2).f2) true _ ?side1 ?side2 A12.out).mono ?_); (case side1 => exact qB HR606_2.out (by repeat (first | (with_reducible first | exact HB.out | apply qA | apply qN | apply qD | refine qS ?_ GE605.out | refine qS ?_ GE607.out) | exact HB.out))); (case side2 => exact HC606_2.out); rintro e w20 ⟨rfl, hb⟩; refine ⟨_, rfl, ?_⟩; have n0_ := qM (blk_below (g := gb605) (o := .cells #[.slice A0_0 l0_0.length c0_0, .slice (some ad606) l0_1.length c0_1] 56 (0, 0)) (by (with_reducible repeat (first | apply qn | apply qd | apply qa)); refine blk_far ?_ NB605_607.out _; (with_reducible repeat (first | apply qn | apply qd | apply qa)); refine blk_far ?_ NB605_607.out _; (with_reducible repeat (first | apply qn | apply qd | apply qa)); refine blk_far ?_ NB605_607.out _; (with_reducible repeat (first | apply qn | apply qd | apply qa)); exact BK605.out) hb); have n1_ := qM (blk_below (g := gb607) (o := .cells #[.int .i64 ((rd_T30 l0_1 x21_2).f0), .int .i64 ((rd_T30 l0_1 x21_2).f1), .slice A606_2 ((rd_T30 l0_1 x21_2).f2).length c606_2] 30 (0, 0)) (by (with_reducible repeat (first | apply qn | apply qd | apply qa)); refine blk_put (cs := #[.int .i64 ((rd_T30 l0_1 x21_2).f0), .int .i64 ((rd_T30 l0_1 x21_2).f1), .slice none 0 0]) ?_ 2 _ rfl; (with_reducible repeat (first | apply qn | apply qd | apply qa)); refine blk_put (cs := #[.int .i64 ((rd_T30 l0_1 x21_2).f0), .int .i64 0, .slice none 0 0]) ?_ 1 _ rfl; (with_reducible repeat (first | apply qn | apply qd | apply qa)); refine blk_put (cs := #[.int .i64 0, .int .i64 0, .slice none 0 0]) ?_ 0 _ rfl; (with_reducible repeat (first | apply qn | apply qd | apply qa)); exact BK607.out) hb); have n2_ := qM (qs (by repeat (first | (with_reducible first | exact HB.out | apply qA | apply qN | apply qD | refine qS ?_ GE605.out | refine qS ?_ GE607.out) | exact HB.out)) hb); clear BK605; clear BK607; clear HB; have BK605 := n0_; have BK607 := n1_; have HB := n2_; clear n0_ n1_ n2_; (try clear hb); (try clear hb2); (try clear hk); (try clear hi); have hcz21_0 : w20.cell? ⟨gb605, 0, none⟩ = some (.slice A0_0 l0_0.length c0_0) := (qC BK605.out 0).trans rfl; have hcz21_1 : w20.cell? ⟨gb605, 1, none⟩ = some (.slice (some ad606) l0_1.length c0_1) := (qC BK605.out 1).trans rfl; have hfz21_0 := qF BK605.out 0; have hfz21_1 := qF BK605.out 1; have p609 : 0 ≤ (x21_2 : Int) := qO (by first | (with_reducible assumption) | assumption); have q609 : x21_2 < (l0_0.length : Int) := qO (by first | (with_reducible assumption) | assumption); obtain ⟨ad609, e609, hx609_0⟩ := Kd.at_bool HR0_0.out x21_2 p609 q609; (try rw [← Nbq15.out] at hx609_0); cases e609; replace hx609_0 := (HB.out.cell (qL w _ hx609_0)).trans hx609_0; replace p609 := eq_true p609; replace q609 := eq_true q609))
            go_roundg k2
            case measure => have := HJ1.out; have := HK2.out; omega
            case rel => exact ⟨(wrap64 (x21_2 + 1)), (by first | rfl | (simp; done) | (simp [*]; done)), H', ⟨by have := HJ1.out; have := HK2.out; omega⟩, ⟨by (with_reducible repeat (first | apply qn | apply qd | apply qa)); exact BK605.out⟩, ⟨by repeat (first | (with_reducible first | exact HB.out | apply qA | apply qN | apply qD | refine qS ?_ GE605.out | refine qS ?_ GE607.out) | exact HB.out)⟩⟩
          replace c16 := Bool.eq_false_iff.mpr c16
          subst c16
          have H1 : (if ((rd_T30 l0_1 x21_2).f0) = 0 then (if ((rd_T30 l0_1 x21_2).f1) = 0 then (impl_SheetOk.l0 k2 l0_1 (l0_1.length : Int) (wrap64 (x21_2 + 1)) l0_0 l0_1) else (some false)) else (some false)) = some r := by rw [if_neg (show ¬ (false = true) by decide)] at H; exact H
          clear H
          have H := H1
          clear H1
          by_cases c22 : ((rd_T30 l0_1 x21_2).f0) = 0
          rotate_left
          · rw [if_neg c22] at H
            have c22b0 : (((rd_T30 l0_1 x21_2).f0) == 0) = false := beq_eq_false_iff_ne.mpr c22
            have c22b1 : (((rd_T30 l0_1 x21_2).f0) != 0) = true := bne_iff_ne.mpr c22
            obtain rfl := jF H
            have p606 : 0 ≤ (x21_2 : Int) := qO (by first | (with_reducible assumption) | assumption)
            have q606 : x21_2 < (l0_1.length : Int) := qO (by first | (with_reducible assumption) | assumption)
            obtain ⟨ad606, A606_2, c606_2, e606, hx606_0, hx606_1, hx606_2, hl606_2, hi606_2⟩ := at_T30 HR0_1.out x21_2 p606 q606
            cases e606
            replace hx606_0 := (HB.out.cell (qL w _ hx606_0)).trans hx606_0
            replace hx606_1 := (HB.out.cell (qL w _ hx606_1)).trans hx606_1
            replace hx606_2 := (HB.out.cell (qL w _ hx606_2)).trans hx606_2
            have HR606_2 := qM hi606_2
            have HC606_2 := qM hl606_2
            clear hi606_2 hl606_2
            replace p606 := eq_true p606
            replace q606 := eq_true q606
            go_wp2_with (first | ((with_reducible refine gate_dst (N := 4) rfl ?_); (try (refine gate_guard (by rfl) ?_; dsimp only)); refine box_event ?hg (N := 4) ?hd (cs := #[.int .i64 0, .int .i64 0, .slice none 0 0]) (t := 30) ?hr ?_; (case hd => rfl); (case hg => rfl); (case hr => first | (go_simp; done) | (go_simp; rfl)); intro gb607 hg w36 hbox hb; have n0_ := qM (blk_below (g := gb605) (o := .cells #[.slice A0_0 l0_0.length c0_0, .slice (some ad606) l0_1.length c0_1] 56 (0, 0)) (by (with_reducible repeat (first | apply qn | apply qd | apply qa)); exact BK605.out) hb); have n1_ := qM (qs (by repeat (first | (with_reducible first | exact HB.out | apply qA | apply qN | apply qD | refine qS ?_ GE605.out) | exact HB.out)) hb); have n2_ := qM (hbox); have n3_ := qM ((by rw [hg]; exact (qz (by repeat (first | (with_reducible first | exact HB.out | apply qA | apply qN | apply qD | refine qS ?_ GE605.out) | exact HB.out))) : w.heap.size ≤ gb607)); have n4_ := qM ((by rw [hg]; exact (qz (by repeat (first | (with_reducible first | exact HB.out | apply qA | apply qN | apply qD | refine qS ?_ GE605.out) | exact HB.out))) : w.heap.size ≤ gb607)); have n5_ := qM ((by rw [hg]; exact Nat.ne_of_lt (blk_lt (g := gb605) (o := .cells #[.slice A0_0 l0_0.length c0_0, .slice (some ad606) l0_1.length c0_1] 56 (0, 0)) (by (with_reducible repeat (first | apply qn | apply qd | apply qa)); exact BK605.out)) : gb605 ≠ gb607)); have n6_ := qM ((by rw [hg]; exact Nat.ne_of_gt (blk_lt (g := gb605) (o := .cells #[.slice A0_0 l0_0.length c0_0, .slice (some ad606) l0_1.length c0_1] 56 (0, 0)) (by (with_reducible repeat (first | apply qn | apply qd | apply qa)); exact BK605.out)) : gb607 ≠ gb605)); clear BK605; clear HB; have BK605 := n0_; have HB := n1_; have BK607 := n2_; have GW607 := n3_; have GE607 := n4_; have NB605_607 := n5_; have NB607_605 := n6_; clear n0_ n1_ n2_ n3_ n4_ n5_ n6_; clear hb hbox hg; have hnb37 := NB607_605.out; have hnc37 := NB605_607.out; have hcz38_0 : w36.cell? ⟨gb607, 0, none⟩ = some (.int .i64 0) := (qC BK607.out 0).trans rfl; have hcz38_1 : w36.cell? ⟨gb607, 1, none⟩ = some (.int .i64 0) := (qC BK607.out 1).trans rfl; have hcz38_2 : w36.cell? ⟨gb607, 2, none⟩ = some (.slice none 0 0) := (qC BK607.out 2).trans rfl; have hfz38_0 := qF BK607.out 0; have hfz38_1 := qF BK607.out 1; have hfz38_2 := qF BK607.out 2) | ((with_reducible refine gate_callee (f := 26) rfl ?_); refine goesL_ (some 27) rfl rfl Try.func26 (by kernel_rfl) rfl #[.agg #[.int .i64 ((rd_T30 l0_1 x21_2).f0), .int .i64 ((rd_T30 l0_1 x21_2).f1), .slice A606_2 ((rd_T30 l0_1 x21_2).f2).length c606_2]] rfl (by (try simp only [jC, jD, jE]); first | done | rfl | (simp only [jB, jA]; rfl)) ?_; (with_reducible refine (impl_TaskOk.calls k2 ((rd_T30 l0_1 x21_2).f0) ((rd_T30 l0_1 x21_2).f1) _ _ ((rd_T30 l0_1 x21_2).f2) true _ ?side1 ?side2 A12.out).mono ?_); (case side1 => exact qB HR606_2.out (by repeat (first | (with_reducible first | exact HB.out | apply qA | apply qN | apply qD | refine qS ?_ GE605.out | refine qS ?_ GE607.out) | exact HB.out))); (case side2 => exact HC606_2.out); rintro e w39 ⟨rfl, hb⟩; refine ⟨_, rfl, ?_⟩; have n0_ := qM (blk_below (g := gb605) (o := .cells #[.slice A0_0 l0_0.length c0_0, .slice (some ad606) l0_1.length c0_1] 56 (0, 0)) (by (with_reducible repeat (first | apply qn | apply qd | apply qa)); refine blk_far ?_ NB605_607.out _; (with_reducible repeat (first | apply qn | apply qd | apply qa)); refine blk_far ?_ NB605_607.out _; (with_reducible repeat (first | apply qn | apply qd | apply qa)); refine blk_far ?_ NB605_607.out _; (with_reducible repeat (first | apply qn | apply qd | apply qa)); exact BK605.out) hb); have n1_ := qM (blk_below (g := gb607) (o := .cells #[.int .i64 ((rd_T30 l0_1 x21_2).f0), .int .i64 ((rd_T30 l0_1 x21_2).f1), .slice A606_2 ((rd_T30 l0_1 x21_2).f2).length c606_2] 30 (0, 0)) (by (with_reducible repeat (first | apply qn | apply qd | apply qa)); refine blk_put (cs := #[.int .i64 ((rd_T30 l0_1 x21_2).f0), .int .i64 ((rd_T30 l0_1 x21_2).f1), .slice none 0 0]) ?_ 2 _ rfl; (with_reducible repeat (first | apply qn | apply qd | apply qa)); refine blk_put (cs := #[.int .i64 ((rd_T30 l0_1 x21_2).f0), .int .i64 0, .slice none 0 0]) ?_ 1 _ rfl; (with_reducible repeat (first | apply qn | apply qd | apply qa)); refine blk_put (cs := #[.int .i64 0, .int .i64 0, .slice none 0 0]) ?_ 0 _ rfl; (with_reducible repeat (first | apply qn | apply qd | apply qa)); exact BK607.out) hb); have n2_ := qM (qs (by repeat (first | (with_reducible first | exact HB.out | apply qA | apply qN | apply qD | refine qS ?_ GE605.out | refine qS ?_ GE607.out) | exact HB.out)) hb); clear BK605; clear BK607; clear HB; have BK605 := n0_; have BK607 := n1_; have HB := n2_; clear n0_ n1_ n2_; (try clear hb); (try clear hb2); (try clear hk); (try clear hi); have hcz40_0 : w39.cell? ⟨gb605, 0, none⟩ = some (.slice A0_0 l0_0.length c0_0) := (qC BK605.out 0).trans rfl; have hcz40_1 : w39.cell? ⟨gb605, 1, none⟩ = some (.slice (some ad606) l0_1.length c0_1) := (qC BK605.out 1).trans rfl; have hfz40_0 := qF BK605.out 0; have hfz40_1 := qF BK605.out 1; have p609 : 0 ≤ (x21_2 : Int) := qO (by first | (with_reducible assumption) | assumption); have q609 : x21_2 < (l0_0.length : Int) := qO (by first | (with_reducible assumption) | assumption); obtain ⟨ad609, e609, hx609_0⟩ := Kd.at_bool HR0_0.out x21_2 p609 q609; (try rw [← Nbq15.out] at hx609_0); cases e609; replace hx609_0 := (HB.out.cell (qL w _ hx609_0)).trans hx609_0; replace p609 := eq_true p609; replace q609 := eq_true q609; have hcz41_0 : w39.cell? ⟨gb607, 0, none⟩ = some (.int .i64 ((rd_T30 l0_1 x21_2).f0)) := (qC BK607.out 0).trans rfl; have hcz41_1 : w39.cell? ⟨gb607, 1, none⟩ = some (.int .i64 ((rd_T30 l0_1 x21_2).f1)) := (qC BK607.out 1).trans rfl; have hcz41_2 : w39.cell? ⟨gb607, 2, none⟩ = some (.slice A606_2 ((rd_T30 l0_1 x21_2).f2).length c606_2) := (qC BK607.out 2).trans rfl; have hfz41_0 := qF BK607.out 0; have hfz41_1 := qF BK607.out 1; have hfz41_2 := qF BK607.out 2))
            go_ret
            exact ⟨by first | rfl | (simp [errW_none, errW_some] <;> rfl) | (simp [*, errW_none, errW_some] <;> rfl), by repeat (first | (with_reducible first | exact HB.out | apply qA | apply qN | apply qD | refine qS ?_ GE605.out | refine qS ?_ GE607.out) | exact HB.out)⟩
          rw [if_pos c22] at H
          have c22b0 : (((rd_T30 l0_1 x21_2).f0) == 0) = true := beq_iff_eq.mpr c22
          have c22b1 : (((rd_T30 l0_1 x21_2).f0) != 0) = false := bne_eq_false_iff_eq.mpr c22
          clear c22
          by_cases c23 : ((rd_T30 l0_1 x21_2).f1) = 0
          rotate_left
          · rw [if_neg c23] at H
            have c23b0 : (((rd_T30 l0_1 x21_2).f1) == 0) = false := beq_eq_false_iff_ne.mpr c23
            have c23b1 : (((rd_T30 l0_1 x21_2).f1) != 0) = true := bne_iff_ne.mpr c23
            obtain rfl := jF H
            have p606 : 0 ≤ (x21_2 : Int) := qO (by first | (with_reducible assumption) | assumption)
            have q606 : x21_2 < (l0_1.length : Int) := qO (by first | (with_reducible assumption) | assumption)
            obtain ⟨ad606, A606_2, c606_2, e606, hx606_0, hx606_1, hx606_2, hl606_2, hi606_2⟩ := at_T30 HR0_1.out x21_2 p606 q606
            cases e606
            replace hx606_0 := (HB.out.cell (qL w _ hx606_0)).trans hx606_0
            replace hx606_1 := (HB.out.cell (qL w _ hx606_1)).trans hx606_1
            replace hx606_2 := (HB.out.cell (qL w _ hx606_2)).trans hx606_2
            have HR606_2 := qM hi606_2
            have HC606_2 := qM hl606_2
            clear hi606_2 hl606_2
            replace p606 := eq_true p606
            replace q606 := eq_true q606
            go_wp2_with (first | ((with_reducible refine gate_dst (N := 4) rfl ?_); (try (refine gate_guard (by rfl) ?_; dsimp only)); refine box_event ?hg (N := 4) ?hd (cs := #[.int .i64 0, .int .i64 0, .slice none 0 0]) (t := 30) ?hr ?_; (case hd => rfl); (case hg => rfl); (case hr => first | (go_simp; done) | (go_simp; rfl)); intro gb607 hg w30 hbox hb; have n0_ := qM (blk_below (g := gb605) (o := .cells #[.slice A0_0 l0_0.length c0_0, .slice (some ad606) l0_1.length c0_1] 56 (0, 0)) (by (with_reducible repeat (first | apply qn | apply qd | apply qa)); exact BK605.out) hb); have n1_ := qM (qs (by repeat (first | (with_reducible first | exact HB.out | apply qA | apply qN | apply qD | refine qS ?_ GE605.out) | exact HB.out)) hb); have n2_ := qM (hbox); have n3_ := qM ((by rw [hg]; exact (qz (by repeat (first | (with_reducible first | exact HB.out | apply qA | apply qN | apply qD | refine qS ?_ GE605.out) | exact HB.out))) : w.heap.size ≤ gb607)); have n4_ := qM ((by rw [hg]; exact (qz (by repeat (first | (with_reducible first | exact HB.out | apply qA | apply qN | apply qD | refine qS ?_ GE605.out) | exact HB.out))) : w.heap.size ≤ gb607)); have n5_ := qM ((by rw [hg]; exact Nat.ne_of_lt (blk_lt (g := gb605) (o := .cells #[.slice A0_0 l0_0.length c0_0, .slice (some ad606) l0_1.length c0_1] 56 (0, 0)) (by (with_reducible repeat (first | apply qn | apply qd | apply qa)); exact BK605.out)) : gb605 ≠ gb607)); have n6_ := qM ((by rw [hg]; exact Nat.ne_of_gt (blk_lt (g := gb605) (o := .cells #[.slice A0_0 l0_0.length c0_0, .slice (some ad606) l0_1.length c0_1] 56 (0, 0)) (by (with_reducible repeat (first | apply qn | apply qd | apply qa)); exact BK605.out)) : gb607 ≠ gb605)); clear BK605; clear HB; have BK605 := n0_; have HB := n1_; have BK607 := n2_; have GW607 := n3_; have GE607 := n4_; have NB605_607 := n5_; have NB607_605 := n6_; clear n0_ n1_ n2_ n3_ n4_ n5_ n6_; clear hb hbox hg; have hnb31 := NB607_605.out; have hnc31 := NB605_607.out; have hcz32_0 : w30.cell? ⟨gb607, 0, none⟩ = some (.int .i64 0) := (qC BK607.out 0).trans rfl; have hcz32_1 : w30.cell? ⟨gb607, 1, none⟩ = some (.int .i64 0) := (qC BK607.out 1).trans rfl; have hcz32_2 : w30.cell? ⟨gb607, 2, none⟩ = some (.slice none 0 0) := (qC BK607.out 2).trans rfl; have hfz32_0 := qF BK607.out 0; have hfz32_1 := qF BK607.out 1; have hfz32_2 := qF BK607.out 2) | ((with_reducible refine gate_callee (f := 26) rfl ?_); refine goesL_ (some 27) rfl rfl Try.func26 (by kernel_rfl) rfl #[.agg #[.int .i64 ((rd_T30 l0_1 x21_2).f0), .int .i64 ((rd_T30 l0_1 x21_2).f1), .slice A606_2 ((rd_T30 l0_1 x21_2).f2).length c606_2]] rfl (by (try simp only [jC, jD, jE]); first | done | rfl | (simp only [jB, jA]; rfl)) ?_; (with_reducible refine (impl_TaskOk.calls k2 ((rd_T30 l0_1 x21_2).f0) ((rd_T30 l0_1 x21_2).f1) _ _ ((rd_T30 l0_1 x21_2).f2) true _ ?side1 ?side2 A12.out).mono ?_); (case side1 => exact qB HR606_2.out (by repeat (first | (with_reducible first | exact HB.out | apply qA | apply qN | apply qD | refine qS ?_ GE605.out | refine qS ?_ GE607.out) | exact HB.out))); (case side2 => exact HC606_2.out); rintro e w33 ⟨rfl, hb⟩; refine ⟨_, rfl, ?_⟩; have n0_ := qM (blk_below (g := gb605) (o := .cells #[.slice A0_0 l0_0.length c0_0, .slice (some ad606) l0_1.length c0_1] 56 (0, 0)) (by (with_reducible repeat (first | apply qn | apply qd | apply qa)); refine blk_far ?_ NB605_607.out _; (with_reducible repeat (first | apply qn | apply qd | apply qa)); refine blk_far ?_ NB605_607.out _; (with_reducible repeat (first | apply qn | apply qd | apply qa)); refine blk_far ?_ NB605_607.out _; (with_reducible repeat (first | apply qn | apply qd | apply qa)); exact BK605.out) hb); have n1_ := qM (blk_below (g := gb607) (o := .cells #[.int .i64 ((rd_T30 l0_1 x21_2).f0), .int .i64 ((rd_T30 l0_1 x21_2).f1), .slice A606_2 ((rd_T30 l0_1 x21_2).f2).length c606_2] 30 (0, 0)) (by (with_reducible repeat (first | apply qn | apply qd | apply qa)); refine blk_put (cs := #[.int .i64 ((rd_T30 l0_1 x21_2).f0), .int .i64 ((rd_T30 l0_1 x21_2).f1), .slice none 0 0]) ?_ 2 _ rfl; (with_reducible repeat (first | apply qn | apply qd | apply qa)); refine blk_put (cs := #[.int .i64 ((rd_T30 l0_1 x21_2).f0), .int .i64 0, .slice none 0 0]) ?_ 1 _ rfl; (with_reducible repeat (first | apply qn | apply qd | apply qa)); refine blk_put (cs := #[.int .i64 0, .int .i64 0, .slice none 0 0]) ?_ 0 _ rfl; (with_reducible repeat (first | apply qn | apply qd | apply qa)); exact BK607.out) hb); have n2_ := qM (qs (by repeat (first | (with_reducible first | exact HB.out | apply qA | apply qN | apply qD | refine qS ?_ GE605.out | refine qS ?_ GE607.out) | exact HB.out)) hb); clear BK605; clear BK607; clear HB; have BK605 := n0_; have BK607 := n1_; have HB := n2_; clear n0_ n1_ n2_; (try clear hb); (try clear hb2); (try clear hk); (try clear hi); have hcz34_0 : w33.cell? ⟨gb605, 0, none⟩ = some (.slice A0_0 l0_0.length c0_0) := (qC BK605.out 0).trans rfl; have hcz34_1 : w33.cell? ⟨gb605, 1, none⟩ = some (.slice (some ad606) l0_1.length c0_1) := (qC BK605.out 1).trans rfl; have hfz34_0 := qF BK605.out 0; have hfz34_1 := qF BK605.out 1; have p609 : 0 ≤ (x21_2 : Int) := qO (by first | (with_reducible assumption) | assumption); have q609 : x21_2 < (l0_0.length : Int) := qO (by first | (with_reducible assumption) | assumption); obtain ⟨ad609, e609, hx609_0⟩ := Kd.at_bool HR0_0.out x21_2 p609 q609; (try rw [← Nbq15.out] at hx609_0); cases e609; replace hx609_0 := (HB.out.cell (qL w _ hx609_0)).trans hx609_0; replace p609 := eq_true p609; replace q609 := eq_true q609; have hcz35_0 : w33.cell? ⟨gb607, 0, none⟩ = some (.int .i64 ((rd_T30 l0_1 x21_2).f0)) := (qC BK607.out 0).trans rfl; have hcz35_1 : w33.cell? ⟨gb607, 1, none⟩ = some (.int .i64 ((rd_T30 l0_1 x21_2).f1)) := (qC BK607.out 1).trans rfl; have hcz35_2 : w33.cell? ⟨gb607, 2, none⟩ = some (.slice A606_2 ((rd_T30 l0_1 x21_2).f2).length c606_2) := (qC BK607.out 2).trans rfl; have hfz35_0 := qF BK607.out 0; have hfz35_1 := qF BK607.out 1; have hfz35_2 := qF BK607.out 2))
            go_ret
            exact ⟨by first | rfl | (simp [errW_none, errW_some] <;> rfl) | (simp [*, errW_none, errW_some] <;> rfl), by repeat (first | (with_reducible first | exact HB.out | apply qA | apply qN | apply qD | refine qS ?_ GE605.out | refine qS ?_ GE607.out) | exact HB.out)⟩
          rw [if_pos c23] at H
          have c23b0 : (((rd_T30 l0_1 x21_2).f1) == 0) = true := beq_iff_eq.mpr c23
          have c23b1 : (((rd_T30 l0_1 x21_2).f1) != 0) = false := bne_eq_false_iff_eq.mpr c23
          clear c23
          have H' := qM H
          clear H
          have p606 : 0 ≤ (x21_2 : Int) := qO (by first | (with_reducible assumption) | assumption)
          have q606 : x21_2 < (l0_1.length : Int) := qO (by first | (with_reducible assumption) | assumption)
          obtain ⟨ad606, A606_2, c606_2, e606, hx606_0, hx606_1, hx606_2, hl606_2, hi606_2⟩ := at_T30 HR0_1.out x21_2 p606 q606
          cases e606
          replace hx606_0 := (HB.out.cell (qL w _ hx606_0)).trans hx606_0
          replace hx606_1 := (HB.out.cell (qL w _ hx606_1)).trans hx606_1
          replace hx606_2 := (HB.out.cell (qL w _ hx606_2)).trans hx606_2
          have HR606_2 := qM hi606_2
          have HC606_2 := qM hl606_2
          clear hi606_2 hl606_2
          replace p606 := eq_true p606
          replace q606 := eq_true q606
          go_wp2_with (first | ((with_reducible refine gate_dst (N := 4) rfl ?_); (try (refine gate_guard (by rfl) ?_; dsimp only)); refine box_event ?hg (N := 4) ?hd (cs := #[.int .i64 0, .int .i64 0, .slice none 0 0]) (t := 30) ?hr ?_; (case hd => rfl); (case hg => rfl); (case hr => first | (go_simp; done) | (go_simp; rfl)); intro gb607 hg w24 hbox hb; have n0_ := qM (blk_below (g := gb605) (o := .cells #[.slice A0_0 l0_0.length c0_0, .slice (some ad606) l0_1.length c0_1] 56 (0, 0)) (by (with_reducible repeat (first | apply qn | apply qd | apply qa)); exact BK605.out) hb); have n1_ := qM (qs (by repeat (first | (with_reducible first | exact HB.out | apply qA | apply qN | apply qD | refine qS ?_ GE605.out) | exact HB.out)) hb); have n2_ := qM (hbox); have n3_ := qM ((by rw [hg]; exact (qz (by repeat (first | (with_reducible first | exact HB.out | apply qA | apply qN | apply qD | refine qS ?_ GE605.out) | exact HB.out))) : w.heap.size ≤ gb607)); have n4_ := qM ((by rw [hg]; exact (qz (by repeat (first | (with_reducible first | exact HB.out | apply qA | apply qN | apply qD | refine qS ?_ GE605.out) | exact HB.out))) : w.heap.size ≤ gb607)); have n5_ := qM ((by rw [hg]; exact Nat.ne_of_lt (blk_lt (g := gb605) (o := .cells #[.slice A0_0 l0_0.length c0_0, .slice (some ad606) l0_1.length c0_1] 56 (0, 0)) (by (with_reducible repeat (first | apply qn | apply qd | apply qa)); exact BK605.out)) : gb605 ≠ gb607)); have n6_ := qM ((by rw [hg]; exact Nat.ne_of_gt (blk_lt (g := gb605) (o := .cells #[.slice A0_0 l0_0.length c0_0, .slice (some ad606) l0_1.length c0_1] 56 (0, 0)) (by (with_reducible repeat (first | apply qn | apply qd | apply qa)); exact BK605.out)) : gb607 ≠ gb605)); clear BK605; clear HB; have BK605 := n0_; have HB := n1_; have BK607 := n2_; have GW607 := n3_; have GE607 := n4_; have NB605_607 := n5_; have NB607_605 := n6_; clear n0_ n1_ n2_ n3_ n4_ n5_ n6_; clear hb hbox hg; have hnb25 := NB607_605.out; have hnc25 := NB605_607.out; have hcz26_0 : w24.cell? ⟨gb607, 0, none⟩ = some (.int .i64 0) := (qC BK607.out 0).trans rfl; have hcz26_1 : w24.cell? ⟨gb607, 1, none⟩ = some (.int .i64 0) := (qC BK607.out 1).trans rfl; have hcz26_2 : w24.cell? ⟨gb607, 2, none⟩ = some (.slice none 0 0) := (qC BK607.out 2).trans rfl; have hfz26_0 := qF BK607.out 0; have hfz26_1 := qF BK607.out 1; have hfz26_2 := qF BK607.out 2) | ((with_reducible refine gate_callee (f := 26) rfl ?_); refine goesL_ (some 27) rfl rfl Try.func26 (by kernel_rfl) rfl #[.agg #[.int .i64 ((rd_T30 l0_1 x21_2).f0), .int .i64 ((rd_T30 l0_1 x21_2).f1), .slice A606_2 ((rd_T30 l0_1 x21_2).f2).length c606_2]] rfl (by (try simp only [jC, jD, jE]); first | done | rfl | (simp only [jB, jA]; rfl)) ?_; (with_reducible refine (impl_TaskOk.calls k2 ((rd_T30 l0_1 x21_2).f0) ((rd_T30 l0_1 x21_2).f1) _ _ ((rd_T30 l0_1 x21_2).f2) true _ ?side1 ?side2 A12.out).mono ?_); (case side1 => exact qB HR606_2.out (by repeat (first | (with_reducible first | exact HB.out | apply qA | apply qN | apply qD | refine qS ?_ GE605.out | refine qS ?_ GE607.out) | exact HB.out))); (case side2 => exact HC606_2.out); rintro e w27 ⟨rfl, hb⟩; refine ⟨_, rfl, ?_⟩; have n0_ := qM (blk_below (g := gb605) (o := .cells #[.slice A0_0 l0_0.length c0_0, .slice (some ad606) l0_1.length c0_1] 56 (0, 0)) (by (with_reducible repeat (first | apply qn | apply qd | apply qa)); refine blk_far ?_ NB605_607.out _; (with_reducible repeat (first | apply qn | apply qd | apply qa)); refine blk_far ?_ NB605_607.out _; (with_reducible repeat (first | apply qn | apply qd | apply qa)); refine blk_far ?_ NB605_607.out _; (with_reducible repeat (first | apply qn | apply qd | apply qa)); exact BK605.out) hb); have n1_ := qM (blk_below (g := gb607) (o := .cells #[.int .i64 ((rd_T30 l0_1 x21_2).f0), .int .i64 ((rd_T30 l0_1 x21_2).f1), .slice A606_2 ((rd_T30 l0_1 x21_2).f2).length c606_2] 30 (0, 0)) (by (with_reducible repeat (first | apply qn | apply qd | apply qa)); refine blk_put (cs := #[.int .i64 ((rd_T30 l0_1 x21_2).f0), .int .i64 ((rd_T30 l0_1 x21_2).f1), .slice none 0 0]) ?_ 2 _ rfl; (with_reducible repeat (first | apply qn | apply qd | apply qa)); refine blk_put (cs := #[.int .i64 ((rd_T30 l0_1 x21_2).f0), .int .i64 0, .slice none 0 0]) ?_ 1 _ rfl; (with_reducible repeat (first | apply qn | apply qd | apply qa)); refine blk_put (cs := #[.int .i64 0, .int .i64 0, .slice none 0 0]) ?_ 0 _ rfl; (with_reducible repeat (first | apply qn | apply qd | apply qa)); exact BK607.out) hb); have n2_ := qM (qs (by repeat (first | (with_reducible first | exact HB.out | apply qA | apply qN | apply qD | refine qS ?_ GE605.out | refine qS ?_ GE607.out) | exact HB.out)) hb); clear BK605; clear BK607; clear HB; have BK605 := n0_; have BK607 := n1_; have HB := n2_; clear n0_ n1_ n2_; (try clear hb); (try clear hb2); (try clear hk); (try clear hi); have hcz28_0 : w27.cell? ⟨gb605, 0, none⟩ = some (.slice A0_0 l0_0.length c0_0) := (qC BK605.out 0).trans rfl; have hcz28_1 : w27.cell? ⟨gb605, 1, none⟩ = some (.slice (some ad606) l0_1.length c0_1) := (qC BK605.out 1).trans rfl; have hfz28_0 := qF BK605.out 0; have hfz28_1 := qF BK605.out 1; have p609 : 0 ≤ (x21_2 : Int) := qO (by first | (with_reducible assumption) | assumption); have q609 : x21_2 < (l0_0.length : Int) := qO (by first | (with_reducible assumption) | assumption); obtain ⟨ad609, e609, hx609_0⟩ := Kd.at_bool HR0_0.out x21_2 p609 q609; (try rw [← Nbq15.out] at hx609_0); cases e609; replace hx609_0 := (HB.out.cell (qL w _ hx609_0)).trans hx609_0; replace p609 := eq_true p609; replace q609 := eq_true q609; have hcz29_0 : w27.cell? ⟨gb607, 0, none⟩ = some (.int .i64 ((rd_T30 l0_1 x21_2).f0)) := (qC BK607.out 0).trans rfl; have hcz29_1 : w27.cell? ⟨gb607, 1, none⟩ = some (.int .i64 ((rd_T30 l0_1 x21_2).f1)) := (qC BK607.out 1).trans rfl; have hcz29_2 : w27.cell? ⟨gb607, 2, none⟩ = some (.slice A606_2 ((rd_T30 l0_1 x21_2).f2).length c606_2) := (qC BK607.out 2).trans rfl; have hfz29_0 := qF BK607.out 0; have hfz29_1 := qF BK607.out 1; have hfz29_2 := qF BK607.out 2))
          go_roundg k2
          case measure => have := HJ1.out; have := HK2.out; omega
          case rel => exact ⟨(wrap64 (x21_2 + 1)), (by first | rfl | (simp; done) | (simp [*]; done)), H', ⟨by have := HJ1.out; have := HK2.out; omega⟩, ⟨by (with_reducible repeat (first | apply qn | apply qd | apply qa)); exact BK605.out⟩, ⟨by repeat (first | (with_reducible first | exact HB.out | apply qA | apply qN | apply qD | refine qS ?_ GE605.out | refine qS ?_ GE607.out) | exact HB.out)⟩⟩
def impl_Sheet_has.f (l0_0 : List Bool) (l0_1 : List (S30)) (a1 : Int) : Option (Bool) := if a1 ≥ 0 then (some (decide (a1 < (l0_0.length : Int)))) else (some false)
theorem impl_Sheet_has.calls (A0_0 : Option Addr) (c0_0 : Nat) (l0_0 : List Bool) (A0_1 : Option Addr) (c0_1 : Nat) (l0_1 : List (S30)) (a1 : Int) (r : Bool) (w : World) (hr0_0 : Kd.C Kd.bool w A0_0 l0_0.length l0_0) (hc0_0 : l0_0.length ≤ c0_0) (hr0_1 : Kd.C k30 w A0_1 l0_1.length l0_1) (hc0_1 : l0_1.length ≤ c0_1) (h : impl_Sheet_has.f l0_0 l0_1 a1 = some r) :
    Calls Try.prog 124 #[.agg #[.slice A0_0 l0_0.length c0_0, .slice A0_1 l0_1.length c0_1], .int .i64 a1] w fun e w' => e = .returned (.bool r) ∧ Below w.heap.size w w' := by
  have hu56 := Try.underlying56
  have HR0_0 := qM hr0_0
  have HC0_0 := qM hc0_0
  clear hr0_0 hc0_0
  have HR0_1 := qM hr0_1
  have HC0_1 := qM hc0_1
  clear hr0_1 hc0_1
  have HB := qM (Below.refl w.heap.size w)
  have H : (if a1 ≥ 0 then (some (decide (a1 < (l0_0.length : Int)))) else (some false)) = some r := h
  clear h
  by_cases c3 : a1 ≥ 0
  rotate_left
  · rw [if_neg c3] at H
    have c3b0 : decide (0 ≤ a1) = false := decide_eq_false c3
    clear c3
    obtain rfl := jF H
    go_enter Try.func124, Try.ntmps124
    go_wp2_with (first | ((with_reducible refine gate_dst (N := 2) rfl ?_); (try (refine gate_guard (by rfl) ?_; dsimp only)); refine box_event ?hg (N := 2) ?hd (cs := #[.slice A0_0 l0_0.length c0_0, .slice A0_1 l0_1.length c0_1]) (t := 56) ?hr ?_; (case hd => rfl); (case hg => rfl); (case hr => first | (go_simp; done) | (go_simp; rfl)); intro gb610 hg w6 hbox hb; have n0_ := qM (qs (by repeat (first | (with_reducible first | exact HB.out | apply qA | apply qN | apply qD) | exact HB.out)) hb); have n1_ := qM (hbox); have n2_ := qM ((by rw [hg]; exact (qz (by repeat (first | (with_reducible first | exact HB.out | apply qA | apply qN | apply qD) | exact HB.out))) : w.heap.size ≤ gb610)); have n3_ := qM ((by rw [hg]; exact (qz (by repeat (first | (with_reducible first | exact HB.out | apply qA | apply qN | apply qD) | exact HB.out))) : w.heap.size ≤ gb610)); clear HB; have HB := n0_; have BK610 := n1_; have GW610 := n2_; have GE610 := n3_; clear n0_ n1_ n2_ n3_; clear hb hbox hg))
    go_ret
    exact ⟨by first | rfl | (simp [errW_none, errW_some] <;> rfl) | (simp [*, errW_none, errW_some] <;> rfl), by repeat (first | (with_reducible first | exact HB.out | apply qA | apply qN | apply qD | refine qS ?_ GE610.out) | exact HB.out)⟩
  rw [if_pos c3] at H
  have c3b0 : decide (0 ≤ a1) = true := decide_eq_true c3
  clear c3
  obtain rfl := jF H
  go_enter Try.func124, Try.ntmps124
  go_wp2_with (first | ((with_reducible refine gate_dst (N := 2) rfl ?_); (try (refine gate_guard (by rfl) ?_; dsimp only)); refine box_event ?hg (N := 2) ?hd (cs := #[.slice A0_0 l0_0.length c0_0, .slice A0_1 l0_1.length c0_1]) (t := 56) ?hr ?_; (case hd => rfl); (case hg => rfl); (case hr => first | (go_simp; done) | (go_simp; rfl)); intro gb610 hg w4 hbox hb; have n0_ := qM (qs (by repeat (first | (with_reducible first | exact HB.out | apply qA | apply qN | apply qD) | exact HB.out)) hb); have n1_ := qM (hbox); have n2_ := qM ((by rw [hg]; exact (qz (by repeat (first | (with_reducible first | exact HB.out | apply qA | apply qN | apply qD) | exact HB.out))) : w.heap.size ≤ gb610)); have n3_ := qM ((by rw [hg]; exact (qz (by repeat (first | (with_reducible first | exact HB.out | apply qA | apply qN | apply qD) | exact HB.out))) : w.heap.size ≤ gb610)); clear HB; have HB := n0_; have BK610 := n1_; have GW610 := n2_; have GE610 := n3_; clear n0_ n1_ n2_ n3_; clear hb hbox hg; have hcz5_0 : w4.cell? ⟨gb610, 0, none⟩ = some (.slice A0_0 l0_0.length c0_0) := (qC BK610.out 0).trans rfl; have hcz5_1 : w4.cell? ⟨gb610, 1, none⟩ = some (.slice A0_1 l0_1.length c0_1) := (qC BK610.out 1).trans rfl; have hfz5_0 := qF BK610.out 0; have hfz5_1 := qF BK610.out 1))
  go_ret
  exact ⟨by first | rfl | (simp [errW_none, errW_some] <;> rfl) | (simp [*, errW_none, errW_some] <;> rfl), by repeat (first | (with_reducible first | exact HB.out | apply qA | apply qN | apply qD | refine qS ?_ GE610.out) | exact HB.out)⟩
end Go.Proofs.Ytgbjbpjmbghlbaa.G
end
section
namespace Go.Proofs.Ytgbjbpjmbghlbaa.G
open Go.RowKit Go.Proofs.YtgbjbpjmbghlbaaW.PrintWords Go.Proofs.YtgbjbpjmbghlbaaW.PrintLast Go.Proofs.YtgbjbpjmbghlbaaW.PrintMore
attribute [local go_sem] max2_int min2_int max_two min_two max_three min_three max_four min_four
def impl_Sheet_makes.f (l0_0 : List Bool) (l0_1 : List (S30)) (a1 : Int) : Option (Bool) := (impl_Sheet_has.f l0_0 l0_1 a1).bind fun t612 => (if t612 = true then (if 0 ≤ a1 then (if a1 < (l0_0.length : Int) then (some (rdOf false l0_0 a1)) else (none)) else (none)) else (some false))
theorem impl_Sheet_makes.calls (A0_0 : Option Addr) (c0_0 : Nat) (l0_0 : List Bool) (A0_1 : Option Addr) (c0_1 : Nat) (l0_1 : List (S30)) (a1 : Int) (r : Bool) (w : World) (hr0_0 : Kd.C Kd.bool w A0_0 l0_0.length l0_0) (hc0_0 : l0_0.length ≤ c0_0) (hr0_1 : Kd.C k30 w A0_1 l0_1.length l0_1) (hc0_1 : l0_1.length ≤ c0_1) (h : impl_Sheet_makes.f l0_0 l0_1 a1 = some r) :
    Calls Try.prog 94 #[.agg #[.slice A0_0 l0_0.length c0_0, .slice A0_1 l0_1.length c0_1], .int .i64 a1] w fun e w' => e = .returned (.bool r) ∧ Below w.heap.size w w' := by
  have hu56 := Try.underlying56
  have HR0_0 := qM hr0_0
  have HC0_0 := qM hc0_0
  clear hr0_0 hc0_0
  have HR0_1 := qM hr0_1
  have HC0_1 := qM hc0_1
  clear hr0_1 hc0_1
  have HB := qM (Below.refl w.heap.size w)
  have H : ((impl_Sheet_has.f l0_0 l0_1 a1).bind fun t612 => (if t612 = true then (if 0 ≤ a1 then (if a1 < (l0_0.length : Int) then (some (rdOf false l0_0 a1)) else (none)) else (none)) else (some false))) = some r := h
  clear h
  replace H := jG H
  obtain ⟨t612, A30, H⟩ := H
  replace H : (if t612 = true then (if 0 ≤ a1 then (if a1 < (l0_0.length : Int) then (some (rdOf false l0_0 a1)) else (none)) else (none)) else (some false)) = some r := H
  have A3 := qM A30
  clear A30
  by_cases c4 : t612 = true
  rotate_left
  · replace c4 := Bool.eq_false_iff.mpr c4
    subst c4
    have H1 : (some false) = some r := by rw [if_neg (show ¬ (false = true) by decide)] at H; exact H
    clear H
    have H := H1
    clear H1
    obtain rfl := jF H
    go_enter Try.func94, Try.ntmps94
    go_wp2_with (first | ((with_reducible refine gate_dst (N := 2) rfl ?_); refine box_event ?hg (N := 2) ?hd (cs := #[.slice A0_0 l0_0.length c0_0, .slice A0_1 l0_1.length c0_1]) (t := 56) ?hr ?_; (case hd => rfl); (case hg => rfl); (case hr => first | (go_simp; done) | (go_simp; rfl)); intro gb611 hg w11 hbox hb; have n0_ := qM (qs (by repeat (first | (with_reducible first | exact HB.out | apply qA | apply qN | apply qD) | exact HB.out)) hb); have n1_ := qM (hbox); have n2_ := qM ((by rw [hg]; exact (qz (by repeat (first | (with_reducible first | exact HB.out | apply qA | apply qN | apply qD) | exact HB.out))) : w.heap.size ≤ gb611)); have n3_ := qM ((by rw [hg]; exact (qz (by repeat (first | (with_reducible first | exact HB.out | apply qA | apply qN | apply qD) | exact HB.out))) : w.heap.size ≤ gb611)); clear HB; have HB := n0_; have BK611 := n1_; have GW611 := n2_; have GE611 := n3_; clear n0_ n1_ n2_ n3_; clear hb hbox hg; have hcz12_0 : w11.cell? ⟨gb611, 0, none⟩ = some (.slice A0_0 l0_0.length c0_0) := (qC BK611.out 0).trans rfl; have hcz12_1 : w11.cell? ⟨gb611, 1, none⟩ = some (.slice A0_1 l0_1.length c0_1) := (qC BK611.out 1).trans rfl; have hfz12_0 := qF BK611.out 0; have hfz12_1 := qF BK611.out 1) | ((with_reducible refine gate_callee (f := 124) rfl ?_); refine goesL_ (some 7) rfl rfl Try.func124 (by kernel_rfl) rfl #[.agg #[.slice A0_0 l0_0.length c0_0, .slice A0_1 l0_1.length c0_1], .int .i64 a1] rfl (by (try simp only [jC, jD, jE]); first | done | rfl | (simp only [jB, jA]; rfl)) ?_; (with_reducible refine (impl_Sheet_has.calls _ _ l0_0 _ _ l0_1 a1 false _ ?side1 ?side2 ?side3 ?side4 A3.out).mono ?_); (case side1 => repeat (first | exact (qB HR0_0.out HB.out) | (with_reducible refine qc ?_ _) | (with_reducible refine qe ?_ _) | (with_reducible refine qf ?_))); (case side2 => exact HC0_0.out); (case side3 => repeat (first | exact (qB HR0_1.out HB.out) | (with_reducible refine qc ?_ _) | (with_reducible refine qe ?_ _) | (with_reducible refine qf ?_))); (case side4 => exact HC0_1.out); rintro e w13 ⟨rfl, hb⟩; refine ⟨_, rfl, ?_⟩; have n0_ := qM (blk_below (g := gb611) (o := .cells #[.slice A0_0 l0_0.length c0_0, .slice A0_1 l0_1.length c0_1] 56 (0, 0)) (by (with_reducible repeat (first | apply qn | apply qd | apply qa)); exact BK611.out) hb); have n1_ := qM (qs (by repeat (first | (with_reducible first | exact HB.out | apply qA | apply qN | apply qD | refine qS ?_ GE611.out) | exact HB.out)) hb); clear BK611; clear HB; have BK611 := n0_; have HB := n1_; clear n0_ n1_; (try clear hb); (try clear hb2); (try clear hk); (try clear hi)))
    go_ret
    exact ⟨by first | rfl | (simp [errW_none, errW_some] <;> rfl) | (simp [*, errW_none, errW_some] <;> rfl), by repeat (first | (with_reducible first | exact HB.out | apply qA | apply qN | apply qD | refine qS ?_ GE611.out) | exact HB.out)⟩
  subst c4
  have H1 : (if 0 ≤ a1 then (if a1 < (l0_0.length : Int) then (some (rdOf false l0_0 a1)) else (none)) else (none)) = some r := by rw [if_pos rfl] at H; exact H
  clear H
  have H := H1
  clear H1
  by_cases c5 : 0 ≤ a1
  rotate_left
  · rw [if_neg c5] at H
    exact absurd H (by simp)
  rw [if_pos c5] at H
  have c5b0 : decide (0 ≤ a1) = true := decide_eq_true c5
  clear c5
  by_cases c6 : a1 < (l0_0.length : Int)
  rotate_left
  · rw [if_neg c6] at H
    exact absurd H (by simp)
  rw [if_pos c6] at H
  have c6b0 : decide (a1 < (l0_0.length : Int)) = true := decide_eq_true c6
  clear c6
  obtain rfl := jF H
  go_enter Try.func94, Try.ntmps94
  go_wp2_with (first | ((with_reducible refine gate_dst (N := 2) rfl ?_); refine box_event ?hg (N := 2) ?hd (cs := #[.slice A0_0 l0_0.length c0_0, .slice A0_1 l0_1.length c0_1]) (t := 56) ?hr ?_; (case hd => rfl); (case hg => rfl); (case hr => first | (go_simp; done) | (go_simp; rfl)); intro gb611 hg w7 hbox hb; have n0_ := qM (qs (by repeat (first | (with_reducible first | exact HB.out | apply qA | apply qN | apply qD) | exact HB.out)) hb); have n1_ := qM (hbox); have n2_ := qM ((by rw [hg]; exact (qz (by repeat (first | (with_reducible first | exact HB.out | apply qA | apply qN | apply qD) | exact HB.out))) : w.heap.size ≤ gb611)); have n3_ := qM ((by rw [hg]; exact (qz (by repeat (first | (with_reducible first | exact HB.out | apply qA | apply qN | apply qD) | exact HB.out))) : w.heap.size ≤ gb611)); clear HB; have HB := n0_; have BK611 := n1_; have GW611 := n2_; have GE611 := n3_; clear n0_ n1_ n2_ n3_; clear hb hbox hg; have hcz8_0 : w7.cell? ⟨gb611, 0, none⟩ = some (.slice A0_0 l0_0.length c0_0) := (qC BK611.out 0).trans rfl; have hcz8_1 : w7.cell? ⟨gb611, 1, none⟩ = some (.slice A0_1 l0_1.length c0_1) := (qC BK611.out 1).trans rfl; have hfz8_0 := qF BK611.out 0; have hfz8_1 := qF BK611.out 1) | ((with_reducible refine gate_callee (f := 124) rfl ?_); refine goesL_ (some 7) rfl rfl Try.func124 (by kernel_rfl) rfl #[.agg #[.slice A0_0 l0_0.length c0_0, .slice A0_1 l0_1.length c0_1], .int .i64 a1] rfl (by (try simp only [jC, jD, jE]); first | done | rfl | (simp only [jB, jA]; rfl)) ?_; (with_reducible refine (impl_Sheet_has.calls _ _ l0_0 _ _ l0_1 a1 true _ ?side1 ?side2 ?side3 ?side4 A3.out).mono ?_); (case side1 => repeat (first | exact (qB HR0_0.out HB.out) | (with_reducible refine qc ?_ _) | (with_reducible refine qe ?_ _) | (with_reducible refine qf ?_))); (case side2 => exact HC0_0.out); (case side3 => repeat (first | exact (qB HR0_1.out HB.out) | (with_reducible refine qc ?_ _) | (with_reducible refine qe ?_ _) | (with_reducible refine qf ?_))); (case side4 => exact HC0_1.out); rintro e w9 ⟨rfl, hb⟩; refine ⟨_, rfl, ?_⟩; have n0_ := qM (blk_below (g := gb611) (o := .cells #[.slice A0_0 l0_0.length c0_0, .slice A0_1 l0_1.length c0_1] 56 (0, 0)) (by (with_reducible repeat (first | apply qn | apply qd | apply qa)); exact BK611.out) hb); have n1_ := qM (qs (by repeat (first | (with_reducible first | exact HB.out | apply qA | apply qN | apply qD | refine qS ?_ GE611.out) | exact HB.out)) hb); clear BK611; clear HB; have BK611 := n0_; have HB := n1_; clear n0_ n1_; (try clear hb); (try clear hb2); (try clear hk); (try clear hi); have hcz10_0 : w9.cell? ⟨gb611, 0, none⟩ = some (.slice A0_0 l0_0.length c0_0) := (qC BK611.out 0).trans rfl; have hcz10_1 : w9.cell? ⟨gb611, 1, none⟩ = some (.slice A0_1 l0_1.length c0_1) := (qC BK611.out 1).trans rfl; have hfz10_0 := qF BK611.out 0; have hfz10_1 := qF BK611.out 1; have p613 : 0 ≤ (a1 : Int) := qO (by first | (with_reducible assumption) | assumption); have q613 : a1 < (l0_0.length : Int) := qO (by first | (with_reducible assumption) | assumption); obtain ⟨ad613, e613, hx613_0⟩ := Kd.at_bool HR0_0.out a1 p613 q613; cases e613; replace hx613_0 := (HB.out.cell (qL w _ hx613_0)).trans hx613_0; replace p613 := eq_true p613; replace q613 := eq_true q613))
  go_ret
  exact ⟨by first | rfl | (simp [errW_none, errW_some] <;> rfl) | (simp [*, errW_none, errW_some] <;> rfl), by repeat (first | (with_reducible first | exact HB.out | apply qA | apply qN | apply qD | refine qS ?_ GE611.out) | exact HB.out)⟩
end Go.Proofs.Ytgbjbpjmbghlbaa.G
end
