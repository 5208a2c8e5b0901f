-- Written by pack.py (ours): the claim's texts, cut down to what its theorem reaches.
import Derived.Test.YtgbjbpjmbghlbaaKFnExactTracesHonest4
set_option maxHeartbeats 8000000
set_option maxRecDepth 100000
set_option linter.unusedVariables false
set_option linter.unusedSimpArgs false
section
namespace Go.Proofs.Ytgbjbpjmbghlbaa.G
open Go.RowKit Go.Proofs.YtgbjbpjmbghlbaaW.PrintWords Go.Proofs.YtgbjbpjmbghlbaaW.PrintLast Go.Proofs.YtgbjbpjmbghlbaaW.PrintMore
attribute [local go_sem] max2_int min2_int max_two min_two max_three min_three max_four min_four
def laws_eqBoolS.l0 : Nat → List Bool → List Bool → Int → Option (Bool)
  | 0, _, _, _ => none
  | k + 1, x0, x1, x5 => if x5 < (x0.length : Int) then (if 0 ≤ x5 then (if x5 < (x1.length : Int) then (if ((rdOf false x0 x5) != (rdOf false x1 x5)) = true then (some false) else (laws_eqBoolS.l0 k x0 x1 (wrap64 (x5 + 1)))) else (none)) else (none)) else (some true)
def laws_eqBoolS.f (k : Nat) (l0 : List Bool) (l1 : List Bool) : Option (Bool) := if (l0.length : Int) = (l1.length : Int) then (laws_eqBoolS.l0 k l0 l1 0) else (some false)
theorem laws_eqBoolS.calls (k : Nat) (A0 : Option Addr) (c0 : Nat) (l0 : List Bool) (A1 : Option Addr) (c1 : Nat) (l1 : List Bool) (r : Bool) (w : World) (hr0 : Kd.C Kd.bool w A0 l0.length l0) (hc0 : l0.length ≤ c0) (hr1 : Kd.C Kd.bool w A1 l1.length l1) (hc1 : l1.length ≤ c1) (h : laws_eqBoolS.f k l0 l1 = some r) :
    Calls Try.prog 95 #[.slice A0 l0.length c0, .slice A1 l1.length c1] w fun e w' => e = .returned (.bool r) ∧ Drawn0 w w' := by
  have HR0 := qM hr0
  have HC0 := qM hc0
  clear hr0 hc0
  have HR1 := qM hr1
  have HC1 := qM hc1
  clear hr1 hc1
  have H : (if (l0.length : Int) = (l1.length : Int) then (laws_eqBoolS.l0 k l0 l1 0) else (some false)) = some r := h
  clear h
  by_cases c3 : (l0.length : Int) = (l1.length : Int)
  rotate_left
  · rw [if_neg c3] at H
    have c3b0 : ((l0.length : Int) == (l1.length : Int)) = false := beq_eq_false_iff_ne.mpr c3
    have c3b1 : ((l0.length : Int) != (l1.length : Int)) = true := bne_iff_ne.mpr c3
    have c3b2 : (l0.length == l1.length) = false := by first | simpa using c3 | (simp at c3 ⊢; omega)
    obtain rfl := jF H
    go_enter Try.func95, Try.ntmps95
    go_wp2
    repeat (go_quiet (fail); try go_wp2)
    go_ret
    exact ⟨by first | rfl | (simp; done) | (simp [*]; done), by repeat (first | exact Drawn0.refl _ | apply Drawn0.step)⟩
  rw [if_pos c3] at H
  have c3b0 : ((l0.length : Int) == (l1.length : Int)) = true := beq_iff_eq.mpr c3
  have c3b1 : ((l0.length : Int) != (l1.length : Int)) = false := bne_eq_false_iff_eq.mpr c3
  have c3b2 : (l0.length == l1.length) = true := by first | simpa using c3 | (simp at c3 ⊢; omega)
  clear c3
  have H' := qM H
  clear H
  go_enter Try.func95, Try.ntmps95
  go_wp2
  repeat (go_quiet (fail); try go_wp2)
  go_loopg [5] k (fun kq v5 w' => ∃ (x5_1 : Int), v5 = .int .i64 x5_1 ∧ Aside0 (laws_eqBoolS.l0 kq l0 l1 x5_1 = some r) ∧ Aside0 (kq ≤ k) ∧ Drawn0 w w')
  case atStart => exact ⟨(0), (by first | rfl | (simp; done) | (simp [*]; done)), H', ⟨Nat.le_refl _⟩, by repeat (first | exact Drawn0.refl _ | apply Drawn0.step)⟩
  case round =>
    clear H'
    try clear c1
    try clear p2
    try clear c3
    try clear c3b0
    try clear c3b1
    try clear c3b2
    obtain ⟨x5_1, rfl, HA, HK1, ⟨m1, rfl⟩⟩ := hrel
    cases gk with
    | zero => exact absurd HA.out (by simp [laws_eqBoolS.l0])
    | succ k1 =>
      have H := HA.out
      clear HA
      simp only [laws_eqBoolS.l0] at H
      by_cases c4 : x5_1 < (l0.length : Int)
      rotate_left
      · rw [if_neg c4] at H
        have c4b0 : decide (x5_1 < (l0.length : Int)) = false := decide_eq_false c4
        clear c4
        obtain rfl := jF H
        go_wp2
        repeat (go_quiet (fail); try go_wp2)
        go_ret
        exact ⟨by first | rfl | (simp; done) | (simp [*]; done), by repeat (first | exact Drawn0.refl _ | apply Drawn0.step)⟩
      rw [if_pos c4] at H
      have c4b0 : decide (x5_1 < (l0.length : Int)) = true := decide_eq_true c4
      clear c4
      by_cases c5 : 0 ≤ x5_1
      rotate_left
      · rw [if_neg c5] at H
        exact absurd H (by simp)
      rw [if_pos c5] at H
      have c5b0 : decide (0 ≤ x5_1) = true := decide_eq_true c5
      clear c5
      by_cases c6 : x5_1 < (l1.length : Int)
      rotate_left
      · rw [if_neg c6] at H
        exact absurd H (by simp)
      rw [if_pos c6] at H
      have c6b0 : decide (x5_1 < (l1.length : Int)) = true := decide_eq_true c6
      clear c6
      by_cases c7 : ((rdOf false l0 x5_1) != (rdOf false l1 x5_1)) = true
      · rw [if_pos c7] at H
        have c7b0 : ((rdOf false l0 x5_1) != (rdOf false l1 x5_1)) = true := c7
        (try (have c7b1 : decide ((rdOf false l0 x5_1) = (rdOf false l1 x5_1)) = false := by simpa using c7))
        (try (have c7b2 : ((rdOf false l0 x5_1) == (rdOf false l1 x5_1)) = false := by simpa using c7))
        (try (have c7b3 : ¬ ((rdOf false l0 x5_1) = (rdOf false l1 x5_1)) := by simpa using c7))
        clear c7
        obtain rfl := jF H
        have p626 : 0 ≤ (x5_1 : Int) := qO (by first | (with_reducible assumption) | assumption)
        have q626 : x5_1 < (l0.length : Int) := qO (by first | (with_reducible assumption) | assumption)
        obtain ⟨ad626, e626, hx626_0⟩ := Kd.at_bool HR0.out x5_1 p626 q626
        cases e626
        replace p626 := eq_true p626
        replace q626 := eq_true q626
        have p627 : 0 ≤ (x5_1 : Int) := qO (by first | (with_reducible assumption) | assumption)
        have q627 : x5_1 < (l1.length : Int) := qO (by first | (with_reducible assumption) | assumption)
        obtain ⟨ad627, e627, hx627_0⟩ := Kd.at_bool HR1.out x5_1 p627 q627
        cases e627
        replace p627 := eq_true p627
        replace q627 := eq_true q627
        go_wp2
        repeat (go_quiet (fail); try go_wp2)
        go_ret
        exact ⟨by first | rfl | (simp; done) | (simp [*]; done), by repeat (first | exact Drawn0.refl _ | apply Drawn0.step)⟩
      rw [if_neg c7] at H
      have c7b0 : ((rdOf false l0 x5_1) != (rdOf false l1 x5_1)) = false := by simpa using c7
      (try (have c7b1 : decide ((rdOf false l0 x5_1) = (rdOf false l1 x5_1)) = true := by simpa using c7))
      (try (have c7b2 : ((rdOf false l0 x5_1) == (rdOf false l1 x5_1)) = true := by simpa using c7))
      clear c7
      have H' := qM H
      clear H
      have p626 : 0 ≤ (x5_1 : Int) := qO (by first | (with_reducible assumption) | assumption)
      have q626 : x5_1 < (l0.length : Int) := qO (by first | (with_reducible assumption) | assumption)
      obtain ⟨ad626, e626, hx626_0⟩ := Kd.at_bool HR0.out x5_1 p626 q626
      cases e626
      replace p626 := eq_true p626
      replace q626 := eq_true q626
      have p627 : 0 ≤ (x5_1 : Int) := qO (by first | (with_reducible assumption) | assumption)
      have q627 : x5_1 < (l1.length : Int) := qO (by first | (with_reducible assumption) | assumption)
      obtain ⟨ad627, e627, hx627_0⟩ := Kd.at_bool HR1.out x5_1 p627 q627
      cases e627
      replace p627 := eq_true p627
      replace q627 := eq_true q627
      go_wp2
      repeat (go_quiet (fail); try go_wp2)
      go_roundg k1
      case measure => have := HK1.out; omega
      case rel => exact ⟨(wrap64 (x5_1 + 1)), (by first | rfl | (simp; done) | (simp [*]; done)), H', ⟨by have := HK1.out; omega⟩, by repeat (first | exact Drawn0.refl _ | apply Drawn0.step)⟩
def laws_eqSheet.f (k : Nat) (l0_0 : List Bool) (l0_1 : List (S30)) (l1_0 : List Bool) (l1_1 : List (S30)) : Option (Bool) := (laws_eqBoolS.f k l0_0 l1_0).bind fun t630 => (if t630 = true then ((laws_eqTaskS.f k l0_1 l1_1).bind fun t631 => (if t631 = true then (some true) else (some false))) else (some false))
theorem laws_eqSheet.calls (k : Nat) (A0_0 : Option Addr) (c0_0 : Nat) (l0_0 : List Bool) (A0_1 : Option Addr) (c0_1 : Nat) (l0_1 : List (S30)) (A1_0 : Option Addr) (c1_0 : Nat) (l1_0 : List Bool) (A1_1 : Option Addr) (c1_1 : Nat) (l1_1 : List (S30)) (r : Bool) (w : World) (hr0_0 : Kd.C Kd.bool w A0_0 l0_0.length l0_0) (hc0_0 : l0_0.length ≤ c0_0) (hr0_1 : Kd.C k30 w A0_1 l0_1.length l0_1) (hc0_1 : l0_1.length ≤ c0_1) (hr1_0 : Kd.C Kd.bool w A1_0 l1_0.length l1_0) (hc1_0 : l1_0.length ≤ c1_0) (hr1_1 : Kd.C k30 w A1_1 l1_1.length l1_1) (hc1_1 : l1_1.length ≤ c1_1) (h : laws_eqSheet.f k l0_0 l0_1 l1_0 l1_1 = some r) :
    Calls Try.prog 38 #[.agg #[.slice A0_0 l0_0.length c0_0, .slice A0_1 l0_1.length c0_1], .agg #[.slice A1_0 l1_0.length c1_0, .slice A1_1 l1_1.length c1_1]] w fun e w' => e = .returned (.bool r) ∧ Below w.heap.size w w' := by
  have hu56 := Try.underlying56
  have HR0_0 := qM hr0_0
  have HC0_0 := qM hc0_0
  clear hr0_0 hc0_0
  have HR0_1 := qM hr0_1
  have HC0_1 := qM hc0_1
  clear hr0_1 hc0_1
  have HR1_0 := qM hr1_0
  have HC1_0 := qM hc1_0
  clear hr1_0 hc1_0
  have HR1_1 := qM hr1_1
  have HC1_1 := qM hc1_1
  clear hr1_1 hc1_1
  have HB := qM (Below.refl w.heap.size w)
  have H : ((laws_eqBoolS.f k l0_0 l1_0).bind fun t630 => (if t630 = true then ((laws_eqTaskS.f k l0_1 l1_1).bind fun t631 => (if t631 = true then (some true) else (some false))) else (some false))) = some r := h
  clear h
  replace H := jG H
  obtain ⟨t630, A30, H⟩ := H
  replace H : (if t630 = true then ((laws_eqTaskS.f k l0_1 l1_1).bind fun t631 => (if t631 = true then (some true) else (some false))) else (some false)) = some r := H
  have A3 := qM A30
  clear A30
  by_cases c4 : t630 = true
  rotate_left
  · replace c4 := Bool.eq_false_iff.mpr c4
    subst c4
    have H1 : (some false) = some r := by rw [if_neg (show ¬ (false = true) by decide)] at H; exact H
    clear H
    have H := H1
    clear H1
    obtain rfl := jF H
    go_enter Try.func38, Try.ntmps38
    go_wp2_with (first | ((with_reducible refine gate_dst (N := 2) rfl ?_); refine box_event ?hg (N := 2) ?hd (cs := #[.slice A0_0 l0_0.length c0_0, .slice A0_1 l0_1.length c0_1]) (t := 56) ?hr ?_; (case hd => rfl); (case hg => rfl); (case hr => first | (go_simp; done) | (go_simp; rfl)); intro gb628 hg w19 hbox hb; have n0_ := qM (qs (by repeat (first | (with_reducible first | exact HB.out | apply qA | apply qN | apply qD) | exact HB.out)) hb); have n1_ := qM (hbox); have n2_ := qM ((by rw [hg]; exact (qz (by repeat (first | (with_reducible first | exact HB.out | apply qA | apply qN | apply qD) | exact HB.out))) : w.heap.size ≤ gb628)); have n3_ := qM ((by rw [hg]; exact (qz (by repeat (first | (with_reducible first | exact HB.out | apply qA | apply qN | apply qD) | exact HB.out))) : w.heap.size ≤ gb628)); clear HB; have HB := n0_; have BK628 := n1_; have GW628 := n2_; have GE628 := n3_; clear n0_ n1_ n2_ n3_; clear hb hbox hg) | ((with_reducible refine gate_dst (N := 3) rfl ?_); refine box_event ?hg (N := 3) ?hd (cs := #[.slice A1_0 l1_0.length c1_0, .slice A1_1 l1_1.length c1_1]) (t := 56) ?hr ?_; (case hd => rfl); (case hg => rfl); (case hr => first | (go_simp; done) | (go_simp; rfl)); intro gb629 hg w20 hbox hb; have n0_ := qM (blk_below (g := gb628) (o := .cells #[.slice A0_0 l0_0.length c0_0, .slice A0_1 l0_1.length c0_1] 56 (0, 0)) (by (with_reducible repeat (first | apply qn | apply qd | apply qa)); exact BK628.out) hb); have n1_ := qM (qs (by repeat (first | (with_reducible first | exact HB.out | apply qA | apply qN | apply qD | refine qS ?_ GE628.out) | exact HB.out)) hb); have n2_ := qM (hbox); have n3_ := qM ((by rw [hg]; exact (qz (by repeat (first | (with_reducible first | exact HB.out | apply qA | apply qN | apply qD | refine qS ?_ GE628.out) | exact HB.out))) : w.heap.size ≤ gb629)); have n4_ := qM ((by rw [hg]; exact (qz (by repeat (first | (with_reducible first | exact HB.out | apply qA | apply qN | apply qD | refine qS ?_ GE628.out) | exact HB.out))) : w.heap.size ≤ gb629)); have n5_ := qM ((by rw [hg]; exact Nat.ne_of_lt (blk_lt (g := gb628) (o := .cells #[.slice A0_0 l0_0.length c0_0, .slice A0_1 l0_1.length c0_1] 56 (0, 0)) (by (with_reducible repeat (first | apply qn | apply qd | apply qa)); exact BK628.out)) : gb628 ≠ gb629)); have n6_ := qM ((by rw [hg]; exact Nat.ne_of_gt (blk_lt (g := gb628) (o := .cells #[.slice A0_0 l0_0.length c0_0, .slice A0_1 l0_1.length c0_1] 56 (0, 0)) (by (with_reducible repeat (first | apply qn | apply qd | apply qa)); exact BK628.out)) : gb629 ≠ gb628)); clear BK628; clear HB; have BK628 := n0_; have HB := n1_; have BK629 := n2_; have GW629 := n3_; have GE629 := n4_; have NB628_629 := n5_; have NB629_628 := n6_; clear n0_ n1_ n2_ n3_ n4_ n5_ n6_; clear hb hbox hg; have hnb21 := NB628_629.out; have hnc21 := NB629_628.out; have hcz22_0 : w20.cell? ⟨gb628, 0, none⟩ = some (.slice A0_0 l0_0.length c0_0) := (qC BK628.out 0).trans rfl; have hcz22_1 : w20.cell? ⟨gb628, 1, none⟩ = some (.slice A0_1 l0_1.length c0_1) := (qC BK628.out 1).trans rfl; have hfz22_0 := qF BK628.out 0; have hfz22_1 := qF BK628.out 1; have hcz23_0 : w20.cell? ⟨gb629, 0, none⟩ = some (.slice A1_0 l1_0.length c1_0) := (qC BK629.out 0).trans rfl; have hcz23_1 : w20.cell? ⟨gb629, 1, none⟩ = some (.slice A1_1 l1_1.length c1_1) := (qC BK629.out 1).trans rfl; have hfz23_0 := qF BK629.out 0; have hfz23_1 := qF BK629.out 1) | ((with_reducible refine gate_callee (f := 95) rfl ?_); refine goesL_ (some 9) rfl rfl Try.func95 (by kernel_rfl) rfl #[.slice A0_0 l0_0.length c0_0, .slice A1_0 l1_0.length c1_0] rfl (by (try simp only [jC, jD, jE]); first | done | rfl | (simp only [jB, jA]; rfl)) ?_; (with_reducible refine (laws_eqBoolS.calls k _ _ l0_0 _ _ l1_0 false _ ?side1 ?side2 ?side3 ?side4 A3.out).mono ?_); (case side1 => repeat (first | exact (qB HR0_0.out HB.out) | (with_reducible refine qc ?_ _) | (with_reducible refine qe ?_ _) | (with_reducible refine qf ?_))); (case side2 => exact HC0_0.out); (case side3 => repeat (first | exact (qB HR1_0.out HB.out) | (with_reducible refine qc ?_ _) | (with_reducible refine qe ?_ _) | (with_reducible refine qf ?_))); (case side4 => exact HC1_0.out); rintro e w' ⟨rfl, ⟨nd, rfl⟩⟩; refine ⟨_, rfl, ?_⟩))
    go_ret
    exact ⟨by first | rfl | (simp [errW_none, errW_some] <;> rfl) | (simp [*, errW_none, errW_some] <;> rfl), by repeat (first | (with_reducible first | exact HB.out | apply qA | apply qN | apply qD | refine qS ?_ GE628.out | refine qS ?_ GE629.out) | exact HB.out)⟩
  subst c4
  have H1 : ((laws_eqTaskS.f k l0_1 l1_1).bind fun t631 => (if t631 = true then (some true) else (some false))) = some r := by rw [if_pos rfl] at H; exact H
  clear H
  have H := H1
  clear H1
  replace H := jG H
  obtain ⟨t631, A50, H⟩ := H
  replace H : (if t631 = true then (some true) else (some false)) = some r := H
  have A5 := qM A50
  clear A50
  by_cases c6 : t631 = true
  · subst c6
    have H1 : (some true) = some r := by rw [if_pos rfl] at H; exact H
    clear H
    have H := H1
    clear H1
    obtain rfl := jF H
    go_enter Try.func38, Try.ntmps38
    go_wp2_with (first | ((with_reducible refine gate_dst (N := 2) rfl ?_); refine box_event ?hg (N := 2) ?hd (cs := #[.slice A0_0 l0_0.length c0_0, .slice A0_1 l0_1.length c0_1]) (t := 56) ?hr ?_; (case hd => rfl); (case hg => rfl); (case hr => first | (go_simp; done) | (go_simp; rfl)); intro gb628 hg w7 hbox hb; have n0_ := qM (qs (by repeat (first | (with_reducible first | exact HB.out | apply qA | apply qN | apply qD) | exact HB.out)) hb); have n1_ := qM (hbox); have n2_ := qM ((by rw [hg]; exact (qz (by repeat (first | (with_reducible first | exact HB.out | apply qA | apply qN | apply qD) | exact HB.out))) : w.heap.size ≤ gb628)); have n3_ := qM ((by rw [hg]; exact (qz (by repeat (first | (with_reducible first | exact HB.out | apply qA | apply qN | apply qD) | exact HB.out))) : w.heap.size ≤ gb628)); clear HB; have HB := n0_; have BK628 := n1_; have GW628 := n2_; have GE628 := n3_; clear n0_ n1_ n2_ n3_; clear hb hbox hg) | ((with_reducible refine gate_dst (N := 3) rfl ?_); refine box_event ?hg (N := 3) ?hd (cs := #[.slice A1_0 l1_0.length c1_0, .slice A1_1 l1_1.length c1_1]) (t := 56) ?hr ?_; (case hd => rfl); (case hg => rfl); (case hr => first | (go_simp; done) | (go_simp; rfl)); intro gb629 hg w8 hbox hb; have n0_ := qM (blk_below (g := gb628) (o := .cells #[.slice A0_0 l0_0.length c0_0, .slice A0_1 l0_1.length c0_1] 56 (0, 0)) (by (with_reducible repeat (first | apply qn | apply qd | apply qa)); exact BK628.out) hb); have n1_ := qM (qs (by repeat (first | (with_reducible first | exact HB.out | apply qA | apply qN | apply qD | refine qS ?_ GE628.out) | exact HB.out)) hb); have n2_ := qM (hbox); have n3_ := qM ((by rw [hg]; exact (qz (by repeat (first | (with_reducible first | exact HB.out | apply qA | apply qN | apply qD | refine qS ?_ GE628.out) | exact HB.out))) : w.heap.size ≤ gb629)); have n4_ := qM ((by rw [hg]; exact (qz (by repeat (first | (with_reducible first | exact HB.out | apply qA | apply qN | apply qD | refine qS ?_ GE628.out) | exact HB.out))) : w.heap.size ≤ gb629)); have n5_ := qM ((by rw [hg]; exact Nat.ne_of_lt (blk_lt (g := gb628) (o := .cells #[.slice A0_0 l0_0.length c0_0, .slice A0_1 l0_1.length c0_1] 56 (0, 0)) (by (with_reducible repeat (first | apply qn | apply qd | apply qa)); exact BK628.out)) : gb628 ≠ gb629)); have n6_ := qM ((by rw [hg]; exact Nat.ne_of_gt (blk_lt (g := gb628) (o := .cells #[.slice A0_0 l0_0.length c0_0, .slice A0_1 l0_1.length c0_1] 56 (0, 0)) (by (with_reducible repeat (first | apply qn | apply qd | apply qa)); exact BK628.out)) : gb629 ≠ gb628)); clear BK628; clear HB; have BK628 := n0_; have HB := n1_; have BK629 := n2_; have GW629 := n3_; have GE629 := n4_; have NB628_629 := n5_; have NB629_628 := n6_; clear n0_ n1_ n2_ n3_ n4_ n5_ n6_; clear hb hbox hg; have hnb9 := NB628_629.out; have hnc9 := NB629_628.out; have hcz10_0 : w8.cell? ⟨gb628, 0, none⟩ = some (.slice A0_0 l0_0.length c0_0) := (qC BK628.out 0).trans rfl; have hcz10_1 : w8.cell? ⟨gb628, 1, none⟩ = some (.slice A0_1 l0_1.length c0_1) := (qC BK628.out 1).trans rfl; have hfz10_0 := qF BK628.out 0; have hfz10_1 := qF BK628.out 1; have hcz11_0 : w8.cell? ⟨gb629, 0, none⟩ = some (.slice A1_0 l1_0.length c1_0) := (qC BK629.out 0).trans rfl; have hcz11_1 : w8.cell? ⟨gb629, 1, none⟩ = some (.slice A1_1 l1_1.length c1_1) := (qC BK629.out 1).trans rfl; have hfz11_0 := qF BK629.out 0; have hfz11_1 := qF BK629.out 1) | ((with_reducible refine gate_callee (f := 95) rfl ?_); refine goesL_ (some 9) rfl rfl Try.func95 (by kernel_rfl) rfl #[.slice A0_0 l0_0.length c0_0, .slice A1_0 l1_0.length c1_0] rfl (by (try simp only [jC, jD, jE]); first | done | rfl | (simp only [jB, jA]; rfl)) ?_; (with_reducible refine (laws_eqBoolS.calls k _ _ l0_0 _ _ l1_0 true _ ?side1 ?side2 ?side3 ?side4 A3.out).mono ?_); (case side1 => repeat (first | exact (qB HR0_0.out HB.out) | (with_reducible refine qc ?_ _) | (with_reducible refine qe ?_ _) | (with_reducible refine qf ?_))); (case side2 => exact HC0_0.out); (case side3 => repeat (first | exact (qB HR1_0.out HB.out) | (with_reducible refine qc ?_ _) | (with_reducible refine qe ?_ _) | (with_reducible refine qf ?_))); (case side4 => exact HC1_0.out); rintro e w' ⟨rfl, ⟨nd, rfl⟩⟩; refine ⟨_, rfl, ?_⟩) | ((with_reducible refine gate_callee (f := 73) rfl ?_); refine goesL_ (some 15) rfl rfl Try.func73 (by kernel_rfl) rfl #[.slice A0_1 l0_1.length c0_1, .slice A1_1 l1_1.length c1_1] rfl (by (try simp only [jC, jD, jE]); first | done | rfl | (simp only [jB, jA]; rfl)) ?_; (with_reducible refine (laws_eqTaskS.calls k _ _ l0_1 _ _ l1_1 true _ ?side1 ?side2 ?side3 ?side4 A5.out).mono ?_); (case side1 => repeat (first | exact (qB HR0_1.out (by repeat (first | (with_reducible first | exact HB.out | apply qA | apply qN | apply qD | refine qS ?_ GE628.out | refine qS ?_ GE629.out) | exact HB.out))) | (with_reducible refine qc ?_ _) | (with_reducible refine qe ?_ _) | (with_reducible refine qf ?_))); (case side2 => exact HC0_1.out); (case side3 => repeat (first | exact (qB HR1_1.out (by repeat (first | (with_reducible first | exact HB.out | apply qA | apply qN | apply qD | refine qS ?_ GE628.out | refine qS ?_ GE629.out) | exact HB.out))) | (with_reducible refine qc ?_ _) | (with_reducible refine qe ?_ _) | (with_reducible refine qf ?_))); (case side4 => exact HC1_1.out); rintro e w12 ⟨rfl, hb⟩; refine ⟨_, rfl, ?_⟩; have n0_ := qM (blk_below (g := gb628) (o := .cells #[.slice A0_0 l0_0.length c0_0, .slice A0_1 l0_1.length c0_1] 56 (0, 0)) (by (with_reducible repeat (first | apply qn | apply qd | apply qa)); exact BK628.out) hb); have n1_ := qM (blk_below (g := gb629) (o := .cells #[.slice A1_0 l1_0.length c1_0, .slice A1_1 l1_1.length c1_1] 56 (0, 0)) (by (with_reducible repeat (first | apply qn | apply qd | apply qa)); exact BK629.out) hb); have n2_ := qM (qs (by repeat (first | (with_reducible first | exact HB.out | apply qA | apply qN | apply qD | refine qS ?_ GE628.out | refine qS ?_ GE629.out) | exact HB.out)) hb); clear BK628; clear BK629; clear HB; have BK628 := n0_; have BK629 := n1_; have HB := n2_; clear n0_ n1_ n2_; (try clear hb); (try clear hb2); (try clear hk); (try clear hi)))
    go_ret
    exact ⟨by first | rfl | (simp [errW_none, errW_some] <;> rfl) | (simp [*, errW_none, errW_some] <;> rfl), by repeat (first | (with_reducible first | exact HB.out | apply qA | apply qN | apply qD | refine qS ?_ GE628.out | refine qS ?_ GE629.out) | exact HB.out)⟩
  replace c6 := Bool.eq_false_iff.mpr c6
  subst c6
  have H1 : (some false) = some r := by rw [if_neg (show ¬ (false = true) by decide)] at H; exact H
  clear H
  have H := H1
  clear H1
  obtain rfl := jF H
  go_enter Try.func38, Try.ntmps38
  go_wp2_with (first | ((with_reducible refine gate_dst (N := 2) rfl ?_); refine box_event ?hg (N := 2) ?hd (cs := #[.slice A0_0 l0_0.length c0_0, .slice A0_1 l0_1.length c0_1]) (t := 56) ?hr ?_; (case hd => rfl); (case hg => rfl); (case hr => first | (go_simp; done) | (go_simp; rfl)); intro gb628 hg w13 hbox hb; have n0_ := qM (qs (by repeat (first | (with_reducible first | exact HB.out | apply qA | apply qN | apply qD) | exact HB.out)) hb); have n1_ := qM (hbox); have n2_ := qM ((by rw [hg]; exact (qz (by repeat (first | (with_reducible first | exact HB.out | apply qA | apply qN | apply qD) | exact HB.out))) : w.heap.size ≤ gb628)); have n3_ := qM ((by rw [hg]; exact (qz (by repeat (first | (with_reducible first | exact HB.out | apply qA | apply qN | apply qD) | exact HB.out))) : w.heap.size ≤ gb628)); clear HB; have HB := n0_; have BK628 := n1_; have GW628 := n2_; have GE628 := n3_; clear n0_ n1_ n2_ n3_; clear hb hbox hg) | ((with_reducible refine gate_dst (N := 3) rfl ?_); refine box_event ?hg (N := 3) ?hd (cs := #[.slice A1_0 l1_0.length c1_0, .slice A1_1 l1_1.length c1_1]) (t := 56) ?hr ?_; (case hd => rfl); (case hg => rfl); (case hr => first | (go_simp; done) | (go_simp; rfl)); intro gb629 hg w14 hbox hb; have n0_ := qM (blk_below (g := gb628) (o := .cells #[.slice A0_0 l0_0.length c0_0, .slice A0_1 l0_1.length c0_1] 56 (0, 0)) (by (with_reducible repeat (first | apply qn | apply qd | apply qa)); exact BK628.out) hb); have n1_ := qM (qs (by repeat (first | (with_reducible first | exact HB.out | apply qA | apply qN | apply qD | refine qS ?_ GE628.out) | exact HB.out)) hb); have n2_ := qM (hbox); have n3_ := qM ((by rw [hg]; exact (qz (by repeat (first | (with_reducible first | exact HB.out | apply qA | apply qN | apply qD | refine qS ?_ GE628.out) | exact HB.out))) : w.heap.size ≤ gb629)); have n4_ := qM ((by rw [hg]; exact (qz (by repeat (first | (with_reducible first | exact HB.out | apply qA | apply qN | apply qD | refine qS ?_ GE628.out) | exact HB.out))) : w.heap.size ≤ gb629)); have n5_ := qM ((by rw [hg]; exact Nat.ne_of_lt (blk_lt (g := gb628) (o := .cells #[.slice A0_0 l0_0.length c0_0, .slice A0_1 l0_1.length c0_1] 56 (0, 0)) (by (with_reducible repeat (first | apply qn | apply qd | apply qa)); exact BK628.out)) : gb628 ≠ gb629)); have n6_ := qM ((by rw [hg]; exact Nat.ne_of_gt (blk_lt (g := gb628) (o := .cells #[.slice A0_0 l0_0.length c0_0, .slice A0_1 l0_1.length c0_1] 56 (0, 0)) (by (with_reducible repeat (first | apply qn | apply qd | apply qa)); exact BK628.out)) : gb629 ≠ gb628)); clear BK628; clear HB; have BK628 := n0_; have HB := n1_; have BK629 := n2_; have GW629 := n3_; have GE629 := n4_; have NB628_629 := n5_; have NB629_628 := n6_; clear n0_ n1_ n2_ n3_ n4_ n5_ n6_; clear hb hbox hg; have hnb15 := NB628_629.out; have hnc15 := NB629_628.out; have hcz16_0 : w14.cell? ⟨gb628, 0, none⟩ = some (.slice A0_0 l0_0.length c0_0) := (qC BK628.out 0).trans rfl; have hcz16_1 : w14.cell? ⟨gb628, 1, none⟩ = some (.slice A0_1 l0_1.length c0_1) := (qC BK628.out 1).trans rfl; have hfz16_0 := qF BK628.out 0; have hfz16_1 := qF BK628.out 1; have hcz17_0 : w14.cell? ⟨gb629, 0, none⟩ = some (.slice A1_0 l1_0.length c1_0) := (qC BK629.out 0).trans rfl; have hcz17_1 : w14.cell? ⟨gb629, 1, none⟩ = some (.slice A1_1 l1_1.length c1_1) := (qC BK629.out 1).trans rfl; have hfz17_0 := qF BK629.out 0; have hfz17_1 := qF BK629.out 1) | ((with_reducible refine gate_callee (f := 95) rfl ?_); refine goesL_ (some 9) rfl rfl Try.func95 (by kernel_rfl) rfl #[.slice A0_0 l0_0.length c0_0, .slice A1_0 l1_0.length c1_0] rfl (by (try simp only [jC, jD, jE]); first | done | rfl | (simp only [jB, jA]; rfl)) ?_; (with_reducible refine (laws_eqBoolS.calls k _ _ l0_0 _ _ l1_0 true _ ?side1 ?side2 ?side3 ?side4 A3.out).mono ?_); (case side1 => repeat (first | exact (qB HR0_0.out HB.out) | (with_reducible refine qc ?_ _) | (with_reducible refine qe ?_ _) | (with_reducible refine qf ?_))); (case side2 => exact HC0_0.out); (case side3 => repeat (first | exact (qB HR1_0.out HB.out) | (with_reducible refine qc ?_ _) | (with_reducible refine qe ?_ _) | (with_reducible refine qf ?_))); (case side4 => exact HC1_0.out); rintro e w' ⟨rfl, ⟨nd, rfl⟩⟩; refine ⟨_, rfl, ?_⟩) | ((with_reducible refine gate_callee (f := 73) rfl ?_); refine goesL_ (some 15) rfl rfl Try.func73 (by kernel_rfl) rfl #[.slice A0_1 l0_1.length c0_1, .slice A1_1 l1_1.length c1_1] rfl (by (try simp only [jC, jD, jE]); first | done | rfl | (simp only [jB, jA]; rfl)) ?_; (with_reducible refine (laws_eqTaskS.calls k _ _ l0_1 _ _ l1_1 false _ ?side1 ?side2 ?side3 ?side4 A5.out).mono ?_); (case side1 => repeat (first | exact (qB HR0_1.out (by repeat (first | (with_reducible first | exact HB.out | apply qA | apply qN | apply qD | refine qS ?_ GE628.out | refine qS ?_ GE629.out) | exact HB.out))) | (with_reducible refine qc ?_ _) | (with_reducible refine qe ?_ _) | (with_reducible refine qf ?_))); (case side2 => exact HC0_1.out); (case side3 => repeat (first | exact (qB HR1_1.out (by repeat (first | (with_reducible first | exact HB.out | apply qA | apply qN | apply qD | refine qS ?_ GE628.out | refine qS ?_ GE629.out) | exact HB.out))) | (with_reducible refine qc ?_ _) | (with_reducible refine qe ?_ _) | (with_reducible refine qf ?_))); (case side4 => exact HC1_1.out); rintro e w18 ⟨rfl, hb⟩; refine ⟨_, rfl, ?_⟩; have n0_ := qM (blk_below (g := gb628) (o := .cells #[.slice A0_0 l0_0.length c0_0, .slice A0_1 l0_1.length c0_1] 56 (0, 0)) (by (with_reducible repeat (first | apply qn | apply qd | apply qa)); exact BK628.out) hb); have n1_ := qM (blk_below (g := gb629) (o := .cells #[.slice A1_0 l1_0.length c1_0, .slice A1_1 l1_1.length c1_1] 56 (0, 0)) (by (with_reducible repeat (first | apply qn | apply qd | apply qa)); exact BK629.out) hb); have n2_ := qM (qs (by repeat (first | (with_reducible first | exact HB.out | apply qA | apply qN | apply qD | refine qS ?_ GE628.out | refine qS ?_ GE629.out) | exact HB.out)) hb); clear BK628; clear BK629; clear HB; have BK628 := n0_; have BK629 := n1_; have HB := n2_; clear n0_ n1_ n2_; (try clear hb); (try clear hb2); (try clear hk); (try clear hi)))
  go_ret
  exact ⟨by first | rfl | (simp [errW_none, errW_some] <;> rfl) | (simp [*, errW_none, errW_some] <;> rfl), by repeat (first | (with_reducible first | exact HB.out | apply qA | apply qN | apply qD | refine qS ?_ GE628.out | refine qS ?_ GE629.out) | exact HB.out)⟩
def laws_eqFetch.f (a0_0 : Int) (a0_1 : Int) (a1_0 : Int) (a1_1 : Int) : Option (Bool) := if a0_0 = a1_0 then (if a0_1 = a1_1 then (some true) else (some false)) else (some false)
theorem laws_eqFetch.calls (a0_0 : Int) (a0_1 : Int) (a1_0 : Int) (a1_1 : Int) (r : Bool) (w : World) (h : laws_eqFetch.f a0_0 a0_1 a1_0 a1_1 = some r) :
    Calls Try.prog 160 #[.agg #[.int .i64 a0_0, .int .i64 a0_1], .agg #[.int .i64 a1_0, .int .i64 a1_1]] w fun e w' => e = .returned (.bool r) ∧ Below w.heap.size w w' := by
  have hu117 := Try.underlying117
  have HB := qM (Below.refl w.heap.size w)
  have H : (if a0_0 = a1_0 then (if a0_1 = a1_1 then (some true) else (some false)) else (some false)) = some r := h
  clear h
  by_cases c3 : a0_0 = a1_0
  rotate_left
  · rw [if_neg c3] at H
    have c3b0 : (a0_0 == a1_0) = false := beq_eq_false_iff_ne.mpr c3
    have c3b1 : (a0_0 != a1_0) = true := bne_iff_ne.mpr c3
    obtain rfl := jF H
    go_enter Try.func160, Try.ntmps160
    go_wp2_with (first | ((with_reducible refine gate_dst (N := 2) rfl ?_); refine box_event ?hg (N := 2) ?hd (cs := #[.int .i64 a0_0, .int .i64 a0_1]) (t := 117) ?hr ?_; (case hd => rfl); (case hg => rfl); (case hr => first | (go_simp; done) | (go_simp; rfl)); intro gb632 hg w15 hbox hb; have n0_ := qM (qs (by repeat (first | (with_reducible first | exact HB.out | apply qA | apply qN | apply qD) | exact HB.out)) hb); have n1_ := qM (hbox); have n2_ := qM ((by rw [hg]; exact (qz (by repeat (first | (with_reducible first | exact HB.out | apply qA | apply qN | apply qD) | exact HB.out))) : w.heap.size ≤ gb632)); have n3_ := qM ((by rw [hg]; exact (qz (by repeat (first | (with_reducible first | exact HB.out | apply qA | apply qN | apply qD) | exact HB.out))) : w.heap.size ≤ gb632)); clear HB; have HB := n0_; have BK632 := n1_; have GW632 := n2_; have GE632 := n3_; clear n0_ n1_ n2_ n3_; clear hb hbox hg) | ((with_reducible refine gate_dst (N := 3) rfl ?_); refine box_event ?hg (N := 3) ?hd (cs := #[.int .i64 a1_0, .int .i64 a1_1]) (t := 117) ?hr ?_; (case hd => rfl); (case hg => rfl); (case hr => first | (go_simp; done) | (go_simp; rfl)); intro gb633 hg w16 hbox hb; have n0_ := qM (blk_below (g := gb632) (o := .cells #[.int .i64 a0_0, .int .i64 a0_1] 117 (0, 0)) (by (with_reducible repeat (first | apply qn | apply qd | apply qa)); exact BK632.out) hb); have n1_ := qM (qs (by repeat (first | (with_reducible first | exact HB.out | apply qA | apply qN | apply qD | refine qS ?_ GE632.out) | exact HB.out)) hb); have n2_ := qM (hbox); have n3_ := qM ((by rw [hg]; exact (qz (by repeat (first | (with_reducible first | exact HB.out | apply qA | apply qN | apply qD | refine qS ?_ GE632.out) | exact HB.out))) : w.heap.size ≤ gb633)); have n4_ := qM ((by rw [hg]; exact (qz (by repeat (first | (with_reducible first | exact HB.out | apply qA | apply qN | apply qD | refine qS ?_ GE632.out) | exact HB.out))) : w.heap.size ≤ gb633)); have n5_ := qM ((by rw [hg]; exact Nat.ne_of_lt (blk_lt (g := gb632) (o := .cells #[.int .i64 a0_0, .int .i64 a0_1] 117 (0, 0)) (by (with_reducible repeat (first | apply qn | apply qd | apply qa)); exact BK632.out)) : gb632 ≠ gb633)); have n6_ := qM ((by rw [hg]; exact Nat.ne_of_gt (blk_lt (g := gb632) (o := .cells #[.int .i64 a0_0, .int .i64 a0_1] 117 (0, 0)) (by (with_reducible repeat (first | apply qn | apply qd | apply qa)); exact BK632.out)) : gb633 ≠ gb632)); clear BK632; clear HB; have BK632 := n0_; have HB := n1_; have BK633 := n2_; have GW633 := n3_; have GE633 := n4_; have NB632_633 := n5_; have NB633_632 := n6_; clear n0_ n1_ n2_ n3_ n4_ n5_ n6_; clear hb hbox hg; have hnb17 := NB632_633.out; have hnc17 := NB633_632.out; have hcz18_0 : w16.cell? ⟨gb632, 0, none⟩ = some (.int .i64 a0_0) := (qC BK632.out 0).trans rfl; have hcz18_1 : w16.cell? ⟨gb632, 1, none⟩ = some (.int .i64 a0_1) := (qC BK632.out 1).trans rfl; have hfz18_0 := qF BK632.out 0; have hfz18_1 := qF BK632.out 1; have hcz19_0 : w16.cell? ⟨gb633, 0, none⟩ = some (.int .i64 a1_0) := (qC BK633.out 0).trans rfl; have hcz19_1 : w16.cell? ⟨gb633, 1, none⟩ = some (.int .i64 a1_1) := (qC BK633.out 1).trans rfl; have hfz19_0 := qF BK633.out 0; have hfz19_1 := qF BK633.out 1))
    go_ret
    exact ⟨by first | rfl | (simp [errW_none, errW_some] <;> rfl) | (simp [*, errW_none, errW_some] <;> rfl), by repeat (first | (with_reducible first | exact HB.out | apply qA | apply qN | apply qD | refine qS ?_ GE632.out | refine qS ?_ GE633.out) | exact HB.out)⟩
  rw [if_pos c3] at H
  have c3b0 : (a0_0 == a1_0) = true := beq_iff_eq.mpr c3
  have c3b1 : (a0_0 != a1_0) = false := bne_eq_false_iff_eq.mpr c3
  clear c3
  by_cases c4 : a0_1 = a1_1
  rotate_left
  · rw [if_neg c4] at H
    have c4b0 : (a0_1 == a1_1) = false := beq_eq_false_iff_ne.mpr c4
    have c4b1 : (a0_1 != a1_1) = true := bne_iff_ne.mpr c4
    obtain rfl := jF H
    go_enter Try.func160, Try.ntmps160
    go_wp2_with (first | ((with_reducible refine gate_dst (N := 2) rfl ?_); refine box_event ?hg (N := 2) ?hd (cs := #[.int .i64 a0_0, .int .i64 a0_1]) (t := 117) ?hr ?_; (case hd => rfl); (case hg => rfl); (case hr => first | (go_simp; done) | (go_simp; rfl)); intro gb632 hg w10 hbox hb; have n0_ := qM (qs (by repeat (first | (with_reducible first | exact HB.out | apply qA | apply qN | apply qD) | exact HB.out)) hb); have n1_ := qM (hbox); have n2_ := qM ((by rw [hg]; exact (qz (by repeat (first | (with_reducible first | exact HB.out | apply qA | apply qN | apply qD) | exact HB.out))) : w.heap.size ≤ gb632)); have n3_ := qM ((by rw [hg]; exact (qz (by repeat (first | (with_reducible first | exact HB.out | apply qA | apply qN | apply qD) | exact HB.out))) : w.heap.size ≤ gb632)); clear HB; have HB := n0_; have BK632 := n1_; have GW632 := n2_; have GE632 := n3_; clear n0_ n1_ n2_ n3_; clear hb hbox hg) | ((with_reducible refine gate_dst (N := 3) rfl ?_); refine box_event ?hg (N := 3) ?hd (cs := #[.int .i64 a1_0, .int .i64 a1_1]) (t := 117) ?hr ?_; (case hd => rfl); (case hg => rfl); (case hr => first | (go_simp; done) | (go_simp; rfl)); intro gb633 hg w11 hbox hb; have n0_ := qM (blk_below (g := gb632) (o := .cells #[.int .i64 a0_0, .int .i64 a0_1] 117 (0, 0)) (by (with_reducible repeat (first | apply qn | apply qd | apply qa)); exact BK632.out) hb); have n1_ := qM (qs (by repeat (first | (with_reducible first | exact HB.out | apply qA | apply qN | apply qD | refine qS ?_ GE632.out) | exact HB.out)) hb); have n2_ := qM (hbox); have n3_ := qM ((by rw [hg]; exact (qz (by repeat (first | (with_reducible first | exact HB.out | apply qA | apply qN | apply qD | refine qS ?_ GE632.out) | exact HB.out))) : w.heap.size ≤ gb633)); have n4_ := qM ((by rw [hg]; exact (qz (by repeat (first | (with_reducible first | exact HB.out | apply qA | apply qN | apply qD | refine qS ?_ GE632.out) | exact HB.out))) : w.heap.size ≤ gb633)); have n5_ := qM ((by rw [hg]; exact Nat.ne_of_lt (blk_lt (g := gb632) (o := .cells #[.int .i64 a0_0, .int .i64 a0_1] 117 (0, 0)) (by (with_reducible repeat (first | apply qn | apply qd | apply qa)); exact BK632.out)) : gb632 ≠ gb633)); have n6_ := qM ((by rw [hg]; exact Nat.ne_of_gt (blk_lt (g := gb632) (o := .cells #[.int .i64 a0_0, .int .i64 a0_1] 117 (0, 0)) (by (with_reducible repeat (first | apply qn | apply qd | apply qa)); exact BK632.out)) : gb633 ≠ gb632)); clear BK632; clear HB; have BK632 := n0_; have HB := n1_; have BK633 := n2_; have GW633 := n3_; have GE633 := n4_; have NB632_633 := n5_; have NB633_632 := n6_; clear n0_ n1_ n2_ n3_ n4_ n5_ n6_; clear hb hbox hg; have hnb12 := NB632_633.out; have hnc12 := NB633_632.out; have hcz13_0 : w11.cell? ⟨gb632, 0, none⟩ = some (.int .i64 a0_0) := (qC BK632.out 0).trans rfl; have hcz13_1 : w11.cell? ⟨gb632, 1, none⟩ = some (.int .i64 a0_1) := (qC BK632.out 1).trans rfl; have hfz13_0 := qF BK632.out 0; have hfz13_1 := qF BK632.out 1; have hcz14_0 : w11.cell? ⟨gb633, 0, none⟩ = some (.int .i64 a1_0) := (qC BK633.out 0).trans rfl; have hcz14_1 : w11.cell? ⟨gb633, 1, none⟩ = some (.int .i64 a1_1) := (qC BK633.out 1).trans rfl; have hfz14_0 := qF BK633.out 0; have hfz14_1 := qF BK633.out 1))
    go_ret
    exact ⟨by first | rfl | (simp [errW_none, errW_some] <;> rfl) | (simp [*, errW_none, errW_some] <;> rfl), by repeat (first | (with_reducible first | exact HB.out | apply qA | apply qN | apply qD | refine qS ?_ GE632.out | refine qS ?_ GE633.out) | exact HB.out)⟩
  rw [if_pos c4] at H
  have c4b0 : (a0_1 == a1_1) = true := beq_iff_eq.mpr c4
  have c4b1 : (a0_1 != a1_1) = false := bne_eq_false_iff_eq.mpr c4
  clear c4
  obtain rfl := jF H
  go_enter Try.func160, Try.ntmps160
  go_wp2_with (first | ((with_reducible refine gate_dst (N := 2) rfl ?_); refine box_event ?hg (N := 2) ?hd (cs := #[.int .i64 a0_0, .int .i64 a0_1]) (t := 117) ?hr ?_; (case hd => rfl); (case hg => rfl); (case hr => first | (go_simp; done) | (go_simp; rfl)); intro gb632 hg w5 hbox hb; have n0_ := qM (qs (by repeat (first | (with_reducible first | exact HB.out | apply qA | apply qN | apply qD) | exact HB.out)) hb); have n1_ := qM (hbox); have n2_ := qM ((by rw [hg]; exact (qz (by repeat (first | (with_reducible first | exact HB.out | apply qA | apply qN | apply qD) | exact HB.out))) : w.heap.size ≤ gb632)); have n3_ := qM ((by rw [hg]; exact (qz (by repeat (first | (with_reducible first | exact HB.out | apply qA | apply qN | apply qD) | exact HB.out))) : w.heap.size ≤ gb632)); clear HB; have HB := n0_; have BK632 := n1_; have GW632 := n2_; have GE632 := n3_; clear n0_ n1_ n2_ n3_; clear hb hbox hg) | ((with_reducible refine gate_dst (N := 3) rfl ?_); refine box_event ?hg (N := 3) ?hd (cs := #[.int .i64 a1_0, .int .i64 a1_1]) (t := 117) ?hr ?_; (case hd => rfl); (case hg => rfl); (case hr => first | (go_simp; done) | (go_simp; rfl)); intro gb633 hg w6 hbox hb; have n0_ := qM (blk_below (g := gb632) (o := .cells #[.int .i64 a0_0, .int .i64 a0_1] 117 (0, 0)) (by (with_reducible repeat (first | apply qn | apply qd | apply qa)); exact BK632.out) hb); have n1_ := qM (qs (by repeat (first | (with_reducible first | exact HB.out | apply qA | apply qN | apply qD | refine qS ?_ GE632.out) | exact HB.out)) hb); have n2_ := qM (hbox); have n3_ := qM ((by rw [hg]; exact (qz (by repeat (first | (with_reducible first | exact HB.out | apply qA | apply qN | apply qD | refine qS ?_ GE632.out) | exact HB.out))) : w.heap.size ≤ gb633)); have n4_ := qM ((by rw [hg]; exact (qz (by repeat (first | (with_reducible first | exact HB.out | apply qA | apply qN | apply qD | refine qS ?_ GE632.out) | exact HB.out))) : w.heap.size ≤ gb633)); have n5_ := qM ((by rw [hg]; exact Nat.ne_of_lt (blk_lt (g := gb632) (o := .cells #[.int .i64 a0_0, .int .i64 a0_1] 117 (0, 0)) (by (with_reducible repeat (first | apply qn | apply qd | apply qa)); exact BK632.out)) : gb632 ≠ gb633)); have n6_ := qM ((by rw [hg]; exact Nat.ne_of_gt (blk_lt (g := gb632) (o := .cells #[.int .i64 a0_0, .int .i64 a0_1] 117 (0, 0)) (by (with_reducible repeat (first | apply qn | apply qd | apply qa)); exact BK632.out)) : gb633 ≠ gb632)); clear BK632; clear HB; have BK632 := n0_; have HB := n1_; have BK633 := n2_; have GW633 := n3_; have GE633 := n4_; have NB632_633 := n5_; have NB633_632 := n6_; clear n0_ n1_ n2_ n3_ n4_ n5_ n6_; clear hb hbox hg; have hnb7 := NB632_633.out; have hnc7 := NB633_632.out; have hcz8_0 : w6.cell? ⟨gb632, 0, none⟩ = some (.int .i64 a0_0) := (qC BK632.out 0).trans rfl; have hcz8_1 : w6.cell? ⟨gb632, 1, none⟩ = some (.int .i64 a0_1) := (qC BK632.out 1).trans rfl; have hfz8_0 := qF BK632.out 0; have hfz8_1 := qF BK632.out 1; have hcz9_0 : w6.cell? ⟨gb633, 0, none⟩ = some (.int .i64 a1_0) := (qC BK633.out 0).trans rfl; have hcz9_1 : w6.cell? ⟨gb633, 1, none⟩ = some (.int .i64 a1_1) := (qC BK633.out 1).trans rfl; have hfz9_0 := qF BK633.out 0; have hfz9_1 := qF BK633.out 1))
  go_ret
  exact ⟨by first | rfl | (simp [errW_none, errW_some] <;> rfl) | (simp [*, errW_none, errW_some] <;> rfl), by repeat (first | (with_reducible first | exact HB.out | apply qA | apply qN | apply qD | refine qS ?_ GE632.out | refine qS ?_ GE633.out) | exact HB.out)⟩
def laws_eqFetchS.l0 : Nat → List (S117) → List (S117) → Int → Option (Bool)
  | 0, _, _, _ => none
  | k + 1, x0, x1, x5 => if x5 < (x0.length : Int) then (if 0 ≤ x5 then (if x5 < (x1.length : Int) then ((laws_eqFetch.f ((rd_T117 x0 x5).f0) ((rd_T117 x0 x5).f1) ((rd_T117 x1 x5).f0) ((rd_T117 x1 x5).f1)).bind fun t636 => (if t636 = true then (laws_eqFetchS.l0 k x0 x1 (wrap64 (x5 + 1))) else (some false))) else (none)) else (none)) else (some true)
def laws_eqFetchS.f (k : Nat) (l0 : List (S117)) (l1 : List (S117)) : Option (Bool) := if (l0.length : Int) = (l1.length : Int) then (laws_eqFetchS.l0 k l0 l1 0) else (some false)
def laws_eqFetchS.T6 : Bool × List (List Nat × List Nat) := (true, [([], []), ([], []), ([0, 1], [0, 1]), ([2], [2]), ([], []), ([], []), ([4, 5], [4, 5]), ([6], [6]), ([3, 7], [3, 7]), ([8], [8])])
def laws_eqFetchS.B6 : List Nat := [0, 0, 3, 7, 0, 0, 48, 112, 255, 511]
theorem laws_eqFetchS.tab6 : rtab .any (opsOf Try.f115 6) = laws_eqFetchS.T6 := by kernel_rfl
theorem laws_eqFetchS.bits6 : waitsOk laws_eqFetchS.T6.2 laws_eqFetchS.B6 = true := by kernel_rfl
theorem laws_eqFetchS.calls (k : Nat) (A0 : Option Addr) (c0 : Nat) (l0 : List (S117)) (A1 : Option Addr) (c1 : Nat) (l1 : List (S117)) (r : Bool) (w : World) (hr0 : Kd.C k117 w A0 l0.length l0) (hc0 : l0.length ≤ c0) (hr1 : Kd.C k117 w A1 l1.length l1) (hc1 : l1.length ≤ c1) (h : laws_eqFetchS.f k l0 l1 = some r) :
    Calls Try.prog 115 #[.slice A0 l0.length c0, .slice A1 l1.length c1] w fun e w' => e = .returned (.bool r) ∧ Below w.heap.size w w' := by
  have hu117 := Try.underlying117
  have HR0 := qM hr0
  have HC0 := qM hc0
  clear hr0 hc0
  have HR1 := qM hr1
  have HC1 := qM hc1
  clear hr1 hc1
  have HB := qM (Below.refl w.heap.size w)
  have H : (if (l0.length : Int) = (l1.length : Int) then (laws_eqFetchS.l0 k l0 l1 0) else (some false)) = some r := h
  clear h
  by_cases c3 : (l0.length : Int) = (l1.length : Int)
  rotate_left
  · rw [if_neg c3] at H
    have c3b0 : ((l0.length : Int) == (l1.length : Int)) = false := beq_eq_false_iff_ne.mpr c3
    have c3b1 : ((l0.length : Int) != (l1.length : Int)) = true := bne_iff_ne.mpr c3
    have c3b2 : (l0.length == l1.length) = false := by first | simpa using c3 | (simp at c3 ⊢; omega)
    obtain rfl := jF H
    go_enter Try.func115, Try.ntmps115
    go_wp2
    go_ret
    exact ⟨by first | rfl | (simp [errW_none, errW_some] <;> rfl) | (simp [*, errW_none, errW_some] <;> rfl), by repeat (first | (with_reducible first | exact HB.out | apply qA | apply qN | apply qD) | exact HB.out)⟩
  rw [if_pos c3] at H
  have c3b0 : ((l0.length : Int) == (l1.length : Int)) = true := beq_iff_eq.mpr c3
  have c3b1 : ((l0.length : Int) != (l1.length : Int)) = false := bne_eq_false_iff_eq.mpr c3
  have c3b2 : (l0.length == l1.length) = true := by first | simpa using c3 | (simp at c3 ⊢; omega)
  clear c3
  have H' := qM H
  clear H
  go_enter Try.func115, Try.ntmps115
  go_wp2
  go_loopg [5] k (fun kq v5 w' => ∃ (x5_1 : Int), v5 = .int .i64 x5_1 ∧ Aside0 (laws_eqFetchS.l0 kq l0 l1 x5_1 = some r) ∧ Aside0 (kq ≤ k) ∧ Aside0 (Below w.heap.size w w'))
  case atStart => exact ⟨(0), (by first | rfl | (simp; done) | (simp [*]; done)), H', ⟨Nat.le_refl _⟩, ⟨by repeat (first | (with_reducible first | exact HB.out | apply qA | apply qN | apply qD) | exact HB.out)⟩⟩
  case round =>
    clear H'
    try clear c1
    try clear p2
    try clear c3
    try clear c3b0
    try clear c3b1
    try clear c3b2
    obtain ⟨x5_1, rfl, HA, HK1, HB⟩ := hrel
    cases gk with
    | zero => exact absurd HA.out (by simp [laws_eqFetchS.l0])
    | succ k1 =>
      have H := HA.out
      clear HA
      simp only [laws_eqFetchS.l0] at H
      by_cases c4 : x5_1 < (l0.length : Int)
      rotate_left
      · rw [if_neg c4] at H
        have c4b0 : decide (x5_1 < (l0.length : Int)) = false := decide_eq_false c4
        clear c4
        obtain rfl := jF H
        go_wp2
        go_ret
        exact ⟨by first | rfl | (simp [errW_none, errW_some] <;> rfl) | (simp [*, errW_none, errW_some] <;> rfl), by repeat (first | (with_reducible first | exact HB.out | apply qA | apply qN | apply qD) | exact HB.out)⟩
      rw [if_pos c4] at H
      have c4b0 : decide (x5_1 < (l0.length : Int)) = true := decide_eq_true c4
      clear c4
      by_cases c5 : 0 ≤ x5_1
      rotate_left
      · rw [if_neg c5] at H
        exact absurd H (by simp)
      rw [if_pos c5] at H
      have c5b0 : decide (0 ≤ x5_1) = true := decide_eq_true c5
      clear c5
      by_cases c6 : x5_1 < (l1.length : Int)
      rotate_left
      · rw [if_neg c6] at H
        exact absurd H (by simp)
      rw [if_pos c6] at H
      have c6b0 : decide (x5_1 < (l1.length : Int)) = true := decide_eq_true c6
      clear c6
      replace H := jG H
      obtain ⟨t636, A70, H⟩ := H
      replace H : (if t636 = true then (laws_eqFetchS.l0 k1 l0 l1 (wrap64 (x5_1 + 1))) else (some false)) = some r := H
      have A7 := qM A70
      clear A70
      by_cases c8 : t636 = true
      rotate_left
      · replace c8 := Bool.eq_false_iff.mpr c8
        subst c8
        have H1 : (some false) = some r := by rw [if_neg (show ¬ (false = true) by decide)] at H; exact H
        clear H
        have H := H1
        clear H1
        obtain rfl := jF H
        try go_wp2
        have n0_ := qM (qD HB.out)
        clear HB
        have HB := n0_
        clear n0_
        have p634 : 0 ≤ (x5_1 : Int) := qO (by first | (with_reducible assumption) | assumption)
        have q634 : x5_1 < (l0.length : Int) := qO (by first | (with_reducible assumption) | assumption)
        obtain ⟨ad634, e634, hx634_0, hx634_1⟩ := at_T117 HR0.out x5_1 p634 q634
        have hw634_1 := hx634_1
        have hw634_0 := hx634_0
        cases e634
        replace hx634_0 := (HB.out.cell (qL w _ hx634_0)).trans hx634_0
        replace hx634_1 := (HB.out.cell (qL w _ hx634_1)).trans hx634_1
        replace p634 := eq_true p634
        replace q634 := eq_true q634
        have p635 : 0 ≤ (x5_1 : Int) := qO (by first | (with_reducible assumption) | assumption)
        have q635 : x5_1 < (l1.length : Int) := qO (by first | (with_reducible assumption) | assumption)
        obtain ⟨ad635, e635, hx635_0, hx635_1⟩ := at_T117 HR1.out x5_1 p635 q635
        have hw635_1 := hx635_1
        have hw635_0 := hx635_0
        cases e635
        replace hx635_0 := (HB.out.cell (qL w _ hx635_0)).trans hx635_0
        replace hx635_1 := (HB.out.cell (qL w _ hx635_1)).trans hx635_1
        replace p635 := eq_true p635
        replace q635 := eq_true q635
        refine start_ (n := 10) (S := fun w' => w'.cell? (ad634.add ((x5_1).toNat * 2)) = some (.int .i64 ((rd_T117 l0 x5_1).f0)) ∧ w'.cell? ⟨(ad634.add ((x5_1).toNat * 2)).block, (ad634.add ((x5_1).toNat * 2)).off + 1, none⟩ = some (.int .i64 ((rd_T117 l0 x5_1).f1)) ∧ w'.cell? (ad635.add ((x5_1).toNat * 2)) = some (.int .i64 ((rd_T117 l1 x5_1).f0)) ∧ w'.cell? ⟨(ad635.add ((x5_1).toNat * 2)).block, (ad635.add ((x5_1).toNat * 2)).off + 1, none⟩ = some (.int .i64 ((rd_T117 l1 x5_1).f1))) (ds := []) #[false, false, false, false, false, false, false, false, false, false] (by kernel_rfl) rfl rfl ⟨((HB.out.cell (qL w _ hw634_0)).trans hw634_0), ((HB.out.cell (qL w _ hw634_1)).trans hw634_1), ((HB.out.cell (qL w _ hw635_0)).trans hw635_0), ((HB.out.cell (qL w _ hw635_1)).trans hw635_1)⟩ (fun hHeld => ?_); refine with_tabW laws_eqFetchS.tab6 laws_eqFetchS.bits6 (fun HT_ HW_ => ?_)
        generalize wr.drew = w11 at HB hx634_0 hx634_1 hx635_0 hx635_1 hHeld ⊢
        refine pure_ (i := 0) (N := some 17) (v := ?_) (a' := ?_) #[true, false, false, false, false, false, false, false, false, false] rfl rfl (any_of HT_.out (by kernel_rfl)) (fun _ _ _ h => h) (Or.inl ⟨by rfl, ?_⟩) ?_ ?_
        rotate_left
        · intro w'
          go_simp
          with_reducible rfl
        rotate_left
        · simp only [Act.put, qT, qU, qV, i64_w, i32_w]
          rfl
        refine pure_ (i := 1) (N := some 18) (v := ?_) (a' := ?_) #[true, true, false, false, false, false, false, false, false, false] rfl rfl (any_of HT_.out (by kernel_rfl)) (fun _ _ _ h => h) (Or.inl ⟨by rfl, ?_⟩) ?_ ?_
        rotate_left
        · intro w'
          go_simp
          with_reducible rfl
        rotate_left
        · simp only [Act.put, qT, qU, qV, i64_w, i32_w]
          rfl
        refine pure_ (i := 2) (N := some 19) (v := ?_) (a' := ?_) #[true, true, true, false, false, false, false, false, false, false] rfl rfl (any_of HT_.out (by kernel_rfl)) (fun _ _ _ h => h) (Or.inl ⟨by rfl, ?_⟩) ?_ ?_
        rotate_left
        · intro w'
          go_simp
          with_reducible rfl
        rotate_left
        · simp only [Act.put, qT, qU, qV, i64_w, i32_w]
          rfl
        refine pure_ (i := 4) (N := some 21) (v := ?_) (a' := ?_) #[true, true, true, false, true, false, false, false, false, false] rfl rfl (any_of HT_.out (by kernel_rfl)) (fun _ _ _ h => h) (Or.inl ⟨by rfl, ?_⟩) ?_ ?_
        rotate_left
        · intro w'
          go_simp
          with_reducible rfl
        rotate_left
        · simp only [Act.put, qT, qU, qV, i64_w, i32_w]
          rfl
        refine pure_ (i := 5) (N := some 22) (v := ?_) (a' := ?_) #[true, true, true, false, true, true, false, false, false, false] rfl rfl (any_of HT_.out (by kernel_rfl)) (fun _ _ _ h => h) (Or.inl ⟨by rfl, ?_⟩) ?_ ?_
        rotate_left
        · intro w'
          go_simp
          with_reducible rfl
        rotate_left
        · simp only [Act.put, qT, qU, qV, i64_w, i32_w]
          rfl
        refine pure_ (i := 6) (N := some 23) (v := ?_) (a' := ?_) #[true, true, true, false, true, true, true, false, false, false] rfl rfl (any_of HT_.out (by kernel_rfl)) (fun _ _ _ h => h) (Or.inl ⟨by rfl, ?_⟩) ?_ ?_
        rotate_left
        · intro w'
          go_simp
          with_reducible rfl
        rotate_left
        · simp only [Act.put, qT, qU, qV, i64_w, i32_w]
          rfl
        refine take_ (i := 3) (N := some 20) (v := ?_) (a' := ?_) #[true, true, true, true, true, true, true, false, false, false] rfl rfl (take_ofW HT_.out HW_.out (by kernel_rfl)) (fun _ _ _ h => h) (Or.inl ⟨by rfl, ?_⟩) hHeld ?_ ?_
        rotate_left
        · rintro w' ⟨s0, s1, s2, s3⟩
          go_simp
          with_reducible rfl
        rotate_left
        · simp only [Act.put, qT, qU, qV, i64_w, i32_w]
          rfl
        refine take_ (i := 7) (N := some 24) (v := ?_) (a' := ?_) #[true, true, true, true, true, true, true, true, false, false] rfl rfl (take_ofW HT_.out HW_.out (by kernel_rfl)) (fun _ _ _ h => h) (Or.inl ⟨by rfl, ?_⟩) hHeld ?_ ?_
        rotate_left
        · rintro w' ⟨s0, s1, s2, s3⟩
          go_simp
          with_reducible rfl
        rotate_left
        · simp only [Act.put, qT, qU, qV, i64_w, i32_w]
          rfl
        refine one_ (i := 8) (N := some 25) #[true, true, true, true, true, true, true, true, true, false] rfl rfl (one_of HT_.out (by kernel_rfl)) (by decide) (fun K hK => ?_)
        refine goes_ Try.func160 (by kernel_rfl) rfl #[.agg #[.int .i64 ((rd_T117 l0 x5_1).f0), .int .i64 ((rd_T117 l0 x5_1).f1)], .agg #[.int .i64 ((rd_T117 l1 x5_1).f0), .int .i64 ((rd_T117 l1 x5_1).f1)]] (by rfl) rfl rfl (by (try simp only [jC, jD, jE]); first | done | rfl | (simp only [jB, jA]; rfl)) ?_
        with_reducible refine (laws_eqFetch.calls ((rd_T117 l0 x5_1).f0) ((rd_T117 l0 x5_1).f1) ((rd_T117 l1 x5_1).f0) ((rd_T117 l1 x5_1).f1) false _ A7.out).mono ?_
        rintro e w12 ⟨rfl, hb⟩
        refine ⟨_, rfl, ?_⟩
        have n0_ := qM (qs (by repeat (first | (with_reducible first | exact HB.out | apply qA | apply qN | apply qD) | exact HB.out)) hb)
        clear HB
        have HB := n0_
        clear n0_
        (try clear hb)
        (try clear hb2)
        (try clear hk)
        (try clear hi)
        refine hK.out _ _ ⟨((HB.out.cell (qL w _ hw634_0)).trans hw634_0), ((HB.out.cell (qL w _ hw634_1)).trans hw634_1), ((HB.out.cell (qL w _ hw635_0)).trans hw635_0), ((HB.out.cell (qL w _ hw635_1)).trans hw635_1)⟩ (fun hHeld => ?_)
        clear hK K
        refine norm_ (a' := ?_) ?_ ?_
        rotate_left
        · show Act.put _ (some 25) _ = _
          simp only [Act.put, qT, qU, qV, i64_w, i32_w]
          rfl
        refine pure_ (i := 9) (N := some 26) (v := ?_) (a' := ?_) #[true, true, true, true, true, true, true, true, true, true] rfl rfl (any_of HT_.out (by kernel_rfl)) (fun _ _ _ h => h) (Or.inl ⟨by rfl, ?_⟩) ?_ ?_
        rotate_left
        · intro w'
          go_simp
          with_reducible rfl
        rotate_left
        · simp only [Act.put, qT, qU, qV, i64_w, i32_w]
          rfl
        refine done_ (done_of HT_.out (by kernel_rfl)) ?_
        try go_wp2
        go_ret
        exact ⟨by first | rfl | (simp [errW_none, errW_some] <;> rfl) | (simp [*, errW_none, errW_some] <;> rfl), by repeat (first | (with_reducible first | exact HB.out | apply qA | apply qN | apply qD) | exact HB.out)⟩
      subst c8
      have H1 : (laws_eqFetchS.l0 k1 l0 l1 (wrap64 (x5_1 + 1))) = some r := by rw [if_pos rfl] at H; exact H
      clear H
      have H := H1
      clear H1
      have H' := qM H
      clear H
      try go_wp2
      have n0_ := qM (qD HB.out)
      clear HB
      have HB := n0_
      clear n0_
      have p634 : 0 ≤ (x5_1 : Int) := qO (by first | (with_reducible assumption) | assumption)
      have q634 : x5_1 < (l0.length : Int) := qO (by first | (with_reducible assumption) | assumption)
      obtain ⟨ad634, e634, hx634_0, hx634_1⟩ := at_T117 HR0.out x5_1 p634 q634
      have hw634_1 := hx634_1
      have hw634_0 := hx634_0
      cases e634
      replace hx634_0 := (HB.out.cell (qL w _ hx634_0)).trans hx634_0
      replace hx634_1 := (HB.out.cell (qL w _ hx634_1)).trans hx634_1
      replace p634 := eq_true p634
      replace q634 := eq_true q634
      have p635 : 0 ≤ (x5_1 : Int) := qO (by first | (with_reducible assumption) | assumption)
      have q635 : x5_1 < (l1.length : Int) := qO (by first | (with_reducible assumption) | assumption)
      obtain ⟨ad635, e635, hx635_0, hx635_1⟩ := at_T117 HR1.out x5_1 p635 q635
      have hw635_1 := hx635_1
      have hw635_0 := hx635_0
      cases e635
      replace hx635_0 := (HB.out.cell (qL w _ hx635_0)).trans hx635_0
      replace hx635_1 := (HB.out.cell (qL w _ hx635_1)).trans hx635_1
      replace p635 := eq_true p635
      replace q635 := eq_true q635
      refine start_ (n := 10) (S := fun w' => w'.cell? (ad634.add ((x5_1).toNat * 2)) = some (.int .i64 ((rd_T117 l0 x5_1).f0)) ∧ w'.cell? ⟨(ad634.add ((x5_1).toNat * 2)).block, (ad634.add ((x5_1).toNat * 2)).off + 1, none⟩ = some (.int .i64 ((rd_T117 l0 x5_1).f1)) ∧ w'.cell? (ad635.add ((x5_1).toNat * 2)) = some (.int .i64 ((rd_T117 l1 x5_1).f0)) ∧ w'.cell? ⟨(ad635.add ((x5_1).toNat * 2)).block, (ad635.add ((x5_1).toNat * 2)).off + 1, none⟩ = some (.int .i64 ((rd_T117 l1 x5_1).f1))) (ds := []) #[false, false, false, false, false, false, false, false, false, false] (by kernel_rfl) rfl rfl ⟨((HB.out.cell (qL w _ hw634_0)).trans hw634_0), ((HB.out.cell (qL w _ hw634_1)).trans hw634_1), ((HB.out.cell (qL w _ hw635_0)).trans hw635_0), ((HB.out.cell (qL w _ hw635_1)).trans hw635_1)⟩ (fun hHeld => ?_); refine with_tabW laws_eqFetchS.tab6 laws_eqFetchS.bits6 (fun HT_ HW_ => ?_)
      generalize wr.drew = w9 at HB hx634_0 hx634_1 hx635_0 hx635_1 hHeld ⊢
      refine pure_ (i := 0) (N := some 17) (v := ?_) (a' := ?_) #[true, false, false, false, false, false, false, false, false, false] rfl rfl (any_of HT_.out (by kernel_rfl)) (fun _ _ _ h => h) (Or.inl ⟨by rfl, ?_⟩) ?_ ?_
      rotate_left
      · intro w'
        go_simp
        with_reducible rfl
      rotate_left
      · simp only [Act.put, qT, qU, qV, i64_w, i32_w]
        rfl
      refine pure_ (i := 1) (N := some 18) (v := ?_) (a' := ?_) #[true, true, false, false, false, false, false, false, false, false] rfl rfl (any_of HT_.out (by kernel_rfl)) (fun _ _ _ h => h) (Or.inl ⟨by rfl, ?_⟩) ?_ ?_
      rotate_left
      · intro w'
        go_simp
        with_reducible rfl
      rotate_left
      · simp only [Act.put, qT, qU, qV, i64_w, i32_w]
        rfl
      refine pure_ (i := 2) (N := some 19) (v := ?_) (a' := ?_) #[true, true, true, false, false, false, false, false, false, false] rfl rfl (any_of HT_.out (by kernel_rfl)) (fun _ _ _ h => h) (Or.inl ⟨by rfl, ?_⟩) ?_ ?_
      rotate_left
      · intro w'
        go_simp
        with_reducible rfl
      rotate_left
      · simp only [Act.put, qT, qU, qV, i64_w, i32_w]
        rfl
      refine pure_ (i := 4) (N := some 21) (v := ?_) (a' := ?_) #[true, true, true, false, true, false, false, false, false, false] rfl rfl (any_of HT_.out (by kernel_rfl)) (fun _ _ _ h => h) (Or.inl ⟨by rfl, ?_⟩) ?_ ?_
      rotate_left
      · intro w'
        go_simp
        with_reducible rfl
      rotate_left
      · simp only [Act.put, qT, qU, qV, i64_w, i32_w]
        rfl
      refine pure_ (i := 5) (N := some 22) (v := ?_) (a' := ?_) #[true, true, true, false, true, true, false, false, false, false] rfl rfl (any_of HT_.out (by kernel_rfl)) (fun _ _ _ h => h) (Or.inl ⟨by rfl, ?_⟩) ?_ ?_
      rotate_left
      · intro w'
        go_simp
        with_reducible rfl
      rotate_left
      · simp only [Act.put, qT, qU, qV, i64_w, i32_w]
        rfl
      refine pure_ (i := 6) (N := some 23) (v := ?_) (a' := ?_) #[true, true, true, false, true, true, true, false, false, false] rfl rfl (any_of HT_.out (by kernel_rfl)) (fun _ _ _ h => h) (Or.inl ⟨by rfl, ?_⟩) ?_ ?_
      rotate_left
      · intro w'
        go_simp
        with_reducible rfl
      rotate_left
      · simp only [Act.put, qT, qU, qV, i64_w, i32_w]
        rfl
      refine take_ (i := 3) (N := some 20) (v := ?_) (a' := ?_) #[true, true, true, true, true, true, true, false, false, false] rfl rfl (take_ofW HT_.out HW_.out (by kernel_rfl)) (fun _ _ _ h => h) (Or.inl ⟨by rfl, ?_⟩) hHeld ?_ ?_
      rotate_left
      · rintro w' ⟨s0, s1, s2, s3⟩
        go_simp
        with_reducible rfl
      rotate_left
      · simp only [Act.put, qT, qU, qV, i64_w, i32_w]
        rfl
      refine take_ (i := 7) (N := some 24) (v := ?_) (a' := ?_) #[true, true, true, true, true, true, true, true, false, false] rfl rfl (take_ofW HT_.out HW_.out (by kernel_rfl)) (fun _ _ _ h => h) (Or.inl ⟨by rfl, ?_⟩) hHeld ?_ ?_
      rotate_left
      · rintro w' ⟨s0, s1, s2, s3⟩
        go_simp
        with_reducible rfl
      rotate_left
      · simp only [Act.put, qT, qU, qV, i64_w, i32_w]
        rfl
      refine one_ (i := 8) (N := some 25) #[true, true, true, true, true, true, true, true, true, false] rfl rfl (one_of HT_.out (by kernel_rfl)) (by decide) (fun K hK => ?_)
      refine goes_ Try.func160 (by kernel_rfl) rfl #[.agg #[.int .i64 ((rd_T117 l0 x5_1).f0), .int .i64 ((rd_T117 l0 x5_1).f1)], .agg #[.int .i64 ((rd_T117 l1 x5_1).f0), .int .i64 ((rd_T117 l1 x5_1).f1)]] (by rfl) rfl rfl (by (try simp only [jC, jD, jE]); first | done | rfl | (simp only [jB, jA]; rfl)) ?_
      with_reducible refine (laws_eqFetch.calls ((rd_T117 l0 x5_1).f0) ((rd_T117 l0 x5_1).f1) ((rd_T117 l1 x5_1).f0) ((rd_T117 l1 x5_1).f1) true _ A7.out).mono ?_
      rintro e w10 ⟨rfl, hb⟩
      refine ⟨_, rfl, ?_⟩
      have n0_ := qM (qs (by repeat (first | (with_reducible first | exact HB.out | apply qA | apply qN | apply qD) | exact HB.out)) hb)
      clear HB
      have HB := n0_
      clear n0_
      (try clear hb)
      (try clear hb2)
      (try clear hk)
      (try clear hi)
      refine hK.out _ _ ⟨((HB.out.cell (qL w _ hw634_0)).trans hw634_0), ((HB.out.cell (qL w _ hw634_1)).trans hw634_1), ((HB.out.cell (qL w _ hw635_0)).trans hw635_0), ((HB.out.cell (qL w _ hw635_1)).trans hw635_1)⟩ (fun hHeld => ?_)
      clear hK K
      refine norm_ (a' := ?_) ?_ ?_
      rotate_left
      · show Act.put _ (some 25) _ = _
        simp only [Act.put, qT, qU, qV, i64_w, i32_w]
        rfl
      refine pure_ (i := 9) (N := some 26) (v := ?_) (a' := ?_) #[true, true, true, true, true, true, true, true, true, true] rfl rfl (any_of HT_.out (by kernel_rfl)) (fun _ _ _ h => h) (Or.inl ⟨by rfl, ?_⟩) ?_ ?_
      rotate_left
      · intro w'
        go_simp
        with_reducible rfl
      rotate_left
      · simp only [Act.put, qT, qU, qV, i64_w, i32_w]
        rfl
      refine done_ (done_of HT_.out (by kernel_rfl)) ?_
      try go_wp2
      go_roundg k1
      case measure => have := HK1.out; omega
      case rel => exact ⟨(wrap64 (x5_1 + 1)), (by first | rfl | (simp; done) | (simp [*]; done)), H', ⟨by have := HK1.out; omega⟩, ⟨by repeat (first | (with_reducible first | exact HB.out | apply qA | apply qN | apply qD) | exact HB.out)⟩⟩
def laws_eqTrace.f (k : Nat) (a0_0 : Int) (l0_1 : List (S117)) (a0_2 : Int) (a1_0 : Int) (l1_1 : List (S117)) (a1_2 : Int) : Option (Bool) := if a0_0 = a1_0 then ((laws_eqFetchS.f k l0_1 l1_1).bind fun t639 => (if t639 = true then (if a0_2 = a1_2 then (some true) else (some false)) else (some false))) else (some false)
theorem laws_eqTrace.calls (k : Nat) (a0_0 : Int) (A0_1 : Option Addr) (c0_1 : Nat) (l0_1 : List (S117)) (a0_2 : Int) (a1_0 : Int) (A1_1 : Option Addr) (c1_1 : Nat) (l1_1 : List (S117)) (a1_2 : Int) (r : Bool) (w : World) (hr0_1 : Kd.C k117 w A0_1 l0_1.length l0_1) (hc0_1 : l0_1.length ≤ c0_1) (hr1_1 : Kd.C k117 w A1_1 l1_1.length l1_1) (hc1_1 : l1_1.length ≤ c1_1) (h : laws_eqTrace.f k a0_0 l0_1 a0_2 a1_0 l1_1 a1_2 = some r) :
    Calls Try.prog 56 #[.agg #[.int .i64 a0_0, .slice A0_1 l0_1.length c0_1, .int .i64 a0_2], .agg #[.int .i64 a1_0, .slice A1_1 l1_1.length c1_1, .int .i64 a1_2]] w fun e w' => e = .returned (.bool r) ∧ Below w.heap.size w w' := by
  have hu87 := Try.underlying87
  have HR0_1 := qM hr0_1
  have HC0_1 := qM hc0_1
  clear hr0_1 hc0_1
  have HR1_1 := qM hr1_1
  have HC1_1 := qM hc1_1
  clear hr1_1 hc1_1
  have HB := qM (Below.refl w.heap.size w)
  have H : (if a0_0 = a1_0 then ((laws_eqFetchS.f k l0_1 l1_1).bind fun t639 => (if t639 = true then (if a0_2 = a1_2 then (some true) else (some false)) else (some false))) else (some false)) = some r := h
  clear h
  by_cases c3 : a0_0 = a1_0
  rotate_left
  · rw [if_neg c3] at H
    have c3b0 : (a0_0 == a1_0) = false := beq_eq_false_iff_ne.mpr c3
    have c3b1 : (a0_0 != a1_0) = true := bne_iff_ne.mpr c3
    obtain rfl := jF H
    go_enter Try.func56, Try.ntmps56
    go_wp2_with (first | ((with_reducible refine gate_dst (N := 2) rfl ?_); refine box_event ?hg (N := 2) ?hd (cs := #[.int .i64 a0_0, .slice A0_1 l0_1.length c0_1, .int .i64 a0_2]) (t := 87) ?hr ?_; (case hd => rfl); (case hg => rfl); (case hr => first | (go_simp; done) | (go_simp; rfl)); intro gb637 hg w29 hbox hb; have n0_ := qM (qs (by repeat (first | (with_reducible first | exact HB.out | apply qA | apply qN | apply qD) | exact HB.out)) hb); have n1_ := qM (hbox); have n2_ := qM ((by rw [hg]; exact (qz (by repeat (first | (with_reducible first | exact HB.out | apply qA | apply qN | apply qD) | exact HB.out))) : w.heap.size ≤ gb637)); have n3_ := qM ((by rw [hg]; exact (qz (by repeat (first | (with_reducible first | exact HB.out | apply qA | apply qN | apply qD) | exact HB.out))) : w.heap.size ≤ gb637)); clear HB; have HB := n0_; have BK637 := n1_; have GW637 := n2_; have GE637 := n3_; clear n0_ n1_ n2_ n3_; clear hb hbox hg) | ((with_reducible refine gate_dst (N := 3) rfl ?_); refine box_event ?hg (N := 3) ?hd (cs := #[.int .i64 a1_0, .slice A1_1 l1_1.length c1_1, .int .i64 a1_2]) (t := 87) ?hr ?_; (case hd => rfl); (case hg => rfl); (case hr => first | (go_simp; done) | (go_simp; rfl)); intro gb638 hg w30 hbox hb; have n0_ := qM (blk_below (g := gb637) (o := .cells #[.int .i64 a0_0, .slice A0_1 l0_1.length c0_1, .int .i64 a0_2] 87 (0, 0)) (by (with_reducible repeat (first | apply qn | apply qd | apply qa)); exact BK637.out) hb); have n1_ := qM (qs (by repeat (first | (with_reducible first | exact HB.out | apply qA | apply qN | apply qD | refine qS ?_ GE637.out) | exact HB.out)) hb); have n2_ := qM (hbox); have n3_ := qM ((by rw [hg]; exact (qz (by repeat (first | (with_reducible first | exact HB.out | apply qA | apply qN | apply qD | refine qS ?_ GE637.out) | exact HB.out))) : w.heap.size ≤ gb638)); have n4_ := qM ((by rw [hg]; exact (qz (by repeat (first | (with_reducible first | exact HB.out | apply qA | apply qN | apply qD | refine qS ?_ GE637.out) | exact HB.out))) : w.heap.size ≤ gb638)); have n5_ := qM ((by rw [hg]; exact Nat.ne_of_lt (blk_lt (g := gb637) (o := .cells #[.int .i64 a0_0, .slice A0_1 l0_1.length c0_1, .int .i64 a0_2] 87 (0, 0)) (by (with_reducible repeat (first | apply qn | apply qd | apply qa)); exact BK637.out)) : gb637 ≠ gb638)); have n6_ := qM ((by rw [hg]; exact Nat.ne_of_gt (blk_lt (g := gb637) (o := .cells #[.int .i64 a0_0, .slice A0_1 l0_1.length c0_1, .int .i64 a0_2] 87 (0, 0)) (by (with_reducible repeat (first | apply qn | apply qd | apply qa)); exact BK637.out)) : gb638 ≠ gb637)); clear BK637; clear HB; have BK637 := n0_; have HB := n1_; have BK638 := n2_; have GW638 := n3_; have GE638 := n4_; have NB637_638 := n5_; have NB638_637 := n6_; clear n0_ n1_ n2_ n3_ n4_ n5_ n6_; clear hb hbox hg; have hnb31 := NB637_638.out; have hnc31 := NB638_637.out; have hcz32_0 : w30.cell? ⟨gb637, 0, none⟩ = some (.int .i64 a0_0) := (qC BK637.out 0).trans rfl; have hcz32_1 : w30.cell? ⟨gb637, 1, none⟩ = some (.slice A0_1 l0_1.length c0_1) := (qC BK637.out 1).trans rfl; have hcz32_2 : w30.cell? ⟨gb637, 2, none⟩ = some (.int .i64 a0_2) := (qC BK637.out 2).trans rfl; have hfz32_0 := qF BK637.out 0; have hfz32_1 := qF BK637.out 1; have hfz32_2 := qF BK637.out 2; have hcz33_0 : w30.cell? ⟨gb638, 0, none⟩ = some (.int .i64 a1_0) := (qC BK638.out 0).trans rfl; have hcz33_1 : w30.cell? ⟨gb638, 1, none⟩ = some (.slice A1_1 l1_1.length c1_1) := (qC BK638.out 1).trans rfl; have hcz33_2 : w30.cell? ⟨gb638, 2, none⟩ = some (.int .i64 a1_2) := (qC BK638.out 2).trans rfl; have hfz33_0 := qF BK638.out 0; have hfz33_1 := qF BK638.out 1; have hfz33_2 := qF BK638.out 2))
    go_ret
    exact ⟨by first | rfl | (simp [errW_none, errW_some] <;> rfl) | (simp [*, errW_none, errW_some] <;> rfl), by repeat (first | (with_reducible first | exact HB.out | apply qA | apply qN | apply qD | refine qS ?_ GE637.out | refine qS ?_ GE638.out) | exact HB.out)⟩
  rw [if_pos c3] at H
  have c3b0 : (a0_0 == a1_0) = true := beq_iff_eq.mpr c3
  have c3b1 : (a0_0 != a1_0) = false := bne_eq_false_iff_eq.mpr c3
  clear c3
  replace H := jG H
  obtain ⟨t639, A40, H⟩ := H
  replace H : (if t639 = true then (if a0_2 = a1_2 then (some true) else (some false)) else (some false)) = some r := H
  have A4 := qM A40
  clear A40
  by_cases c5 : t639 = true
  rotate_left
  · replace c5 := Bool.eq_false_iff.mpr c5
    subst c5
    have H1 : (some false) = some r := by rw [if_neg (show ¬ (false = true) by decide)] at H; exact H
    clear H
    have H := H1
    clear H1
    obtain rfl := jF H
    go_enter Try.func56, Try.ntmps56
    go_wp2_with (first | ((with_reducible refine gate_dst (N := 2) rfl ?_); refine box_event ?hg (N := 2) ?hd (cs := #[.int .i64 a0_0, .slice A0_1 l0_1.length c0_1, .int .i64 a0_2]) (t := 87) ?hr ?_; (case hd => rfl); (case hg => rfl); (case hr => first | (go_simp; done) | (go_simp; rfl)); intro gb637 hg w23 hbox hb; have n0_ := qM (qs (by repeat (first | (with_reducible first | exact HB.out | apply qA | apply qN | apply qD) | exact HB.out)) hb); have n1_ := qM (hbox); have n2_ := qM ((by rw [hg]; exact (qz (by repeat (first | (with_reducible first | exact HB.out | apply qA | apply qN | apply qD) | exact HB.out))) : w.heap.size ≤ gb637)); have n3_ := qM ((by rw [hg]; exact (qz (by repeat (first | (with_reducible first | exact HB.out | apply qA | apply qN | apply qD) | exact HB.out))) : w.heap.size ≤ gb637)); clear HB; have HB := n0_; have BK637 := n1_; have GW637 := n2_; have GE637 := n3_; clear n0_ n1_ n2_ n3_; clear hb hbox hg) | ((with_reducible refine gate_dst (N := 3) rfl ?_); refine box_event ?hg (N := 3) ?hd (cs := #[.int .i64 a1_0, .slice A1_1 l1_1.length c1_1, .int .i64 a1_2]) (t := 87) ?hr ?_; (case hd => rfl); (case hg => rfl); (case hr => first | (go_simp; done) | (go_simp; rfl)); intro gb638 hg w24 hbox hb; have n0_ := qM (blk_below (g := gb637) (o := .cells #[.int .i64 a0_0, .slice A0_1 l0_1.length c0_1, .int .i64 a0_2] 87 (0, 0)) (by (with_reducible repeat (first | apply qn | apply qd | apply qa)); exact BK637.out) hb); have n1_ := qM (qs (by repeat (first | (with_reducible first | exact HB.out | apply qA | apply qN | apply qD | refine qS ?_ GE637.out) | exact HB.out)) hb); have n2_ := qM (hbox); have n3_ := qM ((by rw [hg]; exact (qz (by repeat (first | (with_reducible first | exact HB.out | apply qA | apply qN | apply qD | refine qS ?_ GE637.out) | exact HB.out))) : w.heap.size ≤ gb638)); have n4_ := qM ((by rw [hg]; exact (qz (by repeat (first | (with_reducible first | exact HB.out | apply qA | apply qN | apply qD | refine qS ?_ GE637.out) | exact HB.out))) : w.heap.size ≤ gb638)); have n5_ := qM ((by rw [hg]; exact Nat.ne_of_lt (blk_lt (g := gb637) (o := .cells #[.int .i64 a0_0, .slice A0_1 l0_1.length c0_1, .int .i64 a0_2] 87 (0, 0)) (by (with_reducible repeat (first | apply qn | apply qd | apply qa)); exact BK637.out)) : gb637 ≠ gb638)); have n6_ := qM ((by rw [hg]; exact Nat.ne_of_gt (blk_lt (g := gb637) (o := .cells #[.int .i64 a0_0, .slice A0_1 l0_1.length c0_1, .int .i64 a0_2] 87 (0, 0)) (by (with_reducible repeat (first | apply qn | apply qd | apply qa)); exact BK637.out)) : gb638 ≠ gb637)); clear BK637; clear HB; have BK637 := n0_; have HB := n1_; have BK638 := n2_; have GW638 := n3_; have GE638 := n4_; have NB637_638 := n5_; have NB638_637 := n6_; clear n0_ n1_ n2_ n3_ n4_ n5_ n6_; clear hb hbox hg; have hnb25 := NB637_638.out; have hnc25 := NB638_637.out; have hcz26_0 : w24.cell? ⟨gb637, 0, none⟩ = some (.int .i64 a0_0) := (qC BK637.out 0).trans rfl; have hcz26_1 : w24.cell? ⟨gb637, 1, none⟩ = some (.slice A0_1 l0_1.length c0_1) := (qC BK637.out 1).trans rfl; have hcz26_2 : w24.cell? ⟨gb637, 2, none⟩ = some (.int .i64 a0_2) := (qC BK637.out 2).trans rfl; have hfz26_0 := qF BK637.out 0; have hfz26_1 := qF BK637.out 1; have hfz26_2 := qF BK637.out 2; have hcz27_0 : w24.cell? ⟨gb638, 0, none⟩ = some (.int .i64 a1_0) := (qC BK638.out 0).trans rfl; have hcz27_1 : w24.cell? ⟨gb638, 1, none⟩ = some (.slice A1_1 l1_1.length c1_1) := (qC BK638.out 1).trans rfl; have hcz27_2 : w24.cell? ⟨gb638, 2, none⟩ = some (.int .i64 a1_2) := (qC BK638.out 2).trans rfl; have hfz27_0 := qF BK638.out 0; have hfz27_1 := qF BK638.out 1; have hfz27_2 := qF BK638.out 2) | ((with_reducible refine gate_callee (f := 115) rfl ?_); refine goesL_ (some 14) rfl rfl Try.func115 (by kernel_rfl) rfl #[.slice A0_1 l0_1.length c0_1, .slice A1_1 l1_1.length c1_1] rfl (by (try simp only [jC, jD, jE]); first | done | rfl | (simp only [jB, jA]; rfl)) ?_; (with_reducible refine (laws_eqFetchS.calls k _ _ l0_1 _ _ l1_1 false _ ?side1 ?side2 ?side3 ?side4 A4.out).mono ?_); (case side1 => repeat (first | exact (qB HR0_1.out HB.out) | (with_reducible refine qc ?_ _) | (with_reducible refine qe ?_ _) | (with_reducible refine qf ?_))); (case side2 => exact HC0_1.out); (case side3 => repeat (first | exact (qB HR1_1.out HB.out) | (with_reducible refine qc ?_ _) | (with_reducible refine qe ?_ _) | (with_reducible refine qf ?_))); (case side4 => exact HC1_1.out); rintro e w28 ⟨rfl, hb⟩; refine ⟨_, rfl, ?_⟩; have n0_ := qM (blk_below (g := gb637) (o := .cells #[.int .i64 a0_0, .slice A0_1 l0_1.length c0_1, .int .i64 a0_2] 87 (0, 0)) (by (with_reducible repeat (first | apply qn | apply qd | apply qa)); exact BK637.out) hb); have n1_ := qM (blk_below (g := gb638) (o := .cells #[.int .i64 a1_0, .slice A1_1 l1_1.length c1_1, .int .i64 a1_2] 87 (0, 0)) (by (with_reducible repeat (first | apply qn | apply qd | apply qa)); exact BK638.out) hb); have n2_ := qM (qs (by repeat (first | (with_reducible first | exact HB.out | apply qA | apply qN | apply qD | refine qS ?_ GE637.out | refine qS ?_ GE638.out) | exact HB.out)) hb); clear BK637; clear BK638; clear HB; have BK637 := n0_; have BK638 := n1_; have HB := n2_; clear n0_ n1_ n2_; (try clear hb); (try clear hb2); (try clear hk); (try clear hi)))
    go_ret
    exact ⟨by first | rfl | (simp [errW_none, errW_some] <;> rfl) | (simp [*, errW_none, errW_some] <;> rfl), by repeat (first | (with_reducible first | exact HB.out | apply qA | apply qN | apply qD | refine qS ?_ GE637.out | refine qS ?_ GE638.out) | exact HB.out)⟩
  subst c5
  have H1 : (if a0_2 = a1_2 then (some true) else (some false)) = some r := by rw [if_pos rfl] at H; exact H
  clear H
  have H := H1
  clear H1
  by_cases c6 : a0_2 = a1_2
  rotate_left
  · rw [if_neg c6] at H
    have c6b0 : (a0_2 == a1_2) = false := beq_eq_false_iff_ne.mpr c6
    have c6b1 : (a0_2 != a1_2) = true := bne_iff_ne.mpr c6
    obtain rfl := jF H
    go_enter Try.func56, Try.ntmps56
    go_wp2_with (first | ((with_reducible refine gate_dst (N := 2) rfl ?_); refine box_event ?hg (N := 2) ?hd (cs := #[.int .i64 a0_0, .slice A0_1 l0_1.length c0_1, .int .i64 a0_2]) (t := 87) ?hr ?_; (case hd => rfl); (case hg => rfl); (case hr => first | (go_simp; done) | (go_simp; rfl)); intro gb637 hg w15 hbox hb; have n0_ := qM (qs (by repeat (first | (with_reducible first | exact HB.out | apply qA | apply qN | apply qD) | exact HB.out)) hb); have n1_ := qM (hbox); have n2_ := qM ((by rw [hg]; exact (qz (by repeat (first | (with_reducible first | exact HB.out | apply qA | apply qN | apply qD) | exact HB.out))) : w.heap.size ≤ gb637)); have n3_ := qM ((by rw [hg]; exact (qz (by repeat (first | (with_reducible first | exact HB.out | apply qA | apply qN | apply qD) | exact HB.out))) : w.heap.size ≤ gb637)); clear HB; have HB := n0_; have BK637 := n1_; have GW637 := n2_; have GE637 := n3_; clear n0_ n1_ n2_ n3_; clear hb hbox hg) | ((with_reducible refine gate_dst (N := 3) rfl ?_); refine box_event ?hg (N := 3) ?hd (cs := #[.int .i64 a1_0, .slice A1_1 l1_1.length c1_1, .int .i64 a1_2]) (t := 87) ?hr ?_; (case hd => rfl); (case hg => rfl); (case hr => first | (go_simp; done) | (go_simp; rfl)); intro gb638 hg w16 hbox hb; have n0_ := qM (blk_below (g := gb637) (o := .cells #[.int .i64 a0_0, .slice A0_1 l0_1.length c0_1, .int .i64 a0_2] 87 (0, 0)) (by (with_reducible repeat (first | apply qn | apply qd | apply qa)); exact BK637.out) hb); have n1_ := qM (qs (by repeat (first | (with_reducible first | exact HB.out | apply qA | apply qN | apply qD | refine qS ?_ GE637.out) | exact HB.out)) hb); have n2_ := qM (hbox); have n3_ := qM ((by rw [hg]; exact (qz (by repeat (first | (with_reducible first | exact HB.out | apply qA | apply qN | apply qD | refine qS ?_ GE637.out) | exact HB.out))) : w.heap.size ≤ gb638)); have n4_ := qM ((by rw [hg]; exact (qz (by repeat (first | (with_reducible first | exact HB.out | apply qA | apply qN | apply qD | refine qS ?_ GE637.out) | exact HB.out))) : w.heap.size ≤ gb638)); have n5_ := qM ((by rw [hg]; exact Nat.ne_of_lt (blk_lt (g := gb637) (o := .cells #[.int .i64 a0_0, .slice A0_1 l0_1.length c0_1, .int .i64 a0_2] 87 (0, 0)) (by (with_reducible repeat (first | apply qn | apply qd | apply qa)); exact BK637.out)) : gb637 ≠ gb638)); have n6_ := qM ((by rw [hg]; exact Nat.ne_of_gt (blk_lt (g := gb637) (o := .cells #[.int .i64 a0_0, .slice A0_1 l0_1.length c0_1, .int .i64 a0_2] 87 (0, 0)) (by (with_reducible repeat (first | apply qn | apply qd | apply qa)); exact BK637.out)) : gb638 ≠ gb637)); clear BK637; clear HB; have BK637 := n0_; have HB := n1_; have BK638 := n2_; have GW638 := n3_; have GE638 := n4_; have NB637_638 := n5_; have NB638_637 := n6_; clear n0_ n1_ n2_ n3_ n4_ n5_ n6_; clear hb hbox hg; have hnb17 := NB637_638.out; have hnc17 := NB638_637.out; have hcz18_0 : w16.cell? ⟨gb637, 0, none⟩ = some (.int .i64 a0_0) := (qC BK637.out 0).trans rfl; have hcz18_1 : w16.cell? ⟨gb637, 1, none⟩ = some (.slice A0_1 l0_1.length c0_1) := (qC BK637.out 1).trans rfl; have hcz18_2 : w16.cell? ⟨gb637, 2, none⟩ = some (.int .i64 a0_2) := (qC BK637.out 2).trans rfl; have hfz18_0 := qF BK637.out 0; have hfz18_1 := qF BK637.out 1; have hfz18_2 := qF BK637.out 2; have hcz19_0 : w16.cell? ⟨gb638, 0, none⟩ = some (.int .i64 a1_0) := (qC BK638.out 0).trans rfl; have hcz19_1 : w16.cell? ⟨gb638, 1, none⟩ = some (.slice A1_1 l1_1.length c1_1) := (qC BK638.out 1).trans rfl; have hcz19_2 : w16.cell? ⟨gb638, 2, none⟩ = some (.int .i64 a1_2) := (qC BK638.out 2).trans rfl; have hfz19_0 := qF BK638.out 0; have hfz19_1 := qF BK638.out 1; have hfz19_2 := qF BK638.out 2) | ((with_reducible refine gate_callee (f := 115) rfl ?_); refine goesL_ (some 14) rfl rfl Try.func115 (by kernel_rfl) rfl #[.slice A0_1 l0_1.length c0_1, .slice A1_1 l1_1.length c1_1] rfl (by (try simp only [jC, jD, jE]); first | done | rfl | (simp only [jB, jA]; rfl)) ?_; (with_reducible refine (laws_eqFetchS.calls k _ _ l0_1 _ _ l1_1 true _ ?side1 ?side2 ?side3 ?side4 A4.out).mono ?_); (case side1 => repeat (first | exact (qB HR0_1.out HB.out) | (with_reducible refine qc ?_ _) | (with_reducible refine qe ?_ _) | (with_reducible refine qf ?_))); (case side2 => exact HC0_1.out); (case side3 => repeat (first | exact (qB HR1_1.out HB.out) | (with_reducible refine qc ?_ _) | (with_reducible refine qe ?_ _) | (with_reducible refine qf ?_))); (case side4 => exact HC1_1.out); rintro e w20 ⟨rfl, hb⟩; refine ⟨_, rfl, ?_⟩; have n0_ := qM (blk_below (g := gb637) (o := .cells #[.int .i64 a0_0, .slice A0_1 l0_1.length c0_1, .int .i64 a0_2] 87 (0, 0)) (by (with_reducible repeat (first | apply qn | apply qd | apply qa)); exact BK637.out) hb); have n1_ := qM (blk_below (g := gb638) (o := .cells #[.int .i64 a1_0, .slice A1_1 l1_1.length c1_1, .int .i64 a1_2] 87 (0, 0)) (by (with_reducible repeat (first | apply qn | apply qd | apply qa)); exact BK638.out) hb); have n2_ := qM (qs (by repeat (first | (with_reducible first | exact HB.out | apply qA | apply qN | apply qD | refine qS ?_ GE637.out | refine qS ?_ GE638.out) | exact HB.out)) hb); clear BK637; clear BK638; clear HB; have BK637 := n0_; have BK638 := n1_; have HB := n2_; clear n0_ n1_ n2_; (try clear hb); (try clear hb2); (try clear hk); (try clear hi); have hcz21_0 : w20.cell? ⟨gb637, 0, none⟩ = some (.int .i64 a0_0) := (qC BK637.out 0).trans rfl; have hcz21_1 : w20.cell? ⟨gb637, 1, none⟩ = some (.slice A0_1 l0_1.length c0_1) := (qC BK637.out 1).trans rfl; have hcz21_2 : w20.cell? ⟨gb637, 2, none⟩ = some (.int .i64 a0_2) := (qC BK637.out 2).trans rfl; have hfz21_0 := qF BK637.out 0; have hfz21_1 := qF BK637.out 1; have hfz21_2 := qF BK637.out 2; have hcz22_0 : w20.cell? ⟨gb638, 0, none⟩ = some (.int .i64 a1_0) := (qC BK638.out 0).trans rfl; have hcz22_1 : w20.cell? ⟨gb638, 1, none⟩ = some (.slice A1_1 l1_1.length c1_1) := (qC BK638.out 1).trans rfl; have hcz22_2 : w20.cell? ⟨gb638, 2, none⟩ = some (.int .i64 a1_2) := (qC BK638.out 2).trans rfl; have hfz22_0 := qF BK638.out 0; have hfz22_1 := qF BK638.out 1; have hfz22_2 := qF BK638.out 2))
    go_ret
    exact ⟨by first | rfl | (simp [errW_none, errW_some] <;> rfl) | (simp [*, errW_none, errW_some] <;> rfl), by repeat (first | (with_reducible first | exact HB.out | apply qA | apply qN | apply qD | refine qS ?_ GE637.out | refine qS ?_ GE638.out) | exact HB.out)⟩
  rw [if_pos c6] at H
  have c6b0 : (a0_2 == a1_2) = true := beq_iff_eq.mpr c6
  have c6b1 : (a0_2 != a1_2) = false := bne_eq_false_iff_eq.mpr c6
  clear c6
  obtain rfl := jF H
  go_enter Try.func56, Try.ntmps56
  go_wp2_with (first | ((with_reducible refine gate_dst (N := 2) rfl ?_); refine box_event ?hg (N := 2) ?hd (cs := #[.int .i64 a0_0, .slice A0_1 l0_1.length c0_1, .int .i64 a0_2]) (t := 87) ?hr ?_; (case hd => rfl); (case hg => rfl); (case hr => first | (go_simp; done) | (go_simp; rfl)); intro gb637 hg w7 hbox hb; have n0_ := qM (qs (by repeat (first | (with_reducible first | exact HB.out | apply qA | apply qN | apply qD) | exact HB.out)) hb); have n1_ := qM (hbox); have n2_ := qM ((by rw [hg]; exact (qz (by repeat (first | (with_reducible first | exact HB.out | apply qA | apply qN | apply qD) | exact HB.out))) : w.heap.size ≤ gb637)); have n3_ := qM ((by rw [hg]; exact (qz (by repeat (first | (with_reducible first | exact HB.out | apply qA | apply qN | apply qD) | exact HB.out))) : w.heap.size ≤ gb637)); clear HB; have HB := n0_; have BK637 := n1_; have GW637 := n2_; have GE637 := n3_; clear n0_ n1_ n2_ n3_; clear hb hbox hg) | ((with_reducible refine gate_dst (N := 3) rfl ?_); refine box_event ?hg (N := 3) ?hd (cs := #[.int .i64 a1_0, .slice A1_1 l1_1.length c1_1, .int .i64 a1_2]) (t := 87) ?hr ?_; (case hd => rfl); (case hg => rfl); (case hr => first | (go_simp; done) | (go_simp; rfl)); intro gb638 hg w8 hbox hb; have n0_ := qM (blk_below (g := gb637) (o := .cells #[.int .i64 a0_0, .slice A0_1 l0_1.length c0_1, .int .i64 a0_2] 87 (0, 0)) (by (with_reducible repeat (first | apply qn | apply qd | apply qa)); exact BK637.out) hb); have n1_ := qM (qs (by repeat (first | (with_reducible first | exact HB.out | apply qA | apply qN | apply qD | refine qS ?_ GE637.out) | exact HB.out)) hb); have n2_ := qM (hbox); have n3_ := qM ((by rw [hg]; exact (qz (by repeat (first | (with_reducible first | exact HB.out | apply qA | apply qN | apply qD | refine qS ?_ GE637.out) | exact HB.out))) : w.heap.size ≤ gb638)); have n4_ := qM ((by rw [hg]; exact (qz (by repeat (first | (with_reducible first | exact HB.out | apply qA | apply qN | apply qD | refine qS ?_ GE637.out) | exact HB.out))) : w.heap.size ≤ gb638)); have n5_ := qM ((by rw [hg]; exact Nat.ne_of_lt (blk_lt (g := gb637) (o := .cells #[.int .i64 a0_0, .slice A0_1 l0_1.length c0_1, .int .i64 a0_2] 87 (0, 0)) (by (with_reducible repeat (first | apply qn | apply qd | apply qa)); exact BK637.out)) : gb637 ≠ gb638)); have n6_ := qM ((by rw [hg]; exact Nat.ne_of_gt (blk_lt (g := gb637) (o := .cells #[.int .i64 a0_0, .slice A0_1 l0_1.length c0_1, .int .i64 a0_2] 87 (0, 0)) (by (with_reducible repeat (first | apply qn | apply qd | apply qa)); exact BK637.out)) : gb638 ≠ gb637)); clear BK637; clear HB; have BK637 := n0_; have HB := n1_; have BK638 := n2_; have GW638 := n3_; have GE638 := n4_; have NB637_638 := n5_; have NB638_637 := n6_; clear n0_ n1_ n2_ n3_ n4_ n5_ n6_; clear hb hbox hg; have hnb9 := NB637_638.out; have hnc9 := NB638_637.out; have hcz10_0 : w8.cell? ⟨gb637, 0, none⟩ = some (.int .i64 a0_0) := (qC BK637.out 0).trans rfl; have hcz10_1 : w8.cell? ⟨gb637, 1, none⟩ = some (.slice A0_1 l0_1.length c0_1) := (qC BK637.out 1).trans rfl; have hcz10_2 : w8.cell? ⟨gb637, 2, none⟩ = some (.int .i64 a0_2) := (qC BK637.out 2).trans rfl; have hfz10_0 := qF BK637.out 0; have hfz10_1 := qF BK637.out 1; have hfz10_2 := qF BK637.out 2; have hcz11_0 : w8.cell? ⟨gb638, 0, none⟩ = some (.int .i64 a1_0) := (qC BK638.out 0).trans rfl; have hcz11_1 : w8.cell? ⟨gb638, 1, none⟩ = some (.slice A1_1 l1_1.length c1_1) := (qC BK638.out 1).trans rfl; have hcz11_2 : w8.cell? ⟨gb638, 2, none⟩ = some (.int .i64 a1_2) := (qC BK638.out 2).trans rfl; have hfz11_0 := qF BK638.out 0; have hfz11_1 := qF BK638.out 1; have hfz11_2 := qF BK638.out 2) | ((with_reducible refine gate_callee (f := 115) rfl ?_); refine goesL_ (some 14) rfl rfl Try.func115 (by kernel_rfl) rfl #[.slice A0_1 l0_1.length c0_1, .slice A1_1 l1_1.length c1_1] rfl (by (try simp only [jC, jD, jE]); first | done | rfl | (simp only [jB, jA]; rfl)) ?_; (with_reducible refine (laws_eqFetchS.calls k _ _ l0_1 _ _ l1_1 true _ ?side1 ?side2 ?side3 ?side4 A4.out).mono ?_); (case side1 => repeat (first | exact (qB HR0_1.out HB.out) | (with_reducible refine qc ?_ _) | (with_reducible refine qe ?_ _) | (with_reducible refine qf ?_))); (case side2 => exact HC0_1.out); (case side3 => repeat (first | exact (qB HR1_1.out HB.out) | (with_reducible refine qc ?_ _) | (with_reducible refine qe ?_ _) | (with_reducible refine qf ?_))); (case side4 => exact HC1_1.out); rintro e w12 ⟨rfl, hb⟩; refine ⟨_, rfl, ?_⟩; have n0_ := qM (blk_below (g := gb637) (o := .cells #[.int .i64 a0_0, .slice A0_1 l0_1.length c0_1, .int .i64 a0_2] 87 (0, 0)) (by (with_reducible repeat (first | apply qn | apply qd | apply qa)); exact BK637.out) hb); have n1_ := qM (blk_below (g := gb638) (o := .cells #[.int .i64 a1_0, .slice A1_1 l1_1.length c1_1, .int .i64 a1_2] 87 (0, 0)) (by (with_reducible repeat (first | apply qn | apply qd | apply qa)); exact BK638.out) hb); have n2_ := qM (qs (by repeat (first | (with_reducible first | exact HB.out | apply qA | apply qN | apply qD | refine qS ?_ GE637.out | refine qS ?_ GE638.out) | exact HB.out)) hb); clear BK637; clear BK638; clear HB; have BK637 := n0_; have BK638 := n1_; have HB := n2_; clear n0_ n1_ n2_; (try clear hb); (try clear hb2); (try clear hk); (try clear hi); have hcz13_0 : w12.cell? ⟨gb637, 0, none⟩ = some (.int .i64 a0_0) := (qC BK637.out 0).trans rfl; have hcz13_1 : w12.cell? ⟨gb637, 1, none⟩ = some (.slice A0_1 l0_1.length c0_1) := (qC BK637.out 1).trans rfl; have hcz13_2 : w12.cell? ⟨gb637, 2, none⟩ = some (.int .i64 a0_2) := (qC BK637.out 2).trans rfl; have hfz13_0 := qF BK637.out 0; have hfz13_1 := qF BK637.out 1; have hfz13_2 := qF BK637.out 2; have hcz14_0 : w12.cell? ⟨gb638, 0, none⟩ = some (.int .i64 a1_0) := (qC BK638.out 0).trans rfl; have hcz14_1 : w12.cell? ⟨gb638, 1, none⟩ = some (.slice A1_1 l1_1.length c1_1) := (qC BK638.out 1).trans rfl; have hcz14_2 : w12.cell? ⟨gb638, 2, none⟩ = some (.int .i64 a1_2) := (qC BK638.out 2).trans rfl; have hfz14_0 := qF BK638.out 0; have hfz14_1 := qF BK638.out 1; have hfz14_2 := qF BK638.out 2))
  go_ret
  exact ⟨by first | rfl | (simp [errW_none, errW_some] <;> rfl) | (simp [*, errW_none, errW_some] <;> rfl), by repeat (first | (with_reducible first | exact HB.out | apply qA | apply qN | apply qD | refine qS ?_ GE637.out | refine qS ?_ GE638.out) | exact HB.out)⟩
def laws_eqTraceS.l0 : Nat → List (S87) → List (S87) → Int → Option (Bool)
  | 0, _, _, _ => none
  | k + 1, x0, x1, x5 => if x5 < (x0.length : Int) then (if 0 ≤ x5 then (if x5 < (x1.length : Int) then ((laws_eqTrace.f k ((rd_T87 x0 x5).f0) ((rd_T87 x0 x5).f1) ((rd_T87 x0 x5).f2) ((rd_T87 x1 x5).f0) ((rd_T87 x1 x5).f1) ((rd_T87 x1 x5).f2)).bind fun t642 => (if t642 = true then (laws_eqTraceS.l0 k x0 x1 (wrap64 (x5 + 1))) else (some false))) else (none)) else (none)) else (some true)
def laws_eqTraceS.f (k : Nat) (l0 : List (S87)) (l1 : List (S87)) : Option (Bool) := if (l0.length : Int) = (l1.length : Int) then (laws_eqTraceS.l0 k l0 l1 0) else (some false)
def laws_eqTraceS.T6 : Bool × List (List Nat × List Nat) := (true, [([], []), ([], []), ([0, 1], [0, 1]), ([2], [2]), ([], []), ([], []), ([4, 5], [4, 5]), ([6], [6]), ([3, 7], [3, 7]), ([8], [8])])
def laws_eqTraceS.B6 : List Nat := [0, 0, 3, 7, 0, 0, 48, 112, 255, 511]
theorem laws_eqTraceS.tab6 : rtab .any (opsOf Try.f44 6) = laws_eqTraceS.T6 := by kernel_rfl
theorem laws_eqTraceS.bits6 : waitsOk laws_eqTraceS.T6.2 laws_eqTraceS.B6 = true := by kernel_rfl
theorem laws_eqTraceS.calls (k : Nat) (A0 : Option Addr) (c0 : Nat) (l0 : List (S87)) (A1 : Option Addr) (c1 : Nat) (l1 : List (S87)) (r : Bool) (w : World) (hr0 : Kd.C k87 w A0 l0.length l0) (hc0 : l0.length ≤ c0) (hr1 : Kd.C k87 w A1 l1.length l1) (hc1 : l1.length ≤ c1) (h : laws_eqTraceS.f k l0 l1 = some r) :
    Calls Try.prog 44 #[.slice A0 l0.length c0, .slice A1 l1.length c1] w fun e w' => e = .returned (.bool r) ∧ Below w.heap.size w w' := by
  have hu87 := Try.underlying87
  have HR0 := qM hr0
  have HC0 := qM hc0
  clear hr0 hc0
  have HR1 := qM hr1
  have HC1 := qM hc1
  clear hr1 hc1
  have HB := qM (Below.refl w.heap.size w)
  have H : (if (l0.length : Int) = (l1.length : Int) then (laws_eqTraceS.l0 k l0 l1 0) else (some false)) = some r := h
  clear h
  by_cases c3 : (l0.length : Int) = (l1.length : Int)
  rotate_left
  · rw [if_neg c3] at H
    have c3b0 : ((l0.length : Int) == (l1.length : Int)) = false := beq_eq_false_iff_ne.mpr c3
    have c3b1 : ((l0.length : Int) != (l1.length : Int)) = true := bne_iff_ne.mpr c3
    have c3b2 : (l0.length == l1.length) = false := by first | simpa using c3 | (simp at c3 ⊢; omega)
    obtain rfl := jF H
    go_enter Try.func44, Try.ntmps44
    go_wp2
    go_ret
    exact ⟨by first | rfl | (simp [errW_none, errW_some] <;> rfl) | (simp [*, errW_none, errW_some] <;> rfl), by repeat (first | (with_reducible first | exact HB.out | apply qA | apply qN | apply qD) | exact HB.out)⟩
  rw [if_pos c3] at H
  have c3b0 : ((l0.length : Int) == (l1.length : Int)) = true := beq_iff_eq.mpr c3
  have c3b1 : ((l0.length : Int) != (l1.length : Int)) = false := bne_eq_false_iff_eq.mpr c3
  have c3b2 : (l0.length == l1.length) = true := by first | simpa using c3 | (simp at c3 ⊢; omega)
  clear c3
  have H' := qM H
  clear H
  go_enter Try.func44, Try.ntmps44
  go_wp2
  go_loopg [5] k (fun kq v5 w' => ∃ (x5_1 : Int), v5 = .int .i64 x5_1 ∧ Aside0 (laws_eqTraceS.l0 kq l0 l1 x5_1 = some r) ∧ Aside0 (kq ≤ k) ∧ Aside0 (Below w.heap.size w w'))
  case atStart => exact ⟨(0), (by first | rfl | (simp; done) | (simp [*]; done)), H', ⟨Nat.le_refl _⟩, ⟨by repeat (first | (with_reducible first | exact HB.out | apply qA | apply qN | apply qD) | exact HB.out)⟩⟩
  case round =>
    clear H'
    try clear c1
    try clear p2
    try clear c3
    try clear c3b0
    try clear c3b1
    try clear c3b2
    obtain ⟨x5_1, rfl, HA, HK1, HB⟩ := hrel
    cases gk with
    | zero => exact absurd HA.out (by simp [laws_eqTraceS.l0])
    | succ k1 =>
      have H := HA.out
      clear HA
      simp only [laws_eqTraceS.l0] at H
      by_cases c4 : x5_1 < (l0.length : Int)
      rotate_left
      · rw [if_neg c4] at H
        have c4b0 : decide (x5_1 < (l0.length : Int)) = false := decide_eq_false c4
        clear c4
        obtain rfl := jF H
        go_wp2
        go_ret
        exact ⟨by first | rfl | (simp [errW_none, errW_some] <;> rfl) | (simp [*, errW_none, errW_some] <;> rfl), by repeat (first | (with_reducible first | exact HB.out | apply qA | apply qN | apply qD) | exact HB.out)⟩
      rw [if_pos c4] at H
      have c4b0 : decide (x5_1 < (l0.length : Int)) = true := decide_eq_true c4
      clear c4
      by_cases c5 : 0 ≤ x5_1
      rotate_left
      · rw [if_neg c5] at H
        exact absurd H (by simp)
      rw [if_pos c5] at H
      have c5b0 : decide (0 ≤ x5_1) = true := decide_eq_true c5
      clear c5
      by_cases c6 : x5_1 < (l1.length : Int)
      rotate_left
      · rw [if_neg c6] at H
        exact absurd H (by simp)
      rw [if_pos c6] at H
      have c6b0 : decide (x5_1 < (l1.length : Int)) = true := decide_eq_true c6
      clear c6
      replace H := jG H
      obtain ⟨t642, A70, H⟩ := H
      replace H : (if t642 = true then (laws_eqTraceS.l0 k1 l0 l1 (wrap64 (x5_1 + 1))) else (some false)) = some r := H
      have A7 := qM A70
      clear A70
      by_cases c8 : t642 = true
      rotate_left
      · replace c8 := Bool.eq_false_iff.mpr c8
        subst c8
        have H1 : (some false) = some r := by rw [if_neg (show ¬ (false = true) by decide)] at H; exact H
        clear H
        have H := H1
        clear H1
        obtain rfl := jF H
        try go_wp2
        have n0_ := qM (qD HB.out)
        clear HB
        have HB := n0_
        clear n0_
        have p640 : 0 ≤ (x5_1 : Int) := qO (by first | (with_reducible assumption) | assumption)
        have q640 : x5_1 < (l0.length : Int) := qO (by first | (with_reducible assumption) | assumption)
        obtain ⟨ad640, A640_1, c640_1, e640, hx640_0, hx640_1, hx640_2, hl640_1, hi640_1⟩ := at_T87 HR0.out x5_1 p640 q640
        have hw640_2 := hx640_2
        have hw640_1 := hx640_1
        have hw640_0 := hx640_0
        cases e640
        replace hx640_0 := (HB.out.cell (qL w _ hx640_0)).trans hx640_0
        replace hx640_1 := (HB.out.cell (qL w _ hx640_1)).trans hx640_1
        replace hx640_2 := (HB.out.cell (qL w _ hx640_2)).trans hx640_2
        have HR640_1 := qM hi640_1
        have HC640_1 := qM hl640_1
        clear hi640_1 hl640_1
        replace p640 := eq_true p640
        replace q640 := eq_true q640
        have p641 : 0 ≤ (x5_1 : Int) := qO (by first | (with_reducible assumption) | assumption)
        have q641 : x5_1 < (l1.length : Int) := qO (by first | (with_reducible assumption) | assumption)
        obtain ⟨ad641, A641_1, c641_1, e641, hx641_0, hx641_1, hx641_2, hl641_1, hi641_1⟩ := at_T87 HR1.out x5_1 p641 q641
        have hw641_2 := hx641_2
        have hw641_1 := hx641_1
        have hw641_0 := hx641_0
        cases e641
        replace hx641_0 := (HB.out.cell (qL w _ hx641_0)).trans hx641_0
        replace hx641_1 := (HB.out.cell (qL w _ hx641_1)).trans hx641_1
        replace hx641_2 := (HB.out.cell (qL w _ hx641_2)).trans hx641_2
        have HR641_1 := qM hi641_1
        have HC641_1 := qM hl641_1
        clear hi641_1 hl641_1
        replace p641 := eq_true p641
        replace q641 := eq_true q641
        refine start_ (n := 10) (S := fun w' => w'.cell? (ad640.add ((x5_1).toNat * 3)) = some (.int .i64 ((rd_T87 l0 x5_1).f0)) ∧ w'.cell? ⟨(ad640.add ((x5_1).toNat * 3)).block, (ad640.add ((x5_1).toNat * 3)).off + 1, none⟩ = some (.slice A640_1 ((rd_T87 l0 x5_1).f1).length c640_1) ∧ w'.cell? ⟨(ad640.add ((x5_1).toNat * 3)).block, (ad640.add ((x5_1).toNat * 3)).off + 2, none⟩ = some (.int .i64 ((rd_T87 l0 x5_1).f2)) ∧ w'.cell? (ad641.add ((x5_1).toNat * 3)) = some (.int .i64 ((rd_T87 l1 x5_1).f0)) ∧ w'.cell? ⟨(ad641.add ((x5_1).toNat * 3)).block, (ad641.add ((x5_1).toNat * 3)).off + 1, none⟩ = some (.slice A641_1 ((rd_T87 l1 x5_1).f1).length c641_1) ∧ w'.cell? ⟨(ad641.add ((x5_1).toNat * 3)).block, (ad641.add ((x5_1).toNat * 3)).off + 2, none⟩ = some (.int .i64 ((rd_T87 l1 x5_1).f2))) (ds := []) #[false, false, false, false, false, false, false, false, false, false] (by kernel_rfl) rfl rfl ⟨((HB.out.cell (qL w _ hw640_0)).trans hw640_0), ((HB.out.cell (qL w _ hw640_1)).trans hw640_1), ((HB.out.cell (qL w _ hw640_2)).trans hw640_2), ((HB.out.cell (qL w _ hw641_0)).trans hw641_0), ((HB.out.cell (qL w _ hw641_1)).trans hw641_1), ((HB.out.cell (qL w _ hw641_2)).trans hw641_2)⟩ (fun hHeld => ?_); refine with_tabW laws_eqTraceS.tab6 laws_eqTraceS.bits6 (fun HT_ HW_ => ?_)
        generalize wr.drew = w11 at HB HR640_1 HR641_1 hx640_0 hx640_1 hx640_2 hx641_0 hx641_1 hx641_2 hHeld ⊢
        refine pure_ (i := 0) (N := some 17) (v := ?_) (a' := ?_) #[true, false, false, false, false, false, false, false, false, false] rfl rfl (any_of HT_.out (by kernel_rfl)) (fun _ _ _ h => h) (Or.inl ⟨by rfl, ?_⟩) ?_ ?_
        rotate_left
        · intro w'
          go_simp
          with_reducible rfl
        rotate_left
        · simp only [Act.put, qT, qU, qV, i64_w, i32_w]
          rfl
        refine pure_ (i := 1) (N := some 18) (v := ?_) (a' := ?_) #[true, true, false, false, false, false, false, false, false, false] rfl rfl (any_of HT_.out (by kernel_rfl)) (fun _ _ _ h => h) (Or.inl ⟨by rfl, ?_⟩) ?_ ?_
        rotate_left
        · intro w'
          go_simp
          with_reducible rfl
        rotate_left
        · simp only [Act.put, qT, qU, qV, i64_w, i32_w]
          rfl
        refine pure_ (i := 2) (N := some 19) (v := ?_) (a' := ?_) #[true, true, true, false, false, false, false, false, false, false] rfl rfl (any_of HT_.out (by kernel_rfl)) (fun _ _ _ h => h) (Or.inl ⟨by rfl, ?_⟩) ?_ ?_
        rotate_left
        · intro w'
          go_simp
          with_reducible rfl
        rotate_left
        · simp only [Act.put, qT, qU, qV, i64_w, i32_w]
          rfl
        refine pure_ (i := 4) (N := some 21) (v := ?_) (a' := ?_) #[true, true, true, false, true, false, false, false, false, false] rfl rfl (any_of HT_.out (by kernel_rfl)) (fun _ _ _ h => h) (Or.inl ⟨by rfl, ?_⟩) ?_ ?_
        rotate_left
        · intro w'
          go_simp
          with_reducible rfl
        rotate_left
        · simp only [Act.put, qT, qU, qV, i64_w, i32_w]
          rfl
        refine pure_ (i := 5) (N := some 22) (v := ?_) (a' := ?_) #[true, true, true, false, true, true, false, false, false, false] rfl rfl (any_of HT_.out (by kernel_rfl)) (fun _ _ _ h => h) (Or.inl ⟨by rfl, ?_⟩) ?_ ?_
        rotate_left
        · intro w'
          go_simp
          with_reducible rfl
        rotate_left
        · simp only [Act.put, qT, qU, qV, i64_w, i32_w]
          rfl
        refine pure_ (i := 6) (N := some 23) (v := ?_) (a' := ?_) #[true, true, true, false, true, true, true, false, false, false] rfl rfl (any_of HT_.out (by kernel_rfl)) (fun _ _ _ h => h) (Or.inl ⟨by rfl, ?_⟩) ?_ ?_
        rotate_left
        · intro w'
          go_simp
          with_reducible rfl
        rotate_left
        · simp only [Act.put, qT, qU, qV, i64_w, i32_w]
          rfl
        refine take_ (i := 3) (N := some 20) (v := ?_) (a' := ?_) #[true, true, true, true, true, true, true, false, false, false] rfl rfl (take_ofW HT_.out HW_.out (by kernel_rfl)) (fun _ _ _ h => h) (Or.inl ⟨by rfl, ?_⟩) hHeld ?_ ?_
        rotate_left
        · rintro w' ⟨s0, s1, s2, s3, s4, s5⟩
          go_simp
          with_reducible rfl
        rotate_left
        · simp only [Act.put, qT, qU, qV, i64_w, i32_w]
          rfl
        refine take_ (i := 7) (N := some 24) (v := ?_) (a' := ?_) #[true, true, true, true, true, true, true, true, false, false] rfl rfl (take_ofW HT_.out HW_.out (by kernel_rfl)) (fun _ _ _ h => h) (Or.inl ⟨by rfl, ?_⟩) hHeld ?_ ?_
        rotate_left
        · rintro w' ⟨s0, s1, s2, s3, s4, s5⟩
          go_simp
          with_reducible rfl
        rotate_left
        · simp only [Act.put, qT, qU, qV, i64_w, i32_w]
          rfl
        refine one_ (i := 8) (N := some 25) #[true, true, true, true, true, true, true, true, true, false] rfl rfl (one_of HT_.out (by kernel_rfl)) (by decide) (fun K hK => ?_)
        refine goes_ Try.func56 (by kernel_rfl) rfl #[.agg #[.int .i64 ((rd_T87 l0 x5_1).f0), .slice A640_1 ((rd_T87 l0 x5_1).f1).length c640_1, .int .i64 ((rd_T87 l0 x5_1).f2)], .agg #[.int .i64 ((rd_T87 l1 x5_1).f0), .slice A641_1 ((rd_T87 l1 x5_1).f1).length c641_1, .int .i64 ((rd_T87 l1 x5_1).f2)]] (by rfl) rfl rfl (by (try simp only [jC, jD, jE]); first | done | rfl | (simp only [jB, jA]; rfl)) ?_
        with_reducible refine (laws_eqTrace.calls k1 ((rd_T87 l0 x5_1).f0) _ _ ((rd_T87 l0 x5_1).f1) ((rd_T87 l0 x5_1).f2) ((rd_T87 l1 x5_1).f0) _ _ ((rd_T87 l1 x5_1).f1) ((rd_T87 l1 x5_1).f2) false _ ?side1 ?side2 ?side3 ?side4 A7.out).mono ?_
        (case side1 => repeat (first | exact (qB HR640_1.out HB.out) | (with_reducible refine qc ?_ _) | (with_reducible refine qe ?_ _) | (with_reducible refine qf ?_)))
        (case side2 => exact HC640_1.out)
        (case side3 => repeat (first | exact (qB HR641_1.out HB.out) | (with_reducible refine qc ?_ _) | (with_reducible refine qe ?_ _) | (with_reducible refine qf ?_)))
        (case side4 => exact HC641_1.out)
        rintro e w12 ⟨rfl, hb⟩
        refine ⟨_, rfl, ?_⟩
        have n0_ := qM (qs (by repeat (first | (with_reducible first | exact HB.out | apply qA | apply qN | apply qD) | exact HB.out)) hb)
        clear HB
        have HB := n0_
        clear n0_
        (try clear hb)
        (try clear hb2)
        (try clear hk)
        (try clear hi)
        refine hK.out _ _ ⟨((HB.out.cell (qL w _ hw640_0)).trans hw640_0), ((HB.out.cell (qL w _ hw640_1)).trans hw640_1), ((HB.out.cell (qL w _ hw640_2)).trans hw640_2), ((HB.out.cell (qL w _ hw641_0)).trans hw641_0), ((HB.out.cell (qL w _ hw641_1)).trans hw641_1), ((HB.out.cell (qL w _ hw641_2)).trans hw641_2)⟩ (fun hHeld => ?_)
        clear hK K
        refine norm_ (a' := ?_) ?_ ?_
        rotate_left
        · show Act.put _ (some 25) _ = _
          simp only [Act.put, qT, qU, qV, i64_w, i32_w]
          rfl
        refine pure_ (i := 9) (N := some 26) (v := ?_) (a' := ?_) #[true, true, true, true, true, true, true, true, true, true] rfl rfl (any_of HT_.out (by kernel_rfl)) (fun _ _ _ h => h) (Or.inl ⟨by rfl, ?_⟩) ?_ ?_
        rotate_left
        · intro w'
          go_simp
          with_reducible rfl
        rotate_left
        · simp only [Act.put, qT, qU, qV, i64_w, i32_w]
          rfl
        refine done_ (done_of HT_.out (by kernel_rfl)) ?_
        try go_wp2
        go_ret
        exact ⟨by first | rfl | (simp [errW_none, errW_some] <;> rfl) | (simp [*, errW_none, errW_some] <;> rfl), by repeat (first | (with_reducible first | exact HB.out | apply qA | apply qN | apply qD) | exact HB.out)⟩
      subst c8
      have H1 : (laws_eqTraceS.l0 k1 l0 l1 (wrap64 (x5_1 + 1))) = some r := by rw [if_pos rfl] at H; exact H
      clear H
      have H := H1
      clear H1
      have H' := qM H
      clear H
      try go_wp2
      have n0_ := qM (qD HB.out)
      clear HB
      have HB := n0_
      clear n0_
      have p640 : 0 ≤ (x5_1 : Int) := qO (by first | (with_reducible assumption) | assumption)
      have q640 : x5_1 < (l0.length : Int) := qO (by first | (with_reducible assumption) | assumption)
      obtain ⟨ad640, A640_1, c640_1, e640, hx640_0, hx640_1, hx640_2, hl640_1, hi640_1⟩ := at_T87 HR0.out x5_1 p640 q640
      have hw640_2 := hx640_2
      have hw640_1 := hx640_1
      have hw640_0 := hx640_0
      cases e640
      replace hx640_0 := (HB.out.cell (qL w _ hx640_0)).trans hx640_0
      replace hx640_1 := (HB.out.cell (qL w _ hx640_1)).trans hx640_1
      replace hx640_2 := (HB.out.cell (qL w _ hx640_2)).trans hx640_2
      have HR640_1 := qM hi640_1
      have HC640_1 := qM hl640_1
      clear hi640_1 hl640_1
      replace p640 := eq_true p640
      replace q640 := eq_true q640
      have p641 : 0 ≤ (x5_1 : Int) := qO (by first | (with_reducible assumption) | assumption)
      have q641 : x5_1 < (l1.length : Int) := qO (by first | (with_reducible assumption) | assumption)
      obtain ⟨ad641, A641_1, c641_1, e641, hx641_0, hx641_1, hx641_2, hl641_1, hi641_1⟩ := at_T87 HR1.out x5_1 p641 q641
      have hw641_2 := hx641_2
      have hw641_1 := hx641_1
      have hw641_0 := hx641_0
      cases e641
      replace hx641_0 := (HB.out.cell (qL w _ hx641_0)).trans hx641_0
      replace hx641_1 := (HB.out.cell (qL w _ hx641_1)).trans hx641_1
      replace hx641_2 := (HB.out.cell (qL w _ hx641_2)).trans hx641_2
      have HR641_1 := qM hi641_1
      have HC641_1 := qM hl641_1
      clear hi641_1 hl641_1
      replace p641 := eq_true p641
      replace q641 := eq_true q641
      refine start_ (n := 10) (S := fun w' => w'.cell? (ad640.add ((x5_1).toNat * 3)) = some (.int .i64 ((rd_T87 l0 x5_1).f0)) ∧ w'.cell? ⟨(ad640.add ((x5_1).toNat * 3)).block, (ad640.add ((x5_1).toNat * 3)).off + 1, none⟩ = some (.slice A640_1 ((rd_T87 l0 x5_1).f1).length c640_1) ∧ w'.cell? ⟨(ad640.add ((x5_1).toNat * 3)).block, (ad640.add ((x5_1).toNat * 3)).off + 2, none⟩ = some (.int .i64 ((rd_T87 l0 x5_1).f2)) ∧ w'.cell? (ad641.add ((x5_1).toNat * 3)) = some (.int .i64 ((rd_T87 l1 x5_1).f0)) ∧ w'.cell? ⟨(ad641.add ((x5_1).toNat * 3)).block, (ad641.add ((x5_1).toNat * 3)).off + 1, none⟩ = some (.slice A641_1 ((rd_T87 l1 x5_1).f1).length c641_1) ∧ w'.cell? ⟨(ad641.add ((x5_1).toNat * 3)).block, (ad641.add ((x5_1).toNat * 3)).off + 2, none⟩ = some (.int .i64 ((rd_T87 l1 x5_1).f2))) (ds := []) #[false, false, false, false, false, false, false, false, false, false] (by kernel_rfl) rfl rfl ⟨((HB.out.cell (qL w _ hw640_0)).trans hw640_0), ((HB.out.cell (qL w _ hw640_1)).trans hw640_1), ((HB.out.cell (qL w _ hw640_2)).trans hw640_2), ((HB.out.cell (qL w _ hw641_0)).trans hw641_0), ((HB.out.cell (qL w _ hw641_1)).trans hw641_1), ((HB.out.cell (qL w _ hw641_2)).trans hw641_2)⟩ (fun hHeld => ?_); refine with_tabW laws_eqTraceS.tab6 laws_eqTraceS.bits6 (fun HT_ HW_ => ?_)
      generalize wr.drew = w9 at HB HR640_1 HR641_1 hx640_0 hx640_1 hx640_2 hx641_0 hx641_1 hx641_2 hHeld ⊢
      refine pure_ (i := 0) (N := some 17) (v := ?_) (a' := ?_) #[true, false, false, false, false, false, false, false, false, false] rfl rfl (any_of HT_.out (by kernel_rfl)) (fun _ _ _ h => h) (Or.inl ⟨by rfl, ?_⟩) ?_ ?_
      rotate_left
      · intro w'
        go_simp
        with_reducible rfl
      rotate_left
      · simp only [Act.put, qT, qU, qV, i64_w, i32_w]
        rfl
      refine pure_ (i := 1) (N := some 18) (v := ?_) (a' := ?_) #[true, true, false, false, false, false, false, false, false, false] rfl rfl (any_of HT_.out (by kernel_rfl)) (fun _ _ _ h => h) (Or.inl ⟨by rfl, ?_⟩) ?_ ?_
      rotate_left
      · intro w'
        go_simp
        with_reducible rfl
      rotate_left
      · simp only [Act.put, qT, qU, qV, i64_w, i32_w]
        rfl
      refine pure_ (i := 2) (N := some 19) (v := ?_) (a' := ?_) #[true, true, true, false, false, false, false, false, false, false] rfl rfl (any_of HT_.out (by kernel_rfl)) (fun _ _ _ h => h) (Or.inl ⟨by rfl, ?_⟩) ?_ ?_
      rotate_left
      · intro w'
        go_simp
        with_reducible rfl
      rotate_left
      · simp only [Act.put, qT, qU, qV, i64_w, i32_w]
        rfl
      refine pure_ (i := 4) (N := some 21) (v := ?_) (a' := ?_) #[true, true, true, false, true, false, false, false, false, false] rfl rfl (any_of HT_.out (by kernel_rfl)) (fun _ _ _ h => h) (Or.inl ⟨by rfl, ?_⟩) ?_ ?_
      rotate_left
      · intro w'
        go_simp
        with_reducible rfl
      rotate_left
      · simp only [Act.put, qT, qU, qV, i64_w, i32_w]
        rfl
      refine pure_ (i := 5) (N := some 22) (v := ?_) (a' := ?_) #[true, true, true, false, true, true, false, false, false, false] rfl rfl (any_of HT_.out (by kernel_rfl)) (fun _ _ _ h => h) (Or.inl ⟨by rfl, ?_⟩) ?_ ?_
      rotate_left
      · intro w'
        go_simp
        with_reducible rfl
      rotate_left
      · simp only [Act.put, qT, qU, qV, i64_w, i32_w]
        rfl
      refine pure_ (i := 6) (N := some 23) (v := ?_) (a' := ?_) #[true, true, true, false, true, true, true, false, false, false] rfl rfl (any_of HT_.out (by kernel_rfl)) (fun _ _ _ h => h) (Or.inl ⟨by rfl, ?_⟩) ?_ ?_
      rotate_left
      · intro w'
        go_simp
        with_reducible rfl
      rotate_left
      · simp only [Act.put, qT, qU, qV, i64_w, i32_w]
        rfl
      refine take_ (i := 3) (N := some 20) (v := ?_) (a' := ?_) #[true, true, true, true, true, true, true, false, false, false] rfl rfl (take_ofW HT_.out HW_.out (by kernel_rfl)) (fun _ _ _ h => h) (Or.inl ⟨by rfl, ?_⟩) hHeld ?_ ?_
      rotate_left
      · rintro w' ⟨s0, s1, s2, s3, s4, s5⟩
        go_simp
        with_reducible rfl
      rotate_left
      · simp only [Act.put, qT, qU, qV, i64_w, i32_w]
        rfl
      refine take_ (i := 7) (N := some 24) (v := ?_) (a' := ?_) #[true, true, true, true, true, true, true, true, false, false] rfl rfl (take_ofW HT_.out HW_.out (by kernel_rfl)) (fun _ _ _ h => h) (Or.inl ⟨by rfl, ?_⟩) hHeld ?_ ?_
      rotate_left
      · rintro w' ⟨s0, s1, s2, s3, s4, s5⟩
        go_simp
        with_reducible rfl
      rotate_left
      · simp only [Act.put, qT, qU, qV, i64_w, i32_w]
        rfl
      refine one_ (i := 8) (N := some 25) #[true, true, true, true, true, true, true, true, true, false] rfl rfl (one_of HT_.out (by kernel_rfl)) (by decide) (fun K hK => ?_)
      refine goes_ Try.func56 (by kernel_rfl) rfl #[.agg #[.int .i64 ((rd_T87 l0 x5_1).f0), .slice A640_1 ((rd_T87 l0 x5_1).f1).length c640_1, .int .i64 ((rd_T87 l0 x5_1).f2)], .agg #[.int .i64 ((rd_T87 l1 x5_1).f0), .slice A641_1 ((rd_T87 l1 x5_1).f1).length c641_1, .int .i64 ((rd_T87 l1 x5_1).f2)]] (by rfl) rfl rfl (by (try simp only [jC, jD, jE]); first | done | rfl | (simp only [jB, jA]; rfl)) ?_
      with_reducible refine (laws_eqTrace.calls k1 ((rd_T87 l0 x5_1).f0) _ _ ((rd_T87 l0 x5_1).f1) ((rd_T87 l0 x5_1).f2) ((rd_T87 l1 x5_1).f0) _ _ ((rd_T87 l1 x5_1).f1) ((rd_T87 l1 x5_1).f2) true _ ?side1 ?side2 ?side3 ?side4 A7.out).mono ?_
      (case side1 => repeat (first | exact (qB HR640_1.out HB.out) | (with_reducible refine qc ?_ _) | (with_reducible refine qe ?_ _) | (with_reducible refine qf ?_)))
      (case side2 => exact HC640_1.out)
      (case side3 => repeat (first | exact (qB HR641_1.out HB.out) | (with_reducible refine qc ?_ _) | (with_reducible refine qe ?_ _) | (with_reducible refine qf ?_)))
      (case side4 => exact HC641_1.out)
      rintro e w10 ⟨rfl, hb⟩
      refine ⟨_, rfl, ?_⟩
      have n0_ := qM (qs (by repeat (first | (with_reducible first | exact HB.out | apply qA | apply qN | apply qD) | exact HB.out)) hb)
      clear HB
      have HB := n0_
      clear n0_
      (try clear hb)
      (try clear hb2)
      (try clear hk)
      (try clear hi)
      refine hK.out _ _ ⟨((HB.out.cell (qL w _ hw640_0)).trans hw640_0), ((HB.out.cell (qL w _ hw640_1)).trans hw640_1), ((HB.out.cell (qL w _ hw640_2)).trans hw640_2), ((HB.out.cell (qL w _ hw641_0)).trans hw641_0), ((HB.out.cell (qL w _ hw641_1)).trans hw641_1), ((HB.out.cell (qL w _ hw641_2)).trans hw641_2)⟩ (fun hHeld => ?_)
      clear hK K
      refine norm_ (a' := ?_) ?_ ?_
      rotate_left
      · show Act.put _ (some 25) _ = _
        simp only [Act.put, qT, qU, qV, i64_w, i32_w]
        rfl
      refine pure_ (i := 9) (N := some 26) (v := ?_) (a' := ?_) #[true, true, true, true, true, true, true, true, true, true] rfl rfl (any_of HT_.out (by kernel_rfl)) (fun _ _ _ h => h) (Or.inl ⟨by rfl, ?_⟩) ?_ ?_
      rotate_left
      · intro w'
        go_simp
        with_reducible rfl
      rotate_left
      · simp only [Act.put, qT, qU, qV, i64_w, i32_w]
        rfl
      refine done_ (done_of HT_.out (by kernel_rfl)) ?_
      try go_wp2
      go_roundg k1
      case measure => have := HK1.out; omega
      case rel => exact ⟨(wrap64 (x5_1 + 1)), (by first | rfl | (simp; done) | (simp [*]; done)), H', ⟨by have := HK1.out; omega⟩, ⟨by repeat (first | (with_reducible first | exact HB.out | apply qA | apply qN | apply qD) | exact HB.out)⟩⟩
end Go.Proofs.Ytgbjbpjmbghlbaa.G
end
section
namespace Go.Proofs.Ytgbjbpjmbghlbaa.G
open Go.RowKit Go.Proofs.YtgbjbpjmbghlbaaW.PrintWords Go.Proofs.YtgbjbpjmbghlbaaW.PrintLast Go.Proofs.YtgbjbpjmbghlbaaW.PrintMore
attribute [local go_sem] max2_int min2_int max_two min_two max_three min_three max_four min_four
mutual
def spec_SheetOk.j0 : Nat → Bool → List Bool → List (S30) → Option (Bool)
  | 0, _, _, _ => none
  | k + 1, x16, x489000, x489001 => if x16 = true then (some false) else (spec_SheetOk.l0 k 0 x489000 x489001)
def spec_SheetOk.l0 : Nat → Int → List Bool → List (S30) → Option (Bool)
  | 0, _, _, _ => none
  | k + 1, x3, x489000, x489001 => if x3 < (x489000.length : Int) then (if 0 ≤ x3 then (if x3 < (x489001.length : Int) then ((spec_TaskOk.f k ((rd_T30 x489001 x3).f0) ((rd_T30 x489001 x3).f1) ((rd_T30 x489001 x3).f2)).bind fun t490 => (if t490 = true then (if rdOf false x489000 x3 = true then (spec_SheetOk.l0 k (wrap64 (x3 + 1)) x489000 x489001) else (if ((rd_T30 x489001 x3).f0) = 0 then (if ((rd_T30 x489001 x3).f1) = 0 then (spec_SheetOk.l0 k (wrap64 (x3 + 1)) x489000 x489001) else (some false)) else (some false))) else (some false))) else (none)) else (none)) else (some true)
end
def spec_SheetOk.f (k : Nat) (l0_0 : List Bool) (l0_1 : List (S30)) : Option (Bool) := if (l0_0.length : Int) = (l0_1.length : Int) then (spec_SheetOk.j0 k (decide ((l0_0.length : Int) > 10)) l0_0 l0_1) else (spec_SheetOk.j0 k true l0_0 l0_1)
theorem spec_SheetOk.calls (k : Nat) (A0_0 : Option Addr) (c0_0 : Nat) (l0_0 : List Bool) (A0_1 : Option Addr) (c0_1 : Nat) (l0_1 : List (S30)) (r : Bool) (w : World) (hr0_0 : Kd.C Kd.bool w A0_0 l0_0.length l0_0) (hc0_0 : l0_0.length ≤ c0_0) (hr0_1 : Kd.C k30 w A0_1 l0_1.length l0_1) (hc0_1 : l0_1.length ≤ c0_1) (h : spec_SheetOk.f k l0_0 l0_1 = some r) :
    Calls Try.prog 85 #[.agg #[.slice A0_0 l0_0.length c0_0, .slice A0_1 l0_1.length c0_1]] w fun e w' => e = .returned (.bool r) ∧ Below w.heap.size w w' := by
  have hu56 := Try.underlying56
  have hu30 := Try.underlying30
  have HR0_0 := qM hr0_0
  have HC0_0 := qM hc0_0
  clear hr0_0 hc0_0
  have HR0_1 := qM hr0_1
  have HC0_1 := qM hc0_1
  clear hr0_1 hc0_1
  have HB := qM (Below.refl w.heap.size w)
  have H : (if (l0_0.length : Int) = (l0_1.length : Int) then (spec_SheetOk.j0 k (decide ((l0_0.length : Int) > 10)) l0_0 l0_1) else (spec_SheetOk.j0 k true l0_0 l0_1)) = some r := h
  clear h
  have HC2 := qM H
  clear H
  go_enter Try.func85, Try.ntmps85
  go_upto_region 1 with (first | ((with_reducible refine gate_dst (N := 1) rfl ?_); (try (refine gate_guard (by rfl) ?_; dsimp only)); refine box_event ?hg (N := 1) ?hd (cs := #[.slice A0_0 l0_0.length c0_0, .slice A0_1 l0_1.length c0_1]) (t := 56) ?hr ?_; (case hd => rfl); (case hg => rfl); (case hr => first | (go_simp; done) | (go_simp; rfl)); intro gb488 hg w3 hbox hb; have n0_ := qM (qs (by repeat (first | (with_reducible first | exact HB.out | apply qA | apply qN | apply qD) | exact HB.out)) hb); have n1_ := qM (hbox); have n2_ := qM ((by rw [hg]; exact (qz (by repeat (first | (with_reducible first | exact HB.out | apply qA | apply qN | apply qD) | exact HB.out))) : w.heap.size ≤ gb488)); have n3_ := qM ((by rw [hg]; exact (qz (by repeat (first | (with_reducible first | exact HB.out | apply qA | apply qN | apply qD) | exact HB.out))) : w.heap.size ≤ gb488)); clear HB; have HB := n0_; have BK488 := n1_; have GW488 := n2_; have GE488 := n3_; clear n0_ n1_ n2_ n3_; clear hb hbox hg))
  (try simp only [Act.put, qT, qU, qV])
  go_cut [16] (fun v16 wc => ∃ (kq : Nat) (x16_1 : Bool), v16 = .bool x16_1 ∧ Aside0 (spec_SheetOk.j0 kq x16_1 l0_0 l0_1 = some r) ∧ Aside0 (kq ≤ k) ∧ Aside0 (wc.heap[gb488]? = some (.cells #[(.slice A0_0 l0_0.length c0_0), (.slice A0_1 l0_1.length c0_1)] 56 (0, 0))) ∧ Aside0 (Below w.heap.size w wc))
  case first =>
    have H := HC2.out
    clear HC2
    by_cases c4 : (l0_0.length : Int) = (l0_1.length : Int)
    rotate_left
    · rw [if_neg c4] at H
      have c4b0 : ((l0_0.length : Int) == (l0_1.length : Int)) = false := beq_eq_false_iff_ne.mpr c4
      have c4b1 : ((l0_0.length : Int) != (l0_1.length : Int)) = true := bne_iff_ne.mpr c4
      have c4b2 : (l0_0.length == l0_1.length) = false := by first | simpa using c4 | (simp at c4 ⊢; omega)
      (first | rw [c4b0] | (simp only [i64_w, i32_w]; rw [c4b0]) | skip)
      have H' := qM H
      clear H
      have hcz6_0 : w3.cell? ⟨gb488, 0, none⟩ = some (.slice A0_0 l0_0.length c0_0) := (qC BK488.out 0).trans rfl
      have hcz6_1 : w3.cell? ⟨gb488, 1, none⟩ = some (.slice A0_1 l0_1.length c0_1) := (qC BK488.out 1).trans rfl
      have hfz6_0 := qF BK488.out 0
      have hfz6_1 := qF BK488.out 1
      go_wp2
      go_meet
      case rel => exact ⟨_, (true), (by first | rfl | (simp; done) | (simp [*]; done)), H', ⟨by first | omega | exact Nat.le_refl _⟩, ⟨by (with_reducible repeat (first | apply qn | apply qd | apply qa)); exact BK488.out⟩, ⟨by repeat (first | (with_reducible first | exact HB.out | apply qA | apply qN | apply qD | refine qS ?_ GE488.out) | exact HB.out)⟩⟩
    rw [if_pos c4] at H
    have c4b0 : ((l0_0.length : Int) == (l0_1.length : Int)) = true := beq_iff_eq.mpr c4
    have c4b1 : ((l0_0.length : Int) != (l0_1.length : Int)) = false := bne_eq_false_iff_eq.mpr c4
    have c4b2 : (l0_0.length == l0_1.length) = true := by first | simpa using c4 | (simp at c4 ⊢; omega)
    clear c4
    (first | rw [c4b0] | (simp only [i64_w, i32_w]; rw [c4b0]) | skip)
    have H' := qM H
    clear H
    have hcz5_0 : w3.cell? ⟨gb488, 0, none⟩ = some (.slice A0_0 l0_0.length c0_0) := (qC BK488.out 0).trans rfl
    have hcz5_1 : w3.cell? ⟨gb488, 1, none⟩ = some (.slice A0_1 l0_1.length c0_1) := (qC BK488.out 1).trans rfl
    have hfz5_0 := qF BK488.out 0
    have hfz5_1 := qF BK488.out 1
    go_wp2
    go_meet
    case rel => exact ⟨_, (decide ((l0_0.length : Int) > 10)), (by first | rfl | (simp; done) | (simp [*]; done)), H', ⟨by first | omega | exact Nat.le_refl _⟩, ⟨by (with_reducible repeat (first | apply qn | apply qd | apply qa)); exact BK488.out⟩, ⟨by repeat (first | (with_reducible first | exact HB.out | apply qA | apply qN | apply qD | refine qS ?_ GE488.out) | exact HB.out)⟩⟩
  case rest =>
    clear HC2
    try clear p2
    try clear c4
    try clear c4b0
    try clear c4b1
    try clear c4b2
    try clear hcz5_0
    try clear hcz5_1
    try clear hcz6_0
    try clear hcz6_1
    try clear hfz5_0
    try clear hfz5_1
    try clear hfz6_0
    try clear hfz6_1
    obtain ⟨kq, x16_1, rfl, HA, HJ1, BK488, HB⟩ := hcut
    cases kq with
    | zero => exact absurd HA.out (by simp [spec_SheetOk.j0])
    | succ kj1 =>
      have H := HA.out
      clear HA
      simp only [spec_SheetOk.j0] at H
      by_cases c7 : x16_1 = true
      · subst c7
        have H1 : (some false) = some r := by rw [if_pos rfl] at H; exact H
        clear H
        have H := H1
        clear H1
        obtain rfl := jF H
        go_wp2
        go_ret
        exact ⟨by first | rfl | (simp [errW_none, errW_some] <;> rfl) | (simp [*, errW_none, errW_some] <;> rfl), by repeat (first | (with_reducible first | exact HB.out | apply qA | apply qN | apply qD | refine qS ?_ GE488.out) | exact HB.out)⟩
      replace c7 := Bool.eq_false_iff.mpr c7
      subst c7
      have H1 : (spec_SheetOk.l0 kj1 0 l0_0 l0_1) = some r := by rw [if_neg (show ¬ (false = true) by decide)] at H; exact H
      clear H
      have H := H1
      clear H1
      have H' := qM H
      clear H
      go_wp2
      go_loopg [3] kj1 (fun kq v3 w' => ∃ (x3_2 : Int), v3 = .int .i64 x3_2 ∧ Aside0 (spec_SheetOk.l0 kq x3_2 l0_0 l0_1 = some r) ∧ Aside0 (kq ≤ kj1) ∧ Aside0 (w'.heap[gb488]? = some (.cells #[(.slice A0_0 l0_0.length c0_0), (.slice A0_1 l0_1.length c0_1)] 56 (0, 0))) ∧ Aside0 (Below w.heap.size w w'))
      case atStart => exact ⟨(0), (by first | rfl | (simp; done) | (simp [*]; done)), H', ⟨Nat.le_refl _⟩, ⟨by (with_reducible repeat (first | apply qn | apply qd | apply qa)); exact BK488.out⟩, ⟨by repeat (first | (with_reducible first | exact HB.out | apply qA | apply qN | apply qD | refine qS ?_ GE488.out) | exact HB.out)⟩⟩
      case round =>
        clear H'
        try clear p2
        try clear c4
        try clear c4b0
        try clear c4b1
        try clear c4b2
        try clear c7
        try clear hcz5_0
        try clear hcz5_1
        try clear hcz6_0
        try clear hcz6_1
        try clear hfz5_0
        try clear hfz5_1
        try clear hfz6_0
        try clear hfz6_1
        try clear p2
        obtain ⟨x3_2, rfl, HA, HK2, BK488, HB⟩ := hrel
        cases gk with
        | zero => exact absurd HA.out (by simp [spec_SheetOk.l0])
        | succ k2 =>
          have H := HA.out
          clear HA
          simp only [spec_SheetOk.l0] at H
          by_cases c8 : x3_2 < (l0_0.length : Int)
          rotate_left
          · rw [if_neg c8] at H
            have c8b0 : decide (x3_2 < (l0_0.length : Int)) = false := decide_eq_false c8
            clear c8
            obtain rfl := jF H
            have hcz31_0 : wr.cell? ⟨gb488, 0, none⟩ = some (.slice A0_0 l0_0.length c0_0) := (qC BK488.out 0).trans rfl
            have hcz31_1 : wr.cell? ⟨gb488, 1, none⟩ = some (.slice A0_1 l0_1.length c0_1) := (qC BK488.out 1).trans rfl
            have hfz31_0 := qF BK488.out 0
            have hfz31_1 := qF BK488.out 1
            go_wp2
            go_ret
            exact ⟨by first | rfl | (simp [errW_none, errW_some] <;> rfl) | (simp [*, errW_none, errW_some] <;> rfl), by repeat (first | (with_reducible first | exact HB.out | apply qA | apply qN | apply qD | refine qS ?_ GE488.out) | exact HB.out)⟩
          rw [if_pos c8] at H
          have c8b0 : decide (x3_2 < (l0_0.length : Int)) = true := decide_eq_true c8
          clear c8
          by_cases c9 : 0 ≤ x3_2
          rotate_left
          · rw [if_neg c9] at H
            exact absurd H (by simp)
          rw [if_pos c9] at H
          have c9b0 : decide (0 ≤ x3_2) = true := decide_eq_true c9
          clear c9
          by_cases c10 : x3_2 < (l0_1.length : Int)
          rotate_left
          · rw [if_neg c10] at H
            exact absurd H (by simp)
          rw [if_pos c10] at H
          have c10b0 : decide (x3_2 < (l0_1.length : Int)) = true := decide_eq_true c10
          clear c10
          replace H := jG H
          obtain ⟨t490, A110, H⟩ := H
          replace H : (if t490 = true then (if rdOf false l0_0 x3_2 = true then (spec_SheetOk.l0 k2 (wrap64 (x3_2 + 1)) l0_0 l0_1) else (if ((rd_T30 l0_1 x3_2).f0) = 0 then (if ((rd_T30 l0_1 x3_2).f1) = 0 then (spec_SheetOk.l0 k2 (wrap64 (x3_2 + 1)) l0_0 l0_1) else (some false)) else (some false))) else (some false)) = some r := H
          have A11 := qM A110
          clear A110
          by_cases c12 : t490 = true
          rotate_left
          · replace c12 := Bool.eq_false_iff.mpr c12
            subst c12
            have H1 : (some false) = some r := by rw [if_neg (show ¬ (false = true) by decide)] at H; exact H
            clear H
            have H := H1
            clear H1
            obtain rfl := jF H
            have hcz29_0 : wr.cell? ⟨gb488, 0, none⟩ = some (.slice A0_0 l0_0.length c0_0) := (qC BK488.out 0).trans rfl
            have hcz29_1 : wr.cell? ⟨gb488, 1, none⟩ = some (.slice A0_1 l0_1.length c0_1) := (qC BK488.out 1).trans rfl
            have hfz29_0 := qF BK488.out 0
            have hfz29_1 := qF BK488.out 1
            have p489 : 0 ≤ (x3_2 : Int) := qO (by first | (with_reducible assumption) | assumption)
            have q489 : x3_2 < (l0_1.length : Int) := qO (by first | (with_reducible assumption) | assumption)
            obtain ⟨ad489, A489_2, c489_2, e489, hx489_0, hx489_1, hx489_2, hl489_2, hi489_2⟩ := at_T30 HR0_1.out x3_2 p489 q489
            cases e489
            replace hx489_0 := (HB.out.cell (qL w _ hx489_0)).trans hx489_0
            replace hx489_1 := (HB.out.cell (qL w _ hx489_1)).trans hx489_1
            replace hx489_2 := (HB.out.cell (qL w _ hx489_2)).trans hx489_2
            have HR489_2 := qM hi489_2
            have HC489_2 := qM hl489_2
            clear hi489_2 hl489_2
            replace p489 := eq_true p489
            replace q489 := eq_true q489
            go_wp2_with (first | ((with_reducible refine gate_callee (f := 69) rfl ?_); refine goesL_ (some 29) rfl rfl Try.func69 (by kernel_rfl) rfl #[.agg #[.int .i64 ((rd_T30 l0_1 x3_2).f0), .int .i64 ((rd_T30 l0_1 x3_2).f1), .slice A489_2 ((rd_T30 l0_1 x3_2).f2).length c489_2]] rfl (by (try simp only [jC, jD, jE]); first | done | rfl | (simp only [jB, jA]; rfl)) ?_; (with_reducible refine (spec_TaskOk.calls k2 ((rd_T30 l0_1 x3_2).f0) ((rd_T30 l0_1 x3_2).f1) _ _ ((rd_T30 l0_1 x3_2).f2) false _ ?side1 ?side2 A11.out).mono ?_); (case side1 => repeat (first | exact (qB HR489_2.out HB.out) | (with_reducible refine qc ?_ _) | (with_reducible refine qe ?_ _) | (with_reducible refine qf ?_))); (case side2 => exact HC489_2.out); rintro e w30 ⟨rfl, hb⟩; refine ⟨_, rfl, ?_⟩; have n0_ := qM (blk_below (g := gb488) (o := .cells #[.slice A0_0 l0_0.length c0_0, .slice (some ad489) l0_1.length c0_1] 56 (0, 0)) (by (with_reducible repeat (first | apply qn | apply qd | apply qa)); exact BK488.out) hb); have n1_ := qM (qs (by repeat (first | (with_reducible first | exact HB.out | apply qA | apply qN | apply qD | refine qS ?_ GE488.out) | exact HB.out)) hb); clear BK488; clear HB; have BK488 := n0_; have HB := n1_; clear n0_ n1_; (try clear hb); (try clear hb2); (try clear hk); (try clear hi)))
            go_ret
            exact ⟨by first | rfl | (simp [errW_none, errW_some] <;> rfl) | (simp [*, errW_none, errW_some] <;> rfl), by repeat (first | (with_reducible first | exact HB.out | apply qA | apply qN | apply qD | refine qS ?_ GE488.out) | exact HB.out)⟩
          subst c12
          have H1 : (if rdOf false l0_0 x3_2 = true then (spec_SheetOk.l0 k2 (wrap64 (x3_2 + 1)) l0_0 l0_1) else (if ((rd_T30 l0_1 x3_2).f0) = 0 then (if ((rd_T30 l0_1 x3_2).f1) = 0 then (spec_SheetOk.l0 k2 (wrap64 (x3_2 + 1)) l0_0 l0_1) else (some false)) else (some false))) = some r := by rw [if_pos rfl] at H; exact H
          clear H
          have H := H1
          clear H1
          obtain ⟨bq13, hbq13⟩ : ∃ b_ : Bool, b_ = (rdOf false l0_0 x3_2) := ⟨_, rfl⟩
          replace H : (if bq13 = true then (spec_SheetOk.l0 k2 (wrap64 (x3_2 + 1)) l0_0 l0_1) else (if ((rd_T30 l0_1 x3_2).f0) = 0 then (if ((rd_T30 l0_1 x3_2).f1) = 0 then (spec_SheetOk.l0 k2 (wrap64 (x3_2 + 1)) l0_0 l0_1) else (some false)) else (some false))) = some r := by rw [← hbq13] at H; exact H
          have Nbq13 := qM hbq13
          clear hbq13
          by_cases c14 : bq13 = true
          · subst c14
            have H1 : (spec_SheetOk.l0 k2 (wrap64 (x3_2 + 1)) l0_0 l0_1) = some r := by rw [if_pos rfl] at H; exact H
            clear H
            have H := H1
            clear H1
            have H' := qM H
            clear H
            have hcz15_0 : wr.cell? ⟨gb488, 0, none⟩ = some (.slice A0_0 l0_0.length c0_0) := (qC BK488.out 0).trans rfl
            have hcz15_1 : wr.cell? ⟨gb488, 1, none⟩ = some (.slice A0_1 l0_1.length c0_1) := (qC BK488.out 1).trans rfl
            have hfz15_0 := qF BK488.out 0
            have hfz15_1 := qF BK488.out 1
            have p489 : 0 ≤ (x3_2 : Int) := qO (by first | (with_reducible assumption) | assumption)
            have q489 : x3_2 < (l0_1.length : Int) := qO (by first | (with_reducible assumption) | assumption)
            obtain ⟨ad489, A489_2, c489_2, e489, hx489_0, hx489_1, hx489_2, hl489_2, hi489_2⟩ := at_T30 HR0_1.out x3_2 p489 q489
            cases e489
            replace hx489_0 := (HB.out.cell (qL w _ hx489_0)).trans hx489_0
            replace hx489_1 := (HB.out.cell (qL w _ hx489_1)).trans hx489_1
            replace hx489_2 := (HB.out.cell (qL w _ hx489_2)).trans hx489_2
            have HR489_2 := qM hi489_2
            have HC489_2 := qM hl489_2
            clear hi489_2 hl489_2
            replace p489 := eq_true p489
            replace q489 := eq_true q489
            go_wp2_with (first | ((with_reducible refine gate_callee (f := 69) rfl ?_); refine goesL_ (some 29) rfl rfl Try.func69 (by kernel_rfl) rfl #[.agg #[.int .i64 ((rd_T30 l0_1 x3_2).f0), .int .i64 ((rd_T30 l0_1 x3_2).f1), .slice A489_2 ((rd_T30 l0_1 x3_2).f2).length c489_2]] rfl (by (try simp only [jC, jD, jE]); first | done | rfl | (simp only [jB, jA]; rfl)) ?_; (with_reducible refine (spec_TaskOk.calls k2 ((rd_T30 l0_1 x3_2).f0) ((rd_T30 l0_1 x3_2).f1) _ _ ((rd_T30 l0_1 x3_2).f2) true _ ?side1 ?side2 A11.out).mono ?_); (case side1 => repeat (first | exact (qB HR489_2.out HB.out) | (with_reducible refine qc ?_ _) | (with_reducible refine qe ?_ _) | (with_reducible refine qf ?_))); (case side2 => exact HC489_2.out); rintro e w16 ⟨rfl, hb⟩; refine ⟨_, rfl, ?_⟩; have n0_ := qM (blk_below (g := gb488) (o := .cells #[.slice A0_0 l0_0.length c0_0, .slice (some ad489) l0_1.length c0_1] 56 (0, 0)) (by (with_reducible repeat (first | apply qn | apply qd | apply qa)); exact BK488.out) hb); have n1_ := qM (qs (by repeat (first | (with_reducible first | exact HB.out | apply qA | apply qN | apply qD | refine qS ?_ GE488.out) | exact HB.out)) hb); clear BK488; clear HB; have BK488 := n0_; have HB := n1_; clear n0_ n1_; (try clear hb); (try clear hb2); (try clear hk); (try clear hi); have hcz17_0 : w16.cell? ⟨gb488, 0, none⟩ = some (.slice A0_0 l0_0.length c0_0) := (qC BK488.out 0).trans rfl; have hcz17_1 : w16.cell? ⟨gb488, 1, none⟩ = some (.slice (some ad489) l0_1.length c0_1) := (qC BK488.out 1).trans rfl; have hfz17_0 := qF BK488.out 0; have hfz17_1 := qF BK488.out 1; have p491 : 0 ≤ (x3_2 : Int) := qO (by first | (with_reducible assumption) | assumption); have q491 : x3_2 < (l0_0.length : Int) := qO (by first | (with_reducible assumption) | assumption); obtain ⟨ad491, e491, hx491_0⟩ := Kd.at_bool HR0_0.out x3_2 p491 q491; (try rw [← Nbq13.out] at hx491_0); cases e491; replace hx491_0 := (HB.out.cell (qL w _ hx491_0)).trans hx491_0; replace p491 := eq_true p491; replace q491 := eq_true q491))
            go_roundg k2
            case measure => have := HJ1.out; have := HK2.out; omega
            case rel => exact ⟨(wrap64 (x3_2 + 1)), (by first | rfl | (simp; done) | (simp [*]; done)), H', ⟨by have := HJ1.out; have := HK2.out; omega⟩, ⟨by (with_reducible repeat (first | apply qn | apply qd | apply qa)); exact BK488.out⟩, ⟨by repeat (first | (with_reducible first | exact HB.out | apply qA | apply qN | apply qD | refine qS ?_ GE488.out) | exact HB.out)⟩⟩
          replace c14 := Bool.eq_false_iff.mpr c14
          subst c14
          have H1 : (if ((rd_T30 l0_1 x3_2).f0) = 0 then (if ((rd_T30 l0_1 x3_2).f1) = 0 then (spec_SheetOk.l0 k2 (wrap64 (x3_2 + 1)) l0_0 l0_1) else (some false)) else (some false)) = some r := by rw [if_neg (show ¬ (false = true) by decide)] at H; exact H
          clear H
          have H := H1
          clear H1
          by_cases c18 : ((rd_T30 l0_1 x3_2).f0) = 0
          rotate_left
          · rw [if_neg c18] at H
            have c18b0 : (((rd_T30 l0_1 x3_2).f0) == 0) = false := beq_eq_false_iff_ne.mpr c18
            have c18b1 : (((rd_T30 l0_1 x3_2).f0) != 0) = true := bne_iff_ne.mpr c18
            obtain rfl := jF H
            have hcz26_0 : wr.cell? ⟨gb488, 0, none⟩ = some (.slice A0_0 l0_0.length c0_0) := (qC BK488.out 0).trans rfl
            have hcz26_1 : wr.cell? ⟨gb488, 1, none⟩ = some (.slice A0_1 l0_1.length c0_1) := (qC BK488.out 1).trans rfl
            have hfz26_0 := qF BK488.out 0
            have hfz26_1 := qF BK488.out 1
            have p489 : 0 ≤ (x3_2 : Int) := qO (by first | (with_reducible assumption) | assumption)
            have q489 : x3_2 < (l0_1.length : Int) := qO (by first | (with_reducible assumption) | assumption)
            obtain ⟨ad489, A489_2, c489_2, e489, hx489_0, hx489_1, hx489_2, hl489_2, hi489_2⟩ := at_T30 HR0_1.out x3_2 p489 q489
            cases e489
            replace hx489_0 := (HB.out.cell (qL w _ hx489_0)).trans hx489_0
            replace hx489_1 := (HB.out.cell (qL w _ hx489_1)).trans hx489_1
            replace hx489_2 := (HB.out.cell (qL w _ hx489_2)).trans hx489_2
            have HR489_2 := qM hi489_2
            have HC489_2 := qM hl489_2
            clear hi489_2 hl489_2
            replace p489 := eq_true p489
            replace q489 := eq_true q489
            go_wp2_with (first | ((with_reducible refine gate_callee (f := 69) rfl ?_); refine goesL_ (some 29) rfl rfl Try.func69 (by kernel_rfl) rfl #[.agg #[.int .i64 ((rd_T30 l0_1 x3_2).f0), .int .i64 ((rd_T30 l0_1 x3_2).f1), .slice A489_2 ((rd_T30 l0_1 x3_2).f2).length c489_2]] rfl (by (try simp only [jC, jD, jE]); first | done | rfl | (simp only [jB, jA]; rfl)) ?_; (with_reducible refine (spec_TaskOk.calls k2 ((rd_T30 l0_1 x3_2).f0) ((rd_T30 l0_1 x3_2).f1) _ _ ((rd_T30 l0_1 x3_2).f2) true _ ?side1 ?side2 A11.out).mono ?_); (case side1 => repeat (first | exact (qB HR489_2.out HB.out) | (with_reducible refine qc ?_ _) | (with_reducible refine qe ?_ _) | (with_reducible refine qf ?_))); (case side2 => exact HC489_2.out); rintro e w27 ⟨rfl, hb⟩; refine ⟨_, rfl, ?_⟩; have n0_ := qM (blk_below (g := gb488) (o := .cells #[.slice A0_0 l0_0.length c0_0, .slice (some ad489) l0_1.length c0_1] 56 (0, 0)) (by (with_reducible repeat (first | apply qn | apply qd | apply qa)); exact BK488.out) hb); have n1_ := qM (qs (by repeat (first | (with_reducible first | exact HB.out | apply qA | apply qN | apply qD | refine qS ?_ GE488.out) | exact HB.out)) hb); clear BK488; clear HB; have BK488 := n0_; have HB := n1_; clear n0_ n1_; (try clear hb); (try clear hb2); (try clear hk); (try clear hi); have hcz28_0 : w27.cell? ⟨gb488, 0, none⟩ = some (.slice A0_0 l0_0.length c0_0) := (qC BK488.out 0).trans rfl; have hcz28_1 : w27.cell? ⟨gb488, 1, none⟩ = some (.slice (some ad489) l0_1.length c0_1) := (qC BK488.out 1).trans rfl; have hfz28_0 := qF BK488.out 0; have hfz28_1 := qF BK488.out 1; have p491 : 0 ≤ (x3_2 : Int) := qO (by first | (with_reducible assumption) | assumption); have q491 : x3_2 < (l0_0.length : Int) := qO (by first | (with_reducible assumption) | assumption); obtain ⟨ad491, e491, hx491_0⟩ := Kd.at_bool HR0_0.out x3_2 p491 q491; (try rw [← Nbq13.out] at hx491_0); cases e491; replace hx491_0 := (HB.out.cell (qL w _ hx491_0)).trans hx491_0; replace p491 := eq_true p491; replace q491 := eq_true q491; have p492 : 0 ≤ (x3_2 : Int) := qO (by first | (with_reducible assumption) | assumption); have q492 : x3_2 < (l0_1.length : Int) := qO (by first | (with_reducible assumption) | assumption); obtain ⟨ad492, A492_2, c492_2, e492, hx492_0, hx492_1, hx492_2, hl492_2, hi492_2⟩ := at_T30 HR0_1.out x3_2 p492 q492; obtain rfl : ad489 = ad492 := (by injection e492); replace hx492_0 := (HB.out.cell (qL w _ hx492_0)).trans hx492_0; replace hx492_1 := (HB.out.cell (qL w _ hx492_1)).trans hx492_1; replace hx492_2 := (HB.out.cell (qL w _ hx492_2)).trans hx492_2; have HR492_2 := qM hi492_2; have HC492_2 := qM hl492_2; clear hi492_2 hl492_2; replace p492 := eq_true p492; replace q492 := eq_true q492))
            go_ret
            exact ⟨by first | rfl | (simp [errW_none, errW_some] <;> rfl) | (simp [*, errW_none, errW_some] <;> rfl), by repeat (first | (with_reducible first | exact HB.out | apply qA | apply qN | apply qD | refine qS ?_ GE488.out) | exact HB.out)⟩
          rw [if_pos c18] at H
          have c18b0 : (((rd_T30 l0_1 x3_2).f0) == 0) = true := beq_iff_eq.mpr c18
          have c18b1 : (((rd_T30 l0_1 x3_2).f0) != 0) = false := bne_eq_false_iff_eq.mpr c18
          clear c18
          by_cases c19 : ((rd_T30 l0_1 x3_2).f1) = 0
          rotate_left
          · rw [if_neg c19] at H
            have c19b0 : (((rd_T30 l0_1 x3_2).f1) == 0) = false := beq_eq_false_iff_ne.mpr c19
            have c19b1 : (((rd_T30 l0_1 x3_2).f1) != 0) = true := bne_iff_ne.mpr c19
            obtain rfl := jF H
            have hcz23_0 : wr.cell? ⟨gb488, 0, none⟩ = some (.slice A0_0 l0_0.length c0_0) := (qC BK488.out 0).trans rfl
            have hcz23_1 : wr.cell? ⟨gb488, 1, none⟩ = some (.slice A0_1 l0_1.length c0_1) := (qC BK488.out 1).trans rfl
            have hfz23_0 := qF BK488.out 0
            have hfz23_1 := qF BK488.out 1
            have p489 : 0 ≤ (x3_2 : Int) := qO (by first | (with_reducible assumption) | assumption)
            have q489 : x3_2 < (l0_1.length : Int) := qO (by first | (with_reducible assumption) | assumption)
            obtain ⟨ad489, A489_2, c489_2, e489, hx489_0, hx489_1, hx489_2, hl489_2, hi489_2⟩ := at_T30 HR0_1.out x3_2 p489 q489
            cases e489
            replace hx489_0 := (HB.out.cell (qL w _ hx489_0)).trans hx489_0
            replace hx489_1 := (HB.out.cell (qL w _ hx489_1)).trans hx489_1
            replace hx489_2 := (HB.out.cell (qL w _ hx489_2)).trans hx489_2
            have HR489_2 := qM hi489_2
            have HC489_2 := qM hl489_2
            clear hi489_2 hl489_2
            replace p489 := eq_true p489
            replace q489 := eq_true q489
            go_wp2_with (first | ((with_reducible refine gate_callee (f := 69) rfl ?_); refine goesL_ (some 29) rfl rfl Try.func69 (by kernel_rfl) rfl #[.agg #[.int .i64 ((rd_T30 l0_1 x3_2).f0), .int .i64 ((rd_T30 l0_1 x3_2).f1), .slice A489_2 ((rd_T30 l0_1 x3_2).f2).length c489_2]] rfl (by (try simp only [jC, jD, jE]); first | done | rfl | (simp only [jB, jA]; rfl)) ?_; (with_reducible refine (spec_TaskOk.calls k2 ((rd_T30 l0_1 x3_2).f0) ((rd_T30 l0_1 x3_2).f1) _ _ ((rd_T30 l0_1 x3_2).f2) true _ ?side1 ?side2 A11.out).mono ?_); (case side1 => repeat (first | exact (qB HR489_2.out HB.out) | (with_reducible refine qc ?_ _) | (with_reducible refine qe ?_ _) | (with_reducible refine qf ?_))); (case side2 => exact HC489_2.out); rintro e w24 ⟨rfl, hb⟩; refine ⟨_, rfl, ?_⟩; have n0_ := qM (blk_below (g := gb488) (o := .cells #[.slice A0_0 l0_0.length c0_0, .slice (some ad489) l0_1.length c0_1] 56 (0, 0)) (by (with_reducible repeat (first | apply qn | apply qd | apply qa)); exact BK488.out) hb); have n1_ := qM (qs (by repeat (first | (with_reducible first | exact HB.out | apply qA | apply qN | apply qD | refine qS ?_ GE488.out) | exact HB.out)) hb); clear BK488; clear HB; have BK488 := n0_; have HB := n1_; clear n0_ n1_; (try clear hb); (try clear hb2); (try clear hk); (try clear hi); have hcz25_0 : w24.cell? ⟨gb488, 0, none⟩ = some (.slice A0_0 l0_0.length c0_0) := (qC BK488.out 0).trans rfl; have hcz25_1 : w24.cell? ⟨gb488, 1, none⟩ = some (.slice (some ad489) l0_1.length c0_1) := (qC BK488.out 1).trans rfl; have hfz25_0 := qF BK488.out 0; have hfz25_1 := qF BK488.out 1; have p491 : 0 ≤ (x3_2 : Int) := qO (by first | (with_reducible assumption) | assumption); have q491 : x3_2 < (l0_0.length : Int) := qO (by first | (with_reducible assumption) | assumption); obtain ⟨ad491, e491, hx491_0⟩ := Kd.at_bool HR0_0.out x3_2 p491 q491; (try rw [← Nbq13.out] at hx491_0); cases e491; replace hx491_0 := (HB.out.cell (qL w _ hx491_0)).trans hx491_0; replace p491 := eq_true p491; replace q491 := eq_true q491; have p492 : 0 ≤ (x3_2 : Int) := qO (by first | (with_reducible assumption) | assumption); have q492 : x3_2 < (l0_1.length : Int) := qO (by first | (with_reducible assumption) | assumption); obtain ⟨ad492, A492_2, c492_2, e492, hx492_0, hx492_1, hx492_2, hl492_2, hi492_2⟩ := at_T30 HR0_1.out x3_2 p492 q492; obtain rfl : ad489 = ad492 := (by injection e492); replace hx492_0 := (HB.out.cell (qL w _ hx492_0)).trans hx492_0; replace hx492_1 := (HB.out.cell (qL w _ hx492_1)).trans hx492_1; replace hx492_2 := (HB.out.cell (qL w _ hx492_2)).trans hx492_2; have HR492_2 := qM hi492_2; have HC492_2 := qM hl492_2; clear hi492_2 hl492_2; replace p492 := eq_true p492; replace q492 := eq_true q492; have p493 : 0 ≤ (x3_2 : Int) := qO (by first | (with_reducible assumption) | assumption); have q493 : x3_2 < (l0_1.length : Int) := qO (by first | (with_reducible assumption) | assumption); obtain ⟨ad493, A493_2, c493_2, e493, hx493_0, hx493_1, hx493_2, hl493_2, hi493_2⟩ := at_T30 HR0_1.out x3_2 p493 q493; obtain rfl : ad489 = ad493 := (by injection e493); replace hx493_0 := (HB.out.cell (qL w _ hx493_0)).trans hx493_0; replace hx493_1 := (HB.out.cell (qL w _ hx493_1)).trans hx493_1; replace hx493_2 := (HB.out.cell (qL w _ hx493_2)).trans hx493_2; have HR493_2 := qM hi493_2; have HC493_2 := qM hl493_2; clear hi493_2 hl493_2; replace p493 := eq_true p493; replace q493 := eq_true q493; have ea_ := jF (hx492_2.symm.trans hx493_2); injection ea_ with ea_ en_ ec_; subst ea_; subst ec_; clear en_))
            go_ret
            exact ⟨by first | rfl | (simp [errW_none, errW_some] <;> rfl) | (simp [*, errW_none, errW_some] <;> rfl), by repeat (first | (with_reducible first | exact HB.out | apply qA | apply qN | apply qD | refine qS ?_ GE488.out) | exact HB.out)⟩
          rw [if_pos c19] at H
          have c19b0 : (((rd_T30 l0_1 x3_2).f1) == 0) = true := beq_iff_eq.mpr c19
          have c19b1 : (((rd_T30 l0_1 x3_2).f1) != 0) = false := bne_eq_false_iff_eq.mpr c19
          clear c19
          have H' := qM H
          clear H
          have hcz20_0 : wr.cell? ⟨gb488, 0, none⟩ = some (.slice A0_0 l0_0.length c0_0) := (qC BK488.out 0).trans rfl
          have hcz20_1 : wr.cell? ⟨gb488, 1, none⟩ = some (.slice A0_1 l0_1.length c0_1) := (qC BK488.out 1).trans rfl
          have hfz20_0 := qF BK488.out 0
          have hfz20_1 := qF BK488.out 1
          have p489 : 0 ≤ (x3_2 : Int) := qO (by first | (with_reducible assumption) | assumption)
          have q489 : x3_2 < (l0_1.length : Int) := qO (by first | (with_reducible assumption) | assumption)
          obtain ⟨ad489, A489_2, c489_2, e489, hx489_0, hx489_1, hx489_2, hl489_2, hi489_2⟩ := at_T30 HR0_1.out x3_2 p489 q489
          cases e489
          replace hx489_0 := (HB.out.cell (qL w _ hx489_0)).trans hx489_0
          replace hx489_1 := (HB.out.cell (qL w _ hx489_1)).trans hx489_1
          replace hx489_2 := (HB.out.cell (qL w _ hx489_2)).trans hx489_2
          have HR489_2 := qM hi489_2
          have HC489_2 := qM hl489_2
          clear hi489_2 hl489_2
          replace p489 := eq_true p489
          replace q489 := eq_true q489
          go_wp2_with (first | ((with_reducible refine gate_callee (f := 69) rfl ?_); refine goesL_ (some 29) rfl rfl Try.func69 (by kernel_rfl) rfl #[.agg #[.int .i64 ((rd_T30 l0_1 x3_2).f0), .int .i64 ((rd_T30 l0_1 x3_2).f1), .slice A489_2 ((rd_T30 l0_1 x3_2).f2).length c489_2]] rfl (by (try simp only [jC, jD, jE]); first | done | rfl | (simp only [jB, jA]; rfl)) ?_; (with_reducible refine (spec_TaskOk.calls k2 ((rd_T30 l0_1 x3_2).f0) ((rd_T30 l0_1 x3_2).f1) _ _ ((rd_T30 l0_1 x3_2).f2) true _ ?side1 ?side2 A11.out).mono ?_); (case side1 => repeat (first | exact (qB HR489_2.out HB.out) | (with_reducible refine qc ?_ _) | (with_reducible refine qe ?_ _) | (with_reducible refine qf ?_))); (case side2 => exact HC489_2.out); rintro e w21 ⟨rfl, hb⟩; refine ⟨_, rfl, ?_⟩; have n0_ := qM (blk_below (g := gb488) (o := .cells #[.slice A0_0 l0_0.length c0_0, .slice (some ad489) l0_1.length c0_1] 56 (0, 0)) (by (with_reducible repeat (first | apply qn | apply qd | apply qa)); exact BK488.out) hb); have n1_ := qM (qs (by repeat (first | (with_reducible first | exact HB.out | apply qA | apply qN | apply qD | refine qS ?_ GE488.out) | exact HB.out)) hb); clear BK488; clear HB; have BK488 := n0_; have HB := n1_; clear n0_ n1_; (try clear hb); (try clear hb2); (try clear hk); (try clear hi); have hcz22_0 : w21.cell? ⟨gb488, 0, none⟩ = some (.slice A0_0 l0_0.length c0_0) := (qC BK488.out 0).trans rfl; have hcz22_1 : w21.cell? ⟨gb488, 1, none⟩ = some (.slice (some ad489) l0_1.length c0_1) := (qC BK488.out 1).trans rfl; have hfz22_0 := qF BK488.out 0; have hfz22_1 := qF BK488.out 1; have p491 : 0 ≤ (x3_2 : Int) := qO (by first | (with_reducible assumption) | assumption); have q491 : x3_2 < (l0_0.length : Int) := qO (by first | (with_reducible assumption) | assumption); obtain ⟨ad491, e491, hx491_0⟩ := Kd.at_bool HR0_0.out x3_2 p491 q491; (try rw [← Nbq13.out] at hx491_0); cases e491; replace hx491_0 := (HB.out.cell (qL w _ hx491_0)).trans hx491_0; replace p491 := eq_true p491; replace q491 := eq_true q491; have p492 : 0 ≤ (x3_2 : Int) := qO (by first | (with_reducible assumption) | assumption); have q492 : x3_2 < (l0_1.length : Int) := qO (by first | (with_reducible assumption) | assumption); obtain ⟨ad492, A492_2, c492_2, e492, hx492_0, hx492_1, hx492_2, hl492_2, hi492_2⟩ := at_T30 HR0_1.out x3_2 p492 q492; obtain rfl : ad489 = ad492 := (by injection e492); replace hx492_0 := (HB.out.cell (qL w _ hx492_0)).trans hx492_0; replace hx492_1 := (HB.out.cell (qL w _ hx492_1)).trans hx492_1; replace hx492_2 := (HB.out.cell (qL w _ hx492_2)).trans hx492_2; have HR492_2 := qM hi492_2; have HC492_2 := qM hl492_2; clear hi492_2 hl492_2; replace p492 := eq_true p492; replace q492 := eq_true q492; have p493 : 0 ≤ (x3_2 : Int) := qO (by first | (with_reducible assumption) | assumption); have q493 : x3_2 < (l0_1.length : Int) := qO (by first | (with_reducible assumption) | assumption); obtain ⟨ad493, A493_2, c493_2, e493, hx493_0, hx493_1, hx493_2, hl493_2, hi493_2⟩ := at_T30 HR0_1.out x3_2 p493 q493; obtain rfl : ad489 = ad493 := (by injection e493); replace hx493_0 := (HB.out.cell (qL w _ hx493_0)).trans hx493_0; replace hx493_1 := (HB.out.cell (qL w _ hx493_1)).trans hx493_1; replace hx493_2 := (HB.out.cell (qL w _ hx493_2)).trans hx493_2; have HR493_2 := qM hi493_2; have HC493_2 := qM hl493_2; clear hi493_2 hl493_2; replace p493 := eq_true p493; replace q493 := eq_true q493; have ea_ := jF (hx492_2.symm.trans hx493_2); injection ea_ with ea_ en_ ec_; subst ea_; subst ec_; clear en_))
          go_roundg k2
          case measure => have := HJ1.out; have := HK2.out; omega
          case rel => exact ⟨(wrap64 (x3_2 + 1)), (by first | rfl | (simp; done) | (simp [*]; done)), H', ⟨by have := HJ1.out; have := HK2.out; omega⟩, ⟨by (with_reducible repeat (first | apply qn | apply qd | apply qa)); exact BK488.out⟩, ⟨by repeat (first | (with_reducible first | exact HB.out | apply qA | apply qN | apply qD | refine qS ?_ GE488.out) | exact HB.out)⟩⟩
mutual
def spec_l5Once.l0 : Nat → List (S117) → List (S117) → Int → Option ((List (S117)))
  | 0, _, _, _ => none
  | k + 1, x0, x3, x4 => if x4 < (x0.length : Int) then (spec_l5Once.l1 k x0 x3 x4 false 0) else (some x3)
def spec_l5Once.l1 : Nat → List (S117) → List (S117) → Int → Bool → Int → Option ((List (S117)))
  | 0, _, _, _, _, _ => none
  | k + 1, x0, x3, x4, x5, x6 => if x6 < (x3.length : Int) then (if x5 = true then (spec_l5Once.l1 k x0 x3 x4 true (wrap64 (x6 + 1))) else (if 0 ≤ x6 then (if 0 ≤ x4 then (if x4 < (x0.length : Int) then (spec_l5Once.l1 k x0 x3 x4 (((rd_T117 x3 x6).f0) == ((rd_T117 x0 x4).f0)) (wrap64 (x6 + 1))) else (none)) else (none)) else (none))) else (if x5 = true then (spec_l5Once.l0 k x0 x3 (wrap64 (x4 + 1))) else (if 0 ≤ x4 then (if x4 < (x0.length : Int) then (if x3.length < 8796093022208 then (spec_l5Once.l0 k x0 (x3 ++ [(⟨(rd_T117 x0 x4).f0, (rd_T117 x0 x4).f1⟩ : S117)]) (wrap64 (x4 + 1))) else (none)) else (none)) else (none)))
end
def spec_l5Once.f (k : Nat) (l0 : List (S117)) : Option ((List (S117))) := spec_l5Once.l0 k l0 (([] : List (S117))) 0
theorem spec_l5Once.calls (k : Nat) (A0 : Option Addr) (c0 : Nat) (l0 : List (S117)) (r : List (S117)) (w : World) (hr0 : Kd.C k117 w A0 l0.length l0) (hc0 : l0.length ≤ c0) (h : spec_l5Once.f k l0 = some r) :
    Calls Try.prog 147 #[.slice A0 l0.length c0] w fun e w' => ∃ v0_ : Value, e = .returned (v0_) ∧ Kd.R k117 117 w' w.heap.size (fun _ => True) v0_ r ∧ Below w.heap.size w w' := by
  have hu117 := Try.underlying117
  have HR0 := qM hr0
  have HC0 := qM hc0
  clear hr0 hc0
  have HB := qM (Below.refl w.heap.size w)
  have H : (spec_l5Once.l0 k l0 (([] : List (S117))) 0) = some r := h
  clear h
  obtain ⟨y494, hy494⟩ : ∃ y_ : List (S117), y_ = (([] : List (S117))) := ⟨_, rfl⟩
  replace H : (spec_l5Once.l0 k l0 y494 0) = some r := by first | (rw [hy494]; with_reducible exact H) | (have H2_ := (Option.bind_some _ _).symm.trans H; rw [hy494]; with_reducible exact H2_) | (have H2_ := (Option.bind_some _ _).symm.trans H; with_reducible exact H2_) | with_reducible exact H | (rw [hy494]; exact H) | exact H
  have Ny494 := qM hy494
  clear hy494
  have H' := qM H
  clear H
  go_enter Try.func147, Try.ntmps147
  go_wp2_with (first | ((with_reducible refine gate_dst (N := 7) rfl ?_); refine Kd.R_lit k117 _ 117 ?hg (N := 7) ?hd (xs := ([] : List (S117))) (inner := []) (ok := fun _ => True) (okp := fun _ => True) ?hr ?hp (fun _ hk => hk) trivial (Below.refl _ _) (Nat.le_refl _) (by simp) ?_; (case hd => rfl); (case hg => rfl); (case hr => first | (go_simp; done) | (go_simp; rfl)); (case hp => exact (Reps.none _ _)); intro v495 w2 ho3 hb hg_ hnew_; clear hg_ hnew_; (first | rw [← Ny494.out] at ho3 | (simp only [Int.reduceToNat] at ho3; rw [← Ny494.out] at ho3)); have n0_ := qM (Kd.R_lower ho3 (qz (by repeat (first | (with_reducible first | exact HB.out | apply qA | apply qN | apply qD) | exact HB.out)))); have n1_ := qM (qs (by repeat (first | (with_reducible first | exact HB.out | apply qA | apply qN | apply qD) | exact HB.out)) hb); clear HB; have HO496 := n0_; have HB := n1_; clear n0_ n1_; clear hb ho3))
  repeat (go_quiet (first | ((with_reducible refine gate_dst (N := 7) rfl ?_); refine Kd.R_lit k117 _ 117 ?hg (N := 7) ?hd (xs := ([] : List (S117))) (inner := []) (ok := fun _ => True) (okp := fun _ => True) ?hr ?hp (fun _ hk => hk) trivial (Below.refl _ _) (Nat.le_refl _) (by simp) ?_; (case hd => rfl); (case hg => rfl); (case hr => first | (go_simp; done) | (go_simp; rfl)); (case hp => exact (Reps.none _ _)); intro v495 w2 ho3 hb hg_ hnew_; clear hg_ hnew_; (first | rw [← Ny494.out] at ho3 | (simp only [Int.reduceToNat] at ho3; rw [← Ny494.out] at ho3)); have n0_ := qM (Kd.R_lower ho3 (qz (by repeat (first | (with_reducible first | exact HB.out | apply qA | apply qN | apply qD) | exact HB.out)))); have n1_ := qM (qs (by repeat (first | (with_reducible first | exact HB.out | apply qA | apply qN | apply qD) | exact HB.out)) hb); clear HB; have HO496 := n0_; have HB := n1_; clear n0_ n1_; clear hb ho3)); try go_wp2_with (first | ((with_reducible refine gate_dst (N := 7) rfl ?_); refine Kd.R_lit k117 _ 117 ?hg (N := 7) ?hd (xs := ([] : List (S117))) (inner := []) (ok := fun _ => True) (okp := fun _ => True) ?hr ?hp (fun _ hk => hk) trivial (Below.refl _ _) (Nat.le_refl _) (by simp) ?_; (case hd => rfl); (case hg => rfl); (case hr => first | (go_simp; done) | (go_simp; rfl)); (case hp => exact (Reps.none _ _)); intro v495 w2 ho3 hb hg_ hnew_; clear hg_ hnew_; (first | rw [← Ny494.out] at ho3 | (simp only [Int.reduceToNat] at ho3; rw [← Ny494.out] at ho3)); have n0_ := qM (Kd.R_lower ho3 (qz (by repeat (first | (with_reducible first | exact HB.out | apply qA | apply qN | apply qD) | exact HB.out)))); have n1_ := qM (qs (by repeat (first | (with_reducible first | exact HB.out | apply qA | apply qN | apply qD) | exact HB.out)) hb); clear HB; have HO496 := n0_; have HB := n1_; clear n0_ n1_; clear hb ho3)))
  go_loopg [3, 4] k (fun kq v3 v4 w' => ∃ (x3_1 : List (S117)) (x4_1 : Int), v4 = .int .i64 x4_1 ∧ Aside0 (spec_l5Once.l0 kq l0 x3_1 x4_1 = some r) ∧ Aside0 (kq ≤ k) ∧ Aside0 (Kd.R k117 117 w' w.heap.size (fun _ => True) v3 x3_1) ∧ Aside0 (Below w.heap.size w w'))
  case atStart => exact ⟨(y494), (0), (by first | rfl | (simp; done) | (simp [*]; done)), H', ⟨Nat.le_refl _⟩, ⟨by (with_reducible repeat (first | apply Kd.R_alloc | apply Kd.R_drewN | apply Kd.R_drew)); exact HO496.out⟩, ⟨by repeat (first | (with_reducible first | exact HB.out | apply qA | apply qN | apply qD) | exact HB.out)⟩⟩
  case round =>
    clear H'
    try clear c1
    try clear p2
    obtain ⟨x3_1, x4_1, rfl, HA, HK1, HO_3, HB⟩ := hrel
    cases gk with
    | zero => exact absurd HA.out (by simp [spec_l5Once.l0])
    | succ k1 =>
      have H := HA.out
      clear HA
      simp only [spec_l5Once.l0] at H
      by_cases c4 : x4_1 < (l0.length : Int)
      rotate_left
      · rw [if_neg c4] at H
        have c4b0 : decide (x4_1 < (l0.length : Int)) = false := decide_eq_false c4
        clear c4
        obtain rfl := jF H
        go_wp2
        repeat (go_quiet (fail); try go_wp2)
        go_ret
        exact ⟨_, by first | rfl | (simp [errW_none, errW_some] <;> rfl) | (simp [*, errW_none, errW_some] <;> rfl), by (with_reducible repeat (first | apply Kd.R_alloc | apply Kd.R_drewN | apply Kd.R_drew)); exact HO_3.out, by repeat (first | (with_reducible first | exact HB.out | apply qA | apply qN | apply qD) | exact HB.out)⟩
      rw [if_pos c4] at H
      have c4b0 : decide (x4_1 < (l0.length : Int)) = true := decide_eq_true c4
      clear c4
      have H' := qM H
      clear H
      go_wp2
      repeat (go_quiet (fail); try go_wp2)
      go_loopg [5, 6] k1 (fun kq v5 v6 w' => ∃ (x5_2 : Bool) (x6_2 : Int), v5 = .bool x5_2 ∧ v6 = .int .i64 x6_2 ∧ Aside0 (spec_l5Once.l1 kq l0 x3_1 x4_1 x5_2 x6_2 = some r) ∧ Aside0 (kq ≤ k1) ∧ Aside0 (Kd.R k117 117 w' w.heap.size (fun _ => True) u3 x3_1) ∧ Aside0 (Below w.heap.size w w'))
      case atStart => exact ⟨(false), (0), (by first | rfl | (simp; done) | (simp [*]; done)), (by first | rfl | (simp; done) | (simp [*]; done)), H', ⟨Nat.le_refl _⟩, ⟨by (with_reducible repeat (first | apply Kd.R_alloc | apply Kd.R_drewN | apply Kd.R_drew)); exact HO_3.out⟩, ⟨by repeat (first | (with_reducible first | exact HB.out | apply qA | apply qN | apply qD) | exact HB.out)⟩⟩
      case round =>
        clear H'
        try clear c1
        try clear p2
        try clear c4
        try clear c4b0
        try clear p2
        obtain ⟨x5_2, x6_2, rfl, rfl, HA, HK2, HO_3, HB⟩ := hrel
        cases gk with
        | zero => exact absurd HA.out (by simp [spec_l5Once.l1])
        | succ k2 =>
          have H := HA.out
          clear HA
          simp only [spec_l5Once.l1] at H
          by_cases c5 : x6_2 < (x3_1.length : Int)
          rotate_left
          · rw [if_neg c5] at H
            have c5b0 : decide (x6_2 < (x3_1.length : Int)) = false := decide_eq_false c5
            clear c5
            by_cases c12 : x5_2 = true
            · subst c12
              have H1 : (spec_l5Once.l0 k2 l0 x3_1 (wrap64 (x4_1 + 1))) = some r := by rw [if_pos rfl] at H; exact H
              clear H
              have H := H1
              clear H1
              have H' := qM H
              clear H
              obtain ⟨Ao13, co13, eo13⟩ := Kd.R_slice HO_3.out
              subst eo13
              go_wp2
              repeat (go_quiet (fail); try go_wp2)
              go_roundg k2
              case measure => have := HK1.out; have := HK2.out; omega
              case rel => exact ⟨(x3_1), (wrap64 (x4_1 + 1)), (by first | rfl | (simp; done) | (simp [*]; done)), H', ⟨by have := HK1.out; have := HK2.out; omega⟩, ⟨by (with_reducible repeat (first | apply Kd.R_alloc | apply Kd.R_drewN | apply Kd.R_drew)); exact HO_3.out⟩, ⟨by repeat (first | (with_reducible first | exact HB.out | apply qA | apply qN | apply qD) | exact HB.out)⟩⟩
            replace c12 := Bool.eq_false_iff.mpr c12
            subst c12
            have H1 : (if 0 ≤ x4_1 then (if x4_1 < (l0.length : Int) then (if x3_1.length < 8796093022208 then (spec_l5Once.l0 k2 l0 (x3_1 ++ [(⟨(rd_T117 l0 x4_1).f0, (rd_T117 l0 x4_1).f1⟩ : S117)]) (wrap64 (x4_1 + 1))) else (none)) else (none)) else (none)) = some r := by rw [if_neg (show ¬ (false = true) by decide)] at H; exact H
            clear H
            have H := H1
            clear H1
            by_cases c14 : 0 ≤ x4_1
            rotate_left
            · rw [if_neg c14] at H
              exact absurd H (by simp)
            rw [if_pos c14] at H
            have c14b0 : decide (0 ≤ x4_1) = true := decide_eq_true c14
            clear c14
            by_cases c15 : x4_1 < (l0.length : Int)
            rotate_left
            · rw [if_neg c15] at H
              exact absurd H (by simp)
            rw [if_pos c15] at H
            have c15b0 : decide (x4_1 < (l0.length : Int)) = true := decide_eq_true c15
            clear c15
            by_cases c16 : x3_1.length < 8796093022208
            rotate_left
            · rw [if_neg c16] at H
              exact absurd H (by simp)
            rw [if_pos c16] at H
            have LMc16 := qM c16
            clear c16
            obtain ⟨y500, hy500⟩ : ∃ y_ : List (S117), y_ = (x3_1 ++ [(⟨(rd_T117 l0 x4_1).f0, (rd_T117 l0 x4_1).f1⟩ : S117)]) := ⟨_, rfl⟩
            replace H : (spec_l5Once.l0 k2 l0 y500 (wrap64 (x4_1 + 1))) = some r := by first | (rw [hy500]; with_reducible exact H) | (have H2_ := (Option.bind_some _ _).symm.trans H; rw [hy500]; with_reducible exact H2_) | (have H2_ := (Option.bind_some _ _).symm.trans H; with_reducible exact H2_) | with_reducible exact H | (rw [hy500]; exact H) | exact H
            have Ny500 := qM hy500
            clear hy500
            have H' := qM H
            clear H
            obtain ⟨Ao17, co17, eo17⟩ := Kd.R_slice HO_3.out
            subst eo17
            have p499 : 0 ≤ (x4_1 : Int) := qO (by first | (with_reducible assumption) | assumption)
            have q499 : x4_1 < (l0.length : Int) := qO (by first | (with_reducible assumption) | assumption)
            obtain ⟨ad499, e499, hx499_0, hx499_1⟩ := at_T117 HR0.out x4_1 p499 q499
            cases e499
            replace hx499_0 := (HB.out.cell (qL w _ hx499_0)).trans hx499_0
            replace hx499_1 := (HB.out.cell (qL w _ hx499_1)).trans hx499_1
            replace p499 := eq_true p499
            replace q499 := eq_true q499
            go_wp2_with (first | ((with_reducible refine gate_builtin (b := .append) (xs := #[.tmp 36, .tmp 41]) rfl ?_); at_builtin; refine Kd.R_append k117 (w0 := w) w.heap.size rfl (.tmp 36) (.tmp 41) 85 117 (.agg #[(.int .i64 0), (.int .i64 0)]) 16 rfl Try.underlying85 info117 rfl (by decide) (by omega) (.slice Ao17 x3_1.length co17) x3_1 (⟨(rd_T117 l0 x4_1).f0, (rd_T117 l0 x4_1).f1⟩ : S117) [.int .i64 ((rd_T117 l0 x4_1).f0), .int .i64 ((rd_T117 l0 x4_1).f1)] (fun _ => True) (fun _ => False) rfl rfl ?aP (fun _ hk => hk.elim) ?aF ?aO ?aB ?aS ?aL ?_; (case aP => exact k117_mkM _ _ _ (⟨(rd_T117 l0 x4_1).f0, (rd_T117 l0 x4_1).f1⟩ : S117)); (case aB => exact (by repeat (first | (with_reducible first | exact HB.out | apply qA | apply qN | apply qD) | exact HB.out))); (case aF => exact (fun _ _ => trivial)); (case aO => exact (by (with_reducible repeat (first | apply Kd.R_alloc | apply Kd.R_drewN | apply Kd.R_drew)); exact HO_3.out)); (case aS => exact (qz (by repeat (first | (with_reducible first | exact HB.out | apply qA | apply qN | apply qD) | exact HB.out)))); (case aL => have := LMc16.out; omega); intro v501 w18 ho hb hg hat; rw [← Ny500.out] at ho; have n0_ := qM (hb); have n1_ := qM (ho); clear HB; clear HO_3; have HB := n0_; have HO502 := n1_; clear n0_ n1_; clear ho hb hg hat))
            repeat (go_quiet (first | ((with_reducible refine gate_builtin (b := .append) (xs := #[.tmp 36, .tmp 41]) rfl ?_); at_builtin; refine Kd.R_append k117 (w0 := w) w.heap.size rfl (.tmp 36) (.tmp 41) 85 117 (.agg #[(.int .i64 0), (.int .i64 0)]) 16 rfl Try.underlying85 info117 rfl (by decide) (by omega) (.slice Ao17 x3_1.length co17) x3_1 (⟨(rd_T117 l0 x4_1).f0, (rd_T117 l0 x4_1).f1⟩ : S117) [.int .i64 ((rd_T117 l0 x4_1).f0), .int .i64 ((rd_T117 l0 x4_1).f1)] (fun _ => True) (fun _ => False) rfl rfl ?aP (fun _ hk => hk.elim) ?aF ?aO ?aB ?aS ?aL ?_; (case aP => exact k117_mkM _ _ _ (⟨(rd_T117 l0 x4_1).f0, (rd_T117 l0 x4_1).f1⟩ : S117)); (case aB => exact (by repeat (first | (with_reducible first | exact HB.out | apply qA | apply qN | apply qD) | exact HB.out))); (case aF => exact (fun _ _ => trivial)); (case aO => exact (by (with_reducible repeat (first | apply Kd.R_alloc | apply Kd.R_drewN | apply Kd.R_drew)); exact HO_3.out)); (case aS => exact (qz (by repeat (first | (with_reducible first | exact HB.out | apply qA | apply qN | apply qD) | exact HB.out)))); (case aL => have := LMc16.out; omega); intro v501 w18 ho hb hg hat; rw [← Ny500.out] at ho; have n0_ := qM (hb); have n1_ := qM (ho); clear HB; clear HO_3; have HB := n0_; have HO502 := n1_; clear n0_ n1_; clear ho hb hg hat)); try go_wp2_with (first | ((with_reducible refine gate_builtin (b := .append) (xs := #[.tmp 36, .tmp 41]) rfl ?_); at_builtin; refine Kd.R_append k117 (w0 := w) w.heap.size rfl (.tmp 36) (.tmp 41) 85 117 (.agg #[(.int .i64 0), (.int .i64 0)]) 16 rfl Try.underlying85 info117 rfl (by decide) (by omega) (.slice Ao17 x3_1.length co17) x3_1 (⟨(rd_T117 l0 x4_1).f0, (rd_T117 l0 x4_1).f1⟩ : S117) [.int .i64 ((rd_T117 l0 x4_1).f0), .int .i64 ((rd_T117 l0 x4_1).f1)] (fun _ => True) (fun _ => False) rfl rfl ?aP (fun _ hk => hk.elim) ?aF ?aO ?aB ?aS ?aL ?_; (case aP => exact k117_mkM _ _ _ (⟨(rd_T117 l0 x4_1).f0, (rd_T117 l0 x4_1).f1⟩ : S117)); (case aB => exact (by repeat (first | (with_reducible first | exact HB.out | apply qA | apply qN | apply qD) | exact HB.out))); (case aF => exact (fun _ _ => trivial)); (case aO => exact (by (with_reducible repeat (first | apply Kd.R_alloc | apply Kd.R_drewN | apply Kd.R_drew)); exact HO_3.out)); (case aS => exact (qz (by repeat (first | (with_reducible first | exact HB.out | apply qA | apply qN | apply qD) | exact HB.out)))); (case aL => have := LMc16.out; omega); intro v501 w18 ho hb hg hat; rw [← Ny500.out] at ho; have n0_ := qM (hb); have n1_ := qM (ho); clear HB; clear HO_3; have HB := n0_; have HO502 := n1_; clear n0_ n1_; clear ho hb hg hat)))
            go_roundg k2
            case measure => have := HK1.out; have := HK2.out; omega
            case rel => exact ⟨(y500), (wrap64 (x4_1 + 1)), (by first | rfl | (simp; done) | (simp [*]; done)), H', ⟨by have := HK1.out; have := HK2.out; omega⟩, ⟨by (with_reducible repeat (first | apply Kd.R_alloc | apply Kd.R_drewN | apply Kd.R_drew)); exact HO502.out⟩, ⟨by repeat (first | (with_reducible first | exact HB.out | apply qA | apply qN | apply qD) | exact HB.out)⟩⟩
          rw [if_pos c5] at H
          have c5b0 : decide (x6_2 < (x3_1.length : Int)) = true := decide_eq_true c5
          clear c5
          by_cases c6 : x5_2 = true
          · subst c6
            have H1 : (spec_l5Once.l1 k2 l0 x3_1 x4_1 true (wrap64 (x6_2 + 1))) = some r := by rw [if_pos rfl] at H; exact H
            clear H
            have H := H1
            clear H1
            have H' := qM H
            clear H
            obtain ⟨Ao7, co7, eo7⟩ := Kd.R_slice HO_3.out
            subst eo7
            go_wp2
            repeat (go_quiet (fail); try go_wp2)
            go_roundg k2
            case measure => have := HK1.out; have := HK2.out; omega
            case rel => exact ⟨(true), (wrap64 (x6_2 + 1)), (by first | rfl | (simp; done) | (simp [*]; done)), (by first | rfl | (simp; done) | (simp [*]; done)), H', ⟨by have := HK1.out; have := HK2.out; omega⟩, ⟨by (with_reducible repeat (first | apply Kd.R_alloc | apply Kd.R_drewN | apply Kd.R_drew)); exact HO_3.out⟩, ⟨by repeat (first | (with_reducible first | exact HB.out | apply qA | apply qN | apply qD) | exact HB.out)⟩⟩
          replace c6 := Bool.eq_false_iff.mpr c6
          subst c6
          have H1 : (if 0 ≤ x6_2 then (if 0 ≤ x4_1 then (if x4_1 < (l0.length : Int) then (spec_l5Once.l1 k2 l0 x3_1 x4_1 (((rd_T117 x3_1 x6_2).f0) == ((rd_T117 l0 x4_1).f0)) (wrap64 (x6_2 + 1))) else (none)) else (none)) else (none)) = some r := by rw [if_neg (show ¬ (false = true) by decide)] at H; exact H
          clear H
          have H := H1
          clear H1
          by_cases c8 : 0 ≤ x6_2
          rotate_left
          · rw [if_neg c8] at H
            exact absurd H (by simp)
          rw [if_pos c8] at H
          have c8b0 : decide (0 ≤ x6_2) = true := decide_eq_true c8
          clear c8
          by_cases c9 : 0 ≤ x4_1
          rotate_left
          · rw [if_neg c9] at H
            exact absurd H (by simp)
          rw [if_pos c9] at H
          have c9b0 : decide (0 ≤ x4_1) = true := decide_eq_true c9
          clear c9
          by_cases c10 : x4_1 < (l0.length : Int)
          rotate_left
          · rw [if_neg c10] at H
            exact absurd H (by simp)
          rw [if_pos c10] at H
          have c10b0 : decide (x4_1 < (l0.length : Int)) = true := decide_eq_true c10
          clear c10
          have H' := qM H
          clear H
          obtain ⟨Ao11, co11, eo11⟩ := Kd.R_slice HO_3.out
          subst eo11
          have p497 : 0 ≤ (x6_2 : Int) := qO (by first | (with_reducible assumption) | assumption)
          have q497 : x6_2 < (x3_1.length : Int) := qO (by first | (with_reducible assumption) | assumption)
          obtain ⟨ad497, e497, hx497_0, hx497_1⟩ := at_T117 (Kd.R_reads' HO_3.out).2.2 x6_2 p497 q497
          cases e497
          replace p497 := eq_true p497
          replace q497 := eq_true q497
          have p498 : 0 ≤ (x4_1 : Int) := qO (by first | (with_reducible assumption) | assumption)
          have q498 : x4_1 < (l0.length : Int) := qO (by first | (with_reducible assumption) | assumption)
          obtain ⟨ad498, e498, hx498_0, hx498_1⟩ := at_T117 HR0.out x4_1 p498 q498
          cases e498
          replace hx498_0 := (HB.out.cell (qL w _ hx498_0)).trans hx498_0
          replace hx498_1 := (HB.out.cell (qL w _ hx498_1)).trans hx498_1
          replace p498 := eq_true p498
          replace q498 := eq_true q498
          go_wp2
          repeat (go_quiet (fail); try go_wp2)
          go_roundg k2
          case measure => have := HK1.out; have := HK2.out; omega
          case rel => exact ⟨((((rd_T117 x3_1 x6_2).f0) == ((rd_T117 l0 x4_1).f0))), (wrap64 (x6_2 + 1)), (by first | rfl | (simp; done) | (simp [*]; done)), (by first | rfl | (simp; done) | (simp [*]; done)), H', ⟨by have := HK1.out; have := HK2.out; omega⟩, ⟨by (with_reducible repeat (first | apply Kd.R_alloc | apply Kd.R_drewN | apply Kd.R_drew)); exact HO_3.out⟩, ⟨by repeat (first | (with_reducible first | exact HB.out | apply qA | apply qN | apply qD) | exact HB.out)⟩⟩
end Go.Proofs.Ytgbjbpjmbghlbaa.G
end
section
namespace Go.Proofs.Ytgbjbpjmbghlbaa.G
open Go.RowKit Go.Proofs.YtgbjbpjmbghlbaaW.PrintWords Go.Proofs.YtgbjbpjmbghlbaaW.PrintLast Go.Proofs.YtgbjbpjmbghlbaaW.PrintMore
attribute [local go_sem] max2_int min2_int max_two min_two max_three min_three max_four min_four
mutual
def spec_l5One.j0 : Nat → Bool → Int → List (S117) → Int → Option (Bool)
  | 0, _, _, _, _ => none
  | k + 1, x19, x504000, x504001, x504002 => if x19 = true then (some false) else (spec_l5One.l0 k 0 x504000 x504001 x504002)
def spec_l5One.l0 : Nat → Int → Int → List (S117) → Int → Option (Bool)
  | 0, _, _, _, _ => none
  | k + 1, x3, x504000, x504001, x504002 => if x3 < (x504001.length : Int) then (if 0 ≤ x3 then ((spec_l6In.f ((rd_T117 x504001 x3).f0) 0 9).bind fun t510 => (if t510 = true then ((spec_l6In.f ((rd_T117 x504001 x3).f1) 0 96).bind fun t512 => (if t512 = true then (spec_l5One.l0 k (wrap64 (x3 + 1)) x504000 x504001 x504002) else (some false))) else (some false))) else (none)) else ((spec_l5Once.f k x504001).bind fun t506 => (some ((t506.length : Int) == (x504001.length : Int))))
end
def spec_l5One.f (k : Nat) (a0_0 : Int) (l0_1 : List (S117)) (a0_2 : Int) : Option (Bool) := if (l0_1.length : Int) > 10 then (spec_l5One.j0 k true a0_0 l0_1 a0_2) else ((spec_l6In.f a0_0 0 9).bind fun t504 => (if t504 = true then ((spec_l6In.f a0_2 0 96).bind fun t505 => (spec_l5One.j0 k (!t505) a0_0 l0_1 a0_2)) else (spec_l5One.j0 k true a0_0 l0_1 a0_2)))
def spec_l5One.T8 : Bool × List (List Nat × List Nat) := (true, [([], []), ([0], [0]), ([1], [1]), ([2], [2]), ([], []), ([4], [4]), ([5], [5]), ([3, 6], [3, 6]), ([7, 2, 0, 1, 2, 3, 4, 5, 6, 7], [7])])
def spec_l5One.B8 : List Nat := [0, 1, 3, 7, 0, 16, 48, 127, 255]
theorem spec_l5One.tab8 : rtab .any (opsOf Try.f108 8) = spec_l5One.T8 := by kernel_rfl
theorem spec_l5One.bits8 : waitsOk spec_l5One.T8.2 spec_l5One.B8 = true := by kernel_rfl
theorem spec_l5One.calls (k : Nat) (a0_0 : Int) (A0_1 : Option Addr) (c0_1 : Nat) (l0_1 : List (S117)) (a0_2 : Int) (r : Bool) (w : World) (hr0_1 : Kd.C k117 w A0_1 l0_1.length l0_1) (hc0_1 : l0_1.length ≤ c0_1) (h : spec_l5One.f k a0_0 l0_1 a0_2 = some r) :
    Calls Try.prog 108 #[.agg #[.int .i64 a0_0, .slice A0_1 l0_1.length c0_1, .int .i64 a0_2]] w fun e w' => e = .returned (.bool r) ∧ Below w.heap.size w w' := by
  have hu87 := Try.underlying87
  have HR0_1 := qM hr0_1
  have HC0_1 := qM hc0_1
  clear hr0_1 hc0_1
  have HB := qM (Below.refl w.heap.size w)
  have H : (if (l0_1.length : Int) > 10 then (spec_l5One.j0 k true a0_0 l0_1 a0_2) else ((spec_l6In.f a0_0 0 9).bind fun t504 => (if t504 = true then ((spec_l6In.f a0_2 0 96).bind fun t505 => (spec_l5One.j0 k (!t505) a0_0 l0_1 a0_2)) else (spec_l5One.j0 k true a0_0 l0_1 a0_2)))) = some r := h
  clear h
  have HC2 := qM H
  clear H
  go_enter Try.func108, Try.ntmps108
  go_upto_region 1 with (first | ((with_reducible refine gate_dst (N := 1) rfl ?_); refine box_event ?hg (N := 1) ?hd (cs := #[.int .i64 a0_0, .slice A0_1 l0_1.length c0_1, .int .i64 a0_2]) (t := 87) ?hr ?_; (case hd => rfl); (case hg => rfl); (case hr => first | (go_simp; done) | (go_simp; rfl)); intro gb503 hg w3 hbox hb; have n0_ := qM (qs (by repeat (first | (with_reducible first | exact HB.out | apply qA | apply qN | apply qD) | exact HB.out)) hb); have n1_ := qM (hbox); have n2_ := qM ((by rw [hg]; exact (qz (by repeat (first | (with_reducible first | exact HB.out | apply qA | apply qN | apply qD) | exact HB.out))) : w.heap.size ≤ gb503)); have n3_ := qM ((by rw [hg]; exact (qz (by repeat (first | (with_reducible first | exact HB.out | apply qA | apply qN | apply qD) | exact HB.out))) : w.heap.size ≤ gb503)); clear HB; have HB := n0_; have BK503 := n1_; have GW503 := n2_; have GE503 := n3_; clear n0_ n1_ n2_ n3_; clear hb hbox hg))
  (try simp only [Act.put, qT, qU, qV])
  go_cut [19] (fun v19 wc => ∃ (kq : Nat) (x19_1 : Bool), v19 = .bool x19_1 ∧ Aside0 (spec_l5One.j0 kq x19_1 a0_0 l0_1 a0_2 = some r) ∧ Aside0 (kq ≤ k) ∧ Aside0 (wc.heap[gb503]? = some (.cells #[.int .i64 a0_0, (.slice A0_1 l0_1.length c0_1), .int .i64 a0_2] 87 (0, 0))) ∧ Aside0 (Below w.heap.size w wc))
  case first =>
    have H := HC2.out
    clear HC2
    by_cases c4 : (l0_1.length : Int) > 10
    · rw [if_pos c4] at H
      have c4b0 : decide (10 < (l0_1.length : Int)) = true := decide_eq_true c4
      have c4b1 : decide (10 < l0_1.length) = true := decide_eq_true (by omega)
      clear c4
      (first | rw [c4b0] | (simp only [i64_w, i32_w]; rw [c4b0]) | skip)
      have H' := qM H
      clear H
      have hcz5_0 : w3.cell? ⟨gb503, 0, none⟩ = some (.int .i64 a0_0) := (qC BK503.out 0).trans rfl
      have hcz5_1 : w3.cell? ⟨gb503, 1, none⟩ = some (.slice A0_1 l0_1.length c0_1) := (qC BK503.out 1).trans rfl
      have hcz5_2 : w3.cell? ⟨gb503, 2, none⟩ = some (.int .i64 a0_2) := (qC BK503.out 2).trans rfl
      have hfz5_0 := qF BK503.out 0
      have hfz5_1 := qF BK503.out 1
      have hfz5_2 := qF BK503.out 2
      go_wp2
      go_meet
      case rel => exact ⟨_, (true), (by first | rfl | (simp; done) | (simp [*]; done)), H', ⟨by first | omega | exact Nat.le_refl _⟩, ⟨by (with_reducible repeat (first | apply qn | apply qd | apply qa)); exact BK503.out⟩, ⟨by repeat (first | (with_reducible first | exact HB.out | apply qA | apply qN | apply qD | refine qS ?_ GE503.out) | exact HB.out)⟩⟩
    rw [if_neg c4] at H
    have c4b0 : decide (10 < (l0_1.length : Int)) = false := decide_eq_false c4
    have c4b1 : decide (10 < l0_1.length) = false := decide_eq_false (by omega)
    clear c4
    (first | rw [c4b0] | (simp only [i64_w, i32_w]; rw [c4b0]) | skip)
    replace H := jG H
    obtain ⟨t504, A60, H⟩ := H
    replace H : (if t504 = true then ((spec_l6In.f a0_2 0 96).bind fun t505 => (spec_l5One.j0 k (!t505) a0_0 l0_1 a0_2)) else (spec_l5One.j0 k true a0_0 l0_1 a0_2)) = some r := H
    have A6 := qM A60
    clear A60
    by_cases c7 : t504 = true
    rotate_left
    · replace c7 := Bool.eq_false_iff.mpr c7
      subst c7
      have H1 : (spec_l5One.j0 k true a0_0 l0_1 a0_2) = some r := by rw [if_neg (show ¬ (false = true) by decide)] at H; exact H
      clear H
      have H := H1
      clear H1
      have H' := qM H
      clear H
      have hcz10_0 : w3.cell? ⟨gb503, 0, none⟩ = some (.int .i64 a0_0) := (qC BK503.out 0).trans rfl
      have hcz10_1 : w3.cell? ⟨gb503, 1, none⟩ = some (.slice A0_1 l0_1.length c0_1) := (qC BK503.out 1).trans rfl
      have hcz10_2 : w3.cell? ⟨gb503, 2, none⟩ = some (.int .i64 a0_2) := (qC BK503.out 2).trans rfl
      have hfz10_0 := qF BK503.out 0
      have hfz10_1 := qF BK503.out 1
      have hfz10_2 := qF BK503.out 2
      go_wp2_with (first | (go_at_call 122; (with_reducible refine (spec_l6In.calls a0_0 0 9 false _ A6.out).mono ?_); rintro e w' ⟨rfl, ⟨nd, rfl⟩⟩))
      go_meet
      case rel => exact ⟨_, (true), (by first | rfl | (simp; done) | (simp [*]; done)), H', ⟨by first | omega | exact Nat.le_refl _⟩, ⟨by (with_reducible repeat (first | apply qn | apply qd | apply qa)); exact BK503.out⟩, ⟨by repeat (first | (with_reducible first | exact HB.out | apply qA | apply qN | apply qD | refine qS ?_ GE503.out) | exact HB.out)⟩⟩
    subst c7
    have H1 : ((spec_l6In.f a0_2 0 96).bind fun t505 => (spec_l5One.j0 k (!t505) a0_0 l0_1 a0_2)) = some r := by rw [if_pos rfl] at H; exact H
    clear H
    have H := H1
    clear H1
    replace H := jG H
    obtain ⟨t505, A80, H⟩ := H
    replace H : (spec_l5One.j0 k (!t505) a0_0 l0_1 a0_2) = some r := H
    have A8 := qM A80
    clear A80
    have H' := qM H
    clear H
    have hcz9_0 : w3.cell? ⟨gb503, 0, none⟩ = some (.int .i64 a0_0) := (qC BK503.out 0).trans rfl
    have hcz9_1 : w3.cell? ⟨gb503, 1, none⟩ = some (.slice A0_1 l0_1.length c0_1) := (qC BK503.out 1).trans rfl
    have hcz9_2 : w3.cell? ⟨gb503, 2, none⟩ = some (.int .i64 a0_2) := (qC BK503.out 2).trans rfl
    have hfz9_0 := qF BK503.out 0
    have hfz9_1 := qF BK503.out 1
    have hfz9_2 := qF BK503.out 2
    go_wp2_with (first | (go_at_call 122; (with_reducible refine (spec_l6In.calls a0_0 0 9 true _ A6.out).mono ?_); rintro e w' ⟨rfl, ⟨nd, rfl⟩⟩) | (go_at_call 122; (with_reducible refine (spec_l6In.calls a0_2 0 96 t505 _ A8.out).mono ?_); rintro e w' ⟨rfl, ⟨nd, rfl⟩⟩))
    go_meet
    case rel => exact ⟨_, (!t505), (by first | rfl | (simp; done) | (simp [*]; done)), H', ⟨by first | omega | exact Nat.le_refl _⟩, ⟨by (with_reducible repeat (first | apply qn | apply qd | apply qa)); exact BK503.out⟩, ⟨by repeat (first | (with_reducible first | exact HB.out | apply qA | apply qN | apply qD | refine qS ?_ GE503.out) | exact HB.out)⟩⟩
  case rest =>
    clear HC2
    try clear c1
    try clear p2
    try clear c4
    try clear c4b0
    try clear c4b1
    try clear c7
    try clear c10
    try clear hcz10_0
    try clear hcz10_1
    try clear hcz10_2
    try clear hcz5_0
    try clear hcz5_1
    try clear hcz5_2
    try clear hcz9_0
    try clear hcz9_1
    try clear hcz9_2
    try clear hfz10_0
    try clear hfz10_1
    try clear hfz10_2
    try clear hfz5_0
    try clear hfz5_1
    try clear hfz5_2
    try clear hfz9_0
    try clear hfz9_1
    try clear hfz9_2
    obtain ⟨kq, x19_1, rfl, HA, HJ1, BK503, HB⟩ := hcut
    cases kq with
    | zero => exact absurd HA.out (by simp [spec_l5One.j0])
    | succ kj1 =>
      have H := HA.out
      clear HA
      simp only [spec_l5One.j0] at H
      by_cases c11 : x19_1 = true
      · subst c11
        have H1 : (some false) = some r := by rw [if_pos rfl] at H; exact H
        clear H
        have H := H1
        clear H1
        obtain rfl := jF H
        go_wp2
        go_ret
        exact ⟨by first | rfl | (simp [errW_none, errW_some] <;> rfl) | (simp [*, errW_none, errW_some] <;> rfl), by repeat (first | (with_reducible first | exact HB.out | apply qA | apply qN | apply qD | refine qS ?_ GE503.out) | exact HB.out)⟩
      replace c11 := Bool.eq_false_iff.mpr c11
      subst c11
      have H1 : (spec_l5One.l0 kj1 0 a0_0 l0_1 a0_2) = some r := by rw [if_neg (show ¬ (false = true) by decide)] at H; exact H
      clear H
      have H := H1
      clear H1
      have H' := qM H
      clear H
      go_wp2
      go_loopg [3] kj1 (fun kq v3 w' => ∃ (x3_2 : Int), v3 = .int .i64 x3_2 ∧ Aside0 (spec_l5One.l0 kq x3_2 a0_0 l0_1 a0_2 = some r) ∧ Aside0 (kq ≤ kj1) ∧ Aside0 (w'.heap[gb503]? = some (.cells #[.int .i64 a0_0, (.slice A0_1 l0_1.length c0_1), .int .i64 a0_2] 87 (0, 0))) ∧ Aside0 (Below w.heap.size w w'))
      case atStart => exact ⟨(0), (by first | rfl | (simp; done) | (simp [*]; done)), H', ⟨Nat.le_refl _⟩, ⟨by (with_reducible repeat (first | apply qn | apply qd | apply qa)); exact BK503.out⟩, ⟨by repeat (first | (with_reducible first | exact HB.out | apply qA | apply qN | apply qD | refine qS ?_ GE503.out) | exact HB.out)⟩⟩
      case round =>
        clear H'
        try clear c1
        try clear p2
        try clear c4
        try clear c4b0
        try clear c4b1
        try clear c7
        try clear c10
        try clear c11
        try clear hcz10_0
        try clear hcz10_1
        try clear hcz10_2
        try clear hcz5_0
        try clear hcz5_1
        try clear hcz5_2
        try clear hcz9_0
        try clear hcz9_1
        try clear hcz9_2
        try clear hfz10_0
        try clear hfz10_1
        try clear hfz10_2
        try clear hfz5_0
        try clear hfz5_1
        try clear hfz5_2
        try clear hfz9_0
        try clear hfz9_1
        try clear hfz9_2
        try clear p2
        obtain ⟨x3_2, rfl, HA, HK2, BK503, HB⟩ := hrel
        cases gk with
        | zero => exact absurd HA.out (by simp [spec_l5One.l0])
        | succ k2 =>
          have H := HA.out
          clear HA
          simp only [spec_l5One.l0] at H
          by_cases c12 : x3_2 < (l0_1.length : Int)
          · rw [if_pos c12] at H
            have c12b0 : decide (x3_2 < (l0_1.length : Int)) = true := decide_eq_true c12
            clear c12
            by_cases c13 : 0 ≤ x3_2
            rotate_left
            · rw [if_neg c13] at H
              exact absurd H (by simp)
            rw [if_pos c13] at H
            have c13b0 : decide (0 ≤ x3_2) = true := decide_eq_true c13
            clear c13
            replace H := jG H
            obtain ⟨t510, A140, H⟩ := H
            replace H : (if t510 = true then ((spec_l6In.f ((rd_T117 l0_1 x3_2).f1) 0 96).bind fun t512 => (if t512 = true then (spec_l5One.l0 k2 (wrap64 (x3_2 + 1)) a0_0 l0_1 a0_2) else (some false))) else (some false)) = some r := H
            have A14 := qM A140
            clear A140
            by_cases c15 : t510 = true
            rotate_left
            · replace c15 := Bool.eq_false_iff.mpr c15
              subst c15
              have H1 : (some false) = some r := by rw [if_neg (show ¬ (false = true) by decide)] at H; exact H
              clear H
              have H := H1
              clear H1
              obtain rfl := jF H
              have hcz20_0 : wr.cell? ⟨gb503, 0, none⟩ = some (.int .i64 a0_0) := (qC BK503.out 0).trans rfl
              have hcz20_1 : wr.cell? ⟨gb503, 1, none⟩ = some (.slice A0_1 l0_1.length c0_1) := (qC BK503.out 1).trans rfl
              have hcz20_2 : wr.cell? ⟨gb503, 2, none⟩ = some (.int .i64 a0_2) := (qC BK503.out 2).trans rfl
              have hfz20_0 := qF BK503.out 0
              have hfz20_1 := qF BK503.out 1
              have hfz20_2 := qF BK503.out 2
              have p509 : 0 ≤ (x3_2 : Int) := qO (by first | (with_reducible assumption) | assumption)
              have q509 : x3_2 < (l0_1.length : Int) := qO (by first | (with_reducible assumption) | assumption)
              obtain ⟨ad509, e509, hx509_0, hx509_1⟩ := at_T117 HR0_1.out x3_2 p509 q509
              cases e509
              replace hx509_0 := (HB.out.cell (qL w _ hx509_0)).trans hx509_0
              replace hx509_1 := (HB.out.cell (qL w _ hx509_1)).trans hx509_1
              replace p509 := eq_true p509
              replace q509 := eq_true q509
              go_wp2_with (first | ((with_reducible refine gate_callee (f := 122) rfl ?_); refine goesL_ (some 33) rfl rfl Try.func122 (by kernel_rfl) rfl #[.int .i64 ((rd_T117 l0_1 x3_2).f0), .int .i64 0, .int .i64 9] rfl (by (try simp only [jC, jD, jE]); first | done | rfl | (simp only [jB, jA]; rfl)) ?_; (with_reducible refine (spec_l6In.calls ((rd_T117 l0_1 x3_2).f0) 0 9 false _ A14.out).mono ?_); rintro e w' ⟨rfl, ⟨nd, rfl⟩⟩; refine ⟨_, rfl, ?_⟩))
              go_ret
              exact ⟨by first | rfl | (simp [errW_none, errW_some] <;> rfl) | (simp [*, errW_none, errW_some] <;> rfl), by repeat (first | (with_reducible first | exact HB.out | apply qA | apply qN | apply qD | refine qS ?_ GE503.out) | exact HB.out)⟩
            subst c15
            have H1 : ((spec_l6In.f ((rd_T117 l0_1 x3_2).f1) 0 96).bind fun t512 => (if t512 = true then (spec_l5One.l0 k2 (wrap64 (x3_2 + 1)) a0_0 l0_1 a0_2) else (some false))) = some r := by rw [if_pos rfl] at H; exact H
            clear H
            have H := H1
            clear H1
            replace H := jG H
            obtain ⟨t512, A160, H⟩ := H
            replace H : (if t512 = true then (spec_l5One.l0 k2 (wrap64 (x3_2 + 1)) a0_0 l0_1 a0_2) else (some false)) = some r := H
            have A16 := qM A160
            clear A160
            by_cases c17 : t512 = true
            rotate_left
            · replace c17 := Bool.eq_false_iff.mpr c17
              subst c17
              have H1 : (some false) = some r := by rw [if_neg (show ¬ (false = true) by decide)] at H; exact H
              clear H
              have H := H1
              clear H1
              obtain rfl := jF H
              have hcz19_0 : wr.cell? ⟨gb503, 0, none⟩ = some (.int .i64 a0_0) := (qC BK503.out 0).trans rfl
              have hcz19_1 : wr.cell? ⟨gb503, 1, none⟩ = some (.slice A0_1 l0_1.length c0_1) := (qC BK503.out 1).trans rfl
              have hcz19_2 : wr.cell? ⟨gb503, 2, none⟩ = some (.int .i64 a0_2) := (qC BK503.out 2).trans rfl
              have hfz19_0 := qF BK503.out 0
              have hfz19_1 := qF BK503.out 1
              have hfz19_2 := qF BK503.out 2
              have p509 : 0 ≤ (x3_2 : Int) := qO (by first | (with_reducible assumption) | assumption)
              have q509 : x3_2 < (l0_1.length : Int) := qO (by first | (with_reducible assumption) | assumption)
              obtain ⟨ad509, e509, hx509_0, hx509_1⟩ := at_T117 HR0_1.out x3_2 p509 q509
              cases e509
              replace hx509_0 := (HB.out.cell (qL w _ hx509_0)).trans hx509_0
              replace hx509_1 := (HB.out.cell (qL w _ hx509_1)).trans hx509_1
              replace p509 := eq_true p509
              replace q509 := eq_true q509
              go_wp2_with (first | ((with_reducible refine gate_callee (f := 122) rfl ?_); refine goesL_ (some 33) rfl rfl Try.func122 (by kernel_rfl) rfl #[.int .i64 ((rd_T117 l0_1 x3_2).f0), .int .i64 0, .int .i64 9] rfl (by (try simp only [jC, jD, jE]); first | done | rfl | (simp only [jB, jA]; rfl)) ?_; (with_reducible refine (spec_l6In.calls ((rd_T117 l0_1 x3_2).f0) 0 9 true _ A14.out).mono ?_); rintro e w' ⟨rfl, ⟨nd, rfl⟩⟩; refine ⟨_, rfl, ?_⟩; have p511 : 0 ≤ (x3_2 : Int) := qO (by first | (with_reducible assumption) | assumption); have q511 : x3_2 < (l0_1.length : Int) := qO (by first | (with_reducible assumption) | assumption); obtain ⟨ad511, e511, hx511_0, hx511_1⟩ := at_T117 HR0_1.out x3_2 p511 q511; obtain rfl : ad509 = ad511 := (by injection e511); replace hx511_0 := (HB.out.cell (qL w _ hx511_0)).trans hx511_0; replace hx511_1 := (HB.out.cell (qL w _ hx511_1)).trans hx511_1; replace p511 := eq_true p511; replace q511 := eq_true q511) | (go_at_call 122; (with_reducible refine (spec_l6In.calls ((rd_T117 l0_1 x3_2).f1) 0 96 false _ A16.out).mono ?_); rintro e w' ⟨rfl, ⟨nd, rfl⟩⟩))
              go_ret
              exact ⟨by first | rfl | (simp [errW_none, errW_some] <;> rfl) | (simp [*, errW_none, errW_some] <;> rfl), by repeat (first | (with_reducible first | exact HB.out | apply qA | apply qN | apply qD | refine qS ?_ GE503.out) | exact HB.out)⟩
            subst c17
            have H1 : (spec_l5One.l0 k2 (wrap64 (x3_2 + 1)) a0_0 l0_1 a0_2) = some r := by rw [if_pos rfl] at H; exact H
            clear H
            have H := H1
            clear H1
            have H' := qM H
            clear H
            have hcz18_0 : wr.cell? ⟨gb503, 0, none⟩ = some (.int .i64 a0_0) := (qC BK503.out 0).trans rfl
            have hcz18_1 : wr.cell? ⟨gb503, 1, none⟩ = some (.slice A0_1 l0_1.length c0_1) := (qC BK503.out 1).trans rfl
            have hcz18_2 : wr.cell? ⟨gb503, 2, none⟩ = some (.int .i64 a0_2) := (qC BK503.out 2).trans rfl
            have hfz18_0 := qF BK503.out 0
            have hfz18_1 := qF BK503.out 1
            have hfz18_2 := qF BK503.out 2
            have p509 : 0 ≤ (x3_2 : Int) := qO (by first | (with_reducible assumption) | assumption)
            have q509 : x3_2 < (l0_1.length : Int) := qO (by first | (with_reducible assumption) | assumption)
            obtain ⟨ad509, e509, hx509_0, hx509_1⟩ := at_T117 HR0_1.out x3_2 p509 q509
            cases e509
            replace hx509_0 := (HB.out.cell (qL w _ hx509_0)).trans hx509_0
            replace hx509_1 := (HB.out.cell (qL w _ hx509_1)).trans hx509_1
            replace p509 := eq_true p509
            replace q509 := eq_true q509
            go_wp2_with (first | ((with_reducible refine gate_callee (f := 122) rfl ?_); refine goesL_ (some 33) rfl rfl Try.func122 (by kernel_rfl) rfl #[.int .i64 ((rd_T117 l0_1 x3_2).f0), .int .i64 0, .int .i64 9] rfl (by (try simp only [jC, jD, jE]); first | done | rfl | (simp only [jB, jA]; rfl)) ?_; (with_reducible refine (spec_l6In.calls ((rd_T117 l0_1 x3_2).f0) 0 9 true _ A14.out).mono ?_); rintro e w' ⟨rfl, ⟨nd, rfl⟩⟩; refine ⟨_, rfl, ?_⟩; have p511 : 0 ≤ (x3_2 : Int) := qO (by first | (with_reducible assumption) | assumption); have q511 : x3_2 < (l0_1.length : Int) := qO (by first | (with_reducible assumption) | assumption); obtain ⟨ad511, e511, hx511_0, hx511_1⟩ := at_T117 HR0_1.out x3_2 p511 q511; obtain rfl : ad509 = ad511 := (by injection e511); replace hx511_0 := (HB.out.cell (qL w _ hx511_0)).trans hx511_0; replace hx511_1 := (HB.out.cell (qL w _ hx511_1)).trans hx511_1; replace p511 := eq_true p511; replace q511 := eq_true q511) | (go_at_call 122; (with_reducible refine (spec_l6In.calls ((rd_T117 l0_1 x3_2).f1) 0 96 true _ A16.out).mono ?_); rintro e w' ⟨rfl, ⟨nd, rfl⟩⟩))
            go_roundg k2
            case measure => have := HJ1.out; have := HK2.out; omega
            case rel => exact ⟨(wrap64 (x3_2 + 1)), (by first | rfl | (simp; done) | (simp [*]; done)), H', ⟨by have := HJ1.out; have := HK2.out; omega⟩, ⟨by (with_reducible repeat (first | apply qn | apply qd | apply qa)); exact BK503.out⟩, ⟨by repeat (first | (with_reducible first | exact HB.out | apply qA | apply qN | apply qD | refine qS ?_ GE503.out) | exact HB.out)⟩⟩
          rw [if_neg c12] at H
          have c12b0 : decide (x3_2 < (l0_1.length : Int)) = false := decide_eq_false c12
          clear c12
          replace H := jG H
          obtain ⟨t506, A210, H⟩ := H
          replace H : (some ((t506.length : Int) == (l0_1.length : Int))) = some r := H
          have A21 := qM A210
          clear A210
          obtain rfl := jF H
          have hcz22_0 : wr.cell? ⟨gb503, 0, none⟩ = some (.int .i64 a0_0) := (qC BK503.out 0).trans rfl
          have hcz22_1 : wr.cell? ⟨gb503, 1, none⟩ = some (.slice A0_1 l0_1.length c0_1) := (qC BK503.out 1).trans rfl
          have hcz22_2 : wr.cell? ⟨gb503, 2, none⟩ = some (.int .i64 a0_2) := (qC BK503.out 2).trans rfl
          have hfz22_0 := qF BK503.out 0
          have hfz22_1 := qF BK503.out 1
          have hfz22_2 := qF BK503.out 2
          try go_wp2
          have n0_ := qM (qd BK503.out)
          have n1_ := qM (qD HB.out)
          clear BK503
          clear HB
          have BK503 := n0_
          have HB := n1_
          clear n0_ n1_
          refine start_ (n := 9) (S := fun w' => w'.cell? ⟨gb503, 0, none⟩ = some (.int .i64 a0_0) ∧ w'.cell? ⟨gb503, 1, none⟩ = some (.slice A0_1 l0_1.length c0_1) ∧ w'.cell? ⟨gb503, 2, none⟩ = some (.int .i64 a0_2)) (ds := []) #[false, false, false, false, false, false, false, false, false] (by kernel_rfl) rfl rfl ⟨(qC BK503.out 0).trans rfl, (qC BK503.out 1).trans rfl, (qC BK503.out 2).trans rfl⟩ (fun hHeld => ?_); refine with_tabW spec_l5One.tab8 spec_l5One.bits8 (fun HT_ HW_ => ?_)
          generalize wr.drew = w23 at BK503 HB hHeld ⊢
          refine pure_ (i := 0) (N := some 45) (v := ?_) (a' := ?_) #[true, false, false, false, false, false, false, false, false] rfl rfl (any_of HT_.out (by kernel_rfl)) (fun _ _ _ h => h) (Or.inl ⟨by rfl, ?_⟩) ?_ ?_
          rotate_left
          · intro w'
            go_simp
            with_reducible rfl
          rotate_left
          · simp only [Act.put, qT, qU, qV, i64_w, i32_w]
            rfl
          refine pure_ (i := 4) (N := some 49) (v := ?_) (a' := ?_) #[true, false, false, false, true, false, false, false, false] rfl rfl (any_of HT_.out (by kernel_rfl)) (fun _ _ _ h => h) (Or.inl ⟨by rfl, ?_⟩) ?_ ?_
          rotate_left
          · intro w'
            go_simp
            with_reducible rfl
          rotate_left
          · simp only [Act.put, qT, qU, qV, i64_w, i32_w]
            rfl
          refine take_ (i := 1) (N := some 46) (v := ?_) (a' := ?_) #[true, true, false, false, true, false, false, false, false] rfl rfl (take_ofW HT_.out HW_.out (by kernel_rfl)) (fun _ _ _ h => h) (Or.inl ⟨by rfl, ?_⟩) hHeld ?_ ?_
          rotate_left
          · rintro w' ⟨s0, s1, s2⟩
            go_simp
            with_reducible rfl
          rotate_left
          · simp only [Act.put, qT, qU, qV, i64_w, i32_w]
            rfl
          refine take_ (i := 5) (N := some 50) (v := ?_) (a' := ?_) #[true, true, false, false, true, true, false, false, false] rfl rfl (take_ofW HT_.out HW_.out (by kernel_rfl)) (fun _ _ _ h => h) (Or.inl ⟨by rfl, ?_⟩) hHeld ?_ ?_
          rotate_left
          · rintro w' ⟨s0, s1, s2⟩
            go_simp
            with_reducible rfl
          rotate_left
          · simp only [Act.put, qT, qU, qV, i64_w, i32_w]
            rfl
          refine pure_ (i := 6) (N := some 51) (v := ?_) (a' := ?_) #[true, true, false, false, true, true, true, false, false] rfl rfl (any_of HT_.out (by kernel_rfl)) (fun _ _ _ h => h) (Or.inl ⟨by rfl, ?_⟩) ?_ ?_
          rotate_left
          · intro w'
            go_simp
            with_reducible rfl
          rotate_left
          · simp only [Act.put, qT, qU, qV, i64_w, i32_w]
            rfl
          refine one_ (i := 2) (N := some 47) #[true, true, true, false, true, true, true, false, false] rfl rfl (one_of HT_.out (by kernel_rfl)) (by decide) (fun K hK => ?_)
          refine goes_ Try.func147 (by kernel_rfl) rfl #[.slice A0_1 l0_1.length c0_1] (by rfl) rfl rfl (by (try simp only [jC, jD, jE]); first | done | rfl | (simp only [jB, jA]; rfl)) ?_
          with_reducible refine (spec_l5Once.calls k2 _ _ l0_1 t506 _ ?side1 ?side2 A21.out).mono ?_
          (case side1 => repeat (first | exact (qB HR0_1.out HB.out) | (with_reducible refine qc ?_ _) | (with_reducible refine qe ?_ _) | (with_reducible refine qf ?_)))
          (case side2 => exact HC0_1.out)
          rintro e w24 ⟨v507, rfl, ho0, hb⟩
          refine ⟨_, rfl, ?_⟩
          have n0_ := qM (Kd.R_lower ho0 (qz (by repeat (first | (with_reducible first | exact HB.out | apply qA | apply qN | apply qD | refine qS ?_ GE503.out) | exact HB.out))))
          have n1_ := qM (blk_below (g := gb503) (o := .cells #[.int .i64 a0_0, .slice A0_1 l0_1.length c0_1, .int .i64 a0_2] 87 (0, 0)) (by (with_reducible repeat (first | apply qn | apply qd | apply qa)); exact BK503.out) hb)
          have n2_ := qM (qs (by repeat (first | (with_reducible first | exact HB.out | apply qA | apply qN | apply qD | refine qS ?_ GE503.out) | exact HB.out)) hb)
          clear BK503
          clear HB
          have HO508 := n0_
          have BK503 := n1_
          have HB := n2_
          clear n0_ n1_ n2_
          (try clear hb)
          (try clear hb2)
          (try clear hk)
          (try clear hi)
          (try clear ho0)
          obtain ⟨Ao25, co25, eo25⟩ := Kd.R_slice HO508.out
          (first | subst eo25 | (injection eo25 with f1_ f2_ f3_; have f4_ := f1_.symm; have f5_ := f3_.symm; clear f1_ f2_ f3_; subst f4_; subst f5_))
          refine hK.out _ _ ⟨(qC BK503.out 0).trans rfl, (qC BK503.out 1).trans rfl, (qC BK503.out 2).trans rfl⟩ (fun hHeld => ?_)
          clear hK K
          refine norm_ (a' := ?_) ?_ ?_
          rotate_left
          · show Act.put _ (some 47) _ = _
            simp only [Act.put, qT, qU, qV, i64_w, i32_w]
            rfl
          refine pure_ (i := 3) (N := some 48) (v := ?_) (a' := ?_) #[true, true, true, true, true, true, true, false, false] rfl rfl (any_of HT_.out (by kernel_rfl)) (fun _ _ _ h => h) (Or.inl ⟨by rfl, ?_⟩) ?_ ?_
          rotate_left
          · intro w'
            go_simp
            with_reducible rfl
          rotate_left
          · simp only [Act.put, qT, qU, qV, i64_w, i32_w]
            rfl
          refine pure_ (i := 7) (N := some 52) (v := ?_) (a' := ?_) #[true, true, true, true, true, true, true, true, false] rfl rfl (any_of HT_.out (by kernel_rfl)) (fun _ _ _ h => h) (Or.inl ⟨by rfl, ?_⟩) ?_ ?_
          rotate_left
          · intro w'
            go_simp
            with_reducible rfl
          rotate_left
          · simp only [Act.put, qT, qU, qV, i64_w, i32_w]
            rfl
          refine pure_ (i := 8) (N := some 2) (v := ?_) (a' := ?_) #[true, true, true, true, true, true, true, true, true] rfl rfl (any_of HT_.out (by kernel_rfl)) (fun _ _ _ h => h) (Or.inl ⟨by rfl, ?_⟩) ?_ ?_
          rotate_left
          · intro w'
            go_simp
            with_reducible rfl
          rotate_left
          · simp only [Act.put, qT, qU, qV, i64_w, i32_w]
            rfl
          refine done_ (done_of HT_.out (by kernel_rfl)) ?_
          try go_wp2
          go_ret
          exact ⟨by first | rfl | (simp [errW_none, errW_some] <;> rfl) | (simp [*, errW_none, errW_some] <;> rfl), by repeat (first | (with_reducible first | exact HB.out | apply qA | apply qN | apply qD | refine qS ?_ GE503.out) | exact HB.out)⟩
def spec_TracesOk.l0 : Nat → List (S87) → Int → Option (Bool)
  | 0, _, _ => none
  | k + 1, x0, x3 => if x3 < (x0.length : Int) then (if 0 ≤ x3 then ((spec_l5One.f k ((rd_T87 x0 x3).f0) ((rd_T87 x0 x3).f1) ((rd_T87 x0 x3).f2)).bind fun t514 => (if t514 = true then (spec_TracesOk.l0 k x0 (wrap64 (x3 + 1))) else (some false))) else (none)) else (some true)
def spec_TracesOk.f (k : Nat) (l0 : List (S87)) : Option (Bool) := if (l0.length : Int) > 60 then (some false) else (spec_TracesOk.l0 k l0 0)
theorem spec_TracesOk.calls (k : Nat) (A0 : Option Addr) (c0 : Nat) (l0 : List (S87)) (r : Bool) (w : World) (hr0 : Kd.C k87 w A0 l0.length l0) (hc0 : l0.length ≤ c0) (h : spec_TracesOk.f k l0 = some r) :
    Calls Try.prog 87 #[.slice A0 l0.length c0] w fun e w' => e = .returned (.bool r) ∧ Below w.heap.size w w' := by
  have hu87 := Try.underlying87
  have HR0 := qM hr0
  have HC0 := qM hc0
  clear hr0 hc0
  have HB := qM (Below.refl w.heap.size w)
  have H : (if (l0.length : Int) > 60 then (some false) else (spec_TracesOk.l0 k l0 0)) = some r := h
  clear h
  by_cases c2 : (l0.length : Int) > 60
  · rw [if_pos c2] at H
    have c2b0 : decide (60 < (l0.length : Int)) = true := decide_eq_true c2
    have c2b1 : decide (60 < l0.length) = true := decide_eq_true (by omega)
    clear c2
    obtain rfl := jF H
    go_enter Try.func87, Try.ntmps87
    go_wp2
    go_ret
    exact ⟨by first | rfl | (simp [errW_none, errW_some] <;> rfl) | (simp [*, errW_none, errW_some] <;> rfl), by repeat (first | (with_reducible first | exact HB.out | apply qA | apply qN | apply qD) | exact HB.out)⟩
  rw [if_neg c2] at H
  have c2b0 : decide (60 < (l0.length : Int)) = false := decide_eq_false c2
  have c2b1 : decide (60 < l0.length) = false := decide_eq_false (by omega)
  clear c2
  have H' := qM H
  clear H
  go_enter Try.func87, Try.ntmps87
  go_wp2
  go_loopg [3] k (fun kq v3 w' => ∃ (x3_1 : Int), v3 = .int .i64 x3_1 ∧ Aside0 (spec_TracesOk.l0 kq l0 x3_1 = some r) ∧ Aside0 (kq ≤ k) ∧ Aside0 (Below w.heap.size w w'))
  case atStart => exact ⟨(0), (by first | rfl | (simp; done) | (simp [*]; done)), H', ⟨Nat.le_refl _⟩, ⟨by repeat (first | (with_reducible first | exact HB.out | apply qA | apply qN | apply qD) | exact HB.out)⟩⟩
  case round =>
    clear H'
    try clear c2
    try clear c2b0
    try clear c2b1
    try clear p2
    obtain ⟨x3_1, rfl, HA, HK1, HB⟩ := hrel
    cases gk with
    | zero => exact absurd HA.out (by simp [spec_TracesOk.l0])
    | succ k1 =>
      have H := HA.out
      clear HA
      simp only [spec_TracesOk.l0] at H
      by_cases c3 : x3_1 < (l0.length : Int)
      rotate_left
      · rw [if_neg c3] at H
        have c3b0 : decide (x3_1 < (l0.length : Int)) = false := decide_eq_false c3
        clear c3
        obtain rfl := jF H
        go_wp2
        go_ret
        exact ⟨by first | rfl | (simp [errW_none, errW_some] <;> rfl) | (simp [*, errW_none, errW_some] <;> rfl), by repeat (first | (with_reducible first | exact HB.out | apply qA | apply qN | apply qD) | exact HB.out)⟩
      rw [if_pos c3] at H
      have c3b0 : decide (x3_1 < (l0.length : Int)) = true := decide_eq_true c3
      clear c3
      by_cases c4 : 0 ≤ x3_1
      rotate_left
      · rw [if_neg c4] at H
        exact absurd H (by simp)
      rw [if_pos c4] at H
      have c4b0 : decide (0 ≤ x3_1) = true := decide_eq_true c4
      clear c4
      replace H := jG H
      obtain ⟨t514, A50, H⟩ := H
      replace H : (if t514 = true then (spec_TracesOk.l0 k1 l0 (wrap64 (x3_1 + 1))) else (some false)) = some r := H
      have A5 := qM A50
      clear A50
      by_cases c6 : t514 = true
      rotate_left
      · replace c6 := Bool.eq_false_iff.mpr c6
        subst c6
        have H1 : (some false) = some r := by rw [if_neg (show ¬ (false = true) by decide)] at H; exact H
        clear H
        have H := H1
        clear H1
        obtain rfl := jF H
        have p513 : 0 ≤ (x3_1 : Int) := qO (by first | (with_reducible assumption) | assumption)
        have q513 : x3_1 < (l0.length : Int) := qO (by first | (with_reducible assumption) | assumption)
        obtain ⟨ad513, A513_1, c513_1, e513, hx513_0, hx513_1, hx513_2, hl513_1, hi513_1⟩ := at_T87 HR0.out x3_1 p513 q513
        cases e513
        replace hx513_0 := (HB.out.cell (qL w _ hx513_0)).trans hx513_0
        replace hx513_1 := (HB.out.cell (qL w _ hx513_1)).trans hx513_1
        replace hx513_2 := (HB.out.cell (qL w _ hx513_2)).trans hx513_2
        have HR513_1 := qM hi513_1
        have HC513_1 := qM hl513_1
        clear hi513_1 hl513_1
        replace p513 := eq_true p513
        replace q513 := eq_true q513
        go_wp2_with (first | ((with_reducible refine gate_callee (f := 108) rfl ?_); refine goesL_ (some 17) rfl rfl Try.func108 (by kernel_rfl) rfl #[.agg #[.int .i64 ((rd_T87 l0 x3_1).f0), .slice A513_1 ((rd_T87 l0 x3_1).f1).length c513_1, .int .i64 ((rd_T87 l0 x3_1).f2)]] rfl (by (try simp only [jC, jD, jE]); first | done | rfl | (simp only [jB, jA]; rfl)) ?_; (with_reducible refine (spec_l5One.calls k1 ((rd_T87 l0 x3_1).f0) _ _ ((rd_T87 l0 x3_1).f1) ((rd_T87 l0 x3_1).f2) false _ ?side1 ?side2 A5.out).mono ?_); (case side1 => repeat (first | exact (qB HR513_1.out HB.out) | (with_reducible refine qc ?_ _) | (with_reducible refine qe ?_ _) | (with_reducible refine qf ?_))); (case side2 => exact HC513_1.out); rintro e w8 ⟨rfl, hb⟩; refine ⟨_, rfl, ?_⟩; have n0_ := qM (qs (by repeat (first | (with_reducible first | exact HB.out | apply qA | apply qN | apply qD) | exact HB.out)) hb); clear HB; have HB := n0_; clear n0_; (try clear hb); (try clear hb2); (try clear hk); (try clear hi)))
        go_ret
        exact ⟨by first | rfl | (simp [errW_none, errW_some] <;> rfl) | (simp [*, errW_none, errW_some] <;> rfl), by repeat (first | (with_reducible first | exact HB.out | apply qA | apply qN | apply qD) | exact HB.out)⟩
      subst c6
      have H1 : (spec_TracesOk.l0 k1 l0 (wrap64 (x3_1 + 1))) = some r := by rw [if_pos rfl] at H; exact H
      clear H
      have H := H1
      clear H1
      have H' := qM H
      clear H
      have p513 : 0 ≤ (x3_1 : Int) := qO (by first | (with_reducible assumption) | assumption)
      have q513 : x3_1 < (l0.length : Int) := qO (by first | (with_reducible assumption) | assumption)
      obtain ⟨ad513, A513_1, c513_1, e513, hx513_0, hx513_1, hx513_2, hl513_1, hi513_1⟩ := at_T87 HR0.out x3_1 p513 q513
      cases e513
      replace hx513_0 := (HB.out.cell (qL w _ hx513_0)).trans hx513_0
      replace hx513_1 := (HB.out.cell (qL w _ hx513_1)).trans hx513_1
      replace hx513_2 := (HB.out.cell (qL w _ hx513_2)).trans hx513_2
      have HR513_1 := qM hi513_1
      have HC513_1 := qM hl513_1
      clear hi513_1 hl513_1
      replace p513 := eq_true p513
      replace q513 := eq_true q513
      go_wp2_with (first | ((with_reducible refine gate_callee (f := 108) rfl ?_); refine goesL_ (some 17) rfl rfl Try.func108 (by kernel_rfl) rfl #[.agg #[.int .i64 ((rd_T87 l0 x3_1).f0), .slice A513_1 ((rd_T87 l0 x3_1).f1).length c513_1, .int .i64 ((rd_T87 l0 x3_1).f2)]] rfl (by (try simp only [jC, jD, jE]); first | done | rfl | (simp only [jB, jA]; rfl)) ?_; (with_reducible refine (spec_l5One.calls k1 ((rd_T87 l0 x3_1).f0) _ _ ((rd_T87 l0 x3_1).f1) ((rd_T87 l0 x3_1).f2) true _ ?side1 ?side2 A5.out).mono ?_); (case side1 => repeat (first | exact (qB HR513_1.out HB.out) | (with_reducible refine qc ?_ _) | (with_reducible refine qe ?_ _) | (with_reducible refine qf ?_))); (case side2 => exact HC513_1.out); rintro e w7 ⟨rfl, hb⟩; refine ⟨_, rfl, ?_⟩; have n0_ := qM (qs (by repeat (first | (with_reducible first | exact HB.out | apply qA | apply qN | apply qD) | exact HB.out)) hb); clear HB; have HB := n0_; clear n0_; (try clear hb); (try clear hb2); (try clear hk); (try clear hi)))
      go_roundg k1
      case measure => have := HK1.out; omega
      case rel => exact ⟨(wrap64 (x3_1 + 1)), (by first | rfl | (simp; done) | (simp [*]; done)), H', ⟨by have := HK1.out; omega⟩, ⟨by repeat (first | (with_reducible first | exact HB.out | apply qA | apply qN | apply qD) | exact HB.out)⟩⟩
end Go.Proofs.Ytgbjbpjmbghlbaa.G
end
section
namespace Go.Proofs.Ytgbjbpjmbghlbaa.G
open Go.RowKit Go.Proofs.YtgbjbpjmbghlbaaW.PrintWords Go.Proofs.YtgbjbpjmbghlbaaW.PrintLast Go.Proofs.YtgbjbpjmbghlbaaW.PrintMore
attribute [local go_sem] max2_int min2_int max_two min_two max_three min_three max_four min_four
theorem eqA117 (d : Nat) (w : World) (x0 y0 : Int) (x1 y1 : Int) :
    (Op.equalIn (d + 2) 117 (.agg #[.int .i64 x0, .int .i64 x1]) (.agg #[.int .i64 y0, .int .i64 y1])).run Try.prog w = .ok (x0 == y0 && (x1 == y1)) w := by
  refine eqA_of Try.underlying117 (by kernel_rfl) ?_
  refine eqf_cons (by rfl) (by go_simp; rfl) (by go_simp; rfl) (by go_simp) ?_
  exact eqf_last (by rfl) (by go_simp; rfl) (by go_simp; rfl) (by go_simp)
end Go.Proofs.Ytgbjbpjmbghlbaa.G
end
section
namespace Go.Proofs.Ytgbjbpjmbghlbaa.G
open Go.RowKit Go.Proofs.YtgbjbpjmbghlbaaW.PrintWords Go.Proofs.YtgbjbpjmbghlbaaW.PrintLast Go.Proofs.YtgbjbpjmbghlbaaW.PrintMore
attribute [local go_sem] max2_int min2_int max_two min_two max_three min_three max_four min_four
attribute [local go_sem high] eqA117
mutual
def spec_l5Same.j0 : Nat → Bool → Int → List (S117) → Int → Int → List (S117) → Int → Option (Bool)
  | 0, _, _, _, _, _, _, _ => none
  | k + 1, x26, x650000, x650001, x650002, x651000, x651001, x651002 => if x26 = true then (some false) else (spec_l5Same.l0 k 0 x650000 x650001 x650002 x651000 x651001 x651002)
def spec_l5Same.l0 : Nat → Int → Int → List (S117) → Int → Int → List (S117) → Int → Option (Bool)
  | 0, _, _, _, _, _, _, _ => none
  | k + 1, x5, x650000, x650001, x650002, x651000, x651001, x651002 => if x5 < (x650001.length : Int) then (if 0 ≤ x5 then (if x5 < (x651001.length : Int) then (if (!(((rd_T117 x650001 x5).f0) == ((rd_T117 x651001 x5).f0)) || (!(((rd_T117 x650001 x5).f1) == ((rd_T117 x651001 x5).f1)))) = true then (some false) else (spec_l5Same.l0 k (wrap64 (x5 + 1)) x650000 x650001 x650002 x651000 x651001 x651002)) else (none)) else (none)) else (some true)
end
def spec_l5Same.f (k : Nat) (a0_0 : Int) (l0_1 : List (S117)) (a0_2 : Int) (a1_0 : Int) (l1_1 : List (S117)) (a1_2 : Int) : Option (Bool) := if a0_0 = a1_0 then (if a0_2 = a1_2 then (spec_l5Same.j0 k ((l0_1.length : Int) != (l1_1.length : Int)) a0_0 l0_1 a0_2 a1_0 l1_1 a1_2) else (spec_l5Same.j0 k true a0_0 l0_1 a0_2 a1_0 l1_1 a1_2)) else (spec_l5Same.j0 k true a0_0 l0_1 a0_2 a1_0 l1_1 a1_2)
theorem spec_l5Same.calls (k : Nat) (a0_0 : Int) (A0_1 : Option Addr) (c0_1 : Nat) (l0_1 : List (S117)) (a0_2 : Int) (a1_0 : Int) (A1_1 : Option Addr) (c1_1 : Nat) (l1_1 : List (S117)) (a1_2 : Int) (r : Bool) (w : World) (hr0_1 : Kd.C k117 w A0_1 l0_1.length l0_1) (hc0_1 : l0_1.length ≤ c0_1) (hr1_1 : Kd.C k117 w A1_1 l1_1.length l1_1) (hc1_1 : l1_1.length ≤ c1_1) (h : spec_l5Same.f k a0_0 l0_1 a0_2 a1_0 l1_1 a1_2 = some r) :
    Calls Try.prog 96 #[.agg #[.int .i64 a0_0, .slice A0_1 l0_1.length c0_1, .int .i64 a0_2], .agg #[.int .i64 a1_0, .slice A1_1 l1_1.length c1_1, .int .i64 a1_2]] w fun e w' => e = .returned (.bool r) ∧ Below w.heap.size w w' := by
  have hu87 := Try.underlying87
  have hu117 := Try.underlying117
  have HR0_1 := qM hr0_1
  have HC0_1 := qM hc0_1
  clear hr0_1 hc0_1
  have HR1_1 := qM hr1_1
  have HC1_1 := qM hc1_1
  clear hr1_1 hc1_1
  have HB := qM (Below.refl w.heap.size w)
  have H : (if a0_0 = a1_0 then (if a0_2 = a1_2 then (spec_l5Same.j0 k ((l0_1.length : Int) != (l1_1.length : Int)) a0_0 l0_1 a0_2 a1_0 l1_1 a1_2) else (spec_l5Same.j0 k true a0_0 l0_1 a0_2 a1_0 l1_1 a1_2)) else (spec_l5Same.j0 k true a0_0 l0_1 a0_2 a1_0 l1_1 a1_2)) = some r := h
  clear h
  have HC3 := qM H
  clear H
  go_enter Try.func96, Try.ntmps96
  go_upto_region 1 with (first | ((with_reducible refine gate_dst (N := 2) rfl ?_); (try (refine gate_guard (by rfl) ?_; dsimp only)); refine box_event ?hg (N := 2) ?hd (cs := #[.int .i64 a0_0, .slice A0_1 l0_1.length c0_1, .int .i64 a0_2]) (t := 87) ?hr ?_; (case hd => rfl); (case hg => rfl); (case hr => first | (go_simp; done) | (go_simp; rfl)); intro gb649 hg w4 hbox hb; have n0_ := qM (qs (by repeat (first | (with_reducible first | exact HB.out | apply qA | apply qN | apply qD) | exact HB.out)) hb); have n1_ := qM (hbox); have n2_ := qM ((by rw [hg]; exact (qz (by repeat (first | (with_reducible first | exact HB.out | apply qA | apply qN | apply qD) | exact HB.out))) : w.heap.size ≤ gb649)); have n3_ := qM ((by rw [hg]; exact (qz (by repeat (first | (with_reducible first | exact HB.out | apply qA | apply qN | apply qD) | exact HB.out))) : w.heap.size ≤ gb649)); clear HB; have HB := n0_; have BK649 := n1_; have GW649 := n2_; have GE649 := n3_; clear n0_ n1_ n2_ n3_; clear hb hbox hg) | ((with_reducible refine gate_dst (N := 3) rfl ?_); (try (refine gate_guard (by rfl) ?_; dsimp only)); refine box_event ?hg (N := 3) ?hd (cs := #[.int .i64 a1_0, .slice A1_1 l1_1.length c1_1, .int .i64 a1_2]) (t := 87) ?hr ?_; (case hd => rfl); (case hg => rfl); (case hr => first | (go_simp; done) | (go_simp; rfl)); intro gb650 hg w5 hbox hb; have n0_ := qM (blk_below (g := gb649) (o := .cells #[.int .i64 a0_0, .slice A0_1 l0_1.length c0_1, .int .i64 a0_2] 87 (0, 0)) (by (with_reducible repeat (first | apply qn | apply qd | apply qa)); exact BK649.out) hb); have n1_ := qM (qs (by repeat (first | (with_reducible first | exact HB.out | apply qA | apply qN | apply qD | refine qS ?_ GE649.out) | exact HB.out)) hb); have n2_ := qM (hbox); have n3_ := qM ((by rw [hg]; exact (qz (by repeat (first | (with_reducible first | exact HB.out | apply qA | apply qN | apply qD | refine qS ?_ GE649.out) | exact HB.out))) : w.heap.size ≤ gb650)); have n4_ := qM ((by rw [hg]; exact (qz (by repeat (first | (with_reducible first | exact HB.out | apply qA | apply qN | apply qD | refine qS ?_ GE649.out) | exact HB.out))) : w.heap.size ≤ gb650)); have n5_ := qM ((by rw [hg]; exact Nat.ne_of_lt (blk_lt (g := gb649) (o := .cells #[.int .i64 a0_0, .slice A0_1 l0_1.length c0_1, .int .i64 a0_2] 87 (0, 0)) (by (with_reducible repeat (first | apply qn | apply qd | apply qa)); exact BK649.out)) : gb649 ≠ gb650)); have n6_ := qM ((by rw [hg]; exact Nat.ne_of_gt (blk_lt (g := gb649) (o := .cells #[.int .i64 a0_0, .slice A0_1 l0_1.length c0_1, .int .i64 a0_2] 87 (0, 0)) (by (with_reducible repeat (first | apply qn | apply qd | apply qa)); exact BK649.out)) : gb650 ≠ gb649)); clear BK649; clear HB; have BK649 := n0_; have HB := n1_; have BK650 := n2_; have GW650 := n3_; have GE650 := n4_; have NB649_650 := n5_; have NB650_649 := n6_; clear n0_ n1_ n2_ n3_ n4_ n5_ n6_; clear hb hbox hg))
  repeat (go_quiet (first | ((with_reducible refine gate_dst (N := 2) rfl ?_); (try (refine gate_guard (by rfl) ?_; dsimp only)); refine box_event ?hg (N := 2) ?hd (cs := #[.int .i64 a0_0, .slice A0_1 l0_1.length c0_1, .int .i64 a0_2]) (t := 87) ?hr ?_; (case hd => rfl); (case hg => rfl); (case hr => first | (go_simp; done) | (go_simp; rfl)); intro gb649 hg w4 hbox hb; have n0_ := qM (qs (by repeat (first | (with_reducible first | exact HB.out | apply qA | apply qN | apply qD) | exact HB.out)) hb); have n1_ := qM (hbox); have n2_ := qM ((by rw [hg]; exact (qz (by repeat (first | (with_reducible first | exact HB.out | apply qA | apply qN | apply qD) | exact HB.out))) : w.heap.size ≤ gb649)); have n3_ := qM ((by rw [hg]; exact (qz (by repeat (first | (with_reducible first | exact HB.out | apply qA | apply qN | apply qD) | exact HB.out))) : w.heap.size ≤ gb649)); clear HB; have HB := n0_; have BK649 := n1_; have GW649 := n2_; have GE649 := n3_; clear n0_ n1_ n2_ n3_; clear hb hbox hg) | ((with_reducible refine gate_dst (N := 3) rfl ?_); (try (refine gate_guard (by rfl) ?_; dsimp only)); refine box_event ?hg (N := 3) ?hd (cs := #[.int .i64 a1_0, .slice A1_1 l1_1.length c1_1, .int .i64 a1_2]) (t := 87) ?hr ?_; (case hd => rfl); (case hg => rfl); (case hr => first | (go_simp; done) | (go_simp; rfl)); intro gb650 hg w5 hbox hb; have n0_ := qM (blk_below (g := gb649) (o := .cells #[.int .i64 a0_0, .slice A0_1 l0_1.length c0_1, .int .i64 a0_2] 87 (0, 0)) (by (with_reducible repeat (first | apply qn | apply qd | apply qa)); exact BK649.out) hb); have n1_ := qM (qs (by repeat (first | (with_reducible first | exact HB.out | apply qA | apply qN | apply qD | refine qS ?_ GE649.out) | exact HB.out)) hb); have n2_ := qM (hbox); have n3_ := qM ((by rw [hg]; exact (qz (by repeat (first | (with_reducible first | exact HB.out | apply qA | apply qN | apply qD | refine qS ?_ GE649.out) | exact HB.out))) : w.heap.size ≤ gb650)); have n4_ := qM ((by rw [hg]; exact (qz (by repeat (first | (with_reducible first | exact HB.out | apply qA | apply qN | apply qD | refine qS ?_ GE649.out) | exact HB.out))) : w.heap.size ≤ gb650)); have n5_ := qM ((by rw [hg]; exact Nat.ne_of_lt (blk_lt (g := gb649) (o := .cells #[.int .i64 a0_0, .slice A0_1 l0_1.length c0_1, .int .i64 a0_2] 87 (0, 0)) (by (with_reducible repeat (first | apply qn | apply qd | apply qa)); exact BK649.out)) : gb649 ≠ gb650)); have n6_ := qM ((by rw [hg]; exact Nat.ne_of_gt (blk_lt (g := gb649) (o := .cells #[.int .i64 a0_0, .slice A0_1 l0_1.length c0_1, .int .i64 a0_2] 87 (0, 0)) (by (with_reducible repeat (first | apply qn | apply qd | apply qa)); exact BK649.out)) : gb650 ≠ gb649)); clear BK649; clear HB; have BK649 := n0_; have HB := n1_; have BK650 := n2_; have GW650 := n3_; have GE650 := n4_; have NB649_650 := n5_; have NB650_649 := n6_; clear n0_ n1_ n2_ n3_ n4_ n5_ n6_; clear hb hbox hg)); go_upto_region 1 with (first | ((with_reducible refine gate_dst (N := 2) rfl ?_); (try (refine gate_guard (by rfl) ?_; dsimp only)); refine box_event ?hg (N := 2) ?hd (cs := #[.int .i64 a0_0, .slice A0_1 l0_1.length c0_1, .int .i64 a0_2]) (t := 87) ?hr ?_; (case hd => rfl); (case hg => rfl); (case hr => first | (go_simp; done) | (go_simp; rfl)); intro gb649 hg w4 hbox hb; have n0_ := qM (qs (by repeat (first | (with_reducible first | exact HB.out | apply qA | apply qN | apply qD) | exact HB.out)) hb); have n1_ := qM (hbox); have n2_ := qM ((by rw [hg]; exact (qz (by repeat (first | (with_reducible first | exact HB.out | apply qA | apply qN | apply qD) | exact HB.out))) : w.heap.size ≤ gb649)); have n3_ := qM ((by rw [hg]; exact (qz (by repeat (first | (with_reducible first | exact HB.out | apply qA | apply qN | apply qD) | exact HB.out))) : w.heap.size ≤ gb649)); clear HB; have HB := n0_; have BK649 := n1_; have GW649 := n2_; have GE649 := n3_; clear n0_ n1_ n2_ n3_; clear hb hbox hg) | ((with_reducible refine gate_dst (N := 3) rfl ?_); (try (refine gate_guard (by rfl) ?_; dsimp only)); refine box_event ?hg (N := 3) ?hd (cs := #[.int .i64 a1_0, .slice A1_1 l1_1.length c1_1, .int .i64 a1_2]) (t := 87) ?hr ?_; (case hd => rfl); (case hg => rfl); (case hr => first | (go_simp; done) | (go_simp; rfl)); intro gb650 hg w5 hbox hb; have n0_ := qM (blk_below (g := gb649) (o := .cells #[.int .i64 a0_0, .slice A0_1 l0_1.length c0_1, .int .i64 a0_2] 87 (0, 0)) (by (with_reducible repeat (first | apply qn | apply qd | apply qa)); exact BK649.out) hb); have n1_ := qM (qs (by repeat (first | (with_reducible first | exact HB.out | apply qA | apply qN | apply qD | refine qS ?_ GE649.out) | exact HB.out)) hb); have n2_ := qM (hbox); have n3_ := qM ((by rw [hg]; exact (qz (by repeat (first | (with_reducible first | exact HB.out | apply qA | apply qN | apply qD | refine qS ?_ GE649.out) | exact HB.out))) : w.heap.size ≤ gb650)); have n4_ := qM ((by rw [hg]; exact (qz (by repeat (first | (with_reducible first | exact HB.out | apply qA | apply qN | apply qD | refine qS ?_ GE649.out) | exact HB.out))) : w.heap.size ≤ gb650)); have n5_ := qM ((by rw [hg]; exact Nat.ne_of_lt (blk_lt (g := gb649) (o := .cells #[.int .i64 a0_0, .slice A0_1 l0_1.length c0_1, .int .i64 a0_2] 87 (0, 0)) (by (with_reducible repeat (first | apply qn | apply qd | apply qa)); exact BK649.out)) : gb649 ≠ gb650)); have n6_ := qM ((by rw [hg]; exact Nat.ne_of_gt (blk_lt (g := gb649) (o := .cells #[.int .i64 a0_0, .slice A0_1 l0_1.length c0_1, .int .i64 a0_2] 87 (0, 0)) (by (with_reducible repeat (first | apply qn | apply qd | apply qa)); exact BK649.out)) : gb650 ≠ gb649)); clear BK649; clear HB; have BK649 := n0_; have HB := n1_; have BK650 := n2_; have GW650 := n3_; have GE650 := n4_; have NB649_650 := n5_; have NB650_649 := n6_; clear n0_ n1_ n2_ n3_ n4_ n5_ n6_; clear hb hbox hg)))
  (try simp only [Act.put, qT, qU, qV])
  go_cut [26] (fun v26 wc => ∃ (kq : Nat) (x26_2 : Bool), v26 = .bool x26_2 ∧ Aside0 (spec_l5Same.j0 kq x26_2 a0_0 l0_1 a0_2 a1_0 l1_1 a1_2 = some r) ∧ Aside0 (kq ≤ k) ∧ Aside0 (wc.heap[gb649]? = some (.cells #[.int .i64 a0_0, (.slice A0_1 l0_1.length c0_1), .int .i64 a0_2] 87 (0, 0))) ∧ Aside0 (wc.heap[gb650]? = some (.cells #[.int .i64 a1_0, (.slice A1_1 l1_1.length c1_1), .int .i64 a1_2] 87 (0, 0))) ∧ Aside0 (Below w.heap.size w wc))
  case first =>
    have H := HC3.out
    clear HC3
    by_cases c6 : a0_0 = a1_0
    rotate_left
    · rw [if_neg c6] at H
      have c6b0 : (a0_0 == a1_0) = false := beq_eq_false_iff_ne.mpr c6
      have c6b1 : (a0_0 != a1_0) = true := bne_iff_ne.mpr c6
      (first | rw [c6b0] | (simp only [i64_w, i32_w]; rw [c6b0]) | skip)
      have H' := qM H
      clear H
      have hnb14 := NB649_650.out
      have hnc14 := NB650_649.out
      have hcz15_0 : w5.cell? ⟨gb649, 0, none⟩ = some (.int .i64 a0_0) := (qC BK649.out 0).trans rfl
      have hcz15_1 : w5.cell? ⟨gb649, 1, none⟩ = some (.slice A0_1 l0_1.length c0_1) := (qC BK649.out 1).trans rfl
      have hcz15_2 : w5.cell? ⟨gb649, 2, none⟩ = some (.int .i64 a0_2) := (qC BK649.out 2).trans rfl
      have hfz15_0 := qF BK649.out 0
      have hfz15_1 := qF BK649.out 1
      have hfz15_2 := qF BK649.out 2
      have hcz16_0 : w5.cell? ⟨gb650, 0, none⟩ = some (.int .i64 a1_0) := (qC BK650.out 0).trans rfl
      have hcz16_1 : w5.cell? ⟨gb650, 1, none⟩ = some (.slice A1_1 l1_1.length c1_1) := (qC BK650.out 1).trans rfl
      have hcz16_2 : w5.cell? ⟨gb650, 2, none⟩ = some (.int .i64 a1_2) := (qC BK650.out 2).trans rfl
      have hfz16_0 := qF BK650.out 0
      have hfz16_1 := qF BK650.out 1
      have hfz16_2 := qF BK650.out 2
      go_wp2
      repeat (go_quiet (fail); try go_wp2)
      go_meet
      case rel => exact ⟨_, (true), (by first | rfl | (simp; done) | (simp [*]; done)), H', ⟨by first | omega | exact Nat.le_refl _⟩, ⟨by (with_reducible repeat (first | apply qn | apply qd | apply qa)); exact BK649.out⟩, ⟨by (with_reducible repeat (first | apply qn | apply qd | apply qa)); exact BK650.out⟩, ⟨by repeat (first | (with_reducible first | exact HB.out | apply qA | apply qN | apply qD | refine qS ?_ GE649.out | refine qS ?_ GE650.out) | exact HB.out)⟩⟩
    rw [if_pos c6] at H
    have c6b0 : (a0_0 == a1_0) = true := beq_iff_eq.mpr c6
    have c6b1 : (a0_0 != a1_0) = false := bne_eq_false_iff_eq.mpr c6
    clear c6
    (first | rw [c6b0] | (simp only [i64_w, i32_w]; rw [c6b0]) | skip)
    by_cases c7 : a0_2 = a1_2
    rotate_left
    · rw [if_neg c7] at H
      have c7b0 : (a0_2 == a1_2) = false := beq_eq_false_iff_ne.mpr c7
      have c7b1 : (a0_2 != a1_2) = true := bne_iff_ne.mpr c7
      have H' := qM H
      clear H
      have hnb11 := NB649_650.out
      have hnc11 := NB650_649.out
      have hcz12_0 : w5.cell? ⟨gb649, 0, none⟩ = some (.int .i64 a0_0) := (qC BK649.out 0).trans rfl
      have hcz12_1 : w5.cell? ⟨gb649, 1, none⟩ = some (.slice A0_1 l0_1.length c0_1) := (qC BK649.out 1).trans rfl
      have hcz12_2 : w5.cell? ⟨gb649, 2, none⟩ = some (.int .i64 a0_2) := (qC BK649.out 2).trans rfl
      have hfz12_0 := qF BK649.out 0
      have hfz12_1 := qF BK649.out 1
      have hfz12_2 := qF BK649.out 2
      have hcz13_0 : w5.cell? ⟨gb650, 0, none⟩ = some (.int .i64 a1_0) := (qC BK650.out 0).trans rfl
      have hcz13_1 : w5.cell? ⟨gb650, 1, none⟩ = some (.slice A1_1 l1_1.length c1_1) := (qC BK650.out 1).trans rfl
      have hcz13_2 : w5.cell? ⟨gb650, 2, none⟩ = some (.int .i64 a1_2) := (qC BK650.out 2).trans rfl
      have hfz13_0 := qF BK650.out 0
      have hfz13_1 := qF BK650.out 1
      have hfz13_2 := qF BK650.out 2
      go_wp2
      repeat (go_quiet (fail); try go_wp2)
      go_meet
      case rel => exact ⟨_, (true), (by first | rfl | (simp; done) | (simp [*]; done)), H', ⟨by first | omega | exact Nat.le_refl _⟩, ⟨by (with_reducible repeat (first | apply qn | apply qd | apply qa)); exact BK649.out⟩, ⟨by (with_reducible repeat (first | apply qn | apply qd | apply qa)); exact BK650.out⟩, ⟨by repeat (first | (with_reducible first | exact HB.out | apply qA | apply qN | apply qD | refine qS ?_ GE649.out | refine qS ?_ GE650.out) | exact HB.out)⟩⟩
    rw [if_pos c7] at H
    have c7b0 : (a0_2 == a1_2) = true := beq_iff_eq.mpr c7
    have c7b1 : (a0_2 != a1_2) = false := bne_eq_false_iff_eq.mpr c7
    clear c7
    have H' := qM H
    clear H
    have hnb8 := NB649_650.out
    have hnc8 := NB650_649.out
    have hcz9_0 : w5.cell? ⟨gb649, 0, none⟩ = some (.int .i64 a0_0) := (qC BK649.out 0).trans rfl
    have hcz9_1 : w5.cell? ⟨gb649, 1, none⟩ = some (.slice A0_1 l0_1.length c0_1) := (qC BK649.out 1).trans rfl
    have hcz9_2 : w5.cell? ⟨gb649, 2, none⟩ = some (.int .i64 a0_2) := (qC BK649.out 2).trans rfl
    have hfz9_0 := qF BK649.out 0
    have hfz9_1 := qF BK649.out 1
    have hfz9_2 := qF BK649.out 2
    have hcz10_0 : w5.cell? ⟨gb650, 0, none⟩ = some (.int .i64 a1_0) := (qC BK650.out 0).trans rfl
    have hcz10_1 : w5.cell? ⟨gb650, 1, none⟩ = some (.slice A1_1 l1_1.length c1_1) := (qC BK650.out 1).trans rfl
    have hcz10_2 : w5.cell? ⟨gb650, 2, none⟩ = some (.int .i64 a1_2) := (qC BK650.out 2).trans rfl
    have hfz10_0 := qF BK650.out 0
    have hfz10_1 := qF BK650.out 1
    have hfz10_2 := qF BK650.out 2
    go_wp2
    repeat (go_quiet (fail); try go_wp2)
    go_meet
    case rel => exact ⟨_, (((l0_1.length : Int) != (l1_1.length : Int))), (by first | rfl | (simp; done) | (simp [*]; done)), H', ⟨by first | omega | exact Nat.le_refl _⟩, ⟨by (with_reducible repeat (first | apply qn | apply qd | apply qa)); exact BK649.out⟩, ⟨by (with_reducible repeat (first | apply qn | apply qd | apply qa)); exact BK650.out⟩, ⟨by repeat (first | (with_reducible first | exact HB.out | apply qA | apply qN | apply qD | refine qS ?_ GE649.out | refine qS ?_ GE650.out) | exact HB.out)⟩⟩
  case rest =>
    clear HC3
    try clear c1
    try clear p2
    try clear c6
    try clear c6b0
    try clear c6b1
    try clear c7
    try clear c7b0
    try clear c7b1
    try clear c8
    try clear c9
    try clear c11
    try clear c14
    try clear hcz10_0
    try clear hcz10_1
    try clear hcz10_2
    try clear hcz12_0
    try clear hcz12_1
    try clear hcz12_2
    try clear hcz13_0
    try clear hcz13_1
    try clear hcz13_2
    try clear hcz15_0
    try clear hcz15_1
    try clear hcz15_2
    try clear hcz16_0
    try clear hcz16_1
    try clear hcz16_2
    try clear hcz9_0
    try clear hcz9_1
    try clear hcz9_2
    try clear hfz10_0
    try clear hfz10_1
    try clear hfz10_2
    try clear hfz12_0
    try clear hfz12_1
    try clear hfz12_2
    try clear hfz13_0
    try clear hfz13_1
    try clear hfz13_2
    try clear hfz15_0
    try clear hfz15_1
    try clear hfz15_2
    try clear hfz16_0
    try clear hfz16_1
    try clear hfz16_2
    try clear hfz9_0
    try clear hfz9_1
    try clear hfz9_2
    obtain ⟨kq, x26_2, rfl, HA, HJ2, BK649, BK650, HB⟩ := hcut
    cases kq with
    | zero => exact absurd HA.out (by simp [spec_l5Same.j0])
    | succ kj2 =>
      have H := HA.out
      clear HA
      simp only [spec_l5Same.j0] at H
      by_cases c17 : x26_2 = true
      · subst c17
        have H1 : (some false) = some r := by rw [if_pos rfl] at H; exact H
        clear H
        have H := H1
        clear H1
        obtain rfl := jF H
        go_wp2
        repeat (go_quiet (fail); try go_wp2)
        go_ret
        exact ⟨by first | rfl | (simp [errW_none, errW_some] <;> rfl) | (simp [*, errW_none, errW_some] <;> rfl), by repeat (first | (with_reducible first | exact HB.out | apply qA | apply qN | apply qD | refine qS ?_ GE649.out | refine qS ?_ GE650.out) | exact HB.out)⟩
      replace c17 := Bool.eq_false_iff.mpr c17
      subst c17
      have H1 : (spec_l5Same.l0 kj2 0 a0_0 l0_1 a0_2 a1_0 l1_1 a1_2) = some r := by rw [if_neg (show ¬ (false = true) by decide)] at H; exact H
      clear H
      have H := H1
      clear H1
      have H' := qM H
      clear H
      go_wp2
      repeat (go_quiet (fail); try go_wp2)
      go_loopg [5] kj2 (fun kq v5 w' => ∃ (x5_2 : Int), v5 = .int .i64 x5_2 ∧ Aside0 (spec_l5Same.l0 kq x5_2 a0_0 l0_1 a0_2 a1_0 l1_1 a1_2 = some r) ∧ Aside0 (kq ≤ kj2) ∧ Aside0 (w'.heap[gb649]? = some (.cells #[.int .i64 a0_0, (.slice A0_1 l0_1.length c0_1), .int .i64 a0_2] 87 (0, 0))) ∧ Aside0 (w'.heap[gb650]? = some (.cells #[.int .i64 a1_0, (.slice A1_1 l1_1.length c1_1), .int .i64 a1_2] 87 (0, 0))) ∧ Aside0 (Below w.heap.size w w'))
      case atStart => exact ⟨(0), (by first | rfl | (simp; done) | (simp [*]; done)), H', ⟨Nat.le_refl _⟩, ⟨by (with_reducible repeat (first | apply qn | apply qd | apply qa)); exact BK649.out⟩, ⟨by (with_reducible repeat (first | apply qn | apply qd | apply qa)); exact BK650.out⟩, ⟨by repeat (first | (with_reducible first | exact HB.out | apply qA | apply qN | apply qD | refine qS ?_ GE649.out | refine qS ?_ GE650.out) | exact HB.out)⟩⟩
      case round =>
        clear H'
        try clear c1
        try clear p2
        try clear c6
        try clear c6b0
        try clear c6b1
        try clear c7
        try clear c7b0
        try clear c7b1
        try clear c8
        try clear c9
        try clear c11
        try clear c14
        try clear c17
        try clear hcz10_0
        try clear hcz10_1
        try clear hcz10_2
        try clear hcz12_0
        try clear hcz12_1
        try clear hcz12_2
        try clear hcz13_0
        try clear hcz13_1
        try clear hcz13_2
        try clear hcz15_0
        try clear hcz15_1
        try clear hcz15_2
        try clear hcz16_0
        try clear hcz16_1
        try clear hcz16_2
        try clear hcz9_0
        try clear hcz9_1
        try clear hcz9_2
        try clear hfz10_0
        try clear hfz10_1
        try clear hfz10_2
        try clear hfz12_0
        try clear hfz12_1
        try clear hfz12_2
        try clear hfz13_0
        try clear hfz13_1
        try clear hfz13_2
        try clear hfz15_0
        try clear hfz15_1
        try clear hfz15_2
        try clear hfz16_0
        try clear hfz16_1
        try clear hfz16_2
        try clear hfz9_0
        try clear hfz9_1
        try clear hfz9_2
        try clear p2
        obtain ⟨x5_2, rfl, HA, HK2, BK649, BK650, HB⟩ := hrel
        cases gk with
        | zero => exact absurd HA.out (by simp [spec_l5Same.l0])
        | succ k2 =>
          have H := HA.out
          clear HA
          simp only [spec_l5Same.l0] at H
          by_cases c18 : x5_2 < (l0_1.length : Int)
          rotate_left
          · rw [if_neg c18] at H
            have c18b0 : decide (x5_2 < (l0_1.length : Int)) = false := decide_eq_false c18
            clear c18
            obtain rfl := jF H
            have hnb28 := NB649_650.out
            have hnc28 := NB650_649.out
            have hcz29_0 : wr.cell? ⟨gb649, 0, none⟩ = some (.int .i64 a0_0) := (qC BK649.out 0).trans rfl
            have hcz29_1 : wr.cell? ⟨gb649, 1, none⟩ = some (.slice A0_1 l0_1.length c0_1) := (qC BK649.out 1).trans rfl
            have hcz29_2 : wr.cell? ⟨gb649, 2, none⟩ = some (.int .i64 a0_2) := (qC BK649.out 2).trans rfl
            have hfz29_0 := qF BK649.out 0
            have hfz29_1 := qF BK649.out 1
            have hfz29_2 := qF BK649.out 2
            go_wp2
            repeat (go_quiet (fail); try go_wp2)
            go_ret
            exact ⟨by first | rfl | (simp [errW_none, errW_some] <;> rfl) | (simp [*, errW_none, errW_some] <;> rfl), by repeat (first | (with_reducible first | exact HB.out | apply qA | apply qN | apply qD | refine qS ?_ GE649.out | refine qS ?_ GE650.out) | exact HB.out)⟩
          rw [if_pos c18] at H
          have c18b0 : decide (x5_2 < (l0_1.length : Int)) = true := decide_eq_true c18
          clear c18
          by_cases c19 : 0 ≤ x5_2
          rotate_left
          · rw [if_neg c19] at H
            exact absurd H (by simp)
          rw [if_pos c19] at H
          have c19b0 : decide (0 ≤ x5_2) = true := decide_eq_true c19
          clear c19
          by_cases c20 : x5_2 < (l1_1.length : Int)
          rotate_left
          · rw [if_neg c20] at H
            exact absurd H (by simp)
          rw [if_pos c20] at H
          have c20b0 : decide (x5_2 < (l1_1.length : Int)) = true := decide_eq_true c20
          clear c20
          by_cases c21 : (!(((rd_T117 l0_1 x5_2).f0) == ((rd_T117 l1_1 x5_2).f0)) || (!(((rd_T117 l0_1 x5_2).f1) == ((rd_T117 l1_1 x5_2).f1)))) = true
          · rw [if_pos c21] at H
            have c21b0 : (!(((rd_T117 l0_1 x5_2).f0) == ((rd_T117 l1_1 x5_2).f0)) || (!(((rd_T117 l0_1 x5_2).f1) == ((rd_T117 l1_1 x5_2).f1)))) = true := c21
            clear c21
            obtain rfl := jF H
            have hnb22 := NB649_650.out
            have hnc22 := NB650_649.out
            have hcz23_0 : wr.cell? ⟨gb649, 0, none⟩ = some (.int .i64 a0_0) := (qC BK649.out 0).trans rfl
            have hcz23_1 : wr.cell? ⟨gb649, 1, none⟩ = some (.slice A0_1 l0_1.length c0_1) := (qC BK649.out 1).trans rfl
            have hcz23_2 : wr.cell? ⟨gb649, 2, none⟩ = some (.int .i64 a0_2) := (qC BK649.out 2).trans rfl
            have hfz23_0 := qF BK649.out 0
            have hfz23_1 := qF BK649.out 1
            have hfz23_2 := qF BK649.out 2
            have p651 : 0 ≤ (x5_2 : Int) := qO (by first | (with_reducible assumption) | assumption)
            have q651 : x5_2 < (l0_1.length : Int) := qO (by first | (with_reducible assumption) | assumption)
            obtain ⟨ad651, e651, hx651_0, hx651_1⟩ := at_T117 HR0_1.out x5_2 p651 q651
            cases e651
            replace hx651_0 := (HB.out.cell (qL w _ hx651_0)).trans hx651_0
            replace hx651_1 := (HB.out.cell (qL w _ hx651_1)).trans hx651_1
            replace p651 := eq_true p651
            replace q651 := eq_true q651
            have hcz24_0 : wr.cell? ⟨gb650, 0, none⟩ = some (.int .i64 a1_0) := (qC BK650.out 0).trans rfl
            have hcz24_1 : wr.cell? ⟨gb650, 1, none⟩ = some (.slice A1_1 l1_1.length c1_1) := (qC BK650.out 1).trans rfl
            have hcz24_2 : wr.cell? ⟨gb650, 2, none⟩ = some (.int .i64 a1_2) := (qC BK650.out 2).trans rfl
            have hfz24_0 := qF BK650.out 0
            have hfz24_1 := qF BK650.out 1
            have hfz24_2 := qF BK650.out 2
            have p652 : 0 ≤ (x5_2 : Int) := qO (by first | (with_reducible assumption) | assumption)
            have q652 : x5_2 < (l1_1.length : Int) := qO (by first | (with_reducible assumption) | assumption)
            obtain ⟨ad652, e652, hx652_0, hx652_1⟩ := at_T117 HR1_1.out x5_2 p652 q652
            cases e652
            replace hx652_0 := (HB.out.cell (qL w _ hx652_0)).trans hx652_0
            replace hx652_1 := (HB.out.cell (qL w _ hx652_1)).trans hx652_1
            replace p652 := eq_true p652
            replace q652 := eq_true q652
            go_wp2
            repeat (go_quiet (fail); try go_wp2)
            go_ret
            exact ⟨by first | rfl | (simp [errW_none, errW_some] <;> rfl) | (simp [*, errW_none, errW_some] <;> rfl), by repeat (first | (with_reducible first | exact HB.out | apply qA | apply qN | apply qD | refine qS ?_ GE649.out | refine qS ?_ GE650.out) | exact HB.out)⟩
          rw [if_neg c21] at H
          have c21b0 : (!(((rd_T117 l0_1 x5_2).f0) == ((rd_T117 l1_1 x5_2).f0)) || (!(((rd_T117 l0_1 x5_2).f1) == ((rd_T117 l1_1 x5_2).f1)))) = false := by simpa using c21
          clear c21
          have H' := qM H
          clear H
          have hnb25 := NB649_650.out
          have hnc25 := NB650_649.out
          have hcz26_0 : wr.cell? ⟨gb649, 0, none⟩ = some (.int .i64 a0_0) := (qC BK649.out 0).trans rfl
          have hcz26_1 : wr.cell? ⟨gb649, 1, none⟩ = some (.slice A0_1 l0_1.length c0_1) := (qC BK649.out 1).trans rfl
          have hcz26_2 : wr.cell? ⟨gb649, 2, none⟩ = some (.int .i64 a0_2) := (qC BK649.out 2).trans rfl
          have hfz26_0 := qF BK649.out 0
          have hfz26_1 := qF BK649.out 1
          have hfz26_2 := qF BK649.out 2
          have p651 : 0 ≤ (x5_2 : Int) := qO (by first | (with_reducible assumption) | assumption)
          have q651 : x5_2 < (l0_1.length : Int) := qO (by first | (with_reducible assumption) | assumption)
          obtain ⟨ad651, e651, hx651_0, hx651_1⟩ := at_T117 HR0_1.out x5_2 p651 q651
          cases e651
          replace hx651_0 := (HB.out.cell (qL w _ hx651_0)).trans hx651_0
          replace hx651_1 := (HB.out.cell (qL w _ hx651_1)).trans hx651_1
          replace p651 := eq_true p651
          replace q651 := eq_true q651
          have hcz27_0 : wr.cell? ⟨gb650, 0, none⟩ = some (.int .i64 a1_0) := (qC BK650.out 0).trans rfl
          have hcz27_1 : wr.cell? ⟨gb650, 1, none⟩ = some (.slice A1_1 l1_1.length c1_1) := (qC BK650.out 1).trans rfl
          have hcz27_2 : wr.cell? ⟨gb650, 2, none⟩ = some (.int .i64 a1_2) := (qC BK650.out 2).trans rfl
          have hfz27_0 := qF BK650.out 0
          have hfz27_1 := qF BK650.out 1
          have hfz27_2 := qF BK650.out 2
          have p652 : 0 ≤ (x5_2 : Int) := qO (by first | (with_reducible assumption) | assumption)
          have q652 : x5_2 < (l1_1.length : Int) := qO (by first | (with_reducible assumption) | assumption)
          obtain ⟨ad652, e652, hx652_0, hx652_1⟩ := at_T117 HR1_1.out x5_2 p652 q652
          cases e652
          replace hx652_0 := (HB.out.cell (qL w _ hx652_0)).trans hx652_0
          replace hx652_1 := (HB.out.cell (qL w _ hx652_1)).trans hx652_1
          replace p652 := eq_true p652
          replace q652 := eq_true q652
          go_wp2
          repeat (go_quiet (fail); try go_wp2)
          go_roundg k2
          case measure => have := HJ2.out; have := HK2.out; omega
          case rel => exact ⟨(wrap64 (x5_2 + 1)), (by first | rfl | (simp; done) | (simp [*]; done)), H', ⟨by have := HJ2.out; have := HK2.out; omega⟩, ⟨by (with_reducible repeat (first | apply qn | apply qd | apply qa)); exact BK649.out⟩, ⟨by (with_reducible repeat (first | apply qn | apply qd | apply qa)); exact BK650.out⟩, ⟨by repeat (first | (with_reducible first | exact HB.out | apply qA | apply qN | apply qD | refine qS ?_ GE649.out | refine qS ?_ GE650.out) | exact HB.out)⟩⟩
def spec_l5Of.f (k : Nat) (a0 : Int) (a1_0 : Int) (a1_1 : Int) (l1_2 : List (S30)) (l2 : List Int) : Option (Int × (List (S117)) × Int) := (spec_l2Run.f k a1_0 a1_1 l1_2 l2).bind fun bt655 => ((spec_l5Once.f k bt655.2).bind fun t659 => (some (a0, t659, bt655.1)))
theorem spec_l5Of.calls (k : Nat) (a0 : Int) (a1_0 : Int) (a1_1 : Int) (A1_2 : Option Addr) (c1_2 : Nat) (l1_2 : List (S30)) (A2 : Option Addr) (c2 : Nat) (l2 : List Int) (r1 : Int) (r2 : List (S117)) (r3 : Int) (w : World) (hr1_2 : Kd.C k30 w A1_2 l1_2.length l1_2) (hc1_2 : l1_2.length ≤ c1_2) (hr2 : Kd.C (Kd.int .i64) w A2 l2.length l2) (hc2 : l2.length ≤ c2) (h : spec_l5Of.f k a0 a1_0 a1_1 l1_2 l2 = some (r1, r2, r3)) :
    Calls Try.prog 97 #[.int .i64 a0, .agg #[.int .i64 a1_0, .int .i64 a1_1, .slice A1_2 l1_2.length c1_2], .slice A2 l2.length c2] w fun e w' => ∃ v1_ : Value, e = .returned (.agg #[.int .i64 r1, v1_, .int .i64 r3]) ∧ Kd.R k117 117 w' w.heap.size (fun _ => True) v1_ r2 ∧ Below w.heap.size w w' := by
  have hu30 := Try.underlying30
  have hu87 := Try.underlying87
  have HR1_2 := qM hr1_2
  have HC1_2 := qM hc1_2
  clear hr1_2 hc1_2
  have HR2 := qM hr2
  have HC2 := qM hc2
  clear hr2 hc2
  have HB := qM (Below.refl w.heap.size w)
  have H : ((spec_l2Run.f k a1_0 a1_1 l1_2 l2).bind fun bt655 => ((spec_l5Once.f k bt655.2).bind fun t659 => (some (a0, t659, bt655.1)))) = some (r1, r2, r3) := h
  clear h
  replace H := jG H
  obtain ⟨⟨t655, t656⟩, A40, H⟩ := H
  replace H : ((spec_l5Once.f k t656).bind fun t659 => (some (a0, t659, t655))) = some (r1, r2, r3) := H
  have A4 := qM A40
  clear A40
  replace H := jG H
  obtain ⟨t659, A50, H⟩ := H
  replace H : (some (a0, t659, t655)) = some (r1, r2, r3) := H
  have A5 := qM A50
  clear A50
  simp only [Option.some.injEq, Prod.mk.injEq] at H
  obtain ⟨rfl, rfl, rfl⟩ := H
  go_enter Try.func97, Try.ntmps97
  go_wp2_with (first | ((with_reducible refine gate_dst (N := 4) rfl ?_); refine box_event ?hg (N := 4) ?hd (cs := #[.int .i64 a1_0, .int .i64 a1_1, .slice A1_2 l1_2.length c1_2]) (t := 30) ?hr ?_; (case hd => rfl); (case hg => rfl); (case hr => first | (go_simp; done) | (go_simp; rfl)); intro gb653 hg w6 hbox hb; have n0_ := qM (qs (by repeat (first | (with_reducible first | exact HB.out | apply qA | apply qN | apply qD) | exact HB.out)) hb); have n1_ := qM (hbox); have n2_ := qM ((by rw [hg]; exact (qz (by repeat (first | (with_reducible first | exact HB.out | apply qA | apply qN | apply qD) | exact HB.out))) : w.heap.size ≤ gb653)); have n3_ := qM ((by rw [hg]; exact (qz (by repeat (first | (with_reducible first | exact HB.out | apply qA | apply qN | apply qD) | exact HB.out))) : w.heap.size ≤ gb653)); clear HB; have HB := n0_; have BK653 := n1_; have GW653 := n2_; have GE653 := n3_; clear n0_ n1_ n2_ n3_; clear hb hbox hg) | ((with_reducible refine gate_dst (N := 6) rfl ?_); refine box_event ?hg (N := 6) ?hd (cs := #[.int .i64 0, .slice none 0 0, .int .i64 0]) (t := 87) ?hr ?_; (case hd => rfl); (case hg => rfl); (case hr => first | (go_simp; done) | (go_simp; rfl)); intro gb654 hg w7 hbox hb; have n0_ := qM (blk_below (g := gb653) (o := .cells #[.int .i64 a1_0, .int .i64 a1_1, .slice A1_2 l1_2.length c1_2] 30 (0, 0)) (by (with_reducible repeat (first | apply qn | apply qd | apply qa)); exact BK653.out) hb); have n1_ := qM (qs (by repeat (first | (with_reducible first | exact HB.out | apply qA | apply qN | apply qD | refine qS ?_ GE653.out) | exact HB.out)) hb); have n2_ := qM (hbox); have n3_ := qM ((by rw [hg]; exact (qz (by repeat (first | (with_reducible first | exact HB.out | apply qA | apply qN | apply qD | refine qS ?_ GE653.out) | exact HB.out))) : w.heap.size ≤ gb654)); have n4_ := qM ((by rw [hg]; exact (qz (by repeat (first | (with_reducible first | exact HB.out | apply qA | apply qN | apply qD | refine qS ?_ GE653.out) | exact HB.out))) : w.heap.size ≤ gb654)); have n5_ := qM ((by rw [hg]; exact Nat.ne_of_lt (blk_lt (g := gb653) (o := .cells #[.int .i64 a1_0, .int .i64 a1_1, .slice A1_2 l1_2.length c1_2] 30 (0, 0)) (by (with_reducible repeat (first | apply qn | apply qd | apply qa)); exact BK653.out)) : gb653 ≠ gb654)); have n6_ := qM ((by rw [hg]; exact Nat.ne_of_gt (blk_lt (g := gb653) (o := .cells #[.int .i64 a1_0, .int .i64 a1_1, .slice A1_2 l1_2.length c1_2] 30 (0, 0)) (by (with_reducible repeat (first | apply qn | apply qd | apply qa)); exact BK653.out)) : gb654 ≠ gb653)); clear BK653; clear HB; have BK653 := n0_; have HB := n1_; have BK654 := n2_; have GW654 := n3_; have GE654 := n4_; have NB653_654 := n5_; have NB654_653 := n6_; clear n0_ n1_ n2_ n3_ n4_ n5_ n6_; clear hb hbox hg; have hnb8 := NB653_654.out; have hnc8 := NB654_653.out; have hcz9_0 : w7.cell? ⟨gb653, 0, none⟩ = some (.int .i64 a1_0) := (qC BK653.out 0).trans rfl; have hcz9_1 : w7.cell? ⟨gb653, 1, none⟩ = some (.int .i64 a1_1) := (qC BK653.out 1).trans rfl; have hcz9_2 : w7.cell? ⟨gb653, 2, none⟩ = some (.slice A1_2 l1_2.length c1_2) := (qC BK653.out 2).trans rfl; have hfz9_0 := qF BK653.out 0; have hfz9_1 := qF BK653.out 1; have hfz9_2 := qF BK653.out 2) | ((with_reducible refine gate_callee (f := 141) rfl ?_); refine goesL_ (some 12) rfl rfl Try.func141 (by kernel_rfl) rfl #[.agg #[.int .i64 a1_0, .int .i64 a1_1, .slice A1_2 l1_2.length c1_2], .slice A2 l2.length c2] rfl (by (try simp only [jC, jD, jE]); first | done | rfl | (simp only [jB, jA]; rfl)) ?_; (with_reducible refine (spec_l2Run.calls k a1_0 a1_1 _ _ l1_2 _ _ l2 t655 t656 _ ?side1 ?side2 ?side3 ?side4 A4.out).mono ?_); (case side1 => repeat (first | exact (qB HR1_2.out HB.out) | (with_reducible refine qc ?_ _) | (with_reducible refine qe ?_ _) | (with_reducible refine qf ?_))); (case side2 => exact HC1_2.out); (case side3 => repeat (first | exact (qB HR2.out HB.out) | (with_reducible refine qc ?_ _) | (with_reducible refine qe ?_ _) | (with_reducible refine qf ?_))); (case side4 => exact HC2.out); rintro e w10 ⟨v657, rfl, ho0, hb⟩; refine ⟨_, rfl, ?_⟩; have n0_ := qM (Kd.R_lower ho0 (qz (by repeat (first | (with_reducible first | exact HB.out | apply qA | apply qN | apply qD | refine qS ?_ GE653.out | refine qS ?_ GE654.out) | exact HB.out)))); have n1_ := qM (blk_below (g := gb653) (o := .cells #[.int .i64 a1_0, .int .i64 a1_1, .slice A1_2 l1_2.length c1_2] 30 (0, 0)) (by (with_reducible repeat (first | apply qn | apply qd | apply qa)); exact BK653.out) hb); have n2_ := qM (blk_below (g := gb654) (o := .cells #[.int .i64 0, .slice none 0 0, .int .i64 0] 87 (0, 0)) (by (with_reducible repeat (first | apply qn | apply qd | apply qa)); exact BK654.out) hb); have n3_ := qM (qs (by repeat (first | (with_reducible first | exact HB.out | apply qA | apply qN | apply qD | refine qS ?_ GE653.out | refine qS ?_ GE654.out) | exact HB.out)) hb); clear BK653; clear BK654; clear HB; have HO658 := n0_; have BK653 := n1_; have BK654 := n2_; have HB := n3_; clear n0_ n1_ n2_ n3_; (try clear hb); (try clear hb2); (try clear hk); (try clear hi); (try clear ho0); obtain ⟨Ao11, co11, eo11⟩ := Kd.R_slice HO658.out; subst eo11) | ((with_reducible refine gate_callee (f := 147) rfl ?_); refine goesL_ (some 17) rfl rfl Try.func147 (by kernel_rfl) rfl #[.slice Ao11 t656.length co11] rfl (by (try simp only [jC, jD, jE]); first | done | rfl | (simp only [jB, jA]; rfl)) ?_; (with_reducible refine (spec_l5Once.calls k _ _ t656 t659 _ ?side1 ?side2 A5.out).mono ?_); (case side1 => repeat (first | exact (Kd.R_reads' HO658.out).2.2 | (with_reducible refine qc ?_ _) | (with_reducible refine qe ?_ _) | (with_reducible refine qf ?_))); (case side2 => exact (Kd.R_reads' HO658.out).2.1); rintro e w12 ⟨v660, rfl, ho0, hb⟩; refine ⟨_, rfl, ?_⟩; have n0_ := qM (Kd.R_elder' (by (with_reducible repeat (first | apply Kd.R_alloc | apply Kd.R_drewN | apply Kd.R_drew)); exact HO658.out) (Kd.R_base ho0) hb); have n1_ := qM (Kd.R_lower (Kd.R_new' ho0 (Kd.R_lt (by (with_reducible repeat (first | apply Kd.R_alloc | apply Kd.R_drewN | apply Kd.R_drew)); exact HO658.out))) (qz (by repeat (first | (with_reducible first | exact HB.out | apply qA | apply qN | apply qD | refine qS ?_ GE653.out | refine qS ?_ GE654.out) | exact HB.out)))); have n2_ := qM (blk_below (g := gb653) (o := .cells #[.int .i64 a1_0, .int .i64 a1_1, .slice A1_2 l1_2.length c1_2] 30 (0, 0)) (by (with_reducible repeat (first | apply qn | apply qd | apply qa)); exact BK653.out) hb); have n3_ := qM (blk_below (g := gb654) (o := .cells #[.int .i64 0, .slice none 0 0, .int .i64 0] 87 (0, 0)) (by (with_reducible repeat (first | apply qn | apply qd | apply qa)); exact BK654.out) hb); have n4_ := qM (qs (by repeat (first | (with_reducible first | exact HB.out | apply qA | apply qN | apply qD | refine qS ?_ GE653.out | refine qS ?_ GE654.out) | exact HB.out)) hb); clear HO658; clear BK653; clear BK654; clear HB; have HO658 := n0_; have HO661 := n1_; have BK653 := n2_; have BK654 := n3_; have HB := n4_; clear n0_ n1_ n2_ n3_ n4_; (try clear hb); (try clear hb2); (try clear hk); (try clear hi); (try clear ho0); obtain ⟨Ao13, co13, eo13⟩ := Kd.R_slice HO661.out; subst eo13; have hcz14_0 : w12.cell? ⟨gb654, 0, none⟩ = some (.int .i64 0) := (qC BK654.out 0).trans rfl; have hcz14_1 : w12.cell? ⟨gb654, 1, none⟩ = some (.slice none 0 0) := (qC BK654.out 1).trans rfl; have hcz14_2 : w12.cell? ⟨gb654, 2, none⟩ = some (.int .i64 0) := (qC BK654.out 2).trans rfl; have hfz14_0 := qF BK654.out 0; have hfz14_1 := qF BK654.out 1; have hfz14_2 := qF BK654.out 2))
  refine bodyPost_ret (results_cell_row rfl _ _ gb654 87 #[.int .i64 a0, .slice Ao13 t659.length co13, .int .i64 t655] (0, 0) _ rfl (by (with_reducible repeat (first | apply qn | apply qd | apply qa)); refine blk_put (cs := #[.int .i64 a0, .slice Ao13 t659.length co13, .int .i64 0]) ?_ 2 _ rfl; (with_reducible repeat (first | apply qn | apply qd | apply qa)); refine blk_put (cs := #[.int .i64 a0, .slice none 0 0, .int .i64 0]) ?_ 1 _ rfl; (with_reducible repeat (first | apply qn | apply qd | apply qa)); refine blk_put (cs := #[.int .i64 0, .slice none 0 0, .int .i64 0]) ?_ 0 _ rfl; (with_reducible repeat (first | apply qn | apply qd | apply qa)); exact BK654.out) Try.underlying87 rfl (by kernel_rfl)) rfl ?_
  exact ⟨_, by first | rfl | (simp [errW_none, errW_some] <;> rfl) | (simp [*, errW_none, errW_some] <;> rfl), by (with_reducible repeat (first | apply Kd.R_alloc | apply Kd.R_drewN | apply Kd.R_drew)); exact Kd.R_mono (Kd.R_far (p := ⟨gb654, 2, none⟩) (Kd.R_far (p := ⟨gb654, 1, none⟩) (Kd.R_far (p := ⟨gb654, 0, none⟩) (Kd.R_types HO661.out BK654.out (by decide)) (fun _ hk => hk.2) (.int .i64 a0)) (fun _ hk => hk.2) (.slice Ao13 t659.length co13)) (fun _ hk => hk.2) (.int .i64 t655)) (fun _ hk => trivial), by repeat (first | (with_reducible first | exact HB.out | apply qA | apply qN | apply qD | refine qS ?_ GE653.out | refine qS ?_ GE654.out) | exact HB.out)⟩
def spec_l5Back.l0 : Nat → List Int → Int → Int → List (S117) → Int → Option (List Int)
  | 0, _, _, _, _, _ => none
  | k + 1, x3, x4, x663000, x663001, x663002 => if x4 < (x663001.length : Int) then (if 0 ≤ x4 then (if 0 ≤ ((rd_T117 x663001 x4).f0) then (if ((rd_T117 x663001 x4).f0) < (x3.length : Int) then (spec_l5Back.l0 k (x3.set (((rd_T117 x663001 x4).f0) : Int).toNat ((rd_T117 x663001 x4).f1)) (wrap64 (x4 + 1)) x663000 x663001 x663002) else (none)) else (none)) else (none)) else (some x3)
def spec_l5Back.f (k : Nat) (a0_0 : Int) (l0_1 : List (S117)) (a0_2 : Int) : Option (List Int) := if 10 ≤ 35184372088832 then (spec_l5Back.l0 k (List.replicate 10 0) 0 a0_0 l0_1 a0_2) else (none)
def spec_l5Back.T5 : Bool × List (List Nat × List Nat) := (true, [([], []), ([], []), ([1], [1]), ([], []), ([2, 3], [2, 3]), ([4], [4]), ([5], [5]), ([], []), ([7], [7]), ([], []), ([8, 9], [8, 9]), ([10], [10]), ([11], [11]), ([0, 6, 0, 1, 2, 3, 4, 5, 6, 7, 8, 9, 10, 11, 12], [0, 6]), ([13, 12, 0, 1, 2, 3, 4, 5, 6, 7, 8, 9, 10, 11, 12], [12, 13])])
def spec_l5Back.B5 : List Nat := [0, 0, 2, 0, 14, 30, 62, 0, 128, 0, 896, 1920, 3968, 8191, 16383]
theorem spec_l5Back.tab5 : rtab .any (opsOf Try.f98 5) = spec_l5Back.T5 := by kernel_rfl
theorem spec_l5Back.bits5 : waitsOk spec_l5Back.T5.2 spec_l5Back.B5 = true := by kernel_rfl
theorem spec_l5Back.calls (k : Nat) (a0_0 : Int) (A0_1 : Option Addr) (c0_1 : Nat) (l0_1 : List (S117)) (a0_2 : Int) (r : List Int) (w : World) (hr0_1 : Kd.C k117 w A0_1 l0_1.length l0_1) (hc0_1 : l0_1.length ≤ c0_1) (h : spec_l5Back.f k a0_0 l0_1 a0_2 = some r) :
    Calls Try.prog 98 #[.agg #[.int .i64 a0_0, .slice A0_1 l0_1.length c0_1, .int .i64 a0_2]] w fun e w' => ∃ v0_ : Value, e = .returned (v0_) ∧ Kd.R (Kd.int .i64) 3 w' w.heap.size (fun _ => True) v0_ r ∧ Below w.heap.size w w' := by
  have hu87 := Try.underlying87
  have HR0_1 := qM hr0_1
  have HC0_1 := qM hc0_1
  clear hr0_1 hc0_1
  have HB := qM (Below.refl w.heap.size w)
  have H : (if 10 ≤ 35184372088832 then (spec_l5Back.l0 k (List.replicate 10 0) 0 a0_0 l0_1 a0_2) else (none)) = some r := h
  clear h
  by_cases c2 : 10 ≤ 35184372088832
  rotate_left
  · rw [if_neg c2] at H
    exact absurd H (by simp)
  rw [if_pos c2] at H
  have c2b0 := eq_true c2
  have c2b1 : decide (10 ≤ 35184372088832) = true := decide_eq_true c2
  clear c2
  obtain ⟨y663, hy663⟩ : ∃ y_ : List Int, y_ = (List.replicate 10 0) := ⟨_, rfl⟩
  replace H : (spec_l5Back.l0 k y663 0 a0_0 l0_1 a0_2) = some r := by first | (rw [hy663]; with_reducible exact H) | (have H2_ := (Option.bind_some _ _).symm.trans H; rw [hy663]; with_reducible exact H2_) | (have H2_ := (Option.bind_some _ _).symm.trans H; with_reducible exact H2_) | with_reducible exact H | (rw [hy663]; exact H) | exact H
  have Ny663 := qM hy663
  clear hy663
  have H' := qM H
  clear H
  go_enter Try.func98, Try.ntmps98
  go_wp2_with (first | ((with_reducible refine gate_dst (N := 1) rfl ?_); refine box_event ?hg (N := 1) ?hd (cs := #[.int .i64 a0_0, .slice A0_1 l0_1.length c0_1, .int .i64 a0_2]) (t := 87) ?hr ?_; (case hd => rfl); (case hg => rfl); (case hr => first | (go_simp; done) | (go_simp; rfl)); intro gb662 hg w3 hbox hb; have n0_ := qM (qs (by repeat (first | (with_reducible first | exact HB.out | apply qA | apply qN | apply qD) | exact HB.out)) hb); have n1_ := qM (hbox); have n2_ := qM ((by rw [hg]; exact (qz (by repeat (first | (with_reducible first | exact HB.out | apply qA | apply qN | apply qD) | exact HB.out))) : w.heap.size ≤ gb662)); have n3_ := qM ((by rw [hg]; exact (qz (by repeat (first | (with_reducible first | exact HB.out | apply qA | apply qN | apply qD) | exact HB.out))) : w.heap.size ≤ gb662)); clear HB; have HB := n0_; have BK662 := n1_; have GW662 := n2_; have GE662 := n3_; clear n0_ n1_ n2_ n3_; clear hb hbox hg) | ((with_reducible refine gate_dst (N := 5) rfl ?_); refine Kd.R_make (Kd.int .i64) _ 3 rfl (N := 5) rfl 26 _ _ rfl 10 rfl rfl Try.underlying26 (.int .i64 0) 8 info3 rfl (by decide) (by omega) 0 (ok := fun _ => True) (okp := fun _ => True) rfl (fun _ hk => hk) trivial (by omega) (by omega) (Below.refl _ _) (Nat.le_refl _) ?_; intro v664 w4 ho5 hb hg_ hnew_; clear hg_ hnew_; (first | rw [← Ny663.out] at ho5 | (simp only [Int.reduceToNat] at ho5; rw [← Ny663.out] at ho5)); have n0_ := qM (Kd.R_lower ho5 (qz (by repeat (first | (with_reducible first | exact HB.out | apply qA | apply qN | apply qD | refine qS ?_ GE662.out) | exact HB.out)))); have n1_ := qM (blk_below (g := gb662) (o := .cells #[.int .i64 a0_0, .slice A0_1 l0_1.length c0_1, .int .i64 a0_2] 87 (0, 0)) (by (with_reducible repeat (first | apply qn | apply qd | apply qa)); exact BK662.out) hb); have n2_ := qM (qs (by repeat (first | (with_reducible first | exact HB.out | apply qA | apply qN | apply qD | refine qS ?_ GE662.out) | exact HB.out)) hb); clear BK662; clear HB; have HO665 := n0_; have BK662 := n1_; have HB := n2_; clear n0_ n1_ n2_; clear hb ho5))
  go_loopg [4] k (fun kq v4 w' => ∃ (x3_1 : List Int) (x4_1 : Int), v4 = .int .i64 x4_1 ∧ Aside0 (spec_l5Back.l0 kq x3_1 x4_1 a0_0 l0_1 a0_2 = some r) ∧ Aside0 (kq ≤ k) ∧ Aside0 (Kd.R (Kd.int .i64) 3 w' w.heap.size (fun _ => True) v664 x3_1) ∧ Aside0 (w'.heap[gb662]? = some (.cells #[.int .i64 a0_0, (.slice A0_1 l0_1.length c0_1), .int .i64 a0_2] 87 (0, 0))) ∧ Aside0 (Below w.heap.size w w'))
  case atStart => exact ⟨(y663), (0), (by first | rfl | (simp; done) | (simp [*]; done)), H', ⟨Nat.le_refl _⟩, ⟨by (with_reducible repeat (first | apply Kd.R_alloc | apply Kd.R_drewN | apply Kd.R_drew)); exact HO665.out⟩, ⟨by (with_reducible repeat (first | apply qn | apply qd | apply qa)); exact BK662.out⟩, ⟨by repeat (first | (with_reducible first | exact HB.out | apply qA | apply qN | apply qD | refine qS ?_ GE662.out) | exact HB.out)⟩⟩
  case round =>
    clear H'
    try clear c2
    try clear c2b0
    try clear c2b1
    try clear p2
    obtain ⟨x3_1, x4_1, rfl, HA, HK1, HO_3, BK662, HB⟩ := hrel
    cases gk with
    | zero => exact absurd HA.out (by simp [spec_l5Back.l0])
    | succ k1 =>
      have H := HA.out
      clear HA
      simp only [spec_l5Back.l0] at H
      by_cases c6 : x4_1 < (l0_1.length : Int)
      rotate_left
      · rw [if_neg c6] at H
        have c6b0 : decide (x4_1 < (l0_1.length : Int)) = false := decide_eq_false c6
        clear c6
        obtain rfl := jF H
        have hcz14_0 : wr.cell? ⟨gb662, 0, none⟩ = some (.int .i64 a0_0) := (qC BK662.out 0).trans rfl
        have hcz14_1 : wr.cell? ⟨gb662, 1, none⟩ = some (.slice A0_1 l0_1.length c0_1) := (qC BK662.out 1).trans rfl
        have hcz14_2 : wr.cell? ⟨gb662, 2, none⟩ = some (.int .i64 a0_2) := (qC BK662.out 2).trans rfl
        have hfz14_0 := qF BK662.out 0
        have hfz14_1 := qF BK662.out 1
        have hfz14_2 := qF BK662.out 2
        go_wp2
        go_ret
        exact ⟨_, by first | rfl | (simp [errW_none, errW_some] <;> rfl) | (simp [*, errW_none, errW_some] <;> rfl), by (with_reducible repeat (first | apply Kd.R_alloc | apply Kd.R_drewN | apply Kd.R_drew)); exact HO_3.out, by repeat (first | (with_reducible first | exact HB.out | apply qA | apply qN | apply qD | refine qS ?_ GE662.out) | exact HB.out)⟩
      rw [if_pos c6] at H
      have c6b0 : decide (x4_1 < (l0_1.length : Int)) = true := decide_eq_true c6
      clear c6
      by_cases c7 : 0 ≤ x4_1
      rotate_left
      · rw [if_neg c7] at H
        exact absurd H (by simp)
      rw [if_pos c7] at H
      have c7b0 : decide (0 ≤ x4_1) = true := decide_eq_true c7
      clear c7
      by_cases c8 : 0 ≤ ((rd_T117 l0_1 x4_1).f0)
      rotate_left
      · rw [if_neg c8] at H
        exact absurd H (by simp)
      rw [if_pos c8] at H
      have c8b0 : decide (0 ≤ ((rd_T117 l0_1 x4_1).f0)) = true := decide_eq_true c8
      clear c8
      by_cases c9 : ((rd_T117 l0_1 x4_1).f0) < (x3_1.length : Int)
      rotate_left
      · rw [if_neg c9] at H
        exact absurd H (by simp)
      rw [if_pos c9] at H
      have c9b0 : decide (((rd_T117 l0_1 x4_1).f0) < (x3_1.length : Int)) = true := decide_eq_true c9
      clear c9
      obtain ⟨y668, hy668⟩ : ∃ y_ : List Int, y_ = (x3_1.set (((rd_T117 l0_1 x4_1).f0) : Int).toNat ((rd_T117 l0_1 x4_1).f1)) := ⟨_, rfl⟩
      replace H : (spec_l5Back.l0 k1 y668 (wrap64 (x4_1 + 1)) a0_0 l0_1 a0_2) = some r := by first | (rw [hy668]; with_reducible exact H) | (have H2_ := (Option.bind_some _ _).symm.trans H; rw [hy668]; with_reducible exact H2_) | (have H2_ := (Option.bind_some _ _).symm.trans H; with_reducible exact H2_) | with_reducible exact H | (rw [hy668]; exact H) | exact H
      have Ny668 := qM hy668
      clear hy668
      have H' := qM H
      clear H
      have hcz11_0 : wr.cell? ⟨gb662, 0, none⟩ = some (.int .i64 a0_0) := (qC BK662.out 0).trans rfl
      have hcz11_1 : wr.cell? ⟨gb662, 1, none⟩ = some (.slice A0_1 l0_1.length c0_1) := (qC BK662.out 1).trans rfl
      have hcz11_2 : wr.cell? ⟨gb662, 2, none⟩ = some (.int .i64 a0_2) := (qC BK662.out 2).trans rfl
      have hfz11_0 := qF BK662.out 0
      have hfz11_1 := qF BK662.out 1
      have hfz11_2 := qF BK662.out 2
      try go_wp2
      have n0_ := qM (Kd.R_drew HO_3.out)
      have n1_ := qM (qd BK662.out)
      have n2_ := qM (qD HB.out)
      clear HO_3
      clear BK662
      clear HB
      have HO_3 := n0_
      have BK662 := n1_
      have HB := n2_
      clear n0_ n1_ n2_
      have p666 : 0 ≤ (x4_1 : Int) := qO (by first | (with_reducible assumption) | assumption)
      have q666 : x4_1 < (l0_1.length : Int) := qO (by first | (with_reducible assumption) | assumption)
      obtain ⟨ad666, e666, hx666_0, hx666_1⟩ := at_T117 HR0_1.out x4_1 p666 q666
      have hw666_1 := hx666_1
      have hw666_0 := hx666_0
      cases e666
      replace hx666_0 := (HB.out.cell (qL w _ hx666_0)).trans hx666_0
      replace hx666_1 := (HB.out.cell (qL w _ hx666_1)).trans hx666_1
      replace p666 := eq_true p666
      replace q666 := eq_true q666
      have p667 : 0 ≤ (x4_1 : Int) := qO (by first | (with_reducible assumption) | assumption)
      have q667 : x4_1 < (l0_1.length : Int) := qO (by first | (with_reducible assumption) | assumption)
      obtain ⟨ad667, e667, hx667_0, hx667_1⟩ := at_T117 HR0_1.out x4_1 p667 q667
      have hw667_1 := hx667_1
      have hw667_0 := hx667_0
      obtain rfl : ad666 = ad667 := (by injection e667)
      replace hx667_0 := (HB.out.cell (qL w _ hx667_0)).trans hx667_0
      replace hx667_1 := (HB.out.cell (qL w _ hx667_1)).trans hx667_1
      replace p667 := eq_true p667
      replace q667 := eq_true q667
      have p10 : 0 ≤ (((rd_T117 l0_1 x4_1).f0) : Int) := qO (by first | (with_reducible assumption) | assumption)
      have q10 : (((rd_T117 l0_1 x4_1).f0) : Int) < ((x3_1.length : Int) : Int) := qO (by first | (with_reducible assumption) | assumption)
      obtain ⟨go10, co10, eo10, gb10, gl10, cl10, HG10⟩ := Kd.R_form HO_3.out (by omega)
      (first | cases eo10 | (injection eo10 with ea_ en_ ec_; (first | subst ea_ | (injection ea_ with ea_; subst ea_)); subst ec_; clear en_))
      have GB10 := qM gb10
      have GG10 := qM HG10
      clear gb10 gl10 HG10
      obtain ⟨hx10_0, hf10_0⟩ := Kd.R_celln 0 HO_3.out (((rd_T117 l0_1 x4_1).f0) : Int) p10 q10
      replace p10 := eq_true p10
      replace q10 := eq_true q10
      have HP13 := Kd.R_putn HO_3.out (((rd_T117 l0_1 x4_1).f0) : Int) ((rd_T117 l0_1 x4_1).f1)
      rw [← Ny668.out] at HP13
      have HQ13 := qM HP13
      clear HP13
      refine start_ (n := 15) (S := fun w' => w'.cell? ⟨gb662, 0, none⟩ = some (.int .i64 a0_0) ∧ w'.cell? ⟨gb662, 1, none⟩ = some (.slice (some ad666) l0_1.length c0_1) ∧ w'.cell? ⟨gb662, 2, none⟩ = some (.int .i64 a0_2) ∧ w'.cell? (ad666.add ((x4_1).toNat * 2)) = some (.int .i64 ((rd_T117 l0_1 x4_1).f0)) ∧ w'.cell? ⟨(ad666.add ((x4_1).toNat * 2)).block, (ad666.add ((x4_1).toNat * 2)).off + 1, none⟩ = some (.int .i64 ((rd_T117 l0_1 x4_1).f1)) ∧ w'.cell? (ad666.add ((x4_1).toNat * 2)) = some (.int .i64 ((rd_T117 l0_1 x4_1).f0)) ∧ w'.cell? ⟨(ad666.add ((x4_1).toNat * 2)).block, (ad666.add ((x4_1).toNat * 2)).off + 1, none⟩ = some (.int .i64 ((rd_T117 l0_1 x4_1).f1))) (ds := [14]) #[false, false, false, false, false, false, false, false, false, false, false, false, false, false, false] (by kernel_rfl) rfl rfl ⟨(qC BK662.out 0).trans rfl, (qC BK662.out 1).trans rfl, (qC BK662.out 2).trans rfl, ((HB.out.cell (qL w _ hw666_0)).trans hw666_0), ((HB.out.cell (qL w _ hw666_1)).trans hw666_1), ((HB.out.cell (qL w _ hw667_0)).trans hw667_0), ((HB.out.cell (qL w _ hw667_1)).trans hw667_1)⟩ (fun hHeld => ?_); refine with_tabW spec_l5Back.tab5 spec_l5Back.bits5 (fun HT_ HW_ => ?_)
      generalize wr.drew = w12 at HO_3 BK662 HB GG10 HQ13 hf10_0 hx10_0 hx666_0 hx666_1 hx667_0 hx667_1 hHeld ⊢
      refine pure_ (i := 0) (N := some 13) (v := ?_) (a' := ?_) #[true, false, false, false, false, false, false, false, false, false, false, false, false, false, false] rfl rfl (any_of HT_.out (by kernel_rfl)) (fun _ _ _ h => h) (Or.inl ⟨by rfl, ?_⟩) ?_ ?_
      rotate_left
      · intro w'
        go_simp
        with_reducible rfl
      rotate_left
      · simp only [Act.put, qT, qU, qV, i64_w, i32_w]
        rfl
      refine pure_ (i := 1) (N := some 14) (v := ?_) (a' := ?_) #[true, true, false, false, false, false, false, false, false, false, false, false, false, false, false] rfl rfl (any_of HT_.out (by kernel_rfl)) (fun _ _ _ h => h) (Or.inl ⟨by rfl, ?_⟩) ?_ ?_
      rotate_left
      · intro w'
        go_simp
        with_reducible rfl
      rotate_left
      · simp only [Act.put, qT, qU, qV, i64_w, i32_w]
        rfl
      refine pure_ (i := 3) (N := some 16) (v := ?_) (a' := ?_) #[true, true, false, true, false, false, false, false, false, false, false, false, false, false, false] rfl rfl (any_of HT_.out (by kernel_rfl)) (fun _ _ _ h => h) (Or.inl ⟨by rfl, ?_⟩) ?_ ?_
      rotate_left
      · intro w'
        go_simp
        with_reducible rfl
      rotate_left
      · simp only [Act.put, qT, qU, qV, i64_w, i32_w]
        rfl
      refine pure_ (i := 7) (N := some 20) (v := ?_) (a' := ?_) #[true, true, false, true, false, false, false, true, false, false, false, false, false, false, false] rfl rfl (any_of HT_.out (by kernel_rfl)) (fun _ _ _ h => h) (Or.inl ⟨by rfl, ?_⟩) ?_ ?_
      rotate_left
      · intro w'
        go_simp
        with_reducible rfl
      rotate_left
      · simp only [Act.put, qT, qU, qV, i64_w, i32_w]
        rfl
      refine pure_ (i := 9) (N := some 22) (v := ?_) (a' := ?_) #[true, true, false, true, false, false, false, true, false, true, false, false, false, false, false] rfl rfl (any_of HT_.out (by kernel_rfl)) (fun _ _ _ h => h) (Or.inl ⟨by rfl, ?_⟩) ?_ ?_
      rotate_left
      · intro w'
        go_simp
        with_reducible rfl
      rotate_left
      · simp only [Act.put, qT, qU, qV, i64_w, i32_w]
        rfl
      refine take_ (i := 2) (N := some 15) (v := ?_) (a' := ?_) #[true, true, true, true, false, false, false, true, false, true, false, false, false, false, false] rfl rfl (take_ofW HT_.out HW_.out (by kernel_rfl)) (fun _ _ _ h => h) (Or.inl ⟨by rfl, ?_⟩) hHeld ?_ ?_
      rotate_left
      · rintro w' ⟨s0, s1, s2, s3, s4, s5, s6⟩
        go_simp
        with_reducible rfl
      rotate_left
      · simp only [Act.put, qT, qU, qV, i64_w, i32_w]
        rfl
      refine pure_ (i := 4) (N := some 17) (v := ?_) (a' := ?_) #[true, true, true, true, true, false, false, true, false, true, false, false, false, false, false] rfl rfl (any_of HT_.out (by kernel_rfl)) (fun _ _ _ h => h) (Or.inl ⟨by rfl, ?_⟩) ?_ ?_
      rotate_left
      · intro w'
        go_simp
        with_reducible rfl
      rotate_left
      · simp only [Act.put, qT, qU, qV, i64_w, i32_w]
        rfl
      refine pure_ (i := 5) (N := some 18) (v := ?_) (a' := ?_) #[true, true, true, true, true, true, false, true, false, true, false, false, false, false, false] rfl rfl (any_of HT_.out (by kernel_rfl)) (fun _ _ _ h => h) (Or.inl ⟨by rfl, ?_⟩) ?_ ?_
      rotate_left
      · intro w'
        go_simp
        with_reducible rfl
      rotate_left
      · simp only [Act.put, qT, qU, qV, i64_w, i32_w]
        rfl
      refine take_ (i := 6) (N := some 19) (v := ?_) (a' := ?_) #[true, true, true, true, true, true, true, true, false, true, false, false, false, false, false] rfl rfl (take_ofW HT_.out HW_.out (by kernel_rfl)) (fun _ _ _ h => h) (Or.inl ⟨by rfl, ?_⟩) hHeld ?_ ?_
      rotate_left
      · rintro w' ⟨s0, s1, s2, s3, s4, s5, s6⟩
        go_simp
        with_reducible rfl
      rotate_left
      · simp only [Act.put, qT, qU, qV, i64_w, i32_w]
        rfl
      refine take_ (i := 8) (N := some 21) (v := ?_) (a' := ?_) #[true, true, true, true, true, true, true, true, true, true, false, false, false, false, false] rfl rfl (take_ofW HT_.out HW_.out (by kernel_rfl)) (fun _ _ _ h => h) (Or.inl ⟨by rfl, ?_⟩) hHeld ?_ ?_
      rotate_left
      · rintro w' ⟨s0, s1, s2, s3, s4, s5, s6⟩
        go_simp
        with_reducible rfl
      rotate_left
      · simp only [Act.put, qT, qU, qV, i64_w, i32_w]
        rfl
      refine pure_ (i := 10) (N := some 23) (v := ?_) (a' := ?_) #[true, true, true, true, true, true, true, true, true, true, true, false, false, false, false] rfl rfl (any_of HT_.out (by kernel_rfl)) (fun _ _ _ h => h) (Or.inl ⟨by rfl, ?_⟩) ?_ ?_
      rotate_left
      · intro w'
        go_simp
        with_reducible rfl
      rotate_left
      · simp only [Act.put, qT, qU, qV, i64_w, i32_w]
        rfl
      refine pure_ (i := 11) (N := some 24) (v := ?_) (a' := ?_) #[true, true, true, true, true, true, true, true, true, true, true, true, false, false, false] rfl rfl (any_of HT_.out (by kernel_rfl)) (fun _ _ _ h => h) (Or.inl ⟨by rfl, ?_⟩) ?_ ?_
      rotate_left
      · intro w'
        go_simp
        with_reducible rfl
      rotate_left
      · simp only [Act.put, qT, qU, qV, i64_w, i32_w]
        rfl
      refine take_ (i := 12) (N := some 25) (v := ?_) (a' := ?_) #[true, true, true, true, true, true, true, true, true, true, true, true, true, false, false] rfl rfl (take_ofW HT_.out HW_.out (by kernel_rfl)) (fun _ _ _ h => h) (Or.inl ⟨by rfl, ?_⟩) hHeld ?_ ?_
      rotate_left
      · rintro w' ⟨s0, s1, s2, s3, s4, s5, s6⟩
        go_simp
        with_reducible rfl
      rotate_left
      · simp only [Act.put, qT, qU, qV, i64_w, i32_w]
        rfl
      refine pure_ (i := 13) (N := some 26) (v := ?_) (a' := ?_) #[true, true, true, true, true, true, true, true, true, true, true, true, true, true, false] rfl rfl (any_of HT_.out (by kernel_rfl)) (fun _ _ _ h => h) (Or.inl ⟨by rfl, ?_⟩) ?_ ?_
      rotate_left
      · intro w'
        go_simp
        with_reducible rfl
      rotate_left
      · simp only [Act.put, qT, qU, qV, i64_w, i32_w]
        rfl
      refine last_ (i := 14) (N := none) #[true, true, true, true, true, true, true, true, true, true, true, true, true, true, true] rfl rfl (one_of HT_.out (by kernel_rfl)) (by decide) (fun K hK => ?_)
      refine skip_ (w1 := ?_) (by rfl) rfl ?_ ?_
      rotate_left
      · go_simp
        rfl
      refine hK.out _ _ ?_
      clear hK K
      refine done_ (done_of HT_.out (by kernel_rfl)) ?_
      try go_wp2
      go_roundg k1
      case measure => have := HK1.out; omega
      case rel => exact ⟨(y668), (wrap64 (x4_1 + 1)), (by first | rfl | (simp; done) | (simp [*]; done)), H', ⟨by have := HK1.out; omega⟩, ⟨by (with_reducible repeat (first | apply Kd.R_alloc | apply Kd.R_drewN | apply Kd.R_drew)); exact HQ13.out⟩, ⟨by (with_reducible repeat (first | apply qn | apply qd | apply qa)); refine blk_far ?_ (by have h_ := Kd.R_ne HO_3.out BK662.out (by decide); intro e_; exact h_ (by rw [e_]; rfl)) _; (with_reducible repeat (first | apply qn | apply qd | apply qa)); exact BK662.out⟩, ⟨by repeat (first | (with_reducible first | exact HB.out | apply qA | apply qN | apply qD | refine qS ?_ GB10.out | refine qS ?_ GE662.out) | exact HB.out)⟩⟩
end Go.Proofs.Ytgbjbpjmbghlbaa.G
end
