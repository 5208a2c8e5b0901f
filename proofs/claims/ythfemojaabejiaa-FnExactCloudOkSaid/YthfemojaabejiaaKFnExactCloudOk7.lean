-- Written by pack.py (ours): the claim's texts, cut down to what its theorem reaches.
import Derived.Test.YthfemojaabejiaaKFnExactCloudOk6
section
namespace Go.Proofs.Ythfemojaabejiaa.G
open Go.RowKit Go.Proofs.YthfemojaabejiaaW.PrintWords Go.Proofs.YthfemojaabejiaaW.PrintLast Go.Proofs.YthfemojaabejiaaW.PrintMore
attribute [local go_sem] max2_int min2_int max_two min_two max_three min_three max_four min_four
set_option linter.unusedVariables false
set_option linter.unusedSimpArgs false
def laws_szShared.f (a0_0 : Int) (l0_1 : List Int) (l0_2 : List Int) (a1 : Int) : Option (Int) := (laws_szOrder.f l0_1 l0_2 a1).bind fun t443 => (if t443 < 0 then (some (-1)) else (some t443))
set_option maxHeartbeats 8000000 in
set_option maxRecDepth 100000 in
theorem laws_szShared.calls (a0_0 : Int) (A0_1 : Option Addr) (c0_1 : Nat) (l0_1 : List Int) (A0_2 : Option Addr) (c0_2 : Nat) (l0_2 : List Int) (a1 : Int) (r : Int) (w : World) (hr0_1 : Kd.C (Kd.int .i64) w A0_1 l0_1.length l0_1) (hc0_1 : l0_1.length ≤ c0_1) (hr0_2 : Kd.C (Kd.int .i64) w A0_2 l0_2.length l0_2) (hc0_2 : l0_2.length ≤ c0_2) (h : laws_szShared.f a0_0 l0_1 l0_2 a1 = some r) :
    Calls Try.prog 81 #[.agg #[.int .i64 a0_0, .slice A0_1 l0_1.length c0_1, .slice A0_2 l0_2.length c0_2], .int .i64 a1] w fun e w' => e = .returned (.int .i64 r) ∧ Below w.heap.size w w' := by
  have hu102 := Try.underlying102
  have hu94 := Try.underlying94
  have HR0_1 := qM hr0_1
  have HC0_1 := qM hc0_1
  clear hr0_1 hc0_1
  have HR0_2 := qM hr0_2
  have HC0_2 := qM hc0_2
  clear hr0_2 hc0_2
  have HB := qM (Below.refl w.heap.size w)
  have H : ((laws_szOrder.f l0_1 l0_2 a1).bind fun t443 => (if t443 < 0 then (some (-1)) else (some t443))) = some r := h
  clear h
  replace H := Option.bind_eq_some_iff.mp H
  obtain ⟨t443, A30, H⟩ := H
  replace H : (if t443 < 0 then (some (-1)) else (some t443)) = some r := H
  have A3 := qM A30
  clear A30
  by_cases c4 : t443 < 0
  rotate_left
  · rw [if_neg c4] at H
    have c4b0 : decide (t443 < 0) = false := decide_eq_false c4
    clear c4
    obtain rfl := Option.some.inj H
    go_enter Try.func81, Try.ntmps81
    go_wp2_with (first | ((with_reducible refine gate_dst (N := 2) rfl ?_); refine box_event ?hg (N := 2) ?hd (cs := #[.int .i64 a0_0, .slice A0_1 l0_1.length c0_1, .slice A0_2 l0_2.length c0_2]) (t := 102) ?hr ?_; (case hd => rfl); (case hg => rfl); (case hr => first | (go_simp; done) | (go_simp; rfl)); intro gb442 hg w8 hbox hb; have n0_ := qM (qs (by repeat (first | (with_reducible first | exact HB.out | apply qA | apply qN | apply qD) | exact HB.out)) hb); have n1_ := qM (hbox); have n2_ := qM ((by rw [hg]; exact (qz (by repeat (first | (with_reducible first | exact HB.out | apply qA | apply qN | apply qD) | exact HB.out))) : w.heap.size ≤ gb442)); have n3_ := qM ((by rw [hg]; exact (qz (by repeat (first | (with_reducible first | exact HB.out | apply qA | apply qN | apply qD) | exact HB.out))) : w.heap.size ≤ gb442)); clear HB; have HB := n0_; have BK442 := n1_; have GW442 := n2_; have GE442 := n3_; clear n0_ n1_ n2_ n3_; clear hb hbox hg; have hcz9_0 : w8.cell? ⟨gb442, 0, none⟩ = some (.int .i64 a0_0) := (qC BK442.out 0).trans rfl; have hcz9_1 : w8.cell? ⟨gb442, 1, none⟩ = some (.slice A0_1 l0_1.length c0_1) := (qC BK442.out 1).trans rfl; have hcz9_2 : w8.cell? ⟨gb442, 2, none⟩ = some (.slice A0_2 l0_2.length c0_2) := (qC BK442.out 2).trans rfl; have hfz9_0 := qF BK442.out 0; have hfz9_1 := qF BK442.out 1; have hfz9_2 := qF BK442.out 2) | ((with_reducible refine gate_callee (f := 74) rfl ?_); refine goesL_ (some 8) rfl rfl Try.func74 (by kernel_rfl) rfl #[.agg #[.slice A0_1 l0_1.length c0_1, .slice A0_2 l0_2.length c0_2], .int .i64 a1] rfl (by (try simp only [List.map_toArray, List.map_cons, List.map_nil]); first | done | rfl | (simp only [List.length_drop, List.length_take]; rfl)) ?_; (with_reducible refine (laws_szOrder.calls _ _ l0_1 _ _ l0_2 a1 t443 _ ?side1 ?side2 ?side3 ?side4 A3.out).mono ?_); (case side1 => repeat (first | exact (qB HR0_1.out HB.out) | (with_reducible refine qc ?_ _) | (with_reducible refine qe ?_ _) | (with_reducible refine qf ?_))); (case side2 => exact HC0_1.out); (case side3 => repeat (first | exact (qB HR0_2.out HB.out) | (with_reducible refine qc ?_ _) | (with_reducible refine qe ?_ _) | (with_reducible refine qf ?_))); (case side4 => exact HC0_2.out); rintro e w10 ⟨rfl, hb⟩; refine ⟨_, rfl, ?_⟩; have n0_ := qM (blk_below (g := gb442) (o := .cells #[.int .i64 a0_0, .slice A0_1 l0_1.length c0_1, .slice A0_2 l0_2.length c0_2] 102 (0, 0)) (by (with_reducible repeat (first | refine qn ?_ _ | refine qd ?_ | refine qa ?_ _)); exact BK442.out) hb); have n1_ := qM (qs (by repeat (first | (with_reducible first | exact HB.out | apply qA | apply qN | apply qD | refine qS ?_ GE442.out) | exact HB.out)) hb); clear BK442; clear HB; have BK442 := n0_; have HB := n1_; clear n0_ n1_; (try clear hb); (try clear hb2); (try clear hk); (try clear hi)))
    go_ret
    exact ⟨by first | rfl | (simp [errW_none, errW_some] <;> rfl) | (simp [*, errW_none, errW_some] <;> rfl), by repeat (first | (with_reducible first | exact HB.out | apply qA | apply qN | apply qD | refine qS ?_ GE442.out) | exact HB.out)⟩
  rw [if_pos c4] at H
  have c4b0 : decide (t443 < 0) = true := decide_eq_true c4
  clear c4
  obtain rfl := Option.some.inj H
  go_enter Try.func81, Try.ntmps81
  go_wp2_with (first | ((with_reducible refine gate_dst (N := 2) rfl ?_); refine box_event ?hg (N := 2) ?hd (cs := #[.int .i64 a0_0, .slice A0_1 l0_1.length c0_1, .slice A0_2 l0_2.length c0_2]) (t := 102) ?hr ?_; (case hd => rfl); (case hg => rfl); (case hr => first | (go_simp; done) | (go_simp; rfl)); intro gb442 hg w5 hbox hb; have n0_ := qM (qs (by repeat (first | (with_reducible first | exact HB.out | apply qA | apply qN | apply qD) | exact HB.out)) hb); have n1_ := qM (hbox); have n2_ := qM ((by rw [hg]; exact (qz (by repeat (first | (with_reducible first | exact HB.out | apply qA | apply qN | apply qD) | exact HB.out))) : w.heap.size ≤ gb442)); have n3_ := qM ((by rw [hg]; exact (qz (by repeat (first | (with_reducible first | exact HB.out | apply qA | apply qN | apply qD) | exact HB.out))) : w.heap.size ≤ gb442)); clear HB; have HB := n0_; have BK442 := n1_; have GW442 := n2_; have GE442 := n3_; clear n0_ n1_ n2_ n3_; clear hb hbox hg; have hcz6_0 : w5.cell? ⟨gb442, 0, none⟩ = some (.int .i64 a0_0) := (qC BK442.out 0).trans rfl; have hcz6_1 : w5.cell? ⟨gb442, 1, none⟩ = some (.slice A0_1 l0_1.length c0_1) := (qC BK442.out 1).trans rfl; have hcz6_2 : w5.cell? ⟨gb442, 2, none⟩ = some (.slice A0_2 l0_2.length c0_2) := (qC BK442.out 2).trans rfl; have hfz6_0 := qF BK442.out 0; have hfz6_1 := qF BK442.out 1; have hfz6_2 := qF BK442.out 2) | ((with_reducible refine gate_callee (f := 74) rfl ?_); refine goesL_ (some 8) rfl rfl Try.func74 (by kernel_rfl) rfl #[.agg #[.slice A0_1 l0_1.length c0_1, .slice A0_2 l0_2.length c0_2], .int .i64 a1] rfl (by (try simp only [List.map_toArray, List.map_cons, List.map_nil]); first | done | rfl | (simp only [List.length_drop, List.length_take]; rfl)) ?_; (with_reducible refine (laws_szOrder.calls _ _ l0_1 _ _ l0_2 a1 t443 _ ?side1 ?side2 ?side3 ?side4 A3.out).mono ?_); (case side1 => repeat (first | exact (qB HR0_1.out HB.out) | (with_reducible refine qc ?_ _) | (with_reducible refine qe ?_ _) | (with_reducible refine qf ?_))); (case side2 => exact HC0_1.out); (case side3 => repeat (first | exact (qB HR0_2.out HB.out) | (with_reducible refine qc ?_ _) | (with_reducible refine qe ?_ _) | (with_reducible refine qf ?_))); (case side4 => exact HC0_2.out); rintro e w7 ⟨rfl, hb⟩; refine ⟨_, rfl, ?_⟩; have n0_ := qM (blk_below (g := gb442) (o := .cells #[.int .i64 a0_0, .slice A0_1 l0_1.length c0_1, .slice A0_2 l0_2.length c0_2] 102 (0, 0)) (by (with_reducible repeat (first | refine qn ?_ _ | refine qd ?_ | refine qa ?_ _)); exact BK442.out) hb); have n1_ := qM (qs (by repeat (first | (with_reducible first | exact HB.out | apply qA | apply qN | apply qD | refine qS ?_ GE442.out) | exact HB.out)) hb); clear BK442; clear HB; have BK442 := n0_; have HB := n1_; clear n0_ n1_; (try clear hb); (try clear hb2); (try clear hk); (try clear hi)))
  go_ret
  exact ⟨by first | rfl | (simp [errW_none, errW_some] <;> rfl) | (simp [*, errW_none, errW_some] <;> rfl), by repeat (first | (with_reducible first | exact HB.out | apply qA | apply qN | apply qD | refine qS ?_ GE442.out) | exact HB.out)⟩
def laws_szSharedS.l0 : Nat → List (S102) → Int → Int → Option (Int)
  | 0, _, _, _ => none
  | k + 1, x0, x1, x5 => if x5 < (x0.length : Int) then (if 0 ≤ x5 then ((laws_szShared.f ((rd_T102 x0 x5).f0) ((rd_T102 x0 x5).f1.f0) ((rd_T102 x0 x5).f1.f1) x1).bind fun t445 => (if t445 < 0 then (some (-1)) else (laws_szSharedS.l0 k x0 t445 (wrap64 (x5 + 1))))) else (none)) else (some x1)
def laws_szSharedS.f (k : Nat) (l0 : List (S102)) (a1 : Int) : Option (Int) := if (wrap64 (a1 - (l0.length : Int))) < 0 then (some (-1)) else (laws_szSharedS.l0 k l0 (wrap64 (a1 - (l0.length : Int))) 0)
set_option maxHeartbeats 8000000 in
set_option maxRecDepth 100000 in
theorem laws_szSharedS.calls (k : Nat) (A0 : Option Addr) (c0 : Nat) (l0 : List (S102)) (a1 : Int) (r : Int) (w : World) (hr0 : Kd.C k102 w A0 l0.length l0) (hc0 : l0.length ≤ c0) (h : laws_szSharedS.f k l0 a1 = some r) :
    Calls Try.prog 31 #[.slice A0 l0.length c0, .int .i64 a1] w fun e w' => e = .returned (.int .i64 r) ∧ Below w.heap.size w w' := by
  have hu102 := Try.underlying102
  have HR0 := qM hr0
  have HC0 := qM hc0
  clear hr0 hc0
  have HB := qM (Below.refl w.heap.size w)
  have H : (if (wrap64 (a1 - (l0.length : Int))) < 0 then (some (-1)) else (laws_szSharedS.l0 k l0 (wrap64 (a1 - (l0.length : Int))) 0)) = some r := h
  clear h
  by_cases c3 : (wrap64 (a1 - (l0.length : Int))) < 0
  · rw [if_pos c3] at H
    have c3b0 : decide ((wrap64 (a1 - (l0.length : Int))) < 0) = true := decide_eq_true c3
    clear c3
    obtain rfl := Option.some.inj H
    go_enter Try.func31, Try.ntmps31
    go_wp2
    go_ret
    exact ⟨by first | rfl | (simp [errW_none, errW_some] <;> rfl) | (simp [*, errW_none, errW_some] <;> rfl), by repeat (first | (with_reducible first | exact HB.out | apply qA | apply qN | apply qD) | exact HB.out)⟩
  rw [if_neg c3] at H
  have c3b0 : decide ((wrap64 (a1 - (l0.length : Int))) < 0) = false := decide_eq_false c3
  clear c3
  have H' := qM H
  clear H
  go_enter Try.func31, Try.ntmps31
  go_wp2
  go_loopg [1, 5] k (fun kq v1 v5 w' => ∃ (x1_1 : Int) (x5_1 : Int), v1 = .int .i64 x1_1 ∧ v5 = .int .i64 x5_1 ∧ Aside0 (laws_szSharedS.l0 kq l0 x1_1 x5_1 = some r) ∧ Aside0 (kq ≤ k) ∧ Aside0 (Below w.heap.size w w'))
  case atStart => exact ⟨(wrap64 (a1 - (l0.length : Int))), (0), (by first | rfl | (simp; done) | (simp [*]; done)), (by first | rfl | (simp; done) | (simp [*]; done)), H', ⟨Nat.le_refl _⟩, ⟨by repeat (first | (with_reducible first | exact HB.out | apply qA | apply qN | apply qD) | exact HB.out)⟩⟩
  case round =>
    clear H'
    try clear p2
    try clear c3
    try clear c3b0
    obtain ⟨x1_1, x5_1, rfl, rfl, HA, HK1, HB⟩ := hrel
    cases gk with
    | zero => exact absurd HA.out (by simp [laws_szSharedS.l0])
    | succ k1 =>
      have H := HA.out
      clear HA
      simp only [laws_szSharedS.l0] at H
      by_cases c4 : x5_1 < (l0.length : Int)
      rotate_left
      · rw [if_neg c4] at H
        have c4b0 : decide (x5_1 < (l0.length : Int)) = false := decide_eq_false c4
        clear c4
        obtain rfl := Option.some.inj H
        go_wp2
        go_ret
        exact ⟨by first | rfl | (simp [errW_none, errW_some] <;> rfl) | (simp [*, errW_none, errW_some] <;> rfl), by repeat (first | (with_reducible first | exact HB.out | apply qA | apply qN | apply qD) | exact HB.out)⟩
      rw [if_pos c4] at H
      have c4b0 : decide (x5_1 < (l0.length : Int)) = true := decide_eq_true c4
      clear c4
      by_cases c5 : 0 ≤ x5_1
      rotate_left
      · rw [if_neg c5] at H
        exact absurd H (by simp)
      rw [if_pos c5] at H
      have c5b0 : decide (0 ≤ x5_1) = true := decide_eq_true c5
      clear c5
      replace H := Option.bind_eq_some_iff.mp H
      obtain ⟨t445, A60, H⟩ := H
      replace H : (if t445 < 0 then (some (-1)) else (laws_szSharedS.l0 k1 l0 t445 (wrap64 (x5_1 + 1)))) = some r := H
      have A6 := qM A60
      clear A60
      by_cases c7 : t445 < 0
      · rw [if_pos c7] at H
        have c7b0 : decide (t445 < 0) = true := decide_eq_true c7
        clear c7
        obtain rfl := Option.some.inj H
        have p444 : 0 ≤ (x5_1 : Int) := qO (by first | (with_reducible assumption) | assumption)
        have q444 : x5_1 < (l0.length : Int) := qO (by first | (with_reducible assumption) | assumption)
        obtain ⟨ad444, A444_1, c444_1, A444_2, c444_2, e444, hx444_0, hx444_1, hx444_2, hl444_1, hi444_1, hl444_2, hi444_2⟩ := at_T102 HR0.out x5_1 p444 q444
        cases e444
        replace hx444_0 := (HB.out.cell (qL w _ hx444_0)).trans hx444_0
        replace hx444_1 := (HB.out.cell (qL w _ hx444_1)).trans hx444_1
        replace hx444_2 := (HB.out.cell (qL w _ hx444_2)).trans hx444_2
        have HR444_1 := qM hi444_1
        have HC444_1 := qM hl444_1
        clear hi444_1 hl444_1
        have HR444_2 := qM hi444_2
        have HC444_2 := qM hl444_2
        clear hi444_2 hl444_2
        replace p444 := eq_true p444
        replace q444 := eq_true q444
        go_wp2_with (first | ((with_reducible refine gate_callee (f := 81) rfl ?_); refine goesL_ (some 23) rfl rfl Try.func81 (by kernel_rfl) rfl #[.agg #[.int .i64 ((rd_T102 l0 x5_1).f0), .slice A444_1 ((rd_T102 l0 x5_1).f1.f0).length c444_1, .slice A444_2 ((rd_T102 l0 x5_1).f1.f1).length c444_2], .int .i64 x1_1] rfl (by (try simp only [List.map_toArray, List.map_cons, List.map_nil]); first | done | rfl | (simp only [List.length_drop, List.length_take]; rfl)) ?_; (with_reducible refine (laws_szShared.calls ((rd_T102 l0 x5_1).f0) _ _ ((rd_T102 l0 x5_1).f1.f0) _ _ ((rd_T102 l0 x5_1).f1.f1) x1_1 t445 _ ?side1 ?side2 ?side3 ?side4 A6.out).mono ?_); (case side1 => repeat (first | exact (qB HR444_1.out HB.out) | (with_reducible refine qc ?_ _) | (with_reducible refine qe ?_ _) | (with_reducible refine qf ?_))); (case side2 => exact HC444_1.out); (case side3 => repeat (first | exact (qB HR444_2.out HB.out) | (with_reducible refine qc ?_ _) | (with_reducible refine qe ?_ _) | (with_reducible refine qf ?_))); (case side4 => exact HC444_2.out); rintro e w8 ⟨rfl, hb⟩; refine ⟨_, rfl, ?_⟩; have n0_ := qM (qs (by repeat (first | (with_reducible first | exact HB.out | apply qA | apply qN | apply qD) | exact HB.out)) hb); clear HB; have HB := n0_; clear n0_; (try clear hb); (try clear hb2); (try clear hk); (try clear hi)))
        go_ret
        exact ⟨by first | rfl | (simp [errW_none, errW_some] <;> rfl) | (simp [*, errW_none, errW_some] <;> rfl), by repeat (first | (with_reducible first | exact HB.out | apply qA | apply qN | apply qD) | exact HB.out)⟩
      rw [if_neg c7] at H
      have c7b0 : decide (t445 < 0) = false := decide_eq_false c7
      clear c7
      have H' := qM H
      clear H
      have p444 : 0 ≤ (x5_1 : Int) := qO (by first | (with_reducible assumption) | assumption)
      have q444 : x5_1 < (l0.length : Int) := qO (by first | (with_reducible assumption) | assumption)
      obtain ⟨ad444, A444_1, c444_1, A444_2, c444_2, e444, hx444_0, hx444_1, hx444_2, hl444_1, hi444_1, hl444_2, hi444_2⟩ := at_T102 HR0.out x5_1 p444 q444
      cases e444
      replace hx444_0 := (HB.out.cell (qL w _ hx444_0)).trans hx444_0
      replace hx444_1 := (HB.out.cell (qL w _ hx444_1)).trans hx444_1
      replace hx444_2 := (HB.out.cell (qL w _ hx444_2)).trans hx444_2
      have HR444_1 := qM hi444_1
      have HC444_1 := qM hl444_1
      clear hi444_1 hl444_1
      have HR444_2 := qM hi444_2
      have HC444_2 := qM hl444_2
      clear hi444_2 hl444_2
      replace p444 := eq_true p444
      replace q444 := eq_true q444
      go_wp2_with (first | ((with_reducible refine gate_callee (f := 81) rfl ?_); refine goesL_ (some 23) rfl rfl Try.func81 (by kernel_rfl) rfl #[.agg #[.int .i64 ((rd_T102 l0 x5_1).f0), .slice A444_1 ((rd_T102 l0 x5_1).f1.f0).length c444_1, .slice A444_2 ((rd_T102 l0 x5_1).f1.f1).length c444_2], .int .i64 x1_1] rfl (by (try simp only [List.map_toArray, List.map_cons, List.map_nil]); first | done | rfl | (simp only [List.length_drop, List.length_take]; rfl)) ?_; (with_reducible refine (laws_szShared.calls ((rd_T102 l0 x5_1).f0) _ _ ((rd_T102 l0 x5_1).f1.f0) _ _ ((rd_T102 l0 x5_1).f1.f1) x1_1 t445 _ ?side1 ?side2 ?side3 ?side4 A6.out).mono ?_); (case side1 => repeat (first | exact (qB HR444_1.out HB.out) | (with_reducible refine qc ?_ _) | (with_reducible refine qe ?_ _) | (with_reducible refine qf ?_))); (case side2 => exact HC444_1.out); (case side3 => repeat (first | exact (qB HR444_2.out HB.out) | (with_reducible refine qc ?_ _) | (with_reducible refine qe ?_ _) | (with_reducible refine qf ?_))); (case side4 => exact HC444_2.out); rintro e w9 ⟨rfl, hb⟩; refine ⟨_, rfl, ?_⟩; have n0_ := qM (qs (by repeat (first | (with_reducible first | exact HB.out | apply qA | apply qN | apply qD) | exact HB.out)) hb); clear HB; have HB := n0_; clear n0_; (try clear hb); (try clear hb2); (try clear hk); (try clear hi)))
      go_roundg k1
      case measure => have := HK1.out; omega
      case rel => exact ⟨(t445), (wrap64 (x5_1 + 1)), (by first | rfl | (simp; done) | (simp [*]; done)), (by first | rfl | (simp; done) | (simp [*]; done)), H', ⟨by have := HK1.out; omega⟩, ⟨by repeat (first | (with_reducible first | exact HB.out | apply qA | apply qN | apply qD) | exact HB.out)⟩⟩
def spec_CloudOk.l0 : Nat → List (S105) → List (S95) → Int → List Bool → List (S141) → Option (Bool)
  | 0, _, _, _, _, _ => none
  | k + 1, x1, x5, x6, x447000, x447001 => if x6 < (x1.length : Int) then (if 0 ≤ x6 then ((spec_l6In.f ((rd_T105 x1 x6).f0) 0 2).bind fun t451 => (if t451 = true then (if x5.length < 2932031007402 then (spec_CloudOk.l0 k x1 (x5 ++ [(⟨(rd_T105 x1 x6).f1.f0, (rd_T105 x1 x6).f1.f1⟩ : S95)]) (wrap64 (x6 + 1)) x447000 x447001) else (none)) else (some false))) else (none)) else ((spec_RowOk.f k x447000 x447001 x5).bind fun t456 => (some t456))
def spec_CloudOk.f (k : Nat) (l0_0 : List Bool) (l0_1 : List (S141)) (l1 : List (S105)) : Option (Bool) := if (l1.length : Int) > 6 then (some false) else (spec_CloudOk.l0 k l1 (([] : List (S95))) 0 l0_0 l0_1)
set_option maxHeartbeats 8000000 in
set_option maxRecDepth 100000 in
theorem spec_CloudOk.calls (k : Nat) (A0_0 : Option Addr) (c0_0 : Nat) (l0_0 : List Bool) (A0_1 : Option Addr) (c0_1 : Nat) (l0_1 : List (S141)) (P1_ : Nat → Prop) (A1 : Option Addr) (c1 : Nat) (l1 : List (S105)) (r : Bool) (w : World) (hr0_0 : Kd.C Kd.bool w A0_0 l0_0.length l0_0) (hc0_0 : l0_0.length ≤ c0_0) (hr0_1 : Kd.C k141 w A0_1 l0_1.length l0_1) (hc0_1 : l0_1.length ≤ c0_1) (hs1 : Kd.V k105 105 w w.heap.size (fun k_ => P1_ k_) (.slice A1 l1.length c1) l1) (h : spec_CloudOk.f k l0_0 l0_1 l1 = some r) :
    Calls Try.prog 32 #[.agg #[.slice A0_0 l0_0.length c0_0, .slice A0_1 l0_1.length c0_1], .slice A1 l1.length c1] w fun e w' => e = .returned (.bool r) ∧ Below w.heap.size w w' := by
  have hu30 := Try.underlying30
  have hu95 := Try.underlying95
  have HR0_0 := qM hr0_0
  have HC0_0 := qM hc0_0
  clear hr0_0 hc0_0
  have HR0_1 := qM hr0_1
  have HC0_1 := qM hc0_1
  clear hr0_1 hc0_1
  have HO1 := qM (show Kd.V k105 105 w w.heap.size (fun k_ => (P1_ k_ ∨ w.heap.size ≤ k_)) (.slice A1 l1.length c1) l1 from Kd.V_mono hs1 (fun k_ hk => .inl hk))
  have HB := qM (Below.refl w.heap.size w)
  have H : (if (l1.length : Int) > 6 then (some false) else (spec_CloudOk.l0 k l1 (([] : List (S95))) 0 l0_0 l0_1)) = some r := h
  clear h
  by_cases c3 : (l1.length : Int) > 6
  · rw [if_pos c3] at H
    have c3b0 : decide (6 < (l1.length : Int)) = true := decide_eq_true c3
    have c3b1 : decide (6 < l1.length) = true := decide_eq_true (by omega)
    clear c3
    obtain rfl := Option.some.inj H
    go_enter Try.func32, Try.ntmps32
    go_wp2_with (first | ((with_reducible refine gate_dst (N := 2) rfl ?_); refine box_event ?hg (N := 2) ?hd (cs := #[.slice A0_0 l0_0.length c0_0, .slice A0_1 l0_1.length c0_1]) (t := 30) ?hr ?_; (case hd => rfl); (case hg => rfl); (case hr => first | (go_simp; done) | (go_simp; rfl)); intro gb446 hg w4 hbox hb; have n0_ := qM (Kd.V_below (Kd.V_elderB (by (with_reducible repeat (first | apply Kd.V_alloc | apply Kd.V_drewN | apply Kd.V_drew)); exact HO1.out) gb446 (Nat.le_of_eq hg.symm)) hb); have n1_ := qM (qs (by repeat (first | (with_reducible first | exact HB.out | apply qA | apply qN | apply qD) | exact HB.out)) hb); have n2_ := qM (hbox); have n3_ := qM ((by rw [hg]; exact (qz (by repeat (first | (with_reducible first | exact HB.out | apply qA | apply qN | apply qD) | exact HB.out))) : w.heap.size ≤ gb446)); have n4_ := qM ((by rw [hg]; exact (qz (by repeat (first | (with_reducible first | exact HB.out | apply qA | apply qN | apply qD) | exact HB.out))) : w.heap.size ≤ gb446)); clear HO1; clear HB; have HO1 := n0_; have HB := n1_; have BK446 := n2_; have GW446 := n3_; have GE446 := n4_; clear n0_ n1_ n2_ n3_ n4_; clear hb hbox hg))
    go_ret
    exact ⟨by first | rfl | (simp [errW_none, errW_some] <;> rfl) | (simp [*, errW_none, errW_some] <;> rfl), by repeat (first | (with_reducible first | exact HB.out | apply qA | apply qN | apply qD | refine qS ?_ GE446.out) | exact HB.out)⟩
  rw [if_neg c3] at H
  have c3b0 : decide (6 < (l1.length : Int)) = false := decide_eq_false c3
  have c3b1 : decide (6 < l1.length) = false := decide_eq_false (by omega)
  clear c3
  obtain ⟨y447, hy447⟩ : ∃ y_ : List (S95), y_ = (([] : List (S95))) := ⟨_, rfl⟩
  replace H : (spec_CloudOk.l0 k l1 y447 0 l0_0 l0_1) = some r := by first | (rw [hy447]; with_reducible exact H) | (have H2_ := (Option.bind_some _ _).symm.trans H; rw [hy447]; with_reducible exact H2_) | (have H2_ := (Option.bind_some _ _).symm.trans H; with_reducible exact H2_) | with_reducible exact H | (rw [hy447]; exact H) | exact H
  have Ny447 := qM hy447
  clear hy447
  have H' := qM H
  clear H
  go_enter Try.func32, Try.ntmps32
  go_wp2_with (first | ((with_reducible refine gate_dst (N := 2) rfl ?_); refine box_event ?hg (N := 2) ?hd (cs := #[.slice A0_0 l0_0.length c0_0, .slice A0_1 l0_1.length c0_1]) (t := 30) ?hr ?_; (case hd => rfl); (case hg => rfl); (case hr => first | (go_simp; done) | (go_simp; rfl)); intro gb446 hg w5 hbox hb; have n0_ := qM (Kd.V_below (Kd.V_elderB (by (with_reducible repeat (first | apply Kd.V_alloc | apply Kd.V_drewN | apply Kd.V_drew)); exact HO1.out) gb446 (Nat.le_of_eq hg.symm)) hb); have n1_ := qM (qs (by repeat (first | (with_reducible first | exact HB.out | apply qA | apply qN | apply qD) | exact HB.out)) hb); have n2_ := qM (hbox); have n3_ := qM ((by rw [hg]; exact (qz (by repeat (first | (with_reducible first | exact HB.out | apply qA | apply qN | apply qD) | exact HB.out))) : w.heap.size ≤ gb446)); have n4_ := qM ((by rw [hg]; exact (qz (by repeat (first | (with_reducible first | exact HB.out | apply qA | apply qN | apply qD) | exact HB.out))) : w.heap.size ≤ gb446)); clear HO1; clear HB; have HO1 := n0_; have HB := n1_; have BK446 := n2_; have GW446 := n3_; have GE446 := n4_; clear n0_ n1_ n2_ n3_ n4_; clear hb hbox hg) | ((with_reducible refine gate_dst (N := 10) rfl ?_); refine Kd.N_lit k95 _ 95 ?hg (N' := 10) ?hd (xs := ([] : List (S95))) (inner := []) (ok := (fun k_ => (P1_ k_ ∨ w.heap.size ≤ k_) ∧ k_ ≠ gb446)) (okp := (fun k_ => (P1_ k_ ∨ w.heap.size ≤ k_) ∧ k_ ≠ gb446)) ?hr ?hp (fun _ hk => hk) ((show ∀ k_, w5.heap.size ≤ k_ → (fun k_ => (P1_ k_ ∨ w.heap.size ≤ k_) ∧ k_ ≠ gb446) k_ from fun k_ hk => ⟨(.inr (Nat.le_trans (qz (by repeat (first | (with_reducible first | exact HB.out | apply qA | apply qN | apply qD | refine qS ?_ GE446.out) | exact HB.out))) hk)), Kd.freshB (g := gb446) (o := .cells #[.slice A0_0 l0_0.length c0_0, .slice A0_1 l0_1.length c0_1] 30 (0, 0)) (by (with_reducible repeat (first | refine qn ?_ _ | refine qd ?_ | refine qa ?_ _)); exact BK446.out) k_ hk⟩) _ (Nat.le_refl _)) (Below.refl _ _) (Nat.le_refl _) (by simp) ?_; (case hd => rfl); (case hg => rfl); (case hr => first | (go_simp; done) | (go_simp; rfl)); (case hp => exact (Reps.none _ _)); intro v448 w6 ho7 hb hg_ hnew_; clear hg_ hnew_; (first | rw [← Ny447.out] at ho7 | (simp only [Int.reduceToNat] at ho7; rw [← Ny447.out] at ho7)); have n0_ := qM (Kd.V_elder' (by (with_reducible repeat (first | apply Kd.V_alloc | apply Kd.V_drewN | apply Kd.V_drew)); exact HO1.out) (Kd.N_base ho7) hb); have n1_ := qM (Kd.N_lower ho7 (qz (by repeat (first | (with_reducible first | exact HB.out | apply qA | apply qN | apply qD | refine qS ?_ GE446.out) | exact HB.out)))); have n2_ := qM (blk_below (g := gb446) (o := .cells #[.slice A0_0 l0_0.length c0_0, .slice A0_1 l0_1.length c0_1] 30 (0, 0)) (by (with_reducible repeat (first | refine qn ?_ _ | refine qd ?_ | refine qa ?_ _)); exact BK446.out) hb); have n3_ := qM (qs (by repeat (first | (with_reducible first | exact HB.out | apply qA | apply qN | apply qD | refine qS ?_ GE446.out) | exact HB.out)) hb); clear HO1; clear BK446; clear HB; have HO1 := n0_; have HO449 := n1_; have BK446 := n2_; have HB := n3_; clear n0_ n1_ n2_ n3_; clear hb ho7))
  go_loopg [5, 6] k (fun kq v5 v6 w' => ∃ (x5_1 : List (S95)) (x6_1 : Int), v6 = .int .i64 x6_1 ∧ Aside0 (spec_CloudOk.l0 kq l1 x5_1 x6_1 l0_0 l0_1 = some r) ∧ Aside0 (kq ≤ k) ∧ Aside0 (Kd.V k105 105 w' w.heap.size (fun k_ => (P1_ k_ ∨ w.heap.size ≤ k_) ∧ some k_ ≠ (v5 : Value).ownBlock ∧ k_ ≠ gb446) (.slice A1 l1.length c1) l1) ∧ Aside0 (Kd.N k95 95 w' w.heap.size (fun k_ => (P1_ k_ ∨ w.heap.size ≤ k_) ∧ k_ ≠ gb446) v5 x5_1) ∧ Aside0 (w'.heap[gb446]? = some (.cells #[(.slice A0_0 l0_0.length c0_0), (.slice A0_1 l0_1.length c0_1)] 30 (0, 0))) ∧ Aside0 (Below w.heap.size w w'))
  case atStart => exact ⟨(y447), (0), (by first | rfl | (simp; done) | (simp [*]; done)), H', ⟨Nat.le_refl _⟩, ⟨by (with_reducible repeat (first | apply Kd.V_alloc | apply Kd.V_drewN | apply Kd.V_drew)); exact Kd.V_mono HO1.out (fun _ hk => ⟨hk.1.1, ⟨hk.2, hk.1.2⟩⟩)⟩, ⟨by (with_reducible repeat (first | apply Kd.N_alloc | apply Kd.N_drewN | apply Kd.N_drew)); exact HO449.out⟩, ⟨by (with_reducible repeat (first | refine qn ?_ _ | refine qd ?_ | refine qa ?_ _)); exact BK446.out⟩, ⟨by repeat (first | (with_reducible first | exact HB.out | apply qA | apply qN | apply qD | refine qS ?_ GE446.out) | exact HB.out)⟩⟩
  case round =>
    clear H'
    try clear c1
    try clear p2
    try clear c3
    try clear c3b0
    try clear c3b1
    obtain ⟨x5_1, x6_1, rfl, HA, HK1, HO_1, HO_5, BK446, HB⟩ := hrel
    cases gk with
    | zero => exact absurd HA.out (by simp [spec_CloudOk.l0])
    | succ k1 =>
      have H := HA.out
      clear HA
      simp only [spec_CloudOk.l0] at H
      by_cases c8 : x6_1 < (l1.length : Int)
      rotate_left
      · rw [if_neg c8] at H
        have c8b0 : decide (x6_1 < (l1.length : Int)) = false := decide_eq_false c8
        clear c8
        replace H := Option.bind_eq_some_iff.mp H
        obtain ⟨t456, A140, H⟩ := H
        replace H : (some t456) = some r := H
        have A14 := qM A140
        clear A140
        obtain rfl := Option.some.inj H
        have hcz15_0 : wr.cell? ⟨gb446, 0, none⟩ = some (.slice A0_0 l0_0.length c0_0) := (qC BK446.out 0).trans rfl
        have hcz15_1 : wr.cell? ⟨gb446, 1, none⟩ = some (.slice A0_1 l0_1.length c0_1) := (qC BK446.out 1).trans rfl
        have hfz15_0 := qF BK446.out 0
        have hfz15_1 := qF BK446.out 1
        obtain ⟨Ao16, co16, eo16⟩ := Kd.N_slice HO_5.out
        subst eo16
        go_wp2_with (first | ((with_reducible refine gate_callee (f := 27) rfl ?_); refine goesL_ (some 34) rfl rfl Try.func27 (by kernel_rfl) rfl #[.agg #[.slice A0_0 l0_0.length c0_0, .slice A0_1 l0_1.length c0_1], .slice Ao16 x5_1.length co16] rfl (by (try simp only [List.map_toArray, List.map_cons, List.map_nil]); first | done | rfl | (simp only [List.length_drop, List.length_take]; rfl)) ?_; (with_reducible refine (spec_RowOk.calls k1 _ _ l0_0 _ _ l0_1 _ _ x5_1 t456 _ ?side1 ?side2 ?side3 ?side4 ?side5 ?side6 A14.out).mono ?_); (case side1 => repeat (first | exact (qB HR0_0.out HB.out) | (with_reducible refine qc ?_ _) | (with_reducible refine qe ?_ _) | (with_reducible refine qf ?_))); (case side2 => exact HC0_0.out); (case side3 => repeat (first | exact (qB HR0_1.out HB.out) | (with_reducible refine qc ?_ _) | (with_reducible refine qe ?_ _) | (with_reducible refine qf ?_))); (case side4 => exact HC0_1.out); (case side5 => repeat (first | exact (Kd.N_reads' HO_5.out).2.2 | (with_reducible refine qc ?_ _) | (with_reducible refine qe ?_ _) | (with_reducible refine qf ?_))); (case side6 => exact (Kd.N_reads' HO_5.out).2.1); rintro e w17 ⟨rfl, hb⟩; refine ⟨_, rfl, ?_⟩; have n0_ := qM (Kd.V_below (by (with_reducible repeat (first | apply Kd.V_alloc | apply Kd.V_drewN | apply Kd.V_drew)); exact HO_1.out) hb); have n1_ := qM (Kd.N_below (by (with_reducible repeat (first | apply Kd.N_alloc | apply Kd.N_drewN | apply Kd.N_drew)); exact HO_5.out) hb); have n2_ := qM (blk_below (g := gb446) (o := .cells #[.slice A0_0 l0_0.length c0_0, .slice A0_1 l0_1.length c0_1] 30 (0, 0)) (by (with_reducible repeat (first | refine qn ?_ _ | refine qd ?_ | refine qa ?_ _)); exact BK446.out) hb); have n3_ := qM (qs (by repeat (first | (with_reducible first | exact HB.out | apply qA | apply qN | apply qD | refine qS ?_ GE446.out) | exact HB.out)) hb); clear HO_1; clear HO_5; clear BK446; clear HB; have HO_1 := n0_; have HO_5 := n1_; have BK446 := n2_; have HB := n3_; clear n0_ n1_ n2_ n3_; (try clear hb); (try clear hb2); (try clear hk); (try clear hi)))
        go_ret
        exact ⟨by first | rfl | (simp [errW_none, errW_some] <;> rfl) | (simp [*, errW_none, errW_some] <;> rfl), by repeat (first | (with_reducible first | exact HB.out | apply qA | apply qN | apply qD | refine qS ?_ GE446.out) | exact HB.out)⟩
      rw [if_pos c8] at H
      have c8b0 : decide (x6_1 < (l1.length : Int)) = true := decide_eq_true c8
      clear c8
      by_cases c9 : 0 ≤ x6_1
      rotate_left
      · rw [if_neg c9] at H
        exact absurd H (by simp)
      rw [if_pos c9] at H
      have c9b0 : decide (0 ≤ x6_1) = true := decide_eq_true c9
      clear c9
      replace H := Option.bind_eq_some_iff.mp H
      obtain ⟨t451, A100, H⟩ := H
      replace H : (if t451 = true then (if x5_1.length < 2932031007402 then (spec_CloudOk.l0 k1 l1 (x5_1 ++ [(⟨(rd_T105 l1 x6_1).f1.f0, (rd_T105 l1 x6_1).f1.f1⟩ : S95)]) (wrap64 (x6_1 + 1)) l0_0 l0_1) else (none)) else (some false)) = some r := H
      have A10 := qM A100
      clear A100
      by_cases c11 : t451 = true
      rotate_left
      · replace c11 := Bool.eq_false_iff.mpr c11
        subst c11
        have H1 : (some false) = some r := by rw [if_neg (show ¬ (false = true) by decide)] at H; exact H
        clear H
        have H := H1
        clear H1
        obtain rfl := Option.some.inj H
        have p450 : 0 ≤ (x6_1 : Int) := qO (by first | (with_reducible assumption) | assumption)
        have q450 : x6_1 < (l1.length : Int) := qO (by first | (with_reducible assumption) | assumption)
        obtain ⟨ad450, A450_1, c450_1, A450_2, c450_2, e450, hx450_0, hx450_1, hx450_2, hl450_1, hi450_1, hl450_2, hi450_2⟩ := at_T105 (Kd.V_reads' HO_1.out).2.2 x6_1 p450 q450
        cases e450
        obtain ⟨ce450, hce450, hMe450, hcc450⟩ := Kd.V_get HO_1.out z105 x6_1 p450 (by first | exact q450 | exact qO (by first | (with_reducible assumption) | assumption) | (have e_ := (Kd.V_reads' HO_1.out).1; omega))
        obtain ⟨ua450_1, uc450_1, ua450_2, uc450_2, rfl, ul450_1, ge450_1, ul450_2, ge450_2⟩ := k105_openF hMe450
        have hv450_1 := hcc450 1 _ rfl
        rw [add_field _ _ 1 (by omega)] at hv450_1
        replace hv450_1 := Option.some.inj (hv450_1.symm.trans hx450_1)
        injection hv450_1 with hva_ hvn_ hvc_
        rw [hva_] at ge450_1
        rw [hvc_] at ul450_1
        have HL450_1 := qM (show Kd.V (Kd.int .i64) 3 _ w.heap.size _ _ ((rd_T105 l1 x6_1).f1.f0) from Kd.V_mk ul450_1 ge450_1)
        clear hva_ hvn_ hvc_ ge450_1 ul450_1
        have hv450_2 := hcc450 2 _ rfl
        rw [add_field _ _ 2 (by omega)] at hv450_2
        replace hv450_2 := Option.some.inj (hv450_2.symm.trans hx450_2)
        injection hv450_2 with hva_ hvn_ hvc_
        rw [hva_] at ge450_2
        rw [hvc_] at ul450_2
        have HL450_2 := qM (show Kd.V (Kd.int .i64) 3 _ w.heap.size _ _ ((rd_T105 l1 x6_1).f1.f1) from Kd.V_mk ul450_2 ge450_2)
        clear hva_ hvn_ hvc_ ge450_2 ul450_2
        clear hcc450 hce450
        have HR450_1 := qM hi450_1
        have HC450_1 := qM hl450_1
        clear hi450_1 hl450_1
        have HR450_2 := qM hi450_2
        have HC450_2 := qM hl450_2
        clear hi450_2 hl450_2
        replace p450 := eq_true p450
        replace q450 := eq_true q450
        go_wp2_with (first | ((with_reducible refine gate_callee (f := 82) rfl ?_); refine goesL_ (some 22) rfl rfl Try.func82 (by kernel_rfl) rfl #[.int .i64 ((rd_T105 l1 x6_1).f0), .int .i64 0, .int .i64 2] rfl (by (try simp only [List.map_toArray, List.map_cons, List.map_nil]); first | done | rfl | (simp only [List.length_drop, List.length_take]; rfl)) ?_; (with_reducible refine (spec_l6In.calls ((rd_T105 l1 x6_1).f0) 0 2 false _ A10.out).mono ?_); rintro e w' ⟨rfl, ⟨nd, rfl⟩⟩; refine ⟨_, rfl, ?_⟩))
        go_ret
        exact ⟨by first | rfl | (simp [errW_none, errW_some] <;> rfl) | (simp [*, errW_none, errW_some] <;> rfl), by repeat (first | (with_reducible first | exact HB.out | apply qA | apply qN | apply qD | refine qS ?_ GE446.out) | exact HB.out)⟩
      subst c11
      have H1 : (if x5_1.length < 2932031007402 then (spec_CloudOk.l0 k1 l1 (x5_1 ++ [(⟨(rd_T105 l1 x6_1).f1.f0, (rd_T105 l1 x6_1).f1.f1⟩ : S95)]) (wrap64 (x6_1 + 1)) l0_0 l0_1) else (none)) = some r := by rw [if_pos rfl] at H; exact H
      clear H
      have H := H1
      clear H1
      by_cases c12 : x5_1.length < 2932031007402
      rotate_left
      · rw [if_neg c12] at H
        exact absurd H (by simp)
      rw [if_pos c12] at H
      have LMc12 := qM c12
      clear c12
      obtain ⟨y453, hy453⟩ : ∃ y_ : List (S95), y_ = (x5_1 ++ [(⟨(rd_T105 l1 x6_1).f1.f0, (rd_T105 l1 x6_1).f1.f1⟩ : S95)]) := ⟨_, rfl⟩
      replace H : (spec_CloudOk.l0 k1 l1 y453 (wrap64 (x6_1 + 1)) l0_0 l0_1) = some r := by first | (rw [hy453]; with_reducible exact H) | (have H2_ := (Option.bind_some _ _).symm.trans H; rw [hy453]; with_reducible exact H2_) | (have H2_ := (Option.bind_some _ _).symm.trans H; with_reducible exact H2_) | with_reducible exact H | (rw [hy453]; exact H) | exact H
      have Ny453 := qM hy453
      clear hy453
      have H' := qM H
      clear H
      have p450 : 0 ≤ (x6_1 : Int) := qO (by first | (with_reducible assumption) | assumption)
      have q450 : x6_1 < (l1.length : Int) := qO (by first | (with_reducible assumption) | assumption)
      obtain ⟨ad450, A450_1, c450_1, A450_2, c450_2, e450, hx450_0, hx450_1, hx450_2, hl450_1, hi450_1, hl450_2, hi450_2⟩ := at_T105 (Kd.V_reads' HO_1.out).2.2 x6_1 p450 q450
      cases e450
      obtain ⟨ce450, hce450, hMe450, hcc450⟩ := Kd.V_get HO_1.out z105 x6_1 p450 (by first | exact q450 | exact qO (by first | (with_reducible assumption) | assumption) | (have e_ := (Kd.V_reads' HO_1.out).1; omega))
      obtain ⟨ua450_1, uc450_1, ua450_2, uc450_2, rfl, ul450_1, ge450_1, ul450_2, ge450_2⟩ := k105_openF hMe450
      have hv450_1 := hcc450 1 _ rfl
      rw [add_field _ _ 1 (by omega)] at hv450_1
      replace hv450_1 := Option.some.inj (hv450_1.symm.trans hx450_1)
      injection hv450_1 with hva_ hvn_ hvc_
      rw [hva_] at ge450_1
      rw [hvc_] at ul450_1
      have HL450_1 := qM (show Kd.V (Kd.int .i64) 3 _ w.heap.size _ _ ((rd_T105 l1 x6_1).f1.f0) from Kd.V_mk ul450_1 ge450_1)
      clear hva_ hvn_ hvc_ ge450_1 ul450_1
      have hv450_2 := hcc450 2 _ rfl
      rw [add_field _ _ 2 (by omega)] at hv450_2
      replace hv450_2 := Option.some.inj (hv450_2.symm.trans hx450_2)
      injection hv450_2 with hva_ hvn_ hvc_
      rw [hva_] at ge450_2
      rw [hvc_] at ul450_2
      have HL450_2 := qM (show Kd.V (Kd.int .i64) 3 _ w.heap.size _ _ ((rd_T105 l1 x6_1).f1.f1) from Kd.V_mk ul450_2 ge450_2)
      clear hva_ hvn_ hvc_ ge450_2 ul450_2
      clear hcc450 hce450
      have HR450_1 := qM hi450_1
      have HC450_1 := qM hl450_1
      clear hi450_1 hl450_1
      have HR450_2 := qM hi450_2
      have HC450_2 := qM hl450_2
      clear hi450_2 hl450_2
      replace p450 := eq_true p450
      replace q450 := eq_true q450
      go_wp2_with (first | ((with_reducible refine gate_callee (f := 82) rfl ?_); refine goesL_ (some 22) rfl rfl Try.func82 (by kernel_rfl) rfl #[.int .i64 ((rd_T105 l1 x6_1).f0), .int .i64 0, .int .i64 2] rfl (by (try simp only [List.map_toArray, List.map_cons, List.map_nil]); first | done | rfl | (simp only [List.length_drop, List.length_take]; rfl)) ?_; (with_reducible refine (spec_l6In.calls ((rd_T105 l1 x6_1).f0) 0 2 true _ A10.out).mono ?_); rintro e w' ⟨rfl, ⟨nd, rfl⟩⟩; refine ⟨_, rfl, ?_⟩; have p452 : 0 ≤ (x6_1 : Int) := qO (by first | (with_reducible assumption) | assumption); have q452 : x6_1 < (l1.length : Int) := qO (by first | (with_reducible assumption) | assumption); obtain ⟨ad452, A452_1, c452_1, A452_2, c452_2, e452, hx452_0, hx452_1, hx452_2, hl452_1, hi452_1, hl452_2, hi452_2⟩ := at_T105 (Kd.V_reads' HO_1.out).2.2 x6_1 p452 q452; obtain rfl : ad450 = ad452 := (by injection e452); obtain ⟨ce452, hce452, hMe452, hcc452⟩ := Kd.V_get HO_1.out z105 x6_1 p452 (by first | exact q452 | exact qO (by first | (with_reducible assumption) | assumption) | (have e_ := (Kd.V_reads' HO_1.out).1; omega)); obtain ⟨ua452_1, uc452_1, ua452_2, uc452_2, rfl, ul452_1, ge452_1, ul452_2, ge452_2⟩ := k105_openF hMe452; have hv452_1 := hcc452 1 _ rfl; rw [add_field _ _ 1 (by omega)] at hv452_1; replace hv452_1 := Option.some.inj (hv452_1.symm.trans hx452_1); injection hv452_1 with hva_ hvn_ hvc_; rw [hva_] at ge452_1; rw [hvc_] at ul452_1; have HL452_1 := qM (show Kd.V (Kd.int .i64) 3 _ w.heap.size _ _ ((rd_T105 l1 x6_1).f1.f0) from Kd.V_mk ul452_1 ge452_1); clear hva_ hvn_ hvc_ ge452_1 ul452_1; have hv452_2 := hcc452 2 _ rfl; rw [add_field _ _ 2 (by omega)] at hv452_2; replace hv452_2 := Option.some.inj (hv452_2.symm.trans hx452_2); injection hv452_2 with hva_ hvn_ hvc_; rw [hva_] at ge452_2; rw [hvc_] at ul452_2; have HL452_2 := qM (show Kd.V (Kd.int .i64) 3 _ w.heap.size _ _ ((rd_T105 l1 x6_1).f1.f1) from Kd.V_mk ul452_2 ge452_2); clear hva_ hvn_ hvc_ ge452_2 ul452_2; clear hcc452 hce452; have HR452_1 := qM hi452_1; have HC452_1 := qM hl452_1; clear hi452_1 hl452_1; have HR452_2 := qM hi452_2; have HC452_2 := qM hl452_2; clear hi452_2 hl452_2; replace p452 := eq_true p452; replace q452 := eq_true q452; have ea_ := Option.some.inj (hx450_1.symm.trans hx452_1); injection ea_ with ea_ en_ ec_; subst ea_; subst ec_; clear en_; have ea_ := Option.some.inj (hx450_2.symm.trans hx452_2); injection ea_ with ea_ en_ ec_; subst ea_; subst ec_; clear en_) | ((with_reducible refine gate_builtin (b := .append) (xs := #[.tmp 24, .tmp 30]) rfl ?_); at_builtin; refine Kd.N_append k95 (w0 := w) w.heap.size rfl (.tmp 24) (.tmp 30) 45 95 (.agg #[(.slice none 0 0), (.slice none 0 0)]) 48 rfl Try.underlying45 info95 rfl (by decide) (by omega) u5 x5_1 (⟨(rd_T105 l1 x6_1).f1.f0, (rd_T105 l1 x6_1).f1.f1⟩ : S95) [.slice A450_1 ((rd_T105 l1 x6_1).f1.f0).length c450_1, .slice A450_2 ((rd_T105 l1 x6_1).f1.f1).length c450_2] (fun k_ => (P1_ k_ ∨ w.heap.size ≤ k_) ∧ k_ ≠ gb446) (fun k_ => ((fun k_ => (P1_ k_ ∨ w.heap.size ≤ k_) ∧ k_ ≠ gb446)) k_ ∧ some k_ ≠ (u5 : Value).ownBlock) rfl rfl ?aP (fun _ hk => hk) ?aF ?aO ?aB ?aS ?aL ?_; (case aP => exact (k95_mkF _ _ (⟨(rd_T105 l1 x6_1).f1.f0, (rd_T105 l1 x6_1).f1.f1⟩ : S95) (Kd.V_reads' (Kd.V_mono (ok' := (fun k_ => ((fun k_ => (P1_ k_ ∨ w.heap.size ≤ k_) ∧ k_ ≠ gb446)) k_ ∧ some k_ ≠ (u5 : Value).ownBlock)) (HL452_1.out) (fun k_ hk => ⟨⟨hk.1, hk.2.2⟩, hk.2.1⟩))).2.1 (Kd.V_F (Kd.V_mono (ok' := (fun k_ => ((fun k_ => (P1_ k_ ∨ w.heap.size ≤ k_) ∧ k_ ≠ gb446)) k_ ∧ some k_ ≠ (u5 : Value).ownBlock)) (HL452_1.out) (fun k_ hk => ⟨⟨hk.1, hk.2.2⟩, hk.2.1⟩))) (Kd.V_reads' (Kd.V_mono (ok' := (fun k_ => ((fun k_ => (P1_ k_ ∨ w.heap.size ≤ k_) ∧ k_ ≠ gb446)) k_ ∧ some k_ ≠ (u5 : Value).ownBlock)) (HL452_2.out) (fun k_ hk => ⟨⟨hk.1, hk.2.2⟩, hk.2.1⟩))).2.1 (Kd.V_F (Kd.V_mono (ok' := (fun k_ => ((fun k_ => (P1_ k_ ∨ w.heap.size ≤ k_) ∧ k_ ≠ gb446)) k_ ∧ some k_ ≠ (u5 : Value).ownBlock)) (HL452_2.out) (fun k_ hk => ⟨⟨hk.1, hk.2.2⟩, hk.2.1⟩))))); (case aB => exact (by repeat (first | (with_reducible first | exact HB.out | apply qA | apply qN | apply qD | refine qS ?_ GE446.out) | exact HB.out))); (case aF => exact (fun k_ hk => ⟨(.inr (Nat.le_trans (qz (by repeat (first | (with_reducible first | exact HB.out | apply qA | apply qN | apply qD | refine qS ?_ GE446.out) | exact HB.out))) hk)), Kd.freshB (g := gb446) (o := .cells #[.slice A0_0 l0_0.length c0_0, .slice A0_1 l0_1.length c0_1] 30 (0, 0)) (by (with_reducible repeat (first | refine qn ?_ _ | refine qd ?_ | refine qa ?_ _)); exact BK446.out) k_ hk⟩)); (case aO => exact (by (with_reducible repeat (first | apply Kd.N_alloc | apply Kd.N_drewN | apply Kd.N_drew)); exact HO_5.out)); (case aS => exact (qz (by repeat (first | (with_reducible first | exact HB.out | apply qA | apply qN | apply qD | refine qS ?_ GE446.out) | exact HB.out)))); (case aL => have := LMc12.out; omega); intro v454 w13 ho hb hg hat; rw [← Ny453.out] at ho; have n0_ := qM (Kd.V_afterv (ok := (fun k_ => (P1_ k_ ∨ w.heap.size ≤ k_) ∧ k_ ≠ gb446)) (by (with_reducible repeat (first | apply Kd.V_alloc | apply Kd.V_drewN | apply Kd.V_drew)); exact Kd.V_mono HO_1.out (fun _ hk => ⟨⟨hk.1, hk.2.2⟩, hk.2.1⟩)) hg hat); have n1_ := qM (blk_grown (g := gb446) (o := .cells #[.slice A0_0 l0_0.length c0_0, .slice A0_1 l0_1.length c0_1] 30 (0, 0)) (by (with_reducible repeat (first | refine qn ?_ _ | refine qd ?_ | refine qa ?_ _)); exact BK446.out) hg (Kd.N_ne HO_5.out BK446.out (by decide))); have n2_ := qM (Kd.V_afterv (ok := (fun k_ => (P1_ k_ ∨ w.heap.size ≤ k_) ∧ k_ ≠ gb446)) (by (with_reducible repeat (first | apply Kd.V_alloc | apply Kd.V_drewN | apply Kd.V_drew)); exact Kd.V_mono HL450_1.out (fun _ hk => ⟨⟨hk.1, hk.2.2⟩, hk.2.1⟩)) hg hat); have n3_ := qM (Kd.V_afterv (ok := (fun k_ => (P1_ k_ ∨ w.heap.size ≤ k_) ∧ k_ ≠ gb446)) (by (with_reducible repeat (first | apply Kd.V_alloc | apply Kd.V_drewN | apply Kd.V_drew)); exact Kd.V_mono HL450_2.out (fun _ hk => ⟨⟨hk.1, hk.2.2⟩, hk.2.1⟩)) hg hat); have n4_ := qM (Kd.V_afterv (ok := (fun k_ => (P1_ k_ ∨ w.heap.size ≤ k_) ∧ k_ ≠ gb446)) (by (with_reducible repeat (first | apply Kd.V_alloc | apply Kd.V_drewN | apply Kd.V_drew)); exact Kd.V_mono HL452_1.out (fun _ hk => ⟨⟨hk.1, hk.2.2⟩, hk.2.1⟩)) hg hat); have n5_ := qM (Kd.V_afterv (ok := (fun k_ => (P1_ k_ ∨ w.heap.size ≤ k_) ∧ k_ ≠ gb446)) (by (with_reducible repeat (first | apply Kd.V_alloc | apply Kd.V_drewN | apply Kd.V_drew)); exact Kd.V_mono HL452_2.out (fun _ hk => ⟨⟨hk.1, hk.2.2⟩, hk.2.1⟩)) hg hat); have n6_ := qM (hb); have n7_ := qM (ho); clear HO_1; clear BK446; clear HL450_1; clear HL450_2; clear HL452_1; clear HL452_2; clear HB; clear HO_5; have HO_1 := n0_; have BK446 := n1_; have HL450_1 := n2_; have HL450_2 := n3_; have HL452_1 := n4_; have HL452_2 := n5_; have HB := n6_; have HO455 := n7_; clear n0_ n1_ n2_ n3_ n4_ n5_ n6_ n7_; clear ho hb hg hat))
      go_roundg k1
      case measure => have := HK1.out; omega
      case rel => exact ⟨(y453), (wrap64 (x6_1 + 1)), (by first | rfl | (simp; done) | (simp [*]; done)), H', ⟨by have := HK1.out; omega⟩, ⟨by (with_reducible repeat (first | apply Kd.V_alloc | apply Kd.V_drewN | apply Kd.V_drew)); exact Kd.V_mono HO_1.out (fun _ hk => ⟨hk.1.1, ⟨hk.2, hk.1.2⟩⟩)⟩, ⟨by (with_reducible repeat (first | apply Kd.N_alloc | apply Kd.N_drewN | apply Kd.N_drew)); exact HO455.out⟩, ⟨by (with_reducible repeat (first | refine qn ?_ _ | refine qd ?_ | refine qa ?_ _)); exact BK446.out⟩, ⟨by repeat (first | (with_reducible first | exact HB.out | apply qA | apply qN | apply qD | refine qS ?_ GE446.out) | exact HB.out)⟩⟩
def laws_toShared.f (k : Nat) (a0_0 : Int) (l0_1 : List Int) (l0_2 : List Int) : Option (Int × List Int × List Int) := (laws_toOrder.f k l0_1 l0_2).bind fun bt460 => (some (a0_0, bt460.1, bt460.2))
set_option maxHeartbeats 8000000 in
set_option maxRecDepth 100000 in
theorem laws_toShared.calls (k : Nat) (a0_0 : Int) (A0_1 : Option Addr) (c0_1 : Nat) (l0_1 : List Int) (A0_2 : Option Addr) (c0_2 : Nat) (l0_2 : List Int) (r1 : Int) (r2 : List Int) (r3 : List Int) (w : World) (hr0_1 : Kd.C (Kd.int .i64) w A0_1 l0_1.length l0_1) (hc0_1 : l0_1.length ≤ c0_1) (hr0_2 : Kd.C (Kd.int .i64) w A0_2 l0_2.length l0_2) (hc0_2 : l0_2.length ≤ c0_2) (h : laws_toShared.f k a0_0 l0_1 l0_2 = some (r1, r2, r3)) :
    Calls Try.prog 83 #[.agg #[.int .i64 a0_0, .slice A0_1 l0_1.length c0_1, .slice A0_2 l0_2.length c0_2]] w fun e w' => ∃ v1_ v2_ : Value, e = .returned (.agg #[.int .i64 r1, v1_, v2_]) ∧ Kd.R (Kd.int .i64) 3 w' w.heap.size (fun k_ => some k_ ≠ (v2_ : Value).ownBlock) v1_ r2 ∧ Kd.R (Kd.int .i64) 3 w' w.heap.size (fun k_ => some k_ ≠ (v1_ : Value).ownBlock) v2_ r3 ∧ Below w.heap.size w w' := by
  have hu102 := Try.underlying102
  have hu105 := Try.underlying105
  have hu94 := Try.underlying94
  have hu95 := Try.underlying95
  have HR0_1 := qM hr0_1
  have HC0_1 := qM hc0_1
  clear hr0_1 hc0_1
  have HR0_2 := qM hr0_2
  have HC0_2 := qM hc0_2
  clear hr0_2 hc0_2
  have HB := qM (Below.refl w.heap.size w)
  have H : ((laws_toOrder.f k l0_1 l0_2).bind fun bt460 => (some (a0_0, bt460.1, bt460.2))) = some (r1, r2, r3) := h
  clear h
  replace H := Option.bind_eq_some_iff.mp H
  obtain ⟨⟨t460, t463⟩, A20, H⟩ := H
  replace H : (some (a0_0, t460, t463)) = some (r1, r2, r3) := H
  have A2 := qM A20
  clear A20
  simp only [Option.some.injEq, Prod.mk.injEq] at H
  obtain ⟨rfl, rfl, rfl⟩ := H
  go_enter Try.func83, Try.ntmps83
  go_wp2_with (first | ((with_reducible refine gate_dst (N := 1) rfl ?_); refine box_event ?hg (N := 1) ?hd (cs := #[.int .i64 a0_0, .slice A0_1 l0_1.length c0_1, .slice A0_2 l0_2.length c0_2]) (t := 102) ?hr ?_; (case hd => rfl); (case hg => rfl); (case hr => first | (go_simp; done) | (go_simp; rfl)); intro gb457 hg w3 hbox hb; have n0_ := qM (qs (by repeat (first | (with_reducible first | exact HB.out | apply qA | apply qN | apply qD) | exact HB.out)) hb); have n1_ := qM (hbox); have n2_ := qM ((by rw [hg]; exact (qz (by repeat (first | (with_reducible first | exact HB.out | apply qA | apply qN | apply qD) | exact HB.out))) : w.heap.size ≤ gb457)); have n3_ := qM ((by rw [hg]; exact (qz (by repeat (first | (with_reducible first | exact HB.out | apply qA | apply qN | apply qD) | exact HB.out))) : w.heap.size ≤ gb457)); clear HB; have HB := n0_; have BK457 := n1_; have GW457 := n2_; have GE457 := n3_; clear n0_ n1_ n2_ n3_; clear hb hbox hg) | ((with_reducible refine gate_dst (N := 2) rfl ?_); refine box_event ?hg (N := 2) ?hd (cs := #[.int .i64 0, .slice none 0 0, .slice none 0 0]) (t := 105) ?hr ?_; (case hd => rfl); (case hg => rfl); (case hr => first | (go_simp; done) | (go_simp; rfl)); intro gb458 hg w4 hbox hb; have n0_ := qM (blk_below (g := gb457) (o := .cells #[.int .i64 a0_0, .slice A0_1 l0_1.length c0_1, .slice A0_2 l0_2.length c0_2] 102 (0, 0)) (by (with_reducible repeat (first | refine qn ?_ _ | refine qd ?_ | refine qa ?_ _)); exact BK457.out) hb); have n1_ := qM (qs (by repeat (first | (with_reducible first | exact HB.out | apply qA | apply qN | apply qD | refine qS ?_ GE457.out) | exact HB.out)) hb); have n2_ := qM (hbox); have n3_ := qM ((by rw [hg]; exact (qz (by repeat (first | (with_reducible first | exact HB.out | apply qA | apply qN | apply qD | refine qS ?_ GE457.out) | exact HB.out))) : w.heap.size ≤ gb458)); have n4_ := qM ((by rw [hg]; exact (qz (by repeat (first | (with_reducible first | exact HB.out | apply qA | apply qN | apply qD | refine qS ?_ GE457.out) | exact HB.out))) : w.heap.size ≤ gb458)); have n5_ := qM ((by rw [hg]; exact Nat.ne_of_lt (blk_lt (g := gb457) (o := .cells #[.int .i64 a0_0, .slice A0_1 l0_1.length c0_1, .slice A0_2 l0_2.length c0_2] 102 (0, 0)) (by (with_reducible repeat (first | refine qn ?_ _ | refine qd ?_ | refine qa ?_ _)); exact BK457.out)) : gb457 ≠ gb458)); have n6_ := qM ((by rw [hg]; exact Nat.ne_of_gt (blk_lt (g := gb457) (o := .cells #[.int .i64 a0_0, .slice A0_1 l0_1.length c0_1, .slice A0_2 l0_2.length c0_2] 102 (0, 0)) (by (with_reducible repeat (first | refine qn ?_ _ | refine qd ?_ | refine qa ?_ _)); exact BK457.out)) : gb458 ≠ gb457)); clear BK457; clear HB; have BK457 := n0_; have HB := n1_; have BK458 := n2_; have GW458 := n3_; have GE458 := n4_; have NB457_458 := n5_; have NB458_457 := n6_; clear n0_ n1_ n2_ n3_ n4_ n5_ n6_; clear hb hbox hg) | ((with_reducible refine gate_dst (N := 3) rfl ?_); refine box_event ?hg (N := 3) ?hd (cs := #[.int .i64 0, .slice none 0 0, .slice none 0 0]) (t := 105) ?hr ?_; (case hd => rfl); (case hg => rfl); (case hr => first | (go_simp; done) | (go_simp; rfl)); intro gb459 hg w5 hbox hb; have n0_ := qM (blk_below (g := gb457) (o := .cells #[.int .i64 a0_0, .slice A0_1 l0_1.length c0_1, .slice A0_2 l0_2.length c0_2] 102 (0, 0)) (by (with_reducible repeat (first | refine qn ?_ _ | refine qd ?_ | refine qa ?_ _)); exact BK457.out) hb); have n1_ := qM (blk_below (g := gb458) (o := .cells #[.int .i64 0, .slice none 0 0, .slice none 0 0] 105 (0, 0)) (by (with_reducible repeat (first | refine qn ?_ _ | refine qd ?_ | refine qa ?_ _)); exact BK458.out) hb); have n2_ := qM (qs (by repeat (first | (with_reducible first | exact HB.out | apply qA | apply qN | apply qD | refine qS ?_ GE457.out | refine qS ?_ GE458.out) | exact HB.out)) hb); have n3_ := qM (hbox); have n4_ := qM ((by rw [hg]; exact (qz (by repeat (first | (with_reducible first | exact HB.out | apply qA | apply qN | apply qD | refine qS ?_ GE457.out | refine qS ?_ GE458.out) | exact HB.out))) : w.heap.size ≤ gb459)); have n5_ := qM ((by rw [hg]; exact (qz (by repeat (first | (with_reducible first | exact HB.out | apply qA | apply qN | apply qD | refine qS ?_ GE457.out | refine qS ?_ GE458.out) | exact HB.out))) : w.heap.size ≤ gb459)); have n6_ := qM ((by rw [hg]; exact Nat.ne_of_lt (blk_lt (g := gb457) (o := .cells #[.int .i64 a0_0, .slice A0_1 l0_1.length c0_1, .slice A0_2 l0_2.length c0_2] 102 (0, 0)) (by (with_reducible repeat (first | refine qn ?_ _ | refine qd ?_ | refine qa ?_ _)); exact BK457.out)) : gb457 ≠ gb459)); have n7_ := qM ((by rw [hg]; exact Nat.ne_of_gt (blk_lt (g := gb457) (o := .cells #[.int .i64 a0_0, .slice A0_1 l0_1.length c0_1, .slice A0_2 l0_2.length c0_2] 102 (0, 0)) (by (with_reducible repeat (first | refine qn ?_ _ | refine qd ?_ | refine qa ?_ _)); exact BK457.out)) : gb459 ≠ gb457)); have n8_ := qM ((by rw [hg]; exact Nat.ne_of_lt (blk_lt (g := gb458) (o := .cells #[.int .i64 0, .slice none 0 0, .slice none 0 0] 105 (0, 0)) (by (with_reducible repeat (first | refine qn ?_ _ | refine qd ?_ | refine qa ?_ _)); exact BK458.out)) : gb458 ≠ gb459)); have n9_ := qM ((by rw [hg]; exact Nat.ne_of_gt (blk_lt (g := gb458) (o := .cells #[.int .i64 0, .slice none 0 0, .slice none 0 0] 105 (0, 0)) (by (with_reducible repeat (first | refine qn ?_ _ | refine qd ?_ | refine qa ?_ _)); exact BK458.out)) : gb459 ≠ gb458)); clear BK457; clear BK458; clear HB; have BK457 := n0_; have BK458 := n1_; have HB := n2_; have BK459 := n3_; have GW459 := n4_; have GE459 := n5_; have NB457_459 := n6_; have NB459_457 := n7_; have NB458_459 := n8_; have NB459_458 := n9_; clear n0_ n1_ n2_ n3_ n4_ n5_ n6_ n7_ n8_ n9_; clear hb hbox hg; have hnb6 := NB457_458.out; have hnc6 := NB458_457.out; have hnb7 := NB457_459.out; have hnc7 := NB459_457.out; have hcz8_0 : w5.cell? ⟨gb457, 0, none⟩ = some (.int .i64 a0_0) := (qC BK457.out 0).trans rfl; have hcz8_1 : w5.cell? ⟨gb457, 1, none⟩ = some (.slice A0_1 l0_1.length c0_1) := (qC BK457.out 1).trans rfl; have hcz8_2 : w5.cell? ⟨gb457, 2, none⟩ = some (.slice A0_2 l0_2.length c0_2) := (qC BK457.out 2).trans rfl; have hfz8_0 := qF BK457.out 0; have hfz8_1 := qF BK457.out 1; have hfz8_2 := qF BK457.out 2; have hnb9 := NB459_458.out; have hnc9 := NB458_459.out; have hcz10_0 : w5.cell? ⟨gb459, 0, none⟩ = some (.int .i64 0) := (qC BK459.out 0).trans rfl; have hcz10_1 : w5.cell? ⟨gb459, 1, none⟩ = some (.slice none 0 0) := (qC BK459.out 1).trans rfl; have hcz10_2 : w5.cell? ⟨gb459, 2, none⟩ = some (.slice none 0 0) := (qC BK459.out 2).trans rfl; have hfz10_0 := qF BK459.out 0; have hfz10_1 := qF BK459.out 1; have hfz10_2 := qF BK459.out 2) | ((with_reducible refine gate_callee (f := 76) rfl ?_); refine goesL_ (some 9) rfl rfl Try.func76 (by kernel_rfl) rfl #[.agg #[.slice A0_1 l0_1.length c0_1, .slice A0_2 l0_2.length c0_2]] rfl (by (try simp only [List.map_toArray, List.map_cons, List.map_nil]); first | done | rfl | (simp only [List.length_drop, List.length_take]; rfl)) ?_; (with_reducible refine (laws_toOrder.calls k _ _ l0_1 _ _ l0_2 t460 t463 _ ?side1 ?side2 ?side3 ?side4 A2.out).mono ?_); (case side1 => exact qB HR0_1.out (by repeat (first | (with_reducible first | exact HB.out | apply qA | apply qN | apply qD | refine qS ?_ GE457.out | refine qS ?_ GE458.out | refine qS ?_ GE459.out) | exact HB.out))); (case side2 => exact HC0_1.out); (case side3 => exact qB HR0_2.out (by repeat (first | (with_reducible first | exact HB.out | apply qA | apply qN | apply qD | refine qS ?_ GE457.out | refine qS ?_ GE458.out | refine qS ?_ GE459.out) | exact HB.out))); (case side4 => exact HC0_2.out); rintro e w11 ⟨v461, v464, rfl, ho0, ho1, hb⟩; refine ⟨_, rfl, ?_⟩; have n0_ := qM (Kd.R_lower ho0 (qz (by repeat (first | (with_reducible first | exact HB.out | apply qA | apply qN | apply qD | refine qS ?_ GE457.out | refine qS ?_ GE458.out | refine qS ?_ GE459.out) | exact HB.out)))); have n1_ := qM (Kd.R_lower ho1 (qz (by repeat (first | (with_reducible first | exact HB.out | apply qA | apply qN | apply qD | refine qS ?_ GE457.out | refine qS ?_ GE458.out | refine qS ?_ GE459.out) | exact HB.out)))); have n2_ := qM (blk_below (g := gb457) (o := .cells #[.int .i64 a0_0, .slice A0_1 l0_1.length c0_1, .slice A0_2 l0_2.length c0_2] 102 (0, 0)) (by (with_reducible repeat (first | refine qn ?_ _ | refine qd ?_ | refine qa ?_ _)); refine blk_far ?_ NB457_459.out _; (with_reducible repeat (first | refine qn ?_ _ | refine qd ?_ | refine qa ?_ _)); exact BK457.out) hb); have n3_ := qM (blk_below (g := gb458) (o := .cells #[.int .i64 0, .slice none 0 0, .slice none 0 0] 105 (0, 0)) (by (with_reducible repeat (first | refine qn ?_ _ | refine qd ?_ | refine qa ?_ _)); refine blk_far ?_ NB458_459.out _; (with_reducible repeat (first | refine qn ?_ _ | refine qd ?_ | refine qa ?_ _)); exact BK458.out) hb); have n4_ := qM (blk_below (g := gb459) (o := .cells #[.int .i64 a0_0, .slice none 0 0, .slice none 0 0] 105 (0, 0)) (by (with_reducible repeat (first | refine qn ?_ _ | refine qd ?_ | refine qa ?_ _)); refine blk_put (cs := #[.int .i64 0, .slice none 0 0, .slice none 0 0]) ?_ 0 _ rfl; (with_reducible repeat (first | refine qn ?_ _ | refine qd ?_ | refine qa ?_ _)); exact BK459.out) hb); have n5_ := qM (qs (by repeat (first | (with_reducible first | exact HB.out | apply qA | apply qN | apply qD | refine qS ?_ GE457.out | refine qS ?_ GE458.out | refine qS ?_ GE459.out) | exact HB.out)) hb); clear BK457; clear BK458; clear BK459; clear HB; have HO462 := n0_; have HO465 := n1_; have BK457 := n2_; have BK458 := n3_; have BK459 := n4_; have HB := n5_; clear n0_ n1_ n2_ n3_ n4_ n5_; (try clear hb); (try clear hb2); (try clear hk); (try clear hi); (try clear ho0); (try clear ho1); obtain ⟨Ao12, co12, eo12⟩ := Kd.R_slice HO462.out; subst eo12; have hcz13_0 : w11.cell? ⟨gb459, 0, none⟩ = some (.int .i64 a0_0) := (qC BK459.out 0).trans rfl; have hcz13_1 : w11.cell? ⟨gb459, 1, none⟩ = some (.slice none 0 0) := (qC BK459.out 1).trans rfl; have hcz13_2 : w11.cell? ⟨gb459, 2, none⟩ = some (.slice none 0 0) := (qC BK459.out 2).trans rfl; have hfz13_0 := qF BK459.out 0; have hfz13_1 := qF BK459.out 1; have hfz13_2 := qF BK459.out 2; obtain ⟨Ao14, co14, eo14⟩ := Kd.R_slice HO465.out; subst eo14; have hcz15_0 : w11.cell? ⟨gb458, 0, none⟩ = some (.int .i64 0) := (qC BK458.out 0).trans rfl; have hcz15_1 : w11.cell? ⟨gb458, 1, none⟩ = some (.slice none 0 0) := (qC BK458.out 1).trans rfl; have hcz15_2 : w11.cell? ⟨gb458, 2, none⟩ = some (.slice none 0 0) := (qC BK458.out 2).trans rfl; have hfz15_0 := qF BK458.out 0; have hfz15_1 := qF BK458.out 1; have hfz15_2 := qF BK458.out 2))
  refine bodyPost_ret (results_cell_row rfl _ _ gb458 105 #[.int .i64 a0_0, .slice Ao12 t460.length co12, .slice Ao14 t463.length co14] (0, 0) _ rfl (by (with_reducible repeat (first | refine qn ?_ _ | refine qd ?_ | refine qa ?_ _)); refine blk_put (cs := #[.int .i64 a0_0, .slice Ao12 t460.length co12, .slice none 0 0]) ?_ 2 _ rfl; (with_reducible repeat (first | refine qn ?_ _ | refine qd ?_ | refine qa ?_ _)); refine blk_put (cs := #[.int .i64 a0_0, .slice none 0 0, .slice none 0 0]) ?_ 1 _ rfl; (with_reducible repeat (first | refine qn ?_ _ | refine qd ?_ | refine qa ?_ _)); refine blk_put (cs := #[.int .i64 0, .slice none 0 0, .slice none 0 0]) ?_ 0 _ rfl; (with_reducible repeat (first | refine qn ?_ _ | refine qd ?_ | refine qa ?_ _)); refine blk_far ?_ NB458_459.out _; (with_reducible repeat (first | refine qn ?_ _ | refine qd ?_ | refine qa ?_ _)); refine blk_far ?_ NB458_459.out _; (with_reducible repeat (first | refine qn ?_ _ | refine qd ?_ | refine qa ?_ _)); exact BK458.out) Try.underlying105 rfl (by kernel_rfl)) rfl ?_
  exact ⟨_, _, by first | rfl | (simp [errW_none, errW_some] <;> rfl) | (simp [*, errW_none, errW_some] <;> rfl), by (with_reducible repeat (first | apply Kd.R_alloc | apply Kd.R_drewN | apply Kd.R_drew)); exact Kd.R_mono (Kd.R_far (p := ⟨gb458, 2, none⟩) (Kd.R_far (p := ⟨gb458, 1, none⟩) (Kd.R_far (p := ⟨gb458, 0, none⟩) (Kd.R_far (p := ⟨gb459, 2, none⟩) (Kd.R_far (p := ⟨gb459, 1, none⟩) (Kd.R_types (Kd.R_types HO462.out BK459.out (by decide)) BK458.out (by decide)) (fun _ hk => hk.1.2) (.slice Ao12 t460.length co12)) (fun _ hk => hk.1.2) (.slice Ao14 t463.length co14)) (fun _ hk => hk.2) (.int .i64 a0_0)) (fun _ hk => hk.2) (.slice Ao12 t460.length co12)) (fun _ hk => hk.2) (.slice Ao14 t463.length co14)) (fun _ hk => hk.1.1), by (with_reducible repeat (first | apply Kd.R_alloc | apply Kd.R_drewN | apply Kd.R_drew)); exact Kd.R_mono (Kd.R_far (p := ⟨gb458, 2, none⟩) (Kd.R_far (p := ⟨gb458, 1, none⟩) (Kd.R_far (p := ⟨gb458, 0, none⟩) (Kd.R_far (p := ⟨gb459, 2, none⟩) (Kd.R_far (p := ⟨gb459, 1, none⟩) (Kd.R_types (Kd.R_types HO465.out BK459.out (by decide)) BK458.out (by decide)) (fun _ hk => hk.1.2) (.slice Ao12 t460.length co12)) (fun _ hk => hk.1.2) (.slice Ao14 t463.length co14)) (fun _ hk => hk.2) (.int .i64 a0_0)) (fun _ hk => hk.2) (.slice Ao12 t460.length co12)) (fun _ hk => hk.2) (.slice Ao14 t463.length co14)) (fun _ hk => hk.1.1), by repeat (first | (with_reducible first | exact HB.out | apply qA | apply qN | apply qD | refine qS ?_ GE457.out | refine qS ?_ GE458.out | refine qS ?_ GE459.out) | exact HB.out)⟩
end Go.Proofs.Ythfemojaabejiaa.G
end
section
namespace Go.Proofs.Ythfemojaabejiaa.G
open Go.RowKit Go.Proofs.YthfemojaabejiaaW.PrintWords Go.Proofs.YthfemojaabejiaaW.PrintLast Go.Proofs.YthfemojaabejiaaW.PrintMore
set_option linter.unusedVariables false
set_option linter.unusedSimpArgs false
def TellsShared (c : Nat) (lb : Array Value) (P : S105 → Bool) (w : World) (l : List (S105)) : Prop :=
  ∀ x ∈ l, ∀ (cs : List Value) (W : World), Below w.heap.size w W → k105.K W x cs → Calls Try.prog c (#[.agg cs.toArray] ++ lb) W fun e W' => e = .returned (.bool (P x)) ∧ Below W.heap.size W W'
theorem rd_atShared (l : List S105) (i : Nat) (h : i < l.length) : rd_T105 l (i : Int) = l[i] := by
  simp only [rd_T105, Int.toNat_natCast, List.getD_eq_getElem?_getD, List.getElem?_eq_getElem h, Option.getD_some]
set_option maxHeartbeats 8000000 in
set_option maxRecDepth 100000 in
theorem indexFuncShared (c : Nat) (lb : Array Value) (P : S105 → Bool) (A : Option Addr) (cap : Nat) (l : List S105) (w : World) (hr : Kd.C k105 w A l.length l) (hrun : ∀ (args : Array Value) (W : World), (callFunc c args).run Try.prog W = .ok (.enter c args) W) (hT : TellsShared c lb P w l) :
    Calls Try.prog 121 #[.slice A l.length cap, .func (.func c) #[] lb] w fun e w' => e = .returned (.int .i64 (idxFrom P l 0)) ∧ Below w.heap.size w w' := by
  have hu := Try.underlying105
  have HR := qM hr
  have HT := qM hT
  have hE := hrun
  clear hr hT hrun
  go_enter Try.func121, Try.ntmps121
  go_wp2
  go_loopg [8] l.length (fun kq v8 w' => ∃ i : Nat, v8 = .int .i64 (i : Int) ∧ Aside0 (i + kq = l.length) ∧ Aside0 (idxFrom P l 0 = idxFrom P (l.drop i) i) ∧ Aside0 (Below w.heap.size w w'))
  case atStart => exact ⟨0, by simp, ⟨by omega⟩, ⟨by simp⟩, ⟨Below.refl _ _⟩⟩
  case round =>
    obtain ⟨i, rfl, HI, HP, HB⟩ := hrel
    cases gk with
    | zero =>
      have hi : i = l.length := by have := HI.out; omega
      subst hi
      have hb : decide ((l.length : Int) < (l.length : Int)) = false := decide_eq_false (by omega)
      have hres : idxFrom P l 0 = -1 := by rw [HP.out, List.drop_length]; rfl
      have HRes := qM hres
      clear hres HP
      go_wp2
      go_ret
      exact ⟨by rw [HRes.out]; rfl, HB.out⟩
    | succ gk =>
      have hlt : i < l.length := by have := HI.out; omega
      have hb : decide ((i : Int) < (l.length : Int)) = true := decide_eq_true (by omega)
      obtain ⟨ad, A1, c1, A2, c2, e, hx0, hx1, hx2, hl1, hC1, hl2, hC2⟩ := at_T105 HR.out (i : Int) (by omega) (by omega)
      cases e
      have hlen := HR.out.2.1
      have hmax : (i : Int) + 1 ≤ 9223372036854775807 := by omega
      have hc0 : wr.cell? (ad.add (i * 3)) = some (.int .i64 (rd_T105 l (i : Int)).f0) := by
        have h1 := (HB.out.cell (qL w _ hx0)).trans hx0
        simpa only [Int.toNat_natCast] using h1
      have hc1 : wr.cell? (⟨(ad.add (i * 3)).block, (ad.add (i * 3)).off + 1, none⟩) = some (.slice A1 (rd_T105 l (i : Int)).f1.f0.length c1) := by
        have h1 := (HB.out.cell (qL w _ hx1)).trans hx1
        simpa only [Int.toNat_natCast] using h1
      have hc2 : wr.cell? (⟨(ad.add (i * 3)).block, (ad.add (i * 3)).off + 2, none⟩) = some (.slice A2 (rd_T105 l (i : Int)).f1.f1.length c2) := by
        have h1 := (HB.out.cell (qL w _ hx2)).trans hx2
        simpa only [Int.toNat_natCast] using h1
      have HK := qM (k105_mk wr (rd_T105 l (i : Int)) hl1 (qB hC1 HB.out) hl2 (qB hC2 HB.out))
      clear hx0 hx1 hx2
      have p0 : (0 ≤ (i : Int)) = True := eq_true (by omega)
      have q0 : ((i : Int) < (l.length : Int)) = True := eq_true (by omega)
      have hstep : idxFrom P l 0 = if P (rd_T105 l (i : Int)) = true then (i : Int) else idxFrom P (l.drop (i + 1)) (i + 1) := by
        rw [HP.out, List.drop_eq_getElem_cons hlt, idxFrom, rd_atShared l i hlt]
      have HS := qM hstep
      clear hstep HP
      go_wp2_with fail
      refine (HT.out _ (by rw [rd_atShared l i hlt]; exact List.getElem_mem hlt) _ wr HB.out HK.out).mono ?_
      rintro e w1 ⟨rfl, hb1⟩
      have HB1 := qM (HB.out.trans (hb1.mono HB.out.size))
      clear hb1 HB hc0 hc1 hc2 HK
      by_cases hP : P (rd_T105 l (i : Int)) = true
      · have HR1 := qM (HS.out.trans (if_pos hP))
        go_wp2
        go_ret
        exact ⟨by rw [HR1.out]; rfl, HB1.out⟩
      · have HR1 := qM (HS.out.trans (if_neg hP))
        have hP' : P (rd_T105 l (i : Int)) = false := by simpa using hP
        clear hP
        go_wp2
        go_roundg gk
        case measure => omega
        case rel => exact ⟨i + 1, by go_num, ⟨by have := HI.out; omega⟩, ⟨HR1.out⟩, HB1⟩
set_option maxHeartbeats 8000000 in
set_option maxRecDepth 100000 in
theorem containsFuncShared (c : Nat) (lb : Array Value) (P : S105 → Bool) (A : Option Addr) (cap : Nat) (l : List S105) (w : World) (hr : Kd.C k105 w A l.length l) (hrun : ∀ (args : Array Value) (W : World), (callFunc c args).run Try.prog W = .ok (.enter c args) W) (hT : TellsShared c lb P w l) :
    Calls Try.prog 84 #[.slice A l.length cap, .func (.func c) #[] lb] w fun e w' => e = .returned (.bool (l.any P)) ∧ Below w.heap.size w w' := by
  have HR := qM hr
  have HT := qM hT
  have HE := qM hrun
  clear hr hT hrun
  have hany : decide (0 ≤ idxFrom P l 0) = l.any P := idx_any P l 0
  have HA := qM hany
  clear hany
  generalize hx : l.any P = b at HA ⊢
  clear hx
  go_enter Try.func84, Try.ntmps84
  go_wp2_with (go_at_call 121; refine (indexFuncShared c lb P A cap l _ HR.out HE.out HT.out).mono ?_; rintro e w1 ⟨rfl, hb1⟩)
  go_ret
  exact ⟨by rw [← HA.out]; rfl, hb1⟩
end Go.Proofs.Ythfemojaabejiaa.G
end
section
namespace Go.Proofs.Ythfemojaabejiaa.G
open Go.RowKit Go.Proofs.YthfemojaabejiaaW.PrintWords Go.Proofs.YthfemojaabejiaaW.PrintLast Go.Proofs.YthfemojaabejiaaW.PrintMore
set_option linter.unusedVariables false
set_option linter.unusedSimpArgs false
set_option maxHeartbeats 8000000 in
set_option maxRecDepth 100000 in
theorem impl_CloudOk_1.calls (x : S105) (Au : Option Addr) (cu : Nat) (Av : Option Addr) (cv : Nat) (g : Nat) (A0 : Option Addr) (c0 : Nat) (l0 : List Bool) (A1 : Option Addr) (c1 : Nat) (l1 : List S141) (r : Bool) (w : World) (hg : w.heap[g]? = some (.cells #[.slice A0 l0.length c0, .slice A1 l1.length c1] 30 (0, 0))) (hr0 : Kd.C Kd.bool w A0 l0.length l0) (hc0 : l0.length ≤ c0) (hr1 : Kd.C k141 w A1 l1.length l1) (hc1 : l1.length ≤ c1) (hru : Kd.C (Kd.int .i64) w Au x.f1.f0.length x.f1.f0) (hcu : x.f1.f0.length ≤ cu) (hrv : Kd.C (Kd.int .i64) w Av x.f1.f1.length x.f1.f1) (hcv : x.f1.f1.length ≤ cv) (h : impl_Sheet_fits.f l0 l1 x.f1.f0 x.f1.f1 = some r) :
    Calls Try.prog 85 #[.agg #[.int .i64 x.f0, .slice Au x.f1.f0.length cu, .slice Av x.f1.f1.length cv], .pointer (some ⟨g, 0, none⟩)] w fun e w' => e = .returned (.bool (if x.f0 < 0 then true else if 3 ≤ x.f0 then true else !r)) ∧ Below w.heap.size w w' := by
  have hu1 := Try.underlying105
  have hu3 := Try.underlying95
  have hu2 := Try.underlying30
  have hg' := qa hg (.cells #[.int .i64 x.f0, .slice Au x.f1.f0.length cu, .slice Av x.f1.f1.length cv] 105)
  have hk0 := (qC hg' 0).trans rfl
  have hk1 := (qC hg' 1).trans rfl
  have HC := qM (impl_Sheet_fits.calls A0 c0 l0 A1 c1 l1 Au cu x.f1.f0 Av cv x.f1.f1 r (w.alloc (.cells #[.int .i64 x.f0, .slice Au x.f1.f0.length cu, .slice Av x.f1.f1.length cv] 105)) (qc hr0 _) hc0 (qc hr1 _) hc1 (qc hru _) hcu (qc hrv _) hcv h)
  have hx : (w.alloc (.cells #[.int .i64 x.f0, .slice Au x.f1.f0.length cu, .slice Av x.f1.f1.length cv] 105)).cell? ⟨g, 0, none⟩ = some (.slice A0 l0.length c0) := hk0
  have hy : (w.alloc (.cells #[.int .i64 x.f0, .slice Au x.f1.f0.length cu, .slice Av x.f1.f1.length cv] 105)).cell? ⟨g, 1, none⟩ = some (.slice A1 l1.length c1) := hk1
  clear hk0 hk1 hg' hg hr0 hr1 hc0 hc1 hru hcu hrv hcv h
  have HB0 := qM ((Below.refl w.heap.size w).alloc (Nat.le_refl _) (.cells #[.int .i64 x.f0, .slice Au x.f1.f0.length cu, .slice Av x.f1.f1.length cv] 105))
  by_cases h1 : x.f0 < 0
  · rw [if_pos h1]
    have hd1 : decide (x.f0 < 0) = true := decide_eq_true h1
    go_enter Try.func85, Try.ntmps85
    go_wp2
    go_ret
    exact ⟨rfl, HB0.out⟩
  · rw [if_neg h1]
    have hd1 : decide (x.f0 < 0) = false := decide_eq_false h1
    by_cases h2 : 3 ≤ x.f0
    · rw [if_pos h2]
      have hd2 : decide (x.f0 ≥ 3) = true := decide_eq_true h2
      go_enter Try.func85, Try.ntmps85
      go_wp2
      go_ret
      exact ⟨rfl, HB0.out⟩
    · rw [if_neg h2]
      have hd2 : decide (x.f0 ≥ 3) = false := decide_eq_false h2
      go_enter Try.func85, Try.ntmps85
      go_wp2_with fail
      with_reducible refine HC.out.mono ?_
      rintro e w1 ⟨rfl, hb⟩
      have HB := qM (HB0.out.trans (hb.mono (by simp)))
      clear hb
      go_wp2
      go_ret
      exact ⟨rfl, HB.out⟩
def impl_CloudOk_1_any.f (l0 : List S105) (m : List Bool) (ts : List S141) : Option Bool := if (∀ x ∈ l0, (impl_Sheet_fits.f m ts x.f1.f0 x.f1.f1).isSome = true) then some (l0.any fun x => if x.f0 < 0 then true else if 3 ≤ x.f0 then true else !((impl_Sheet_fits.f m ts x.f1.f0 x.f1.f1).getD false)) else none
theorem impl_CloudOk_1_any.calls (A0 : Option Addr) (c0 : Nat) (l0 : List S105) (g : Nat) (A1 : Option Addr) (c1 : Nat) (l1 : List Bool) (A2 : Option Addr) (c2 : Nat) (l2 : List S141) (r : Bool) (w : World) (hg : w.heap[g]? = some (.cells #[.slice A1 l1.length c1, .slice A2 l2.length c2] 30 (0, 0))) (hr0 : Kd.C k105 w A0 l0.length l0) (hc0 : l0.length ≤ c0) (hr1 : Kd.C Kd.bool w A1 l1.length l1) (hc1 : l1.length ≤ c1) (hr2 : Kd.C k141 w A2 l2.length l2) (hc2 : l2.length ≤ c2) (h : impl_CloudOk_1_any.f l0 l1 l2 = some r) :
    Calls Try.prog 84 #[.slice A0 l0.length c0, .func (.func 85) #[] #[.pointer (some ⟨g, 0, none⟩)]] w fun e w' => e = .returned (.bool r) ∧ Below w.heap.size w w' := by
  unfold impl_CloudOk_1_any.f at h
  split at h
  · rename_i hs
    obtain rfl := Option.some.inj h
    refine containsFuncShared 85 #[.pointer (some ⟨g, 0, none⟩)] _ A0 c0 l0 w hr0 (enters_fn Try.func85 (by kernel_rfl) rfl) (fun x hx cs W hb hK => ?_)
    obtain ⟨Au, cu, Av, cv, rfl, hcu, hru, hcv, hrv⟩ := k105_open hK
    obtain ⟨b, hbb⟩ := Option.isSome_iff_exists.1 (hs x hx)
    rw [hbb]
    exact impl_CloudOk_1.calls x Au cu Av cv g A1 c1 l1 A2 c2 l2 b W ((hb.block g (blk_lt hg)).trans hg) (qB hr1 hb) hc1 (qB hr2 hb) hc2 hru hcu hrv hcv hbb
  · cases h
end Go.Proofs.Ythfemojaabejiaa.G
end
section
namespace Go.Proofs.Ythfemojaabejiaa.G
open Go.RowKit Go.Proofs.YthfemojaabejiaaW.PrintWords Go.Proofs.YthfemojaabejiaaW.PrintLast Go.Proofs.YthfemojaabejiaaW.PrintMore
attribute [local go_sem] max2_int min2_int max_two min_two max_three min_three max_four min_four
set_option linter.unusedVariables false
set_option linter.unusedSimpArgs false
def laws_toSharedS.l0 : Nat → List (S102) → List (S105) → Int → Option ((List (S105)))
  | 0, _, _, _ => none
  | k + 1, x0, x3, x4 => if x4 < (x0.length : Int) then (if 0 ≤ x4 then ((laws_toShared.f k ((rd_T102 x0 x4).f0) ((rd_T102 x0 x4).f1.f0) ((rd_T102 x0 x4).f1.f1)).bind fun bt470 => (if x4 < (x3.length : Int) then (laws_toSharedS.l0 k x0 (x3.set (x4 : Int).toNat (⟨bt470.1, (⟨bt470.2.1, bt470.2.2⟩ : S95)⟩ : S105)) (wrap64 (x4 + 1))) else (none))) else (none)) else (some x3)
def laws_toSharedS.f (k : Nat) (l0 : List (S102)) : Option ((List (S105))) := if 0 ≤ (l0.length : Int) then (if ((l0.length : Int) : Int).toNat ≤ 5026338869833 then (laws_toSharedS.l0 k l0 (List.replicate ((l0.length : Int) : Int).toNat z105) 0) else (none)) else (none)
set_option maxHeartbeats 8000000 in
set_option maxRecDepth 100000 in
theorem laws_toSharedS.calls (k : Nat) (A0 : Option Addr) (c0 : Nat) (l0 : List (S102)) (r : List (S105)) (w : World) (hr0 : Kd.C k102 w A0 l0.length l0) (hc0 : l0.length ≤ c0) (h : laws_toSharedS.f k l0 = some r) :
    Calls Try.prog 33 #[.slice A0 l0.length c0] w fun e w' => ∃ v0_ : Value, e = .returned (v0_) ∧ Kd.S k105 105 w' w.heap.size (fun _ => True) v0_ r ∧ Below w.heap.size w w' := by
  have hu102 := Try.underlying102
  have hu105 := Try.underlying105
  have HR0 := qM hr0
  have HC0 := qM hc0
  clear hr0 hc0
  have HB := qM (Below.refl w.heap.size w)
  have H : (if 0 ≤ (l0.length : Int) then (if ((l0.length : Int) : Int).toNat ≤ 5026338869833 then (laws_toSharedS.l0 k l0 (List.replicate ((l0.length : Int) : Int).toNat z105) 0) else (none)) else (none)) = some r := h
  clear h
  by_cases c2 : 0 ≤ (l0.length : Int)
  rotate_left
  · rw [if_neg c2] at H
    exact absurd H (by simp)
  rw [if_pos c2] at H
  have c2b0 := eq_true c2
  have c2b1 : decide (0 ≤ (l0.length : Int)) = true := decide_eq_true c2
  clear c2
  by_cases c3 : ((l0.length : Int) : Int).toNat ≤ 5026338869833
  rotate_left
  · rw [if_neg c3] at H
    exact absurd H (by simp)
  rw [if_pos c3] at H
  have c3b0 := eq_true c3
  have c3b1 : decide (((l0.length : Int) : Int).toNat ≤ 5026338869833) = true := decide_eq_true c3
  clear c3
  obtain ⟨y466, hy466⟩ : ∃ y_ : List (S105), y_ = (List.replicate ((l0.length : Int) : Int).toNat z105) := ⟨_, rfl⟩
  replace H : (laws_toSharedS.l0 k l0 y466 0) = some r := by first | (rw [hy466]; with_reducible exact H) | (have H2_ := (Option.bind_some _ _).symm.trans H; rw [hy466]; with_reducible exact H2_) | (have H2_ := (Option.bind_some _ _).symm.trans H; with_reducible exact H2_) | with_reducible exact H | (rw [hy466]; exact H) | exact H
  have Ny466 := qM hy466
  clear hy466
  have H' := qM H
  clear H
  go_enter Try.func33, Try.ntmps33
  go_wp2_with (first | ((with_reducible refine gate_dst (N := 7) rfl ?_); refine Kd.S_make k105 _ 105 rfl (N := 7) rfl 52 _ _ rfl (l0.length : Int) rfl rfl Try.underlying52 (.agg #[(.int .i64 0), (.slice none 0 0), (.slice none 0 0)]) 56 info105 rfl (by decide) (by omega) z105 (ok := fun _ => True) (okp := fun _ => True) (k105_mkM _ _ _ z105 (Kd.R_nil _ _ _ _ _) (Kd.R_nil _ _ _ _ _)) (fun _ hk => hk) trivial (qO (by first | (with_reducible assumption) | assumption)) (Nat.le_trans (Nat.mul_le_mul_right _ (qO (by first | (with_reducible assumption) | assumption) : (l0.length : Int).toNat ≤ 5026338869833)) (by omega)) (Below.refl _ _) (Nat.le_refl _) ?_; intro v467 w4 ho5 hb hg_ hnew_; clear hg_ hnew_; (first | rw [← Ny466.out] at ho5 | (simp only [Int.reduceToNat] at ho5; rw [← Ny466.out] at ho5)); have n0_ := qM (Kd.S_lower ho5 (qz (by repeat (first | (with_reducible first | exact HB.out | apply qA | apply qN | apply qD) | exact HB.out)))); have n1_ := qM (qs (by repeat (first | (with_reducible first | exact HB.out | apply qA | apply qN | apply qD) | exact HB.out)) hb); clear HB; have HO468 := n0_; have HB := n1_; clear n0_ n1_; clear hb ho5))
  go_loopg [4] k (fun kq v4 w' => ∃ (x3_1 : List (S105)) (x4_1 : Int), v4 = .int .i64 x4_1 ∧ Aside0 (laws_toSharedS.l0 kq l0 x3_1 x4_1 = some r) ∧ Aside0 (kq ≤ k) ∧ Aside0 (Kd.S k105 105 w' w.heap.size (fun _ => True) v467 x3_1) ∧ Aside0 (Below w.heap.size w w'))
  case atStart => exact ⟨(y466), (0), (by first | rfl | (simp; done) | (simp [*]; done)), H', ⟨Nat.le_refl _⟩, ⟨by (with_reducible repeat (first | apply Kd.S_alloc | apply Kd.S_drewN | apply Kd.S_drew)); exact HO468.out⟩, ⟨by repeat (first | (with_reducible first | exact HB.out | apply qA | apply qN | apply qD) | exact HB.out)⟩⟩
  case round =>
    clear H'
    try clear c2
    try clear c2b0
    try clear c2b1
    try clear p2
    try clear c3
    try clear c3b0
    try clear c3b1
    obtain ⟨x3_1, x4_1, rfl, HA, HK1, HO_3, HB⟩ := hrel
    cases gk with
    | zero => exact absurd HA.out (by simp [laws_toSharedS.l0])
    | succ k1 =>
      have H := HA.out
      clear HA
      simp only [laws_toSharedS.l0] at H
      by_cases c6 : x4_1 < (l0.length : Int)
      rotate_left
      · rw [if_neg c6] at H
        have c6b0 : decide (x4_1 < (l0.length : Int)) = false := decide_eq_false c6
        clear c6
        obtain rfl := Option.some.inj H
        go_wp2
        go_ret
        exact ⟨_, by first | rfl | (simp [errW_none, errW_some] <;> rfl) | (simp [*, errW_none, errW_some] <;> rfl), by (with_reducible repeat (first | apply Kd.S_alloc | apply Kd.S_drewN | apply Kd.S_drew)); exact HO_3.out, by repeat (first | (with_reducible first | exact HB.out | apply qA | apply qN | apply qD) | exact HB.out)⟩
      rw [if_pos c6] at H
      have c6b0 : decide (x4_1 < (l0.length : Int)) = true := decide_eq_true c6
      clear c6
      by_cases c7 : 0 ≤ x4_1
      rotate_left
      · rw [if_neg c7] at H
        exact absurd H (by simp)
      rw [if_pos c7] at H
      have c7b0 : decide (0 ≤ x4_1) = true := decide_eq_true c7
      clear c7
      replace H := Option.bind_eq_some_iff.mp H
      obtain ⟨⟨t470, t471, t474⟩, A80, H⟩ := H
      replace H : (if x4_1 < (x3_1.length : Int) then (laws_toSharedS.l0 k1 l0 (x3_1.set (x4_1 : Int).toNat (⟨t470, (⟨t471, t474⟩ : S95)⟩ : S105)) (wrap64 (x4_1 + 1))) else (none)) = some r := H
      have A8 := qM A80
      clear A80
      by_cases c9 : x4_1 < (x3_1.length : Int)
      rotate_left
      · rw [if_neg c9] at H
        exact absurd H (by simp)
      rw [if_pos c9] at H
      have c9b0 : decide (x4_1 < (x3_1.length : Int)) = true := decide_eq_true c9
      clear c9
      obtain ⟨y477, hy477⟩ : ∃ y_ : List (S105), y_ = (x3_1.set (x4_1 : Int).toNat (⟨t470, (⟨t471, t474⟩ : S95)⟩ : S105)) := ⟨_, rfl⟩
      replace H : (laws_toSharedS.l0 k1 l0 y477 (wrap64 (x4_1 + 1))) = some r := by first | (rw [hy477]; with_reducible exact H) | (have H2_ := (Option.bind_some _ _).symm.trans H; rw [hy477]; with_reducible exact H2_) | (have H2_ := (Option.bind_some _ _).symm.trans H; with_reducible exact H2_) | with_reducible exact H | (rw [hy477]; exact H) | exact H
      have Ny477 := qM hy477
      clear hy477
      have H' := qM H
      clear H
      have p469 : 0 ≤ (x4_1 : Int) := qO (by first | (with_reducible assumption) | assumption)
      have q469 : x4_1 < (l0.length : Int) := qO (by first | (with_reducible assumption) | assumption)
      obtain ⟨ad469, A469_1, c469_1, A469_2, c469_2, e469, hx469_0, hx469_1, hx469_2, hl469_1, hi469_1, hl469_2, hi469_2⟩ := at_T102 HR0.out x4_1 p469 q469
      cases e469
      replace hx469_0 := (HB.out.cell (qL w _ hx469_0)).trans hx469_0
      replace hx469_1 := (HB.out.cell (qL w _ hx469_1)).trans hx469_1
      replace hx469_2 := (HB.out.cell (qL w _ hx469_2)).trans hx469_2
      have HR469_1 := qM hi469_1
      have HC469_1 := qM hl469_1
      clear hi469_1 hl469_1
      have HR469_2 := qM hi469_2
      have HC469_2 := qM hl469_2
      clear hi469_2 hl469_2
      replace p469 := eq_true p469
      replace q469 := eq_true q469
      go_wp2_with (first | ((with_reducible refine gate_callee (f := 83) rfl ?_); refine goesL_ (some 20) rfl rfl Try.func83 (by kernel_rfl) rfl #[.agg #[.int .i64 ((rd_T102 l0 x4_1).f0), .slice A469_1 ((rd_T102 l0 x4_1).f1.f0).length c469_1, .slice A469_2 ((rd_T102 l0 x4_1).f1.f1).length c469_2]] rfl (by (try simp only [List.map_toArray, List.map_cons, List.map_nil]); first | done | rfl | (simp only [List.length_drop, List.length_take]; rfl)) ?_; (with_reducible refine (laws_toShared.calls k1 ((rd_T102 l0 x4_1).f0) _ _ ((rd_T102 l0 x4_1).f1.f0) _ _ ((rd_T102 l0 x4_1).f1.f1) t470 t471 t474 _ ?side1 ?side2 ?side3 ?side4 A8.out).mono ?_); (case side1 => repeat (first | exact (qB HR469_1.out HB.out) | (with_reducible refine qc ?_ _) | (with_reducible refine qe ?_ _) | (with_reducible refine qf ?_))); (case side2 => exact HC469_1.out); (case side3 => repeat (first | exact (qB HR469_2.out HB.out) | (with_reducible refine qc ?_ _) | (with_reducible refine qe ?_ _) | (with_reducible refine qf ?_))); (case side4 => exact HC469_2.out); rintro e w11 ⟨v472, v475, rfl, ho0, ho1, hb⟩; refine ⟨_, rfl, ?_⟩; have n0_ := qM (Kd.S_mono (Kd.S_told (Kd.S_told (Kd.S_old (by (with_reducible repeat (first | apply Kd.S_alloc | apply Kd.S_drewN | apply Kd.S_drew)); exact HO_3.out) hb) (Kd.R_base ho0)) (Kd.R_base ho1)) (fun _ h_ => h_.1)); have n1_ := qM (Kd.R_lower ho0 (qz (by repeat (first | (with_reducible first | exact HB.out | apply qA | apply qN | apply qD) | exact HB.out)))); have n2_ := qM (Kd.R_lower ho1 (qz (by repeat (first | (with_reducible first | exact HB.out | apply qA | apply qN | apply qD) | exact HB.out)))); have n3_ := qM (qs (by repeat (first | (with_reducible first | exact HB.out | apply qA | apply qN | apply qD) | exact HB.out)) hb); clear HO_3; clear HB; have HO_3 := n0_; have HO473 := n1_; have HO476 := n2_; have HB := n3_; clear n0_ n1_ n2_ n3_; (try clear hb); (try clear hb2); (try clear hk); (try clear hi); (try clear ho0); (try clear ho1); have p10 : 0 ≤ (x4_1 : Int) := qO (by first | (with_reducible assumption) | assumption); have q10 : (x4_1 : Int) < ((x3_1.length : Int) : Int) := qO (by first | (with_reducible assumption) | assumption); obtain ⟨go10, co10, eo10, gb10, gl10, cl10, HG10⟩ := Kd.S_form HO_3.out (by omega); (first | cases eo10 | (injection eo10 with ea_ en_ ec_; (first | subst ea_ | (injection ea_ with ea_; subst ea_)); subst ec_; clear en_)); have GB10 := qM gb10; have GG10 := qM HG10; clear gb10 gl10 HG10; obtain ⟨_, ce10, hcl10, hM10, hcc10, hfr10, _, _⟩ := Kd.S_elem HO_3.out z105 (x4_1 : Int) p10 q10; obtain ⟨ve10_1, ve10_2, rfl, ge10_1, ge10_2⟩ := k105_openM hM10; have hx10_0 : w11.cell? ⟨go10, (x4_1 : Int).toNat * 3, none⟩ = some (.int .i64 ((rd_T105 x3_1 x4_1).f0)) := hcc10 0 _ rfl; have hx10_1 : w11.cell? ⟨go10, (x4_1 : Int).toNat * 3 + 1, none⟩ = some (ve10_1) := hcc10 1 _ rfl; have hx10_2 : w11.cell? ⟨go10, (x4_1 : Int).toNat * 3 + 2, none⟩ = some (ve10_2) := hcc10 2 _ rfl; have hf10_0 : w11.frozen? ⟨go10, (x4_1 : Int).toNat * 3, none⟩ = false := hfr10 0; have hf10_1 : w11.frozen? ⟨go10, (x4_1 : Int).toNat * 3 + 1, none⟩ = false := hfr10 1; have hf10_2 : w11.frozen? ⟨go10, (x4_1 : Int).toNat * 3 + 2, none⟩ = false := hfr10 2; clear hcl10 hcc10 hfr10 hM10; replace p10 := eq_true p10; replace q10 := eq_true q10; obtain ⟨Ao12, co12, eo12⟩ := Kd.R_slice HO476.out; subst eo12; obtain ⟨Ao13, co13, eo13⟩ := Kd.R_slice HO473.out; subst eo13; have n_ := qM (Kd.S_mono (ok' := (fun k_ => some k_ ≠ (.slice Ao13 t471.length co13 : Value).ownBlock ∧ some k_ ≠ (.slice Ao12 t474.length co12 : Value).ownBlock)) HO_3.out (fun k_ hk => ⟨hk.1.2, hk.2⟩)); clear HO_3; have HO_3 := n_; clear n_; have HX14 := qM (show Kd.S k105 105 w11 w.heap.size (fun k_ => ((fun _ => True)) k_ ∧ ¬ ((fun k_ => some k_ = (.slice Ao13 t471.length co13 : Value).ownBlock ∨ some k_ = (.slice Ao12 t474.length co12 : Value).ownBlock)) k_) (.slice (some ⟨go10, 0, none⟩) x3_1.length co10) x3_1 from (by (with_reducible repeat (first | apply Kd.S_alloc | apply Kd.S_drewN | apply Kd.S_drew)); exact Kd.S_mono HO_3.out (fun k_ hk => ⟨trivial, fun e_ => e_.elim (fun h_ => hk.1 h_) (fun h_ => hk.2 h_)⟩))); obtain ⟨oki14, ce14, hcl14, hM14, hcc14, hfr14, hoki14, hH14⟩ := Kd.S_elem HX14.out z105 (x4_1 : Int) (qO (by first | (with_reducible assumption) | assumption)) (by have h_ : (x4_1 : Int) < ((x3_1.length : Int) : Int) := qO (by first | (with_reducible assumption) | assumption); first | exact h_ | (have e_ := (Kd.S_reads' HO_3.out).1; omega) | simpa using h_); obtain ⟨ve14_1, ve14_2, rfl, ge14_1, ge14_2⟩ := k105_openM hM14; have HP14 := Kd.S_seg hH14 (qO (by first | (with_reducible assumption) | assumption)) (by have h_ : (x4_1 : Int) < ((x3_1.length : Int) : Int) := qO (by first | (with_reducible assumption) | assumption); first | exact h_ | (have e_ := (Kd.S_reads' HO_3.out).1; omega) | simpa using h_) (seg := [.int .i64 t470, .slice Ao13 t471.length co13, .slice Ao12 t474.length co12]) (j := 0) (show 3 ≤ 3 from by decide) (x' := (⟨t470, (⟨t471, t474⟩ : S95)⟩ : S105)) (k105_mkM _ _ _ (⟨t470, (⟨t471, t474⟩ : S95)⟩ : S105) (Kd.R_mono (Kd.R_tight rfl (Kd.R_mono (ok' := fun k_ => ((fun _ => True)) k_ ∧ k_ ≠ go10) (Kd.R_apart' (HO473.out) (Kd.S_typed HO_3.out) (by decide)) (fun k_ hk => ⟨trivial, fun e_ => (hk.2) (by rw [e_]; rfl)⟩))) (fun _ h_ => Or.inr (Or.inl h_))) (Kd.R_mono (Kd.R_tight rfl (Kd.R_mono (ok' := fun k_ => ((fun _ => True)) k_ ∧ k_ ≠ go10) (Kd.R_apart' (HO476.out) (Kd.S_typed HO_3.out) (by decide)) (fun k_ hk => ⟨trivial, fun e_ => (hk.2) (by rw [e_]; rfl)⟩))) (fun _ h_ => Or.inr (Or.inr (h_))))) (fun _ hk => hk) (fun k_ hk_ => hk_.elim (fun h_ => ((Kd.R_mono (ok' := fun k_ => ((fun _ => True)) k_ ∧ k_ ≠ go10) (Kd.R_apart' (HO473.out) (Kd.S_typed HO_3.out) (by decide)) (fun k_ hk => ⟨trivial, fun e_ => (hk.2) (by rw [e_]; rfl)⟩))).1 k_ h_.symm) (fun h_ => ((Kd.R_mono (ok' := fun k_ => ((fun _ => True)) k_ ∧ k_ ≠ go10) (Kd.R_apart' (HO476.out) (Kd.S_typed HO_3.out) (by decide)) (fun k_ hk => ⟨trivial, fun e_ => (hk.2) (by rw [e_]; rfl)⟩))).1 k_ h_.symm)); have hx14_0 := hcc14 0 _ rfl; (try simp only [show (k105).sz = 3 from rfl, Nat.mul_one, Nat.add_zero] at hx14_0); have hf14_0 := hfr14 0; (try simp only [show (k105).sz = 3 from rfl, Nat.mul_one, Nat.add_zero] at hf14_0); have hx14_1 := hcc14 1 _ rfl; (try simp only [show (k105).sz = 3 from rfl, Nat.mul_one, Nat.add_zero] at hx14_1); have hf14_1 := hfr14 1; (try simp only [show (k105).sz = 3 from rfl, Nat.mul_one, Nat.add_zero] at hf14_1); have hx14_2 := hcc14 2 _ rfl; (try simp only [show (k105).sz = 3 from rfl, Nat.mul_one, Nat.add_zero] at hx14_2); have hf14_2 := hfr14 2; (try simp only [show (k105).sz = 3 from rfl, Nat.mul_one, Nat.add_zero] at hf14_2); clear hcl14 hcc14 hfr14 hM14 hoki14 hH14) | ((with_reducible refine gate_store (t := 105) (p := 21) rfl ?_); refine store_event (t := 105) (p := 21) (v := ?vo_w15) (w1 := (((w11.setCell ⟨go10, (x4_1 : Int).toNat * 3, none⟩ (.int .i64 t470)).setCell ⟨go10, (x4_1 : Int).toNat * 3 + 1, none⟩ (.slice Ao13 t471.length co13)).setCell ⟨go10, (x4_1 : Int).toNat * 3 + 2, none⟩ (.slice Ao12 t474.length co12))) ?hg ?ho ?hn ?hr ?_; (case ho => rfl); (case hg => rfl); (case hn => rfl); (case hr => first | (go_simp; done) | (go_simp; rfl)); intro w15 hw; have hg : w11.grownBy w15 (some go10) := (by rw [hw]; exact HP14.2); have hp_ : Kd.S k105 105 w15 w.heap.size (fun _ => True) (.slice (some ⟨go10, 0, none⟩) x3_1.length co10) y477 := (by rw [hw, Ny477.out]; exact HP14.1); clear HP14; have n0_ := qM (hp_); have n1_ := qM ((by rw [hw]; exact qS (qS (qS (HB.out) GB10.out) GB10.out) GB10.out : Below w.heap.size w w15)); clear HO_3; clear HB; clear HO473; clear HO476; have HO_3 := n0_; have HB := n1_; clear n0_ n1_; clear hg hw hp_))
      go_roundg k1
      case measure => have := HK1.out; omega
      case rel => exact ⟨(y477), (wrap64 (x4_1 + 1)), (by first | rfl | (simp; done) | (simp [*]; done)), H', ⟨by have := HK1.out; omega⟩, ⟨by (with_reducible repeat (first | apply Kd.S_alloc | apply Kd.S_drewN | apply Kd.S_drew)); exact HO_3.out⟩, ⟨by repeat (first | (with_reducible first | exact HB.out | apply qA | apply qN | apply qD) | exact HB.out)⟩⟩
def impl_CloudOk.f (l0_0 : List Bool) (l0_1 : List (S141)) (l1 : List (S105)) : Option (Bool) := (impl_SheetSafe.f l0_0 l0_1).bind fun t479 => (if t479 = true then (if (l1.length : Int) ≤ 6 then ((impl_CloudOk_1_any.f l1 l0_0 l0_1).bind fun t480 => (some (!t480))) else (some false)) else (some false))
set_option maxHeartbeats 8000000 in
set_option maxRecDepth 100000 in
theorem impl_CloudOk.calls (A0_0 : Option Addr) (c0_0 : Nat) (l0_0 : List Bool) (A0_1 : Option Addr) (c0_1 : Nat) (l0_1 : List (S141)) (A1 : Option Addr) (c1 : Nat) (l1 : List (S105)) (r : Bool) (w : World) (hr0_0 : Kd.C Kd.bool w A0_0 l0_0.length l0_0) (hc0_0 : l0_0.length ≤ c0_0) (hr0_1 : Kd.C k141 w A0_1 l0_1.length l0_1) (hc0_1 : l0_1.length ≤ c0_1) (hr1 : Kd.C k105 w A1 l1.length l1) (hc1 : l1.length ≤ c1) (h : impl_CloudOk.f l0_0 l0_1 l1 = some r) :
    Calls Try.prog 34 #[.agg #[.slice A0_0 l0_0.length c0_0, .slice A0_1 l0_1.length c0_1], .slice A1 l1.length c1] w fun e w' => e = .returned (.bool r) ∧ Below w.heap.size w w' := by
  have hu30 := Try.underlying30
  have hmf : ∀ (fn : Fn) (first cap : Array Value) (W : World), (Instr.makeFunc fn first cap).run Try.prog W = .ok (.func fn first cap) W := fun _ _ _ _ => rfl
  have HR0_0 := qM hr0_0
  have HC0_0 := qM hc0_0
  clear hr0_0 hc0_0
  have HR0_1 := qM hr0_1
  have HC0_1 := qM hc0_1
  clear hr0_1 hc0_1
  have HR1 := qM hr1
  have HC1 := qM hc1
  clear hr1 hc1
  have HB := qM (Below.refl w.heap.size w)
  have H : ((impl_SheetSafe.f l0_0 l0_1).bind fun t479 => (if t479 = true then (if (l1.length : Int) ≤ 6 then ((impl_CloudOk_1_any.f l1 l0_0 l0_1).bind fun t480 => (some (!t480))) else (some false)) else (some false))) = some r := h
  clear h
  replace H := Option.bind_eq_some_iff.mp H
  obtain ⟨t479, A30, H⟩ := H
  replace H : (if t479 = true then (if (l1.length : Int) ≤ 6 then ((impl_CloudOk_1_any.f l1 l0_0 l0_1).bind fun t480 => (some (!t480))) else (some false)) else (some false)) = some r := H
  have A3 := qM A30
  clear A30
  by_cases c4 : t479 = true
  rotate_left
  · replace c4 := Bool.eq_false_iff.mpr c4
    subst c4
    have H1 : (some false) = some r := by rw [if_neg (show ¬ (false = true) by decide)] at H; exact H
    clear H
    have H := H1
    clear H1
    obtain rfl := Option.some.inj H
    go_enter Try.func34, Try.ntmps34
    go_wp2_with (first | ((with_reducible refine gate_dst (N := 2) rfl ?_); (try (refine gate_guard (by rfl) ?_; dsimp only)); refine box_event ?hg (N := 2) ?hd (cs := #[.slice A0_0 l0_0.length c0_0, .slice A0_1 l0_1.length c0_1]) (t := 30) ?hr ?_; (case hd => rfl); (case hg => rfl); (case hr => first | (go_simp; done) | (go_simp; rfl)); intro gb478 hg w14 hbox hb; have n0_ := qM (qs (by repeat (first | (with_reducible first | exact HB.out | apply qA | apply qN | apply qD) | exact HB.out)) hb); have n1_ := qM (hbox); have n2_ := qM ((by rw [hg]; exact (qz (by repeat (first | (with_reducible first | exact HB.out | apply qA | apply qN | apply qD) | exact HB.out))) : w.heap.size ≤ gb478)); have n3_ := qM ((by rw [hg]; exact (qz (by repeat (first | (with_reducible first | exact HB.out | apply qA | apply qN | apply qD) | exact HB.out))) : w.heap.size ≤ gb478)); clear HB; have HB := n0_; have BK478 := n1_; have GW478 := n2_; have GE478 := n3_; clear n0_ n1_ n2_ n3_; clear hb hbox hg; have hcz15_0 : w14.cell? ⟨gb478, 0, none⟩ = some (.slice A0_0 l0_0.length c0_0) := (qC BK478.out 0).trans rfl; have hcz15_1 : w14.cell? ⟨gb478, 1, none⟩ = some (.slice A0_1 l0_1.length c0_1) := (qC BK478.out 1).trans rfl; have hfz15_0 := qF BK478.out 0; have hfz15_1 := qF BK478.out 1) | ((with_reducible refine gate_callee (f := 17) rfl ?_); refine goesL_ (some 6) rfl rfl Try.func17 (by kernel_rfl) rfl #[.agg #[.slice A0_0 l0_0.length c0_0, .slice A0_1 l0_1.length c0_1]] rfl (by (try simp only [List.map_toArray, List.map_cons, List.map_nil]); first | done | rfl | (simp only [List.length_drop, List.length_take]; rfl)) ?_; (with_reducible refine (impl_SheetSafe.calls _ _ l0_0 _ _ l0_1 false _ ?side1 ?side2 ?side3 ?side4 A3.out).mono ?_); (case side1 => repeat (first | exact (qB HR0_0.out HB.out) | (with_reducible refine qc ?_ _) | (with_reducible refine qe ?_ _) | (with_reducible refine qf ?_))); (case side2 => exact HC0_0.out); (case side3 => repeat (first | exact (qB HR0_1.out HB.out) | (with_reducible refine qc ?_ _) | (with_reducible refine qe ?_ _) | (with_reducible refine qf ?_))); (case side4 => exact HC0_1.out); rintro e w16 ⟨rfl, hb⟩; refine ⟨_, rfl, ?_⟩; have n0_ := qM (blk_below (g := gb478) (o := .cells #[.slice A0_0 l0_0.length c0_0, .slice A0_1 l0_1.length c0_1] 30 (0, 0)) (by (with_reducible repeat (first | refine qn ?_ _ | refine qd ?_ | refine qa ?_ _)); exact BK478.out) hb); have n1_ := qM (qs (by repeat (first | (with_reducible first | exact HB.out | apply qA | apply qN | apply qD | refine qS ?_ GE478.out) | exact HB.out)) hb); clear BK478; clear HB; have BK478 := n0_; have HB := n1_; clear n0_ n1_; (try clear hb); (try clear hb2); (try clear hk); (try clear hi)))
    go_ret
    exact ⟨by first | rfl | (simp [errW_none, errW_some] <;> rfl) | (simp [*, errW_none, errW_some] <;> rfl), by repeat (first | (with_reducible first | exact HB.out | apply qA | apply qN | apply qD | refine qS ?_ GE478.out) | exact HB.out)⟩
  subst c4
  have H1 : (if (l1.length : Int) ≤ 6 then ((impl_CloudOk_1_any.f l1 l0_0 l0_1).bind fun t480 => (some (!t480))) else (some false)) = some r := by rw [if_pos rfl] at H; exact H
  clear H
  have H := H1
  clear H1
  by_cases c5 : (l1.length : Int) ≤ 6
  rotate_left
  · rw [if_neg c5] at H
    have c5b0 : decide ((l1.length : Int) ≤ 6) = false := decide_eq_false c5
    have c5b1 : decide (l1.length ≤ 6) = false := decide_eq_false (by omega)
    clear c5
    obtain rfl := Option.some.inj H
    go_enter Try.func34, Try.ntmps34
    go_wp2_with (first | ((with_reducible refine gate_dst (N := 2) rfl ?_); (try (refine gate_guard (by rfl) ?_; dsimp only)); refine box_event ?hg (N := 2) ?hd (cs := #[.slice A0_0 l0_0.length c0_0, .slice A0_1 l0_1.length c0_1]) (t := 30) ?hr ?_; (case hd => rfl); (case hg => rfl); (case hr => first | (go_simp; done) | (go_simp; rfl)); intro gb478 hg w11 hbox hb; have n0_ := qM (qs (by repeat (first | (with_reducible first | exact HB.out | apply qA | apply qN | apply qD) | exact HB.out)) hb); have n1_ := qM (hbox); have n2_ := qM ((by rw [hg]; exact (qz (by repeat (first | (with_reducible first | exact HB.out | apply qA | apply qN | apply qD) | exact HB.out))) : w.heap.size ≤ gb478)); have n3_ := qM ((by rw [hg]; exact (qz (by repeat (first | (with_reducible first | exact HB.out | apply qA | apply qN | apply qD) | exact HB.out))) : w.heap.size ≤ gb478)); clear HB; have HB := n0_; have BK478 := n1_; have GW478 := n2_; have GE478 := n3_; clear n0_ n1_ n2_ n3_; clear hb hbox hg; have hcz12_0 : w11.cell? ⟨gb478, 0, none⟩ = some (.slice A0_0 l0_0.length c0_0) := (qC BK478.out 0).trans rfl; have hcz12_1 : w11.cell? ⟨gb478, 1, none⟩ = some (.slice A0_1 l0_1.length c0_1) := (qC BK478.out 1).trans rfl; have hfz12_0 := qF BK478.out 0; have hfz12_1 := qF BK478.out 1) | ((with_reducible refine gate_callee (f := 17) rfl ?_); refine goesL_ (some 6) rfl rfl Try.func17 (by kernel_rfl) rfl #[.agg #[.slice A0_0 l0_0.length c0_0, .slice A0_1 l0_1.length c0_1]] rfl (by (try simp only [List.map_toArray, List.map_cons, List.map_nil]); first | done | rfl | (simp only [List.length_drop, List.length_take]; rfl)) ?_; (with_reducible refine (impl_SheetSafe.calls _ _ l0_0 _ _ l0_1 true _ ?side1 ?side2 ?side3 ?side4 A3.out).mono ?_); (case side1 => repeat (first | exact (qB HR0_0.out HB.out) | (with_reducible refine qc ?_ _) | (with_reducible refine qe ?_ _) | (with_reducible refine qf ?_))); (case side2 => exact HC0_0.out); (case side3 => repeat (first | exact (qB HR0_1.out HB.out) | (with_reducible refine qc ?_ _) | (with_reducible refine qe ?_ _) | (with_reducible refine qf ?_))); (case side4 => exact HC0_1.out); rintro e w13 ⟨rfl, hb⟩; refine ⟨_, rfl, ?_⟩; have n0_ := qM (blk_below (g := gb478) (o := .cells #[.slice A0_0 l0_0.length c0_0, .slice A0_1 l0_1.length c0_1] 30 (0, 0)) (by (with_reducible repeat (first | refine qn ?_ _ | refine qd ?_ | refine qa ?_ _)); exact BK478.out) hb); have n1_ := qM (qs (by repeat (first | (with_reducible first | exact HB.out | apply qA | apply qN | apply qD | refine qS ?_ GE478.out) | exact HB.out)) hb); clear BK478; clear HB; have BK478 := n0_; have HB := n1_; clear n0_ n1_; (try clear hb); (try clear hb2); (try clear hk); (try clear hi)))
    go_ret
    exact ⟨by first | rfl | (simp [errW_none, errW_some] <;> rfl) | (simp [*, errW_none, errW_some] <;> rfl), by repeat (first | (with_reducible first | exact HB.out | apply qA | apply qN | apply qD | refine qS ?_ GE478.out) | exact HB.out)⟩
  rw [if_pos c5] at H
  have c5b0 : decide ((l1.length : Int) ≤ 6) = true := decide_eq_true c5
  have c5b1 : decide (l1.length ≤ 6) = true := decide_eq_true (by omega)
  clear c5
  replace H := Option.bind_eq_some_iff.mp H
  obtain ⟨t480, A60, H⟩ := H
  replace H : (some (!t480)) = some r := H
  have A6 := qM A60
  clear A60
  obtain rfl := Option.some.inj H
  go_enter Try.func34, Try.ntmps34
  go_wp2_with (first | ((with_reducible refine gate_dst (N := 2) rfl ?_); (try (refine gate_guard (by rfl) ?_; dsimp only)); refine box_event ?hg (N := 2) ?hd (cs := #[.slice A0_0 l0_0.length c0_0, .slice A0_1 l0_1.length c0_1]) (t := 30) ?hr ?_; (case hd => rfl); (case hg => rfl); (case hr => first | (go_simp; done) | (go_simp; rfl)); intro gb478 hg w7 hbox hb; have n0_ := qM (qs (by repeat (first | (with_reducible first | exact HB.out | apply qA | apply qN | apply qD) | exact HB.out)) hb); have n1_ := qM (hbox); have n2_ := qM ((by rw [hg]; exact (qz (by repeat (first | (with_reducible first | exact HB.out | apply qA | apply qN | apply qD) | exact HB.out))) : w.heap.size ≤ gb478)); have n3_ := qM ((by rw [hg]; exact (qz (by repeat (first | (with_reducible first | exact HB.out | apply qA | apply qN | apply qD) | exact HB.out))) : w.heap.size ≤ gb478)); clear HB; have HB := n0_; have BK478 := n1_; have GW478 := n2_; have GE478 := n3_; clear n0_ n1_ n2_ n3_; clear hb hbox hg; have hcz8_0 : w7.cell? ⟨gb478, 0, none⟩ = some (.slice A0_0 l0_0.length c0_0) := (qC BK478.out 0).trans rfl; have hcz8_1 : w7.cell? ⟨gb478, 1, none⟩ = some (.slice A0_1 l0_1.length c0_1) := (qC BK478.out 1).trans rfl; have hfz8_0 := qF BK478.out 0; have hfz8_1 := qF BK478.out 1) | ((with_reducible refine gate_callee (f := 17) rfl ?_); refine goesL_ (some 6) rfl rfl Try.func17 (by kernel_rfl) rfl #[.agg #[.slice A0_0 l0_0.length c0_0, .slice A0_1 l0_1.length c0_1]] rfl (by (try simp only [List.map_toArray, List.map_cons, List.map_nil]); first | done | rfl | (simp only [List.length_drop, List.length_take]; rfl)) ?_; (with_reducible refine (impl_SheetSafe.calls _ _ l0_0 _ _ l0_1 true _ ?side1 ?side2 ?side3 ?side4 A3.out).mono ?_); (case side1 => repeat (first | exact (qB HR0_0.out HB.out) | (with_reducible refine qc ?_ _) | (with_reducible refine qe ?_ _) | (with_reducible refine qf ?_))); (case side2 => exact HC0_0.out); (case side3 => repeat (first | exact (qB HR0_1.out HB.out) | (with_reducible refine qc ?_ _) | (with_reducible refine qe ?_ _) | (with_reducible refine qf ?_))); (case side4 => exact HC0_1.out); rintro e w9 ⟨rfl, hb⟩; refine ⟨_, rfl, ?_⟩; have n0_ := qM (blk_below (g := gb478) (o := .cells #[.slice A0_0 l0_0.length c0_0, .slice A0_1 l0_1.length c0_1] 30 (0, 0)) (by (with_reducible repeat (first | refine qn ?_ _ | refine qd ?_ | refine qa ?_ _)); exact BK478.out) hb); have n1_ := qM (qs (by repeat (first | (with_reducible first | exact HB.out | apply qA | apply qN | apply qD | refine qS ?_ GE478.out) | exact HB.out)) hb); clear BK478; clear HB; have BK478 := n0_; have HB := n1_; clear n0_ n1_; (try clear hb); (try clear hb2); (try clear hk); (try clear hi)) | (go_at_call 84; (with_reducible refine (impl_CloudOk_1_any.calls _ _ l1 gb478 A0_0 c0_0 l0_0 A0_1 c0_1 l0_1 t480 _ ?side1 ?side2 ?side3 ?side4 ?side5 ?side6 ?side7 A6.out).mono ?_); (case side1 => (with_reducible repeat (first | refine qn ?_ _ | refine qd ?_ | refine qa ?_ _)); exact BK478.out); (case side2 => repeat (first | exact (qB HR1.out HB.out) | (with_reducible refine qc ?_ _) | (with_reducible refine qe ?_ _) | (with_reducible refine qf ?_))); (case side3 => exact HC1.out); (case side4 => repeat (first | exact (qB HR0_0.out HB.out) | (with_reducible refine qc ?_ _) | (with_reducible refine qe ?_ _) | (with_reducible refine qf ?_))); (case side5 => exact HC0_0.out); (case side6 => repeat (first | exact (qB HR0_1.out HB.out) | (with_reducible refine qc ?_ _) | (with_reducible refine qe ?_ _) | (with_reducible refine qf ?_))); (case side7 => exact HC0_1.out); rintro e w10 ⟨rfl, hb⟩; have n0_ := qM (blk_below (g := gb478) (o := .cells #[.slice A0_0 l0_0.length c0_0, .slice A0_1 l0_1.length c0_1] 30 (0, 0)) (by (with_reducible repeat (first | refine qn ?_ _ | refine qd ?_ | refine qa ?_ _)); exact BK478.out) hb); have n1_ := qM (qs (by repeat (first | (with_reducible first | exact HB.out | apply qA | apply qN | apply qD | refine qS ?_ GE478.out) | exact HB.out)) hb); clear BK478; clear HB; have BK478 := n0_; have HB := n1_; clear n0_ n1_; (try clear hb); (try clear hb2); (try clear hk); (try clear hi)))
  go_ret
  exact ⟨by first | rfl | (simp [errW_none, errW_some] <;> rfl) | (simp [*, errW_none, errW_some] <;> rfl), by repeat (first | (with_reducible first | exact HB.out | apply qA | apply qN | apply qD | refine qS ?_ GE478.out) | exact HB.out)⟩
def laws_eqShared.f (k : Nat) (a0_0 : Int) (l0_1 : List Int) (l0_2 : List Int) (a1_0 : Int) (l1_1 : List Int) (l1_2 : List Int) : Option (Bool) := if a0_0 = a1_0 then ((laws_eqOrder.f k l0_1 l0_2 l1_1 l1_2).bind fun t483 => (if t483 = true then (some true) else (some false))) else (some false)
set_option maxHeartbeats 8000000 in
set_option maxRecDepth 100000 in
theorem laws_eqShared.calls (k : Nat) (a0_0 : Int) (A0_1 : Option Addr) (c0_1 : Nat) (l0_1 : List Int) (A0_2 : Option Addr) (c0_2 : Nat) (l0_2 : List Int) (a1_0 : Int) (A1_1 : Option Addr) (c1_1 : Nat) (l1_1 : List Int) (A1_2 : Option Addr) (c1_2 : Nat) (l1_2 : List Int) (r : Bool) (w : World) (hr0_1 : Kd.C (Kd.int .i64) w A0_1 l0_1.length l0_1) (hc0_1 : l0_1.length ≤ c0_1) (hr0_2 : Kd.C (Kd.int .i64) w A0_2 l0_2.length l0_2) (hc0_2 : l0_2.length ≤ c0_2) (hr1_1 : Kd.C (Kd.int .i64) w A1_1 l1_1.length l1_1) (hc1_1 : l1_1.length ≤ c1_1) (hr1_2 : Kd.C (Kd.int .i64) w A1_2 l1_2.length l1_2) (hc1_2 : l1_2.length ≤ c1_2) (h : laws_eqShared.f k a0_0 l0_1 l0_2 a1_0 l1_1 l1_2 = some r) :
    Calls Try.prog 86 #[.agg #[.int .i64 a0_0, .slice A0_1 l0_1.length c0_1, .slice A0_2 l0_2.length c0_2], .agg #[.int .i64 a1_0, .slice A1_1 l1_1.length c1_1, .slice A1_2 l1_2.length c1_2]] w fun e w' => e = .returned (.bool r) ∧ Below w.heap.size w w' := by
  have hu105 := Try.underlying105
  have hu95 := Try.underlying95
  have HR0_1 := qM hr0_1
  have HC0_1 := qM hc0_1
  clear hr0_1 hc0_1
  have HR0_2 := qM hr0_2
  have HC0_2 := qM hc0_2
  clear hr0_2 hc0_2
  have HR1_1 := qM hr1_1
  have HC1_1 := qM hc1_1
  clear hr1_1 hc1_1
  have HR1_2 := qM hr1_2
  have HC1_2 := qM hc1_2
  clear hr1_2 hc1_2
  have HB := qM (Below.refl w.heap.size w)
  have H : (if a0_0 = a1_0 then ((laws_eqOrder.f k l0_1 l0_2 l1_1 l1_2).bind fun t483 => (if t483 = true then (some true) else (some false))) else (some false)) = some r := h
  clear h
  by_cases c3 : a0_0 = a1_0
  rotate_left
  · rw [if_neg c3] at H
    have c3b0 : (a0_0 == a1_0) = false := beq_eq_false_iff_ne.mpr c3
    have c3b1 : (a0_0 != a1_0) = true := bne_iff_ne.mpr c3
    obtain rfl := Option.some.inj H
    go_enter Try.func86, Try.ntmps86
    go_wp2_with (first | ((with_reducible refine gate_dst (N := 2) rfl ?_); refine box_event ?hg (N := 2) ?hd (cs := #[.int .i64 a0_0, .slice A0_1 l0_1.length c0_1, .slice A0_2 l0_2.length c0_2]) (t := 105) ?hr ?_; (case hd => rfl); (case hg => rfl); (case hr => first | (go_simp; done) | (go_simp; rfl)); intro gb481 hg w18 hbox hb; have n0_ := qM (qs (by repeat (first | (with_reducible first | exact HB.out | apply qA | apply qN | apply qD) | exact HB.out)) hb); have n1_ := qM (hbox); have n2_ := qM ((by rw [hg]; exact (qz (by repeat (first | (with_reducible first | exact HB.out | apply qA | apply qN | apply qD) | exact HB.out))) : w.heap.size ≤ gb481)); have n3_ := qM ((by rw [hg]; exact (qz (by repeat (first | (with_reducible first | exact HB.out | apply qA | apply qN | apply qD) | exact HB.out))) : w.heap.size ≤ gb481)); clear HB; have HB := n0_; have BK481 := n1_; have GW481 := n2_; have GE481 := n3_; clear n0_ n1_ n2_ n3_; clear hb hbox hg) | ((with_reducible refine gate_dst (N := 3) rfl ?_); refine box_event ?hg (N := 3) ?hd (cs := #[.int .i64 a1_0, .slice A1_1 l1_1.length c1_1, .slice A1_2 l1_2.length c1_2]) (t := 105) ?hr ?_; (case hd => rfl); (case hg => rfl); (case hr => first | (go_simp; done) | (go_simp; rfl)); intro gb482 hg w19 hbox hb; have n0_ := qM (blk_below (g := gb481) (o := .cells #[.int .i64 a0_0, .slice A0_1 l0_1.length c0_1, .slice A0_2 l0_2.length c0_2] 105 (0, 0)) (by (with_reducible repeat (first | refine qn ?_ _ | refine qd ?_ | refine qa ?_ _)); exact BK481.out) hb); have n1_ := qM (qs (by repeat (first | (with_reducible first | exact HB.out | apply qA | apply qN | apply qD | refine qS ?_ GE481.out) | exact HB.out)) hb); have n2_ := qM (hbox); have n3_ := qM ((by rw [hg]; exact (qz (by repeat (first | (with_reducible first | exact HB.out | apply qA | apply qN | apply qD | refine qS ?_ GE481.out) | exact HB.out))) : w.heap.size ≤ gb482)); have n4_ := qM ((by rw [hg]; exact (qz (by repeat (first | (with_reducible first | exact HB.out | apply qA | apply qN | apply qD | refine qS ?_ GE481.out) | exact HB.out))) : w.heap.size ≤ gb482)); have n5_ := qM ((by rw [hg]; exact Nat.ne_of_lt (blk_lt (g := gb481) (o := .cells #[.int .i64 a0_0, .slice A0_1 l0_1.length c0_1, .slice A0_2 l0_2.length c0_2] 105 (0, 0)) (by (with_reducible repeat (first | refine qn ?_ _ | refine qd ?_ | refine qa ?_ _)); exact BK481.out)) : gb481 ≠ gb482)); have n6_ := qM ((by rw [hg]; exact Nat.ne_of_gt (blk_lt (g := gb481) (o := .cells #[.int .i64 a0_0, .slice A0_1 l0_1.length c0_1, .slice A0_2 l0_2.length c0_2] 105 (0, 0)) (by (with_reducible repeat (first | refine qn ?_ _ | refine qd ?_ | refine qa ?_ _)); exact BK481.out)) : gb482 ≠ gb481)); clear BK481; clear HB; have BK481 := n0_; have HB := n1_; have BK482 := n2_; have GW482 := n3_; have GE482 := n4_; have NB481_482 := n5_; have NB482_481 := n6_; clear n0_ n1_ n2_ n3_ n4_ n5_ n6_; clear hb hbox hg; have hnb20 := NB481_482.out; have hnc20 := NB482_481.out; have hcz21_0 : w19.cell? ⟨gb481, 0, none⟩ = some (.int .i64 a0_0) := (qC BK481.out 0).trans rfl; have hcz21_1 : w19.cell? ⟨gb481, 1, none⟩ = some (.slice A0_1 l0_1.length c0_1) := (qC BK481.out 1).trans rfl; have hcz21_2 : w19.cell? ⟨gb481, 2, none⟩ = some (.slice A0_2 l0_2.length c0_2) := (qC BK481.out 2).trans rfl; have hfz21_0 := qF BK481.out 0; have hfz21_1 := qF BK481.out 1; have hfz21_2 := qF BK481.out 2; have hcz22_0 : w19.cell? ⟨gb482, 0, none⟩ = some (.int .i64 a1_0) := (qC BK482.out 0).trans rfl; have hcz22_1 : w19.cell? ⟨gb482, 1, none⟩ = some (.slice A1_1 l1_1.length c1_1) := (qC BK482.out 1).trans rfl; have hcz22_2 : w19.cell? ⟨gb482, 2, none⟩ = some (.slice A1_2 l1_2.length c1_2) := (qC BK482.out 2).trans rfl; have hfz22_0 := qF BK482.out 0; have hfz22_1 := qF BK482.out 1; have hfz22_2 := qF BK482.out 2))
    go_ret
    exact ⟨by first | rfl | (simp [errW_none, errW_some] <;> rfl) | (simp [*, errW_none, errW_some] <;> rfl), by repeat (first | (with_reducible first | exact HB.out | apply qA | apply qN | apply qD | refine qS ?_ GE481.out | refine qS ?_ GE482.out) | exact HB.out)⟩
  rw [if_pos c3] at H
  have c3b0 : (a0_0 == a1_0) = true := beq_iff_eq.mpr c3
  have c3b1 : (a0_0 != a1_0) = false := bne_eq_false_iff_eq.mpr c3
  clear c3
  replace H := Option.bind_eq_some_iff.mp H
  obtain ⟨t483, A40, H⟩ := H
  replace H : (if t483 = true then (some true) else (some false)) = some r := H
  have A4 := qM A40
  clear A40
  by_cases c5 : t483 = true
  · subst c5
    have H1 : (some true) = some r := by rw [if_pos rfl] at H; exact H
    clear H
    have H := H1
    clear H1
    obtain rfl := Option.some.inj H
    go_enter Try.func86, Try.ntmps86
    go_wp2_with (first | ((with_reducible refine gate_dst (N := 2) rfl ?_); refine box_event ?hg (N := 2) ?hd (cs := #[.int .i64 a0_0, .slice A0_1 l0_1.length c0_1, .slice A0_2 l0_2.length c0_2]) (t := 105) ?hr ?_; (case hd => rfl); (case hg => rfl); (case hr => first | (go_simp; done) | (go_simp; rfl)); intro gb481 hg w6 hbox hb; have n0_ := qM (qs (by repeat (first | (with_reducible first | exact HB.out | apply qA | apply qN | apply qD) | exact HB.out)) hb); have n1_ := qM (hbox); have n2_ := qM ((by rw [hg]; exact (qz (by repeat (first | (with_reducible first | exact HB.out | apply qA | apply qN | apply qD) | exact HB.out))) : w.heap.size ≤ gb481)); have n3_ := qM ((by rw [hg]; exact (qz (by repeat (first | (with_reducible first | exact HB.out | apply qA | apply qN | apply qD) | exact HB.out))) : w.heap.size ≤ gb481)); clear HB; have HB := n0_; have BK481 := n1_; have GW481 := n2_; have GE481 := n3_; clear n0_ n1_ n2_ n3_; clear hb hbox hg) | ((with_reducible refine gate_dst (N := 3) rfl ?_); refine box_event ?hg (N := 3) ?hd (cs := #[.int .i64 a1_0, .slice A1_1 l1_1.length c1_1, .slice A1_2 l1_2.length c1_2]) (t := 105) ?hr ?_; (case hd => rfl); (case hg => rfl); (case hr => first | (go_simp; done) | (go_simp; rfl)); intro gb482 hg w7 hbox hb; have n0_ := qM (blk_below (g := gb481) (o := .cells #[.int .i64 a0_0, .slice A0_1 l0_1.length c0_1, .slice A0_2 l0_2.length c0_2] 105 (0, 0)) (by (with_reducible repeat (first | refine qn ?_ _ | refine qd ?_ | refine qa ?_ _)); exact BK481.out) hb); have n1_ := qM (qs (by repeat (first | (with_reducible first | exact HB.out | apply qA | apply qN | apply qD | refine qS ?_ GE481.out) | exact HB.out)) hb); have n2_ := qM (hbox); have n3_ := qM ((by rw [hg]; exact (qz (by repeat (first | (with_reducible first | exact HB.out | apply qA | apply qN | apply qD | refine qS ?_ GE481.out) | exact HB.out))) : w.heap.size ≤ gb482)); have n4_ := qM ((by rw [hg]; exact (qz (by repeat (first | (with_reducible first | exact HB.out | apply qA | apply qN | apply qD | refine qS ?_ GE481.out) | exact HB.out))) : w.heap.size ≤ gb482)); have n5_ := qM ((by rw [hg]; exact Nat.ne_of_lt (blk_lt (g := gb481) (o := .cells #[.int .i64 a0_0, .slice A0_1 l0_1.length c0_1, .slice A0_2 l0_2.length c0_2] 105 (0, 0)) (by (with_reducible repeat (first | refine qn ?_ _ | refine qd ?_ | refine qa ?_ _)); exact BK481.out)) : gb481 ≠ gb482)); have n6_ := qM ((by rw [hg]; exact Nat.ne_of_gt (blk_lt (g := gb481) (o := .cells #[.int .i64 a0_0, .slice A0_1 l0_1.length c0_1, .slice A0_2 l0_2.length c0_2] 105 (0, 0)) (by (with_reducible repeat (first | refine qn ?_ _ | refine qd ?_ | refine qa ?_ _)); exact BK481.out)) : gb482 ≠ gb481)); clear BK481; clear HB; have BK481 := n0_; have HB := n1_; have BK482 := n2_; have GW482 := n3_; have GE482 := n4_; have NB481_482 := n5_; have NB482_481 := n6_; clear n0_ n1_ n2_ n3_ n4_ n5_ n6_; clear hb hbox hg; have hnb8 := NB481_482.out; have hnc8 := NB482_481.out; have hcz9_0 : w7.cell? ⟨gb481, 0, none⟩ = some (.int .i64 a0_0) := (qC BK481.out 0).trans rfl; have hcz9_1 : w7.cell? ⟨gb481, 1, none⟩ = some (.slice A0_1 l0_1.length c0_1) := (qC BK481.out 1).trans rfl; have hcz9_2 : w7.cell? ⟨gb481, 2, none⟩ = some (.slice A0_2 l0_2.length c0_2) := (qC BK481.out 2).trans rfl; have hfz9_0 := qF BK481.out 0; have hfz9_1 := qF BK481.out 1; have hfz9_2 := qF BK481.out 2; have hcz10_0 : w7.cell? ⟨gb482, 0, none⟩ = some (.int .i64 a1_0) := (qC BK482.out 0).trans rfl; have hcz10_1 : w7.cell? ⟨gb482, 1, none⟩ = some (.slice A1_1 l1_1.length c1_1) := (qC BK482.out 1).trans rfl; have hcz10_2 : w7.cell? ⟨gb482, 2, none⟩ = some (.slice A1_2 l1_2.length c1_2) := (qC BK482.out 2).trans rfl; have hfz10_0 := qF BK482.out 0; have hfz10_1 := qF BK482.out 1; have hfz10_2 := qF BK482.out 2) | ((with_reducible refine gate_callee (f := 80) rfl ?_); refine goesL_ (some 14) rfl rfl Try.func80 (by kernel_rfl) rfl #[.agg #[.slice A0_1 l0_1.length c0_1, .slice A0_2 l0_2.length c0_2], .agg #[.slice A1_1 l1_1.length c1_1, .slice A1_2 l1_2.length c1_2]] rfl (by (try simp only [List.map_toArray, List.map_cons, List.map_nil]); first | done | rfl | (simp only [List.length_drop, List.length_take]; rfl)) ?_; (with_reducible refine (laws_eqOrder.calls k _ _ l0_1 _ _ l0_2 _ _ l1_1 _ _ l1_2 true _ ?side1 ?side2 ?side3 ?side4 ?side5 ?side6 ?side7 ?side8 A4.out).mono ?_); (case side1 => repeat (first | exact (qB HR0_1.out HB.out) | (with_reducible refine qc ?_ _) | (with_reducible refine qe ?_ _) | (with_reducible refine qf ?_))); (case side2 => exact HC0_1.out); (case side3 => repeat (first | exact (qB HR0_2.out HB.out) | (with_reducible refine qc ?_ _) | (with_reducible refine qe ?_ _) | (with_reducible refine qf ?_))); (case side4 => exact HC0_2.out); (case side5 => repeat (first | exact (qB HR1_1.out HB.out) | (with_reducible refine qc ?_ _) | (with_reducible refine qe ?_ _) | (with_reducible refine qf ?_))); (case side6 => exact HC1_1.out); (case side7 => repeat (first | exact (qB HR1_2.out HB.out) | (with_reducible refine qc ?_ _) | (with_reducible refine qe ?_ _) | (with_reducible refine qf ?_))); (case side8 => exact HC1_2.out); rintro e w11 ⟨rfl, hb⟩; refine ⟨_, rfl, ?_⟩; have n0_ := qM (blk_below (g := gb481) (o := .cells #[.int .i64 a0_0, .slice A0_1 l0_1.length c0_1, .slice A0_2 l0_2.length c0_2] 105 (0, 0)) (by (with_reducible repeat (first | refine qn ?_ _ | refine qd ?_ | refine qa ?_ _)); exact BK481.out) hb); have n1_ := qM (blk_below (g := gb482) (o := .cells #[.int .i64 a1_0, .slice A1_1 l1_1.length c1_1, .slice A1_2 l1_2.length c1_2] 105 (0, 0)) (by (with_reducible repeat (first | refine qn ?_ _ | refine qd ?_ | refine qa ?_ _)); exact BK482.out) hb); have n2_ := qM (qs (by repeat (first | (with_reducible first | exact HB.out | apply qA | apply qN | apply qD | refine qS ?_ GE481.out | refine qS ?_ GE482.out) | exact HB.out)) hb); clear BK481; clear BK482; clear HB; have BK481 := n0_; have BK482 := n1_; have HB := n2_; clear n0_ n1_ n2_; (try clear hb); (try clear hb2); (try clear hk); (try clear hi)))
    go_ret
    exact ⟨by first | rfl | (simp [errW_none, errW_some] <;> rfl) | (simp [*, errW_none, errW_some] <;> rfl), by repeat (first | (with_reducible first | exact HB.out | apply qA | apply qN | apply qD | refine qS ?_ GE481.out | refine qS ?_ GE482.out) | exact HB.out)⟩
  replace c5 := Bool.eq_false_iff.mpr c5
  subst c5
  have H1 : (some false) = some r := by rw [if_neg (show ¬ (false = true) by decide)] at H; exact H
  clear H
  have H := H1
  clear H1
  obtain rfl := Option.some.inj H
  go_enter Try.func86, Try.ntmps86
  go_wp2_with (first | ((with_reducible refine gate_dst (N := 2) rfl ?_); refine box_event ?hg (N := 2) ?hd (cs := #[.int .i64 a0_0, .slice A0_1 l0_1.length c0_1, .slice A0_2 l0_2.length c0_2]) (t := 105) ?hr ?_; (case hd => rfl); (case hg => rfl); (case hr => first | (go_simp; done) | (go_simp; rfl)); intro gb481 hg w12 hbox hb; have n0_ := qM (qs (by repeat (first | (with_reducible first | exact HB.out | apply qA | apply qN | apply qD) | exact HB.out)) hb); have n1_ := qM (hbox); have n2_ := qM ((by rw [hg]; exact (qz (by repeat (first | (with_reducible first | exact HB.out | apply qA | apply qN | apply qD) | exact HB.out))) : w.heap.size ≤ gb481)); have n3_ := qM ((by rw [hg]; exact (qz (by repeat (first | (with_reducible first | exact HB.out | apply qA | apply qN | apply qD) | exact HB.out))) : w.heap.size ≤ gb481)); clear HB; have HB := n0_; have BK481 := n1_; have GW481 := n2_; have GE481 := n3_; clear n0_ n1_ n2_ n3_; clear hb hbox hg) | ((with_reducible refine gate_dst (N := 3) rfl ?_); refine box_event ?hg (N := 3) ?hd (cs := #[.int .i64 a1_0, .slice A1_1 l1_1.length c1_1, .slice A1_2 l1_2.length c1_2]) (t := 105) ?hr ?_; (case hd => rfl); (case hg => rfl); (case hr => first | (go_simp; done) | (go_simp; rfl)); intro gb482 hg w13 hbox hb; have n0_ := qM (blk_below (g := gb481) (o := .cells #[.int .i64 a0_0, .slice A0_1 l0_1.length c0_1, .slice A0_2 l0_2.length c0_2] 105 (0, 0)) (by (with_reducible repeat (first | refine qn ?_ _ | refine qd ?_ | refine qa ?_ _)); exact BK481.out) hb); have n1_ := qM (qs (by repeat (first | (with_reducible first | exact HB.out | apply qA | apply qN | apply qD | refine qS ?_ GE481.out) | exact HB.out)) hb); have n2_ := qM (hbox); have n3_ := qM ((by rw [hg]; exact (qz (by repeat (first | (with_reducible first | exact HB.out | apply qA | apply qN | apply qD | refine qS ?_ GE481.out) | exact HB.out))) : w.heap.size ≤ gb482)); have n4_ := qM ((by rw [hg]; exact (qz (by repeat (first | (with_reducible first | exact HB.out | apply qA | apply qN | apply qD | refine qS ?_ GE481.out) | exact HB.out))) : w.heap.size ≤ gb482)); have n5_ := qM ((by rw [hg]; exact Nat.ne_of_lt (blk_lt (g := gb481) (o := .cells #[.int .i64 a0_0, .slice A0_1 l0_1.length c0_1, .slice A0_2 l0_2.length c0_2] 105 (0, 0)) (by (with_reducible repeat (first | refine qn ?_ _ | refine qd ?_ | refine qa ?_ _)); exact BK481.out)) : gb481 ≠ gb482)); have n6_ := qM ((by rw [hg]; exact Nat.ne_of_gt (blk_lt (g := gb481) (o := .cells #[.int .i64 a0_0, .slice A0_1 l0_1.length c0_1, .slice A0_2 l0_2.length c0_2] 105 (0, 0)) (by (with_reducible repeat (first | refine qn ?_ _ | refine qd ?_ | refine qa ?_ _)); exact BK481.out)) : gb482 ≠ gb481)); clear BK481; clear HB; have BK481 := n0_; have HB := n1_; have BK482 := n2_; have GW482 := n3_; have GE482 := n4_; have NB481_482 := n5_; have NB482_481 := n6_; clear n0_ n1_ n2_ n3_ n4_ n5_ n6_; clear hb hbox hg; have hnb14 := NB481_482.out; have hnc14 := NB482_481.out; have hcz15_0 : w13.cell? ⟨gb481, 0, none⟩ = some (.int .i64 a0_0) := (qC BK481.out 0).trans rfl; have hcz15_1 : w13.cell? ⟨gb481, 1, none⟩ = some (.slice A0_1 l0_1.length c0_1) := (qC BK481.out 1).trans rfl; have hcz15_2 : w13.cell? ⟨gb481, 2, none⟩ = some (.slice A0_2 l0_2.length c0_2) := (qC BK481.out 2).trans rfl; have hfz15_0 := qF BK481.out 0; have hfz15_1 := qF BK481.out 1; have hfz15_2 := qF BK481.out 2; have hcz16_0 : w13.cell? ⟨gb482, 0, none⟩ = some (.int .i64 a1_0) := (qC BK482.out 0).trans rfl; have hcz16_1 : w13.cell? ⟨gb482, 1, none⟩ = some (.slice A1_1 l1_1.length c1_1) := (qC BK482.out 1).trans rfl; have hcz16_2 : w13.cell? ⟨gb482, 2, none⟩ = some (.slice A1_2 l1_2.length c1_2) := (qC BK482.out 2).trans rfl; have hfz16_0 := qF BK482.out 0; have hfz16_1 := qF BK482.out 1; have hfz16_2 := qF BK482.out 2) | ((with_reducible refine gate_callee (f := 80) rfl ?_); refine goesL_ (some 14) rfl rfl Try.func80 (by kernel_rfl) rfl #[.agg #[.slice A0_1 l0_1.length c0_1, .slice A0_2 l0_2.length c0_2], .agg #[.slice A1_1 l1_1.length c1_1, .slice A1_2 l1_2.length c1_2]] rfl (by (try simp only [List.map_toArray, List.map_cons, List.map_nil]); first | done | rfl | (simp only [List.length_drop, List.length_take]; rfl)) ?_; (with_reducible refine (laws_eqOrder.calls k _ _ l0_1 _ _ l0_2 _ _ l1_1 _ _ l1_2 false _ ?side1 ?side2 ?side3 ?side4 ?side5 ?side6 ?side7 ?side8 A4.out).mono ?_); (case side1 => repeat (first | exact (qB HR0_1.out HB.out) | (with_reducible refine qc ?_ _) | (with_reducible refine qe ?_ _) | (with_reducible refine qf ?_))); (case side2 => exact HC0_1.out); (case side3 => repeat (first | exact (qB HR0_2.out HB.out) | (with_reducible refine qc ?_ _) | (with_reducible refine qe ?_ _) | (with_reducible refine qf ?_))); (case side4 => exact HC0_2.out); (case side5 => repeat (first | exact (qB HR1_1.out HB.out) | (with_reducible refine qc ?_ _) | (with_reducible refine qe ?_ _) | (with_reducible refine qf ?_))); (case side6 => exact HC1_1.out); (case side7 => repeat (first | exact (qB HR1_2.out HB.out) | (with_reducible refine qc ?_ _) | (with_reducible refine qe ?_ _) | (with_reducible refine qf ?_))); (case side8 => exact HC1_2.out); rintro e w17 ⟨rfl, hb⟩; refine ⟨_, rfl, ?_⟩; have n0_ := qM (blk_below (g := gb481) (o := .cells #[.int .i64 a0_0, .slice A0_1 l0_1.length c0_1, .slice A0_2 l0_2.length c0_2] 105 (0, 0)) (by (with_reducible repeat (first | refine qn ?_ _ | refine qd ?_ | refine qa ?_ _)); exact BK481.out) hb); have n1_ := qM (blk_below (g := gb482) (o := .cells #[.int .i64 a1_0, .slice A1_1 l1_1.length c1_1, .slice A1_2 l1_2.length c1_2] 105 (0, 0)) (by (with_reducible repeat (first | refine qn ?_ _ | refine qd ?_ | refine qa ?_ _)); exact BK482.out) hb); have n2_ := qM (qs (by repeat (first | (with_reducible first | exact HB.out | apply qA | apply qN | apply qD | refine qS ?_ GE481.out | refine qS ?_ GE482.out) | exact HB.out)) hb); clear BK481; clear BK482; clear HB; have BK481 := n0_; have BK482 := n1_; have HB := n2_; clear n0_ n1_ n2_; (try clear hb); (try clear hb2); (try clear hk); (try clear hi)))
  go_ret
  exact ⟨by first | rfl | (simp [errW_none, errW_some] <;> rfl) | (simp [*, errW_none, errW_some] <;> rfl), by repeat (first | (with_reducible first | exact HB.out | apply qA | apply qN | apply qD | refine qS ?_ GE481.out | refine qS ?_ GE482.out) | exact HB.out)⟩
def laws_eqSharedS.l0 : Nat → List (S105) → List (S105) → Int → Option (Bool)
  | 0, _, _, _ => none
  | k + 1, x0, x1, x5 => if x5 < (x0.length : Int) then (if 0 ≤ x5 then (if x5 < (x1.length : Int) then ((laws_eqShared.f k ((rd_T105 x0 x5).f0) ((rd_T105 x0 x5).f1.f0) ((rd_T105 x0 x5).f1.f1) ((rd_T105 x1 x5).f0) ((rd_T105 x1 x5).f1.f0) ((rd_T105 x1 x5).f1.f1)).bind fun t486 => (if t486 = true then (laws_eqSharedS.l0 k x0 x1 (wrap64 (x5 + 1))) else (some false))) else (none)) else (none)) else (some true)
def laws_eqSharedS.f (k : Nat) (l0 : List (S105)) (l1 : List (S105)) : Option (Bool) := if (l0.length : Int) = (l1.length : Int) then (laws_eqSharedS.l0 k l0 l1 0) else (some false)
def laws_eqSharedS.T6 : Bool × List (List Nat × List Nat) := (true, [([], []), ([], []), ([0, 1], [0, 1]), ([2], [2]), ([], []), ([], []), ([4, 5], [4, 5]), ([6], [6]), ([3, 7], [3, 7]), ([8], [8])])
def laws_eqSharedS.B6 : List Nat := [0, 0, 3, 7, 0, 0, 48, 112, 255, 511]
theorem laws_eqSharedS.tab6 : rtab .any (opsOf Try.f35 6) = laws_eqSharedS.T6 := by kernel_rfl
theorem laws_eqSharedS.bits6 : waitsOk laws_eqSharedS.T6.2 laws_eqSharedS.B6 = true := by kernel_rfl
set_option maxHeartbeats 8000000 in
set_option maxRecDepth 100000 in
theorem laws_eqSharedS.calls (k : Nat) (A0 : Option Addr) (c0 : Nat) (l0 : List (S105)) (A1 : Option Addr) (c1 : Nat) (l1 : List (S105)) (r : Bool) (w : World) (hr0 : Kd.C k105 w A0 l0.length l0) (hc0 : l0.length ≤ c0) (hr1 : Kd.C k105 w A1 l1.length l1) (hc1 : l1.length ≤ c1) (h : laws_eqSharedS.f k l0 l1 = some r) :
    Calls Try.prog 35 #[.slice A0 l0.length c0, .slice A1 l1.length c1] w fun e w' => e = .returned (.bool r) ∧ Below w.heap.size w w' := by
  have hu105 := Try.underlying105
  have HR0 := qM hr0
  have HC0 := qM hc0
  clear hr0 hc0
  have HR1 := qM hr1
  have HC1 := qM hc1
  clear hr1 hc1
  have HB := qM (Below.refl w.heap.size w)
  have H : (if (l0.length : Int) = (l1.length : Int) then (laws_eqSharedS.l0 k l0 l1 0) else (some false)) = some r := h
  clear h
  by_cases c3 : (l0.length : Int) = (l1.length : Int)
  rotate_left
  · rw [if_neg c3] at H
    have c3b0 : ((l0.length : Int) == (l1.length : Int)) = false := beq_eq_false_iff_ne.mpr c3
    have c3b1 : ((l0.length : Int) != (l1.length : Int)) = true := bne_iff_ne.mpr c3
    have c3b2 : (l0.length == l1.length) = false := by first | simpa using c3 | (simp at c3 ⊢; omega)
    obtain rfl := Option.some.inj H
    go_enter Try.func35, Try.ntmps35
    go_wp2
    go_ret
    exact ⟨by first | rfl | (simp [errW_none, errW_some] <;> rfl) | (simp [*, errW_none, errW_some] <;> rfl), by repeat (first | (with_reducible first | exact HB.out | apply qA | apply qN | apply qD) | exact HB.out)⟩
  rw [if_pos c3] at H
  have c3b0 : ((l0.length : Int) == (l1.length : Int)) = true := beq_iff_eq.mpr c3
  have c3b1 : ((l0.length : Int) != (l1.length : Int)) = false := bne_eq_false_iff_eq.mpr c3
  have c3b2 : (l0.length == l1.length) = true := by first | simpa using c3 | (simp at c3 ⊢; omega)
  clear c3
  have H' := qM H
  clear H
  go_enter Try.func35, Try.ntmps35
  go_wp2
  go_loopg [5] k (fun kq v5 w' => ∃ (x5_1 : Int), v5 = .int .i64 x5_1 ∧ Aside0 (laws_eqSharedS.l0 kq l0 l1 x5_1 = some r) ∧ Aside0 (kq ≤ k) ∧ Aside0 (Below w.heap.size w w'))
  case atStart => exact ⟨(0), (by first | rfl | (simp; done) | (simp [*]; done)), H', ⟨Nat.le_refl _⟩, ⟨by repeat (first | (with_reducible first | exact HB.out | apply qA | apply qN | apply qD) | exact HB.out)⟩⟩
  case round =>
    clear H'
    try clear c1
    try clear p2
    try clear c3
    try clear c3b0
    try clear c3b1
    try clear c3b2
    obtain ⟨x5_1, rfl, HA, HK1, HB⟩ := hrel
    cases gk with
    | zero => exact absurd HA.out (by simp [laws_eqSharedS.l0])
    | succ k1 =>
      have H := HA.out
      clear HA
      simp only [laws_eqSharedS.l0] at H
      by_cases c4 : x5_1 < (l0.length : Int)
      rotate_left
      · rw [if_neg c4] at H
        have c4b0 : decide (x5_1 < (l0.length : Int)) = false := decide_eq_false c4
        clear c4
        obtain rfl := Option.some.inj H
        go_wp2
        go_ret
        exact ⟨by first | rfl | (simp [errW_none, errW_some] <;> rfl) | (simp [*, errW_none, errW_some] <;> rfl), by repeat (first | (with_reducible first | exact HB.out | apply qA | apply qN | apply qD) | exact HB.out)⟩
      rw [if_pos c4] at H
      have c4b0 : decide (x5_1 < (l0.length : Int)) = true := decide_eq_true c4
      clear c4
      by_cases c5 : 0 ≤ x5_1
      rotate_left
      · rw [if_neg c5] at H
        exact absurd H (by simp)
      rw [if_pos c5] at H
      have c5b0 : decide (0 ≤ x5_1) = true := decide_eq_true c5
      clear c5
      by_cases c6 : x5_1 < (l1.length : Int)
      rotate_left
      · rw [if_neg c6] at H
        exact absurd H (by simp)
      rw [if_pos c6] at H
      have c6b0 : decide (x5_1 < (l1.length : Int)) = true := decide_eq_true c6
      clear c6
      replace H := Option.bind_eq_some_iff.mp H
      obtain ⟨t486, A70, H⟩ := H
      replace H : (if t486 = true then (laws_eqSharedS.l0 k1 l0 l1 (wrap64 (x5_1 + 1))) else (some false)) = some r := H
      have A7 := qM A70
      clear A70
      by_cases c8 : t486 = true
      rotate_left
      · replace c8 := Bool.eq_false_iff.mpr c8
        subst c8
        have H1 : (some false) = some r := by rw [if_neg (show ¬ (false = true) by decide)] at H; exact H
        clear H
        have H := H1
        clear H1
        obtain rfl := Option.some.inj H
        try go_wp2
        have n0_ := qM (qD HB.out)
        clear HB
        have HB := n0_
        clear n0_
        have p484 : 0 ≤ (x5_1 : Int) := qO (by first | (with_reducible assumption) | assumption)
        have q484 : x5_1 < (l0.length : Int) := qO (by first | (with_reducible assumption) | assumption)
        obtain ⟨ad484, A484_1, c484_1, A484_2, c484_2, e484, hx484_0, hx484_1, hx484_2, hl484_1, hi484_1, hl484_2, hi484_2⟩ := at_T105 HR0.out x5_1 p484 q484
        have hw484_2 := hx484_2
        have hw484_1 := hx484_1
        have hw484_0 := hx484_0
        cases e484
        replace hx484_0 := (HB.out.cell (qL w _ hx484_0)).trans hx484_0
        replace hx484_1 := (HB.out.cell (qL w _ hx484_1)).trans hx484_1
        replace hx484_2 := (HB.out.cell (qL w _ hx484_2)).trans hx484_2
        have HR484_1 := qM hi484_1
        have HC484_1 := qM hl484_1
        clear hi484_1 hl484_1
        have HR484_2 := qM hi484_2
        have HC484_2 := qM hl484_2
        clear hi484_2 hl484_2
        replace p484 := eq_true p484
        replace q484 := eq_true q484
        have p485 : 0 ≤ (x5_1 : Int) := qO (by first | (with_reducible assumption) | assumption)
        have q485 : x5_1 < (l1.length : Int) := qO (by first | (with_reducible assumption) | assumption)
        obtain ⟨ad485, A485_1, c485_1, A485_2, c485_2, e485, hx485_0, hx485_1, hx485_2, hl485_1, hi485_1, hl485_2, hi485_2⟩ := at_T105 HR1.out x5_1 p485 q485
        have hw485_2 := hx485_2
        have hw485_1 := hx485_1
        have hw485_0 := hx485_0
        cases e485
        replace hx485_0 := (HB.out.cell (qL w _ hx485_0)).trans hx485_0
        replace hx485_1 := (HB.out.cell (qL w _ hx485_1)).trans hx485_1
        replace hx485_2 := (HB.out.cell (qL w _ hx485_2)).trans hx485_2
        have HR485_1 := qM hi485_1
        have HC485_1 := qM hl485_1
        clear hi485_1 hl485_1
        have HR485_2 := qM hi485_2
        have HC485_2 := qM hl485_2
        clear hi485_2 hl485_2
        replace p485 := eq_true p485
        replace q485 := eq_true q485
        refine start_ (n := 10) (S := fun w' => w'.cell? (ad484.add ((x5_1).toNat * 3)) = some (.int .i64 ((rd_T105 l0 x5_1).f0)) ∧ w'.cell? ⟨(ad484.add ((x5_1).toNat * 3)).block, (ad484.add ((x5_1).toNat * 3)).off + 1, none⟩ = some (.slice A484_1 ((rd_T105 l0 x5_1).f1.f0).length c484_1) ∧ w'.cell? ⟨(ad484.add ((x5_1).toNat * 3)).block, (ad484.add ((x5_1).toNat * 3)).off + 2, none⟩ = some (.slice A484_2 ((rd_T105 l0 x5_1).f1.f1).length c484_2) ∧ w'.cell? (ad485.add ((x5_1).toNat * 3)) = some (.int .i64 ((rd_T105 l1 x5_1).f0)) ∧ w'.cell? ⟨(ad485.add ((x5_1).toNat * 3)).block, (ad485.add ((x5_1).toNat * 3)).off + 1, none⟩ = some (.slice A485_1 ((rd_T105 l1 x5_1).f1.f0).length c485_1) ∧ w'.cell? ⟨(ad485.add ((x5_1).toNat * 3)).block, (ad485.add ((x5_1).toNat * 3)).off + 2, none⟩ = some (.slice A485_2 ((rd_T105 l1 x5_1).f1.f1).length c485_2)) (ds := []) #[false, false, false, false, false, false, false, false, false, false] (by kernel_rfl) rfl rfl ⟨((HB.out.cell (qL w _ hw484_0)).trans hw484_0), ((HB.out.cell (qL w _ hw484_1)).trans hw484_1), ((HB.out.cell (qL w _ hw484_2)).trans hw484_2), ((HB.out.cell (qL w _ hw485_0)).trans hw485_0), ((HB.out.cell (qL w _ hw485_1)).trans hw485_1), ((HB.out.cell (qL w _ hw485_2)).trans hw485_2)⟩ (fun hHeld => ?_); refine with_tabW laws_eqSharedS.tab6 laws_eqSharedS.bits6 (fun HT_ HW_ => ?_)
        generalize wr.drew = w11 at HB HR484_1 HR484_2 HR485_1 HR485_2 hx484_0 hx484_1 hx484_2 hx485_0 hx485_1 hx485_2 hHeld ⊢
        refine pure_ (i := 0) (N := some 17) (v := ?_) (a' := ?_) #[true, false, false, false, false, false, false, false, false, false] rfl rfl (any_of HT_.out (by kernel_rfl)) (fun _ _ _ h => h) (Or.inl ⟨by rfl, ?_⟩) ?_ ?_
        rotate_left
        · intro w'
          go_simp
          with_reducible rfl
        rotate_left
        · simp only [Act.put, List.setIfInBounds_toArray, List.set_cons_zero, List.set_cons_succ, i64_w, i32_w]
          rfl
        refine pure_ (i := 1) (N := some 18) (v := ?_) (a' := ?_) #[true, true, false, false, false, false, false, false, false, false] rfl rfl (any_of HT_.out (by kernel_rfl)) (fun _ _ _ h => h) (Or.inl ⟨by rfl, ?_⟩) ?_ ?_
        rotate_left
        · intro w'
          go_simp
          with_reducible rfl
        rotate_left
        · simp only [Act.put, List.setIfInBounds_toArray, List.set_cons_zero, List.set_cons_succ, i64_w, i32_w]
          rfl
        refine pure_ (i := 2) (N := some 19) (v := ?_) (a' := ?_) #[true, true, true, false, false, false, false, false, false, false] rfl rfl (any_of HT_.out (by kernel_rfl)) (fun _ _ _ h => h) (Or.inl ⟨by rfl, ?_⟩) ?_ ?_
        rotate_left
        · intro w'
          go_simp
          with_reducible rfl
        rotate_left
        · simp only [Act.put, List.setIfInBounds_toArray, List.set_cons_zero, List.set_cons_succ, i64_w, i32_w]
          rfl
        refine pure_ (i := 4) (N := some 21) (v := ?_) (a' := ?_) #[true, true, true, false, true, false, false, false, false, false] rfl rfl (any_of HT_.out (by kernel_rfl)) (fun _ _ _ h => h) (Or.inl ⟨by rfl, ?_⟩) ?_ ?_
        rotate_left
        · intro w'
          go_simp
          with_reducible rfl
        rotate_left
        · simp only [Act.put, List.setIfInBounds_toArray, List.set_cons_zero, List.set_cons_succ, i64_w, i32_w]
          rfl
        refine pure_ (i := 5) (N := some 22) (v := ?_) (a' := ?_) #[true, true, true, false, true, true, false, false, false, false] rfl rfl (any_of HT_.out (by kernel_rfl)) (fun _ _ _ h => h) (Or.inl ⟨by rfl, ?_⟩) ?_ ?_
        rotate_left
        · intro w'
          go_simp
          with_reducible rfl
        rotate_left
        · simp only [Act.put, List.setIfInBounds_toArray, List.set_cons_zero, List.set_cons_succ, i64_w, i32_w]
          rfl
        refine pure_ (i := 6) (N := some 23) (v := ?_) (a' := ?_) #[true, true, true, false, true, true, true, false, false, false] rfl rfl (any_of HT_.out (by kernel_rfl)) (fun _ _ _ h => h) (Or.inl ⟨by rfl, ?_⟩) ?_ ?_
        rotate_left
        · intro w'
          go_simp
          with_reducible rfl
        rotate_left
        · simp only [Act.put, List.setIfInBounds_toArray, List.set_cons_zero, List.set_cons_succ, i64_w, i32_w]
          rfl
        refine take_ (i := 3) (N := some 20) (v := ?_) (a' := ?_) #[true, true, true, true, true, true, true, false, false, false] rfl rfl (take_ofW HT_.out HW_.out (by kernel_rfl)) (fun _ _ _ h => h) (Or.inl ⟨by rfl, ?_⟩) hHeld ?_ ?_
        rotate_left
        · rintro w' ⟨s0, s1, s2, s3, s4, s5⟩
          go_simp
          with_reducible rfl
        rotate_left
        · simp only [Act.put, List.setIfInBounds_toArray, List.set_cons_zero, List.set_cons_succ, i64_w, i32_w]
          rfl
        refine take_ (i := 7) (N := some 24) (v := ?_) (a' := ?_) #[true, true, true, true, true, true, true, true, false, false] rfl rfl (take_ofW HT_.out HW_.out (by kernel_rfl)) (fun _ _ _ h => h) (Or.inl ⟨by rfl, ?_⟩) hHeld ?_ ?_
        rotate_left
        · rintro w' ⟨s0, s1, s2, s3, s4, s5⟩
          go_simp
          with_reducible rfl
        rotate_left
        · simp only [Act.put, List.setIfInBounds_toArray, List.set_cons_zero, List.set_cons_succ, i64_w, i32_w]
          rfl
        refine one_ (i := 8) (N := some 25) #[true, true, true, true, true, true, true, true, true, false] rfl rfl (one_of HT_.out (by kernel_rfl)) (by decide) (fun K hK => ?_)
        refine goes_ Try.func86 (by kernel_rfl) rfl #[.agg #[.int .i64 ((rd_T105 l0 x5_1).f0), .slice A484_1 ((rd_T105 l0 x5_1).f1.f0).length c484_1, .slice A484_2 ((rd_T105 l0 x5_1).f1.f1).length c484_2], .agg #[.int .i64 ((rd_T105 l1 x5_1).f0), .slice A485_1 ((rd_T105 l1 x5_1).f1.f0).length c485_1, .slice A485_2 ((rd_T105 l1 x5_1).f1.f1).length c485_2]] (by rfl) rfl rfl (by (try simp only [List.map_toArray, List.map_cons, List.map_nil]); first | done | rfl | (simp only [List.length_drop, List.length_take]; rfl)) ?_
        with_reducible refine (laws_eqShared.calls k1 ((rd_T105 l0 x5_1).f0) _ _ ((rd_T105 l0 x5_1).f1.f0) _ _ ((rd_T105 l0 x5_1).f1.f1) ((rd_T105 l1 x5_1).f0) _ _ ((rd_T105 l1 x5_1).f1.f0) _ _ ((rd_T105 l1 x5_1).f1.f1) false _ ?side1 ?side2 ?side3 ?side4 ?side5 ?side6 ?side7 ?side8 A7.out).mono ?_
        (case side1 => repeat (first | exact (qB HR484_1.out HB.out) | (with_reducible refine qc ?_ _) | (with_reducible refine qe ?_ _) | (with_reducible refine qf ?_)))
        (case side2 => exact HC484_1.out)
        (case side3 => repeat (first | exact (qB HR484_2.out HB.out) | (with_reducible refine qc ?_ _) | (with_reducible refine qe ?_ _) | (with_reducible refine qf ?_)))
        (case side4 => exact HC484_2.out)
        (case side5 => repeat (first | exact (qB HR485_1.out HB.out) | (with_reducible refine qc ?_ _) | (with_reducible refine qe ?_ _) | (with_reducible refine qf ?_)))
        (case side6 => exact HC485_1.out)
        (case side7 => repeat (first | exact (qB HR485_2.out HB.out) | (with_reducible refine qc ?_ _) | (with_reducible refine qe ?_ _) | (with_reducible refine qf ?_)))
        (case side8 => exact HC485_2.out)
        rintro e w12 ⟨rfl, hb⟩
        refine ⟨_, rfl, ?_⟩
        have n0_ := qM (qs (by repeat (first | (with_reducible first | exact HB.out | apply qA | apply qN | apply qD) | exact HB.out)) hb)
        clear HB
        have HB := n0_
        clear n0_
        (try clear hb)
        (try clear hb2)
        (try clear hk)
        (try clear hi)
        refine hK.out _ _ ⟨((HB.out.cell (qL w _ hw484_0)).trans hw484_0), ((HB.out.cell (qL w _ hw484_1)).trans hw484_1), ((HB.out.cell (qL w _ hw484_2)).trans hw484_2), ((HB.out.cell (qL w _ hw485_0)).trans hw485_0), ((HB.out.cell (qL w _ hw485_1)).trans hw485_1), ((HB.out.cell (qL w _ hw485_2)).trans hw485_2)⟩ (fun hHeld => ?_)
        clear hK K
        refine norm_ (a' := ?_) ?_ ?_
        rotate_left
        · show Act.put _ (some 25) _ = _
          simp only [Act.put, List.setIfInBounds_toArray, List.set_cons_zero, List.set_cons_succ, i64_w, i32_w]
          rfl
        refine pure_ (i := 9) (N := some 26) (v := ?_) (a' := ?_) #[true, true, true, true, true, true, true, true, true, true] rfl rfl (any_of HT_.out (by kernel_rfl)) (fun _ _ _ h => h) (Or.inl ⟨by rfl, ?_⟩) ?_ ?_
        rotate_left
        · intro w'
          go_simp
          with_reducible rfl
        rotate_left
        · simp only [Act.put, List.setIfInBounds_toArray, List.set_cons_zero, List.set_cons_succ, i64_w, i32_w]
          rfl
        refine done_ (done_of HT_.out (by kernel_rfl)) ?_
        try go_wp2
        go_ret
        exact ⟨by first | rfl | (simp [errW_none, errW_some] <;> rfl) | (simp [*, errW_none, errW_some] <;> rfl), by repeat (first | (with_reducible first | exact HB.out | apply qA | apply qN | apply qD) | exact HB.out)⟩
      subst c8
      have H1 : (laws_eqSharedS.l0 k1 l0 l1 (wrap64 (x5_1 + 1))) = some r := by rw [if_pos rfl] at H; exact H
      clear H
      have H := H1
      clear H1
      have H' := qM H
      clear H
      try go_wp2
      have n0_ := qM (qD HB.out)
      clear HB
      have HB := n0_
      clear n0_
      have p484 : 0 ≤ (x5_1 : Int) := qO (by first | (with_reducible assumption) | assumption)
      have q484 : x5_1 < (l0.length : Int) := qO (by first | (with_reducible assumption) | assumption)
      obtain ⟨ad484, A484_1, c484_1, A484_2, c484_2, e484, hx484_0, hx484_1, hx484_2, hl484_1, hi484_1, hl484_2, hi484_2⟩ := at_T105 HR0.out x5_1 p484 q484
      have hw484_2 := hx484_2
      have hw484_1 := hx484_1
      have hw484_0 := hx484_0
      cases e484
      replace hx484_0 := (HB.out.cell (qL w _ hx484_0)).trans hx484_0
      replace hx484_1 := (HB.out.cell (qL w _ hx484_1)).trans hx484_1
      replace hx484_2 := (HB.out.cell (qL w _ hx484_2)).trans hx484_2
      have HR484_1 := qM hi484_1
      have HC484_1 := qM hl484_1
      clear hi484_1 hl484_1
      have HR484_2 := qM hi484_2
      have HC484_2 := qM hl484_2
      clear hi484_2 hl484_2
      replace p484 := eq_true p484
      replace q484 := eq_true q484
      have p485 : 0 ≤ (x5_1 : Int) := qO (by first | (with_reducible assumption) | assumption)
      have q485 : x5_1 < (l1.length : Int) := qO (by first | (with_reducible assumption) | assumption)
      obtain ⟨ad485, A485_1, c485_1, A485_2, c485_2, e485, hx485_0, hx485_1, hx485_2, hl485_1, hi485_1, hl485_2, hi485_2⟩ := at_T105 HR1.out x5_1 p485 q485
      have hw485_2 := hx485_2
      have hw485_1 := hx485_1
      have hw485_0 := hx485_0
      cases e485
      replace hx485_0 := (HB.out.cell (qL w _ hx485_0)).trans hx485_0
      replace hx485_1 := (HB.out.cell (qL w _ hx485_1)).trans hx485_1
      replace hx485_2 := (HB.out.cell (qL w _ hx485_2)).trans hx485_2
      have HR485_1 := qM hi485_1
      have HC485_1 := qM hl485_1
      clear hi485_1 hl485_1
      have HR485_2 := qM hi485_2
      have HC485_2 := qM hl485_2
      clear hi485_2 hl485_2
      replace p485 := eq_true p485
      replace q485 := eq_true q485
      refine start_ (n := 10) (S := fun w' => w'.cell? (ad484.add ((x5_1).toNat * 3)) = some (.int .i64 ((rd_T105 l0 x5_1).f0)) ∧ w'.cell? ⟨(ad484.add ((x5_1).toNat * 3)).block, (ad484.add ((x5_1).toNat * 3)).off + 1, none⟩ = some (.slice A484_1 ((rd_T105 l0 x5_1).f1.f0).length c484_1) ∧ w'.cell? ⟨(ad484.add ((x5_1).toNat * 3)).block, (ad484.add ((x5_1).toNat * 3)).off + 2, none⟩ = some (.slice A484_2 ((rd_T105 l0 x5_1).f1.f1).length c484_2) ∧ w'.cell? (ad485.add ((x5_1).toNat * 3)) = some (.int .i64 ((rd_T105 l1 x5_1).f0)) ∧ w'.cell? ⟨(ad485.add ((x5_1).toNat * 3)).block, (ad485.add ((x5_1).toNat * 3)).off + 1, none⟩ = some (.slice A485_1 ((rd_T105 l1 x5_1).f1.f0).length c485_1) ∧ w'.cell? ⟨(ad485.add ((x5_1).toNat * 3)).block, (ad485.add ((x5_1).toNat * 3)).off + 2, none⟩ = some (.slice A485_2 ((rd_T105 l1 x5_1).f1.f1).length c485_2)) (ds := []) #[false, false, false, false, false, false, false, false, false, false] (by kernel_rfl) rfl rfl ⟨((HB.out.cell (qL w _ hw484_0)).trans hw484_0), ((HB.out.cell (qL w _ hw484_1)).trans hw484_1), ((HB.out.cell (qL w _ hw484_2)).trans hw484_2), ((HB.out.cell (qL w _ hw485_0)).trans hw485_0), ((HB.out.cell (qL w _ hw485_1)).trans hw485_1), ((HB.out.cell (qL w _ hw485_2)).trans hw485_2)⟩ (fun hHeld => ?_); refine with_tabW laws_eqSharedS.tab6 laws_eqSharedS.bits6 (fun HT_ HW_ => ?_)
      generalize wr.drew = w9 at HB HR484_1 HR484_2 HR485_1 HR485_2 hx484_0 hx484_1 hx484_2 hx485_0 hx485_1 hx485_2 hHeld ⊢
      refine pure_ (i := 0) (N := some 17) (v := ?_) (a' := ?_) #[true, false, false, false, false, false, false, false, false, false] rfl rfl (any_of HT_.out (by kernel_rfl)) (fun _ _ _ h => h) (Or.inl ⟨by rfl, ?_⟩) ?_ ?_
      rotate_left
      · intro w'
        go_simp
        with_reducible rfl
      rotate_left
      · simp only [Act.put, List.setIfInBounds_toArray, List.set_cons_zero, List.set_cons_succ, i64_w, i32_w]
        rfl
      refine pure_ (i := 1) (N := some 18) (v := ?_) (a' := ?_) #[true, true, false, false, false, false, false, false, false, false] rfl rfl (any_of HT_.out (by kernel_rfl)) (fun _ _ _ h => h) (Or.inl ⟨by rfl, ?_⟩) ?_ ?_
      rotate_left
      · intro w'
        go_simp
        with_reducible rfl
      rotate_left
      · simp only [Act.put, List.setIfInBounds_toArray, List.set_cons_zero, List.set_cons_succ, i64_w, i32_w]
        rfl
      refine pure_ (i := 2) (N := some 19) (v := ?_) (a' := ?_) #[true, true, true, false, false, false, false, false, false, false] rfl rfl (any_of HT_.out (by kernel_rfl)) (fun _ _ _ h => h) (Or.inl ⟨by rfl, ?_⟩) ?_ ?_
      rotate_left
      · intro w'
        go_simp
        with_reducible rfl
      rotate_left
      · simp only [Act.put, List.setIfInBounds_toArray, List.set_cons_zero, List.set_cons_succ, i64_w, i32_w]
        rfl
      refine pure_ (i := 4) (N := some 21) (v := ?_) (a' := ?_) #[true, true, true, false, true, false, false, false, false, false] rfl rfl (any_of HT_.out (by kernel_rfl)) (fun _ _ _ h => h) (Or.inl ⟨by rfl, ?_⟩) ?_ ?_
      rotate_left
      · intro w'
        go_simp
        with_reducible rfl
      rotate_left
      · simp only [Act.put, List.setIfInBounds_toArray, List.set_cons_zero, List.set_cons_succ, i64_w, i32_w]
        rfl
      refine pure_ (i := 5) (N := some 22) (v := ?_) (a' := ?_) #[true, true, true, false, true, true, false, false, false, false] rfl rfl (any_of HT_.out (by kernel_rfl)) (fun _ _ _ h => h) (Or.inl ⟨by rfl, ?_⟩) ?_ ?_
      rotate_left
      · intro w'
        go_simp
        with_reducible rfl
      rotate_left
      · simp only [Act.put, List.setIfInBounds_toArray, List.set_cons_zero, List.set_cons_succ, i64_w, i32_w]
        rfl
      refine pure_ (i := 6) (N := some 23) (v := ?_) (a' := ?_) #[true, true, true, false, true, true, true, false, false, false] rfl rfl (any_of HT_.out (by kernel_rfl)) (fun _ _ _ h => h) (Or.inl ⟨by rfl, ?_⟩) ?_ ?_
      rotate_left
      · intro w'
        go_simp
        with_reducible rfl
      rotate_left
      · simp only [Act.put, List.setIfInBounds_toArray, List.set_cons_zero, List.set_cons_succ, i64_w, i32_w]
        rfl
      refine take_ (i := 3) (N := some 20) (v := ?_) (a' := ?_) #[true, true, true, true, true, true, true, false, false, false] rfl rfl (take_ofW HT_.out HW_.out (by kernel_rfl)) (fun _ _ _ h => h) (Or.inl ⟨by rfl, ?_⟩) hHeld ?_ ?_
      rotate_left
      · rintro w' ⟨s0, s1, s2, s3, s4, s5⟩
        go_simp
        with_reducible rfl
      rotate_left
      · simp only [Act.put, List.setIfInBounds_toArray, List.set_cons_zero, List.set_cons_succ, i64_w, i32_w]
        rfl
      refine take_ (i := 7) (N := some 24) (v := ?_) (a' := ?_) #[true, true, true, true, true, true, true, true, false, false] rfl rfl (take_ofW HT_.out HW_.out (by kernel_rfl)) (fun _ _ _ h => h) (Or.inl ⟨by rfl, ?_⟩) hHeld ?_ ?_
      rotate_left
      · rintro w' ⟨s0, s1, s2, s3, s4, s5⟩
        go_simp
        with_reducible rfl
      rotate_left
      · simp only [Act.put, List.setIfInBounds_toArray, List.set_cons_zero, List.set_cons_succ, i64_w, i32_w]
        rfl
      refine one_ (i := 8) (N := some 25) #[true, true, true, true, true, true, true, true, true, false] rfl rfl (one_of HT_.out (by kernel_rfl)) (by decide) (fun K hK => ?_)
      refine goes_ Try.func86 (by kernel_rfl) rfl #[.agg #[.int .i64 ((rd_T105 l0 x5_1).f0), .slice A484_1 ((rd_T105 l0 x5_1).f1.f0).length c484_1, .slice A484_2 ((rd_T105 l0 x5_1).f1.f1).length c484_2], .agg #[.int .i64 ((rd_T105 l1 x5_1).f0), .slice A485_1 ((rd_T105 l1 x5_1).f1.f0).length c485_1, .slice A485_2 ((rd_T105 l1 x5_1).f1.f1).length c485_2]] (by rfl) rfl rfl (by (try simp only [List.map_toArray, List.map_cons, List.map_nil]); first | done | rfl | (simp only [List.length_drop, List.length_take]; rfl)) ?_
      with_reducible refine (laws_eqShared.calls k1 ((rd_T105 l0 x5_1).f0) _ _ ((rd_T105 l0 x5_1).f1.f0) _ _ ((rd_T105 l0 x5_1).f1.f1) ((rd_T105 l1 x5_1).f0) _ _ ((rd_T105 l1 x5_1).f1.f0) _ _ ((rd_T105 l1 x5_1).f1.f1) true _ ?side1 ?side2 ?side3 ?side4 ?side5 ?side6 ?side7 ?side8 A7.out).mono ?_
      (case side1 => repeat (first | exact (qB HR484_1.out HB.out) | (with_reducible refine qc ?_ _) | (with_reducible refine qe ?_ _) | (with_reducible refine qf ?_)))
      (case side2 => exact HC484_1.out)
      (case side3 => repeat (first | exact (qB HR484_2.out HB.out) | (with_reducible refine qc ?_ _) | (with_reducible refine qe ?_ _) | (with_reducible refine qf ?_)))
      (case side4 => exact HC484_2.out)
      (case side5 => repeat (first | exact (qB HR485_1.out HB.out) | (with_reducible refine qc ?_ _) | (with_reducible refine qe ?_ _) | (with_reducible refine qf ?_)))
      (case side6 => exact HC485_1.out)
      (case side7 => repeat (first | exact (qB HR485_2.out HB.out) | (with_reducible refine qc ?_ _) | (with_reducible refine qe ?_ _) | (with_reducible refine qf ?_)))
      (case side8 => exact HC485_2.out)
      rintro e w10 ⟨rfl, hb⟩
      refine ⟨_, rfl, ?_⟩
      have n0_ := qM (qs (by repeat (first | (with_reducible first | exact HB.out | apply qA | apply qN | apply qD) | exact HB.out)) hb)
      clear HB
      have HB := n0_
      clear n0_
      (try clear hb)
      (try clear hb2)
      (try clear hk)
      (try clear hi)
      refine hK.out _ _ ⟨((HB.out.cell (qL w _ hw484_0)).trans hw484_0), ((HB.out.cell (qL w _ hw484_1)).trans hw484_1), ((HB.out.cell (qL w _ hw484_2)).trans hw484_2), ((HB.out.cell (qL w _ hw485_0)).trans hw485_0), ((HB.out.cell (qL w _ hw485_1)).trans hw485_1), ((HB.out.cell (qL w _ hw485_2)).trans hw485_2)⟩ (fun hHeld => ?_)
      clear hK K
      refine norm_ (a' := ?_) ?_ ?_
      rotate_left
      · show Act.put _ (some 25) _ = _
        simp only [Act.put, List.setIfInBounds_toArray, List.set_cons_zero, List.set_cons_succ, i64_w, i32_w]
        rfl
      refine pure_ (i := 9) (N := some 26) (v := ?_) (a' := ?_) #[true, true, true, true, true, true, true, true, true, true] rfl rfl (any_of HT_.out (by kernel_rfl)) (fun _ _ _ h => h) (Or.inl ⟨by rfl, ?_⟩) ?_ ?_
      rotate_left
      · intro w'
        go_simp
        with_reducible rfl
      rotate_left
      · simp only [Act.put, List.setIfInBounds_toArray, List.set_cons_zero, List.set_cons_succ, i64_w, i32_w]
        rfl
      refine done_ (done_of HT_.out (by kernel_rfl)) ?_
      try go_wp2
      go_roundg k1
      case measure => have := HK1.out; omega
      case rel => exact ⟨(wrap64 (x5_1 + 1)), (by first | rfl | (simp; done) | (simp [*]; done)), H', ⟨by have := HK1.out; omega⟩, ⟨by repeat (first | (with_reducible first | exact HB.out | apply qA | apply qN | apply qD) | exact HB.out)⟩⟩
end Go.Proofs.Ythfemojaabejiaa.G
end
section
namespace Go.Proofs.Ythfemojaabejiaa.G
open Go.RowKit Go.Proofs.YthfemojaabejiaaW.PrintWords Go.Proofs.YthfemojaabejiaaW.PrintLast Go.Proofs.YthfemojaabejiaaW.PrintMore
attribute [local go_sem] max2_int min2_int max_two min_two max_three min_three max_four min_four
set_option linter.unusedVariables false
set_option linter.unusedSimpArgs false
def laws_FnExactCloudOk.f (k : Nat) (l0_0 : List Bool) (l0_1 : List (S138)) (l1 : List (S102)) : Option (Bool) := (laws_szSheet.f k l0_0 l0_1 1048576).bind fun t488 => (if t488 < 0 then (some true) else ((laws_szSharedS.f k l1 t488).bind fun t489 => (if t489 < 0 then (some true) else ((laws_toSheet.f k l0_0 l0_1).bind fun bt490 => ((laws_toSharedS.f k l1).bind fun t496 => ((spec_CloudOk.f k bt490.1 bt490.2 t496).bind fun t499 => ((laws_toSheet.f k l0_0 l0_1).bind fun bt500 => ((laws_toSharedS.f k l1).bind fun t507 => ((impl_CloudOk.f bt500.1 bt500.2 t507).bind fun t510 => (if (t510 != t499) = true then (none) else ((laws_toSheet.f k l0_0 l0_1).bind fun bt511 => ((laws_eqSheet.f k bt500.1 bt500.2 bt511.1 bt511.2).bind fun t517 => (if t517 = true then ((laws_toSharedS.f k l1).bind fun t518 => ((laws_eqSharedS.f k t507 t518).bind fun t521 => (if t521 = true then (some true) else (none)))) else (none))))))))))))))
set_option maxHeartbeats 8000000 in
set_option maxRecDepth 100000 in
theorem laws_FnExactCloudOk.calls (k : Nat) (A0_0 : Option Addr) (c0_0 : Nat) (l0_0 : List Bool) (A0_1 : Option Addr) (c0_1 : Nat) (l0_1 : List (S138)) (A1 : Option Addr) (c1 : Nat) (l1 : List (S102)) (r : Bool) (w : World) (hr0_0 : Kd.C Kd.bool w A0_0 l0_0.length l0_0) (hc0_0 : l0_0.length ≤ c0_0) (hr0_1 : Kd.C k138 w A0_1 l0_1.length l0_1) (hc0_1 : l0_1.length ≤ c0_1) (hr1 : Kd.C k102 w A1 l1.length l1) (hc1 : l1.length ≤ c1) (h : laws_FnExactCloudOk.f k l0_0 l0_1 l1 = some r) :
    Calls Try.prog 6 #[.agg #[.slice A0_0 l0_0.length c0_0, .slice A0_1 l0_1.length c0_1], .slice A1 l1.length c1] w fun e w' => e = .returned (.bool r) ∧ Below w.heap.size w w' := by
  have hu25 := Try.underlying25
  have hu30 := Try.underlying30
  have HR0_0 := qM hr0_0
  have HC0_0 := qM hc0_0
  clear hr0_0 hc0_0
  have HR0_1 := qM hr0_1
  have HC0_1 := qM hc0_1
  clear hr0_1 hc0_1
  have HR1 := qM hr1
  have HC1 := qM hc1
  clear hr1 hc1
  have HB := qM (Below.refl w.heap.size w)
  have H : ((laws_szSheet.f k l0_0 l0_1 1048576).bind fun t488 => (if t488 < 0 then (some true) else ((laws_szSharedS.f k l1 t488).bind fun t489 => (if t489 < 0 then (some true) else ((laws_toSheet.f k l0_0 l0_1).bind fun bt490 => ((laws_toSharedS.f k l1).bind fun t496 => ((spec_CloudOk.f k bt490.1 bt490.2 t496).bind fun t499 => ((laws_toSheet.f k l0_0 l0_1).bind fun bt500 => ((laws_toSharedS.f k l1).bind fun t507 => ((impl_CloudOk.f bt500.1 bt500.2 t507).bind fun t510 => (if (t510 != t499) = true then (none) else ((laws_toSheet.f k l0_0 l0_1).bind fun bt511 => ((laws_eqSheet.f k bt500.1 bt500.2 bt511.1 bt511.2).bind fun t517 => (if t517 = true then ((laws_toSharedS.f k l1).bind fun t518 => ((laws_eqSharedS.f k t507 t518).bind fun t521 => (if t521 = true then (some true) else (none)))) else (none))))))))))))))) = some r := h
  clear h
  replace H := Option.bind_eq_some_iff.mp H
  obtain ⟨t488, A30, H⟩ := H
  replace H : (if t488 < 0 then (some true) else ((laws_szSharedS.f k l1 t488).bind fun t489 => (if t489 < 0 then (some true) else ((laws_toSheet.f k l0_0 l0_1).bind fun bt490 => ((laws_toSharedS.f k l1).bind fun t496 => ((spec_CloudOk.f k bt490.1 bt490.2 t496).bind fun t499 => ((laws_toSheet.f k l0_0 l0_1).bind fun bt500 => ((laws_toSharedS.f k l1).bind fun t507 => ((impl_CloudOk.f bt500.1 bt500.2 t507).bind fun t510 => (if (t510 != t499) = true then (none) else ((laws_toSheet.f k l0_0 l0_1).bind fun bt511 => ((laws_eqSheet.f k bt500.1 bt500.2 bt511.1 bt511.2).bind fun t517 => (if t517 = true then ((laws_toSharedS.f k l1).bind fun t518 => ((laws_eqSharedS.f k t507 t518).bind fun t521 => (if t521 = true then (some true) else (none)))) else (none)))))))))))))) = some r := H
  have A3 := qM A30
  clear A30
  by_cases c4 : t488 < 0
  · rw [if_pos c4] at H
    have c4b0 : decide (t488 < 0) = true := decide_eq_true c4
    clear c4
    obtain rfl := Option.some.inj H
    go_enter Try.func6, Try.ntmps6
    go_wp2_with (first | ((with_reducible refine gate_dst (N := 2) rfl ?_); refine box_event ?hg (N := 2) ?hd (cs := #[.slice A0_0 l0_0.length c0_0, .slice A0_1 l0_1.length c0_1]) (t := 25) ?hr ?_; (case hd => rfl); (case hg => rfl); (case hr => first | (go_simp; done) | (go_simp; rfl)); intro gb487 hg w5 hbox hb; have n0_ := qM (qs (by repeat (first | (with_reducible first | exact HB.out | apply qA | apply qN | apply qD) | exact HB.out)) hb); have n1_ := qM (hbox); have n2_ := qM ((by rw [hg]; exact (qz (by repeat (first | (with_reducible first | exact HB.out | apply qA | apply qN | apply qD) | exact HB.out))) : w.heap.size ≤ gb487)); have n3_ := qM ((by rw [hg]; exact (qz (by repeat (first | (with_reducible first | exact HB.out | apply qA | apply qN | apply qD) | exact HB.out))) : w.heap.size ≤ gb487)); clear HB; have HB := n0_; have BK487 := n1_; have GW487 := n2_; have GE487 := n3_; clear n0_ n1_ n2_ n3_; clear hb hbox hg; have hcz6_0 : w5.cell? ⟨gb487, 0, none⟩ = some (.slice A0_0 l0_0.length c0_0) := (qC BK487.out 0).trans rfl; have hcz6_1 : w5.cell? ⟨gb487, 1, none⟩ = some (.slice A0_1 l0_1.length c0_1) := (qC BK487.out 1).trans rfl; have hfz6_0 := qF BK487.out 0; have hfz6_1 := qF BK487.out 1) | ((with_reducible refine gate_callee (f := 14) rfl ?_); refine goesL_ (some 12) rfl rfl Try.func14 (by kernel_rfl) rfl #[.agg #[.slice A0_0 l0_0.length c0_0, .slice A0_1 l0_1.length c0_1], .int .i64 1048576] rfl (by (try simp only [List.map_toArray, List.map_cons, List.map_nil]); first | done | rfl | (simp only [List.length_drop, List.length_take]; rfl)) ?_; (with_reducible refine (laws_szSheet.calls k _ _ l0_0 _ _ l0_1 1048576 t488 _ ?side1 ?side2 ?side3 ?side4 A3.out).mono ?_); (case side1 => repeat (first | exact (qB HR0_0.out HB.out) | (with_reducible refine qc ?_ _) | (with_reducible refine qe ?_ _) | (with_reducible refine qf ?_))); (case side2 => exact HC0_0.out); (case side3 => repeat (first | exact (qB HR0_1.out HB.out) | (with_reducible refine qc ?_ _) | (with_reducible refine qe ?_ _) | (with_reducible refine qf ?_))); (case side4 => exact HC0_1.out); rintro e w7 ⟨rfl, hb⟩; refine ⟨_, rfl, ?_⟩; have n0_ := qM (blk_below (g := gb487) (o := .cells #[.slice A0_0 l0_0.length c0_0, .slice A0_1 l0_1.length c0_1] 25 (0, 0)) (by (with_reducible repeat (first | refine qn ?_ _ | refine qd ?_ | refine qa ?_ _)); exact BK487.out) hb); have n1_ := qM (qs (by repeat (first | (with_reducible first | exact HB.out | apply qA | apply qN | apply qD | refine qS ?_ GE487.out) | exact HB.out)) hb); clear BK487; clear HB; have BK487 := n0_; have HB := n1_; clear n0_ n1_; (try clear hb); (try clear hb2); (try clear hk); (try clear hi)))
    go_ret
    exact ⟨by first | rfl | (simp [errW_none, errW_some] <;> rfl) | (simp [*, errW_none, errW_some] <;> rfl), by repeat (first | (with_reducible first | exact HB.out | apply qA | apply qN | apply qD | refine qS ?_ GE487.out) | exact HB.out)⟩
  rw [if_neg c4] at H
  have c4b0 : decide (t488 < 0) = false := decide_eq_false c4
  clear c4
  replace H := Option.bind_eq_some_iff.mp H
  obtain ⟨t489, A80, H⟩ := H
  replace H : (if t489 < 0 then (some true) else ((laws_toSheet.f k l0_0 l0_1).bind fun bt490 => ((laws_toSharedS.f k l1).bind fun t496 => ((spec_CloudOk.f k bt490.1 bt490.2 t496).bind fun t499 => ((laws_toSheet.f k l0_0 l0_1).bind fun bt500 => ((laws_toSharedS.f k l1).bind fun t507 => ((impl_CloudOk.f bt500.1 bt500.2 t507).bind fun t510 => (if (t510 != t499) = true then (none) else ((laws_toSheet.f k l0_0 l0_1).bind fun bt511 => ((laws_eqSheet.f k bt500.1 bt500.2 bt511.1 bt511.2).bind fun t517 => (if t517 = true then ((laws_toSharedS.f k l1).bind fun t518 => ((laws_eqSharedS.f k t507 t518).bind fun t521 => (if t521 = true then (some true) else (none)))) else (none)))))))))))) = some r := H
  have A8 := qM A80
  clear A80
  by_cases c9 : t489 < 0
  · rw [if_pos c9] at H
    have c9b0 : decide (t489 < 0) = true := decide_eq_true c9
    clear c9
    obtain rfl := Option.some.inj H
    go_enter Try.func6, Try.ntmps6
    go_wp2_with (first | ((with_reducible refine gate_dst (N := 2) rfl ?_); refine box_event ?hg (N := 2) ?hd (cs := #[.slice A0_0 l0_0.length c0_0, .slice A0_1 l0_1.length c0_1]) (t := 25) ?hr ?_; (case hd => rfl); (case hg => rfl); (case hr => first | (go_simp; done) | (go_simp; rfl)); intro gb487 hg w10 hbox hb; have n0_ := qM (qs (by repeat (first | (with_reducible first | exact HB.out | apply qA | apply qN | apply qD) | exact HB.out)) hb); have n1_ := qM (hbox); have n2_ := qM ((by rw [hg]; exact (qz (by repeat (first | (with_reducible first | exact HB.out | apply qA | apply qN | apply qD) | exact HB.out))) : w.heap.size ≤ gb487)); have n3_ := qM ((by rw [hg]; exact (qz (by repeat (first | (with_reducible first | exact HB.out | apply qA | apply qN | apply qD) | exact HB.out))) : w.heap.size ≤ gb487)); clear HB; have HB := n0_; have BK487 := n1_; have GW487 := n2_; have GE487 := n3_; clear n0_ n1_ n2_ n3_; clear hb hbox hg; have hcz11_0 : w10.cell? ⟨gb487, 0, none⟩ = some (.slice A0_0 l0_0.length c0_0) := (qC BK487.out 0).trans rfl; have hcz11_1 : w10.cell? ⟨gb487, 1, none⟩ = some (.slice A0_1 l0_1.length c0_1) := (qC BK487.out 1).trans rfl; have hfz11_0 := qF BK487.out 0; have hfz11_1 := qF BK487.out 1) | ((with_reducible refine gate_callee (f := 14) rfl ?_); refine goesL_ (some 12) rfl rfl Try.func14 (by kernel_rfl) rfl #[.agg #[.slice A0_0 l0_0.length c0_0, .slice A0_1 l0_1.length c0_1], .int .i64 1048576] rfl (by (try simp only [List.map_toArray, List.map_cons, List.map_nil]); first | done | rfl | (simp only [List.length_drop, List.length_take]; rfl)) ?_; (with_reducible refine (laws_szSheet.calls k _ _ l0_0 _ _ l0_1 1048576 t488 _ ?side1 ?side2 ?side3 ?side4 A3.out).mono ?_); (case side1 => repeat (first | exact (qB HR0_0.out HB.out) | (with_reducible refine qc ?_ _) | (with_reducible refine qe ?_ _) | (with_reducible refine qf ?_))); (case side2 => exact HC0_0.out); (case side3 => repeat (first | exact (qB HR0_1.out HB.out) | (with_reducible refine qc ?_ _) | (with_reducible refine qe ?_ _) | (with_reducible refine qf ?_))); (case side4 => exact HC0_1.out); rintro e w12 ⟨rfl, hb⟩; refine ⟨_, rfl, ?_⟩; have n0_ := qM (blk_below (g := gb487) (o := .cells #[.slice A0_0 l0_0.length c0_0, .slice A0_1 l0_1.length c0_1] 25 (0, 0)) (by (with_reducible repeat (first | refine qn ?_ _ | refine qd ?_ | refine qa ?_ _)); exact BK487.out) hb); have n1_ := qM (qs (by repeat (first | (with_reducible first | exact HB.out | apply qA | apply qN | apply qD | refine qS ?_ GE487.out) | exact HB.out)) hb); clear BK487; clear HB; have BK487 := n0_; have HB := n1_; clear n0_ n1_; (try clear hb); (try clear hb2); (try clear hk); (try clear hi)) | ((with_reducible refine gate_callee (f := 31) rfl ?_); refine goesL_ (some 17) rfl rfl Try.func31 (by kernel_rfl) rfl #[.slice A1 l1.length c1, .int .i64 t488] rfl (by (try simp only [List.map_toArray, List.map_cons, List.map_nil]); first | done | rfl | (simp only [List.length_drop, List.length_take]; rfl)) ?_; (with_reducible refine (laws_szSharedS.calls k _ _ l1 t488 t489 _ ?side1 ?side2 A8.out).mono ?_); (case side1 => repeat (first | exact (qB HR1.out HB.out) | (with_reducible refine qc ?_ _) | (with_reducible refine qe ?_ _) | (with_reducible refine qf ?_))); (case side2 => exact HC1.out); rintro e w13 ⟨rfl, hb⟩; refine ⟨_, rfl, ?_⟩; have n0_ := qM (blk_below (g := gb487) (o := .cells #[.slice A0_0 l0_0.length c0_0, .slice A0_1 l0_1.length c0_1] 25 (0, 0)) (by (with_reducible repeat (first | refine qn ?_ _ | refine qd ?_ | refine qa ?_ _)); exact BK487.out) hb); have n1_ := qM (qs (by repeat (first | (with_reducible first | exact HB.out | apply qA | apply qN | apply qD | refine qS ?_ GE487.out) | exact HB.out)) hb); clear BK487; clear HB; have BK487 := n0_; have HB := n1_; clear n0_ n1_; (try clear hb); (try clear hb2); (try clear hk); (try clear hi)))
    go_ret
    exact ⟨by first | rfl | (simp [errW_none, errW_some] <;> rfl) | (simp [*, errW_none, errW_some] <;> rfl), by repeat (first | (with_reducible first | exact HB.out | apply qA | apply qN | apply qD | refine qS ?_ GE487.out) | exact HB.out)⟩
  rw [if_neg c9] at H
  have c9b0 : decide (t489 < 0) = false := decide_eq_false c9
  clear c9
  replace H := Option.bind_eq_some_iff.mp H
  obtain ⟨⟨t490, t493⟩, A140, H⟩ := H
  replace H : ((laws_toSharedS.f k l1).bind fun t496 => ((spec_CloudOk.f k t490 t493 t496).bind fun t499 => ((laws_toSheet.f k l0_0 l0_1).bind fun bt500 => ((laws_toSharedS.f k l1).bind fun t507 => ((impl_CloudOk.f bt500.1 bt500.2 t507).bind fun t510 => (if (t510 != t499) = true then (none) else ((laws_toSheet.f k l0_0 l0_1).bind fun bt511 => ((laws_eqSheet.f k bt500.1 bt500.2 bt511.1 bt511.2).bind fun t517 => (if t517 = true then ((laws_toSharedS.f k l1).bind fun t518 => ((laws_eqSharedS.f k t507 t518).bind fun t521 => (if t521 = true then (some true) else (none)))) else (none)))))))))) = some r := H
  have A14 := qM A140
  clear A140
  replace H := Option.bind_eq_some_iff.mp H
  obtain ⟨t496, A150, H⟩ := H
  replace H : ((spec_CloudOk.f k t490 t493 t496).bind fun t499 => ((laws_toSheet.f k l0_0 l0_1).bind fun bt500 => ((laws_toSharedS.f k l1).bind fun t507 => ((impl_CloudOk.f bt500.1 bt500.2 t507).bind fun t510 => (if (t510 != t499) = true then (none) else ((laws_toSheet.f k l0_0 l0_1).bind fun bt511 => ((laws_eqSheet.f k bt500.1 bt500.2 bt511.1 bt511.2).bind fun t517 => (if t517 = true then ((laws_toSharedS.f k l1).bind fun t518 => ((laws_eqSharedS.f k t507 t518).bind fun t521 => (if t521 = true then (some true) else (none)))) else (none))))))))) = some r := H
  have A15 := qM A150
  clear A150
  replace H := Option.bind_eq_some_iff.mp H
  obtain ⟨t499, A160, H⟩ := H
  replace H : ((laws_toSheet.f k l0_0 l0_1).bind fun bt500 => ((laws_toSharedS.f k l1).bind fun t507 => ((impl_CloudOk.f bt500.1 bt500.2 t507).bind fun t510 => (if (t510 != t499) = true then (none) else ((laws_toSheet.f k l0_0 l0_1).bind fun bt511 => ((laws_eqSheet.f k bt500.1 bt500.2 bt511.1 bt511.2).bind fun t517 => (if t517 = true then ((laws_toSharedS.f k l1).bind fun t518 => ((laws_eqSharedS.f k t507 t518).bind fun t521 => (if t521 = true then (some true) else (none)))) else (none)))))))) = some r := H
  have A16 := qM A160
  clear A160
  replace H := Option.bind_eq_some_iff.mp H
  obtain ⟨⟨t500, t503⟩, A170, H⟩ := H
  replace H : ((laws_toSharedS.f k l1).bind fun t507 => ((impl_CloudOk.f t500 t503 t507).bind fun t510 => (if (t510 != t499) = true then (none) else ((laws_toSheet.f k l0_0 l0_1).bind fun bt511 => ((laws_eqSheet.f k t500 t503 bt511.1 bt511.2).bind fun t517 => (if t517 = true then ((laws_toSharedS.f k l1).bind fun t518 => ((laws_eqSharedS.f k t507 t518).bind fun t521 => (if t521 = true then (some true) else (none)))) else (none))))))) = some r := H
  have A17 := qM A170
  clear A170
  replace H := Option.bind_eq_some_iff.mp H
  obtain ⟨t507, A180, H⟩ := H
  replace H : ((impl_CloudOk.f t500 t503 t507).bind fun t510 => (if (t510 != t499) = true then (none) else ((laws_toSheet.f k l0_0 l0_1).bind fun bt511 => ((laws_eqSheet.f k t500 t503 bt511.1 bt511.2).bind fun t517 => (if t517 = true then ((laws_toSharedS.f k l1).bind fun t518 => ((laws_eqSharedS.f k t507 t518).bind fun t521 => (if t521 = true then (some true) else (none)))) else (none)))))) = some r := H
  have A18 := qM A180
  clear A180
  replace H := Option.bind_eq_some_iff.mp H
  obtain ⟨t510, A190, H⟩ := H
  replace H : (if (t510 != t499) = true then (none) else ((laws_toSheet.f k l0_0 l0_1).bind fun bt511 => ((laws_eqSheet.f k t500 t503 bt511.1 bt511.2).bind fun t517 => (if t517 = true then ((laws_toSharedS.f k l1).bind fun t518 => ((laws_eqSharedS.f k t507 t518).bind fun t521 => (if t521 = true then (some true) else (none)))) else (none))))) = some r := H
  have A19 := qM A190
  clear A190
  by_cases c20 : (t510 != t499) = true
  · rw [if_pos c20] at H
    exact absurd H (by simp)
  rw [if_neg c20] at H
  have c20b0 : (t510 != t499) = false := by simpa using c20
  (try (have c20b1 : decide (t510 = t499) = true := by simpa using c20))
  (try (have c20b2 : (t510 == t499) = true := by simpa using c20))
  clear c20
  replace H := Option.bind_eq_some_iff.mp H
  obtain ⟨⟨t511, t514⟩, A210, H⟩ := H
  replace H : ((laws_eqSheet.f k t500 t503 t511 t514).bind fun t517 => (if t517 = true then ((laws_toSharedS.f k l1).bind fun t518 => ((laws_eqSharedS.f k t507 t518).bind fun t521 => (if t521 = true then (some true) else (none)))) else (none))) = some r := H
  have A21 := qM A210
  clear A210
  replace H := Option.bind_eq_some_iff.mp H
  obtain ⟨t517, A220, H⟩ := H
  replace H : (if t517 = true then ((laws_toSharedS.f k l1).bind fun t518 => ((laws_eqSharedS.f k t507 t518).bind fun t521 => (if t521 = true then (some true) else (none)))) else (none)) = some r := H
  have A22 := qM A220
  clear A220
  by_cases c23 : t517 = true
  rotate_left
  · replace c23 := Bool.eq_false_iff.mpr c23
    subst c23
    have H1 : (none) = some r := by rw [if_neg (show ¬ (false = true) by decide)] at H; exact H
    clear H
    have H := H1
    clear H1
    exact absurd H (by simp)
  subst c23
  have H1 : ((laws_toSharedS.f k l1).bind fun t518 => ((laws_eqSharedS.f k t507 t518).bind fun t521 => (if t521 = true then (some true) else (none)))) = some r := by rw [if_pos rfl] at H; exact H
  clear H
  have H := H1
  clear H1
  replace H := Option.bind_eq_some_iff.mp H
  obtain ⟨t518, A240, H⟩ := H
  replace H : ((laws_eqSharedS.f k t507 t518).bind fun t521 => (if t521 = true then (some true) else (none))) = some r := H
  have A24 := qM A240
  clear A240
  replace H := Option.bind_eq_some_iff.mp H
  obtain ⟨t521, A250, H⟩ := H
  replace H : (if t521 = true then (some true) else (none)) = some r := H
  have A25 := qM A250
  clear A250
  by_cases c26 : t521 = true
  rotate_left
  · replace c26 := Bool.eq_false_iff.mpr c26
    subst c26
    have H1 : (none) = some r := by rw [if_neg (show ¬ (false = true) by decide)] at H; exact H
    clear H
    have H := H1
    clear H1
    exact absurd H (by simp)
  subst c26
  have H1 : (some true) = some r := by rw [if_pos rfl] at H; exact H
  clear H
  have H := H1
  clear H1
  obtain rfl := Option.some.inj H
  go_enter Try.func6, Try.ntmps6
  try go_wp2_with (first | ((with_reducible refine gate_dst (N := 2) rfl ?_); refine box_event ?hg (N := 2) ?hd (cs := #[.slice A0_0 l0_0.length c0_0, .slice A0_1 l0_1.length c0_1]) (t := 25) ?hr ?_; (case hd => rfl); (case hg => rfl); (case hr => first | (go_simp; done) | (go_simp; rfl)); intro gb487 hg w27 hbox hb; have n0_ := qM (qs (by repeat (first | (with_reducible first | exact HB.out | apply qA | apply qN | apply qD) | exact HB.out)) hb); have n1_ := qM (hbox); have n2_ := qM ((by rw [hg]; exact (qz (by repeat (first | (with_reducible first | exact HB.out | apply qA | apply qN | apply qD) | exact HB.out))) : w.heap.size ≤ gb487)); have n3_ := qM ((by rw [hg]; exact (qz (by repeat (first | (with_reducible first | exact HB.out | apply qA | apply qN | apply qD) | exact HB.out))) : w.heap.size ≤ gb487)); clear HB; have HB := n0_; have BK487 := n1_; have GW487 := n2_; have GE487 := n3_; clear n0_ n1_ n2_ n3_; clear hb hbox hg; have hcz28_0 : w27.cell? ⟨gb487, 0, none⟩ = some (.slice A0_0 l0_0.length c0_0) := (qC BK487.out 0).trans rfl; have hcz28_1 : w27.cell? ⟨gb487, 1, none⟩ = some (.slice A0_1 l0_1.length c0_1) := (qC BK487.out 1).trans rfl; have hfz28_0 := qF BK487.out 0; have hfz28_1 := qF BK487.out 1) | ((with_reducible refine gate_callee (f := 14) rfl ?_); refine goesL_ (some 12) rfl rfl Try.func14 (by kernel_rfl) rfl #[.agg #[.slice A0_0 l0_0.length c0_0, .slice A0_1 l0_1.length c0_1], .int .i64 1048576] rfl (by (try simp only [List.map_toArray, List.map_cons, List.map_nil]); first | done | rfl | (simp only [List.length_drop, List.length_take]; rfl)) ?_; (with_reducible refine (laws_szSheet.calls k _ _ l0_0 _ _ l0_1 1048576 t488 _ ?side1 ?side2 ?side3 ?side4 A3.out).mono ?_); (case side1 => repeat (first | exact (qB HR0_0.out HB.out) | (with_reducible refine qc ?_ _) | (with_reducible refine qe ?_ _) | (with_reducible refine qf ?_))); (case side2 => exact HC0_0.out); (case side3 => repeat (first | exact (qB HR0_1.out HB.out) | (with_reducible refine qc ?_ _) | (with_reducible refine qe ?_ _) | (with_reducible refine qf ?_))); (case side4 => exact HC0_1.out); rintro e w29 ⟨rfl, hb⟩; refine ⟨_, rfl, ?_⟩; have n0_ := qM (blk_below (g := gb487) (o := .cells #[.slice A0_0 l0_0.length c0_0, .slice A0_1 l0_1.length c0_1] 25 (0, 0)) (by (with_reducible repeat (first | refine qn ?_ _ | refine qd ?_ | refine qa ?_ _)); exact BK487.out) hb); have n1_ := qM (qs (by repeat (first | (with_reducible first | exact HB.out | apply qA | apply qN | apply qD | refine qS ?_ GE487.out) | exact HB.out)) hb); clear BK487; clear HB; have BK487 := n0_; have HB := n1_; clear n0_ n1_; (try clear hb); (try clear hb2); (try clear hk); (try clear hi)) | ((with_reducible refine gate_callee (f := 31) rfl ?_); refine goesL_ (some 17) rfl rfl Try.func31 (by kernel_rfl) rfl #[.slice A1 l1.length c1, .int .i64 t488] rfl (by (try simp only [List.map_toArray, List.map_cons, List.map_nil]); first | done | rfl | (simp only [List.length_drop, List.length_take]; rfl)) ?_; (with_reducible refine (laws_szSharedS.calls k _ _ l1 t488 t489 _ ?side1 ?side2 A8.out).mono ?_); (case side1 => repeat (first | exact (qB HR1.out HB.out) | (with_reducible refine qc ?_ _) | (with_reducible refine qe ?_ _) | (with_reducible refine qf ?_))); (case side2 => exact HC1.out); rintro e w30 ⟨rfl, hb⟩; refine ⟨_, rfl, ?_⟩; have n0_ := qM (blk_below (g := gb487) (o := .cells #[.slice A0_0 l0_0.length c0_0, .slice A0_1 l0_1.length c0_1] 25 (0, 0)) (by (with_reducible repeat (first | refine qn ?_ _ | refine qd ?_ | refine qa ?_ _)); exact BK487.out) hb); have n1_ := qM (qs (by repeat (first | (with_reducible first | exact HB.out | apply qA | apply qN | apply qD | refine qS ?_ GE487.out) | exact HB.out)) hb); clear BK487; clear HB; have BK487 := n0_; have HB := n1_; clear n0_ n1_; (try clear hb); (try clear hb2); (try clear hk); (try clear hi); have hcz31_0 : w30.cell? ⟨gb487, 0, none⟩ = some (.slice A0_0 l0_0.length c0_0) := (qC BK487.out 0).trans rfl; have hcz31_1 : w30.cell? ⟨gb487, 1, none⟩ = some (.slice A0_1 l0_1.length c0_1) := (qC BK487.out 1).trans rfl; have hfz31_0 := qF BK487.out 0; have hfz31_1 := qF BK487.out 1) | ((with_reducible refine gate_callee (f := 16) rfl ?_); refine goesL_ (some 21) rfl rfl Try.func16 (by kernel_rfl) rfl #[.agg #[.slice A0_0 l0_0.length c0_0, .slice A0_1 l0_1.length c0_1]] rfl (by (try simp only [List.map_toArray, List.map_cons, List.map_nil]); first | done | rfl | (simp only [List.length_drop, List.length_take]; rfl)) ?_; (with_reducible refine (laws_toSheet.calls k _ _ l0_0 _ _ l0_1 t490 t493 _ ?side1 ?side2 ?side3 ?side4 A14.out).mono ?_); (case side1 => repeat (first | exact (qB HR0_0.out HB.out) | (with_reducible refine qc ?_ _) | (with_reducible refine qe ?_ _) | (with_reducible refine qf ?_))); (case side2 => exact HC0_0.out); (case side3 => repeat (first | exact (qB HR0_1.out HB.out) | (with_reducible refine qc ?_ _) | (with_reducible refine qe ?_ _) | (with_reducible refine qf ?_))); (case side4 => exact HC0_1.out); rintro e w32 ⟨v491, v494, rfl, ho0, ho1, hb⟩; refine ⟨_, rfl, ?_⟩; have n0_ := qM (Kd.R_lower ho0 (qz (by repeat (first | (with_reducible first | exact HB.out | apply qA | apply qN | apply qD | refine qS ?_ GE487.out) | exact HB.out)))); have n1_ := qM (Kd.R_lower ho1 (qz (by repeat (first | (with_reducible first | exact HB.out | apply qA | apply qN | apply qD | refine qS ?_ GE487.out) | exact HB.out)))); have n2_ := qM (blk_below (g := gb487) (o := .cells #[.slice A0_0 l0_0.length c0_0, .slice A0_1 l0_1.length c0_1] 25 (0, 0)) (by (with_reducible repeat (first | refine qn ?_ _ | refine qd ?_ | refine qa ?_ _)); exact BK487.out) hb); have n3_ := qM (qs (by repeat (first | (with_reducible first | exact HB.out | apply qA | apply qN | apply qD | refine qS ?_ GE487.out) | exact HB.out)) hb); clear BK487; clear HB; have HO492 := n0_; have HO495 := n1_; have BK487 := n2_; have HB := n3_; clear n0_ n1_ n2_ n3_; (try clear hb); (try clear hb2); (try clear hk); (try clear hi); (try clear ho0); (try clear ho1)) | ((with_reducible refine gate_callee (f := 33) rfl ?_); refine goesL_ (some 23) rfl rfl Try.func33 (by kernel_rfl) rfl #[.slice A1 l1.length c1] rfl (by (try simp only [List.map_toArray, List.map_cons, List.map_nil]); first | done | rfl | (simp only [List.length_drop, List.length_take]; rfl)) ?_; (with_reducible refine (laws_toSharedS.calls k _ _ l1 t496 _ ?side1 ?side2 A15.out).mono ?_); (case side1 => repeat (first | exact (qB HR1.out HB.out) | (with_reducible refine qc ?_ _) | (with_reducible refine qe ?_ _) | (with_reducible refine qf ?_))); (case side2 => exact HC1.out); rintro e w33 ⟨v497, rfl, ho0, hb⟩; refine ⟨_, rfl, ?_⟩; have n0_ := qM (Kd.R_below (by (with_reducible repeat (first | apply Kd.R_alloc | apply Kd.R_drewN | apply Kd.R_drew)); exact HO492.out) hb); have n1_ := qM (Kd.R_below (by (with_reducible repeat (first | apply Kd.R_alloc | apply Kd.R_drewN | apply Kd.R_drew)); exact HO495.out) hb); have n2_ := qM (Kd.S_lower ho0 (qz (by repeat (first | (with_reducible first | exact HB.out | apply qA | apply qN | apply qD | refine qS ?_ GE487.out) | exact HB.out)))); have n3_ := qM (blk_below (g := gb487) (o := .cells #[.slice A0_0 l0_0.length c0_0, .slice A0_1 l0_1.length c0_1] 25 (0, 0)) (by (with_reducible repeat (first | refine qn ?_ _ | refine qd ?_ | refine qa ?_ _)); exact BK487.out) hb); have n4_ := qM (qs (by repeat (first | (with_reducible first | exact HB.out | apply qA | apply qN | apply qD | refine qS ?_ GE487.out) | exact HB.out)) hb); clear HO492; clear HO495; clear BK487; clear HB; have HO492 := n0_; have HO495 := n1_; have HO498 := n2_; have BK487 := n3_; have HB := n4_; clear n0_ n1_ n2_ n3_ n4_; (try clear hb); (try clear hb2); (try clear hk); (try clear hi); (try clear ho0); obtain ⟨Ao34, co34, eo34⟩ := Kd.R_slice HO492.out; subst eo34; obtain ⟨Ao35, co35, eo35⟩ := Kd.R_slice HO495.out; subst eo35; obtain ⟨Ao36, co36, eo36⟩ := Kd.S_slice HO498.out; subst eo36) | ((with_reducible refine gate_callee (f := 32) rfl ?_); refine goesL_ (some 24) rfl rfl Try.func32 (by kernel_rfl) rfl #[.agg #[.slice Ao34 t490.length co34, .slice Ao35 t493.length co35], .slice Ao36 t496.length co36] rfl (by (try simp only [List.map_toArray, List.map_cons, List.map_nil]); first | done | rfl | (simp only [List.length_drop, List.length_take]; rfl)) ?_; (with_reducible refine (spec_CloudOk.calls k _ _ t490 _ _ t493 (fun k_ => (((True ∧ some k_ ≠ (.slice Ao34 t490.length co34 : Value).ownBlock) ∧ some k_ ≠ (.slice Ao35 t493.length co35 : Value).ownBlock) ∧ k_ ≠ gb487)) _ _ t496 t499 _ ?side1 ?side2 ?side3 ?side4 ?side5 A16.out).mono ?_); (case side1 => repeat (first | exact (Kd.R_reads' HO492.out).2.2 | (with_reducible refine qc ?_ _) | (with_reducible refine qe ?_ _) | (with_reducible refine qf ?_))); (case side2 => exact (Kd.R_reads' HO492.out).2.1); (case side3 => repeat (first | exact (Kd.R_reads' HO495.out).2.2 | (with_reducible refine qc ?_ _) | (with_reducible refine qe ?_ _) | (with_reducible refine qf ?_))); (case side4 => exact (Kd.R_reads' HO495.out).2.1); (case side5 => exact Kd.S_V (Kd.S_types (Kd.S_apart' (Kd.S_apart' (HO498.out) (Kd.R_typed HO492.out) (by decide)) (Kd.R_typed HO495.out) (by decide)) BK487.out (by decide))); rintro e w37 ⟨rfl, hb⟩; refine ⟨_, rfl, ?_⟩; have n0_ := qM (Kd.R_below (by (with_reducible repeat (first | apply Kd.R_alloc | apply Kd.R_drewN | apply Kd.R_drew)); exact HO492.out) hb); have n1_ := qM (Kd.R_below (by (with_reducible repeat (first | apply Kd.R_alloc | apply Kd.R_drewN | apply Kd.R_drew)); exact HO495.out) hb); have n2_ := qM (Kd.S_below (by (with_reducible repeat (first | apply Kd.S_alloc | apply Kd.S_drewN | apply Kd.S_drew)); exact HO498.out) hb); have n3_ := qM (blk_below (g := gb487) (o := .cells #[.slice A0_0 l0_0.length c0_0, .slice A0_1 l0_1.length c0_1] 25 (0, 0)) (by (with_reducible repeat (first | refine qn ?_ _ | refine qd ?_ | refine qa ?_ _)); exact BK487.out) hb); have n4_ := qM (qs (by repeat (first | (with_reducible first | exact HB.out | apply qA | apply qN | apply qD | refine qS ?_ GE487.out) | exact HB.out)) hb); clear HO492; clear HO495; clear HO498; clear BK487; clear HB; have HO492 := n0_; have HO495 := n1_; have HO498 := n2_; have BK487 := n3_; have HB := n4_; clear n0_ n1_ n2_ n3_ n4_; (try clear hb); (try clear hb2); (try clear hk); (try clear hi); have hcz38_0 : w37.cell? ⟨gb487, 0, none⟩ = some (.slice A0_0 l0_0.length c0_0) := (qC BK487.out 0).trans rfl; have hcz38_1 : w37.cell? ⟨gb487, 1, none⟩ = some (.slice A0_1 l0_1.length c0_1) := (qC BK487.out 1).trans rfl; have hfz38_0 := qF BK487.out 0; have hfz38_1 := qF BK487.out 1) | ((with_reducible refine gate_callee (f := 16) rfl ?_); refine goesL_ (some 26) rfl rfl Try.func16 (by kernel_rfl) rfl #[.agg #[.slice A0_0 l0_0.length c0_0, .slice A0_1 l0_1.length c0_1]] rfl (by (try simp only [List.map_toArray, List.map_cons, List.map_nil]); first | done | rfl | (simp only [List.length_drop, List.length_take]; rfl)) ?_; (with_reducible refine (laws_toSheet.calls k _ _ l0_0 _ _ l0_1 t500 t503 _ ?side1 ?side2 ?side3 ?side4 A17.out).mono ?_); (case side1 => repeat (first | exact (qB HR0_0.out HB.out) | (with_reducible refine qc ?_ _) | (with_reducible refine qe ?_ _) | (with_reducible refine qf ?_))); (case side2 => exact HC0_0.out); (case side3 => repeat (first | exact (qB HR0_1.out HB.out) | (with_reducible refine qc ?_ _) | (with_reducible refine qe ?_ _) | (with_reducible refine qf ?_))); (case side4 => exact HC0_1.out); rintro e w39 ⟨v501, v504, rfl, ho0, ho1, hb⟩; refine ⟨_, rfl, ?_⟩; have n0_ := qM (Kd.R_elder' (by (with_reducible repeat (first | apply Kd.R_alloc | apply Kd.R_drewN | apply Kd.R_drew)); exact HO492.out) (Kd.R_base ho0) hb); have n1_ := qM (Kd.R_elder' (by (with_reducible repeat (first | apply Kd.R_alloc | apply Kd.R_drewN | apply Kd.R_drew)); exact HO495.out) (Kd.R_base ho1) hb); have n2_ := qM (Kd.S_below (by (with_reducible repeat (first | apply Kd.S_alloc | apply Kd.S_drewN | apply Kd.S_drew)); exact HO498.out) hb); have n3_ := qM (Kd.R_lower (Kd.R_new' ho0 (Kd.R_lt (by (with_reducible repeat (first | apply Kd.R_alloc | apply Kd.R_drewN | apply Kd.R_drew)); exact HO492.out))) (qz (by repeat (first | (with_reducible first | exact HB.out | apply qA | apply qN | apply qD | refine qS ?_ GE487.out) | exact HB.out)))); have n4_ := qM (Kd.R_lower (Kd.R_new' ho1 (Kd.R_lt (by (with_reducible repeat (first | apply Kd.R_alloc | apply Kd.R_drewN | apply Kd.R_drew)); exact HO495.out))) (qz (by repeat (first | (with_reducible first | exact HB.out | apply qA | apply qN | apply qD | refine qS ?_ GE487.out) | exact HB.out)))); have n5_ := qM (blk_below (g := gb487) (o := .cells #[.slice A0_0 l0_0.length c0_0, .slice A0_1 l0_1.length c0_1] 25 (0, 0)) (by (with_reducible repeat (first | refine qn ?_ _ | refine qd ?_ | refine qa ?_ _)); exact BK487.out) hb); have n6_ := qM (qs (by repeat (first | (with_reducible first | exact HB.out | apply qA | apply qN | apply qD | refine qS ?_ GE487.out) | exact HB.out)) hb); clear HO492; clear HO495; clear HO498; clear BK487; clear HB; have HO492 := n0_; have HO495 := n1_; have HO498 := n2_; have HO502 := n3_; have HO505 := n4_; have BK487 := n5_; have HB := n6_; clear n0_ n1_ n2_ n3_ n4_ n5_ n6_; (try clear hb); (try clear hb2); (try clear hk); (try clear hi); (try clear ho0); (try clear ho1)) | ((with_reducible refine gate_dst (N := 7) rfl ?_); refine box_event ?hg (N := 7) ?hd (cs := #[.slice none 0 0, .slice none 0 0]) (t := 30) ?hr ?_; (case hd => rfl); (case hg => rfl); (case hr => first | (go_simp; done) | (go_simp; rfl)); intro gb506 hg w40 hbox hb; have n0_ := qM (Kd.R_below (by (with_reducible repeat (first | apply Kd.R_alloc | apply Kd.R_drewN | apply Kd.R_drew)); exact HO492.out) hb); have n1_ := qM (Kd.R_below (by (with_reducible repeat (first | apply Kd.R_alloc | apply Kd.R_drewN | apply Kd.R_drew)); exact HO495.out) hb); have n2_ := qM (Kd.S_below (by (with_reducible repeat (first | apply Kd.S_alloc | apply Kd.S_drewN | apply Kd.S_drew)); exact HO498.out) hb); have n3_ := qM (Kd.R_below (by (with_reducible repeat (first | apply Kd.R_alloc | apply Kd.R_drewN | apply Kd.R_drew)); exact HO502.out) hb); have n4_ := qM (Kd.R_below (by (with_reducible repeat (first | apply Kd.R_alloc | apply Kd.R_drewN | apply Kd.R_drew)); exact HO505.out) hb); have n5_ := qM (blk_below (g := gb487) (o := .cells #[.slice A0_0 l0_0.length c0_0, .slice A0_1 l0_1.length c0_1] 25 (0, 0)) (by (with_reducible repeat (first | refine qn ?_ _ | refine qd ?_ | refine qa ?_ _)); exact BK487.out) hb); have n6_ := qM (qs (by repeat (first | (with_reducible first | exact HB.out | apply qA | apply qN | apply qD | refine qS ?_ GE487.out) | exact HB.out)) hb); have n7_ := qM (hbox); have n8_ := qM ((by rw [hg]; exact (qz (by repeat (first | (with_reducible first | exact HB.out | apply qA | apply qN | apply qD | refine qS ?_ GE487.out) | exact HB.out))) : w.heap.size ≤ gb506)); have n9_ := qM ((by rw [hg]; exact (qz (by repeat (first | (with_reducible first | exact HB.out | apply qA | apply qN | apply qD | refine qS ?_ GE487.out) | exact HB.out))) : w.heap.size ≤ gb506)); have n10_ := qM ((by rw [hg]; exact Nat.ne_of_lt (blk_lt (g := gb487) (o := .cells #[.slice A0_0 l0_0.length c0_0, .slice A0_1 l0_1.length c0_1] 25 (0, 0)) (by (with_reducible repeat (first | refine qn ?_ _ | refine qd ?_ | refine qa ?_ _)); exact BK487.out)) : gb487 ≠ gb506)); have n11_ := qM ((by rw [hg]; exact Nat.ne_of_gt (blk_lt (g := gb487) (o := .cells #[.slice A0_0 l0_0.length c0_0, .slice A0_1 l0_1.length c0_1] 25 (0, 0)) (by (with_reducible repeat (first | refine qn ?_ _ | refine qd ?_ | refine qa ?_ _)); exact BK487.out)) : gb506 ≠ gb487)); clear HO492; clear HO495; clear HO498; clear HO502; clear HO505; clear BK487; clear HB; have HO492 := n0_; have HO495 := n1_; have HO498 := n2_; have HO502 := n3_; have HO505 := n4_; have BK487 := n5_; have HB := n6_; have BK506 := n7_; have GW506 := n8_; have GE506 := n9_; have NB487_506 := n10_; have NB506_487 := n11_; clear n0_ n1_ n2_ n3_ n4_ n5_ n6_ n7_ n8_ n9_ n10_ n11_; clear hb hbox hg; obtain ⟨Ao41, co41, eo41⟩ := Kd.R_slice HO502.out; subst eo41; have hnb42 := NB506_487.out; have hnc42 := NB487_506.out; have hcz43_0 : w40.cell? ⟨gb506, 0, none⟩ = some (.slice none 0 0) := (qC BK506.out 0).trans rfl; have hcz43_1 : w40.cell? ⟨gb506, 1, none⟩ = some (.slice none 0 0) := (qC BK506.out 1).trans rfl; have hfz43_0 := qF BK506.out 0; have hfz43_1 := qF BK506.out 1; obtain ⟨Ao44, co44, eo44⟩ := Kd.R_slice HO505.out; subst eo44) | ((with_reducible refine gate_callee (f := 33) rfl ?_); refine goesL_ (some 28) rfl rfl Try.func33 (by kernel_rfl) rfl #[.slice A1 l1.length c1] rfl (by (try simp only [List.map_toArray, List.map_cons, List.map_nil]); first | done | rfl | (simp only [List.length_drop, List.length_take]; rfl)) ?_; (with_reducible refine (laws_toSharedS.calls k _ _ l1 t507 _ ?side1 ?side2 A18.out).mono ?_); (case side1 => exact qB HR1.out (by repeat (first | (with_reducible first | exact HB.out | apply qA | apply qN | apply qD | refine qS ?_ GE487.out | refine qS ?_ GE506.out) | exact HB.out))); (case side2 => exact HC1.out); rintro e w45 ⟨v508, rfl, ho0, hb⟩; refine ⟨_, rfl, ?_⟩; have n0_ := qM (Kd.R_below (by (with_reducible repeat (first | apply Kd.R_alloc | apply Kd.R_drewN | apply Kd.R_drew)); exact (Kd.R_mono (Kd.R_far (p := ⟨gb506, 1, none⟩) (Kd.R_far (p := ⟨gb506, 0, none⟩) (Kd.R_types HO492.out BK506.out (by decide)) (fun _ hk => hk.2) (.slice Ao41 t500.length co41)) (fun _ hk => hk.2) (.slice Ao44 t503.length co44)) (fun _ h_ => h_.1))) hb); have n1_ := qM (Kd.R_below (by (with_reducible repeat (first | apply Kd.R_alloc | apply Kd.R_drewN | apply Kd.R_drew)); exact (Kd.R_mono (Kd.R_far (p := ⟨gb506, 1, none⟩) (Kd.R_far (p := ⟨gb506, 0, none⟩) (Kd.R_types HO495.out BK506.out (by decide)) (fun _ hk => hk.2) (.slice Ao41 t500.length co41)) (fun _ hk => hk.2) (.slice Ao44 t503.length co44)) (fun _ h_ => h_.1))) hb); have n2_ := qM (Kd.S_elder' (by (with_reducible repeat (first | apply Kd.S_alloc | apply Kd.S_drewN | apply Kd.S_drew)); exact (Kd.S_mono (Kd.S_far (p := ⟨gb506, 1, none⟩) (Kd.S_far (p := ⟨gb506, 0, none⟩) (Kd.S_types HO498.out BK506.out (by decide)) (fun _ hk => hk.2) (.slice Ao41 t500.length co41)) (fun _ hk => hk.2) (.slice Ao44 t503.length co44)) (fun _ h_ => h_.1))) (Kd.S_base ho0) hb); have n3_ := qM (Kd.R_below (by (with_reducible repeat (first | apply Kd.R_alloc | apply Kd.R_drewN | apply Kd.R_drew)); exact (Kd.R_mono (Kd.R_far (p := ⟨gb506, 1, none⟩) (Kd.R_far (p := ⟨gb506, 0, none⟩) (Kd.R_types HO502.out BK506.out (by decide)) (fun _ hk => hk.2) (.slice Ao41 t500.length co41)) (fun _ hk => hk.2) (.slice Ao44 t503.length co44)) (fun _ h_ => h_.1))) hb); have n4_ := qM (Kd.R_below (by (with_reducible repeat (first | apply Kd.R_alloc | apply Kd.R_drewN | apply Kd.R_drew)); exact (Kd.R_mono (Kd.R_far (p := ⟨gb506, 1, none⟩) (Kd.R_far (p := ⟨gb506, 0, none⟩) (Kd.R_types HO505.out BK506.out (by decide)) (fun _ hk => hk.2) (.slice Ao41 t500.length co41)) (fun _ hk => hk.2) (.slice Ao44 t503.length co44)) (fun _ h_ => h_.1))) hb); have n5_ := qM (Kd.S_lower (Kd.S_new' ho0 (Kd.S_lt (by (with_reducible repeat (first | apply Kd.S_alloc | apply Kd.S_drewN | apply Kd.S_drew)); exact (Kd.S_mono (Kd.S_far (p := ⟨gb506, 1, none⟩) (Kd.S_far (p := ⟨gb506, 0, none⟩) (Kd.S_types HO498.out BK506.out (by decide)) (fun _ hk => hk.2) (.slice Ao41 t500.length co41)) (fun _ hk => hk.2) (.slice Ao44 t503.length co44)) (fun _ h_ => h_.1))))) (qz (by repeat (first | (with_reducible first | exact HB.out | apply qA | apply qN | apply qD | refine qS ?_ GE487.out | refine qS ?_ GE506.out) | exact HB.out)))); have n6_ := qM (blk_below (g := gb487) (o := .cells #[.slice A0_0 l0_0.length c0_0, .slice A0_1 l0_1.length c0_1] 25 (0, 0)) (by (with_reducible repeat (first | refine qn ?_ _ | refine qd ?_ | refine qa ?_ _)); refine blk_far ?_ NB487_506.out _; (with_reducible repeat (first | refine qn ?_ _ | refine qd ?_ | refine qa ?_ _)); refine blk_far ?_ NB487_506.out _; (with_reducible repeat (first | refine qn ?_ _ | refine qd ?_ | refine qa ?_ _)); exact BK487.out) hb); have n7_ := qM (blk_below (g := gb506) (o := .cells #[.slice Ao41 t500.length co41, .slice Ao44 t503.length co44] 30 (0, 0)) (by (with_reducible repeat (first | refine qn ?_ _ | refine qd ?_ | refine qa ?_ _)); refine blk_put (cs := #[.slice Ao41 t500.length co41, .slice none 0 0]) ?_ 1 _ rfl; (with_reducible repeat (first | refine qn ?_ _ | refine qd ?_ | refine qa ?_ _)); refine blk_put (cs := #[.slice none 0 0, .slice none 0 0]) ?_ 0 _ rfl; (with_reducible repeat (first | refine qn ?_ _ | refine qd ?_ | refine qa ?_ _)); exact BK506.out) hb); have n8_ := qM (qs (by repeat (first | (with_reducible first | exact HB.out | apply qA | apply qN | apply qD | refine qS ?_ GE487.out | refine qS ?_ GE506.out) | exact HB.out)) hb); clear HO492; clear HO495; clear HO498; clear HO502; clear HO505; clear BK487; clear BK506; clear HB; have HO492 := n0_; have HO495 := n1_; have HO498 := n2_; have HO502 := n3_; have HO505 := n4_; have HO509 := n5_; have BK487 := n6_; have BK506 := n7_; have HB := n8_; clear n0_ n1_ n2_ n3_ n4_ n5_ n6_ n7_ n8_; (try clear hb); (try clear hb2); (try clear hk); (try clear hi); (try clear ho0); have hcz46_0 : w45.cell? ⟨gb506, 0, none⟩ = some (.slice Ao41 t500.length co41) := (qC BK506.out 0).trans rfl; have hcz46_1 : w45.cell? ⟨gb506, 1, none⟩ = some (.slice Ao44 t503.length co44) := (qC BK506.out 1).trans rfl; have hfz46_0 := qF BK506.out 0; have hfz46_1 := qF BK506.out 1; obtain ⟨Ao47, co47, eo47⟩ := Kd.S_slice HO509.out; subst eo47) | ((with_reducible refine gate_callee (f := 34) rfl ?_); refine goesL_ (some 31) rfl rfl Try.func34 (by kernel_rfl) rfl #[.agg #[.slice Ao41 t500.length co41, .slice Ao44 t503.length co44], .slice Ao47 t507.length co47] rfl (by (try simp only [List.map_toArray, List.map_cons, List.map_nil]); first | done | rfl | (simp only [List.length_drop, List.length_take]; rfl)) ?_; (with_reducible refine (impl_CloudOk.calls _ _ t500 _ _ t503 _ _ t507 t510 _ ?side1 ?side2 ?side3 ?side4 ?side5 ?side6 A19.out).mono ?_); (case side1 => repeat (first | exact (Kd.R_reads' HO502.out).2.2 | (with_reducible refine qc ?_ _) | (with_reducible refine qe ?_ _) | (with_reducible refine qf ?_))); (case side2 => exact (Kd.R_reads' HO502.out).2.1); (case side3 => repeat (first | exact (Kd.R_reads' HO505.out).2.2 | (with_reducible refine qc ?_ _) | (with_reducible refine qe ?_ _) | (with_reducible refine qf ?_))); (case side4 => exact (Kd.R_reads' HO505.out).2.1); (case side5 => repeat (first | exact (Kd.S_reads' HO509.out).2.2 | (with_reducible refine qc ?_ _) | (with_reducible refine qe ?_ _) | (with_reducible refine qf ?_))); (case side6 => exact (Kd.S_reads' HO509.out).2.1); rintro e w48 ⟨rfl, hb⟩; refine ⟨_, rfl, ?_⟩; have n0_ := qM (Kd.R_below (by (with_reducible repeat (first | apply Kd.R_alloc | apply Kd.R_drewN | apply Kd.R_drew)); exact HO492.out) hb); have n1_ := qM (Kd.R_below (by (with_reducible repeat (first | apply Kd.R_alloc | apply Kd.R_drewN | apply Kd.R_drew)); exact HO495.out) hb); have n2_ := qM (Kd.S_below (by (with_reducible repeat (first | apply Kd.S_alloc | apply Kd.S_drewN | apply Kd.S_drew)); exact HO498.out) hb); have n3_ := qM (Kd.R_below (by (with_reducible repeat (first | apply Kd.R_alloc | apply Kd.R_drewN | apply Kd.R_drew)); exact HO502.out) hb); have n4_ := qM (Kd.R_below (by (with_reducible repeat (first | apply Kd.R_alloc | apply Kd.R_drewN | apply Kd.R_drew)); exact HO505.out) hb); have n5_ := qM (Kd.S_below (by (with_reducible repeat (first | apply Kd.S_alloc | apply Kd.S_drewN | apply Kd.S_drew)); exact HO509.out) hb); have n6_ := qM (blk_below (g := gb487) (o := .cells #[.slice A0_0 l0_0.length c0_0, .slice A0_1 l0_1.length c0_1] 25 (0, 0)) (by (with_reducible repeat (first | refine qn ?_ _ | refine qd ?_ | refine qa ?_ _)); exact BK487.out) hb); have n7_ := qM (blk_below (g := gb506) (o := .cells #[.slice Ao41 t500.length co41, .slice Ao44 t503.length co44] 30 (0, 0)) (by (with_reducible repeat (first | refine qn ?_ _ | refine qd ?_ | refine qa ?_ _)); exact BK506.out) hb); have n8_ := qM (qs (by repeat (first | (with_reducible first | exact HB.out | apply qA | apply qN | apply qD | refine qS ?_ GE487.out | refine qS ?_ GE506.out) | exact HB.out)) hb); clear HO492; clear HO495; clear HO498; clear HO502; clear HO505; clear HO509; clear BK487; clear BK506; clear HB; have HO492 := n0_; have HO495 := n1_; have HO498 := n2_; have HO502 := n3_; have HO505 := n4_; have HO509 := n5_; have BK487 := n6_; have BK506 := n7_; have HB := n8_; clear n0_ n1_ n2_ n3_ n4_ n5_ n6_ n7_ n8_; (try clear hb); (try clear hb2); (try clear hk); (try clear hi)))
  have n0_ := qM (Kd.R_drew HO492.out)
  have n1_ := qM (Kd.R_drew HO495.out)
  have n2_ := qM (Kd.S_drew HO498.out)
  have n3_ := qM (Kd.R_drew HO502.out)
  have n4_ := qM (Kd.R_drew HO505.out)
  have n5_ := qM (Kd.S_drew HO509.out)
  have n6_ := qM (qd BK487.out)
  have n7_ := qM (qd BK506.out)
  have n8_ := qM (qD HB.out)
  clear HO492
  clear HO495
  clear HO498
  clear HO502
  clear HO505
  clear HO509
  clear BK487
  clear BK506
  clear HB
  have HO492 := n0_
  have HO495 := n1_
  have HO498 := n2_
  have HO502 := n3_
  have HO505 := n4_
  have HO509 := n5_
  have BK487 := n6_
  have BK506 := n7_
  have HB := n8_
  clear n0_ n1_ n2_ n3_ n4_ n5_ n6_ n7_ n8_
  refine start_ (n := 5) (S := fun w' => w'.cell? ⟨gb506, 0, none⟩ = some (.slice Ao41 t500.length co41) ∧ w'.cell? ⟨gb506, 1, none⟩ = some (.slice Ao44 t503.length co44) ∧ w'.cell? ⟨gb487, 0, none⟩ = some (.slice A0_0 l0_0.length c0_0) ∧ w'.cell? ⟨gb487, 1, none⟩ = some (.slice A0_1 l0_1.length c0_1)) (ds := []) #[false, false, false, false, false] (by kernel_rfl) rfl rfl ⟨(qC BK506.out 0).trans rfl, (qC BK506.out 1).trans rfl, (qC BK487.out 0).trans rfl, (qC BK487.out 1).trans rfl⟩ (fun hHeld => ?_)
  generalize w48.drew = w49 at HO492 HO495 HO498 HO502 HO505 HO509 BK487 BK506 HB hHeld ⊢
  refine take_ (i := 0) (N := some 35) (v := ?_) (a' := ?_) #[true, false, false, false, false] rfl rfl (by kernel_rfl) (fun _ _ _ h => h) (Or.inl ⟨by rfl, ?_⟩) hHeld ?_ ?_
  rotate_left
  · rintro w' ⟨s0, s1, s2, s3⟩
    go_simp
    with_reducible rfl
  rotate_left
  · simp only [Act.put, List.setIfInBounds_toArray, List.set_cons_zero, List.set_cons_succ, i64_w, i32_w]
    rfl
  refine take_ (i := 1) (N := some 36) (v := ?_) (a' := ?_) #[true, true, false, false, false] rfl rfl (by kernel_rfl) (fun _ _ _ h => h) (Or.inl ⟨by rfl, ?_⟩) hHeld ?_ ?_
  rotate_left
  · rintro w' ⟨s0, s1, s2, s3⟩
    go_simp
    with_reducible rfl
  rotate_left
  · simp only [Act.put, List.setIfInBounds_toArray, List.set_cons_zero, List.set_cons_succ, i64_w, i32_w]
    rfl
  refine one_ (i := 2) (N := some 37) #[true, true, true, false, false] rfl rfl (by kernel_rfl) (by decide) (fun K hK => ?_)
  refine goes_ Try.func16 (by kernel_rfl) rfl #[.agg #[.slice A0_0 l0_0.length c0_0, .slice A0_1 l0_1.length c0_1]] (by rfl) rfl rfl (by (try simp only [List.map_toArray, List.map_cons, List.map_nil]); first | done | rfl | (simp only [List.length_drop, List.length_take]; rfl)) ?_
  with_reducible refine (laws_toSheet.calls k _ _ l0_0 _ _ l0_1 t511 t514 _ ?side1 ?side2 ?side3 ?side4 A21.out).mono ?_
  (case side1 => repeat (first | exact (qB HR0_0.out HB.out) | (with_reducible refine qc ?_ _) | (with_reducible refine qe ?_ _) | (with_reducible refine qf ?_)))
  (case side2 => exact HC0_0.out)
  (case side3 => repeat (first | exact (qB HR0_1.out HB.out) | (with_reducible refine qc ?_ _) | (with_reducible refine qe ?_ _) | (with_reducible refine qf ?_)))
  (case side4 => exact HC0_1.out)
  rintro e w50 ⟨v512, v515, rfl, ho0, ho1, hb⟩
  refine ⟨_, rfl, ?_⟩
  have n0_ := qM (Kd.R_elder' (by (with_reducible repeat (first | apply Kd.R_alloc | apply Kd.R_drewN | apply Kd.R_drew)); exact HO492.out) (Kd.R_base ho0) hb)
  have n1_ := qM (Kd.R_elder' (by (with_reducible repeat (first | apply Kd.R_alloc | apply Kd.R_drewN | apply Kd.R_drew)); exact HO495.out) (Kd.R_base ho1) hb)
  have n2_ := qM (Kd.S_below (by (with_reducible repeat (first | apply Kd.S_alloc | apply Kd.S_drewN | apply Kd.S_drew)); exact HO498.out) hb)
  have n3_ := qM (Kd.R_elder' (by (with_reducible repeat (first | apply Kd.R_alloc | apply Kd.R_drewN | apply Kd.R_drew)); exact HO502.out) (Kd.R_base ho0) hb)
  have n4_ := qM (Kd.R_elder' (by (with_reducible repeat (first | apply Kd.R_alloc | apply Kd.R_drewN | apply Kd.R_drew)); exact HO505.out) (Kd.R_base ho1) hb)
  have n5_ := qM (Kd.S_below (by (with_reducible repeat (first | apply Kd.S_alloc | apply Kd.S_drewN | apply Kd.S_drew)); exact HO509.out) hb)
  have n6_ := qM (Kd.R_lower (Kd.R_new' (Kd.R_new' ho0 (Kd.R_lt (by (with_reducible repeat (first | apply Kd.R_alloc | apply Kd.R_drewN | apply Kd.R_drew)); exact HO492.out))) (Kd.R_lt (by (with_reducible repeat (first | apply Kd.R_alloc | apply Kd.R_drewN | apply Kd.R_drew)); exact HO502.out))) (qz (by repeat (first | (with_reducible first | exact HB.out | apply qA | apply qN | apply qD | refine qS ?_ GE487.out | refine qS ?_ GE506.out) | exact HB.out))))
  have n7_ := qM (Kd.R_lower (Kd.R_new' (Kd.R_new' ho1 (Kd.R_lt (by (with_reducible repeat (first | apply Kd.R_alloc | apply Kd.R_drewN | apply Kd.R_drew)); exact HO495.out))) (Kd.R_lt (by (with_reducible repeat (first | apply Kd.R_alloc | apply Kd.R_drewN | apply Kd.R_drew)); exact HO505.out))) (qz (by repeat (first | (with_reducible first | exact HB.out | apply qA | apply qN | apply qD | refine qS ?_ GE487.out | refine qS ?_ GE506.out) | exact HB.out))))
  have n8_ := qM (blk_below (g := gb487) (o := .cells #[.slice A0_0 l0_0.length c0_0, .slice A0_1 l0_1.length c0_1] 25 (0, 0)) (by (with_reducible repeat (first | refine qn ?_ _ | refine qd ?_ | refine qa ?_ _)); exact BK487.out) hb)
  have n9_ := qM (blk_below (g := gb506) (o := .cells #[.slice Ao41 t500.length co41, .slice Ao44 t503.length co44] 30 (0, 0)) (by (with_reducible repeat (first | refine qn ?_ _ | refine qd ?_ | refine qa ?_ _)); exact BK506.out) hb)
  have n10_ := qM (qs (by repeat (first | (with_reducible first | exact HB.out | apply qA | apply qN | apply qD | refine qS ?_ GE487.out | refine qS ?_ GE506.out) | exact HB.out)) hb)
  clear HO492
  clear HO495
  clear HO498
  clear HO502
  clear HO505
  clear HO509
  clear BK487
  clear BK506
  clear HB
  have HO492 := n0_
  have HO495 := n1_
  have HO498 := n2_
  have HO502 := n3_
  have HO505 := n4_
  have HO509 := n5_
  have HO513 := n6_
  have HO516 := n7_
  have BK487 := n8_
  have BK506 := n9_
  have HB := n10_
  clear n0_ n1_ n2_ n3_ n4_ n5_ n6_ n7_ n8_ n9_ n10_
  (try clear hb)
  (try clear hb2)
  (try clear hk)
  (try clear hi)
  (try clear ho0)
  (try clear ho1)
  obtain ⟨Ao51, co51, eo51⟩ := Kd.R_slice HO513.out
  (first | subst eo51 | (injection eo51 with f1_ f2_ f3_; have f4_ := f1_.symm; have f5_ := f3_.symm; clear f1_ f2_ f3_; subst f4_; subst f5_))
  obtain ⟨Ao52, co52, eo52⟩ := Kd.R_slice HO516.out
  (first | subst eo52 | (injection eo52 with f1_ f2_ f3_; have f4_ := f1_.symm; have f5_ := f3_.symm; clear f1_ f2_ f3_; subst f4_; subst f5_))
  refine hK.out _ _ ⟨(qC BK506.out 0).trans rfl, (qC BK506.out 1).trans rfl, (qC BK487.out 0).trans rfl, (qC BK487.out 1).trans rfl⟩ (fun hHeld => ?_)
  clear hK K
  refine norm_ (a' := ?_) ?_ ?_
  rotate_left
  · show Act.put _ (some 37) _ = _
    simp only [Act.put, List.setIfInBounds_toArray, List.set_cons_zero, List.set_cons_succ, i64_w, i32_w]
    rfl
  refine one_ (i := 3) (N := some 38) #[true, true, true, true, false] rfl rfl (by kernel_rfl) (by decide) (fun K hK => ?_)
  refine goes_ Try.func18 (by kernel_rfl) rfl #[.agg #[.slice Ao41 t500.length co41, .slice Ao44 t503.length co44], .agg #[.slice Ao51 t511.length co51, .slice Ao52 t514.length co52]] (by rfl) rfl rfl (by (try simp only [List.map_toArray, List.map_cons, List.map_nil]); first | done | rfl | (simp only [List.length_drop, List.length_take]; rfl)) ?_
  with_reducible refine (laws_eqSheet.calls k _ _ t500 _ _ t503 _ _ t511 _ _ t514 true _ ?side1 ?side2 ?side3 ?side4 ?side5 ?side6 ?side7 ?side8 A22.out).mono ?_
  (case side1 => repeat (first | exact (Kd.R_reads' HO502.out).2.2 | (with_reducible refine qc ?_ _) | (with_reducible refine qe ?_ _) | (with_reducible refine qf ?_)))
  (case side2 => exact (Kd.R_reads' HO502.out).2.1)
  (case side3 => repeat (first | exact (Kd.R_reads' HO505.out).2.2 | (with_reducible refine qc ?_ _) | (with_reducible refine qe ?_ _) | (with_reducible refine qf ?_)))
  (case side4 => exact (Kd.R_reads' HO505.out).2.1)
  (case side5 => repeat (first | exact (Kd.R_reads' HO513.out).2.2 | (with_reducible refine qc ?_ _) | (with_reducible refine qe ?_ _) | (with_reducible refine qf ?_)))
  (case side6 => exact (Kd.R_reads' HO513.out).2.1)
  (case side7 => repeat (first | exact (Kd.R_reads' HO516.out).2.2 | (with_reducible refine qc ?_ _) | (with_reducible refine qe ?_ _) | (with_reducible refine qf ?_)))
  (case side8 => exact (Kd.R_reads' HO516.out).2.1)
  rintro e w53 ⟨rfl, hb⟩
  refine ⟨_, rfl, ?_⟩
  have n0_ := qM (Kd.R_below (by (with_reducible repeat (first | apply Kd.R_alloc | apply Kd.R_drewN | apply Kd.R_drew)); exact HO492.out) hb)
  have n1_ := qM (Kd.R_below (by (with_reducible repeat (first | apply Kd.R_alloc | apply Kd.R_drewN | apply Kd.R_drew)); exact HO495.out) hb)
  have n2_ := qM (Kd.S_below (by (with_reducible repeat (first | apply Kd.S_alloc | apply Kd.S_drewN | apply Kd.S_drew)); exact HO498.out) hb)
  have n3_ := qM (Kd.R_below (by (with_reducible repeat (first | apply Kd.R_alloc | apply Kd.R_drewN | apply Kd.R_drew)); exact HO502.out) hb)
  have n4_ := qM (Kd.R_below (by (with_reducible repeat (first | apply Kd.R_alloc | apply Kd.R_drewN | apply Kd.R_drew)); exact HO505.out) hb)
  have n5_ := qM (Kd.S_below (by (with_reducible repeat (first | apply Kd.S_alloc | apply Kd.S_drewN | apply Kd.S_drew)); exact HO509.out) hb)
  have n6_ := qM (Kd.R_below (by (with_reducible repeat (first | apply Kd.R_alloc | apply Kd.R_drewN | apply Kd.R_drew)); exact HO513.out) hb)
  have n7_ := qM (Kd.R_below (by (with_reducible repeat (first | apply Kd.R_alloc | apply Kd.R_drewN | apply Kd.R_drew)); exact HO516.out) hb)
  have n8_ := qM (blk_below (g := gb487) (o := .cells #[.slice A0_0 l0_0.length c0_0, .slice A0_1 l0_1.length c0_1] 25 (0, 0)) (by (with_reducible repeat (first | refine qn ?_ _ | refine qd ?_ | refine qa ?_ _)); exact BK487.out) hb)
  have n9_ := qM (blk_below (g := gb506) (o := .cells #[.slice Ao41 t500.length co41, .slice Ao44 t503.length co44] 30 (0, 0)) (by (with_reducible repeat (first | refine qn ?_ _ | refine qd ?_ | refine qa ?_ _)); exact BK506.out) hb)
  have n10_ := qM (qs (by repeat (first | (with_reducible first | exact HB.out | apply qA | apply qN | apply qD | refine qS ?_ GE487.out | refine qS ?_ GE506.out) | exact HB.out)) hb)
  clear HO492
  clear HO495
  clear HO498
  clear HO502
  clear HO505
  clear HO509
  clear HO513
  clear HO516
  clear BK487
  clear BK506
  clear HB
  have HO492 := n0_
  have HO495 := n1_
  have HO498 := n2_
  have HO502 := n3_
  have HO505 := n4_
  have HO509 := n5_
  have HO513 := n6_
  have HO516 := n7_
  have BK487 := n8_
  have BK506 := n9_
  have HB := n10_
  clear n0_ n1_ n2_ n3_ n4_ n5_ n6_ n7_ n8_ n9_ n10_
  (try clear hb)
  (try clear hb2)
  (try clear hk)
  (try clear hi)
  refine hK.out _ _ ⟨(qC BK506.out 0).trans rfl, (qC BK506.out 1).trans rfl, (qC BK487.out 0).trans rfl, (qC BK487.out 1).trans rfl⟩ (fun hHeld => ?_)
  clear hK K
  refine norm_ (a' := ?_) ?_ ?_
  rotate_left
  · show Act.put _ (some 38) _ = _
    simp only [Act.put, List.setIfInBounds_toArray, List.set_cons_zero, List.set_cons_succ, i64_w, i32_w]
    rfl
  refine pure_ (i := 4) (N := some 39) (v := ?_) (a' := ?_) #[true, true, true, true, true] rfl rfl (by kernel_rfl) (fun _ _ _ h => h) (Or.inl ⟨by rfl, ?_⟩) ?_ ?_
  rotate_left
  · intro w'
    go_simp
    with_reducible rfl
  rotate_left
  · simp only [Act.put, List.setIfInBounds_toArray, List.set_cons_zero, List.set_cons_succ, i64_w, i32_w]
    rfl
  refine done_ (by kernel_rfl) ?_
  try go_wp2_with (first | ((with_reducible refine gate_callee (f := 33) rfl ?_); refine goesL_ (some 42) rfl rfl Try.func33 (by kernel_rfl) rfl #[.slice A1 l1.length c1] rfl (by (try simp only [List.map_toArray, List.map_cons, List.map_nil]); first | done | rfl | (simp only [List.length_drop, List.length_take]; rfl)) ?_; (with_reducible refine (laws_toSharedS.calls k _ _ l1 t518 _ ?side1 ?side2 A24.out).mono ?_); (case side1 => repeat (first | exact (qB HR1.out HB.out) | (with_reducible refine qc ?_ _) | (with_reducible refine qe ?_ _) | (with_reducible refine qf ?_))); (case side2 => exact HC1.out); rintro e w54 ⟨v519, rfl, ho0, hb⟩; refine ⟨_, rfl, ?_⟩; have n0_ := qM (Kd.R_below (by (with_reducible repeat (first | apply Kd.R_alloc | apply Kd.R_drewN | apply Kd.R_drew)); exact HO492.out) hb); have n1_ := qM (Kd.R_below (by (with_reducible repeat (first | apply Kd.R_alloc | apply Kd.R_drewN | apply Kd.R_drew)); exact HO495.out) hb); have n2_ := qM (Kd.S_elder' (by (with_reducible repeat (first | apply Kd.S_alloc | apply Kd.S_drewN | apply Kd.S_drew)); exact HO498.out) (Kd.S_base ho0) hb); have n3_ := qM (Kd.R_below (by (with_reducible repeat (first | apply Kd.R_alloc | apply Kd.R_drewN | apply Kd.R_drew)); exact HO502.out) hb); have n4_ := qM (Kd.R_below (by (with_reducible repeat (first | apply Kd.R_alloc | apply Kd.R_drewN | apply Kd.R_drew)); exact HO505.out) hb); have n5_ := qM (Kd.S_elder' (by (with_reducible repeat (first | apply Kd.S_alloc | apply Kd.S_drewN | apply Kd.S_drew)); exact HO509.out) (Kd.S_base ho0) hb); have n6_ := qM (Kd.R_below (by (with_reducible repeat (first | apply Kd.R_alloc | apply Kd.R_drewN | apply Kd.R_drew)); exact HO513.out) hb); have n7_ := qM (Kd.R_below (by (with_reducible repeat (first | apply Kd.R_alloc | apply Kd.R_drewN | apply Kd.R_drew)); exact HO516.out) hb); have n8_ := qM (Kd.S_lower (Kd.S_new' (Kd.S_new' ho0 (Kd.S_lt (by (with_reducible repeat (first | apply Kd.S_alloc | apply Kd.S_drewN | apply Kd.S_drew)); exact HO498.out))) (Kd.S_lt (by (with_reducible repeat (first | apply Kd.S_alloc | apply Kd.S_drewN | apply Kd.S_drew)); exact HO509.out))) (qz (by repeat (first | (with_reducible first | exact HB.out | apply qA | apply qN | apply qD | refine qS ?_ GE487.out | refine qS ?_ GE506.out) | exact HB.out)))); have n9_ := qM (blk_below (g := gb487) (o := .cells #[.slice A0_0 l0_0.length c0_0, .slice A0_1 l0_1.length c0_1] 25 (0, 0)) (by (with_reducible repeat (first | refine qn ?_ _ | refine qd ?_ | refine qa ?_ _)); exact BK487.out) hb); have n10_ := qM (blk_below (g := gb506) (o := .cells #[.slice Ao41 t500.length co41, .slice Ao44 t503.length co44] 30 (0, 0)) (by (with_reducible repeat (first | refine qn ?_ _ | refine qd ?_ | refine qa ?_ _)); exact BK506.out) hb); have n11_ := qM (qs (by repeat (first | (with_reducible first | exact HB.out | apply qA | apply qN | apply qD | refine qS ?_ GE487.out | refine qS ?_ GE506.out) | exact HB.out)) hb); clear HO492; clear HO495; clear HO498; clear HO502; clear HO505; clear HO509; clear HO513; clear HO516; clear BK487; clear BK506; clear HB; have HO492 := n0_; have HO495 := n1_; have HO498 := n2_; have HO502 := n3_; have HO505 := n4_; have HO509 := n5_; have HO513 := n6_; have HO516 := n7_; have HO520 := n8_; have BK487 := n9_; have BK506 := n10_; have HB := n11_; clear n0_ n1_ n2_ n3_ n4_ n5_ n6_ n7_ n8_ n9_ n10_ n11_; (try clear hb); (try clear hb2); (try clear hk); (try clear hi); (try clear ho0); obtain ⟨Ao55, co55, eo55⟩ := Kd.S_slice HO520.out; subst eo55) | ((with_reducible refine gate_callee (f := 35) rfl ?_); refine goesL_ (some 43) rfl rfl Try.func35 (by kernel_rfl) rfl #[.slice Ao47 t507.length co47, .slice Ao55 t518.length co55] rfl (by (try simp only [List.map_toArray, List.map_cons, List.map_nil]); first | done | rfl | (simp only [List.length_drop, List.length_take]; rfl)) ?_; (with_reducible refine (laws_eqSharedS.calls k _ _ t507 _ _ t518 true _ ?side1 ?side2 ?side3 ?side4 A25.out).mono ?_); (case side1 => repeat (first | exact (Kd.S_reads' HO509.out).2.2 | (with_reducible refine qc ?_ _) | (with_reducible refine qe ?_ _) | (with_reducible refine qf ?_))); (case side2 => exact (Kd.S_reads' HO509.out).2.1); (case side3 => repeat (first | exact (Kd.S_reads' HO520.out).2.2 | (with_reducible refine qc ?_ _) | (with_reducible refine qe ?_ _) | (with_reducible refine qf ?_))); (case side4 => exact (Kd.S_reads' HO520.out).2.1); rintro e w56 ⟨rfl, hb⟩; refine ⟨_, rfl, ?_⟩; have n0_ := qM (Kd.R_below (by (with_reducible repeat (first | apply Kd.R_alloc | apply Kd.R_drewN | apply Kd.R_drew)); exact HO492.out) hb); have n1_ := qM (Kd.R_below (by (with_reducible repeat (first | apply Kd.R_alloc | apply Kd.R_drewN | apply Kd.R_drew)); exact HO495.out) hb); have n2_ := qM (Kd.S_below (by (with_reducible repeat (first | apply Kd.S_alloc | apply Kd.S_drewN | apply Kd.S_drew)); exact HO498.out) hb); have n3_ := qM (Kd.R_below (by (with_reducible repeat (first | apply Kd.R_alloc | apply Kd.R_drewN | apply Kd.R_drew)); exact HO502.out) hb); have n4_ := qM (Kd.R_below (by (with_reducible repeat (first | apply Kd.R_alloc | apply Kd.R_drewN | apply Kd.R_drew)); exact HO505.out) hb); have n5_ := qM (Kd.S_below (by (with_reducible repeat (first | apply Kd.S_alloc | apply Kd.S_drewN | apply Kd.S_drew)); exact HO509.out) hb); have n6_ := qM (Kd.R_below (by (with_reducible repeat (first | apply Kd.R_alloc | apply Kd.R_drewN | apply Kd.R_drew)); exact HO513.out) hb); have n7_ := qM (Kd.R_below (by (with_reducible repeat (first | apply Kd.R_alloc | apply Kd.R_drewN | apply Kd.R_drew)); exact HO516.out) hb); have n8_ := qM (Kd.S_below (by (with_reducible repeat (first | apply Kd.S_alloc | apply Kd.S_drewN | apply Kd.S_drew)); exact HO520.out) hb); have n9_ := qM (blk_below (g := gb487) (o := .cells #[.slice A0_0 l0_0.length c0_0, .slice A0_1 l0_1.length c0_1] 25 (0, 0)) (by (with_reducible repeat (first | refine qn ?_ _ | refine qd ?_ | refine qa ?_ _)); exact BK487.out) hb); have n10_ := qM (blk_below (g := gb506) (o := .cells #[.slice Ao41 t500.length co41, .slice Ao44 t503.length co44] 30 (0, 0)) (by (with_reducible repeat (first | refine qn ?_ _ | refine qd ?_ | refine qa ?_ _)); exact BK506.out) hb); have n11_ := qM (qs (by repeat (first | (with_reducible first | exact HB.out | apply qA | apply qN | apply qD | refine qS ?_ GE487.out | refine qS ?_ GE506.out) | exact HB.out)) hb); clear HO492; clear HO495; clear HO498; clear HO502; clear HO505; clear HO509; clear HO513; clear HO516; clear HO520; clear BK487; clear BK506; clear HB; have HO492 := n0_; have HO495 := n1_; have HO498 := n2_; have HO502 := n3_; have HO505 := n4_; have HO509 := n5_; have HO513 := n6_; have HO516 := n7_; have HO520 := n8_; have BK487 := n9_; have BK506 := n10_; have HB := n11_; clear n0_ n1_ n2_ n3_ n4_ n5_ n6_ n7_ n8_ n9_ n10_ n11_; (try clear hb); (try clear hb2); (try clear hk); (try clear hi)))
  go_ret
  exact ⟨by first | rfl | (simp [errW_none, errW_some] <;> rfl) | (simp [*, errW_none, errW_some] <;> rfl), by repeat (first | (with_reducible first | exact HB.out | apply qA | apply qN | apply qD | refine qS ?_ GE487.out | refine qS ?_ GE506.out) | exact HB.out)⟩
end Go.Proofs.Ythfemojaabejiaa.G
end
