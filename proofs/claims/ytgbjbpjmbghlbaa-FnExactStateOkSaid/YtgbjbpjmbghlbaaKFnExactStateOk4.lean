-- Written by pack.py (ours): the claim's texts, cut down to what its theorem reaches.
import Derived.Test.YtgbjbpjmbghlbaaKFnExactStateOk3
section
namespace Go.Proofs.Ytgbjbpjmbghlbaa.G
open Go.RowKit Go.Proofs.YtgbjbpjmbghlbaaW.PrintWords Go.Proofs.YtgbjbpjmbghlbaaW.PrintLast Go.Proofs.YtgbjbpjmbghlbaaW.PrintMore
attribute [local go_sem] max2_int min2_int max_two min_two max_three min_three max_four min_four
set_option linter.unusedVariables false
set_option linter.unusedSimpArgs false
mutual
def spec_l5One.j0 : Nat → Bool → Int → List (S117) → Int → Option (Bool)
  | 0, _, _, _, _ => none
  | k + 1, x19, x504000, x504001, x504002 => if x19 = true then (some false) else (spec_l5One.l0 k 0 x504000 x504001 x504002)
def spec_l5One.l0 : Nat → Int → Int → List (S117) → Int → Option (Bool)
  | 0, _, _, _, _ => none
  | k + 1, x3, x504000, x504001, x504002 => if x3 < (x504001.length : Int) then (if 0 ≤ x3 then ((spec_l6In.f ((rd_T117 x504001 x3).f0) 0 9).bind fun t510 => (if t510 = true then ((spec_l6In.f ((rd_T117 x504001 x3).f1) 0 96).bind fun t512 => (if t512 = true then (spec_l5One.l0 k (wrap64 (x3 + 1)) x504000 x504001 x504002) else (some false))) else (some false))) else (none)) else ((spec_l5Once.f k x504001).bind fun t506 => (some ((t506.length : Int) == (x504001.length : Int))))
end
def spec_l5One.f (k : Nat) (a0_0 : Int) (l0_1 : List (S117)) (a0_2 : Int) : Option (Bool) := if (l0_1.length : Int) > 10 then (spec_l5One.j0 k true a0_0 l0_1 a0_2) else ((spec_l6In.f a0_0 0 9).bind fun t504 => (if t504 = true then ((spec_l6In.f a0_2 0 96).bind fun t505 => (spec_l5One.j0 k (!t505) a0_0 l0_1 a0_2)) else (spec_l5One.j0 k true a0_0 l0_1 a0_2)))
def spec_l5One.T8 : Bool × List (List Nat × List Nat) := (true, [([], []), ([0], [0]), ([1], [1]), ([2], [2]), ([], []), ([4], [4]), ([5], [5]), ([3, 6], [3, 6]), ([7, 2, 0, 1, 2, 3, 4, 5, 6, 7], [7])])
def spec_l5One.B8 : List Nat := [0, 1, 3, 7, 0, 16, 48, 127, 255]
theorem spec_l5One.tab8 : rtab .any (opsOf Try.f108 8) = spec_l5One.T8 := by kernel_rfl
theorem spec_l5One.bits8 : waitsOk spec_l5One.T8.2 spec_l5One.B8 = true := by kernel_rfl
set_option maxHeartbeats 8000000 in
set_option maxRecDepth 100000 in
theorem spec_l5One.calls (k : Nat) (a0_0 : Int) (A0_1 : Option Addr) (c0_1 : Nat) (l0_1 : List (S117)) (a0_2 : Int) (r : Bool) (w : World) (hr0_1 : Kd.C k117 w A0_1 l0_1.length l0_1) (hc0_1 : l0_1.length ≤ c0_1) (h : spec_l5One.f k a0_0 l0_1 a0_2 = some r) :
    Calls Try.prog 108 #[.agg #[.int .i64 a0_0, .slice A0_1 l0_1.length c0_1, .int .i64 a0_2]] w fun e w' => e = .returned (.bool r) ∧ Below w.heap.size w w' := by
  have hu87 := Try.underlying87
  have HR0_1 := qM hr0_1
  have HC0_1 := qM hc0_1
  clear hr0_1 hc0_1
  have HB := qM (Below.refl w.heap.size w)
  have H : (if (l0_1.length : Int) > 10 then (spec_l5One.j0 k true a0_0 l0_1 a0_2) else ((spec_l6In.f a0_0 0 9).bind fun t504 => (if t504 = true then ((spec_l6In.f a0_2 0 96).bind fun t505 => (spec_l5One.j0 k (!t505) a0_0 l0_1 a0_2)) else (spec_l5One.j0 k true a0_0 l0_1 a0_2)))) = some r := h
  clear h
  have HC2 := qM H
  clear H
  go_enter Try.func108, Try.ntmps108
  go_upto_region 1 with (first | ((with_reducible refine gate_dst (N := 1) rfl ?_); refine box_event ?hg (N := 1) ?hd (cs := #[.int .i64 a0_0, .slice A0_1 l0_1.length c0_1, .int .i64 a0_2]) (t := 87) ?hr ?_; (case hd => rfl); (case hg => rfl); (case hr => first | (go_simp; done) | (go_simp; rfl)); intro gb503 hg w3 hbox hb; have n0_ := qM (qs (by repeat (first | (with_reducible first | exact HB.out | apply qA | apply qN | apply qD) | exact HB.out)) hb); have n1_ := qM (hbox); have n2_ := qM ((by rw [hg]; exact (qz (by repeat (first | (with_reducible first | exact HB.out | apply qA | apply qN | apply qD) | exact HB.out))) : w.heap.size ≤ gb503)); have n3_ := qM ((by rw [hg]; exact (qz (by repeat (first | (with_reducible first | exact HB.out | apply qA | apply qN | apply qD) | exact HB.out))) : w.heap.size ≤ gb503)); clear HB; have HB := n0_; have BK503 := n1_; have GW503 := n2_; have GE503 := n3_; clear n0_ n1_ n2_ n3_; clear hb hbox hg))
  (try simp only [Act.put, List.setIfInBounds_toArray, List.set_cons_zero, List.set_cons_succ])
  go_cut [19] (fun v19 wc => ∃ (kq : Nat) (x19_1 : Bool), v19 = .bool x19_1 ∧ Aside0 (spec_l5One.j0 kq x19_1 a0_0 l0_1 a0_2 = some r) ∧ Aside0 (kq ≤ k) ∧ Aside0 (wc.heap[gb503]? = some (.cells #[.int .i64 a0_0, (.slice A0_1 l0_1.length c0_1), .int .i64 a0_2] 87 (0, 0))) ∧ Aside0 (Below w.heap.size w wc))
  case first =>
    have H := HC2.out
    clear HC2
    by_cases c4 : (l0_1.length : Int) > 10
    · rw [if_pos c4] at H
      have c4b0 : decide (10 < (l0_1.length : Int)) = true := decide_eq_true c4
      have c4b1 : decide (10 < l0_1.length) = true := decide_eq_true (by omega)
      clear c4
      (first | rw [c4b0] | (simp only [i64_w, i32_w]; rw [c4b0]) | skip)
      have H' := qM H
      clear H
      have hcz5_0 : w3.cell? ⟨gb503, 0, none⟩ = some (.int .i64 a0_0) := (qC BK503.out 0).trans rfl
      have hcz5_1 : w3.cell? ⟨gb503, 1, none⟩ = some (.slice A0_1 l0_1.length c0_1) := (qC BK503.out 1).trans rfl
      have hcz5_2 : w3.cell? ⟨gb503, 2, none⟩ = some (.int .i64 a0_2) := (qC BK503.out 2).trans rfl
      have hfz5_0 := qF BK503.out 0
      have hfz5_1 := qF BK503.out 1
      have hfz5_2 := qF BK503.out 2
      go_wp2
      go_meet
      case rel => exact ⟨_, (true), (by first | rfl | (simp; done) | (simp [*]; done)), H', ⟨by first | omega | exact Nat.le_refl _⟩, ⟨by (with_reducible repeat (first | refine qn ?_ _ | refine qd ?_ | refine qa ?_ _)); exact BK503.out⟩, ⟨by repeat (first | (with_reducible first | exact HB.out | apply qA | apply qN | apply qD | refine qS ?_ GE503.out) | exact HB.out)⟩⟩
    rw [if_neg c4] at H
    have c4b0 : decide (10 < (l0_1.length : Int)) = false := decide_eq_false c4
    have c4b1 : decide (10 < l0_1.length) = false := decide_eq_false (by omega)
    clear c4
    (first | rw [c4b0] | (simp only [i64_w, i32_w]; rw [c4b0]) | skip)
    replace H := Option.bind_eq_some_iff.mp H
    obtain ⟨t504, A60, H⟩ := H
    replace H : (if t504 = true then ((spec_l6In.f a0_2 0 96).bind fun t505 => (spec_l5One.j0 k (!t505) a0_0 l0_1 a0_2)) else (spec_l5One.j0 k true a0_0 l0_1 a0_2)) = some r := H
    have A6 := qM A60
    clear A60
    by_cases c7 : t504 = true
    rotate_left
    · replace c7 := Bool.eq_false_iff.mpr c7
      subst c7
      have H1 : (spec_l5One.j0 k true a0_0 l0_1 a0_2) = some r := by rw [if_neg (show ¬ (false = true) by decide)] at H; exact H
      clear H
      have H := H1
      clear H1
      have H' := qM H
      clear H
      have hcz10_0 : w3.cell? ⟨gb503, 0, none⟩ = some (.int .i64 a0_0) := (qC BK503.out 0).trans rfl
      have hcz10_1 : w3.cell? ⟨gb503, 1, none⟩ = some (.slice A0_1 l0_1.length c0_1) := (qC BK503.out 1).trans rfl
      have hcz10_2 : w3.cell? ⟨gb503, 2, none⟩ = some (.int .i64 a0_2) := (qC BK503.out 2).trans rfl
      have hfz10_0 := qF BK503.out 0
      have hfz10_1 := qF BK503.out 1
      have hfz10_2 := qF BK503.out 2
      go_wp2_with (first | (go_at_call 122; (with_reducible refine (spec_l6In.calls a0_0 0 9 false _ A6.out).mono ?_); rintro e w' ⟨rfl, ⟨nd, rfl⟩⟩))
      go_meet
      case rel => exact ⟨_, (true), (by first | rfl | (simp; done) | (simp [*]; done)), H', ⟨by first | omega | exact Nat.le_refl _⟩, ⟨by (with_reducible repeat (first | refine qn ?_ _ | refine qd ?_ | refine qa ?_ _)); exact BK503.out⟩, ⟨by repeat (first | (with_reducible first | exact HB.out | apply qA | apply qN | apply qD | refine qS ?_ GE503.out) | exact HB.out)⟩⟩
    subst c7
    have H1 : ((spec_l6In.f a0_2 0 96).bind fun t505 => (spec_l5One.j0 k (!t505) a0_0 l0_1 a0_2)) = some r := by rw [if_pos rfl] at H; exact H
    clear H
    have H := H1
    clear H1
    replace H := Option.bind_eq_some_iff.mp H
    obtain ⟨t505, A80, H⟩ := H
    replace H : (spec_l5One.j0 k (!t505) a0_0 l0_1 a0_2) = some r := H
    have A8 := qM A80
    clear A80
    have H' := qM H
    clear H
    have hcz9_0 : w3.cell? ⟨gb503, 0, none⟩ = some (.int .i64 a0_0) := (qC BK503.out 0).trans rfl
    have hcz9_1 : w3.cell? ⟨gb503, 1, none⟩ = some (.slice A0_1 l0_1.length c0_1) := (qC BK503.out 1).trans rfl
    have hcz9_2 : w3.cell? ⟨gb503, 2, none⟩ = some (.int .i64 a0_2) := (qC BK503.out 2).trans rfl
    have hfz9_0 := qF BK503.out 0
    have hfz9_1 := qF BK503.out 1
    have hfz9_2 := qF BK503.out 2
    go_wp2_with (first | (go_at_call 122; (with_reducible refine (spec_l6In.calls a0_0 0 9 true _ A6.out).mono ?_); rintro e w' ⟨rfl, ⟨nd, rfl⟩⟩) | (go_at_call 122; (with_reducible refine (spec_l6In.calls a0_2 0 96 t505 _ A8.out).mono ?_); rintro e w' ⟨rfl, ⟨nd, rfl⟩⟩))
    go_meet
    case rel => exact ⟨_, (!t505), (by first | rfl | (simp; done) | (simp [*]; done)), H', ⟨by first | omega | exact Nat.le_refl _⟩, ⟨by (with_reducible repeat (first | refine qn ?_ _ | refine qd ?_ | refine qa ?_ _)); exact BK503.out⟩, ⟨by repeat (first | (with_reducible first | exact HB.out | apply qA | apply qN | apply qD | refine qS ?_ GE503.out) | exact HB.out)⟩⟩
  case rest =>
    clear HC2
    try clear c1
    try clear p2
    try clear c4
    try clear c4b0
    try clear c4b1
    try clear c7
    try clear c10
    try clear hcz10_0
    try clear hcz10_1
    try clear hcz10_2
    try clear hcz5_0
    try clear hcz5_1
    try clear hcz5_2
    try clear hcz9_0
    try clear hcz9_1
    try clear hcz9_2
    try clear hfz10_0
    try clear hfz10_1
    try clear hfz10_2
    try clear hfz5_0
    try clear hfz5_1
    try clear hfz5_2
    try clear hfz9_0
    try clear hfz9_1
    try clear hfz9_2
    obtain ⟨kq, x19_1, rfl, HA, HJ1, BK503, HB⟩ := hcut
    cases kq with
    | zero => exact absurd HA.out (by simp [spec_l5One.j0])
    | succ kj1 =>
      have H := HA.out
      clear HA
      simp only [spec_l5One.j0] at H
      by_cases c11 : x19_1 = true
      · subst c11
        have H1 : (some false) = some r := by rw [if_pos rfl] at H; exact H
        clear H
        have H := H1
        clear H1
        obtain rfl := Option.some.inj H
        go_wp2
        go_ret
        exact ⟨by first | rfl | (simp [errW_none, errW_some] <;> rfl) | (simp [*, errW_none, errW_some] <;> rfl), by repeat (first | (with_reducible first | exact HB.out | apply qA | apply qN | apply qD | refine qS ?_ GE503.out) | exact HB.out)⟩
      replace c11 := Bool.eq_false_iff.mpr c11
      subst c11
      have H1 : (spec_l5One.l0 kj1 0 a0_0 l0_1 a0_2) = some r := by rw [if_neg (show ¬ (false = true) by decide)] at H; exact H
      clear H
      have H := H1
      clear H1
      have H' := qM H
      clear H
      go_wp2
      go_loopg [3] kj1 (fun kq v3 w' => ∃ (x3_2 : Int), v3 = .int .i64 x3_2 ∧ Aside0 (spec_l5One.l0 kq x3_2 a0_0 l0_1 a0_2 = some r) ∧ Aside0 (kq ≤ kj1) ∧ Aside0 (w'.heap[gb503]? = some (.cells #[.int .i64 a0_0, (.slice A0_1 l0_1.length c0_1), .int .i64 a0_2] 87 (0, 0))) ∧ Aside0 (Below w.heap.size w w'))
      case atStart => exact ⟨(0), (by first | rfl | (simp; done) | (simp [*]; done)), H', ⟨Nat.le_refl _⟩, ⟨by (with_reducible repeat (first | refine qn ?_ _ | refine qd ?_ | refine qa ?_ _)); exact BK503.out⟩, ⟨by repeat (first | (with_reducible first | exact HB.out | apply qA | apply qN | apply qD | refine qS ?_ GE503.out) | exact HB.out)⟩⟩
      case round =>
        clear H'
        try clear c1
        try clear p2
        try clear c4
        try clear c4b0
        try clear c4b1
        try clear c7
        try clear c10
        try clear c11
        try clear hcz10_0
        try clear hcz10_1
        try clear hcz10_2
        try clear hcz5_0
        try clear hcz5_1
        try clear hcz5_2
        try clear hcz9_0
        try clear hcz9_1
        try clear hcz9_2
        try clear hfz10_0
        try clear hfz10_1
        try clear hfz10_2
        try clear hfz5_0
        try clear hfz5_1
        try clear hfz5_2
        try clear hfz9_0
        try clear hfz9_1
        try clear hfz9_2
        try clear p2
        obtain ⟨x3_2, rfl, HA, HK2, BK503, HB⟩ := hrel
        cases gk with
        | zero => exact absurd HA.out (by simp [spec_l5One.l0])
        | succ k2 =>
          have H := HA.out
          clear HA
          simp only [spec_l5One.l0] at H
          by_cases c12 : x3_2 < (l0_1.length : Int)
          · rw [if_pos c12] at H
            have c12b0 : decide (x3_2 < (l0_1.length : Int)) = true := decide_eq_true c12
            clear c12
            by_cases c13 : 0 ≤ x3_2
            rotate_left
            · rw [if_neg c13] at H
              exact absurd H (by simp)
            rw [if_pos c13] at H
            have c13b0 : decide (0 ≤ x3_2) = true := decide_eq_true c13
            clear c13
            replace H := Option.bind_eq_some_iff.mp H
            obtain ⟨t510, A140, H⟩ := H
            replace H : (if t510 = true then ((spec_l6In.f ((rd_T117 l0_1 x3_2).f1) 0 96).bind fun t512 => (if t512 = true then (spec_l5One.l0 k2 (wrap64 (x3_2 + 1)) a0_0 l0_1 a0_2) else (some false))) else (some false)) = some r := H
            have A14 := qM A140
            clear A140
            by_cases c15 : t510 = true
            rotate_left
            · replace c15 := Bool.eq_false_iff.mpr c15
              subst c15
              have H1 : (some false) = some r := by rw [if_neg (show ¬ (false = true) by decide)] at H; exact H
              clear H
              have H := H1
              clear H1
              obtain rfl := Option.some.inj H
              have hcz20_0 : wr.cell? ⟨gb503, 0, none⟩ = some (.int .i64 a0_0) := (qC BK503.out 0).trans rfl
              have hcz20_1 : wr.cell? ⟨gb503, 1, none⟩ = some (.slice A0_1 l0_1.length c0_1) := (qC BK503.out 1).trans rfl
              have hcz20_2 : wr.cell? ⟨gb503, 2, none⟩ = some (.int .i64 a0_2) := (qC BK503.out 2).trans rfl
              have hfz20_0 := qF BK503.out 0
              have hfz20_1 := qF BK503.out 1
              have hfz20_2 := qF BK503.out 2
              have p509 : 0 ≤ (x3_2 : Int) := qO (by first | (with_reducible assumption) | assumption)
              have q509 : x3_2 < (l0_1.length : Int) := qO (by first | (with_reducible assumption) | assumption)
              obtain ⟨ad509, e509, hx509_0, hx509_1⟩ := at_T117 HR0_1.out x3_2 p509 q509
              cases e509
              replace hx509_0 := (HB.out.cell (qL w _ hx509_0)).trans hx509_0
              replace hx509_1 := (HB.out.cell (qL w _ hx509_1)).trans hx509_1
              replace p509 := eq_true p509
              replace q509 := eq_true q509
              go_wp2_with (first | ((with_reducible refine gate_callee (f := 122) rfl ?_); refine goesL_ (some 33) rfl rfl Try.func122 (by kernel_rfl) rfl #[.int .i64 ((rd_T117 l0_1 x3_2).f0), .int .i64 0, .int .i64 9] rfl (by (try simp only [List.map_toArray, List.map_cons, List.map_nil]); first | done | rfl | (simp only [List.length_drop, List.length_take]; rfl)) ?_; (with_reducible refine (spec_l6In.calls ((rd_T117 l0_1 x3_2).f0) 0 9 false _ A14.out).mono ?_); rintro e w' ⟨rfl, ⟨nd, rfl⟩⟩; refine ⟨_, rfl, ?_⟩))
              go_ret
              exact ⟨by first | rfl | (simp [errW_none, errW_some] <;> rfl) | (simp [*, errW_none, errW_some] <;> rfl), by repeat (first | (with_reducible first | exact HB.out | apply qA | apply qN | apply qD | refine qS ?_ GE503.out) | exact HB.out)⟩
            subst c15
            have H1 : ((spec_l6In.f ((rd_T117 l0_1 x3_2).f1) 0 96).bind fun t512 => (if t512 = true then (spec_l5One.l0 k2 (wrap64 (x3_2 + 1)) a0_0 l0_1 a0_2) else (some false))) = some r := by rw [if_pos rfl] at H; exact H
            clear H
            have H := H1
            clear H1
            replace H := Option.bind_eq_some_iff.mp H
            obtain ⟨t512, A160, H⟩ := H
            replace H : (if t512 = true then (spec_l5One.l0 k2 (wrap64 (x3_2 + 1)) a0_0 l0_1 a0_2) else (some false)) = some r := H
            have A16 := qM A160
            clear A160
            by_cases c17 : t512 = true
            rotate_left
            · replace c17 := Bool.eq_false_iff.mpr c17
              subst c17
              have H1 : (some false) = some r := by rw [if_neg (show ¬ (false = true) by decide)] at H; exact H
              clear H
              have H := H1
              clear H1
              obtain rfl := Option.some.inj H
              have hcz19_0 : wr.cell? ⟨gb503, 0, none⟩ = some (.int .i64 a0_0) := (qC BK503.out 0).trans rfl
              have hcz19_1 : wr.cell? ⟨gb503, 1, none⟩ = some (.slice A0_1 l0_1.length c0_1) := (qC BK503.out 1).trans rfl
              have hcz19_2 : wr.cell? ⟨gb503, 2, none⟩ = some (.int .i64 a0_2) := (qC BK503.out 2).trans rfl
              have hfz19_0 := qF BK503.out 0
              have hfz19_1 := qF BK503.out 1
              have hfz19_2 := qF BK503.out 2
              have p509 : 0 ≤ (x3_2 : Int) := qO (by first | (with_reducible assumption) | assumption)
              have q509 : x3_2 < (l0_1.length : Int) := qO (by first | (with_reducible assumption) | assumption)
              obtain ⟨ad509, e509, hx509_0, hx509_1⟩ := at_T117 HR0_1.out x3_2 p509 q509
              cases e509
              replace hx509_0 := (HB.out.cell (qL w _ hx509_0)).trans hx509_0
              replace hx509_1 := (HB.out.cell (qL w _ hx509_1)).trans hx509_1
              replace p509 := eq_true p509
              replace q509 := eq_true q509
              go_wp2_with (first | ((with_reducible refine gate_callee (f := 122) rfl ?_); refine goesL_ (some 33) rfl rfl Try.func122 (by kernel_rfl) rfl #[.int .i64 ((rd_T117 l0_1 x3_2).f0), .int .i64 0, .int .i64 9] rfl (by (try simp only [List.map_toArray, List.map_cons, List.map_nil]); first | done | rfl | (simp only [List.length_drop, List.length_take]; rfl)) ?_; (with_reducible refine (spec_l6In.calls ((rd_T117 l0_1 x3_2).f0) 0 9 true _ A14.out).mono ?_); rintro e w' ⟨rfl, ⟨nd, rfl⟩⟩; refine ⟨_, rfl, ?_⟩; have p511 : 0 ≤ (x3_2 : Int) := qO (by first | (with_reducible assumption) | assumption); have q511 : x3_2 < (l0_1.length : Int) := qO (by first | (with_reducible assumption) | assumption); obtain ⟨ad511, e511, hx511_0, hx511_1⟩ := at_T117 HR0_1.out x3_2 p511 q511; obtain rfl : ad509 = ad511 := (by injection e511); replace hx511_0 := (HB.out.cell (qL w _ hx511_0)).trans hx511_0; replace hx511_1 := (HB.out.cell (qL w _ hx511_1)).trans hx511_1; replace p511 := eq_true p511; replace q511 := eq_true q511) | (go_at_call 122; (with_reducible refine (spec_l6In.calls ((rd_T117 l0_1 x3_2).f1) 0 96 false _ A16.out).mono ?_); rintro e w' ⟨rfl, ⟨nd, rfl⟩⟩))
              go_ret
              exact ⟨by first | rfl | (simp [errW_none, errW_some] <;> rfl) | (simp [*, errW_none, errW_some] <;> rfl), by repeat (first | (with_reducible first | exact HB.out | apply qA | apply qN | apply qD | refine qS ?_ GE503.out) | exact HB.out)⟩
            subst c17
            have H1 : (spec_l5One.l0 k2 (wrap64 (x3_2 + 1)) a0_0 l0_1 a0_2) = some r := by rw [if_pos rfl] at H; exact H
            clear H
            have H := H1
            clear H1
            have H' := qM H
            clear H
            have hcz18_0 : wr.cell? ⟨gb503, 0, none⟩ = some (.int .i64 a0_0) := (qC BK503.out 0).trans rfl
            have hcz18_1 : wr.cell? ⟨gb503, 1, none⟩ = some (.slice A0_1 l0_1.length c0_1) := (qC BK503.out 1).trans rfl
            have hcz18_2 : wr.cell? ⟨gb503, 2, none⟩ = some (.int .i64 a0_2) := (qC BK503.out 2).trans rfl
            have hfz18_0 := qF BK503.out 0
            have hfz18_1 := qF BK503.out 1
            have hfz18_2 := qF BK503.out 2
            have p509 : 0 ≤ (x3_2 : Int) := qO (by first | (with_reducible assumption) | assumption)
            have q509 : x3_2 < (l0_1.length : Int) := qO (by first | (with_reducible assumption) | assumption)
            obtain ⟨ad509, e509, hx509_0, hx509_1⟩ := at_T117 HR0_1.out x3_2 p509 q509
            cases e509
            replace hx509_0 := (HB.out.cell (qL w _ hx509_0)).trans hx509_0
            replace hx509_1 := (HB.out.cell (qL w _ hx509_1)).trans hx509_1
            replace p509 := eq_true p509
            replace q509 := eq_true q509
            go_wp2_with (first | ((with_reducible refine gate_callee (f := 122) rfl ?_); refine goesL_ (some 33) rfl rfl Try.func122 (by kernel_rfl) rfl #[.int .i64 ((rd_T117 l0_1 x3_2).f0), .int .i64 0, .int .i64 9] rfl (by (try simp only [List.map_toArray, List.map_cons, List.map_nil]); first | done | rfl | (simp only [List.length_drop, List.length_take]; rfl)) ?_; (with_reducible refine (spec_l6In.calls ((rd_T117 l0_1 x3_2).f0) 0 9 true _ A14.out).mono ?_); rintro e w' ⟨rfl, ⟨nd, rfl⟩⟩; refine ⟨_, rfl, ?_⟩; have p511 : 0 ≤ (x3_2 : Int) := qO (by first | (with_reducible assumption) | assumption); have q511 : x3_2 < (l0_1.length : Int) := qO (by first | (with_reducible assumption) | assumption); obtain ⟨ad511, e511, hx511_0, hx511_1⟩ := at_T117 HR0_1.out x3_2 p511 q511; obtain rfl : ad509 = ad511 := (by injection e511); replace hx511_0 := (HB.out.cell (qL w _ hx511_0)).trans hx511_0; replace hx511_1 := (HB.out.cell (qL w _ hx511_1)).trans hx511_1; replace p511 := eq_true p511; replace q511 := eq_true q511) | (go_at_call 122; (with_reducible refine (spec_l6In.calls ((rd_T117 l0_1 x3_2).f1) 0 96 true _ A16.out).mono ?_); rintro e w' ⟨rfl, ⟨nd, rfl⟩⟩))
            go_roundg k2
            case measure => have := HJ1.out; have := HK2.out; omega
            case rel => exact ⟨(wrap64 (x3_2 + 1)), (by first | rfl | (simp; done) | (simp [*]; done)), H', ⟨by have := HJ1.out; have := HK2.out; omega⟩, ⟨by (with_reducible repeat (first | refine qn ?_ _ | refine qd ?_ | refine qa ?_ _)); exact BK503.out⟩, ⟨by repeat (first | (with_reducible first | exact HB.out | apply qA | apply qN | apply qD | refine qS ?_ GE503.out) | exact HB.out)⟩⟩
          rw [if_neg c12] at H
          have c12b0 : decide (x3_2 < (l0_1.length : Int)) = false := decide_eq_false c12
          clear c12
          replace H := Option.bind_eq_some_iff.mp H
          obtain ⟨t506, A210, H⟩ := H
          replace H : (some ((t506.length : Int) == (l0_1.length : Int))) = some r := H
          have A21 := qM A210
          clear A210
          obtain rfl := Option.some.inj H
          have hcz22_0 : wr.cell? ⟨gb503, 0, none⟩ = some (.int .i64 a0_0) := (qC BK503.out 0).trans rfl
          have hcz22_1 : wr.cell? ⟨gb503, 1, none⟩ = some (.slice A0_1 l0_1.length c0_1) := (qC BK503.out 1).trans rfl
          have hcz22_2 : wr.cell? ⟨gb503, 2, none⟩ = some (.int .i64 a0_2) := (qC BK503.out 2).trans rfl
          have hfz22_0 := qF BK503.out 0
          have hfz22_1 := qF BK503.out 1
          have hfz22_2 := qF BK503.out 2
          try go_wp2
          have n0_ := qM (qd BK503.out)
          have n1_ := qM (qD HB.out)
          clear BK503
          clear HB
          have BK503 := n0_
          have HB := n1_
          clear n0_ n1_
          refine start_ (n := 9) (S := fun w' => w'.cell? ⟨gb503, 0, none⟩ = some (.int .i64 a0_0) ∧ w'.cell? ⟨gb503, 1, none⟩ = some (.slice A0_1 l0_1.length c0_1) ∧ w'.cell? ⟨gb503, 2, none⟩ = some (.int .i64 a0_2)) (ds := []) #[false, false, false, false, false, false, false, false, false] (by kernel_rfl) rfl rfl ⟨(qC BK503.out 0).trans rfl, (qC BK503.out 1).trans rfl, (qC BK503.out 2).trans rfl⟩ (fun hHeld => ?_); refine with_tabW spec_l5One.tab8 spec_l5One.bits8 (fun HT_ HW_ => ?_)
          generalize wr.drew = w23 at BK503 HB hHeld ⊢
          refine pure_ (i := 0) (N := some 45) (v := ?_) (a' := ?_) #[true, false, false, false, false, false, false, false, false] rfl rfl (any_of HT_.out (by kernel_rfl)) (fun _ _ _ h => h) (Or.inl ⟨by rfl, ?_⟩) ?_ ?_
          rotate_left
          · intro w'
            go_simp
            with_reducible rfl
          rotate_left
          · simp only [Act.put, List.setIfInBounds_toArray, List.set_cons_zero, List.set_cons_succ, i64_w, i32_w]
            rfl
          refine pure_ (i := 4) (N := some 49) (v := ?_) (a' := ?_) #[true, false, false, false, true, false, false, false, false] rfl rfl (any_of HT_.out (by kernel_rfl)) (fun _ _ _ h => h) (Or.inl ⟨by rfl, ?_⟩) ?_ ?_
          rotate_left
          · intro w'
            go_simp
            with_reducible rfl
          rotate_left
          · simp only [Act.put, List.setIfInBounds_toArray, List.set_cons_zero, List.set_cons_succ, i64_w, i32_w]
            rfl
          refine take_ (i := 1) (N := some 46) (v := ?_) (a' := ?_) #[true, true, false, false, true, false, false, false, false] rfl rfl (take_ofW HT_.out HW_.out (by kernel_rfl)) (fun _ _ _ h => h) (Or.inl ⟨by rfl, ?_⟩) hHeld ?_ ?_
          rotate_left
          · rintro w' ⟨s0, s1, s2⟩
            go_simp
            with_reducible rfl
          rotate_left
          · simp only [Act.put, List.setIfInBounds_toArray, List.set_cons_zero, List.set_cons_succ, i64_w, i32_w]
            rfl
          refine take_ (i := 5) (N := some 50) (v := ?_) (a' := ?_) #[true, true, false, false, true, true, false, false, false] rfl rfl (take_ofW HT_.out HW_.out (by kernel_rfl)) (fun _ _ _ h => h) (Or.inl ⟨by rfl, ?_⟩) hHeld ?_ ?_
          rotate_left
          · rintro w' ⟨s0, s1, s2⟩
            go_simp
            with_reducible rfl
          rotate_left
          · simp only [Act.put, List.setIfInBounds_toArray, List.set_cons_zero, List.set_cons_succ, i64_w, i32_w]
            rfl
          refine pure_ (i := 6) (N := some 51) (v := ?_) (a' := ?_) #[true, true, false, false, true, true, true, false, false] rfl rfl (any_of HT_.out (by kernel_rfl)) (fun _ _ _ h => h) (Or.inl ⟨by rfl, ?_⟩) ?_ ?_
          rotate_left
          · intro w'
            go_simp
            with_reducible rfl
          rotate_left
          · simp only [Act.put, List.setIfInBounds_toArray, List.set_cons_zero, List.set_cons_succ, i64_w, i32_w]
            rfl
          refine one_ (i := 2) (N := some 47) #[true, true, true, false, true, true, true, false, false] rfl rfl (one_of HT_.out (by kernel_rfl)) (by decide) (fun K hK => ?_)
          refine goes_ Try.func147 (by kernel_rfl) rfl #[.slice A0_1 l0_1.length c0_1] (by rfl) rfl rfl (by (try simp only [List.map_toArray, List.map_cons, List.map_nil]); first | done | rfl | (simp only [List.length_drop, List.length_take]; rfl)) ?_
          with_reducible refine (spec_l5Once.calls k2 _ _ l0_1 t506 _ ?side1 ?side2 A21.out).mono ?_
          (case side1 => repeat (first | exact (qB HR0_1.out HB.out) | (with_reducible refine qc ?_ _) | (with_reducible refine qe ?_ _) | (with_reducible refine qf ?_)))
          (case side2 => exact HC0_1.out)
          rintro e w24 ⟨v507, rfl, ho0, hb⟩
          refine ⟨_, rfl, ?_⟩
          have n0_ := qM (Kd.R_lower ho0 (qz (by repeat (first | (with_reducible first | exact HB.out | apply qA | apply qN | apply qD | refine qS ?_ GE503.out) | exact HB.out))))
          have n1_ := qM (blk_below (g := gb503) (o := .cells #[.int .i64 a0_0, .slice A0_1 l0_1.length c0_1, .int .i64 a0_2] 87 (0, 0)) (by (with_reducible repeat (first | refine qn ?_ _ | refine qd ?_ | refine qa ?_ _)); exact BK503.out) hb)
          have n2_ := qM (qs (by repeat (first | (with_reducible first | exact HB.out | apply qA | apply qN | apply qD | refine qS ?_ GE503.out) | exact HB.out)) hb)
          clear BK503
          clear HB
          have HO508 := n0_
          have BK503 := n1_
          have HB := n2_
          clear n0_ n1_ n2_
          (try clear hb)
          (try clear hb2)
          (try clear hk)
          (try clear hi)
          (try clear ho0)
          obtain ⟨Ao25, co25, eo25⟩ := Kd.R_slice HO508.out
          (first | subst eo25 | (injection eo25 with f1_ f2_ f3_; have f4_ := f1_.symm; have f5_ := f3_.symm; clear f1_ f2_ f3_; subst f4_; subst f5_))
          refine hK.out _ _ ⟨(qC BK503.out 0).trans rfl, (qC BK503.out 1).trans rfl, (qC BK503.out 2).trans rfl⟩ (fun hHeld => ?_)
          clear hK K
          refine norm_ (a' := ?_) ?_ ?_
          rotate_left
          · show Act.put _ (some 47) _ = _
            simp only [Act.put, List.setIfInBounds_toArray, List.set_cons_zero, List.set_cons_succ, i64_w, i32_w]
            rfl
          refine pure_ (i := 3) (N := some 48) (v := ?_) (a' := ?_) #[true, true, true, true, true, true, true, false, false] rfl rfl (any_of HT_.out (by kernel_rfl)) (fun _ _ _ h => h) (Or.inl ⟨by rfl, ?_⟩) ?_ ?_
          rotate_left
          · intro w'
            go_simp
            with_reducible rfl
          rotate_left
          · simp only [Act.put, List.setIfInBounds_toArray, List.set_cons_zero, List.set_cons_succ, i64_w, i32_w]
            rfl
          refine pure_ (i := 7) (N := some 52) (v := ?_) (a' := ?_) #[true, true, true, true, true, true, true, true, false] rfl rfl (any_of HT_.out (by kernel_rfl)) (fun _ _ _ h => h) (Or.inl ⟨by rfl, ?_⟩) ?_ ?_
          rotate_left
          · intro w'
            go_simp
            with_reducible rfl
          rotate_left
          · simp only [Act.put, List.setIfInBounds_toArray, List.set_cons_zero, List.set_cons_succ, i64_w, i32_w]
            rfl
          refine pure_ (i := 8) (N := some 2) (v := ?_) (a' := ?_) #[true, true, true, true, true, true, true, true, true] rfl rfl (any_of HT_.out (by kernel_rfl)) (fun _ _ _ h => h) (Or.inl ⟨by rfl, ?_⟩) ?_ ?_
          rotate_left
          · intro w'
            go_simp
            with_reducible rfl
          rotate_left
          · simp only [Act.put, List.setIfInBounds_toArray, List.set_cons_zero, List.set_cons_succ, i64_w, i32_w]
            rfl
          refine done_ (done_of HT_.out (by kernel_rfl)) ?_
          try go_wp2
          go_ret
          exact ⟨by first | rfl | (simp [errW_none, errW_some] <;> rfl) | (simp [*, errW_none, errW_some] <;> rfl), by repeat (first | (with_reducible first | exact HB.out | apply qA | apply qN | apply qD | refine qS ?_ GE503.out) | exact HB.out)⟩
def spec_TracesOk.l0 : Nat → List (S87) → Int → Option (Bool)
  | 0, _, _ => none
  | k + 1, x0, x3 => if x3 < (x0.length : Int) then (if 0 ≤ x3 then ((spec_l5One.f k ((rd_T87 x0 x3).f0) ((rd_T87 x0 x3).f1) ((rd_T87 x0 x3).f2)).bind fun t514 => (if t514 = true then (spec_TracesOk.l0 k x0 (wrap64 (x3 + 1))) else (some false))) else (none)) else (some true)
def spec_TracesOk.f (k : Nat) (l0 : List (S87)) : Option (Bool) := if (l0.length : Int) > 60 then (some false) else (spec_TracesOk.l0 k l0 0)
set_option maxHeartbeats 8000000 in
set_option maxRecDepth 100000 in
theorem spec_TracesOk.calls (k : Nat) (A0 : Option Addr) (c0 : Nat) (l0 : List (S87)) (r : Bool) (w : World) (hr0 : Kd.C k87 w A0 l0.length l0) (hc0 : l0.length ≤ c0) (h : spec_TracesOk.f k l0 = some r) :
    Calls Try.prog 87 #[.slice A0 l0.length c0] w fun e w' => e = .returned (.bool r) ∧ Below w.heap.size w w' := by
  have hu87 := Try.underlying87
  have HR0 := qM hr0
  have HC0 := qM hc0
  clear hr0 hc0
  have HB := qM (Below.refl w.heap.size w)
  have H : (if (l0.length : Int) > 60 then (some false) else (spec_TracesOk.l0 k l0 0)) = some r := h
  clear h
  by_cases c2 : (l0.length : Int) > 60
  · rw [if_pos c2] at H
    have c2b0 : decide (60 < (l0.length : Int)) = true := decide_eq_true c2
    have c2b1 : decide (60 < l0.length) = true := decide_eq_true (by omega)
    clear c2
    obtain rfl := Option.some.inj H
    go_enter Try.func87, Try.ntmps87
    go_wp2
    go_ret
    exact ⟨by first | rfl | (simp [errW_none, errW_some] <;> rfl) | (simp [*, errW_none, errW_some] <;> rfl), by repeat (first | (with_reducible first | exact HB.out | apply qA | apply qN | apply qD) | exact HB.out)⟩
  rw [if_neg c2] at H
  have c2b0 : decide (60 < (l0.length : Int)) = false := decide_eq_false c2
  have c2b1 : decide (60 < l0.length) = false := decide_eq_false (by omega)
  clear c2
  have H' := qM H
  clear H
  go_enter Try.func87, Try.ntmps87
  go_wp2
  go_loopg [3] k (fun kq v3 w' => ∃ (x3_1 : Int), v3 = .int .i64 x3_1 ∧ Aside0 (spec_TracesOk.l0 kq l0 x3_1 = some r) ∧ Aside0 (kq ≤ k) ∧ Aside0 (Below w.heap.size w w'))
  case atStart => exact ⟨(0), (by first | rfl | (simp; done) | (simp [*]; done)), H', ⟨Nat.le_refl _⟩, ⟨by repeat (first | (with_reducible first | exact HB.out | apply qA | apply qN | apply qD) | exact HB.out)⟩⟩
  case round =>
    clear H'
    try clear c2
    try clear c2b0
    try clear c2b1
    try clear p2
    obtain ⟨x3_1, rfl, HA, HK1, HB⟩ := hrel
    cases gk with
    | zero => exact absurd HA.out (by simp [spec_TracesOk.l0])
    | succ k1 =>
      have H := HA.out
      clear HA
      simp only [spec_TracesOk.l0] at H
      by_cases c3 : x3_1 < (l0.length : Int)
      rotate_left
      · rw [if_neg c3] at H
        have c3b0 : decide (x3_1 < (l0.length : Int)) = false := decide_eq_false c3
        clear c3
        obtain rfl := Option.some.inj H
        go_wp2
        go_ret
        exact ⟨by first | rfl | (simp [errW_none, errW_some] <;> rfl) | (simp [*, errW_none, errW_some] <;> rfl), by repeat (first | (with_reducible first | exact HB.out | apply qA | apply qN | apply qD) | exact HB.out)⟩
      rw [if_pos c3] at H
      have c3b0 : decide (x3_1 < (l0.length : Int)) = true := decide_eq_true c3
      clear c3
      by_cases c4 : 0 ≤ x3_1
      rotate_left
      · rw [if_neg c4] at H
        exact absurd H (by simp)
      rw [if_pos c4] at H
      have c4b0 : decide (0 ≤ x3_1) = true := decide_eq_true c4
      clear c4
      replace H := Option.bind_eq_some_iff.mp H
      obtain ⟨t514, A50, H⟩ := H
      replace H : (if t514 = true then (spec_TracesOk.l0 k1 l0 (wrap64 (x3_1 + 1))) else (some false)) = some r := H
      have A5 := qM A50
      clear A50
      by_cases c6 : t514 = true
      rotate_left
      · replace c6 := Bool.eq_false_iff.mpr c6
        subst c6
        have H1 : (some false) = some r := by rw [if_neg (show ¬ (false = true) by decide)] at H; exact H
        clear H
        have H := H1
        clear H1
        obtain rfl := Option.some.inj H
        have p513 : 0 ≤ (x3_1 : Int) := qO (by first | (with_reducible assumption) | assumption)
        have q513 : x3_1 < (l0.length : Int) := qO (by first | (with_reducible assumption) | assumption)
        obtain ⟨ad513, A513_1, c513_1, e513, hx513_0, hx513_1, hx513_2, hl513_1, hi513_1⟩ := at_T87 HR0.out x3_1 p513 q513
        cases e513
        replace hx513_0 := (HB.out.cell (qL w _ hx513_0)).trans hx513_0
        replace hx513_1 := (HB.out.cell (qL w _ hx513_1)).trans hx513_1
        replace hx513_2 := (HB.out.cell (qL w _ hx513_2)).trans hx513_2
        have HR513_1 := qM hi513_1
        have HC513_1 := qM hl513_1
        clear hi513_1 hl513_1
        replace p513 := eq_true p513
        replace q513 := eq_true q513
        go_wp2_with (first | ((with_reducible refine gate_callee (f := 108) rfl ?_); refine goesL_ (some 17) rfl rfl Try.func108 (by kernel_rfl) rfl #[.agg #[.int .i64 ((rd_T87 l0 x3_1).f0), .slice A513_1 ((rd_T87 l0 x3_1).f1).length c513_1, .int .i64 ((rd_T87 l0 x3_1).f2)]] rfl (by (try simp only [List.map_toArray, List.map_cons, List.map_nil]); first | done | rfl | (simp only [List.length_drop, List.length_take]; rfl)) ?_; (with_reducible refine (spec_l5One.calls k1 ((rd_T87 l0 x3_1).f0) _ _ ((rd_T87 l0 x3_1).f1) ((rd_T87 l0 x3_1).f2) false _ ?side1 ?side2 A5.out).mono ?_); (case side1 => repeat (first | exact (qB HR513_1.out HB.out) | (with_reducible refine qc ?_ _) | (with_reducible refine qe ?_ _) | (with_reducible refine qf ?_))); (case side2 => exact HC513_1.out); rintro e w8 ⟨rfl, hb⟩; refine ⟨_, rfl, ?_⟩; have n0_ := qM (qs (by repeat (first | (with_reducible first | exact HB.out | apply qA | apply qN | apply qD) | exact HB.out)) hb); clear HB; have HB := n0_; clear n0_; (try clear hb); (try clear hb2); (try clear hk); (try clear hi)))
        go_ret
        exact ⟨by first | rfl | (simp [errW_none, errW_some] <;> rfl) | (simp [*, errW_none, errW_some] <;> rfl), by repeat (first | (with_reducible first | exact HB.out | apply qA | apply qN | apply qD) | exact HB.out)⟩
      subst c6
      have H1 : (spec_TracesOk.l0 k1 l0 (wrap64 (x3_1 + 1))) = some r := by rw [if_pos rfl] at H; exact H
      clear H
      have H := H1
      clear H1
      have H' := qM H
      clear H
      have p513 : 0 ≤ (x3_1 : Int) := qO (by first | (with_reducible assumption) | assumption)
      have q513 : x3_1 < (l0.length : Int) := qO (by first | (with_reducible assumption) | assumption)
      obtain ⟨ad513, A513_1, c513_1, e513, hx513_0, hx513_1, hx513_2, hl513_1, hi513_1⟩ := at_T87 HR0.out x3_1 p513 q513
      cases e513
      replace hx513_0 := (HB.out.cell (qL w _ hx513_0)).trans hx513_0
      replace hx513_1 := (HB.out.cell (qL w _ hx513_1)).trans hx513_1
      replace hx513_2 := (HB.out.cell (qL w _ hx513_2)).trans hx513_2
      have HR513_1 := qM hi513_1
      have HC513_1 := qM hl513_1
      clear hi513_1 hl513_1
      replace p513 := eq_true p513
      replace q513 := eq_true q513
      go_wp2_with (first | ((with_reducible refine gate_callee (f := 108) rfl ?_); refine goesL_ (some 17) rfl rfl Try.func108 (by kernel_rfl) rfl #[.agg #[.int .i64 ((rd_T87 l0 x3_1).f0), .slice A513_1 ((rd_T87 l0 x3_1).f1).length c513_1, .int .i64 ((rd_T87 l0 x3_1).f2)]] rfl (by (try simp only [List.map_toArray, List.map_cons, List.map_nil]); first | done | rfl | (simp only [List.length_drop, List.length_take]; rfl)) ?_; (with_reducible refine (spec_l5One.calls k1 ((rd_T87 l0 x3_1).f0) _ _ ((rd_T87 l0 x3_1).f1) ((rd_T87 l0 x3_1).f2) true _ ?side1 ?side2 A5.out).mono ?_); (case side1 => repeat (first | exact (qB HR513_1.out HB.out) | (with_reducible refine qc ?_ _) | (with_reducible refine qe ?_ _) | (with_reducible refine qf ?_))); (case side2 => exact HC513_1.out); rintro e w7 ⟨rfl, hb⟩; refine ⟨_, rfl, ?_⟩; have n0_ := qM (qs (by repeat (first | (with_reducible first | exact HB.out | apply qA | apply qN | apply qD) | exact HB.out)) hb); clear HB; have HB := n0_; clear n0_; (try clear hb); (try clear hb2); (try clear hk); (try clear hi)))
      go_roundg k1
      case measure => have := HK1.out; omega
      case rel => exact ⟨(wrap64 (x3_1 + 1)), (by first | rfl | (simp; done) | (simp [*]; done)), H', ⟨by have := HK1.out; omega⟩, ⟨by repeat (first | (with_reducible first | exact HB.out | apply qA | apply qN | apply qD) | exact HB.out)⟩⟩
def spec_l6Kept.f (l0_0 : List Bool) (l0_1 : List (S30)) (l1_0 : List Int) (l1_1 : List Bool) (l1_2 : List Int) (l1_3 : List (S87)) (a2 : Int) : Option (Bool) := if 0 ≤ a2 then (if a2 < (l0_0.length : Int) then (if rdOf false l0_0 a2 = true then (if a2 < (l1_2.length : Int) then (some ((rd l1_2 a2) == 0)) else (none)) else (if a2 < (l1_1.length : Int) then (if rdOf false l1_1 a2 = true then (some false) else (if a2 < (l1_0.length : Int) then (if a2 < (l1_2.length : Int) then (some ((rd l1_0 a2) == (rd l1_2 a2))) else (none)) else (none))) else (none))) else (none)) else (none)
set_option maxHeartbeats 8000000 in
set_option maxRecDepth 100000 in
theorem spec_l6Kept.calls (A0_0 : Option Addr) (c0_0 : Nat) (l0_0 : List Bool) (A0_1 : Option Addr) (c0_1 : Nat) (l0_1 : List (S30)) (A1_0 : Option Addr) (c1_0 : Nat) (l1_0 : List Int) (A1_1 : Option Addr) (c1_1 : Nat) (l1_1 : List Bool) (A1_2 : Option Addr) (c1_2 : Nat) (l1_2 : List Int) (A1_3 : Option Addr) (c1_3 : Nat) (l1_3 : List (S87)) (a2 : Int) (r : Bool) (w : World) (hr0_0 : Kd.C Kd.bool w A0_0 l0_0.length l0_0) (hc0_0 : l0_0.length ≤ c0_0) (hr0_1 : Kd.C k30 w A0_1 l0_1.length l0_1) (hc0_1 : l0_1.length ≤ c0_1) (hr1_0 : Kd.C (Kd.int .i64) w A1_0 l1_0.length l1_0) (hc1_0 : l1_0.length ≤ c1_0) (hr1_1 : Kd.C Kd.bool w A1_1 l1_1.length l1_1) (hc1_1 : l1_1.length ≤ c1_1) (hr1_2 : Kd.C (Kd.int .i64) w A1_2 l1_2.length l1_2) (hc1_2 : l1_2.length ≤ c1_2) (hr1_3 : Kd.C k87 w A1_3 l1_3.length l1_3) (hc1_3 : l1_3.length ≤ c1_3) (h : spec_l6Kept.f l0_0 l0_1 l1_0 l1_1 l1_2 l1_3 a2 = some r) :
    Calls Try.prog 88 #[.agg #[.slice A0_0 l0_0.length c0_0, .slice A0_1 l0_1.length c0_1], .agg #[.slice A1_0 l1_0.length c1_0, .slice A1_1 l1_1.length c1_1, .slice A1_2 l1_2.length c1_2, .slice A1_3 l1_3.length c1_3], .int .i64 a2] w fun e w' => e = .returned (.bool r) ∧ Below w.heap.size w w' := by
  have hu56 := Try.underlying56
  have hu60 := Try.underlying60
  have HR0_0 := qM hr0_0
  have HC0_0 := qM hc0_0
  clear hr0_0 hc0_0
  have HR0_1 := qM hr0_1
  have HC0_1 := qM hc0_1
  clear hr0_1 hc0_1
  have HR1_0 := qM hr1_0
  have HC1_0 := qM hc1_0
  clear hr1_0 hc1_0
  have HR1_1 := qM hr1_1
  have HC1_1 := qM hc1_1
  clear hr1_1 hc1_1
  have HR1_2 := qM hr1_2
  have HC1_2 := qM hc1_2
  clear hr1_2 hc1_2
  have HR1_3 := qM hr1_3
  have HC1_3 := qM hc1_3
  clear hr1_3 hc1_3
  have HB := qM (Below.refl w.heap.size w)
  have H : (if 0 ≤ a2 then (if a2 < (l0_0.length : Int) then (if rdOf false l0_0 a2 = true then (if a2 < (l1_2.length : Int) then (some ((rd l1_2 a2) == 0)) else (none)) else (if a2 < (l1_1.length : Int) then (if rdOf false l1_1 a2 = true then (some false) else (if a2 < (l1_0.length : Int) then (if a2 < (l1_2.length : Int) then (some ((rd l1_0 a2) == (rd l1_2 a2))) else (none)) else (none))) else (none))) else (none)) else (none)) = some r := h
  clear h
  by_cases c4 : 0 ≤ a2
  rotate_left
  · rw [if_neg c4] at H
    exact absurd H (by simp)
  rw [if_pos c4] at H
  have c4b0 : decide (0 ≤ a2) = true := decide_eq_true c4
  clear c4
  by_cases c5 : a2 < (l0_0.length : Int)
  rotate_left
  · rw [if_neg c5] at H
    exact absurd H (by simp)
  rw [if_pos c5] at H
  have c5b0 : decide (a2 < (l0_0.length : Int)) = true := decide_eq_true c5
  clear c5
  obtain ⟨bq6, hbq6⟩ : ∃ b_ : Bool, b_ = (rdOf false l0_0 a2) := ⟨_, rfl⟩
  replace H : (if bq6 = true then (if a2 < (l1_2.length : Int) then (some ((rd l1_2 a2) == 0)) else (none)) else (if a2 < (l1_1.length : Int) then (if rdOf false l1_1 a2 = true then (some false) else (if a2 < (l1_0.length : Int) then (if a2 < (l1_2.length : Int) then (some ((rd l1_0 a2) == (rd l1_2 a2))) else (none)) else (none))) else (none))) = some r := by rw [← hbq6] at H; exact H
  have Nbq6 := qM hbq6
  clear hbq6
  by_cases c7 : bq6 = true
  · subst c7
    have H1 : (if a2 < (l1_2.length : Int) then (some ((rd l1_2 a2) == 0)) else (none)) = some r := by rw [if_pos rfl] at H; exact H
    clear H
    have H := H1
    clear H1
    by_cases c8 : a2 < (l1_2.length : Int)
    rotate_left
    · rw [if_neg c8] at H
      exact absurd H (by simp)
    rw [if_pos c8] at H
    have c8b0 : decide (a2 < (l1_2.length : Int)) = true := decide_eq_true c8
    clear c8
    obtain rfl := Option.some.inj H
    go_enter Try.func88, Try.ntmps88
    go_wp2_with (first | ((with_reducible refine gate_dst (N := 3) rfl ?_); refine box_event ?hg (N := 3) ?hd (cs := #[.slice A0_0 l0_0.length c0_0, .slice A0_1 l0_1.length c0_1]) (t := 56) ?hr ?_; (case hd => rfl); (case hg => rfl); (case hr => first | (go_simp; done) | (go_simp; rfl)); intro gb515 hg w9 hbox hb; have n0_ := qM (qs (by repeat (first | (with_reducible first | exact HB.out | apply qA | apply qN | apply qD) | exact HB.out)) hb); have n1_ := qM (hbox); have n2_ := qM ((by rw [hg]; exact (qz (by repeat (first | (with_reducible first | exact HB.out | apply qA | apply qN | apply qD) | exact HB.out))) : w.heap.size ≤ gb515)); have n3_ := qM ((by rw [hg]; exact (qz (by repeat (first | (with_reducible first | exact HB.out | apply qA | apply qN | apply qD) | exact HB.out))) : w.heap.size ≤ gb515)); clear HB; have HB := n0_; have BK515 := n1_; have GW515 := n2_; have GE515 := n3_; clear n0_ n1_ n2_ n3_; clear hb hbox hg) | ((with_reducible refine gate_dst (N := 4) rfl ?_); refine box_event ?hg (N := 4) ?hd (cs := #[.slice A1_0 l1_0.length c1_0, .slice A1_1 l1_1.length c1_1, .slice A1_2 l1_2.length c1_2, .slice A1_3 l1_3.length c1_3]) (t := 60) ?hr ?_; (case hd => rfl); (case hg => rfl); (case hr => first | (go_simp; done) | (go_simp; rfl)); intro gb516 hg w10 hbox hb; have n0_ := qM (blk_below (g := gb515) (o := .cells #[.slice A0_0 l0_0.length c0_0, .slice A0_1 l0_1.length c0_1] 56 (0, 0)) (by (with_reducible repeat (first | refine qn ?_ _ | refine qd ?_ | refine qa ?_ _)); exact BK515.out) hb); have n1_ := qM (qs (by repeat (first | (with_reducible first | exact HB.out | apply qA | apply qN | apply qD | refine qS ?_ GE515.out) | exact HB.out)) hb); have n2_ := qM (hbox); have n3_ := qM ((by rw [hg]; exact (qz (by repeat (first | (with_reducible first | exact HB.out | apply qA | apply qN | apply qD | refine qS ?_ GE515.out) | exact HB.out))) : w.heap.size ≤ gb516)); have n4_ := qM ((by rw [hg]; exact (qz (by repeat (first | (with_reducible first | exact HB.out | apply qA | apply qN | apply qD | refine qS ?_ GE515.out) | exact HB.out))) : w.heap.size ≤ gb516)); have n5_ := qM ((by rw [hg]; exact Nat.ne_of_lt (blk_lt (g := gb515) (o := .cells #[.slice A0_0 l0_0.length c0_0, .slice A0_1 l0_1.length c0_1] 56 (0, 0)) (by (with_reducible repeat (first | refine qn ?_ _ | refine qd ?_ | refine qa ?_ _)); exact BK515.out)) : gb515 ≠ gb516)); have n6_ := qM ((by rw [hg]; exact Nat.ne_of_gt (blk_lt (g := gb515) (o := .cells #[.slice A0_0 l0_0.length c0_0, .slice A0_1 l0_1.length c0_1] 56 (0, 0)) (by (with_reducible repeat (first | refine qn ?_ _ | refine qd ?_ | refine qa ?_ _)); exact BK515.out)) : gb516 ≠ gb515)); clear BK515; clear HB; have BK515 := n0_; have HB := n1_; have BK516 := n2_; have GW516 := n3_; have GE516 := n4_; have NB515_516 := n5_; have NB516_515 := n6_; clear n0_ n1_ n2_ n3_ n4_ n5_ n6_; clear hb hbox hg; have hnb11 := NB515_516.out; have hnc11 := NB516_515.out; have hcz12_0 : w10.cell? ⟨gb515, 0, none⟩ = some (.slice A0_0 l0_0.length c0_0) := (qC BK515.out 0).trans rfl; have hcz12_1 : w10.cell? ⟨gb515, 1, none⟩ = some (.slice A0_1 l0_1.length c0_1) := (qC BK515.out 1).trans rfl; have hfz12_0 := qF BK515.out 0; have hfz12_1 := qF BK515.out 1; have p517 : 0 ≤ (a2 : Int) := qO (by first | (with_reducible assumption) | assumption); have q517 : a2 < (l0_0.length : Int) := qO (by first | (with_reducible assumption) | assumption); obtain ⟨ad517, e517, hx517_0⟩ := Kd.at_bool HR0_0.out a2 p517 q517; (try rw [← Nbq6.out] at hx517_0); cases e517; replace hx517_0 := (HB.out.cell (qL w _ hx517_0)).trans hx517_0; replace p517 := eq_true p517; replace q517 := eq_true q517; have hcz13_0 : w10.cell? ⟨gb516, 0, none⟩ = some (.slice A1_0 l1_0.length c1_0) := (qC BK516.out 0).trans rfl; have hcz13_1 : w10.cell? ⟨gb516, 1, none⟩ = some (.slice A1_1 l1_1.length c1_1) := (qC BK516.out 1).trans rfl; have hcz13_2 : w10.cell? ⟨gb516, 2, none⟩ = some (.slice A1_2 l1_2.length c1_2) := (qC BK516.out 2).trans rfl; have hcz13_3 : w10.cell? ⟨gb516, 3, none⟩ = some (.slice A1_3 l1_3.length c1_3) := (qC BK516.out 3).trans rfl; have hfz13_0 := qF BK516.out 0; have hfz13_1 := qF BK516.out 1; have hfz13_2 := qF BK516.out 2; have hfz13_3 := qF BK516.out 3; have p518 : 0 ≤ (a2 : Int) := qO (by first | (with_reducible assumption) | assumption); have q518 : a2 < (l1_2.length : Int) := qO (by first | (with_reducible assumption) | assumption); obtain ⟨ad518, e518, hx518_0⟩ := Kd.at_int HR1_2.out a2 p518 q518; cases e518; replace hx518_0 := (HB.out.cell (qL w _ hx518_0)).trans hx518_0; replace p518 := eq_true p518; replace q518 := eq_true q518))
    repeat (go_quiet (first | ((with_reducible refine gate_dst (N := 3) rfl ?_); refine box_event ?hg (N := 3) ?hd (cs := #[.slice A0_0 l0_0.length c0_0, .slice A0_1 l0_1.length c0_1]) (t := 56) ?hr ?_; (case hd => rfl); (case hg => rfl); (case hr => first | (go_simp; done) | (go_simp; rfl)); intro gb515 hg w9 hbox hb; have n0_ := qM (qs (by repeat (first | (with_reducible first | exact HB.out | apply qA | apply qN | apply qD) | exact HB.out)) hb); have n1_ := qM (hbox); have n2_ := qM ((by rw [hg]; exact (qz (by repeat (first | (with_reducible first | exact HB.out | apply qA | apply qN | apply qD) | exact HB.out))) : w.heap.size ≤ gb515)); have n3_ := qM ((by rw [hg]; exact (qz (by repeat (first | (with_reducible first | exact HB.out | apply qA | apply qN | apply qD) | exact HB.out))) : w.heap.size ≤ gb515)); clear HB; have HB := n0_; have BK515 := n1_; have GW515 := n2_; have GE515 := n3_; clear n0_ n1_ n2_ n3_; clear hb hbox hg) | ((with_reducible refine gate_dst (N := 4) rfl ?_); refine box_event ?hg (N := 4) ?hd (cs := #[.slice A1_0 l1_0.length c1_0, .slice A1_1 l1_1.length c1_1, .slice A1_2 l1_2.length c1_2, .slice A1_3 l1_3.length c1_3]) (t := 60) ?hr ?_; (case hd => rfl); (case hg => rfl); (case hr => first | (go_simp; done) | (go_simp; rfl)); intro gb516 hg w10 hbox hb; have n0_ := qM (blk_below (g := gb515) (o := .cells #[.slice A0_0 l0_0.length c0_0, .slice A0_1 l0_1.length c0_1] 56 (0, 0)) (by (with_reducible repeat (first | refine qn ?_ _ | refine qd ?_ | refine qa ?_ _)); exact BK515.out) hb); have n1_ := qM (qs (by repeat (first | (with_reducible first | exact HB.out | apply qA | apply qN | apply qD | refine qS ?_ GE515.out) | exact HB.out)) hb); have n2_ := qM (hbox); have n3_ := qM ((by rw [hg]; exact (qz (by repeat (first | (with_reducible first | exact HB.out | apply qA | apply qN | apply qD | refine qS ?_ GE515.out) | exact HB.out))) : w.heap.size ≤ gb516)); have n4_ := qM ((by rw [hg]; exact (qz (by repeat (first | (with_reducible first | exact HB.out | apply qA | apply qN | apply qD | refine qS ?_ GE515.out) | exact HB.out))) : w.heap.size ≤ gb516)); have n5_ := qM ((by rw [hg]; exact Nat.ne_of_lt (blk_lt (g := gb515) (o := .cells #[.slice A0_0 l0_0.length c0_0, .slice A0_1 l0_1.length c0_1] 56 (0, 0)) (by (with_reducible repeat (first | refine qn ?_ _ | refine qd ?_ | refine qa ?_ _)); exact BK515.out)) : gb515 ≠ gb516)); have n6_ := qM ((by rw [hg]; exact Nat.ne_of_gt (blk_lt (g := gb515) (o := .cells #[.slice A0_0 l0_0.length c0_0, .slice A0_1 l0_1.length c0_1] 56 (0, 0)) (by (with_reducible repeat (first | refine qn ?_ _ | refine qd ?_ | refine qa ?_ _)); exact BK515.out)) : gb516 ≠ gb515)); clear BK515; clear HB; have BK515 := n0_; have HB := n1_; have BK516 := n2_; have GW516 := n3_; have GE516 := n4_; have NB515_516 := n5_; have NB516_515 := n6_; clear n0_ n1_ n2_ n3_ n4_ n5_ n6_; clear hb hbox hg; have hnb11 := NB515_516.out; have hnc11 := NB516_515.out; have hcz12_0 : w10.cell? ⟨gb515, 0, none⟩ = some (.slice A0_0 l0_0.length c0_0) := (qC BK515.out 0).trans rfl; have hcz12_1 : w10.cell? ⟨gb515, 1, none⟩ = some (.slice A0_1 l0_1.length c0_1) := (qC BK515.out 1).trans rfl; have hfz12_0 := qF BK515.out 0; have hfz12_1 := qF BK515.out 1; have p517 : 0 ≤ (a2 : Int) := qO (by first | (with_reducible assumption) | assumption); have q517 : a2 < (l0_0.length : Int) := qO (by first | (with_reducible assumption) | assumption); obtain ⟨ad517, e517, hx517_0⟩ := Kd.at_bool HR0_0.out a2 p517 q517; (try rw [← Nbq6.out] at hx517_0); cases e517; replace hx517_0 := (HB.out.cell (qL w _ hx517_0)).trans hx517_0; replace p517 := eq_true p517; replace q517 := eq_true q517; have hcz13_0 : w10.cell? ⟨gb516, 0, none⟩ = some (.slice A1_0 l1_0.length c1_0) := (qC BK516.out 0).trans rfl; have hcz13_1 : w10.cell? ⟨gb516, 1, none⟩ = some (.slice A1_1 l1_1.length c1_1) := (qC BK516.out 1).trans rfl; have hcz13_2 : w10.cell? ⟨gb516, 2, none⟩ = some (.slice A1_2 l1_2.length c1_2) := (qC BK516.out 2).trans rfl; have hcz13_3 : w10.cell? ⟨gb516, 3, none⟩ = some (.slice A1_3 l1_3.length c1_3) := (qC BK516.out 3).trans rfl; have hfz13_0 := qF BK516.out 0; have hfz13_1 := qF BK516.out 1; have hfz13_2 := qF BK516.out 2; have hfz13_3 := qF BK516.out 3; have p518 : 0 ≤ (a2 : Int) := qO (by first | (with_reducible assumption) | assumption); have q518 : a2 < (l1_2.length : Int) := qO (by first | (with_reducible assumption) | assumption); obtain ⟨ad518, e518, hx518_0⟩ := Kd.at_int HR1_2.out a2 p518 q518; cases e518; replace hx518_0 := (HB.out.cell (qL w _ hx518_0)).trans hx518_0; replace p518 := eq_true p518; replace q518 := eq_true q518)); try go_wp2_with (first | ((with_reducible refine gate_dst (N := 3) rfl ?_); refine box_event ?hg (N := 3) ?hd (cs := #[.slice A0_0 l0_0.length c0_0, .slice A0_1 l0_1.length c0_1]) (t := 56) ?hr ?_; (case hd => rfl); (case hg => rfl); (case hr => first | (go_simp; done) | (go_simp; rfl)); intro gb515 hg w9 hbox hb; have n0_ := qM (qs (by repeat (first | (with_reducible first | exact HB.out | apply qA | apply qN | apply qD) | exact HB.out)) hb); have n1_ := qM (hbox); have n2_ := qM ((by rw [hg]; exact (qz (by repeat (first | (with_reducible first | exact HB.out | apply qA | apply qN | apply qD) | exact HB.out))) : w.heap.size ≤ gb515)); have n3_ := qM ((by rw [hg]; exact (qz (by repeat (first | (with_reducible first | exact HB.out | apply qA | apply qN | apply qD) | exact HB.out))) : w.heap.size ≤ gb515)); clear HB; have HB := n0_; have BK515 := n1_; have GW515 := n2_; have GE515 := n3_; clear n0_ n1_ n2_ n3_; clear hb hbox hg) | ((with_reducible refine gate_dst (N := 4) rfl ?_); refine box_event ?hg (N := 4) ?hd (cs := #[.slice A1_0 l1_0.length c1_0, .slice A1_1 l1_1.length c1_1, .slice A1_2 l1_2.length c1_2, .slice A1_3 l1_3.length c1_3]) (t := 60) ?hr ?_; (case hd => rfl); (case hg => rfl); (case hr => first | (go_simp; done) | (go_simp; rfl)); intro gb516 hg w10 hbox hb; have n0_ := qM (blk_below (g := gb515) (o := .cells #[.slice A0_0 l0_0.length c0_0, .slice A0_1 l0_1.length c0_1] 56 (0, 0)) (by (with_reducible repeat (first | refine qn ?_ _ | refine qd ?_ | refine qa ?_ _)); exact BK515.out) hb); have n1_ := qM (qs (by repeat (first | (with_reducible first | exact HB.out | apply qA | apply qN | apply qD | refine qS ?_ GE515.out) | exact HB.out)) hb); have n2_ := qM (hbox); have n3_ := qM ((by rw [hg]; exact (qz (by repeat (first | (with_reducible first | exact HB.out | apply qA | apply qN | apply qD | refine qS ?_ GE515.out) | exact HB.out))) : w.heap.size ≤ gb516)); have n4_ := qM ((by rw [hg]; exact (qz (by repeat (first | (with_reducible first | exact HB.out | apply qA | apply qN | apply qD | refine qS ?_ GE515.out) | exact HB.out))) : w.heap.size ≤ gb516)); have n5_ := qM ((by rw [hg]; exact Nat.ne_of_lt (blk_lt (g := gb515) (o := .cells #[.slice A0_0 l0_0.length c0_0, .slice A0_1 l0_1.length c0_1] 56 (0, 0)) (by (with_reducible repeat (first | refine qn ?_ _ | refine qd ?_ | refine qa ?_ _)); exact BK515.out)) : gb515 ≠ gb516)); have n6_ := qM ((by rw [hg]; exact Nat.ne_of_gt (blk_lt (g := gb515) (o := .cells #[.slice A0_0 l0_0.length c0_0, .slice A0_1 l0_1.length c0_1] 56 (0, 0)) (by (with_reducible repeat (first | refine qn ?_ _ | refine qd ?_ | refine qa ?_ _)); exact BK515.out)) : gb516 ≠ gb515)); clear BK515; clear HB; have BK515 := n0_; have HB := n1_; have BK516 := n2_; have GW516 := n3_; have GE516 := n4_; have NB515_516 := n5_; have NB516_515 := n6_; clear n0_ n1_ n2_ n3_ n4_ n5_ n6_; clear hb hbox hg; have hnb11 := NB515_516.out; have hnc11 := NB516_515.out; have hcz12_0 : w10.cell? ⟨gb515, 0, none⟩ = some (.slice A0_0 l0_0.length c0_0) := (qC BK515.out 0).trans rfl; have hcz12_1 : w10.cell? ⟨gb515, 1, none⟩ = some (.slice A0_1 l0_1.length c0_1) := (qC BK515.out 1).trans rfl; have hfz12_0 := qF BK515.out 0; have hfz12_1 := qF BK515.out 1; have p517 : 0 ≤ (a2 : Int) := qO (by first | (with_reducible assumption) | assumption); have q517 : a2 < (l0_0.length : Int) := qO (by first | (with_reducible assumption) | assumption); obtain ⟨ad517, e517, hx517_0⟩ := Kd.at_bool HR0_0.out a2 p517 q517; (try rw [← Nbq6.out] at hx517_0); cases e517; replace hx517_0 := (HB.out.cell (qL w _ hx517_0)).trans hx517_0; replace p517 := eq_true p517; replace q517 := eq_true q517; have hcz13_0 : w10.cell? ⟨gb516, 0, none⟩ = some (.slice A1_0 l1_0.length c1_0) := (qC BK516.out 0).trans rfl; have hcz13_1 : w10.cell? ⟨gb516, 1, none⟩ = some (.slice A1_1 l1_1.length c1_1) := (qC BK516.out 1).trans rfl; have hcz13_2 : w10.cell? ⟨gb516, 2, none⟩ = some (.slice A1_2 l1_2.length c1_2) := (qC BK516.out 2).trans rfl; have hcz13_3 : w10.cell? ⟨gb516, 3, none⟩ = some (.slice A1_3 l1_3.length c1_3) := (qC BK516.out 3).trans rfl; have hfz13_0 := qF BK516.out 0; have hfz13_1 := qF BK516.out 1; have hfz13_2 := qF BK516.out 2; have hfz13_3 := qF BK516.out 3; have p518 : 0 ≤ (a2 : Int) := qO (by first | (with_reducible assumption) | assumption); have q518 : a2 < (l1_2.length : Int) := qO (by first | (with_reducible assumption) | assumption); obtain ⟨ad518, e518, hx518_0⟩ := Kd.at_int HR1_2.out a2 p518 q518; cases e518; replace hx518_0 := (HB.out.cell (qL w _ hx518_0)).trans hx518_0; replace p518 := eq_true p518; replace q518 := eq_true q518)))
    go_ret
    exact ⟨by first | rfl | (simp [errW_none, errW_some] <;> rfl) | (simp [*, errW_none, errW_some] <;> rfl), by repeat (first | (with_reducible first | exact HB.out | apply qA | apply qN | apply qD | refine qS ?_ GE515.out | refine qS ?_ GE516.out) | exact HB.out)⟩
  replace c7 := Bool.eq_false_iff.mpr c7
  subst c7
  have H1 : (if a2 < (l1_1.length : Int) then (if rdOf false l1_1 a2 = true then (some false) else (if a2 < (l1_0.length : Int) then (if a2 < (l1_2.length : Int) then (some ((rd l1_0 a2) == (rd l1_2 a2))) else (none)) else (none))) else (none)) = some r := by rw [if_neg (show ¬ (false = true) by decide)] at H; exact H
  clear H
  have H := H1
  clear H1
  by_cases c14 : a2 < (l1_1.length : Int)
  rotate_left
  · rw [if_neg c14] at H
    exact absurd H (by simp)
  rw [if_pos c14] at H
  have c14b0 : decide (a2 < (l1_1.length : Int)) = true := decide_eq_true c14
  clear c14
  obtain ⟨bq15, hbq15⟩ : ∃ b_ : Bool, b_ = (rdOf false l1_1 a2) := ⟨_, rfl⟩
  replace H : (if bq15 = true then (some false) else (if a2 < (l1_0.length : Int) then (if a2 < (l1_2.length : Int) then (some ((rd l1_0 a2) == (rd l1_2 a2))) else (none)) else (none))) = some r := by rw [← hbq15] at H; exact H
  have Nbq15 := qM hbq15
  clear hbq15
  by_cases c16 : bq15 = true
  · subst c16
    have H1 : (some false) = some r := by rw [if_pos rfl] at H; exact H
    clear H
    have H := H1
    clear H1
    obtain rfl := Option.some.inj H
    go_enter Try.func88, Try.ntmps88
    go_wp2_with (first | ((with_reducible refine gate_dst (N := 3) rfl ?_); refine box_event ?hg (N := 3) ?hd (cs := #[.slice A0_0 l0_0.length c0_0, .slice A0_1 l0_1.length c0_1]) (t := 56) ?hr ?_; (case hd => rfl); (case hg => rfl); (case hr => first | (go_simp; done) | (go_simp; rfl)); intro gb515 hg w17 hbox hb; have n0_ := qM (qs (by repeat (first | (with_reducible first | exact HB.out | apply qA | apply qN | apply qD) | exact HB.out)) hb); have n1_ := qM (hbox); have n2_ := qM ((by rw [hg]; exact (qz (by repeat (first | (with_reducible first | exact HB.out | apply qA | apply qN | apply qD) | exact HB.out))) : w.heap.size ≤ gb515)); have n3_ := qM ((by rw [hg]; exact (qz (by repeat (first | (with_reducible first | exact HB.out | apply qA | apply qN | apply qD) | exact HB.out))) : w.heap.size ≤ gb515)); clear HB; have HB := n0_; have BK515 := n1_; have GW515 := n2_; have GE515 := n3_; clear n0_ n1_ n2_ n3_; clear hb hbox hg) | ((with_reducible refine gate_dst (N := 4) rfl ?_); refine box_event ?hg (N := 4) ?hd (cs := #[.slice A1_0 l1_0.length c1_0, .slice A1_1 l1_1.length c1_1, .slice A1_2 l1_2.length c1_2, .slice A1_3 l1_3.length c1_3]) (t := 60) ?hr ?_; (case hd => rfl); (case hg => rfl); (case hr => first | (go_simp; done) | (go_simp; rfl)); intro gb516 hg w18 hbox hb; have n0_ := qM (blk_below (g := gb515) (o := .cells #[.slice A0_0 l0_0.length c0_0, .slice A0_1 l0_1.length c0_1] 56 (0, 0)) (by (with_reducible repeat (first | refine qn ?_ _ | refine qd ?_ | refine qa ?_ _)); exact BK515.out) hb); have n1_ := qM (qs (by repeat (first | (with_reducible first | exact HB.out | apply qA | apply qN | apply qD | refine qS ?_ GE515.out) | exact HB.out)) hb); have n2_ := qM (hbox); have n3_ := qM ((by rw [hg]; exact (qz (by repeat (first | (with_reducible first | exact HB.out | apply qA | apply qN | apply qD | refine qS ?_ GE515.out) | exact HB.out))) : w.heap.size ≤ gb516)); have n4_ := qM ((by rw [hg]; exact (qz (by repeat (first | (with_reducible first | exact HB.out | apply qA | apply qN | apply qD | refine qS ?_ GE515.out) | exact HB.out))) : w.heap.size ≤ gb516)); have n5_ := qM ((by rw [hg]; exact Nat.ne_of_lt (blk_lt (g := gb515) (o := .cells #[.slice A0_0 l0_0.length c0_0, .slice A0_1 l0_1.length c0_1] 56 (0, 0)) (by (with_reducible repeat (first | refine qn ?_ _ | refine qd ?_ | refine qa ?_ _)); exact BK515.out)) : gb515 ≠ gb516)); have n6_ := qM ((by rw [hg]; exact Nat.ne_of_gt (blk_lt (g := gb515) (o := .cells #[.slice A0_0 l0_0.length c0_0, .slice A0_1 l0_1.length c0_1] 56 (0, 0)) (by (with_reducible repeat (first | refine qn ?_ _ | refine qd ?_ | refine qa ?_ _)); exact BK515.out)) : gb516 ≠ gb515)); clear BK515; clear HB; have BK515 := n0_; have HB := n1_; have BK516 := n2_; have GW516 := n3_; have GE516 := n4_; have NB515_516 := n5_; have NB516_515 := n6_; clear n0_ n1_ n2_ n3_ n4_ n5_ n6_; clear hb hbox hg; have hnb19 := NB515_516.out; have hnc19 := NB516_515.out; have hcz20_0 : w18.cell? ⟨gb515, 0, none⟩ = some (.slice A0_0 l0_0.length c0_0) := (qC BK515.out 0).trans rfl; have hcz20_1 : w18.cell? ⟨gb515, 1, none⟩ = some (.slice A0_1 l0_1.length c0_1) := (qC BK515.out 1).trans rfl; have hfz20_0 := qF BK515.out 0; have hfz20_1 := qF BK515.out 1; have p517 : 0 ≤ (a2 : Int) := qO (by first | (with_reducible assumption) | assumption); have q517 : a2 < (l0_0.length : Int) := qO (by first | (with_reducible assumption) | assumption); obtain ⟨ad517, e517, hx517_0⟩ := Kd.at_bool HR0_0.out a2 p517 q517; (try rw [← Nbq6.out] at hx517_0); (try rw [← Nbq15.out] at hx517_0); cases e517; replace hx517_0 := (HB.out.cell (qL w _ hx517_0)).trans hx517_0; replace p517 := eq_true p517; replace q517 := eq_true q517; have hcz21_0 : w18.cell? ⟨gb516, 0, none⟩ = some (.slice A1_0 l1_0.length c1_0) := (qC BK516.out 0).trans rfl; have hcz21_1 : w18.cell? ⟨gb516, 1, none⟩ = some (.slice A1_1 l1_1.length c1_1) := (qC BK516.out 1).trans rfl; have hcz21_2 : w18.cell? ⟨gb516, 2, none⟩ = some (.slice A1_2 l1_2.length c1_2) := (qC BK516.out 2).trans rfl; have hcz21_3 : w18.cell? ⟨gb516, 3, none⟩ = some (.slice A1_3 l1_3.length c1_3) := (qC BK516.out 3).trans rfl; have hfz21_0 := qF BK516.out 0; have hfz21_1 := qF BK516.out 1; have hfz21_2 := qF BK516.out 2; have hfz21_3 := qF BK516.out 3; have p519 : 0 ≤ (a2 : Int) := qO (by first | (with_reducible assumption) | assumption); have q519 : a2 < (l1_1.length : Int) := qO (by first | (with_reducible assumption) | assumption); obtain ⟨ad519, e519, hx519_0⟩ := Kd.at_bool HR1_1.out a2 p519 q519; (try rw [← Nbq6.out] at hx519_0); (try rw [← Nbq15.out] at hx519_0); cases e519; replace hx519_0 := (HB.out.cell (qL w _ hx519_0)).trans hx519_0; replace p519 := eq_true p519; replace q519 := eq_true q519))
    repeat (go_quiet (first | ((with_reducible refine gate_dst (N := 3) rfl ?_); refine box_event ?hg (N := 3) ?hd (cs := #[.slice A0_0 l0_0.length c0_0, .slice A0_1 l0_1.length c0_1]) (t := 56) ?hr ?_; (case hd => rfl); (case hg => rfl); (case hr => first | (go_simp; done) | (go_simp; rfl)); intro gb515 hg w17 hbox hb; have n0_ := qM (qs (by repeat (first | (with_reducible first | exact HB.out | apply qA | apply qN | apply qD) | exact HB.out)) hb); have n1_ := qM (hbox); have n2_ := qM ((by rw [hg]; exact (qz (by repeat (first | (with_reducible first | exact HB.out | apply qA | apply qN | apply qD) | exact HB.out))) : w.heap.size ≤ gb515)); have n3_ := qM ((by rw [hg]; exact (qz (by repeat (first | (with_reducible first | exact HB.out | apply qA | apply qN | apply qD) | exact HB.out))) : w.heap.size ≤ gb515)); clear HB; have HB := n0_; have BK515 := n1_; have GW515 := n2_; have GE515 := n3_; clear n0_ n1_ n2_ n3_; clear hb hbox hg) | ((with_reducible refine gate_dst (N := 4) rfl ?_); refine box_event ?hg (N := 4) ?hd (cs := #[.slice A1_0 l1_0.length c1_0, .slice A1_1 l1_1.length c1_1, .slice A1_2 l1_2.length c1_2, .slice A1_3 l1_3.length c1_3]) (t := 60) ?hr ?_; (case hd => rfl); (case hg => rfl); (case hr => first | (go_simp; done) | (go_simp; rfl)); intro gb516 hg w18 hbox hb; have n0_ := qM (blk_below (g := gb515) (o := .cells #[.slice A0_0 l0_0.length c0_0, .slice A0_1 l0_1.length c0_1] 56 (0, 0)) (by (with_reducible repeat (first | refine qn ?_ _ | refine qd ?_ | refine qa ?_ _)); exact BK515.out) hb); have n1_ := qM (qs (by repeat (first | (with_reducible first | exact HB.out | apply qA | apply qN | apply qD | refine qS ?_ GE515.out) | exact HB.out)) hb); have n2_ := qM (hbox); have n3_ := qM ((by rw [hg]; exact (qz (by repeat (first | (with_reducible first | exact HB.out | apply qA | apply qN | apply qD | refine qS ?_ GE515.out) | exact HB.out))) : w.heap.size ≤ gb516)); have n4_ := qM ((by rw [hg]; exact (qz (by repeat (first | (with_reducible first | exact HB.out | apply qA | apply qN | apply qD | refine qS ?_ GE515.out) | exact HB.out))) : w.heap.size ≤ gb516)); have n5_ := qM ((by rw [hg]; exact Nat.ne_of_lt (blk_lt (g := gb515) (o := .cells #[.slice A0_0 l0_0.length c0_0, .slice A0_1 l0_1.length c0_1] 56 (0, 0)) (by (with_reducible repeat (first | refine qn ?_ _ | refine qd ?_ | refine qa ?_ _)); exact BK515.out)) : gb515 ≠ gb516)); have n6_ := qM ((by rw [hg]; exact Nat.ne_of_gt (blk_lt (g := gb515) (o := .cells #[.slice A0_0 l0_0.length c0_0, .slice A0_1 l0_1.length c0_1] 56 (0, 0)) (by (with_reducible repeat (first | refine qn ?_ _ | refine qd ?_ | refine qa ?_ _)); exact BK515.out)) : gb516 ≠ gb515)); clear BK515; clear HB; have BK515 := n0_; have HB := n1_; have BK516 := n2_; have GW516 := n3_; have GE516 := n4_; have NB515_516 := n5_; have NB516_515 := n6_; clear n0_ n1_ n2_ n3_ n4_ n5_ n6_; clear hb hbox hg; have hnb19 := NB515_516.out; have hnc19 := NB516_515.out; have hcz20_0 : w18.cell? ⟨gb515, 0, none⟩ = some (.slice A0_0 l0_0.length c0_0) := (qC BK515.out 0).trans rfl; have hcz20_1 : w18.cell? ⟨gb515, 1, none⟩ = some (.slice A0_1 l0_1.length c0_1) := (qC BK515.out 1).trans rfl; have hfz20_0 := qF BK515.out 0; have hfz20_1 := qF BK515.out 1; have p517 : 0 ≤ (a2 : Int) := qO (by first | (with_reducible assumption) | assumption); have q517 : a2 < (l0_0.length : Int) := qO (by first | (with_reducible assumption) | assumption); obtain ⟨ad517, e517, hx517_0⟩ := Kd.at_bool HR0_0.out a2 p517 q517; (try rw [← Nbq6.out] at hx517_0); (try rw [← Nbq15.out] at hx517_0); cases e517; replace hx517_0 := (HB.out.cell (qL w _ hx517_0)).trans hx517_0; replace p517 := eq_true p517; replace q517 := eq_true q517; have hcz21_0 : w18.cell? ⟨gb516, 0, none⟩ = some (.slice A1_0 l1_0.length c1_0) := (qC BK516.out 0).trans rfl; have hcz21_1 : w18.cell? ⟨gb516, 1, none⟩ = some (.slice A1_1 l1_1.length c1_1) := (qC BK516.out 1).trans rfl; have hcz21_2 : w18.cell? ⟨gb516, 2, none⟩ = some (.slice A1_2 l1_2.length c1_2) := (qC BK516.out 2).trans rfl; have hcz21_3 : w18.cell? ⟨gb516, 3, none⟩ = some (.slice A1_3 l1_3.length c1_3) := (qC BK516.out 3).trans rfl; have hfz21_0 := qF BK516.out 0; have hfz21_1 := qF BK516.out 1; have hfz21_2 := qF BK516.out 2; have hfz21_3 := qF BK516.out 3; have p519 : 0 ≤ (a2 : Int) := qO (by first | (with_reducible assumption) | assumption); have q519 : a2 < (l1_1.length : Int) := qO (by first | (with_reducible assumption) | assumption); obtain ⟨ad519, e519, hx519_0⟩ := Kd.at_bool HR1_1.out a2 p519 q519; (try rw [← Nbq6.out] at hx519_0); (try rw [← Nbq15.out] at hx519_0); cases e519; replace hx519_0 := (HB.out.cell (qL w _ hx519_0)).trans hx519_0; replace p519 := eq_true p519; replace q519 := eq_true q519)); try go_wp2_with (first | ((with_reducible refine gate_dst (N := 3) rfl ?_); refine box_event ?hg (N := 3) ?hd (cs := #[.slice A0_0 l0_0.length c0_0, .slice A0_1 l0_1.length c0_1]) (t := 56) ?hr ?_; (case hd => rfl); (case hg => rfl); (case hr => first | (go_simp; done) | (go_simp; rfl)); intro gb515 hg w17 hbox hb; have n0_ := qM (qs (by repeat (first | (with_reducible first | exact HB.out | apply qA | apply qN | apply qD) | exact HB.out)) hb); have n1_ := qM (hbox); have n2_ := qM ((by rw [hg]; exact (qz (by repeat (first | (with_reducible first | exact HB.out | apply qA | apply qN | apply qD) | exact HB.out))) : w.heap.size ≤ gb515)); have n3_ := qM ((by rw [hg]; exact (qz (by repeat (first | (with_reducible first | exact HB.out | apply qA | apply qN | apply qD) | exact HB.out))) : w.heap.size ≤ gb515)); clear HB; have HB := n0_; have BK515 := n1_; have GW515 := n2_; have GE515 := n3_; clear n0_ n1_ n2_ n3_; clear hb hbox hg) | ((with_reducible refine gate_dst (N := 4) rfl ?_); refine box_event ?hg (N := 4) ?hd (cs := #[.slice A1_0 l1_0.length c1_0, .slice A1_1 l1_1.length c1_1, .slice A1_2 l1_2.length c1_2, .slice A1_3 l1_3.length c1_3]) (t := 60) ?hr ?_; (case hd => rfl); (case hg => rfl); (case hr => first | (go_simp; done) | (go_simp; rfl)); intro gb516 hg w18 hbox hb; have n0_ := qM (blk_below (g := gb515) (o := .cells #[.slice A0_0 l0_0.length c0_0, .slice A0_1 l0_1.length c0_1] 56 (0, 0)) (by (with_reducible repeat (first | refine qn ?_ _ | refine qd ?_ | refine qa ?_ _)); exact BK515.out) hb); have n1_ := qM (qs (by repeat (first | (with_reducible first | exact HB.out | apply qA | apply qN | apply qD | refine qS ?_ GE515.out) | exact HB.out)) hb); have n2_ := qM (hbox); have n3_ := qM ((by rw [hg]; exact (qz (by repeat (first | (with_reducible first | exact HB.out | apply qA | apply qN | apply qD | refine qS ?_ GE515.out) | exact HB.out))) : w.heap.size ≤ gb516)); have n4_ := qM ((by rw [hg]; exact (qz (by repeat (first | (with_reducible first | exact HB.out | apply qA | apply qN | apply qD | refine qS ?_ GE515.out) | exact HB.out))) : w.heap.size ≤ gb516)); have n5_ := qM ((by rw [hg]; exact Nat.ne_of_lt (blk_lt (g := gb515) (o := .cells #[.slice A0_0 l0_0.length c0_0, .slice A0_1 l0_1.length c0_1] 56 (0, 0)) (by (with_reducible repeat (first | refine qn ?_ _ | refine qd ?_ | refine qa ?_ _)); exact BK515.out)) : gb515 ≠ gb516)); have n6_ := qM ((by rw [hg]; exact Nat.ne_of_gt (blk_lt (g := gb515) (o := .cells #[.slice A0_0 l0_0.length c0_0, .slice A0_1 l0_1.length c0_1] 56 (0, 0)) (by (with_reducible repeat (first | refine qn ?_ _ | refine qd ?_ | refine qa ?_ _)); exact BK515.out)) : gb516 ≠ gb515)); clear BK515; clear HB; have BK515 := n0_; have HB := n1_; have BK516 := n2_; have GW516 := n3_; have GE516 := n4_; have NB515_516 := n5_; have NB516_515 := n6_; clear n0_ n1_ n2_ n3_ n4_ n5_ n6_; clear hb hbox hg; have hnb19 := NB515_516.out; have hnc19 := NB516_515.out; have hcz20_0 : w18.cell? ⟨gb515, 0, none⟩ = some (.slice A0_0 l0_0.length c0_0) := (qC BK515.out 0).trans rfl; have hcz20_1 : w18.cell? ⟨gb515, 1, none⟩ = some (.slice A0_1 l0_1.length c0_1) := (qC BK515.out 1).trans rfl; have hfz20_0 := qF BK515.out 0; have hfz20_1 := qF BK515.out 1; have p517 : 0 ≤ (a2 : Int) := qO (by first | (with_reducible assumption) | assumption); have q517 : a2 < (l0_0.length : Int) := qO (by first | (with_reducible assumption) | assumption); obtain ⟨ad517, e517, hx517_0⟩ := Kd.at_bool HR0_0.out a2 p517 q517; (try rw [← Nbq6.out] at hx517_0); (try rw [← Nbq15.out] at hx517_0); cases e517; replace hx517_0 := (HB.out.cell (qL w _ hx517_0)).trans hx517_0; replace p517 := eq_true p517; replace q517 := eq_true q517; have hcz21_0 : w18.cell? ⟨gb516, 0, none⟩ = some (.slice A1_0 l1_0.length c1_0) := (qC BK516.out 0).trans rfl; have hcz21_1 : w18.cell? ⟨gb516, 1, none⟩ = some (.slice A1_1 l1_1.length c1_1) := (qC BK516.out 1).trans rfl; have hcz21_2 : w18.cell? ⟨gb516, 2, none⟩ = some (.slice A1_2 l1_2.length c1_2) := (qC BK516.out 2).trans rfl; have hcz21_3 : w18.cell? ⟨gb516, 3, none⟩ = some (.slice A1_3 l1_3.length c1_3) := (qC BK516.out 3).trans rfl; have hfz21_0 := qF BK516.out 0; have hfz21_1 := qF BK516.out 1; have hfz21_2 := qF BK516.out 2; have hfz21_3 := qF BK516.out 3; have p519 : 0 ≤ (a2 : Int) := qO (by first | (with_reducible assumption) | assumption); have q519 : a2 < (l1_1.length : Int) := qO (by first | (with_reducible assumption) | assumption); obtain ⟨ad519, e519, hx519_0⟩ := Kd.at_bool HR1_1.out a2 p519 q519; (try rw [← Nbq6.out] at hx519_0); (try rw [← Nbq15.out] at hx519_0); cases e519; replace hx519_0 := (HB.out.cell (qL w _ hx519_0)).trans hx519_0; replace p519 := eq_true p519; replace q519 := eq_true q519)))
    go_ret
    exact ⟨by first | rfl | (simp [errW_none, errW_some] <;> rfl) | (simp [*, errW_none, errW_some] <;> rfl), by repeat (first | (with_reducible first | exact HB.out | apply qA | apply qN | apply qD | refine qS ?_ GE515.out | refine qS ?_ GE516.out) | exact HB.out)⟩
  replace c16 := Bool.eq_false_iff.mpr c16
  subst c16
  have H1 : (if a2 < (l1_0.length : Int) then (if a2 < (l1_2.length : Int) then (some ((rd l1_0 a2) == (rd l1_2 a2))) else (none)) else (none)) = some r := by rw [if_neg (show ¬ (false = true) by decide)] at H; exact H
  clear H
  have H := H1
  clear H1
  by_cases c22 : a2 < (l1_0.length : Int)
  rotate_left
  · rw [if_neg c22] at H
    exact absurd H (by simp)
  rw [if_pos c22] at H
  have c22b0 : decide (a2 < (l1_0.length : Int)) = true := decide_eq_true c22
  clear c22
  by_cases c23 : a2 < (l1_2.length : Int)
  rotate_left
  · rw [if_neg c23] at H
    exact absurd H (by simp)
  rw [if_pos c23] at H
  have c23b0 : decide (a2 < (l1_2.length : Int)) = true := decide_eq_true c23
  clear c23
  obtain rfl := Option.some.inj H
  go_enter Try.func88, Try.ntmps88
  go_wp2_with (first | ((with_reducible refine gate_dst (N := 3) rfl ?_); refine box_event ?hg (N := 3) ?hd (cs := #[.slice A0_0 l0_0.length c0_0, .slice A0_1 l0_1.length c0_1]) (t := 56) ?hr ?_; (case hd => rfl); (case hg => rfl); (case hr => first | (go_simp; done) | (go_simp; rfl)); intro gb515 hg w24 hbox hb; have n0_ := qM (qs (by repeat (first | (with_reducible first | exact HB.out | apply qA | apply qN | apply qD) | exact HB.out)) hb); have n1_ := qM (hbox); have n2_ := qM ((by rw [hg]; exact (qz (by repeat (first | (with_reducible first | exact HB.out | apply qA | apply qN | apply qD) | exact HB.out))) : w.heap.size ≤ gb515)); have n3_ := qM ((by rw [hg]; exact (qz (by repeat (first | (with_reducible first | exact HB.out | apply qA | apply qN | apply qD) | exact HB.out))) : w.heap.size ≤ gb515)); clear HB; have HB := n0_; have BK515 := n1_; have GW515 := n2_; have GE515 := n3_; clear n0_ n1_ n2_ n3_; clear hb hbox hg) | ((with_reducible refine gate_dst (N := 4) rfl ?_); refine box_event ?hg (N := 4) ?hd (cs := #[.slice A1_0 l1_0.length c1_0, .slice A1_1 l1_1.length c1_1, .slice A1_2 l1_2.length c1_2, .slice A1_3 l1_3.length c1_3]) (t := 60) ?hr ?_; (case hd => rfl); (case hg => rfl); (case hr => first | (go_simp; done) | (go_simp; rfl)); intro gb516 hg w25 hbox hb; have n0_ := qM (blk_below (g := gb515) (o := .cells #[.slice A0_0 l0_0.length c0_0, .slice A0_1 l0_1.length c0_1] 56 (0, 0)) (by (with_reducible repeat (first | refine qn ?_ _ | refine qd ?_ | refine qa ?_ _)); exact BK515.out) hb); have n1_ := qM (qs (by repeat (first | (with_reducible first | exact HB.out | apply qA | apply qN | apply qD | refine qS ?_ GE515.out) | exact HB.out)) hb); have n2_ := qM (hbox); have n3_ := qM ((by rw [hg]; exact (qz (by repeat (first | (with_reducible first | exact HB.out | apply qA | apply qN | apply qD | refine qS ?_ GE515.out) | exact HB.out))) : w.heap.size ≤ gb516)); have n4_ := qM ((by rw [hg]; exact (qz (by repeat (first | (with_reducible first | exact HB.out | apply qA | apply qN | apply qD | refine qS ?_ GE515.out) | exact HB.out))) : w.heap.size ≤ gb516)); have n5_ := qM ((by rw [hg]; exact Nat.ne_of_lt (blk_lt (g := gb515) (o := .cells #[.slice A0_0 l0_0.length c0_0, .slice A0_1 l0_1.length c0_1] 56 (0, 0)) (by (with_reducible repeat (first | refine qn ?_ _ | refine qd ?_ | refine qa ?_ _)); exact BK515.out)) : gb515 ≠ gb516)); have n6_ := qM ((by rw [hg]; exact Nat.ne_of_gt (blk_lt (g := gb515) (o := .cells #[.slice A0_0 l0_0.length c0_0, .slice A0_1 l0_1.length c0_1] 56 (0, 0)) (by (with_reducible repeat (first | refine qn ?_ _ | refine qd ?_ | refine qa ?_ _)); exact BK515.out)) : gb516 ≠ gb515)); clear BK515; clear HB; have BK515 := n0_; have HB := n1_; have BK516 := n2_; have GW516 := n3_; have GE516 := n4_; have NB515_516 := n5_; have NB516_515 := n6_; clear n0_ n1_ n2_ n3_ n4_ n5_ n6_; clear hb hbox hg; have hnb26 := NB515_516.out; have hnc26 := NB516_515.out; have hcz27_0 : w25.cell? ⟨gb515, 0, none⟩ = some (.slice A0_0 l0_0.length c0_0) := (qC BK515.out 0).trans rfl; have hcz27_1 : w25.cell? ⟨gb515, 1, none⟩ = some (.slice A0_1 l0_1.length c0_1) := (qC BK515.out 1).trans rfl; have hfz27_0 := qF BK515.out 0; have hfz27_1 := qF BK515.out 1; have p517 : 0 ≤ (a2 : Int) := qO (by first | (with_reducible assumption) | assumption); have q517 : a2 < (l0_0.length : Int) := qO (by first | (with_reducible assumption) | assumption); obtain ⟨ad517, e517, hx517_0⟩ := Kd.at_bool HR0_0.out a2 p517 q517; (try rw [← Nbq6.out] at hx517_0); (try rw [← Nbq15.out] at hx517_0); cases e517; replace hx517_0 := (HB.out.cell (qL w _ hx517_0)).trans hx517_0; replace p517 := eq_true p517; replace q517 := eq_true q517; have hcz28_0 : w25.cell? ⟨gb516, 0, none⟩ = some (.slice A1_0 l1_0.length c1_0) := (qC BK516.out 0).trans rfl; have hcz28_1 : w25.cell? ⟨gb516, 1, none⟩ = some (.slice A1_1 l1_1.length c1_1) := (qC BK516.out 1).trans rfl; have hcz28_2 : w25.cell? ⟨gb516, 2, none⟩ = some (.slice A1_2 l1_2.length c1_2) := (qC BK516.out 2).trans rfl; have hcz28_3 : w25.cell? ⟨gb516, 3, none⟩ = some (.slice A1_3 l1_3.length c1_3) := (qC BK516.out 3).trans rfl; have hfz28_0 := qF BK516.out 0; have hfz28_1 := qF BK516.out 1; have hfz28_2 := qF BK516.out 2; have hfz28_3 := qF BK516.out 3; have p519 : 0 ≤ (a2 : Int) := qO (by first | (with_reducible assumption) | assumption); have q519 : a2 < (l1_1.length : Int) := qO (by first | (with_reducible assumption) | assumption); obtain ⟨ad519, e519, hx519_0⟩ := Kd.at_bool HR1_1.out a2 p519 q519; (try rw [← Nbq6.out] at hx519_0); (try rw [← Nbq15.out] at hx519_0); cases e519; replace hx519_0 := (HB.out.cell (qL w _ hx519_0)).trans hx519_0; replace p519 := eq_true p519; replace q519 := eq_true q519; have p520 : 0 ≤ (a2 : Int) := qO (by first | (with_reducible assumption) | assumption); have q520 : a2 < (l1_0.length : Int) := qO (by first | (with_reducible assumption) | assumption); obtain ⟨ad520, e520, hx520_0⟩ := Kd.at_int HR1_0.out a2 p520 q520; cases e520; replace hx520_0 := (HB.out.cell (qL w _ hx520_0)).trans hx520_0; replace p520 := eq_true p520; replace q520 := eq_true q520; have p521 : 0 ≤ (a2 : Int) := qO (by first | (with_reducible assumption) | assumption); have q521 : a2 < (l1_2.length : Int) := qO (by first | (with_reducible assumption) | assumption); obtain ⟨ad521, e521, hx521_0⟩ := Kd.at_int HR1_2.out a2 p521 q521; cases e521; replace hx521_0 := (HB.out.cell (qL w _ hx521_0)).trans hx521_0; replace p521 := eq_true p521; replace q521 := eq_true q521))
  repeat (go_quiet (first | ((with_reducible refine gate_dst (N := 3) rfl ?_); refine box_event ?hg (N := 3) ?hd (cs := #[.slice A0_0 l0_0.length c0_0, .slice A0_1 l0_1.length c0_1]) (t := 56) ?hr ?_; (case hd => rfl); (case hg => rfl); (case hr => first | (go_simp; done) | (go_simp; rfl)); intro gb515 hg w24 hbox hb; have n0_ := qM (qs (by repeat (first | (with_reducible first | exact HB.out | apply qA | apply qN | apply qD) | exact HB.out)) hb); have n1_ := qM (hbox); have n2_ := qM ((by rw [hg]; exact (qz (by repeat (first | (with_reducible first | exact HB.out | apply qA | apply qN | apply qD) | exact HB.out))) : w.heap.size ≤ gb515)); have n3_ := qM ((by rw [hg]; exact (qz (by repeat (first | (with_reducible first | exact HB.out | apply qA | apply qN | apply qD) | exact HB.out))) : w.heap.size ≤ gb515)); clear HB; have HB := n0_; have BK515 := n1_; have GW515 := n2_; have GE515 := n3_; clear n0_ n1_ n2_ n3_; clear hb hbox hg) | ((with_reducible refine gate_dst (N := 4) rfl ?_); refine box_event ?hg (N := 4) ?hd (cs := #[.slice A1_0 l1_0.length c1_0, .slice A1_1 l1_1.length c1_1, .slice A1_2 l1_2.length c1_2, .slice A1_3 l1_3.length c1_3]) (t := 60) ?hr ?_; (case hd => rfl); (case hg => rfl); (case hr => first | (go_simp; done) | (go_simp; rfl)); intro gb516 hg w25 hbox hb; have n0_ := qM (blk_below (g := gb515) (o := .cells #[.slice A0_0 l0_0.length c0_0, .slice A0_1 l0_1.length c0_1] 56 (0, 0)) (by (with_reducible repeat (first | refine qn ?_ _ | refine qd ?_ | refine qa ?_ _)); exact BK515.out) hb); have n1_ := qM (qs (by repeat (first | (with_reducible first | exact HB.out | apply qA | apply qN | apply qD | refine qS ?_ GE515.out) | exact HB.out)) hb); have n2_ := qM (hbox); have n3_ := qM ((by rw [hg]; exact (qz (by repeat (first | (with_reducible first | exact HB.out | apply qA | apply qN | apply qD | refine qS ?_ GE515.out) | exact HB.out))) : w.heap.size ≤ gb516)); have n4_ := qM ((by rw [hg]; exact (qz (by repeat (first | (with_reducible first | exact HB.out | apply qA | apply qN | apply qD | refine qS ?_ GE515.out) | exact HB.out))) : w.heap.size ≤ gb516)); have n5_ := qM ((by rw [hg]; exact Nat.ne_of_lt (blk_lt (g := gb515) (o := .cells #[.slice A0_0 l0_0.length c0_0, .slice A0_1 l0_1.length c0_1] 56 (0, 0)) (by (with_reducible repeat (first | refine qn ?_ _ | refine qd ?_ | refine qa ?_ _)); exact BK515.out)) : gb515 ≠ gb516)); have n6_ := qM ((by rw [hg]; exact Nat.ne_of_gt (blk_lt (g := gb515) (o := .cells #[.slice A0_0 l0_0.length c0_0, .slice A0_1 l0_1.length c0_1] 56 (0, 0)) (by (with_reducible repeat (first | refine qn ?_ _ | refine qd ?_ | refine qa ?_ _)); exact BK515.out)) : gb516 ≠ gb515)); clear BK515; clear HB; have BK515 := n0_; have HB := n1_; have BK516 := n2_; have GW516 := n3_; have GE516 := n4_; have NB515_516 := n5_; have NB516_515 := n6_; clear n0_ n1_ n2_ n3_ n4_ n5_ n6_; clear hb hbox hg; have hnb26 := NB515_516.out; have hnc26 := NB516_515.out; have hcz27_0 : w25.cell? ⟨gb515, 0, none⟩ = some (.slice A0_0 l0_0.length c0_0) := (qC BK515.out 0).trans rfl; have hcz27_1 : w25.cell? ⟨gb515, 1, none⟩ = some (.slice A0_1 l0_1.length c0_1) := (qC BK515.out 1).trans rfl; have hfz27_0 := qF BK515.out 0; have hfz27_1 := qF BK515.out 1; have p517 : 0 ≤ (a2 : Int) := qO (by first | (with_reducible assumption) | assumption); have q517 : a2 < (l0_0.length : Int) := qO (by first | (with_reducible assumption) | assumption); obtain ⟨ad517, e517, hx517_0⟩ := Kd.at_bool HR0_0.out a2 p517 q517; (try rw [← Nbq6.out] at hx517_0); (try rw [← Nbq15.out] at hx517_0); cases e517; replace hx517_0 := (HB.out.cell (qL w _ hx517_0)).trans hx517_0; replace p517 := eq_true p517; replace q517 := eq_true q517; have hcz28_0 : w25.cell? ⟨gb516, 0, none⟩ = some (.slice A1_0 l1_0.length c1_0) := (qC BK516.out 0).trans rfl; have hcz28_1 : w25.cell? ⟨gb516, 1, none⟩ = some (.slice A1_1 l1_1.length c1_1) := (qC BK516.out 1).trans rfl; have hcz28_2 : w25.cell? ⟨gb516, 2, none⟩ = some (.slice A1_2 l1_2.length c1_2) := (qC BK516.out 2).trans rfl; have hcz28_3 : w25.cell? ⟨gb516, 3, none⟩ = some (.slice A1_3 l1_3.length c1_3) := (qC BK516.out 3).trans rfl; have hfz28_0 := qF BK516.out 0; have hfz28_1 := qF BK516.out 1; have hfz28_2 := qF BK516.out 2; have hfz28_3 := qF BK516.out 3; have p519 : 0 ≤ (a2 : Int) := qO (by first | (with_reducible assumption) | assumption); have q519 : a2 < (l1_1.length : Int) := qO (by first | (with_reducible assumption) | assumption); obtain ⟨ad519, e519, hx519_0⟩ := Kd.at_bool HR1_1.out a2 p519 q519; (try rw [← Nbq6.out] at hx519_0); (try rw [← Nbq15.out] at hx519_0); cases e519; replace hx519_0 := (HB.out.cell (qL w _ hx519_0)).trans hx519_0; replace p519 := eq_true p519; replace q519 := eq_true q519; have p520 : 0 ≤ (a2 : Int) := qO (by first | (with_reducible assumption) | assumption); have q520 : a2 < (l1_0.length : Int) := qO (by first | (with_reducible assumption) | assumption); obtain ⟨ad520, e520, hx520_0⟩ := Kd.at_int HR1_0.out a2 p520 q520; cases e520; replace hx520_0 := (HB.out.cell (qL w _ hx520_0)).trans hx520_0; replace p520 := eq_true p520; replace q520 := eq_true q520; have p521 : 0 ≤ (a2 : Int) := qO (by first | (with_reducible assumption) | assumption); have q521 : a2 < (l1_2.length : Int) := qO (by first | (with_reducible assumption) | assumption); obtain ⟨ad521, e521, hx521_0⟩ := Kd.at_int HR1_2.out a2 p521 q521; cases e521; replace hx521_0 := (HB.out.cell (qL w _ hx521_0)).trans hx521_0; replace p521 := eq_true p521; replace q521 := eq_true q521)); try go_wp2_with (first | ((with_reducible refine gate_dst (N := 3) rfl ?_); refine box_event ?hg (N := 3) ?hd (cs := #[.slice A0_0 l0_0.length c0_0, .slice A0_1 l0_1.length c0_1]) (t := 56) ?hr ?_; (case hd => rfl); (case hg => rfl); (case hr => first | (go_simp; done) | (go_simp; rfl)); intro gb515 hg w24 hbox hb; have n0_ := qM (qs (by repeat (first | (with_reducible first | exact HB.out | apply qA | apply qN | apply qD) | exact HB.out)) hb); have n1_ := qM (hbox); have n2_ := qM ((by rw [hg]; exact (qz (by repeat (first | (with_reducible first | exact HB.out | apply qA | apply qN | apply qD) | exact HB.out))) : w.heap.size ≤ gb515)); have n3_ := qM ((by rw [hg]; exact (qz (by repeat (first | (with_reducible first | exact HB.out | apply qA | apply qN | apply qD) | exact HB.out))) : w.heap.size ≤ gb515)); clear HB; have HB := n0_; have BK515 := n1_; have GW515 := n2_; have GE515 := n3_; clear n0_ n1_ n2_ n3_; clear hb hbox hg) | ((with_reducible refine gate_dst (N := 4) rfl ?_); refine box_event ?hg (N := 4) ?hd (cs := #[.slice A1_0 l1_0.length c1_0, .slice A1_1 l1_1.length c1_1, .slice A1_2 l1_2.length c1_2, .slice A1_3 l1_3.length c1_3]) (t := 60) ?hr ?_; (case hd => rfl); (case hg => rfl); (case hr => first | (go_simp; done) | (go_simp; rfl)); intro gb516 hg w25 hbox hb; have n0_ := qM (blk_below (g := gb515) (o := .cells #[.slice A0_0 l0_0.length c0_0, .slice A0_1 l0_1.length c0_1] 56 (0, 0)) (by (with_reducible repeat (first | refine qn ?_ _ | refine qd ?_ | refine qa ?_ _)); exact BK515.out) hb); have n1_ := qM (qs (by repeat (first | (with_reducible first | exact HB.out | apply qA | apply qN | apply qD | refine qS ?_ GE515.out) | exact HB.out)) hb); have n2_ := qM (hbox); have n3_ := qM ((by rw [hg]; exact (qz (by repeat (first | (with_reducible first | exact HB.out | apply qA | apply qN | apply qD | refine qS ?_ GE515.out) | exact HB.out))) : w.heap.size ≤ gb516)); have n4_ := qM ((by rw [hg]; exact (qz (by repeat (first | (with_reducible first | exact HB.out | apply qA | apply qN | apply qD | refine qS ?_ GE515.out) | exact HB.out))) : w.heap.size ≤ gb516)); have n5_ := qM ((by rw [hg]; exact Nat.ne_of_lt (blk_lt (g := gb515) (o := .cells #[.slice A0_0 l0_0.length c0_0, .slice A0_1 l0_1.length c0_1] 56 (0, 0)) (by (with_reducible repeat (first | refine qn ?_ _ | refine qd ?_ | refine qa ?_ _)); exact BK515.out)) : gb515 ≠ gb516)); have n6_ := qM ((by rw [hg]; exact Nat.ne_of_gt (blk_lt (g := gb515) (o := .cells #[.slice A0_0 l0_0.length c0_0, .slice A0_1 l0_1.length c0_1] 56 (0, 0)) (by (with_reducible repeat (first | refine qn ?_ _ | refine qd ?_ | refine qa ?_ _)); exact BK515.out)) : gb516 ≠ gb515)); clear BK515; clear HB; have BK515 := n0_; have HB := n1_; have BK516 := n2_; have GW516 := n3_; have GE516 := n4_; have NB515_516 := n5_; have NB516_515 := n6_; clear n0_ n1_ n2_ n3_ n4_ n5_ n6_; clear hb hbox hg; have hnb26 := NB515_516.out; have hnc26 := NB516_515.out; have hcz27_0 : w25.cell? ⟨gb515, 0, none⟩ = some (.slice A0_0 l0_0.length c0_0) := (qC BK515.out 0).trans rfl; have hcz27_1 : w25.cell? ⟨gb515, 1, none⟩ = some (.slice A0_1 l0_1.length c0_1) := (qC BK515.out 1).trans rfl; have hfz27_0 := qF BK515.out 0; have hfz27_1 := qF BK515.out 1; have p517 : 0 ≤ (a2 : Int) := qO (by first | (with_reducible assumption) | assumption); have q517 : a2 < (l0_0.length : Int) := qO (by first | (with_reducible assumption) | assumption); obtain ⟨ad517, e517, hx517_0⟩ := Kd.at_bool HR0_0.out a2 p517 q517; (try rw [← Nbq6.out] at hx517_0); (try rw [← Nbq15.out] at hx517_0); cases e517; replace hx517_0 := (HB.out.cell (qL w _ hx517_0)).trans hx517_0; replace p517 := eq_true p517; replace q517 := eq_true q517; have hcz28_0 : w25.cell? ⟨gb516, 0, none⟩ = some (.slice A1_0 l1_0.length c1_0) := (qC BK516.out 0).trans rfl; have hcz28_1 : w25.cell? ⟨gb516, 1, none⟩ = some (.slice A1_1 l1_1.length c1_1) := (qC BK516.out 1).trans rfl; have hcz28_2 : w25.cell? ⟨gb516, 2, none⟩ = some (.slice A1_2 l1_2.length c1_2) := (qC BK516.out 2).trans rfl; have hcz28_3 : w25.cell? ⟨gb516, 3, none⟩ = some (.slice A1_3 l1_3.length c1_3) := (qC BK516.out 3).trans rfl; have hfz28_0 := qF BK516.out 0; have hfz28_1 := qF BK516.out 1; have hfz28_2 := qF BK516.out 2; have hfz28_3 := qF BK516.out 3; have p519 : 0 ≤ (a2 : Int) := qO (by first | (with_reducible assumption) | assumption); have q519 : a2 < (l1_1.length : Int) := qO (by first | (with_reducible assumption) | assumption); obtain ⟨ad519, e519, hx519_0⟩ := Kd.at_bool HR1_1.out a2 p519 q519; (try rw [← Nbq6.out] at hx519_0); (try rw [← Nbq15.out] at hx519_0); cases e519; replace hx519_0 := (HB.out.cell (qL w _ hx519_0)).trans hx519_0; replace p519 := eq_true p519; replace q519 := eq_true q519; have p520 : 0 ≤ (a2 : Int) := qO (by first | (with_reducible assumption) | assumption); have q520 : a2 < (l1_0.length : Int) := qO (by first | (with_reducible assumption) | assumption); obtain ⟨ad520, e520, hx520_0⟩ := Kd.at_int HR1_0.out a2 p520 q520; cases e520; replace hx520_0 := (HB.out.cell (qL w _ hx520_0)).trans hx520_0; replace p520 := eq_true p520; replace q520 := eq_true q520; have p521 : 0 ≤ (a2 : Int) := qO (by first | (with_reducible assumption) | assumption); have q521 : a2 < (l1_2.length : Int) := qO (by first | (with_reducible assumption) | assumption); obtain ⟨ad521, e521, hx521_0⟩ := Kd.at_int HR1_2.out a2 p521 q521; cases e521; replace hx521_0 := (HB.out.cell (qL w _ hx521_0)).trans hx521_0; replace p521 := eq_true p521; replace q521 := eq_true q521)))
  go_ret
  exact ⟨by first | rfl | (simp [errW_none, errW_some] <;> rfl) | (simp [*, errW_none, errW_some] <;> rfl), by repeat (first | (with_reducible first | exact HB.out | apply qA | apply qN | apply qD | refine qS ?_ GE515.out | refine qS ?_ GE516.out) | exact HB.out)⟩
end Go.Proofs.Ytgbjbpjmbghlbaa.G
end
section
namespace Go.Proofs.Ytgbjbpjmbghlbaa.G
open Go.RowKit Go.Proofs.YtgbjbpjmbghlbaaW.PrintWords Go.Proofs.YtgbjbpjmbghlbaaW.PrintLast Go.Proofs.YtgbjbpjmbghlbaaW.PrintMore
attribute [local go_sem] max2_int min2_int max_two min_two max_three min_three max_four min_four
set_option linter.unusedVariables false
set_option linter.unusedSimpArgs false
mutual
def spec_StateOk.j0 : Nat → Int → Bool → List Bool → List (S30) → List Int → List Bool → List Int → List (S87) → Option (Bool)
  | 0, _, _, _, _, _, _, _, _ => none
  | k + 1, x5, x52, x523000, x523001, x524000, x524001, x524002, x524003 => if x52 = true then (some false) else (spec_StateOk.l0 k x5 0 x523000 x523001 x524000 x524001 x524002 x524003)
def spec_StateOk.l0 : Nat → Int → Int → List Bool → List (S30) → List Int → List Bool → List Int → List (S87) → Option (Bool)
  | 0, _, _, _, _, _, _, _, _ => none
  | k + 1, x5, x6, x523000, x523001, x524000, x524001, x524002, x524003 => if x6 < x5 then ((spec_l6Kept.f x523000 x523001 x524000 x524001 x524002 x524003 x6).bind fun t528 => (if t528 = true then (spec_StateOk.l0 k x5 (wrap64 (x6 + 1)) x523000 x523001 x524000 x524001 x524002 x524003) else (some false))) else (spec_StateOk.l1 k x5 0 x523000 x523001 x524000 x524001 x524002 x524003)
def spec_StateOk.l1 : Nat → Int → Int → List Bool → List (S30) → List Int → List Bool → List Int → List (S87) → Option (Bool)
  | 0, _, _, _, _, _, _, _, _ => none
  | k + 1, x5, x7, x523000, x523001, x524000, x524001, x524002, x524003 => if x7 < (x524003.length : Int) then (if 0 ≤ x7 then (if ((rd_T87 x524003 x7).f0) ≥ x5 then (some false) else (if 0 ≤ ((rd_T87 x524003 x7).f0) then (if ((rd_T87 x524003 x7).f0) < (x523000.length : Int) then (if (rdOf false x523000 ((rd_T87 x524003 x7).f0) = true) then (spec_StateOk.l1 k x5 (wrap64 (x7 + 1)) x523000 x523001 x524000 x524001 x524002 x524003) else (some false)) else (none)) else (none))) else (none)) else (some true)
end
def spec_StateOk.f (k : Nat) (l0_0 : List Bool) (l0_1 : List (S30)) (l1_0 : List Int) (l1_1 : List Bool) (l1_2 : List Int) (l1_3 : List (S87)) : Option (Bool) := (spec_SheetOk.f k l0_0 l0_1).bind fun t524 => (if t524 = true then (if (l1_0.length : Int) = (l0_0.length : Int) then (if (l1_1.length : Int) = (l0_0.length : Int) then (if (l1_2.length : Int) = (l0_0.length : Int) then ((spec_l2Values.f k l1_0).bind fun t525 => (if t525 = true then ((spec_l2Values.f k l1_2).bind fun t526 => (if t526 = true then ((spec_TracesOk.f k l1_3).bind fun t527 => (spec_StateOk.j0 k (l0_0.length : Int) (!t527) l0_0 l0_1 l1_0 l1_1 l1_2 l1_3)) else (spec_StateOk.j0 k (l0_0.length : Int) true l0_0 l0_1 l1_0 l1_1 l1_2 l1_3))) else (spec_StateOk.j0 k (l0_0.length : Int) true l0_0 l0_1 l1_0 l1_1 l1_2 l1_3))) else (spec_StateOk.j0 k (l0_0.length : Int) true l0_0 l0_1 l1_0 l1_1 l1_2 l1_3)) else (spec_StateOk.j0 k (l0_0.length : Int) true l0_0 l0_1 l1_0 l1_1 l1_2 l1_3)) else (spec_StateOk.j0 k (l0_0.length : Int) true l0_0 l0_1 l1_0 l1_1 l1_2 l1_3)) else (spec_StateOk.j0 k (l0_0.length : Int) true l0_0 l0_1 l1_0 l1_1 l1_2 l1_3))
set_option maxHeartbeats 8000000 in
set_option maxRecDepth 100000 in
theorem spec_StateOk.calls (k : Nat) (A0_0 : Option Addr) (c0_0 : Nat) (l0_0 : List Bool) (A0_1 : Option Addr) (c0_1 : Nat) (l0_1 : List (S30)) (A1_0 : Option Addr) (c1_0 : Nat) (l1_0 : List Int) (A1_1 : Option Addr) (c1_1 : Nat) (l1_1 : List Bool) (A1_2 : Option Addr) (c1_2 : Nat) (l1_2 : List Int) (A1_3 : Option Addr) (c1_3 : Nat) (l1_3 : List (S87)) (r : Bool) (w : World) (hr0_0 : Kd.C Kd.bool w A0_0 l0_0.length l0_0) (hc0_0 : l0_0.length ≤ c0_0) (hr0_1 : Kd.C k30 w A0_1 l0_1.length l0_1) (hc0_1 : l0_1.length ≤ c0_1) (hr1_0 : Kd.C (Kd.int .i64) w A1_0 l1_0.length l1_0) (hc1_0 : l1_0.length ≤ c1_0) (hr1_1 : Kd.C Kd.bool w A1_1 l1_1.length l1_1) (hc1_1 : l1_1.length ≤ c1_1) (hr1_2 : Kd.C (Kd.int .i64) w A1_2 l1_2.length l1_2) (hc1_2 : l1_2.length ≤ c1_2) (hr1_3 : Kd.C k87 w A1_3 l1_3.length l1_3) (hc1_3 : l1_3.length ≤ c1_3) (h : spec_StateOk.f k l0_0 l0_1 l1_0 l1_1 l1_2 l1_3 = some r) :
    Calls Try.prog 34 #[.agg #[.slice A0_0 l0_0.length c0_0, .slice A0_1 l0_1.length c0_1], .agg #[.slice A1_0 l1_0.length c1_0, .slice A1_1 l1_1.length c1_1, .slice A1_2 l1_2.length c1_2, .slice A1_3 l1_3.length c1_3]] w fun e w' => e = .returned (.bool r) ∧ Below w.heap.size w w' := by
  have hu56 := Try.underlying56
  have hu60 := Try.underlying60
  have HR0_0 := qM hr0_0
  have HC0_0 := qM hc0_0
  clear hr0_0 hc0_0
  have HR0_1 := qM hr0_1
  have HC0_1 := qM hc0_1
  clear hr0_1 hc0_1
  have HR1_0 := qM hr1_0
  have HC1_0 := qM hc1_0
  clear hr1_0 hc1_0
  have HR1_1 := qM hr1_1
  have HC1_1 := qM hc1_1
  clear hr1_1 hc1_1
  have HR1_2 := qM hr1_2
  have HC1_2 := qM hc1_2
  clear hr1_2 hc1_2
  have HR1_3 := qM hr1_3
  have HC1_3 := qM hc1_3
  clear hr1_3 hc1_3
  have HB := qM (Below.refl w.heap.size w)
  have H : ((spec_SheetOk.f k l0_0 l0_1).bind fun t524 => (if t524 = true then (if (l1_0.length : Int) = (l0_0.length : Int) then (if (l1_1.length : Int) = (l0_0.length : Int) then (if (l1_2.length : Int) = (l0_0.length : Int) then ((spec_l2Values.f k l1_0).bind fun t525 => (if t525 = true then ((spec_l2Values.f k l1_2).bind fun t526 => (if t526 = true then ((spec_TracesOk.f k l1_3).bind fun t527 => (spec_StateOk.j0 k (l0_0.length : Int) (!t527) l0_0 l0_1 l1_0 l1_1 l1_2 l1_3)) else (spec_StateOk.j0 k (l0_0.length : Int) true l0_0 l0_1 l1_0 l1_1 l1_2 l1_3))) else (spec_StateOk.j0 k (l0_0.length : Int) true l0_0 l0_1 l1_0 l1_1 l1_2 l1_3))) else (spec_StateOk.j0 k (l0_0.length : Int) true l0_0 l0_1 l1_0 l1_1 l1_2 l1_3)) else (spec_StateOk.j0 k (l0_0.length : Int) true l0_0 l0_1 l1_0 l1_1 l1_2 l1_3)) else (spec_StateOk.j0 k (l0_0.length : Int) true l0_0 l0_1 l1_0 l1_1 l1_2 l1_3)) else (spec_StateOk.j0 k (l0_0.length : Int) true l0_0 l0_1 l1_0 l1_1 l1_2 l1_3))) = some r := h
  clear h
  have HC3 := qM H
  clear H
  go_enter Try.func34, Try.ntmps34
  go_upto_region 2 with (first | ((with_reducible refine gate_dst (N := 2) rfl ?_); (try (refine gate_guard (by rfl) ?_; dsimp only)); refine box_event ?hg (N := 2) ?hd (cs := #[.slice A0_0 l0_0.length c0_0, .slice A0_1 l0_1.length c0_1]) (t := 56) ?hr ?_; (case hd => rfl); (case hg => rfl); (case hr => first | (go_simp; done) | (go_simp; rfl)); intro gb522 hg w4 hbox hb; have n0_ := qM (qs (by repeat (first | (with_reducible first | exact HB.out | apply qA | apply qN | apply qD) | exact HB.out)) hb); have n1_ := qM (hbox); have n2_ := qM ((by rw [hg]; exact (qz (by repeat (first | (with_reducible first | exact HB.out | apply qA | apply qN | apply qD) | exact HB.out))) : w.heap.size ≤ gb522)); have n3_ := qM ((by rw [hg]; exact (qz (by repeat (first | (with_reducible first | exact HB.out | apply qA | apply qN | apply qD) | exact HB.out))) : w.heap.size ≤ gb522)); clear HB; have HB := n0_; have BK522 := n1_; have GW522 := n2_; have GE522 := n3_; clear n0_ n1_ n2_ n3_; clear hb hbox hg) | ((with_reducible refine gate_dst (N := 3) rfl ?_); (try (refine gate_guard (by rfl) ?_; dsimp only)); refine box_event ?hg (N := 3) ?hd (cs := #[.slice A1_0 l1_0.length c1_0, .slice A1_1 l1_1.length c1_1, .slice A1_2 l1_2.length c1_2, .slice A1_3 l1_3.length c1_3]) (t := 60) ?hr ?_; (case hd => rfl); (case hg => rfl); (case hr => first | (go_simp; done) | (go_simp; rfl)); intro gb523 hg w5 hbox hb; have n0_ := qM (blk_below (g := gb522) (o := .cells #[.slice A0_0 l0_0.length c0_0, .slice A0_1 l0_1.length c0_1] 56 (0, 0)) (by (with_reducible repeat (first | refine qn ?_ _ | refine qd ?_ | refine qa ?_ _)); exact BK522.out) hb); have n1_ := qM (qs (by repeat (first | (with_reducible first | exact HB.out | apply qA | apply qN | apply qD | refine qS ?_ GE522.out) | exact HB.out)) hb); have n2_ := qM (hbox); have n3_ := qM ((by rw [hg]; exact (qz (by repeat (first | (with_reducible first | exact HB.out | apply qA | apply qN | apply qD | refine qS ?_ GE522.out) | exact HB.out))) : w.heap.size ≤ gb523)); have n4_ := qM ((by rw [hg]; exact (qz (by repeat (first | (with_reducible first | exact HB.out | apply qA | apply qN | apply qD | refine qS ?_ GE522.out) | exact HB.out))) : w.heap.size ≤ gb523)); have n5_ := qM ((by rw [hg]; exact Nat.ne_of_lt (blk_lt (g := gb522) (o := .cells #[.slice A0_0 l0_0.length c0_0, .slice A0_1 l0_1.length c0_1] 56 (0, 0)) (by (with_reducible repeat (first | refine qn ?_ _ | refine qd ?_ | refine qa ?_ _)); exact BK522.out)) : gb522 ≠ gb523)); have n6_ := qM ((by rw [hg]; exact Nat.ne_of_gt (blk_lt (g := gb522) (o := .cells #[.slice A0_0 l0_0.length c0_0, .slice A0_1 l0_1.length c0_1] 56 (0, 0)) (by (with_reducible repeat (first | refine qn ?_ _ | refine qd ?_ | refine qa ?_ _)); exact BK522.out)) : gb523 ≠ gb522)); clear BK522; clear HB; have BK522 := n0_; have HB := n1_; have BK523 := n2_; have GW523 := n3_; have GE523 := n4_; have NB522_523 := n5_; have NB523_522 := n6_; clear n0_ n1_ n2_ n3_ n4_ n5_ n6_; clear hb hbox hg; have hnb6 := NB522_523.out; have hnc6 := NB523_522.out; have hcz7_0 : w5.cell? ⟨gb522, 0, none⟩ = some (.slice A0_0 l0_0.length c0_0) := (qC BK522.out 0).trans rfl; have hcz7_1 : w5.cell? ⟨gb522, 1, none⟩ = some (.slice A0_1 l0_1.length c0_1) := (qC BK522.out 1).trans rfl; have hfz7_0 := qF BK522.out 0; have hfz7_1 := qF BK522.out 1))
  repeat (go_quiet (first | ((with_reducible refine gate_dst (N := 2) rfl ?_); (try (refine gate_guard (by rfl) ?_; dsimp only)); refine box_event ?hg (N := 2) ?hd (cs := #[.slice A0_0 l0_0.length c0_0, .slice A0_1 l0_1.length c0_1]) (t := 56) ?hr ?_; (case hd => rfl); (case hg => rfl); (case hr => first | (go_simp; done) | (go_simp; rfl)); intro gb522 hg w4 hbox hb; have n0_ := qM (qs (by repeat (first | (with_reducible first | exact HB.out | apply qA | apply qN | apply qD) | exact HB.out)) hb); have n1_ := qM (hbox); have n2_ := qM ((by rw [hg]; exact (qz (by repeat (first | (with_reducible first | exact HB.out | apply qA | apply qN | apply qD) | exact HB.out))) : w.heap.size ≤ gb522)); have n3_ := qM ((by rw [hg]; exact (qz (by repeat (first | (with_reducible first | exact HB.out | apply qA | apply qN | apply qD) | exact HB.out))) : w.heap.size ≤ gb522)); clear HB; have HB := n0_; have BK522 := n1_; have GW522 := n2_; have GE522 := n3_; clear n0_ n1_ n2_ n3_; clear hb hbox hg) | ((with_reducible refine gate_dst (N := 3) rfl ?_); (try (refine gate_guard (by rfl) ?_; dsimp only)); refine box_event ?hg (N := 3) ?hd (cs := #[.slice A1_0 l1_0.length c1_0, .slice A1_1 l1_1.length c1_1, .slice A1_2 l1_2.length c1_2, .slice A1_3 l1_3.length c1_3]) (t := 60) ?hr ?_; (case hd => rfl); (case hg => rfl); (case hr => first | (go_simp; done) | (go_simp; rfl)); intro gb523 hg w5 hbox hb; have n0_ := qM (blk_below (g := gb522) (o := .cells #[.slice A0_0 l0_0.length c0_0, .slice A0_1 l0_1.length c0_1] 56 (0, 0)) (by (with_reducible repeat (first | refine qn ?_ _ | refine qd ?_ | refine qa ?_ _)); exact BK522.out) hb); have n1_ := qM (qs (by repeat (first | (with_reducible first | exact HB.out | apply qA | apply qN | apply qD | refine qS ?_ GE522.out) | exact HB.out)) hb); have n2_ := qM (hbox); have n3_ := qM ((by rw [hg]; exact (qz (by repeat (first | (with_reducible first | exact HB.out | apply qA | apply qN | apply qD | refine qS ?_ GE522.out) | exact HB.out))) : w.heap.size ≤ gb523)); have n4_ := qM ((by rw [hg]; exact (qz (by repeat (first | (with_reducible first | exact HB.out | apply qA | apply qN | apply qD | refine qS ?_ GE522.out) | exact HB.out))) : w.heap.size ≤ gb523)); have n5_ := qM ((by rw [hg]; exact Nat.ne_of_lt (blk_lt (g := gb522) (o := .cells #[.slice A0_0 l0_0.length c0_0, .slice A0_1 l0_1.length c0_1] 56 (0, 0)) (by (with_reducible repeat (first | refine qn ?_ _ | refine qd ?_ | refine qa ?_ _)); exact BK522.out)) : gb522 ≠ gb523)); have n6_ := qM ((by rw [hg]; exact Nat.ne_of_gt (blk_lt (g := gb522) (o := .cells #[.slice A0_0 l0_0.length c0_0, .slice A0_1 l0_1.length c0_1] 56 (0, 0)) (by (with_reducible repeat (first | refine qn ?_ _ | refine qd ?_ | refine qa ?_ _)); exact BK522.out)) : gb523 ≠ gb522)); clear BK522; clear HB; have BK522 := n0_; have HB := n1_; have BK523 := n2_; have GW523 := n3_; have GE523 := n4_; have NB522_523 := n5_; have NB523_522 := n6_; clear n0_ n1_ n2_ n3_ n4_ n5_ n6_; clear hb hbox hg; have hnb6 := NB522_523.out; have hnc6 := NB523_522.out; have hcz7_0 : w5.cell? ⟨gb522, 0, none⟩ = some (.slice A0_0 l0_0.length c0_0) := (qC BK522.out 0).trans rfl; have hcz7_1 : w5.cell? ⟨gb522, 1, none⟩ = some (.slice A0_1 l0_1.length c0_1) := (qC BK522.out 1).trans rfl; have hfz7_0 := qF BK522.out 0; have hfz7_1 := qF BK522.out 1)); go_upto_region 2 with (first | ((with_reducible refine gate_dst (N := 2) rfl ?_); (try (refine gate_guard (by rfl) ?_; dsimp only)); refine box_event ?hg (N := 2) ?hd (cs := #[.slice A0_0 l0_0.length c0_0, .slice A0_1 l0_1.length c0_1]) (t := 56) ?hr ?_; (case hd => rfl); (case hg => rfl); (case hr => first | (go_simp; done) | (go_simp; rfl)); intro gb522 hg w4 hbox hb; have n0_ := qM (qs (by repeat (first | (with_reducible first | exact HB.out | apply qA | apply qN | apply qD) | exact HB.out)) hb); have n1_ := qM (hbox); have n2_ := qM ((by rw [hg]; exact (qz (by repeat (first | (with_reducible first | exact HB.out | apply qA | apply qN | apply qD) | exact HB.out))) : w.heap.size ≤ gb522)); have n3_ := qM ((by rw [hg]; exact (qz (by repeat (first | (with_reducible first | exact HB.out | apply qA | apply qN | apply qD) | exact HB.out))) : w.heap.size ≤ gb522)); clear HB; have HB := n0_; have BK522 := n1_; have GW522 := n2_; have GE522 := n3_; clear n0_ n1_ n2_ n3_; clear hb hbox hg) | ((with_reducible refine gate_dst (N := 3) rfl ?_); (try (refine gate_guard (by rfl) ?_; dsimp only)); refine box_event ?hg (N := 3) ?hd (cs := #[.slice A1_0 l1_0.length c1_0, .slice A1_1 l1_1.length c1_1, .slice A1_2 l1_2.length c1_2, .slice A1_3 l1_3.length c1_3]) (t := 60) ?hr ?_; (case hd => rfl); (case hg => rfl); (case hr => first | (go_simp; done) | (go_simp; rfl)); intro gb523 hg w5 hbox hb; have n0_ := qM (blk_below (g := gb522) (o := .cells #[.slice A0_0 l0_0.length c0_0, .slice A0_1 l0_1.length c0_1] 56 (0, 0)) (by (with_reducible repeat (first | refine qn ?_ _ | refine qd ?_ | refine qa ?_ _)); exact BK522.out) hb); have n1_ := qM (qs (by repeat (first | (with_reducible first | exact HB.out | apply qA | apply qN | apply qD | refine qS ?_ GE522.out) | exact HB.out)) hb); have n2_ := qM (hbox); have n3_ := qM ((by rw [hg]; exact (qz (by repeat (first | (with_reducible first | exact HB.out | apply qA | apply qN | apply qD | refine qS ?_ GE522.out) | exact HB.out))) : w.heap.size ≤ gb523)); have n4_ := qM ((by rw [hg]; exact (qz (by repeat (first | (with_reducible first | exact HB.out | apply qA | apply qN | apply qD | refine qS ?_ GE522.out) | exact HB.out))) : w.heap.size ≤ gb523)); have n5_ := qM ((by rw [hg]; exact Nat.ne_of_lt (blk_lt (g := gb522) (o := .cells #[.slice A0_0 l0_0.length c0_0, .slice A0_1 l0_1.length c0_1] 56 (0, 0)) (by (with_reducible repeat (first | refine qn ?_ _ | refine qd ?_ | refine qa ?_ _)); exact BK522.out)) : gb522 ≠ gb523)); have n6_ := qM ((by rw [hg]; exact Nat.ne_of_gt (blk_lt (g := gb522) (o := .cells #[.slice A0_0 l0_0.length c0_0, .slice A0_1 l0_1.length c0_1] 56 (0, 0)) (by (with_reducible repeat (first | refine qn ?_ _ | refine qd ?_ | refine qa ?_ _)); exact BK522.out)) : gb523 ≠ gb522)); clear BK522; clear HB; have BK522 := n0_; have HB := n1_; have BK523 := n2_; have GW523 := n3_; have GE523 := n4_; have NB522_523 := n5_; have NB523_522 := n6_; clear n0_ n1_ n2_ n3_ n4_ n5_ n6_; clear hb hbox hg; have hnb6 := NB522_523.out; have hnc6 := NB523_522.out; have hcz7_0 : w5.cell? ⟨gb522, 0, none⟩ = some (.slice A0_0 l0_0.length c0_0) := (qC BK522.out 0).trans rfl; have hcz7_1 : w5.cell? ⟨gb522, 1, none⟩ = some (.slice A0_1 l0_1.length c0_1) := (qC BK522.out 1).trans rfl; have hfz7_0 := qF BK522.out 0; have hfz7_1 := qF BK522.out 1)))
  (try simp only [Act.put, List.setIfInBounds_toArray, List.set_cons_zero, List.set_cons_succ])
  go_cut [52] (fun v52 wc => ∃ (kq : Nat) (x52_2 : Bool), v52 = .bool x52_2 ∧ Aside0 (spec_StateOk.j0 kq (l0_0.length : Int) x52_2 l0_0 l0_1 l1_0 l1_1 l1_2 l1_3 = some r) ∧ Aside0 (kq ≤ k) ∧ Aside0 (wc.heap[gb522]? = some (.cells #[(.slice A0_0 l0_0.length c0_0), (.slice A0_1 l0_1.length c0_1)] 56 (0, 0))) ∧ Aside0 (wc.heap[gb523]? = some (.cells #[(.slice A1_0 l1_0.length c1_0), (.slice A1_1 l1_1.length c1_1), (.slice A1_2 l1_2.length c1_2), (.slice A1_3 l1_3.length c1_3)] 60 (0, 0))) ∧ Aside0 (Below w.heap.size w wc))
  case first =>
    have H := HC3.out
    clear HC3
    replace H := Option.bind_eq_some_iff.mp H
    obtain ⟨t524, A80, H⟩ := H
    replace H : (if t524 = true then (if (l1_0.length : Int) = (l0_0.length : Int) then (if (l1_1.length : Int) = (l0_0.length : Int) then (if (l1_2.length : Int) = (l0_0.length : Int) then ((spec_l2Values.f k l1_0).bind fun t525 => (if t525 = true then ((spec_l2Values.f k l1_2).bind fun t526 => (if t526 = true then ((spec_TracesOk.f k l1_3).bind fun t527 => (spec_StateOk.j0 k (l0_0.length : Int) (!t527) l0_0 l0_1 l1_0 l1_1 l1_2 l1_3)) else (spec_StateOk.j0 k (l0_0.length : Int) true l0_0 l0_1 l1_0 l1_1 l1_2 l1_3))) else (spec_StateOk.j0 k (l0_0.length : Int) true l0_0 l0_1 l1_0 l1_1 l1_2 l1_3))) else (spec_StateOk.j0 k (l0_0.length : Int) true l0_0 l0_1 l1_0 l1_1 l1_2 l1_3)) else (spec_StateOk.j0 k (l0_0.length : Int) true l0_0 l0_1 l1_0 l1_1 l1_2 l1_3)) else (spec_StateOk.j0 k (l0_0.length : Int) true l0_0 l0_1 l1_0 l1_1 l1_2 l1_3)) else (spec_StateOk.j0 k (l0_0.length : Int) true l0_0 l0_1 l1_0 l1_1 l1_2 l1_3)) = some r := H
    have A8 := qM A80
    clear A80
    by_cases c9 : t524 = true
    rotate_left
    · replace c9 := Bool.eq_false_iff.mpr c9
      subst c9
      have H1 : (spec_StateOk.j0 k (l0_0.length : Int) true l0_0 l0_1 l1_0 l1_1 l1_2 l1_3) = some r := by rw [if_neg (show ¬ (false = true) by decide)] at H; exact H
      clear H
      have H := H1
      clear H1
      have H' := qM H
      clear H
      have hnb43 := NB522_523.out
      have hnc43 := NB523_522.out
      have hcz44_0 : w5.cell? ⟨gb522, 0, none⟩ = some (.slice A0_0 l0_0.length c0_0) := (qC BK522.out 0).trans rfl
      have hcz44_1 : w5.cell? ⟨gb522, 1, none⟩ = some (.slice A0_1 l0_1.length c0_1) := (qC BK522.out 1).trans rfl
      have hfz44_0 := qF BK522.out 0
      have hfz44_1 := qF BK522.out 1
      go_wp2_with (first | (go_at_call 85; (with_reducible refine (spec_SheetOk.calls k _ _ l0_0 _ _ l0_1 false _ ?side1 ?side2 ?side3 ?side4 A8.out).mono ?_); (case side1 => repeat (first | exact (qB HR0_0.out HB.out) | (with_reducible refine qc ?_ _) | (with_reducible refine qe ?_ _) | (with_reducible refine qf ?_))); (case side2 => exact HC0_0.out); (case side3 => repeat (first | exact (qB HR0_1.out HB.out) | (with_reducible refine qc ?_ _) | (with_reducible refine qe ?_ _) | (with_reducible refine qf ?_))); (case side4 => exact HC0_1.out); rintro e w45 ⟨rfl, hb⟩; have n0_ := qM (blk_below (g := gb522) (o := .cells #[.slice A0_0 l0_0.length c0_0, .slice A0_1 l0_1.length c0_1] 56 (0, 0)) (by (with_reducible repeat (first | refine qn ?_ _ | refine qd ?_ | refine qa ?_ _)); exact BK522.out) hb); have n1_ := qM (blk_below (g := gb523) (o := .cells #[.slice A1_0 l1_0.length c1_0, .slice A1_1 l1_1.length c1_1, .slice A1_2 l1_2.length c1_2, .slice A1_3 l1_3.length c1_3] 60 (0, 0)) (by (with_reducible repeat (first | refine qn ?_ _ | refine qd ?_ | refine qa ?_ _)); exact BK523.out) hb); have n2_ := qM (qs (by repeat (first | (with_reducible first | exact HB.out | apply qA | apply qN | apply qD | refine qS ?_ GE522.out | refine qS ?_ GE523.out) | exact HB.out)) hb); clear BK522; clear BK523; clear HB; have BK522 := n0_; have BK523 := n1_; have HB := n2_; clear n0_ n1_ n2_; (try clear hb); (try clear hb2); (try clear hk); (try clear hi)))
      repeat (go_quiet (fail); try go_wp2)
      go_meet
      case rel => exact ⟨_, (true), (by first | rfl | (simp; done) | (simp [*]; done)), H', ⟨by first | omega | exact Nat.le_refl _⟩, ⟨by (with_reducible repeat (first | refine qn ?_ _ | refine qd ?_ | refine qa ?_ _)); exact BK522.out⟩, ⟨by (with_reducible repeat (first | refine qn ?_ _ | refine qd ?_ | refine qa ?_ _)); exact BK523.out⟩, ⟨by repeat (first | (with_reducible first | exact HB.out | apply qA | apply qN | apply qD | refine qS ?_ GE522.out | refine qS ?_ GE523.out) | exact HB.out)⟩⟩
    subst c9
    have H1 : (if (l1_0.length : Int) = (l0_0.length : Int) then (if (l1_1.length : Int) = (l0_0.length : Int) then (if (l1_2.length : Int) = (l0_0.length : Int) then ((spec_l2Values.f k l1_0).bind fun t525 => (if t525 = true then ((spec_l2Values.f k l1_2).bind fun t526 => (if t526 = true then ((spec_TracesOk.f k l1_3).bind fun t527 => (spec_StateOk.j0 k (l0_0.length : Int) (!t527) l0_0 l0_1 l1_0 l1_1 l1_2 l1_3)) else (spec_StateOk.j0 k (l0_0.length : Int) true l0_0 l0_1 l1_0 l1_1 l1_2 l1_3))) else (spec_StateOk.j0 k (l0_0.length : Int) true l0_0 l0_1 l1_0 l1_1 l1_2 l1_3))) else (spec_StateOk.j0 k (l0_0.length : Int) true l0_0 l0_1 l1_0 l1_1 l1_2 l1_3)) else (spec_StateOk.j0 k (l0_0.length : Int) true l0_0 l0_1 l1_0 l1_1 l1_2 l1_3)) else (spec_StateOk.j0 k (l0_0.length : Int) true l0_0 l0_1 l1_0 l1_1 l1_2 l1_3)) = some r := by rw [if_pos rfl] at H; exact H
    clear H
    have H := H1
    clear H1
    by_cases c10 : (l1_0.length : Int) = (l0_0.length : Int)
    rotate_left
    · rw [if_neg c10] at H
      have c10b0 : ((l1_0.length : Int) == (l0_0.length : Int)) = false := beq_eq_false_iff_ne.mpr c10
      have c10b1 : ((l1_0.length : Int) != (l0_0.length : Int)) = true := bne_iff_ne.mpr c10
      have c10b2 : (l1_0.length == l0_0.length) = false := by first | simpa using c10 | (simp at c10 ⊢; omega)
      (first | rw [c10b0] | (simp only [i64_w, i32_w]; rw [c10b0]) | skip)
      have H' := qM H
      clear H
      have hnb39 := NB522_523.out
      have hnc39 := NB523_522.out
      have hcz40_0 : w5.cell? ⟨gb522, 0, none⟩ = some (.slice A0_0 l0_0.length c0_0) := (qC BK522.out 0).trans rfl
      have hcz40_1 : w5.cell? ⟨gb522, 1, none⟩ = some (.slice A0_1 l0_1.length c0_1) := (qC BK522.out 1).trans rfl
      have hfz40_0 := qF BK522.out 0
      have hfz40_1 := qF BK522.out 1
      go_wp2_with (first | (go_at_call 85; (with_reducible refine (spec_SheetOk.calls k _ _ l0_0 _ _ l0_1 true _ ?side1 ?side2 ?side3 ?side4 A8.out).mono ?_); (case side1 => repeat (first | exact (qB HR0_0.out HB.out) | (with_reducible refine qc ?_ _) | (with_reducible refine qe ?_ _) | (with_reducible refine qf ?_))); (case side2 => exact HC0_0.out); (case side3 => repeat (first | exact (qB HR0_1.out HB.out) | (with_reducible refine qc ?_ _) | (with_reducible refine qe ?_ _) | (with_reducible refine qf ?_))); (case side4 => exact HC0_1.out); rintro e w41 ⟨rfl, hb⟩; have n0_ := qM (blk_below (g := gb522) (o := .cells #[.slice A0_0 l0_0.length c0_0, .slice A0_1 l0_1.length c0_1] 56 (0, 0)) (by (with_reducible repeat (first | refine qn ?_ _ | refine qd ?_ | refine qa ?_ _)); exact BK522.out) hb); have n1_ := qM (blk_below (g := gb523) (o := .cells #[.slice A1_0 l1_0.length c1_0, .slice A1_1 l1_1.length c1_1, .slice A1_2 l1_2.length c1_2, .slice A1_3 l1_3.length c1_3] 60 (0, 0)) (by (with_reducible repeat (first | refine qn ?_ _ | refine qd ?_ | refine qa ?_ _)); exact BK523.out) hb); have n2_ := qM (qs (by repeat (first | (with_reducible first | exact HB.out | apply qA | apply qN | apply qD | refine qS ?_ GE522.out | refine qS ?_ GE523.out) | exact HB.out)) hb); clear BK522; clear BK523; clear HB; have BK522 := n0_; have BK523 := n1_; have HB := n2_; clear n0_ n1_ n2_; (try clear hb); (try clear hb2); (try clear hk); (try clear hi); have hcz42_0 : w41.cell? ⟨gb523, 0, none⟩ = some (.slice A1_0 l1_0.length c1_0) := (qC BK523.out 0).trans rfl; have hcz42_1 : w41.cell? ⟨gb523, 1, none⟩ = some (.slice A1_1 l1_1.length c1_1) := (qC BK523.out 1).trans rfl; have hcz42_2 : w41.cell? ⟨gb523, 2, none⟩ = some (.slice A1_2 l1_2.length c1_2) := (qC BK523.out 2).trans rfl; have hcz42_3 : w41.cell? ⟨gb523, 3, none⟩ = some (.slice A1_3 l1_3.length c1_3) := (qC BK523.out 3).trans rfl; have hfz42_0 := qF BK523.out 0; have hfz42_1 := qF BK523.out 1; have hfz42_2 := qF BK523.out 2; have hfz42_3 := qF BK523.out 3))
      repeat (go_quiet (fail); try go_wp2)
      go_meet
      case rel => exact ⟨_, (true), (by first | rfl | (simp; done) | (simp [*]; done)), H', ⟨by first | omega | exact Nat.le_refl _⟩, ⟨by (with_reducible repeat (first | refine qn ?_ _ | refine qd ?_ | refine qa ?_ _)); exact BK522.out⟩, ⟨by (with_reducible repeat (first | refine qn ?_ _ | refine qd ?_ | refine qa ?_ _)); exact BK523.out⟩, ⟨by repeat (first | (with_reducible first | exact HB.out | apply qA | apply qN | apply qD | refine qS ?_ GE522.out | refine qS ?_ GE523.out) | exact HB.out)⟩⟩
    rw [if_pos c10] at H
    have c10b0 : ((l1_0.length : Int) == (l0_0.length : Int)) = true := beq_iff_eq.mpr c10
    have c10b1 : ((l1_0.length : Int) != (l0_0.length : Int)) = false := bne_eq_false_iff_eq.mpr c10
    have c10b2 : (l1_0.length == l0_0.length) = true := by first | simpa using c10 | (simp at c10 ⊢; omega)
    clear c10
    (first | rw [c10b0] | (simp only [i64_w, i32_w]; rw [c10b0]) | skip)
    by_cases c11 : (l1_1.length : Int) = (l0_0.length : Int)
    rotate_left
    · rw [if_neg c11] at H
      have c11b0 : ((l1_1.length : Int) == (l0_0.length : Int)) = false := beq_eq_false_iff_ne.mpr c11
      have c11b1 : ((l1_1.length : Int) != (l0_0.length : Int)) = true := bne_iff_ne.mpr c11
      have c11b2 : (l1_1.length == l0_0.length) = false := by first | simpa using c11 | (simp at c11 ⊢; omega)
      have H' := qM H
      clear H
      have hnb35 := NB522_523.out
      have hnc35 := NB523_522.out
      have hcz36_0 : w5.cell? ⟨gb522, 0, none⟩ = some (.slice A0_0 l0_0.length c0_0) := (qC BK522.out 0).trans rfl
      have hcz36_1 : w5.cell? ⟨gb522, 1, none⟩ = some (.slice A0_1 l0_1.length c0_1) := (qC BK522.out 1).trans rfl
      have hfz36_0 := qF BK522.out 0
      have hfz36_1 := qF BK522.out 1
      go_wp2_with (first | (go_at_call 85; (with_reducible refine (spec_SheetOk.calls k _ _ l0_0 _ _ l0_1 true _ ?side1 ?side2 ?side3 ?side4 A8.out).mono ?_); (case side1 => repeat (first | exact (qB HR0_0.out HB.out) | (with_reducible refine qc ?_ _) | (with_reducible refine qe ?_ _) | (with_reducible refine qf ?_))); (case side2 => exact HC0_0.out); (case side3 => repeat (first | exact (qB HR0_1.out HB.out) | (with_reducible refine qc ?_ _) | (with_reducible refine qe ?_ _) | (with_reducible refine qf ?_))); (case side4 => exact HC0_1.out); rintro e w37 ⟨rfl, hb⟩; have n0_ := qM (blk_below (g := gb522) (o := .cells #[.slice A0_0 l0_0.length c0_0, .slice A0_1 l0_1.length c0_1] 56 (0, 0)) (by (with_reducible repeat (first | refine qn ?_ _ | refine qd ?_ | refine qa ?_ _)); exact BK522.out) hb); have n1_ := qM (blk_below (g := gb523) (o := .cells #[.slice A1_0 l1_0.length c1_0, .slice A1_1 l1_1.length c1_1, .slice A1_2 l1_2.length c1_2, .slice A1_3 l1_3.length c1_3] 60 (0, 0)) (by (with_reducible repeat (first | refine qn ?_ _ | refine qd ?_ | refine qa ?_ _)); exact BK523.out) hb); have n2_ := qM (qs (by repeat (first | (with_reducible first | exact HB.out | apply qA | apply qN | apply qD | refine qS ?_ GE522.out | refine qS ?_ GE523.out) | exact HB.out)) hb); clear BK522; clear BK523; clear HB; have BK522 := n0_; have BK523 := n1_; have HB := n2_; clear n0_ n1_ n2_; (try clear hb); (try clear hb2); (try clear hk); (try clear hi); have hcz38_0 : w37.cell? ⟨gb523, 0, none⟩ = some (.slice A1_0 l1_0.length c1_0) := (qC BK523.out 0).trans rfl; have hcz38_1 : w37.cell? ⟨gb523, 1, none⟩ = some (.slice A1_1 l1_1.length c1_1) := (qC BK523.out 1).trans rfl; have hcz38_2 : w37.cell? ⟨gb523, 2, none⟩ = some (.slice A1_2 l1_2.length c1_2) := (qC BK523.out 2).trans rfl; have hcz38_3 : w37.cell? ⟨gb523, 3, none⟩ = some (.slice A1_3 l1_3.length c1_3) := (qC BK523.out 3).trans rfl; have hfz38_0 := qF BK523.out 0; have hfz38_1 := qF BK523.out 1; have hfz38_2 := qF BK523.out 2; have hfz38_3 := qF BK523.out 3))
      repeat (go_quiet (fail); try go_wp2)
      go_meet
      case rel => exact ⟨_, (true), (by first | rfl | (simp; done) | (simp [*]; done)), H', ⟨by first | omega | exact Nat.le_refl _⟩, ⟨by (with_reducible repeat (first | refine qn ?_ _ | refine qd ?_ | refine qa ?_ _)); exact BK522.out⟩, ⟨by (with_reducible repeat (first | refine qn ?_ _ | refine qd ?_ | refine qa ?_ _)); exact BK523.out⟩, ⟨by repeat (first | (with_reducible first | exact HB.out | apply qA | apply qN | apply qD | refine qS ?_ GE522.out | refine qS ?_ GE523.out) | exact HB.out)⟩⟩
    rw [if_pos c11] at H
    have c11b0 : ((l1_1.length : Int) == (l0_0.length : Int)) = true := beq_iff_eq.mpr c11
    have c11b1 : ((l1_1.length : Int) != (l0_0.length : Int)) = false := bne_eq_false_iff_eq.mpr c11
    have c11b2 : (l1_1.length == l0_0.length) = true := by first | simpa using c11 | (simp at c11 ⊢; omega)
    clear c11
    by_cases c12 : (l1_2.length : Int) = (l0_0.length : Int)
    rotate_left
    · rw [if_neg c12] at H
      have c12b0 : ((l1_2.length : Int) == (l0_0.length : Int)) = false := beq_eq_false_iff_ne.mpr c12
      have c12b1 : ((l1_2.length : Int) != (l0_0.length : Int)) = true := bne_iff_ne.mpr c12
      have c12b2 : (l1_2.length == l0_0.length) = false := by first | simpa using c12 | (simp at c12 ⊢; omega)
      have H' := qM H
      clear H
      have hnb31 := NB522_523.out
      have hnc31 := NB523_522.out
      have hcz32_0 : w5.cell? ⟨gb522, 0, none⟩ = some (.slice A0_0 l0_0.length c0_0) := (qC BK522.out 0).trans rfl
      have hcz32_1 : w5.cell? ⟨gb522, 1, none⟩ = some (.slice A0_1 l0_1.length c0_1) := (qC BK522.out 1).trans rfl
      have hfz32_0 := qF BK522.out 0
      have hfz32_1 := qF BK522.out 1
      go_wp2_with (first | (go_at_call 85; (with_reducible refine (spec_SheetOk.calls k _ _ l0_0 _ _ l0_1 true _ ?side1 ?side2 ?side3 ?side4 A8.out).mono ?_); (case side1 => repeat (first | exact (qB HR0_0.out HB.out) | (with_reducible refine qc ?_ _) | (with_reducible refine qe ?_ _) | (with_reducible refine qf ?_))); (case side2 => exact HC0_0.out); (case side3 => repeat (first | exact (qB HR0_1.out HB.out) | (with_reducible refine qc ?_ _) | (with_reducible refine qe ?_ _) | (with_reducible refine qf ?_))); (case side4 => exact HC0_1.out); rintro e w33 ⟨rfl, hb⟩; have n0_ := qM (blk_below (g := gb522) (o := .cells #[.slice A0_0 l0_0.length c0_0, .slice A0_1 l0_1.length c0_1] 56 (0, 0)) (by (with_reducible repeat (first | refine qn ?_ _ | refine qd ?_ | refine qa ?_ _)); exact BK522.out) hb); have n1_ := qM (blk_below (g := gb523) (o := .cells #[.slice A1_0 l1_0.length c1_0, .slice A1_1 l1_1.length c1_1, .slice A1_2 l1_2.length c1_2, .slice A1_3 l1_3.length c1_3] 60 (0, 0)) (by (with_reducible repeat (first | refine qn ?_ _ | refine qd ?_ | refine qa ?_ _)); exact BK523.out) hb); have n2_ := qM (qs (by repeat (first | (with_reducible first | exact HB.out | apply qA | apply qN | apply qD | refine qS ?_ GE522.out | refine qS ?_ GE523.out) | exact HB.out)) hb); clear BK522; clear BK523; clear HB; have BK522 := n0_; have BK523 := n1_; have HB := n2_; clear n0_ n1_ n2_; (try clear hb); (try clear hb2); (try clear hk); (try clear hi); have hcz34_0 : w33.cell? ⟨gb523, 0, none⟩ = some (.slice A1_0 l1_0.length c1_0) := (qC BK523.out 0).trans rfl; have hcz34_1 : w33.cell? ⟨gb523, 1, none⟩ = some (.slice A1_1 l1_1.length c1_1) := (qC BK523.out 1).trans rfl; have hcz34_2 : w33.cell? ⟨gb523, 2, none⟩ = some (.slice A1_2 l1_2.length c1_2) := (qC BK523.out 2).trans rfl; have hcz34_3 : w33.cell? ⟨gb523, 3, none⟩ = some (.slice A1_3 l1_3.length c1_3) := (qC BK523.out 3).trans rfl; have hfz34_0 := qF BK523.out 0; have hfz34_1 := qF BK523.out 1; have hfz34_2 := qF BK523.out 2; have hfz34_3 := qF BK523.out 3))
      repeat (go_quiet (fail); try go_wp2)
      go_meet
      case rel => exact ⟨_, (true), (by first | rfl | (simp; done) | (simp [*]; done)), H', ⟨by first | omega | exact Nat.le_refl _⟩, ⟨by (with_reducible repeat (first | refine qn ?_ _ | refine qd ?_ | refine qa ?_ _)); exact BK522.out⟩, ⟨by (with_reducible repeat (first | refine qn ?_ _ | refine qd ?_ | refine qa ?_ _)); exact BK523.out⟩, ⟨by repeat (first | (with_reducible first | exact HB.out | apply qA | apply qN | apply qD | refine qS ?_ GE522.out | refine qS ?_ GE523.out) | exact HB.out)⟩⟩
    rw [if_pos c12] at H
    have c12b0 : ((l1_2.length : Int) == (l0_0.length : Int)) = true := beq_iff_eq.mpr c12
    have c12b1 : ((l1_2.length : Int) != (l0_0.length : Int)) = false := bne_eq_false_iff_eq.mpr c12
    have c12b2 : (l1_2.length == l0_0.length) = true := by first | simpa using c12 | (simp at c12 ⊢; omega)
    clear c12
    replace H := Option.bind_eq_some_iff.mp H
    obtain ⟨t525, A130, H⟩ := H
    replace H : (if t525 = true then ((spec_l2Values.f k l1_2).bind fun t526 => (if t526 = true then ((spec_TracesOk.f k l1_3).bind fun t527 => (spec_StateOk.j0 k (l0_0.length : Int) (!t527) l0_0 l0_1 l1_0 l1_1 l1_2 l1_3)) else (spec_StateOk.j0 k (l0_0.length : Int) true l0_0 l0_1 l1_0 l1_1 l1_2 l1_3))) else (spec_StateOk.j0 k (l0_0.length : Int) true l0_0 l0_1 l1_0 l1_1 l1_2 l1_3)) = some r := H
    have A13 := qM A130
    clear A130
    by_cases c14 : t525 = true
    rotate_left
    · replace c14 := Bool.eq_false_iff.mpr c14
      subst c14
      have H1 : (spec_StateOk.j0 k (l0_0.length : Int) true l0_0 l0_1 l1_0 l1_1 l1_2 l1_3) = some r := by rw [if_neg (show ¬ (false = true) by decide)] at H; exact H
      clear H
      have H := H1
      clear H1
      have H' := qM H
      clear H
      have hnb27 := NB522_523.out
      have hnc27 := NB523_522.out
      have hcz28_0 : w5.cell? ⟨gb522, 0, none⟩ = some (.slice A0_0 l0_0.length c0_0) := (qC BK522.out 0).trans rfl
      have hcz28_1 : w5.cell? ⟨gb522, 1, none⟩ = some (.slice A0_1 l0_1.length c0_1) := (qC BK522.out 1).trans rfl
      have hfz28_0 := qF BK522.out 0
      have hfz28_1 := qF BK522.out 1
      go_wp2_with (first | (go_at_call 85; (with_reducible refine (spec_SheetOk.calls k _ _ l0_0 _ _ l0_1 true _ ?side1 ?side2 ?side3 ?side4 A8.out).mono ?_); (case side1 => repeat (first | exact (qB HR0_0.out HB.out) | (with_reducible refine qc ?_ _) | (with_reducible refine qe ?_ _) | (with_reducible refine qf ?_))); (case side2 => exact HC0_0.out); (case side3 => repeat (first | exact (qB HR0_1.out HB.out) | (with_reducible refine qc ?_ _) | (with_reducible refine qe ?_ _) | (with_reducible refine qf ?_))); (case side4 => exact HC0_1.out); rintro e w29 ⟨rfl, hb⟩; have n0_ := qM (blk_below (g := gb522) (o := .cells #[.slice A0_0 l0_0.length c0_0, .slice A0_1 l0_1.length c0_1] 56 (0, 0)) (by (with_reducible repeat (first | refine qn ?_ _ | refine qd ?_ | refine qa ?_ _)); exact BK522.out) hb); have n1_ := qM (blk_below (g := gb523) (o := .cells #[.slice A1_0 l1_0.length c1_0, .slice A1_1 l1_1.length c1_1, .slice A1_2 l1_2.length c1_2, .slice A1_3 l1_3.length c1_3] 60 (0, 0)) (by (with_reducible repeat (first | refine qn ?_ _ | refine qd ?_ | refine qa ?_ _)); exact BK523.out) hb); have n2_ := qM (qs (by repeat (first | (with_reducible first | exact HB.out | apply qA | apply qN | apply qD | refine qS ?_ GE522.out | refine qS ?_ GE523.out) | exact HB.out)) hb); clear BK522; clear BK523; clear HB; have BK522 := n0_; have BK523 := n1_; have HB := n2_; clear n0_ n1_ n2_; (try clear hb); (try clear hb2); (try clear hk); (try clear hi); have hcz30_0 : w29.cell? ⟨gb523, 0, none⟩ = some (.slice A1_0 l1_0.length c1_0) := (qC BK523.out 0).trans rfl; have hcz30_1 : w29.cell? ⟨gb523, 1, none⟩ = some (.slice A1_1 l1_1.length c1_1) := (qC BK523.out 1).trans rfl; have hcz30_2 : w29.cell? ⟨gb523, 2, none⟩ = some (.slice A1_2 l1_2.length c1_2) := (qC BK523.out 2).trans rfl; have hcz30_3 : w29.cell? ⟨gb523, 3, none⟩ = some (.slice A1_3 l1_3.length c1_3) := (qC BK523.out 3).trans rfl; have hfz30_0 := qF BK523.out 0; have hfz30_1 := qF BK523.out 1; have hfz30_2 := qF BK523.out 2; have hfz30_3 := qF BK523.out 3) | (go_at_call 86; (with_reducible refine (spec_l2Values.calls k _ _ l1_0 false _ ?side1 ?side2 A13.out).mono ?_); (case side1 => repeat (first | exact (qB HR1_0.out HB.out) | (with_reducible refine qc ?_ _) | (with_reducible refine qe ?_ _) | (with_reducible refine qf ?_))); (case side2 => exact HC1_0.out); rintro e w' ⟨rfl, ⟨nd, rfl⟩⟩; (try first | exact ⟨rfl, _, World.drewN_drewN _ _ _⟩ | exact ⟨rfl, _, Eq.trans (World.drewN_drewN _ _ _) (congrArg (World.drewN _) (Nat.add_assoc _ _ _))⟩)))
      repeat (go_quiet (fail); try go_wp2)
      go_meet
      case rel => exact ⟨_, (true), (by first | rfl | (simp; done) | (simp [*]; done)), H', ⟨by first | omega | exact Nat.le_refl _⟩, ⟨by (with_reducible repeat (first | refine qn ?_ _ | refine qd ?_ | refine qa ?_ _)); exact BK522.out⟩, ⟨by (with_reducible repeat (first | refine qn ?_ _ | refine qd ?_ | refine qa ?_ _)); exact BK523.out⟩, ⟨by repeat (first | (with_reducible first | exact HB.out | apply qA | apply qN | apply qD | refine qS ?_ GE522.out | refine qS ?_ GE523.out) | exact HB.out)⟩⟩
    subst c14
    have H1 : ((spec_l2Values.f k l1_2).bind fun t526 => (if t526 = true then ((spec_TracesOk.f k l1_3).bind fun t527 => (spec_StateOk.j0 k (l0_0.length : Int) (!t527) l0_0 l0_1 l1_0 l1_1 l1_2 l1_3)) else (spec_StateOk.j0 k (l0_0.length : Int) true l0_0 l0_1 l1_0 l1_1 l1_2 l1_3))) = some r := by rw [if_pos rfl] at H; exact H
    clear H
    have H := H1
    clear H1
    replace H := Option.bind_eq_some_iff.mp H
    obtain ⟨t526, A150, H⟩ := H
    replace H : (if t526 = true then ((spec_TracesOk.f k l1_3).bind fun t527 => (spec_StateOk.j0 k (l0_0.length : Int) (!t527) l0_0 l0_1 l1_0 l1_1 l1_2 l1_3)) else (spec_StateOk.j0 k (l0_0.length : Int) true l0_0 l0_1 l1_0 l1_1 l1_2 l1_3)) = some r := H
    have A15 := qM A150
    clear A150
    by_cases c16 : t526 = true
    rotate_left
    · replace c16 := Bool.eq_false_iff.mpr c16
      subst c16
      have H1 : (spec_StateOk.j0 k (l0_0.length : Int) true l0_0 l0_1 l1_0 l1_1 l1_2 l1_3) = some r := by rw [if_neg (show ¬ (false = true) by decide)] at H; exact H
      clear H
      have H := H1
      clear H1
      have H' := qM H
      clear H
      have hnb23 := NB522_523.out
      have hnc23 := NB523_522.out
      have hcz24_0 : w5.cell? ⟨gb522, 0, none⟩ = some (.slice A0_0 l0_0.length c0_0) := (qC BK522.out 0).trans rfl
      have hcz24_1 : w5.cell? ⟨gb522, 1, none⟩ = some (.slice A0_1 l0_1.length c0_1) := (qC BK522.out 1).trans rfl
      have hfz24_0 := qF BK522.out 0
      have hfz24_1 := qF BK522.out 1
      go_wp2_with (first | (go_at_call 85; (with_reducible refine (spec_SheetOk.calls k _ _ l0_0 _ _ l0_1 true _ ?side1 ?side2 ?side3 ?side4 A8.out).mono ?_); (case side1 => repeat (first | exact (qB HR0_0.out HB.out) | (with_reducible refine qc ?_ _) | (with_reducible refine qe ?_ _) | (with_reducible refine qf ?_))); (case side2 => exact HC0_0.out); (case side3 => repeat (first | exact (qB HR0_1.out HB.out) | (with_reducible refine qc ?_ _) | (with_reducible refine qe ?_ _) | (with_reducible refine qf ?_))); (case side4 => exact HC0_1.out); rintro e w25 ⟨rfl, hb⟩; have n0_ := qM (blk_below (g := gb522) (o := .cells #[.slice A0_0 l0_0.length c0_0, .slice A0_1 l0_1.length c0_1] 56 (0, 0)) (by (with_reducible repeat (first | refine qn ?_ _ | refine qd ?_ | refine qa ?_ _)); exact BK522.out) hb); have n1_ := qM (blk_below (g := gb523) (o := .cells #[.slice A1_0 l1_0.length c1_0, .slice A1_1 l1_1.length c1_1, .slice A1_2 l1_2.length c1_2, .slice A1_3 l1_3.length c1_3] 60 (0, 0)) (by (with_reducible repeat (first | refine qn ?_ _ | refine qd ?_ | refine qa ?_ _)); exact BK523.out) hb); have n2_ := qM (qs (by repeat (first | (with_reducible first | exact HB.out | apply qA | apply qN | apply qD | refine qS ?_ GE522.out | refine qS ?_ GE523.out) | exact HB.out)) hb); clear BK522; clear BK523; clear HB; have BK522 := n0_; have BK523 := n1_; have HB := n2_; clear n0_ n1_ n2_; (try clear hb); (try clear hb2); (try clear hk); (try clear hi); have hcz26_0 : w25.cell? ⟨gb523, 0, none⟩ = some (.slice A1_0 l1_0.length c1_0) := (qC BK523.out 0).trans rfl; have hcz26_1 : w25.cell? ⟨gb523, 1, none⟩ = some (.slice A1_1 l1_1.length c1_1) := (qC BK523.out 1).trans rfl; have hcz26_2 : w25.cell? ⟨gb523, 2, none⟩ = some (.slice A1_2 l1_2.length c1_2) := (qC BK523.out 2).trans rfl; have hcz26_3 : w25.cell? ⟨gb523, 3, none⟩ = some (.slice A1_3 l1_3.length c1_3) := (qC BK523.out 3).trans rfl; have hfz26_0 := qF BK523.out 0; have hfz26_1 := qF BK523.out 1; have hfz26_2 := qF BK523.out 2; have hfz26_3 := qF BK523.out 3) | (go_at_call 86; (with_reducible refine (spec_l2Values.calls k _ _ l1_0 true _ ?side1 ?side2 A13.out).mono ?_); (case side1 => repeat (first | exact (qB HR1_0.out HB.out) | (with_reducible refine qc ?_ _) | (with_reducible refine qe ?_ _) | (with_reducible refine qf ?_))); (case side2 => exact HC1_0.out); rintro e w' ⟨rfl, ⟨nd, rfl⟩⟩; (try first | exact ⟨rfl, _, World.drewN_drewN _ _ _⟩ | exact ⟨rfl, _, Eq.trans (World.drewN_drewN _ _ _) (congrArg (World.drewN _) (Nat.add_assoc _ _ _))⟩)) | (go_at_call 86; (with_reducible refine (spec_l2Values.calls k _ _ l1_2 false _ ?side1 ?side2 A15.out).mono ?_); (case side1 => repeat (first | exact (qB HR1_2.out (by repeat (first | (with_reducible first | exact HB.out | apply qA | apply qN | apply qD | refine qS ?_ GE522.out | refine qS ?_ GE523.out) | exact HB.out))) | (with_reducible refine qc ?_ _) | (with_reducible refine qe ?_ _) | (with_reducible refine qf ?_))); (case side2 => exact HC1_2.out); rintro e w' ⟨rfl, ⟨nd, rfl⟩⟩; (try first | exact ⟨rfl, _, World.drewN_drewN _ _ _⟩ | exact ⟨rfl, _, Eq.trans (World.drewN_drewN _ _ _) (congrArg (World.drewN _) (Nat.add_assoc _ _ _))⟩)))
      repeat (go_quiet (fail); try go_wp2)
      go_meet
      case rel => exact ⟨_, (true), (by first | rfl | (simp; done) | (simp [*]; done)), H', ⟨by first | omega | exact Nat.le_refl _⟩, ⟨by (with_reducible repeat (first | refine qn ?_ _ | refine qd ?_ | refine qa ?_ _)); exact BK522.out⟩, ⟨by (with_reducible repeat (first | refine qn ?_ _ | refine qd ?_ | refine qa ?_ _)); exact BK523.out⟩, ⟨by repeat (first | (with_reducible first | exact HB.out | apply qA | apply qN | apply qD | refine qS ?_ GE522.out | refine qS ?_ GE523.out) | exact HB.out)⟩⟩
    subst c16
    have H1 : ((spec_TracesOk.f k l1_3).bind fun t527 => (spec_StateOk.j0 k (l0_0.length : Int) (!t527) l0_0 l0_1 l1_0 l1_1 l1_2 l1_3)) = some r := by rw [if_pos rfl] at H; exact H
    clear H
    have H := H1
    clear H1
    replace H := Option.bind_eq_some_iff.mp H
    obtain ⟨t527, A170, H⟩ := H
    replace H : (spec_StateOk.j0 k (l0_0.length : Int) (!t527) l0_0 l0_1 l1_0 l1_1 l1_2 l1_3) = some r := H
    have A17 := qM A170
    clear A170
    have H' := qM H
    clear H
    have hnb18 := NB522_523.out
    have hnc18 := NB523_522.out
    have hcz19_0 : w5.cell? ⟨gb522, 0, none⟩ = some (.slice A0_0 l0_0.length c0_0) := (qC BK522.out 0).trans rfl
    have hcz19_1 : w5.cell? ⟨gb522, 1, none⟩ = some (.slice A0_1 l0_1.length c0_1) := (qC BK522.out 1).trans rfl
    have hfz19_0 := qF BK522.out 0
    have hfz19_1 := qF BK522.out 1
    go_wp2_with (first | (go_at_call 85; (with_reducible refine (spec_SheetOk.calls k _ _ l0_0 _ _ l0_1 true _ ?side1 ?side2 ?side3 ?side4 A8.out).mono ?_); (case side1 => repeat (first | exact (qB HR0_0.out HB.out) | (with_reducible refine qc ?_ _) | (with_reducible refine qe ?_ _) | (with_reducible refine qf ?_))); (case side2 => exact HC0_0.out); (case side3 => repeat (first | exact (qB HR0_1.out HB.out) | (with_reducible refine qc ?_ _) | (with_reducible refine qe ?_ _) | (with_reducible refine qf ?_))); (case side4 => exact HC0_1.out); rintro e w20 ⟨rfl, hb⟩; have n0_ := qM (blk_below (g := gb522) (o := .cells #[.slice A0_0 l0_0.length c0_0, .slice A0_1 l0_1.length c0_1] 56 (0, 0)) (by (with_reducible repeat (first | refine qn ?_ _ | refine qd ?_ | refine qa ?_ _)); exact BK522.out) hb); have n1_ := qM (blk_below (g := gb523) (o := .cells #[.slice A1_0 l1_0.length c1_0, .slice A1_1 l1_1.length c1_1, .slice A1_2 l1_2.length c1_2, .slice A1_3 l1_3.length c1_3] 60 (0, 0)) (by (with_reducible repeat (first | refine qn ?_ _ | refine qd ?_ | refine qa ?_ _)); exact BK523.out) hb); have n2_ := qM (qs (by repeat (first | (with_reducible first | exact HB.out | apply qA | apply qN | apply qD | refine qS ?_ GE522.out | refine qS ?_ GE523.out) | exact HB.out)) hb); clear BK522; clear BK523; clear HB; have BK522 := n0_; have BK523 := n1_; have HB := n2_; clear n0_ n1_ n2_; (try clear hb); (try clear hb2); (try clear hk); (try clear hi); have hcz21_0 : w20.cell? ⟨gb523, 0, none⟩ = some (.slice A1_0 l1_0.length c1_0) := (qC BK523.out 0).trans rfl; have hcz21_1 : w20.cell? ⟨gb523, 1, none⟩ = some (.slice A1_1 l1_1.length c1_1) := (qC BK523.out 1).trans rfl; have hcz21_2 : w20.cell? ⟨gb523, 2, none⟩ = some (.slice A1_2 l1_2.length c1_2) := (qC BK523.out 2).trans rfl; have hcz21_3 : w20.cell? ⟨gb523, 3, none⟩ = some (.slice A1_3 l1_3.length c1_3) := (qC BK523.out 3).trans rfl; have hfz21_0 := qF BK523.out 0; have hfz21_1 := qF BK523.out 1; have hfz21_2 := qF BK523.out 2; have hfz21_3 := qF BK523.out 3) | (go_at_call 86; (with_reducible refine (spec_l2Values.calls k _ _ l1_0 true _ ?side1 ?side2 A13.out).mono ?_); (case side1 => repeat (first | exact (qB HR1_0.out HB.out) | (with_reducible refine qc ?_ _) | (with_reducible refine qe ?_ _) | (with_reducible refine qf ?_))); (case side2 => exact HC1_0.out); rintro e w' ⟨rfl, ⟨nd, rfl⟩⟩; (try first | exact ⟨rfl, _, World.drewN_drewN _ _ _⟩ | exact ⟨rfl, _, Eq.trans (World.drewN_drewN _ _ _) (congrArg (World.drewN _) (Nat.add_assoc _ _ _))⟩)) | (go_at_call 86; (with_reducible refine (spec_l2Values.calls k _ _ l1_2 true _ ?side1 ?side2 A15.out).mono ?_); (case side1 => repeat (first | exact (qB HR1_2.out (by repeat (first | (with_reducible first | exact HB.out | apply qA | apply qN | apply qD | refine qS ?_ GE522.out | refine qS ?_ GE523.out) | exact HB.out))) | (with_reducible refine qc ?_ _) | (with_reducible refine qe ?_ _) | (with_reducible refine qf ?_))); (case side2 => exact HC1_2.out); rintro e w' ⟨rfl, ⟨nd, rfl⟩⟩; (try first | exact ⟨rfl, _, World.drewN_drewN _ _ _⟩ | exact ⟨rfl, _, Eq.trans (World.drewN_drewN _ _ _) (congrArg (World.drewN _) (Nat.add_assoc _ _ _))⟩)) | (go_at_call 87; (with_reducible refine (spec_TracesOk.calls k _ _ l1_3 t527 _ ?side1 ?side2 A17.out).mono ?_); (case side1 => repeat (first | exact (qB HR1_3.out (by repeat (first | (with_reducible first | exact HB.out | apply qA | apply qN | apply qD | refine qS ?_ GE522.out | refine qS ?_ GE523.out) | exact HB.out))) | (with_reducible refine qc ?_ _) | (with_reducible refine qe ?_ _) | (with_reducible refine qf ?_))); (case side2 => exact HC1_3.out); rintro e w22 ⟨rfl, hb⟩; have n0_ := qM (blk_below (g := gb522) (o := .cells #[.slice A0_0 l0_0.length c0_0, .slice A0_1 l0_1.length c0_1] 56 (0, 0)) (by (with_reducible repeat (first | refine qn ?_ _ | refine qd ?_ | refine qa ?_ _)); exact BK522.out) hb); have n1_ := qM (blk_below (g := gb523) (o := .cells #[.slice A1_0 l1_0.length c1_0, .slice A1_1 l1_1.length c1_1, .slice A1_2 l1_2.length c1_2, .slice A1_3 l1_3.length c1_3] 60 (0, 0)) (by (with_reducible repeat (first | refine qn ?_ _ | refine qd ?_ | refine qa ?_ _)); exact BK523.out) hb); have n2_ := qM (qs (by repeat (first | (with_reducible first | exact HB.out | apply qA | apply qN | apply qD | refine qS ?_ GE522.out | refine qS ?_ GE523.out) | exact HB.out)) hb); clear BK522; clear BK523; clear HB; have BK522 := n0_; have BK523 := n1_; have HB := n2_; clear n0_ n1_ n2_; (try clear hb); (try clear hb2); (try clear hk); (try clear hi)))
    repeat (go_quiet (fail); try go_wp2)
    go_meet
    case rel => exact ⟨_, (!t527), (by first | rfl | (simp; done) | (simp [*]; done)), H', ⟨by first | omega | exact Nat.le_refl _⟩, ⟨by (with_reducible repeat (first | refine qn ?_ _ | refine qd ?_ | refine qa ?_ _)); exact BK522.out⟩, ⟨by (with_reducible repeat (first | refine qn ?_ _ | refine qd ?_ | refine qa ?_ _)); exact BK523.out⟩, ⟨by repeat (first | (with_reducible first | exact HB.out | apply qA | apply qN | apply qD | refine qS ?_ GE522.out | refine qS ?_ GE523.out) | exact HB.out)⟩⟩
  case rest =>
    clear HC3
    try clear c1
    try clear c2
    try clear p2
    try clear c3
    try clear c4
    try clear c6
    try clear c9
    try clear c10
    try clear c10b0
    try clear c10b1
    try clear c10b2
    try clear c11
    try clear c11b0
    try clear c11b1
    try clear c11b2
    try clear c12
    try clear c12b0
    try clear c12b1
    try clear c12b2
    try clear c14
    try clear c16
    try clear c18
    try clear c23
    try clear c27
    try clear c31
    try clear c34
    try clear c35
    try clear c39
    try clear c43
    try clear hcz19_0
    try clear hcz19_1
    try clear hcz21_0
    try clear hcz21_1
    try clear hcz21_2
    try clear hcz21_3
    try clear hcz24_0
    try clear hcz24_1
    try clear hcz26_0
    try clear hcz26_1
    try clear hcz26_2
    try clear hcz26_3
    try clear hcz28_0
    try clear hcz28_1
    try clear hcz30_0
    try clear hcz30_1
    try clear hcz30_2
    try clear hcz30_3
    try clear hcz32_0
    try clear hcz32_1
    try clear hcz34_0
    try clear hcz34_1
    try clear hcz34_2
    try clear hcz34_3
    try clear hcz36_0
    try clear hcz36_1
    try clear hcz38_0
    try clear hcz38_1
    try clear hcz38_2
    try clear hcz38_3
    try clear hcz40_0
    try clear hcz40_1
    try clear hcz42_0
    try clear hcz42_1
    try clear hcz42_2
    try clear hcz42_3
    try clear hcz44_0
    try clear hcz44_1
    try clear hcz7_0
    try clear hcz7_1
    try clear hfz19_0
    try clear hfz19_1
    try clear hfz21_0
    try clear hfz21_1
    try clear hfz21_2
    try clear hfz21_3
    try clear hfz24_0
    try clear hfz24_1
    try clear hfz26_0
    try clear hfz26_1
    try clear hfz26_2
    try clear hfz26_3
    try clear hfz28_0
    try clear hfz28_1
    try clear hfz30_0
    try clear hfz30_1
    try clear hfz30_2
    try clear hfz30_3
    try clear hfz32_0
    try clear hfz32_1
    try clear hfz34_0
    try clear hfz34_1
    try clear hfz34_2
    try clear hfz34_3
    try clear hfz36_0
    try clear hfz36_1
    try clear hfz38_0
    try clear hfz38_1
    try clear hfz38_2
    try clear hfz38_3
    try clear hfz40_0
    try clear hfz40_1
    try clear hfz42_0
    try clear hfz42_1
    try clear hfz42_2
    try clear hfz42_3
    try clear hfz44_0
    try clear hfz44_1
    try clear hfz7_0
    try clear hfz7_1
    obtain ⟨kq, x52_2, rfl, HA, HJ2, BK522, BK523, HB⟩ := hcut
    cases kq with
    | zero => exact absurd HA.out (by simp [spec_StateOk.j0])
    | succ kj2 =>
      have H := HA.out
      clear HA
      simp only [spec_StateOk.j0] at H
      by_cases c46 : x52_2 = true
      · subst c46
        have H1 : (some false) = some r := by rw [if_pos rfl] at H; exact H
        clear H
        have H := H1
        clear H1
        obtain rfl := Option.some.inj H
        go_wp2
        repeat (go_quiet (fail); try go_wp2)
        go_ret
        exact ⟨by first | rfl | (simp [errW_none, errW_some] <;> rfl) | (simp [*, errW_none, errW_some] <;> rfl), by repeat (first | (with_reducible first | exact HB.out | apply qA | apply qN | apply qD | refine qS ?_ GE522.out | refine qS ?_ GE523.out) | exact HB.out)⟩
      replace c46 := Bool.eq_false_iff.mpr c46
      subst c46
      have H1 : (spec_StateOk.l0 kj2 (l0_0.length : Int) 0 l0_0 l0_1 l1_0 l1_1 l1_2 l1_3) = some r := by rw [if_neg (show ¬ (false = true) by decide)] at H; exact H
      clear H
      have H := H1
      clear H1
      have H' := qM H
      clear H
      go_wp2
      repeat (go_quiet (fail); try go_wp2)
      go_loopg [6] kj2 (fun kq v6 w' => ∃ (x6_2 : Int), v6 = .int .i64 x6_2 ∧ Aside0 (spec_StateOk.l0 kq (l0_0.length : Int) x6_2 l0_0 l0_1 l1_0 l1_1 l1_2 l1_3 = some r) ∧ Aside0 (kq ≤ kj2) ∧ Aside0 (w'.heap[gb522]? = some (.cells #[(.slice A0_0 l0_0.length c0_0), (.slice A0_1 l0_1.length c0_1)] 56 (0, 0))) ∧ Aside0 (w'.heap[gb523]? = some (.cells #[(.slice A1_0 l1_0.length c1_0), (.slice A1_1 l1_1.length c1_1), (.slice A1_2 l1_2.length c1_2), (.slice A1_3 l1_3.length c1_3)] 60 (0, 0))) ∧ Aside0 (Below w.heap.size w w'))
      case atStart => exact ⟨(0), (by first | rfl | (simp; done) | (simp [*]; done)), H', ⟨Nat.le_refl _⟩, ⟨by (with_reducible repeat (first | refine qn ?_ _ | refine qd ?_ | refine qa ?_ _)); exact BK522.out⟩, ⟨by (with_reducible repeat (first | refine qn ?_ _ | refine qd ?_ | refine qa ?_ _)); exact BK523.out⟩, ⟨by repeat (first | (with_reducible first | exact HB.out | apply qA | apply qN | apply qD | refine qS ?_ GE522.out | refine qS ?_ GE523.out) | exact HB.out)⟩⟩
      case round =>
        clear H'
        try clear c1
        try clear c2
        try clear p2
        try clear c3
        try clear c4
        try clear c6
        try clear c9
        try clear c10
        try clear c10b0
        try clear c10b1
        try clear c10b2
        try clear c11
        try clear c11b0
        try clear c11b1
        try clear c11b2
        try clear c12
        try clear c12b0
        try clear c12b1
        try clear c12b2
        try clear c14
        try clear c16
        try clear c18
        try clear c23
        try clear c27
        try clear c31
        try clear c34
        try clear c35
        try clear c39
        try clear c43
        try clear c46
        try clear hcz19_0
        try clear hcz19_1
        try clear hcz21_0
        try clear hcz21_1
        try clear hcz21_2
        try clear hcz21_3
        try clear hcz24_0
        try clear hcz24_1
        try clear hcz26_0
        try clear hcz26_1
        try clear hcz26_2
        try clear hcz26_3
        try clear hcz28_0
        try clear hcz28_1
        try clear hcz30_0
        try clear hcz30_1
        try clear hcz30_2
        try clear hcz30_3
        try clear hcz32_0
        try clear hcz32_1
        try clear hcz34_0
        try clear hcz34_1
        try clear hcz34_2
        try clear hcz34_3
        try clear hcz36_0
        try clear hcz36_1
        try clear hcz38_0
        try clear hcz38_1
        try clear hcz38_2
        try clear hcz38_3
        try clear hcz40_0
        try clear hcz40_1
        try clear hcz42_0
        try clear hcz42_1
        try clear hcz42_2
        try clear hcz42_3
        try clear hcz44_0
        try clear hcz44_1
        try clear hcz7_0
        try clear hcz7_1
        try clear hfz19_0
        try clear hfz19_1
        try clear hfz21_0
        try clear hfz21_1
        try clear hfz21_2
        try clear hfz21_3
        try clear hfz24_0
        try clear hfz24_1
        try clear hfz26_0
        try clear hfz26_1
        try clear hfz26_2
        try clear hfz26_3
        try clear hfz28_0
        try clear hfz28_1
        try clear hfz30_0
        try clear hfz30_1
        try clear hfz30_2
        try clear hfz30_3
        try clear hfz32_0
        try clear hfz32_1
        try clear hfz34_0
        try clear hfz34_1
        try clear hfz34_2
        try clear hfz34_3
        try clear hfz36_0
        try clear hfz36_1
        try clear hfz38_0
        try clear hfz38_1
        try clear hfz38_2
        try clear hfz38_3
        try clear hfz40_0
        try clear hfz40_1
        try clear hfz42_0
        try clear hfz42_1
        try clear hfz42_2
        try clear hfz42_3
        try clear hfz44_0
        try clear hfz44_1
        try clear hfz7_0
        try clear hfz7_1
        try clear p2
        obtain ⟨x6_2, rfl, HA, HK2, BK522, BK523, HB⟩ := hrel
        cases gk with
        | zero => exact absurd HA.out (by simp [spec_StateOk.l0])
        | succ k2 =>
          have H := HA.out
          clear HA
          simp only [spec_StateOk.l0] at H
          by_cases c47 : x6_2 < (l0_0.length : Int)
          · rw [if_pos c47] at H
            have c47b0 : decide (x6_2 < (l0_0.length : Int)) = true := decide_eq_true c47
            clear c47
            replace H := Option.bind_eq_some_iff.mp H
            obtain ⟨t528, A480, H⟩ := H
            replace H : (if t528 = true then (spec_StateOk.l0 k2 (l0_0.length : Int) (wrap64 (x6_2 + 1)) l0_0 l0_1 l1_0 l1_1 l1_2 l1_3) else (some false)) = some r := H
            have A48 := qM A480
            clear A480
            by_cases c49 : t528 = true
            rotate_left
            · replace c49 := Bool.eq_false_iff.mpr c49
              subst c49
              have H1 : (some false) = some r := by rw [if_neg (show ¬ (false = true) by decide)] at H; exact H
              clear H
              have H := H1
              clear H1
              obtain rfl := Option.some.inj H
              have hnb54 := NB522_523.out
              have hnc54 := NB523_522.out
              have hcz55_0 : wr.cell? ⟨gb522, 0, none⟩ = some (.slice A0_0 l0_0.length c0_0) := (qC BK522.out 0).trans rfl
              have hcz55_1 : wr.cell? ⟨gb522, 1, none⟩ = some (.slice A0_1 l0_1.length c0_1) := (qC BK522.out 1).trans rfl
              have hfz55_0 := qF BK522.out 0
              have hfz55_1 := qF BK522.out 1
              have hcz56_0 : wr.cell? ⟨gb523, 0, none⟩ = some (.slice A1_0 l1_0.length c1_0) := (qC BK523.out 0).trans rfl
              have hcz56_1 : wr.cell? ⟨gb523, 1, none⟩ = some (.slice A1_1 l1_1.length c1_1) := (qC BK523.out 1).trans rfl
              have hcz56_2 : wr.cell? ⟨gb523, 2, none⟩ = some (.slice A1_2 l1_2.length c1_2) := (qC BK523.out 2).trans rfl
              have hcz56_3 : wr.cell? ⟨gb523, 3, none⟩ = some (.slice A1_3 l1_3.length c1_3) := (qC BK523.out 3).trans rfl
              have hfz56_0 := qF BK523.out 0
              have hfz56_1 := qF BK523.out 1
              have hfz56_2 := qF BK523.out 2
              have hfz56_3 := qF BK523.out 3
              go_wp2_with (first | (go_at_call 88; (with_reducible refine (spec_l6Kept.calls _ _ l0_0 _ _ l0_1 _ _ l1_0 _ _ l1_1 _ _ l1_2 _ _ l1_3 x6_2 false _ ?side1 ?side2 ?side3 ?side4 ?side5 ?side6 ?side7 ?side8 ?side9 ?side10 ?side11 ?side12 A48.out).mono ?_); (case side1 => repeat (first | exact (qB HR0_0.out HB.out) | (with_reducible refine qc ?_ _) | (with_reducible refine qe ?_ _) | (with_reducible refine qf ?_))); (case side2 => exact HC0_0.out); (case side3 => repeat (first | exact (qB HR0_1.out HB.out) | (with_reducible refine qc ?_ _) | (with_reducible refine qe ?_ _) | (with_reducible refine qf ?_))); (case side4 => exact HC0_1.out); (case side5 => repeat (first | exact (qB HR1_0.out HB.out) | (with_reducible refine qc ?_ _) | (with_reducible refine qe ?_ _) | (with_reducible refine qf ?_))); (case side6 => exact HC1_0.out); (case side7 => repeat (first | exact (qB HR1_1.out HB.out) | (with_reducible refine qc ?_ _) | (with_reducible refine qe ?_ _) | (with_reducible refine qf ?_))); (case side8 => exact HC1_1.out); (case side9 => repeat (first | exact (qB HR1_2.out HB.out) | (with_reducible refine qc ?_ _) | (with_reducible refine qe ?_ _) | (with_reducible refine qf ?_))); (case side10 => exact HC1_2.out); (case side11 => repeat (first | exact (qB HR1_3.out HB.out) | (with_reducible refine qc ?_ _) | (with_reducible refine qe ?_ _) | (with_reducible refine qf ?_))); (case side12 => exact HC1_3.out); rintro e w57 ⟨rfl, hb⟩; have n0_ := qM (blk_below (g := gb522) (o := .cells #[.slice A0_0 l0_0.length c0_0, .slice A0_1 l0_1.length c0_1] 56 (0, 0)) (by (with_reducible repeat (first | refine qn ?_ _ | refine qd ?_ | refine qa ?_ _)); exact BK522.out) hb); have n1_ := qM (blk_below (g := gb523) (o := .cells #[.slice A1_0 l1_0.length c1_0, .slice A1_1 l1_1.length c1_1, .slice A1_2 l1_2.length c1_2, .slice A1_3 l1_3.length c1_3] 60 (0, 0)) (by (with_reducible repeat (first | refine qn ?_ _ | refine qd ?_ | refine qa ?_ _)); exact BK523.out) hb); have n2_ := qM (qs (by repeat (first | (with_reducible first | exact HB.out | apply qA | apply qN | apply qD | refine qS ?_ GE522.out | refine qS ?_ GE523.out) | exact HB.out)) hb); clear BK522; clear BK523; clear HB; have BK522 := n0_; have BK523 := n1_; have HB := n2_; clear n0_ n1_ n2_; (try clear hb); (try clear hb2); (try clear hk); (try clear hi)))
              repeat (go_quiet (fail); try go_wp2)
              go_ret
              exact ⟨by first | rfl | (simp [errW_none, errW_some] <;> rfl) | (simp [*, errW_none, errW_some] <;> rfl), by repeat (first | (with_reducible first | exact HB.out | apply qA | apply qN | apply qD | refine qS ?_ GE522.out | refine qS ?_ GE523.out) | exact HB.out)⟩
            subst c49
            have H1 : (spec_StateOk.l0 k2 (l0_0.length : Int) (wrap64 (x6_2 + 1)) l0_0 l0_1 l1_0 l1_1 l1_2 l1_3) = some r := by rw [if_pos rfl] at H; exact H
            clear H
            have H := H1
            clear H1
            have H' := qM H
            clear H
            have hnb50 := NB522_523.out
            have hnc50 := NB523_522.out
            have hcz51_0 : wr.cell? ⟨gb522, 0, none⟩ = some (.slice A0_0 l0_0.length c0_0) := (qC BK522.out 0).trans rfl
            have hcz51_1 : wr.cell? ⟨gb522, 1, none⟩ = some (.slice A0_1 l0_1.length c0_1) := (qC BK522.out 1).trans rfl
            have hfz51_0 := qF BK522.out 0
            have hfz51_1 := qF BK522.out 1
            have hcz52_0 : wr.cell? ⟨gb523, 0, none⟩ = some (.slice A1_0 l1_0.length c1_0) := (qC BK523.out 0).trans rfl
            have hcz52_1 : wr.cell? ⟨gb523, 1, none⟩ = some (.slice A1_1 l1_1.length c1_1) := (qC BK523.out 1).trans rfl
            have hcz52_2 : wr.cell? ⟨gb523, 2, none⟩ = some (.slice A1_2 l1_2.length c1_2) := (qC BK523.out 2).trans rfl
            have hcz52_3 : wr.cell? ⟨gb523, 3, none⟩ = some (.slice A1_3 l1_3.length c1_3) := (qC BK523.out 3).trans rfl
            have hfz52_0 := qF BK523.out 0
            have hfz52_1 := qF BK523.out 1
            have hfz52_2 := qF BK523.out 2
            have hfz52_3 := qF BK523.out 3
            go_wp2_with (first | (go_at_call 88; (with_reducible refine (spec_l6Kept.calls _ _ l0_0 _ _ l0_1 _ _ l1_0 _ _ l1_1 _ _ l1_2 _ _ l1_3 x6_2 true _ ?side1 ?side2 ?side3 ?side4 ?side5 ?side6 ?side7 ?side8 ?side9 ?side10 ?side11 ?side12 A48.out).mono ?_); (case side1 => repeat (first | exact (qB HR0_0.out HB.out) | (with_reducible refine qc ?_ _) | (with_reducible refine qe ?_ _) | (with_reducible refine qf ?_))); (case side2 => exact HC0_0.out); (case side3 => repeat (first | exact (qB HR0_1.out HB.out) | (with_reducible refine qc ?_ _) | (with_reducible refine qe ?_ _) | (with_reducible refine qf ?_))); (case side4 => exact HC0_1.out); (case side5 => repeat (first | exact (qB HR1_0.out HB.out) | (with_reducible refine qc ?_ _) | (with_reducible refine qe ?_ _) | (with_reducible refine qf ?_))); (case side6 => exact HC1_0.out); (case side7 => repeat (first | exact (qB HR1_1.out HB.out) | (with_reducible refine qc ?_ _) | (with_reducible refine qe ?_ _) | (with_reducible refine qf ?_))); (case side8 => exact HC1_1.out); (case side9 => repeat (first | exact (qB HR1_2.out HB.out) | (with_reducible refine qc ?_ _) | (with_reducible refine qe ?_ _) | (with_reducible refine qf ?_))); (case side10 => exact HC1_2.out); (case side11 => repeat (first | exact (qB HR1_3.out HB.out) | (with_reducible refine qc ?_ _) | (with_reducible refine qe ?_ _) | (with_reducible refine qf ?_))); (case side12 => exact HC1_3.out); rintro e w53 ⟨rfl, hb⟩; have n0_ := qM (blk_below (g := gb522) (o := .cells #[.slice A0_0 l0_0.length c0_0, .slice A0_1 l0_1.length c0_1] 56 (0, 0)) (by (with_reducible repeat (first | refine qn ?_ _ | refine qd ?_ | refine qa ?_ _)); exact BK522.out) hb); have n1_ := qM (blk_below (g := gb523) (o := .cells #[.slice A1_0 l1_0.length c1_0, .slice A1_1 l1_1.length c1_1, .slice A1_2 l1_2.length c1_2, .slice A1_3 l1_3.length c1_3] 60 (0, 0)) (by (with_reducible repeat (first | refine qn ?_ _ | refine qd ?_ | refine qa ?_ _)); exact BK523.out) hb); have n2_ := qM (qs (by repeat (first | (with_reducible first | exact HB.out | apply qA | apply qN | apply qD | refine qS ?_ GE522.out | refine qS ?_ GE523.out) | exact HB.out)) hb); clear BK522; clear BK523; clear HB; have BK522 := n0_; have BK523 := n1_; have HB := n2_; clear n0_ n1_ n2_; (try clear hb); (try clear hb2); (try clear hk); (try clear hi)))
            repeat (go_quiet (fail); try go_wp2)
            go_roundg k2
            case measure => have := HJ2.out; have := HK2.out; omega
            case rel => exact ⟨(wrap64 (x6_2 + 1)), (by first | rfl | (simp; done) | (simp [*]; done)), H', ⟨by have := HJ2.out; have := HK2.out; omega⟩, ⟨by (with_reducible repeat (first | refine qn ?_ _ | refine qd ?_ | refine qa ?_ _)); exact BK522.out⟩, ⟨by (with_reducible repeat (first | refine qn ?_ _ | refine qd ?_ | refine qa ?_ _)); exact BK523.out⟩, ⟨by repeat (first | (with_reducible first | exact HB.out | apply qA | apply qN | apply qD | refine qS ?_ GE522.out | refine qS ?_ GE523.out) | exact HB.out)⟩⟩
          rw [if_neg c47] at H
          have c47b0 : decide (x6_2 < (l0_0.length : Int)) = false := decide_eq_false c47
          clear c47
          have H' := qM H
          clear H
          go_wp2
          repeat (go_quiet (fail); try go_wp2)
          go_loopg [7] k2 (fun kq v7 w' => ∃ (x7_3 : Int), v7 = .int .i64 x7_3 ∧ Aside0 (spec_StateOk.l1 kq (l0_0.length : Int) x7_3 l0_0 l0_1 l1_0 l1_1 l1_2 l1_3 = some r) ∧ Aside0 (kq ≤ k2) ∧ Aside0 (w'.heap[gb522]? = some (.cells #[(.slice A0_0 l0_0.length c0_0), (.slice A0_1 l0_1.length c0_1)] 56 (0, 0))) ∧ Aside0 (w'.heap[gb523]? = some (.cells #[(.slice A1_0 l1_0.length c1_0), (.slice A1_1 l1_1.length c1_1), (.slice A1_2 l1_2.length c1_2), (.slice A1_3 l1_3.length c1_3)] 60 (0, 0))) ∧ Aside0 (Below w.heap.size w w'))
          case atStart => exact ⟨(0), (by first | rfl | (simp; done) | (simp [*]; done)), H', ⟨Nat.le_refl _⟩, ⟨by (with_reducible repeat (first | refine qn ?_ _ | refine qd ?_ | refine qa ?_ _)); exact BK522.out⟩, ⟨by (with_reducible repeat (first | refine qn ?_ _ | refine qd ?_ | refine qa ?_ _)); exact BK523.out⟩, ⟨by repeat (first | (with_reducible first | exact HB.out | apply qA | apply qN | apply qD | refine qS ?_ GE522.out | refine qS ?_ GE523.out) | exact HB.out)⟩⟩
          case round =>
            clear H'
            try clear c1
            try clear c2
            try clear p2
            try clear c3
            try clear c4
            try clear c5
            try clear c6
            try clear p6
            try clear c9
            try clear c10
            try clear c10b0
            try clear c10b1
            try clear c10b2
            try clear c11
            try clear c11b0
            try clear c11b1
            try clear c11b2
            try clear c12
            try clear c12b0
            try clear c12b1
            try clear c12b2
            try clear c14
            try clear c16
            try clear c18
            try clear c23
            try clear c27
            try clear c31
            try clear c34
            try clear c35
            try clear c39
            try clear c43
            try clear c46
            try clear c47
            try clear c47b0
            try clear c49
            try clear c50
            try clear c54
            try clear hcz19_0
            try clear hcz19_1
            try clear hcz21_0
            try clear hcz21_1
            try clear hcz21_2
            try clear hcz21_3
            try clear hcz24_0
            try clear hcz24_1
            try clear hcz26_0
            try clear hcz26_1
            try clear hcz26_2
            try clear hcz26_3
            try clear hcz28_0
            try clear hcz28_1
            try clear hcz30_0
            try clear hcz30_1
            try clear hcz30_2
            try clear hcz30_3
            try clear hcz32_0
            try clear hcz32_1
            try clear hcz34_0
            try clear hcz34_1
            try clear hcz34_2
            try clear hcz34_3
            try clear hcz36_0
            try clear hcz36_1
            try clear hcz38_0
            try clear hcz38_1
            try clear hcz38_2
            try clear hcz38_3
            try clear hcz40_0
            try clear hcz40_1
            try clear hcz42_0
            try clear hcz42_1
            try clear hcz42_2
            try clear hcz42_3
            try clear hcz44_0
            try clear hcz44_1
            try clear hcz51_0
            try clear hcz51_1
            try clear hcz52_0
            try clear hcz52_1
            try clear hcz52_2
            try clear hcz52_3
            try clear hcz55_0
            try clear hcz55_1
            try clear hcz56_0
            try clear hcz56_1
            try clear hcz56_2
            try clear hcz56_3
            try clear hcz7_0
            try clear hcz7_1
            try clear hfz19_0
            try clear hfz19_1
            try clear hfz21_0
            try clear hfz21_1
            try clear hfz21_2
            try clear hfz21_3
            try clear hfz24_0
            try clear hfz24_1
            try clear hfz26_0
            try clear hfz26_1
            try clear hfz26_2
            try clear hfz26_3
            try clear hfz28_0
            try clear hfz28_1
            try clear hfz30_0
            try clear hfz30_1
            try clear hfz30_2
            try clear hfz30_3
            try clear hfz32_0
            try clear hfz32_1
            try clear hfz34_0
            try clear hfz34_1
            try clear hfz34_2
            try clear hfz34_3
            try clear hfz36_0
            try clear hfz36_1
            try clear hfz38_0
            try clear hfz38_1
            try clear hfz38_2
            try clear hfz38_3
            try clear hfz40_0
            try clear hfz40_1
            try clear hfz42_0
            try clear hfz42_1
            try clear hfz42_2
            try clear hfz42_3
            try clear hfz44_0
            try clear hfz44_1
            try clear hfz51_0
            try clear hfz51_1
            try clear hfz52_0
            try clear hfz52_1
            try clear hfz52_2
            try clear hfz52_3
            try clear hfz55_0
            try clear hfz55_1
            try clear hfz56_0
            try clear hfz56_1
            try clear hfz56_2
            try clear hfz56_3
            try clear hfz7_0
            try clear hfz7_1
            try clear p2
            obtain ⟨x7_3, rfl, HA, HK3, BK522, BK523, HB⟩ := hrel
            cases gk with
            | zero => exact absurd HA.out (by simp [spec_StateOk.l1])
            | succ k3 =>
              have H := HA.out
              clear HA
              simp only [spec_StateOk.l1] at H
              by_cases c58 : x7_3 < (l1_3.length : Int)
              rotate_left
              · rw [if_neg c58] at H
                have c58b0 : decide (x7_3 < (l1_3.length : Int)) = false := decide_eq_false c58
                clear c58
                obtain rfl := Option.some.inj H
                have hnb73 := NB523_522.out
                have hnc73 := NB522_523.out
                have hcz74_0 : wr.cell? ⟨gb523, 0, none⟩ = some (.slice A1_0 l1_0.length c1_0) := (qC BK523.out 0).trans rfl
                have hcz74_1 : wr.cell? ⟨gb523, 1, none⟩ = some (.slice A1_1 l1_1.length c1_1) := (qC BK523.out 1).trans rfl
                have hcz74_2 : wr.cell? ⟨gb523, 2, none⟩ = some (.slice A1_2 l1_2.length c1_2) := (qC BK523.out 2).trans rfl
                have hcz74_3 : wr.cell? ⟨gb523, 3, none⟩ = some (.slice A1_3 l1_3.length c1_3) := (qC BK523.out 3).trans rfl
                have hfz74_0 := qF BK523.out 0
                have hfz74_1 := qF BK523.out 1
                have hfz74_2 := qF BK523.out 2
                have hfz74_3 := qF BK523.out 3
                go_wp2
                repeat (go_quiet (fail); try go_wp2)
                go_ret
                exact ⟨by first | rfl | (simp [errW_none, errW_some] <;> rfl) | (simp [*, errW_none, errW_some] <;> rfl), by repeat (first | (with_reducible first | exact HB.out | apply qA | apply qN | apply qD | refine qS ?_ GE522.out | refine qS ?_ GE523.out) | exact HB.out)⟩
              rw [if_pos c58] at H
              have c58b0 : decide (x7_3 < (l1_3.length : Int)) = true := decide_eq_true c58
              clear c58
              by_cases c59 : 0 ≤ x7_3
              rotate_left
              · rw [if_neg c59] at H
                exact absurd H (by simp)
              rw [if_pos c59] at H
              have c59b0 : decide (0 ≤ x7_3) = true := decide_eq_true c59
              clear c59
              by_cases c60 : ((rd_T87 l1_3 x7_3).f0) ≥ (l0_0.length : Int)
              · rw [if_pos c60] at H
                have c60b0 : decide ((l0_0.length : Int) ≤ ((rd_T87 l1_3 x7_3).f0)) = true := decide_eq_true c60
                clear c60
                obtain rfl := Option.some.inj H
                have hnb61 := NB523_522.out
                have hnc61 := NB522_523.out
                have hcz62_0 : wr.cell? ⟨gb523, 0, none⟩ = some (.slice A1_0 l1_0.length c1_0) := (qC BK523.out 0).trans rfl
                have hcz62_1 : wr.cell? ⟨gb523, 1, none⟩ = some (.slice A1_1 l1_1.length c1_1) := (qC BK523.out 1).trans rfl
                have hcz62_2 : wr.cell? ⟨gb523, 2, none⟩ = some (.slice A1_2 l1_2.length c1_2) := (qC BK523.out 2).trans rfl
                have hcz62_3 : wr.cell? ⟨gb523, 3, none⟩ = some (.slice A1_3 l1_3.length c1_3) := (qC BK523.out 3).trans rfl
                have hfz62_0 := qF BK523.out 0
                have hfz62_1 := qF BK523.out 1
                have hfz62_2 := qF BK523.out 2
                have hfz62_3 := qF BK523.out 3
                have p529 : 0 ≤ (x7_3 : Int) := qO (by first | (with_reducible assumption) | assumption)
                have q529 : x7_3 < (l1_3.length : Int) := qO (by first | (with_reducible assumption) | assumption)
                obtain ⟨ad529, A529_1, c529_1, e529, hx529_0, hx529_1, hx529_2, hl529_1, hi529_1⟩ := at_T87 HR1_3.out x7_3 p529 q529
                cases e529
                replace hx529_0 := (HB.out.cell (qL w _ hx529_0)).trans hx529_0
                replace hx529_1 := (HB.out.cell (qL w _ hx529_1)).trans hx529_1
                replace hx529_2 := (HB.out.cell (qL w _ hx529_2)).trans hx529_2
                have HR529_1 := qM hi529_1
                have HC529_1 := qM hl529_1
                clear hi529_1 hl529_1
                replace p529 := eq_true p529
                replace q529 := eq_true q529
                go_wp2
                repeat (go_quiet (fail); try go_wp2)
                go_ret
                exact ⟨by first | rfl | (simp [errW_none, errW_some] <;> rfl) | (simp [*, errW_none, errW_some] <;> rfl), by repeat (first | (with_reducible first | exact HB.out | apply qA | apply qN | apply qD | refine qS ?_ GE522.out | refine qS ?_ GE523.out) | exact HB.out)⟩
              rw [if_neg c60] at H
              have c60b0 : decide ((l0_0.length : Int) ≤ ((rd_T87 l1_3 x7_3).f0)) = false := decide_eq_false c60
              clear c60
              by_cases c63 : 0 ≤ ((rd_T87 l1_3 x7_3).f0)
              rotate_left
              · rw [if_neg c63] at H
                exact absurd H (by simp)
              rw [if_pos c63] at H
              have c63b0 : decide (0 ≤ ((rd_T87 l1_3 x7_3).f0)) = true := decide_eq_true c63
              clear c63
              by_cases c64 : ((rd_T87 l1_3 x7_3).f0) < (l0_0.length : Int)
              rotate_left
              · rw [if_neg c64] at H
                exact absurd H (by simp)
              rw [if_pos c64] at H
              have c64b0 : decide (((rd_T87 l1_3 x7_3).f0) < (l0_0.length : Int)) = true := decide_eq_true c64
              clear c64
              obtain ⟨bq65, hbq65⟩ : ∃ b_ : Bool, b_ = (rdOf false l0_0 ((rd_T87 l1_3 x7_3).f0)) := ⟨_, rfl⟩
              replace H : (if (bq65 = true) then (spec_StateOk.l1 k3 (l0_0.length : Int) (wrap64 (x7_3 + 1)) l0_0 l0_1 l1_0 l1_1 l1_2 l1_3) else (some false)) = some r := by rw [← hbq65] at H; exact H
              have Nbq65 := qM hbq65
              clear hbq65
              by_cases c66 : (bq65 = true)
              rotate_left
              · replace c66 := Bool.eq_false_iff.mpr c66
                subst c66
                have H1 : (some false) = some r := by rw [if_neg (show ¬ (false = true) by decide)] at H; exact H
                clear H
                have H := H1
                clear H1
                obtain rfl := Option.some.inj H
                have hnb70 := NB523_522.out
                have hnc70 := NB522_523.out
                have hcz71_0 : wr.cell? ⟨gb523, 0, none⟩ = some (.slice A1_0 l1_0.length c1_0) := (qC BK523.out 0).trans rfl
                have hcz71_1 : wr.cell? ⟨gb523, 1, none⟩ = some (.slice A1_1 l1_1.length c1_1) := (qC BK523.out 1).trans rfl
                have hcz71_2 : wr.cell? ⟨gb523, 2, none⟩ = some (.slice A1_2 l1_2.length c1_2) := (qC BK523.out 2).trans rfl
                have hcz71_3 : wr.cell? ⟨gb523, 3, none⟩ = some (.slice A1_3 l1_3.length c1_3) := (qC BK523.out 3).trans rfl
                have hfz71_0 := qF BK523.out 0
                have hfz71_1 := qF BK523.out 1
                have hfz71_2 := qF BK523.out 2
                have hfz71_3 := qF BK523.out 3
                have p529 : 0 ≤ (x7_3 : Int) := qO (by first | (with_reducible assumption) | assumption)
                have q529 : x7_3 < (l1_3.length : Int) := qO (by first | (with_reducible assumption) | assumption)
                obtain ⟨ad529, A529_1, c529_1, e529, hx529_0, hx529_1, hx529_2, hl529_1, hi529_1⟩ := at_T87 HR1_3.out x7_3 p529 q529
                cases e529
                replace hx529_0 := (HB.out.cell (qL w _ hx529_0)).trans hx529_0
                replace hx529_1 := (HB.out.cell (qL w _ hx529_1)).trans hx529_1
                replace hx529_2 := (HB.out.cell (qL w _ hx529_2)).trans hx529_2
                have HR529_1 := qM hi529_1
                have HC529_1 := qM hl529_1
                clear hi529_1 hl529_1
                replace p529 := eq_true p529
                replace q529 := eq_true q529
                have hcz72_0 : wr.cell? ⟨gb522, 0, none⟩ = some (.slice A0_0 l0_0.length c0_0) := (qC BK522.out 0).trans rfl
                have hcz72_1 : wr.cell? ⟨gb522, 1, none⟩ = some (.slice A0_1 l0_1.length c0_1) := (qC BK522.out 1).trans rfl
                have hfz72_0 := qF BK522.out 0
                have hfz72_1 := qF BK522.out 1
                have p530 : 0 ≤ (x7_3 : Int) := qO (by first | (with_reducible assumption) | assumption)
                have q530 : x7_3 < (l1_3.length : Int) := qO (by first | (with_reducible assumption) | assumption)
                obtain ⟨ad530, A530_1, c530_1, e530, hx530_0, hx530_1, hx530_2, hl530_1, hi530_1⟩ := at_T87 HR1_3.out x7_3 p530 q530
                obtain rfl : ad529 = ad530 := (by injection e530)
                replace hx530_0 := (HB.out.cell (qL w _ hx530_0)).trans hx530_0
                replace hx530_1 := (HB.out.cell (qL w _ hx530_1)).trans hx530_1
                replace hx530_2 := (HB.out.cell (qL w _ hx530_2)).trans hx530_2
                have HR530_1 := qM hi530_1
                have HC530_1 := qM hl530_1
                clear hi530_1 hl530_1
                replace p530 := eq_true p530
                replace q530 := eq_true q530
                have ea_ := Option.some.inj (hx529_1.symm.trans hx530_1)
                injection ea_ with ea_ en_ ec_
                subst ea_
                subst ec_
                clear en_
                have p531 : 0 ≤ (((rd_T87 l1_3 x7_3).f0) : Int) := qO (by first | (with_reducible assumption) | assumption)
                have q531 : ((rd_T87 l1_3 x7_3).f0) < (l0_0.length : Int) := qO (by first | (with_reducible assumption) | assumption)
                obtain ⟨ad531, e531, hx531_0⟩ := Kd.at_bool HR0_0.out ((rd_T87 l1_3 x7_3).f0) p531 q531
                (try rw [← Nbq65.out] at hx531_0)
                cases e531
                replace hx531_0 := (HB.out.cell (qL w _ hx531_0)).trans hx531_0
                replace p531 := eq_true p531
                replace q531 := eq_true q531
                go_wp2
                repeat (go_quiet (fail); try go_wp2)
                go_ret
                exact ⟨by first | rfl | (simp [errW_none, errW_some] <;> rfl) | (simp [*, errW_none, errW_some] <;> rfl), by repeat (first | (with_reducible first | exact HB.out | apply qA | apply qN | apply qD | refine qS ?_ GE522.out | refine qS ?_ GE523.out) | exact HB.out)⟩
              subst c66
              have H1 : (spec_StateOk.l1 k3 (l0_0.length : Int) (wrap64 (x7_3 + 1)) l0_0 l0_1 l1_0 l1_1 l1_2 l1_3) = some r := by rw [if_pos rfl] at H; exact H
              clear H
              have H := H1
              clear H1
              have H' := qM H
              clear H
              have hnb67 := NB523_522.out
              have hnc67 := NB522_523.out
              have hcz68_0 : wr.cell? ⟨gb523, 0, none⟩ = some (.slice A1_0 l1_0.length c1_0) := (qC BK523.out 0).trans rfl
              have hcz68_1 : wr.cell? ⟨gb523, 1, none⟩ = some (.slice A1_1 l1_1.length c1_1) := (qC BK523.out 1).trans rfl
              have hcz68_2 : wr.cell? ⟨gb523, 2, none⟩ = some (.slice A1_2 l1_2.length c1_2) := (qC BK523.out 2).trans rfl
              have hcz68_3 : wr.cell? ⟨gb523, 3, none⟩ = some (.slice A1_3 l1_3.length c1_3) := (qC BK523.out 3).trans rfl
              have hfz68_0 := qF BK523.out 0
              have hfz68_1 := qF BK523.out 1
              have hfz68_2 := qF BK523.out 2
              have hfz68_3 := qF BK523.out 3
              have p529 : 0 ≤ (x7_3 : Int) := qO (by first | (with_reducible assumption) | assumption)
              have q529 : x7_3 < (l1_3.length : Int) := qO (by first | (with_reducible assumption) | assumption)
              obtain ⟨ad529, A529_1, c529_1, e529, hx529_0, hx529_1, hx529_2, hl529_1, hi529_1⟩ := at_T87 HR1_3.out x7_3 p529 q529
              cases e529
              replace hx529_0 := (HB.out.cell (qL w _ hx529_0)).trans hx529_0
              replace hx529_1 := (HB.out.cell (qL w _ hx529_1)).trans hx529_1
              replace hx529_2 := (HB.out.cell (qL w _ hx529_2)).trans hx529_2
              have HR529_1 := qM hi529_1
              have HC529_1 := qM hl529_1
              clear hi529_1 hl529_1
              replace p529 := eq_true p529
              replace q529 := eq_true q529
              have hcz69_0 : wr.cell? ⟨gb522, 0, none⟩ = some (.slice A0_0 l0_0.length c0_0) := (qC BK522.out 0).trans rfl
              have hcz69_1 : wr.cell? ⟨gb522, 1, none⟩ = some (.slice A0_1 l0_1.length c0_1) := (qC BK522.out 1).trans rfl
              have hfz69_0 := qF BK522.out 0
              have hfz69_1 := qF BK522.out 1
              have p530 : 0 ≤ (x7_3 : Int) := qO (by first | (with_reducible assumption) | assumption)
              have q530 : x7_3 < (l1_3.length : Int) := qO (by first | (with_reducible assumption) | assumption)
              obtain ⟨ad530, A530_1, c530_1, e530, hx530_0, hx530_1, hx530_2, hl530_1, hi530_1⟩ := at_T87 HR1_3.out x7_3 p530 q530
              obtain rfl : ad529 = ad530 := (by injection e530)
              replace hx530_0 := (HB.out.cell (qL w _ hx530_0)).trans hx530_0
              replace hx530_1 := (HB.out.cell (qL w _ hx530_1)).trans hx530_1
              replace hx530_2 := (HB.out.cell (qL w _ hx530_2)).trans hx530_2
              have HR530_1 := qM hi530_1
              have HC530_1 := qM hl530_1
              clear hi530_1 hl530_1
              replace p530 := eq_true p530
              replace q530 := eq_true q530
              have ea_ := Option.some.inj (hx529_1.symm.trans hx530_1)
              injection ea_ with ea_ en_ ec_
              subst ea_
              subst ec_
              clear en_
              have p531 : 0 ≤ (((rd_T87 l1_3 x7_3).f0) : Int) := qO (by first | (with_reducible assumption) | assumption)
              have q531 : ((rd_T87 l1_3 x7_3).f0) < (l0_0.length : Int) := qO (by first | (with_reducible assumption) | assumption)
              obtain ⟨ad531, e531, hx531_0⟩ := Kd.at_bool HR0_0.out ((rd_T87 l1_3 x7_3).f0) p531 q531
              (try rw [← Nbq65.out] at hx531_0)
              cases e531
              replace hx531_0 := (HB.out.cell (qL w _ hx531_0)).trans hx531_0
              replace p531 := eq_true p531
              replace q531 := eq_true q531
              go_wp2
              repeat (go_quiet (fail); try go_wp2)
              go_roundg k3
              case measure => have := HJ2.out; have := HK2.out; have := HK3.out; omega
              case rel => exact ⟨(wrap64 (x7_3 + 1)), (by first | rfl | (simp; done) | (simp [*]; done)), H', ⟨by have := HJ2.out; have := HK2.out; have := HK3.out; omega⟩, ⟨by (with_reducible repeat (first | refine qn ?_ _ | refine qd ?_ | refine qa ?_ _)); exact BK522.out⟩, ⟨by (with_reducible repeat (first | refine qn ?_ _ | refine qd ?_ | refine qa ?_ _)); exact BK523.out⟩, ⟨by repeat (first | (with_reducible first | exact HB.out | apply qA | apply qN | apply qD | refine qS ?_ GE522.out | refine qS ?_ GE523.out) | exact HB.out)⟩⟩
end Go.Proofs.Ytgbjbpjmbghlbaa.G
end
section
namespace Go.Proofs.Ytgbjbpjmbghlbaa.G
open Go.RowKit Go.Proofs.YtgbjbpjmbghlbaaW.PrintWords Go.Proofs.YtgbjbpjmbghlbaaW.PrintLast Go.Proofs.YtgbjbpjmbghlbaaW.PrintMore
set_option linter.unusedVariables false
set_option linter.unusedSimpArgs false
def impl_Trace_ok_1_any.f (l0 : List S117) : Option Bool := if (∀ x ∈ l0, (impl_Trace_ok_1.f x.f0 x.f1).isSome = true) then some (l0.any fun x => (impl_Trace_ok_1.f x.f0 x.f1).getD false) else none
theorem impl_Trace_ok_1_any.calls (A0 : Option Addr) (c0 : Nat) (l0 : List S117) (r : Bool) (w : World) (hr0 : Kd.C k117 w A0 l0.length l0) (hc0 : l0.length ≤ c0) (h : impl_Trace_ok_1_any.f l0 = some r) :
    Calls Try.prog 139 #[.slice A0 l0.length c0, .func (.func 157) #[] #[]] w fun e w' => e = .returned (.bool r) ∧ Below w.heap.size w w' := by
  unfold impl_Trace_ok_1_any.f at h
  split at h
  · rename_i hs
    obtain rfl := Option.some.inj h
    refine containsFuncFetch 157 #[] _ A0 c0 l0 w hr0 (enters_fn Try.func157 (by kernel_rfl) rfl) (fun x hx cs W hb hK => ?_)
    obtain rfl := k117_open hK
    obtain ⟨b, hb⟩ := Option.isSome_iff_exists.1 (hs x hx)
    rw [hb]
    exact impl_Trace_ok_1.calls x.f0 x.f1 b W hb
  · cases h
end Go.Proofs.Ytgbjbpjmbghlbaa.G
end
section
namespace Go.Proofs.Ytgbjbpjmbghlbaa.G
open Go.RowKit Go.Proofs.YtgbjbpjmbghlbaaW.PrintWords Go.Proofs.YtgbjbpjmbghlbaaW.PrintLast Go.Proofs.YtgbjbpjmbghlbaaW.PrintMore
attribute [local go_sem] max2_int min2_int max_two min_two max_three min_three max_four min_four
set_option linter.unusedVariables false
set_option linter.unusedSimpArgs false
def impl_Trace_ok.f (a0_0 : Int) (l0_1 : List (S117)) (a0_2 : Int) : Option (Bool) := (impl_isKey.f a0_0).bind fun t596 => (if t596 = true then ((impl_isValue.f a0_2).bind fun t597 => (if t597 = true then ((impl_once.f l0_1).bind fun t598 => (if (t598.length : Int) = (l0_1.length : Int) then ((impl_Trace_ok_1_any.f l0_1).bind fun t601 => (some (!t601))) else (some false))) else (some false))) else (some false))
def impl_Trace_ok.T1 : Bool × List (List Nat × List Nat) := (true, [([], []), ([0], [0]), ([1], [1]), ([2], [2]), ([3, 2], [3]), ([4], [4]), ([5, 4], [4, 5]), ([6, 4, 4], [4, 6]), ([7, 4], [4, 7]), ([4, 8], [4, 8]), ([9, 7], [9]), ([10], [10]), ([11, 10], [10, 11]), ([12, 10, 10], [10, 12]), ([13, 10], [10, 13]), ([10], [10]), ([15, 10], [10, 15]), ([16, 10], [10, 16]), ([14, 17, 10], [10, 14, 17]), ([10, 18], [10, 18])])
def impl_Trace_ok.B1 : List Nat := [0, 1, 3, 7, 15, 31, 63, 127, 255, 511, 1023, 2047, 4095, 8191, 16383, 2047, 34815, 100351, 262143, 524287]
theorem impl_Trace_ok.tab1 : rtab .any (opsOf Try.f112 1) = impl_Trace_ok.T1 := by kernel_rfl
theorem impl_Trace_ok.bits1 : waitsOk impl_Trace_ok.T1.2 impl_Trace_ok.B1 = true := by kernel_rfl
set_option maxHeartbeats 8000000 in
set_option maxRecDepth 100000 in
theorem impl_Trace_ok.calls (a0_0 : Int) (A0_1 : Option Addr) (c0_1 : Nat) (l0_1 : List (S117)) (a0_2 : Int) (r : Bool) (w : World) (hr0_1 : Kd.C k117 w A0_1 l0_1.length l0_1) (hc0_1 : l0_1.length ≤ c0_1) (h : impl_Trace_ok.f a0_0 l0_1 a0_2 = some r) :
    Calls Try.prog 112 #[.agg #[.int .i64 a0_0, .slice A0_1 l0_1.length c0_1, .int .i64 a0_2]] w fun e w' => e = .returned (.bool r) ∧ Below w.heap.size w w' := by
  have hu87 := Try.underlying87
  have HR0_1 := qM hr0_1
  have HC0_1 := qM hc0_1
  clear hr0_1 hc0_1
  have HB := qM (Below.refl w.heap.size w)
  have H : ((impl_isKey.f a0_0).bind fun t596 => (if t596 = true then ((impl_isValue.f a0_2).bind fun t597 => (if t597 = true then ((impl_once.f l0_1).bind fun t598 => (if (t598.length : Int) = (l0_1.length : Int) then ((impl_Trace_ok_1_any.f l0_1).bind fun t601 => (some (!t601))) else (some false))) else (some false))) else (some false))) = some r := h
  clear h
  replace H := Option.bind_eq_some_iff.mp H
  obtain ⟨t596, A20, H⟩ := H
  replace H : (if t596 = true then ((impl_isValue.f a0_2).bind fun t597 => (if t597 = true then ((impl_once.f l0_1).bind fun t598 => (if (t598.length : Int) = (l0_1.length : Int) then ((impl_Trace_ok_1_any.f l0_1).bind fun t601 => (some (!t601))) else (some false))) else (some false))) else (some false)) = some r := H
  have A2 := qM A20
  clear A20
  by_cases c3 : t596 = true
  rotate_left
  · replace c3 := Bool.eq_false_iff.mpr c3
    subst c3
    have H1 : (some false) = some r := by rw [if_neg (show ¬ (false = true) by decide)] at H; exact H
    clear H
    have H := H1
    clear H1
    obtain rfl := Option.some.inj H
    go_enter Try.func112, Try.ntmps112
    try go_wp2_with (first | ((with_reducible refine gate_dst (N := 1) rfl ?_); (try (refine gate_guard (by rfl) ?_; dsimp only)); refine box_event ?hg (N := 1) ?hd (cs := #[.int .i64 a0_0, .slice A0_1 l0_1.length c0_1, .int .i64 a0_2]) (t := 87) ?hr ?_; (case hd => rfl); (case hg => rfl); (case hr => first | (go_simp; done) | (go_simp; rfl)); intro gb595 hg w21 hbox hb; have n0_ := qM (qs (by repeat (first | (with_reducible first | exact HB.out | apply qA | apply qN | apply qD) | exact HB.out)) hb); have n1_ := qM (hbox); have n2_ := qM ((by rw [hg]; exact (qz (by repeat (first | (with_reducible first | exact HB.out | apply qA | apply qN | apply qD) | exact HB.out))) : w.heap.size ≤ gb595)); have n3_ := qM ((by rw [hg]; exact (qz (by repeat (first | (with_reducible first | exact HB.out | apply qA | apply qN | apply qD) | exact HB.out))) : w.heap.size ≤ gb595)); clear HB; have HB := n0_; have BK595 := n1_; have GW595 := n2_; have GE595 := n3_; clear n0_ n1_ n2_ n3_; clear hb hbox hg))
    have n0_ := qM (qd BK595.out)
    have n1_ := qM (qD HB.out)
    clear BK595
    clear HB
    have BK595 := n0_
    have HB := n1_
    clear n0_ n1_
    refine start_ (n := 20) (S := fun w' => w'.cell? ⟨gb595, 0, none⟩ = some (.int .i64 a0_0) ∧ w'.cell? ⟨gb595, 1, none⟩ = some (.slice A0_1 l0_1.length c0_1) ∧ w'.cell? ⟨gb595, 2, none⟩ = some (.int .i64 a0_2)) (ds := []) #[false, false, false, false, false, false, false, false, false, false, false, false, false, false, false, false, false, false, false, false] (by kernel_rfl) rfl rfl ⟨(qC BK595.out 0).trans rfl, (qC BK595.out 1).trans rfl, (qC BK595.out 2).trans rfl⟩ (fun hHeld => ?_); refine with_tabW impl_Trace_ok.tab1 impl_Trace_ok.bits1 (fun HT_ HW_ => ?_)
    generalize w21.drew = w22 at BK595 HB hHeld ⊢
    refine pure_ (i := 0) (N := some 3) (v := ?_) (a' := ?_) #[true, false, false, false, false, false, false, false, false, false, false, false, false, false, false, false, false, false, false, false] rfl rfl (any_of HT_.out (by kernel_rfl)) (fun _ _ _ h => h) (Or.inl ⟨by rfl, ?_⟩) ?_ ?_
    rotate_left
    · intro w'
      go_simp
      with_reducible rfl
    rotate_left
    · simp only [Act.put, List.setIfInBounds_toArray, List.set_cons_zero, List.set_cons_succ, i64_w, i32_w]
      rfl
    refine take_ (i := 1) (N := some 4) (v := ?_) (a' := ?_) #[true, true, false, false, false, false, false, false, false, false, false, false, false, false, false, false, false, false, false, false] rfl rfl (take_ofW HT_.out HW_.out (by kernel_rfl)) (fun _ _ _ h => h) (Or.inl ⟨by rfl, ?_⟩) hHeld ?_ ?_
    rotate_left
    · rintro w' ⟨s0, s1, s2⟩
      go_simp
      with_reducible rfl
    rotate_left
    · simp only [Act.put, List.setIfInBounds_toArray, List.set_cons_zero, List.set_cons_succ, i64_w, i32_w]
      rfl
    refine one_ (i := 2) (N := some 5) #[true, true, true, false, false, false, false, false, false, false, false, false, false, false, false, false, false, false, false, false] rfl rfl (one_of HT_.out (by kernel_rfl)) (by decide) (fun K hK => ?_)
    refine goes_ Try.func106 (by kernel_rfl) rfl #[.int .i64 a0_0] (by rfl) rfl rfl (by (try simp only [List.map_toArray, List.map_cons, List.map_nil]); first | done | rfl | (simp only [List.length_drop, List.length_take]; rfl)) ?_
    with_reducible refine (impl_isKey.calls a0_0 false _ A2.out).mono ?_
    rintro e w' ⟨rfl, ⟨nd, rfl⟩⟩
    refine ⟨_, rfl, ?_⟩
    refine hK.out _ _ ⟨(qC BK595.out 0).trans rfl, (qC BK595.out 1).trans rfl, (qC BK595.out 2).trans rfl⟩ (fun hHeld => ?_)
    clear hK K
    refine norm_ (a' := ?_) ?_ ?_
    rotate_left
    · show Act.put _ (some 5) _ = _
      simp only [Act.put, List.setIfInBounds_toArray, List.set_cons_zero, List.set_cons_succ, i64_w, i32_w]
      rfl
    refine pure_ (i := 3) (N := some 6) (v := ?_) (a' := ?_) #[true, true, true, true, false, false, false, false, false, false, false, false, false, false, false, false, false, false, false, false] rfl rfl (any_of HT_.out (by kernel_rfl)) (fun _ _ _ h => h) (Or.inl ⟨by rfl, ?_⟩) ?_ ?_
    rotate_left
    · intro w'
      go_simp
      with_reducible rfl
    rotate_left
    · simp only [Act.put, List.setIfInBounds_toArray, List.set_cons_zero, List.set_cons_succ, i64_w, i32_w]
      rfl
    refine pure_ (i := 4) (N := some 7) (v := ?_) (a' := ?_) #[true, true, true, true, true, false, false, false, false, false, false, false, false, false, false, false, false, false, false, false] rfl rfl (any_of HT_.out (by kernel_rfl)) (fun _ _ _ h => h) (Or.inl ⟨by rfl, ?_⟩) ?_ ?_
    rotate_left
    · intro w'
      go_simp
      with_reducible rfl
    rotate_left
    · simp only [Act.put, List.setIfInBounds_toArray, List.set_cons_zero, List.set_cons_succ, i64_w, i32_w]
      rfl
    refine pure_ (i := 5) (N := some 8) (v := undef) (a' := ?_) #[true, true, true, true, true, true, false, false, false, false, false, false, false, false, false, false, false, false, false, false] rfl rfl (any_of HT_.out (by kernel_rfl)) (fun _ _ _ h => h) (Or.inr ⟨by rfl, rfl⟩) ?_ ?_
    rotate_left
    · simp only [Act.put, List.setIfInBounds_toArray, List.set_cons_zero, List.set_cons_succ, i64_w, i32_w]
      rfl
    refine pure_ (i := 6) (N := some 9) (v := undef) (a' := ?_) #[true, true, true, true, true, true, true, false, false, false, false, false, false, false, false, false, false, false, false, false] rfl rfl (any_of HT_.out (by kernel_rfl)) (fun _ _ _ h => h) (Or.inr ⟨by rfl, rfl⟩) ?_ ?_
    rotate_left
    · simp only [Act.put, List.setIfInBounds_toArray, List.set_cons_zero, List.set_cons_succ, i64_w, i32_w]
      rfl
    refine pure_ (i := 7) (N := some 10) (v := undef) (a' := ?_) #[true, true, true, true, true, true, true, true, false, false, false, false, false, false, false, false, false, false, false, false] rfl rfl (any_of HT_.out (by kernel_rfl)) (fun _ _ _ h => h) (Or.inr ⟨by rfl, rfl⟩) ?_ ?_
    rotate_left
    · simp only [Act.put, List.setIfInBounds_toArray, List.set_cons_zero, List.set_cons_succ, i64_w, i32_w]
      rfl
    refine pure_ (i := 8) (N := some 11) (v := undef) (a' := ?_) #[true, true, true, true, true, true, true, true, true, false, false, false, false, false, false, false, false, false, false, false] rfl rfl (any_of HT_.out (by kernel_rfl)) (fun _ _ _ h => h) (Or.inr ⟨by rfl, rfl⟩) ?_ ?_
    rotate_left
    · simp only [Act.put, List.setIfInBounds_toArray, List.set_cons_zero, List.set_cons_succ, i64_w, i32_w]
      rfl
    refine pure_ (i := 9) (N := some 12) (v := ?_) (a' := ?_) #[true, true, true, true, true, true, true, true, true, true, false, false, false, false, false, false, false, false, false, false] rfl rfl (any_of HT_.out (by kernel_rfl)) (fun _ _ _ h => h) (Or.inl ⟨by rfl, ?_⟩) ?_ ?_
    rotate_left
    · intro w'
      go_simp
      with_reducible rfl
    rotate_left
    · simp only [Act.put, List.setIfInBounds_toArray, List.set_cons_zero, List.set_cons_succ, i64_w, i32_w]
      rfl
    refine pure_ (i := 10) (N := some 13) (v := ?_) (a' := ?_) #[true, true, true, true, true, true, true, true, true, true, true, false, false, false, false, false, false, false, false, false] rfl rfl (any_of HT_.out (by kernel_rfl)) (fun _ _ _ h => h) (Or.inl ⟨by rfl, ?_⟩) ?_ ?_
    rotate_left
    · intro w'
      go_simp
      with_reducible rfl
    rotate_left
    · simp only [Act.put, List.setIfInBounds_toArray, List.set_cons_zero, List.set_cons_succ, i64_w, i32_w]
      rfl
    refine pure_ (i := 11) (N := some 14) (v := undef) (a' := ?_) #[true, true, true, true, true, true, true, true, true, true, true, true, false, false, false, false, false, false, false, false] rfl rfl (any_of HT_.out (by kernel_rfl)) (fun _ _ _ h => h) (Or.inr ⟨by rfl, rfl⟩) ?_ ?_
    rotate_left
    · simp only [Act.put, List.setIfInBounds_toArray, List.set_cons_zero, List.set_cons_succ, i64_w, i32_w]
      rfl
    refine pure_ (i := 12) (N := some 15) (v := undef) (a' := ?_) #[true, true, true, true, true, true, true, true, true, true, true, true, true, false, false, false, false, false, false, false] rfl rfl (any_of HT_.out (by kernel_rfl)) (fun _ _ _ h => h) (Or.inr ⟨by rfl, rfl⟩) ?_ ?_
    rotate_left
    · simp only [Act.put, List.setIfInBounds_toArray, List.set_cons_zero, List.set_cons_succ, i64_w, i32_w]
      rfl
    refine pure_ (i := 13) (N := some 16) (v := undef) (a' := ?_) #[true, true, true, true, true, true, true, true, true, true, true, true, true, true, false, false, false, false, false, false] rfl rfl (any_of HT_.out (by kernel_rfl)) (fun _ _ _ h => h) (Or.inr ⟨by rfl, rfl⟩) ?_ ?_
    rotate_left
    · simp only [Act.put, List.setIfInBounds_toArray, List.set_cons_zero, List.set_cons_succ, i64_w, i32_w]
      rfl
    refine pure_ (i := 14) (N := some 17) (v := undef) (a' := ?_) #[true, true, true, true, true, true, true, true, true, true, true, true, true, true, true, false, false, false, false, false] rfl rfl (any_of HT_.out (by kernel_rfl)) (fun _ _ _ h => h) (Or.inr ⟨by rfl, rfl⟩) ?_ ?_
    rotate_left
    · simp only [Act.put, List.setIfInBounds_toArray, List.set_cons_zero, List.set_cons_succ, i64_w, i32_w]
      rfl
    refine pure_ (i := 15) (N := some 18) (v := undef) (a' := ?_) #[true, true, true, true, true, true, true, true, true, true, true, true, true, true, true, true, false, false, false, false] rfl rfl (any_of HT_.out (by kernel_rfl)) (fun _ _ _ h => h) (Or.inr ⟨by rfl, rfl⟩) ?_ ?_
    rotate_left
    · simp only [Act.put, List.setIfInBounds_toArray, List.set_cons_zero, List.set_cons_succ, i64_w, i32_w]
      rfl
    refine pure_ (i := 16) (N := some 19) (v := undef) (a' := ?_) #[true, true, true, true, true, true, true, true, true, true, true, true, true, true, true, true, true, false, false, false] rfl rfl (any_of HT_.out (by kernel_rfl)) (fun _ _ _ h => h) (Or.inr ⟨by rfl, rfl⟩) ?_ ?_
    rotate_left
    · simp only [Act.put, List.setIfInBounds_toArray, List.set_cons_zero, List.set_cons_succ, i64_w, i32_w]
      rfl
    refine pure_ (i := 17) (N := some 20) (v := undef) (a' := ?_) #[true, true, true, true, true, true, true, true, true, true, true, true, true, true, true, true, true, true, false, false] rfl rfl (any_of HT_.out (by kernel_rfl)) (fun _ _ _ h => h) (Or.inr ⟨by rfl, rfl⟩) ?_ ?_
    rotate_left
    · simp only [Act.put, List.setIfInBounds_toArray, List.set_cons_zero, List.set_cons_succ, i64_w, i32_w]
      rfl
    refine pure_ (i := 18) (N := some 21) (v := undef) (a' := ?_) #[true, true, true, true, true, true, true, true, true, true, true, true, true, true, true, true, true, true, true, false] rfl rfl (any_of HT_.out (by kernel_rfl)) (fun _ _ _ h => h) (Or.inr ⟨by rfl, rfl⟩) ?_ ?_
    rotate_left
    · simp only [Act.put, List.setIfInBounds_toArray, List.set_cons_zero, List.set_cons_succ, i64_w, i32_w]
      rfl
    refine pure_ (i := 19) (N := some 22) (v := ?_) (a' := ?_) #[true, true, true, true, true, true, true, true, true, true, true, true, true, true, true, true, true, true, true, true] rfl rfl (any_of HT_.out (by kernel_rfl)) (fun _ _ _ h => h) (Or.inl ⟨by rfl, ?_⟩) ?_ ?_
    rotate_left
    · intro w'
      go_simp
      with_reducible rfl
    rotate_left
    · simp only [Act.put, List.setIfInBounds_toArray, List.set_cons_zero, List.set_cons_succ, i64_w, i32_w]
      rfl
    refine done_ (done_of HT_.out (by kernel_rfl)) ?_
    try go_wp2
    go_ret
    exact ⟨by first | rfl | (simp [errW_none, errW_some] <;> rfl) | (simp [*, errW_none, errW_some] <;> rfl), by repeat (first | (with_reducible first | exact HB.out | apply qA | apply qN | apply qD | refine qS ?_ GE595.out) | exact HB.out)⟩
  subst c3
  have H1 : ((impl_isValue.f a0_2).bind fun t597 => (if t597 = true then ((impl_once.f l0_1).bind fun t598 => (if (t598.length : Int) = (l0_1.length : Int) then ((impl_Trace_ok_1_any.f l0_1).bind fun t601 => (some (!t601))) else (some false))) else (some false))) = some r := by rw [if_pos rfl] at H; exact H
  clear H
  have H := H1
  clear H1
  replace H := Option.bind_eq_some_iff.mp H
  obtain ⟨t597, A40, H⟩ := H
  replace H : (if t597 = true then ((impl_once.f l0_1).bind fun t598 => (if (t598.length : Int) = (l0_1.length : Int) then ((impl_Trace_ok_1_any.f l0_1).bind fun t601 => (some (!t601))) else (some false))) else (some false)) = some r := H
  have A4 := qM A40
  clear A40
  by_cases c5 : t597 = true
  rotate_left
  · replace c5 := Bool.eq_false_iff.mpr c5
    subst c5
    have H1 : (some false) = some r := by rw [if_neg (show ¬ (false = true) by decide)] at H; exact H
    clear H
    have H := H1
    clear H1
    obtain rfl := Option.some.inj H
    go_enter Try.func112, Try.ntmps112
    try go_wp2_with (first | ((with_reducible refine gate_dst (N := 1) rfl ?_); (try (refine gate_guard (by rfl) ?_; dsimp only)); refine box_event ?hg (N := 1) ?hd (cs := #[.int .i64 a0_0, .slice A0_1 l0_1.length c0_1, .int .i64 a0_2]) (t := 87) ?hr ?_; (case hd => rfl); (case hg => rfl); (case hr => first | (go_simp; done) | (go_simp; rfl)); intro gb595 hg w19 hbox hb; have n0_ := qM (qs (by repeat (first | (with_reducible first | exact HB.out | apply qA | apply qN | apply qD) | exact HB.out)) hb); have n1_ := qM (hbox); have n2_ := qM ((by rw [hg]; exact (qz (by repeat (first | (with_reducible first | exact HB.out | apply qA | apply qN | apply qD) | exact HB.out))) : w.heap.size ≤ gb595)); have n3_ := qM ((by rw [hg]; exact (qz (by repeat (first | (with_reducible first | exact HB.out | apply qA | apply qN | apply qD) | exact HB.out))) : w.heap.size ≤ gb595)); clear HB; have HB := n0_; have BK595 := n1_; have GW595 := n2_; have GE595 := n3_; clear n0_ n1_ n2_ n3_; clear hb hbox hg))
    have n0_ := qM (qd BK595.out)
    have n1_ := qM (qD HB.out)
    clear BK595
    clear HB
    have BK595 := n0_
    have HB := n1_
    clear n0_ n1_
    refine start_ (n := 20) (S := fun w' => w'.cell? ⟨gb595, 0, none⟩ = some (.int .i64 a0_0) ∧ w'.cell? ⟨gb595, 1, none⟩ = some (.slice A0_1 l0_1.length c0_1) ∧ w'.cell? ⟨gb595, 2, none⟩ = some (.int .i64 a0_2)) (ds := []) #[false, false, false, false, false, false, false, false, false, false, false, false, false, false, false, false, false, false, false, false] (by kernel_rfl) rfl rfl ⟨(qC BK595.out 0).trans rfl, (qC BK595.out 1).trans rfl, (qC BK595.out 2).trans rfl⟩ (fun hHeld => ?_); refine with_tabW impl_Trace_ok.tab1 impl_Trace_ok.bits1 (fun HT_ HW_ => ?_)
    generalize w19.drew = w20 at BK595 HB hHeld ⊢
    refine pure_ (i := 0) (N := some 3) (v := ?_) (a' := ?_) #[true, false, false, false, false, false, false, false, false, false, false, false, false, false, false, false, false, false, false, false] rfl rfl (any_of HT_.out (by kernel_rfl)) (fun _ _ _ h => h) (Or.inl ⟨by rfl, ?_⟩) ?_ ?_
    rotate_left
    · intro w'
      go_simp
      with_reducible rfl
    rotate_left
    · simp only [Act.put, List.setIfInBounds_toArray, List.set_cons_zero, List.set_cons_succ, i64_w, i32_w]
      rfl
    refine take_ (i := 1) (N := some 4) (v := ?_) (a' := ?_) #[true, true, false, false, false, false, false, false, false, false, false, false, false, false, false, false, false, false, false, false] rfl rfl (take_ofW HT_.out HW_.out (by kernel_rfl)) (fun _ _ _ h => h) (Or.inl ⟨by rfl, ?_⟩) hHeld ?_ ?_
    rotate_left
    · rintro w' ⟨s0, s1, s2⟩
      go_simp
      with_reducible rfl
    rotate_left
    · simp only [Act.put, List.setIfInBounds_toArray, List.set_cons_zero, List.set_cons_succ, i64_w, i32_w]
      rfl
    refine one_ (i := 2) (N := some 5) #[true, true, true, false, false, false, false, false, false, false, false, false, false, false, false, false, false, false, false, false] rfl rfl (one_of HT_.out (by kernel_rfl)) (by decide) (fun K hK => ?_)
    refine goes_ Try.func106 (by kernel_rfl) rfl #[.int .i64 a0_0] (by rfl) rfl rfl (by (try simp only [List.map_toArray, List.map_cons, List.map_nil]); first | done | rfl | (simp only [List.length_drop, List.length_take]; rfl)) ?_
    with_reducible refine (impl_isKey.calls a0_0 true _ A2.out).mono ?_
    rintro e w' ⟨rfl, ⟨nd, rfl⟩⟩
    refine ⟨_, rfl, ?_⟩
    refine hK.out _ _ ⟨(qC BK595.out 0).trans rfl, (qC BK595.out 1).trans rfl, (qC BK595.out 2).trans rfl⟩ (fun hHeld => ?_)
    clear hK K
    refine norm_ (a' := ?_) ?_ ?_
    rotate_left
    · show Act.put _ (some 5) _ = _
      simp only [Act.put, List.setIfInBounds_toArray, List.set_cons_zero, List.set_cons_succ, i64_w, i32_w]
      rfl
    refine pure_ (i := 3) (N := some 6) (v := ?_) (a' := ?_) #[true, true, true, true, false, false, false, false, false, false, false, false, false, false, false, false, false, false, false, false] rfl rfl (any_of HT_.out (by kernel_rfl)) (fun _ _ _ h => h) (Or.inl ⟨by rfl, ?_⟩) ?_ ?_
    rotate_left
    · intro w'
      go_simp
      with_reducible rfl
    rotate_left
    · simp only [Act.put, List.setIfInBounds_toArray, List.set_cons_zero, List.set_cons_succ, i64_w, i32_w]
      rfl
    refine pure_ (i := 4) (N := some 7) (v := ?_) (a' := ?_) #[true, true, true, true, true, false, false, false, false, false, false, false, false, false, false, false, false, false, false, false] rfl rfl (any_of HT_.out (by kernel_rfl)) (fun _ _ _ h => h) (Or.inl ⟨by rfl, ?_⟩) ?_ ?_
    rotate_left
    · intro w'
      go_simp
      with_reducible rfl
    rotate_left
    · simp only [Act.put, List.setIfInBounds_toArray, List.set_cons_zero, List.set_cons_succ, i64_w, i32_w]
      rfl
    refine pure_ (i := 5) (N := some 8) (v := ?_) (a' := ?_) #[true, true, true, true, true, true, false, false, false, false, false, false, false, false, false, false, false, false, false, false] rfl rfl (any_of HT_.out (by kernel_rfl)) (fun _ _ _ h => h) (Or.inl ⟨by rfl, ?_⟩) ?_ ?_
    rotate_left
    · intro w'
      go_simp
      with_reducible rfl
    rotate_left
    · simp only [Act.put, List.setIfInBounds_toArray, List.set_cons_zero, List.set_cons_succ, i64_w, i32_w]
      rfl
    refine take_ (i := 6) (N := some 9) (v := ?_) (a' := ?_) #[true, true, true, true, true, true, true, false, false, false, false, false, false, false, false, false, false, false, false, false] rfl rfl (take_ofW HT_.out HW_.out (by kernel_rfl)) (fun _ _ _ h => h) (Or.inl ⟨by rfl, ?_⟩) hHeld ?_ ?_
    rotate_left
    · rintro w' ⟨s0, s1, s2⟩
      go_simp
      with_reducible rfl
    rotate_left
    · simp only [Act.put, List.setIfInBounds_toArray, List.set_cons_zero, List.set_cons_succ, i64_w, i32_w]
      rfl
    refine one_ (i := 7) (N := some 10) #[true, true, true, true, true, true, true, true, false, false, false, false, false, false, false, false, false, false, false, false] rfl rfl (one_of HT_.out (by kernel_rfl)) (by decide) (fun K hK => ?_)
    refine goes_ Try.func145 (by kernel_rfl) rfl #[.int .i64 a0_2] (by rfl) rfl rfl (by (try simp only [List.map_toArray, List.map_cons, List.map_nil]); first | done | rfl | (simp only [List.length_drop, List.length_take]; rfl)) ?_
    with_reducible refine (impl_isValue.calls a0_2 false _ A4.out).mono ?_
    rintro e w' ⟨rfl, ⟨nd, rfl⟩⟩
    refine ⟨_, rfl, ?_⟩
    refine hK.out _ _ ⟨(qC BK595.out 0).trans rfl, (qC BK595.out 1).trans rfl, (qC BK595.out 2).trans rfl⟩ (fun hHeld => ?_)
    clear hK K
    refine norm_ (a' := ?_) ?_ ?_
    rotate_left
    · show Act.put _ (some 10) _ = _
      simp only [Act.put, List.setIfInBounds_toArray, List.set_cons_zero, List.set_cons_succ, i64_w, i32_w]
      rfl
    refine pure_ (i := 8) (N := some 11) (v := ?_) (a' := ?_) #[true, true, true, true, true, true, true, true, true, false, false, false, false, false, false, false, false, false, false, false] rfl rfl (any_of HT_.out (by kernel_rfl)) (fun _ _ _ h => h) (Or.inl ⟨by rfl, ?_⟩) ?_ ?_
    rotate_left
    · intro w'
      go_simp
      with_reducible rfl
    rotate_left
    · simp only [Act.put, List.setIfInBounds_toArray, List.set_cons_zero, List.set_cons_succ, i64_w, i32_w]
      rfl
    refine pure_ (i := 9) (N := some 12) (v := ?_) (a' := ?_) #[true, true, true, true, true, true, true, true, true, true, false, false, false, false, false, false, false, false, false, false] rfl rfl (any_of HT_.out (by kernel_rfl)) (fun _ _ _ h => h) (Or.inl ⟨by rfl, ?_⟩) ?_ ?_
    rotate_left
    · intro w'
      go_simp
      with_reducible rfl
    rotate_left
    · simp only [Act.put, List.setIfInBounds_toArray, List.set_cons_zero, List.set_cons_succ, i64_w, i32_w]
      rfl
    refine pure_ (i := 10) (N := some 13) (v := ?_) (a' := ?_) #[true, true, true, true, true, true, true, true, true, true, true, false, false, false, false, false, false, false, false, false] rfl rfl (any_of HT_.out (by kernel_rfl)) (fun _ _ _ h => h) (Or.inl ⟨by rfl, ?_⟩) ?_ ?_
    rotate_left
    · intro w'
      go_simp
      with_reducible rfl
    rotate_left
    · simp only [Act.put, List.setIfInBounds_toArray, List.set_cons_zero, List.set_cons_succ, i64_w, i32_w]
      rfl
    refine pure_ (i := 11) (N := some 14) (v := undef) (a' := ?_) #[true, true, true, true, true, true, true, true, true, true, true, true, false, false, false, false, false, false, false, false] rfl rfl (any_of HT_.out (by kernel_rfl)) (fun _ _ _ h => h) (Or.inr ⟨by rfl, rfl⟩) ?_ ?_
    rotate_left
    · simp only [Act.put, List.setIfInBounds_toArray, List.set_cons_zero, List.set_cons_succ, i64_w, i32_w]
      rfl
    refine pure_ (i := 12) (N := some 15) (v := undef) (a' := ?_) #[true, true, true, true, true, true, true, true, true, true, true, true, true, false, false, false, false, false, false, false] rfl rfl (any_of HT_.out (by kernel_rfl)) (fun _ _ _ h => h) (Or.inr ⟨by rfl, rfl⟩) ?_ ?_
    rotate_left
    · simp only [Act.put, List.setIfInBounds_toArray, List.set_cons_zero, List.set_cons_succ, i64_w, i32_w]
      rfl
    refine pure_ (i := 13) (N := some 16) (v := undef) (a' := ?_) #[true, true, true, true, true, true, true, true, true, true, true, true, true, true, false, false, false, false, false, false] rfl rfl (any_of HT_.out (by kernel_rfl)) (fun _ _ _ h => h) (Or.inr ⟨by rfl, rfl⟩) ?_ ?_
    rotate_left
    · simp only [Act.put, List.setIfInBounds_toArray, List.set_cons_zero, List.set_cons_succ, i64_w, i32_w]
      rfl
    refine pure_ (i := 14) (N := some 17) (v := undef) (a' := ?_) #[true, true, true, true, true, true, true, true, true, true, true, true, true, true, true, false, false, false, false, false] rfl rfl (any_of HT_.out (by kernel_rfl)) (fun _ _ _ h => h) (Or.inr ⟨by rfl, rfl⟩) ?_ ?_
    rotate_left
    · simp only [Act.put, List.setIfInBounds_toArray, List.set_cons_zero, List.set_cons_succ, i64_w, i32_w]
      rfl
    refine pure_ (i := 15) (N := some 18) (v := undef) (a' := ?_) #[true, true, true, true, true, true, true, true, true, true, true, true, true, true, true, true, false, false, false, false] rfl rfl (any_of HT_.out (by kernel_rfl)) (fun _ _ _ h => h) (Or.inr ⟨by rfl, rfl⟩) ?_ ?_
    rotate_left
    · simp only [Act.put, List.setIfInBounds_toArray, List.set_cons_zero, List.set_cons_succ, i64_w, i32_w]
      rfl
    refine pure_ (i := 16) (N := some 19) (v := undef) (a' := ?_) #[true, true, true, true, true, true, true, true, true, true, true, true, true, true, true, true, true, false, false, false] rfl rfl (any_of HT_.out (by kernel_rfl)) (fun _ _ _ h => h) (Or.inr ⟨by rfl, rfl⟩) ?_ ?_
    rotate_left
    · simp only [Act.put, List.setIfInBounds_toArray, List.set_cons_zero, List.set_cons_succ, i64_w, i32_w]
      rfl
    refine pure_ (i := 17) (N := some 20) (v := undef) (a' := ?_) #[true, true, true, true, true, true, true, true, true, true, true, true, true, true, true, true, true, true, false, false] rfl rfl (any_of HT_.out (by kernel_rfl)) (fun _ _ _ h => h) (Or.inr ⟨by rfl, rfl⟩) ?_ ?_
    rotate_left
    · simp only [Act.put, List.setIfInBounds_toArray, List.set_cons_zero, List.set_cons_succ, i64_w, i32_w]
      rfl
    refine pure_ (i := 18) (N := some 21) (v := undef) (a' := ?_) #[true, true, true, true, true, true, true, true, true, true, true, true, true, true, true, true, true, true, true, false] rfl rfl (any_of HT_.out (by kernel_rfl)) (fun _ _ _ h => h) (Or.inr ⟨by rfl, rfl⟩) ?_ ?_
    rotate_left
    · simp only [Act.put, List.setIfInBounds_toArray, List.set_cons_zero, List.set_cons_succ, i64_w, i32_w]
      rfl
    refine pure_ (i := 19) (N := some 22) (v := ?_) (a' := ?_) #[true, true, true, true, true, true, true, true, true, true, true, true, true, true, true, true, true, true, true, true] rfl rfl (any_of HT_.out (by kernel_rfl)) (fun _ _ _ h => h) (Or.inl ⟨by rfl, ?_⟩) ?_ ?_
    rotate_left
    · intro w'
      go_simp
      with_reducible rfl
    rotate_left
    · simp only [Act.put, List.setIfInBounds_toArray, List.set_cons_zero, List.set_cons_succ, i64_w, i32_w]
      rfl
    refine done_ (done_of HT_.out (by kernel_rfl)) ?_
    try go_wp2
    go_ret
    exact ⟨by first | rfl | (simp [errW_none, errW_some] <;> rfl) | (simp [*, errW_none, errW_some] <;> rfl), by repeat (first | (with_reducible first | exact HB.out | apply qA | apply qN | apply qD | refine qS ?_ GE595.out) | exact HB.out)⟩
  subst c5
  have H1 : ((impl_once.f l0_1).bind fun t598 => (if (t598.length : Int) = (l0_1.length : Int) then ((impl_Trace_ok_1_any.f l0_1).bind fun t601 => (some (!t601))) else (some false))) = some r := by rw [if_pos rfl] at H; exact H
  clear H
  have H := H1
  clear H1
  replace H := Option.bind_eq_some_iff.mp H
  obtain ⟨t598, A60, H⟩ := H
  replace H : (if (t598.length : Int) = (l0_1.length : Int) then ((impl_Trace_ok_1_any.f l0_1).bind fun t601 => (some (!t601))) else (some false)) = some r := H
  have A6 := qM A60
  clear A60
  by_cases c7 : (t598.length : Int) = (l0_1.length : Int)
  rotate_left
  · rw [if_neg c7] at H
    have c7b0 : ((t598.length : Int) == (l0_1.length : Int)) = false := beq_eq_false_iff_ne.mpr c7
    have c7b1 : ((t598.length : Int) != (l0_1.length : Int)) = true := bne_iff_ne.mpr c7
    have c7b2 : (t598.length == l0_1.length) = false := by first | simpa using c7 | (simp at c7 ⊢; omega)
    obtain rfl := Option.some.inj H
    go_enter Try.func112, Try.ntmps112
    try go_wp2_with (first | ((with_reducible refine gate_dst (N := 1) rfl ?_); (try (refine gate_guard (by rfl) ?_; dsimp only)); refine box_event ?hg (N := 1) ?hd (cs := #[.int .i64 a0_0, .slice A0_1 l0_1.length c0_1, .int .i64 a0_2]) (t := 87) ?hr ?_; (case hd => rfl); (case hg => rfl); (case hr => first | (go_simp; done) | (go_simp; rfl)); intro gb595 hg w15 hbox hb; have n0_ := qM (qs (by repeat (first | (with_reducible first | exact HB.out | apply qA | apply qN | apply qD) | exact HB.out)) hb); have n1_ := qM (hbox); have n2_ := qM ((by rw [hg]; exact (qz (by repeat (first | (with_reducible first | exact HB.out | apply qA | apply qN | apply qD) | exact HB.out))) : w.heap.size ≤ gb595)); have n3_ := qM ((by rw [hg]; exact (qz (by repeat (first | (with_reducible first | exact HB.out | apply qA | apply qN | apply qD) | exact HB.out))) : w.heap.size ≤ gb595)); clear HB; have HB := n0_; have BK595 := n1_; have GW595 := n2_; have GE595 := n3_; clear n0_ n1_ n2_ n3_; clear hb hbox hg))
    have n0_ := qM (qd BK595.out)
    have n1_ := qM (qD HB.out)
    clear BK595
    clear HB
    have BK595 := n0_
    have HB := n1_
    clear n0_ n1_
    refine start_ (n := 20) (S := fun w' => w'.cell? ⟨gb595, 0, none⟩ = some (.int .i64 a0_0) ∧ w'.cell? ⟨gb595, 1, none⟩ = some (.slice A0_1 l0_1.length c0_1) ∧ w'.cell? ⟨gb595, 2, none⟩ = some (.int .i64 a0_2)) (ds := []) #[false, false, false, false, false, false, false, false, false, false, false, false, false, false, false, false, false, false, false, false] (by kernel_rfl) rfl rfl ⟨(qC BK595.out 0).trans rfl, (qC BK595.out 1).trans rfl, (qC BK595.out 2).trans rfl⟩ (fun hHeld => ?_); refine with_tabW impl_Trace_ok.tab1 impl_Trace_ok.bits1 (fun HT_ HW_ => ?_)
    generalize w15.drew = w16 at BK595 HB hHeld ⊢
    refine pure_ (i := 0) (N := some 3) (v := ?_) (a' := ?_) #[true, false, false, false, false, false, false, false, false, false, false, false, false, false, false, false, false, false, false, false] rfl rfl (any_of HT_.out (by kernel_rfl)) (fun _ _ _ h => h) (Or.inl ⟨by rfl, ?_⟩) ?_ ?_
    rotate_left
    · intro w'
      go_simp
      with_reducible rfl
    rotate_left
    · simp only [Act.put, List.setIfInBounds_toArray, List.set_cons_zero, List.set_cons_succ, i64_w, i32_w]
      rfl
    refine take_ (i := 1) (N := some 4) (v := ?_) (a' := ?_) #[true, true, false, false, false, false, false, false, false, false, false, false, false, false, false, false, false, false, false, false] rfl rfl (take_ofW HT_.out HW_.out (by kernel_rfl)) (fun _ _ _ h => h) (Or.inl ⟨by rfl, ?_⟩) hHeld ?_ ?_
    rotate_left
    · rintro w' ⟨s0, s1, s2⟩
      go_simp
      with_reducible rfl
    rotate_left
    · simp only [Act.put, List.setIfInBounds_toArray, List.set_cons_zero, List.set_cons_succ, i64_w, i32_w]
      rfl
    refine one_ (i := 2) (N := some 5) #[true, true, true, false, false, false, false, false, false, false, false, false, false, false, false, false, false, false, false, false] rfl rfl (one_of HT_.out (by kernel_rfl)) (by decide) (fun K hK => ?_)
    refine goes_ Try.func106 (by kernel_rfl) rfl #[.int .i64 a0_0] (by rfl) rfl rfl (by (try simp only [List.map_toArray, List.map_cons, List.map_nil]); first | done | rfl | (simp only [List.length_drop, List.length_take]; rfl)) ?_
    with_reducible refine (impl_isKey.calls a0_0 true _ A2.out).mono ?_
    rintro e w' ⟨rfl, ⟨nd, rfl⟩⟩
    refine ⟨_, rfl, ?_⟩
    refine hK.out _ _ ⟨(qC BK595.out 0).trans rfl, (qC BK595.out 1).trans rfl, (qC BK595.out 2).trans rfl⟩ (fun hHeld => ?_)
    clear hK K
    refine norm_ (a' := ?_) ?_ ?_
    rotate_left
    · show Act.put _ (some 5) _ = _
      simp only [Act.put, List.setIfInBounds_toArray, List.set_cons_zero, List.set_cons_succ, i64_w, i32_w]
      rfl
    refine pure_ (i := 3) (N := some 6) (v := ?_) (a' := ?_) #[true, true, true, true, false, false, false, false, false, false, false, false, false, false, false, false, false, false, false, false] rfl rfl (any_of HT_.out (by kernel_rfl)) (fun _ _ _ h => h) (Or.inl ⟨by rfl, ?_⟩) ?_ ?_
    rotate_left
    · intro w'
      go_simp
      with_reducible rfl
    rotate_left
    · simp only [Act.put, List.setIfInBounds_toArray, List.set_cons_zero, List.set_cons_succ, i64_w, i32_w]
      rfl
    refine pure_ (i := 4) (N := some 7) (v := ?_) (a' := ?_) #[true, true, true, true, true, false, false, false, false, false, false, false, false, false, false, false, false, false, false, false] rfl rfl (any_of HT_.out (by kernel_rfl)) (fun _ _ _ h => h) (Or.inl ⟨by rfl, ?_⟩) ?_ ?_
    rotate_left
    · intro w'
      go_simp
      with_reducible rfl
    rotate_left
    · simp only [Act.put, List.setIfInBounds_toArray, List.set_cons_zero, List.set_cons_succ, i64_w, i32_w]
      rfl
    refine pure_ (i := 5) (N := some 8) (v := ?_) (a' := ?_) #[true, true, true, true, true, true, false, false, false, false, false, false, false, false, false, false, false, false, false, false] rfl rfl (any_of HT_.out (by kernel_rfl)) (fun _ _ _ h => h) (Or.inl ⟨by rfl, ?_⟩) ?_ ?_
    rotate_left
    · intro w'
      go_simp
      with_reducible rfl
    rotate_left
    · simp only [Act.put, List.setIfInBounds_toArray, List.set_cons_zero, List.set_cons_succ, i64_w, i32_w]
      rfl
    refine take_ (i := 6) (N := some 9) (v := ?_) (a' := ?_) #[true, true, true, true, true, true, true, false, false, false, false, false, false, false, false, false, false, false, false, false] rfl rfl (take_ofW HT_.out HW_.out (by kernel_rfl)) (fun _ _ _ h => h) (Or.inl ⟨by rfl, ?_⟩) hHeld ?_ ?_
    rotate_left
    · rintro w' ⟨s0, s1, s2⟩
      go_simp
      with_reducible rfl
    rotate_left
    · simp only [Act.put, List.setIfInBounds_toArray, List.set_cons_zero, List.set_cons_succ, i64_w, i32_w]
      rfl
    refine one_ (i := 7) (N := some 10) #[true, true, true, true, true, true, true, true, false, false, false, false, false, false, false, false, false, false, false, false] rfl rfl (one_of HT_.out (by kernel_rfl)) (by decide) (fun K hK => ?_)
    refine goes_ Try.func145 (by kernel_rfl) rfl #[.int .i64 a0_2] (by rfl) rfl rfl (by (try simp only [List.map_toArray, List.map_cons, List.map_nil]); first | done | rfl | (simp only [List.length_drop, List.length_take]; rfl)) ?_
    with_reducible refine (impl_isValue.calls a0_2 true _ A4.out).mono ?_
    rintro e w' ⟨rfl, ⟨nd, rfl⟩⟩
    refine ⟨_, rfl, ?_⟩
    refine hK.out _ _ ⟨(qC BK595.out 0).trans rfl, (qC BK595.out 1).trans rfl, (qC BK595.out 2).trans rfl⟩ (fun hHeld => ?_)
    clear hK K
    refine norm_ (a' := ?_) ?_ ?_
    rotate_left
    · show Act.put _ (some 10) _ = _
      simp only [Act.put, List.setIfInBounds_toArray, List.set_cons_zero, List.set_cons_succ, i64_w, i32_w]
      rfl
    refine pure_ (i := 8) (N := some 11) (v := ?_) (a' := ?_) #[true, true, true, true, true, true, true, true, true, false, false, false, false, false, false, false, false, false, false, false] rfl rfl (any_of HT_.out (by kernel_rfl)) (fun _ _ _ h => h) (Or.inl ⟨by rfl, ?_⟩) ?_ ?_
    rotate_left
    · intro w'
      go_simp
      with_reducible rfl
    rotate_left
    · simp only [Act.put, List.setIfInBounds_toArray, List.set_cons_zero, List.set_cons_succ, i64_w, i32_w]
      rfl
    refine pure_ (i := 9) (N := some 12) (v := ?_) (a' := ?_) #[true, true, true, true, true, true, true, true, true, true, false, false, false, false, false, false, false, false, false, false] rfl rfl (any_of HT_.out (by kernel_rfl)) (fun _ _ _ h => h) (Or.inl ⟨by rfl, ?_⟩) ?_ ?_
    rotate_left
    · intro w'
      go_simp
      with_reducible rfl
    rotate_left
    · simp only [Act.put, List.setIfInBounds_toArray, List.set_cons_zero, List.set_cons_succ, i64_w, i32_w]
      rfl
    refine pure_ (i := 10) (N := some 13) (v := ?_) (a' := ?_) #[true, true, true, true, true, true, true, true, true, true, true, false, false, false, false, false, false, false, false, false] rfl rfl (any_of HT_.out (by kernel_rfl)) (fun _ _ _ h => h) (Or.inl ⟨by rfl, ?_⟩) ?_ ?_
    rotate_left
    · intro w'
      go_simp
      with_reducible rfl
    rotate_left
    · simp only [Act.put, List.setIfInBounds_toArray, List.set_cons_zero, List.set_cons_succ, i64_w, i32_w]
      rfl
    refine pure_ (i := 11) (N := some 14) (v := ?_) (a' := ?_) #[true, true, true, true, true, true, true, true, true, true, true, true, false, false, false, false, false, false, false, false] rfl rfl (any_of HT_.out (by kernel_rfl)) (fun _ _ _ h => h) (Or.inl ⟨by rfl, ?_⟩) ?_ ?_
    rotate_left
    · intro w'
      go_simp
      with_reducible rfl
    rotate_left
    · simp only [Act.put, List.setIfInBounds_toArray, List.set_cons_zero, List.set_cons_succ, i64_w, i32_w]
      rfl
    refine pure_ (i := 15) (N := some 18) (v := ?_) (a' := ?_) #[true, true, true, true, true, true, true, true, true, true, true, true, false, false, false, true, false, false, false, false] rfl rfl (any_of HT_.out (by kernel_rfl)) (fun _ _ _ h => h) (Or.inl ⟨by rfl, ?_⟩) ?_ ?_
    rotate_left
    · intro w'
      go_simp
      with_reducible rfl
    rotate_left
    · simp only [Act.put, List.setIfInBounds_toArray, List.set_cons_zero, List.set_cons_succ, i64_w, i32_w]
      rfl
    refine take_ (i := 12) (N := some 15) (v := ?_) (a' := ?_) #[true, true, true, true, true, true, true, true, true, true, true, true, true, false, false, true, false, false, false, false] rfl rfl (take_ofW HT_.out HW_.out (by kernel_rfl)) (fun _ _ _ h => h) (Or.inl ⟨by rfl, ?_⟩) hHeld ?_ ?_
    rotate_left
    · rintro w' ⟨s0, s1, s2⟩
      go_simp
      with_reducible rfl
    rotate_left
    · simp only [Act.put, List.setIfInBounds_toArray, List.set_cons_zero, List.set_cons_succ, i64_w, i32_w]
      rfl
    refine take_ (i := 16) (N := some 19) (v := ?_) (a' := ?_) #[true, true, true, true, true, true, true, true, true, true, true, true, true, false, false, true, true, false, false, false] rfl rfl (take_ofW HT_.out HW_.out (by kernel_rfl)) (fun _ _ _ h => h) (Or.inl ⟨by rfl, ?_⟩) hHeld ?_ ?_
    rotate_left
    · rintro w' ⟨s0, s1, s2⟩
      go_simp
      with_reducible rfl
    rotate_left
    · simp only [Act.put, List.setIfInBounds_toArray, List.set_cons_zero, List.set_cons_succ, i64_w, i32_w]
      rfl
    refine pure_ (i := 17) (N := some 20) (v := ?_) (a' := ?_) #[true, true, true, true, true, true, true, true, true, true, true, true, true, false, false, true, true, true, false, false] rfl rfl (any_of HT_.out (by kernel_rfl)) (fun _ _ _ h => h) (Or.inl ⟨by rfl, ?_⟩) ?_ ?_
    rotate_left
    · intro w'
      go_simp
      with_reducible rfl
    rotate_left
    · simp only [Act.put, List.setIfInBounds_toArray, List.set_cons_zero, List.set_cons_succ, i64_w, i32_w]
      rfl
    refine one_ (i := 13) (N := some 16) #[true, true, true, true, true, true, true, true, true, true, true, true, true, true, false, true, true, true, false, false] rfl rfl (one_of HT_.out (by kernel_rfl)) (by decide) (fun K hK => ?_)
    refine goes_ Try.func80 (by kernel_rfl) rfl #[.slice A0_1 l0_1.length c0_1] (by rfl) rfl rfl (by (try simp only [List.map_toArray, List.map_cons, List.map_nil]); first | done | rfl | (simp only [List.length_drop, List.length_take]; rfl)) ?_
    with_reducible refine (impl_once.calls _ _ l0_1 t598 _ ?side1 ?side2 A6.out).mono ?_
    (case side1 => repeat (first | exact (qB HR0_1.out (by repeat (first | (with_reducible first | exact HB.out | apply qA | apply qN | apply qD | refine qS ?_ GE595.out) | exact HB.out))) | (with_reducible refine qc ?_ _) | (with_reducible refine qe ?_ _) | (with_reducible refine qf ?_)))
    (case side2 => exact HC0_1.out)
    rintro e w17 ⟨v599, rfl, ho0, hb⟩
    refine ⟨_, rfl, ?_⟩
    have n0_ := qM (Kd.R_lower ho0 (qz (by repeat (first | (with_reducible first | exact HB.out | apply qA | apply qN | apply qD | refine qS ?_ GE595.out) | exact HB.out))))
    have n1_ := qM (blk_below (g := gb595) (o := .cells #[.int .i64 a0_0, .slice A0_1 l0_1.length c0_1, .int .i64 a0_2] 87 (0, 0)) (by (with_reducible repeat (first | refine qn ?_ _ | refine qd ?_ | refine qa ?_ _)); exact BK595.out) hb)
    have n2_ := qM (qs (by repeat (first | (with_reducible first | exact HB.out | apply qA | apply qN | apply qD | refine qS ?_ GE595.out) | exact HB.out)) hb)
    clear BK595
    clear HB
    have HO600 := n0_
    have BK595 := n1_
    have HB := n2_
    clear n0_ n1_ n2_
    (try clear hb)
    (try clear hb2)
    (try clear hk)
    (try clear hi)
    (try clear ho0)
    obtain ⟨Ao18, co18, eo18⟩ := Kd.R_slice HO600.out
    (first | subst eo18 | (injection eo18 with f1_ f2_ f3_; have f4_ := f1_.symm; have f5_ := f3_.symm; clear f1_ f2_ f3_; subst f4_; subst f5_))
    refine hK.out _ _ ⟨(qC BK595.out 0).trans rfl, (qC BK595.out 1).trans rfl, (qC BK595.out 2).trans rfl⟩ (fun hHeld => ?_)
    clear hK K
    refine norm_ (a' := ?_) ?_ ?_
    rotate_left
    · show Act.put _ (some 16) _ = _
      simp only [Act.put, List.setIfInBounds_toArray, List.set_cons_zero, List.set_cons_succ, i64_w, i32_w]
      rfl
    refine pure_ (i := 14) (N := some 17) (v := ?_) (a' := ?_) #[true, true, true, true, true, true, true, true, true, true, true, true, true, true, true, true, true, true, false, false] rfl rfl (any_of HT_.out (by kernel_rfl)) (fun _ _ _ h => h) (Or.inl ⟨by rfl, ?_⟩) ?_ ?_
    rotate_left
    · intro w'
      go_simp
      with_reducible rfl
    rotate_left
    · simp only [Act.put, List.setIfInBounds_toArray, List.set_cons_zero, List.set_cons_succ, i64_w, i32_w]
      rfl
    refine pure_ (i := 18) (N := some 21) (v := ?_) (a' := ?_) #[true, true, true, true, true, true, true, true, true, true, true, true, true, true, true, true, true, true, true, false] rfl rfl (any_of HT_.out (by kernel_rfl)) (fun _ _ _ h => h) (Or.inl ⟨by rfl, ?_⟩) ?_ ?_
    rotate_left
    · intro w'
      go_simp
      with_reducible rfl
    rotate_left
    · simp only [Act.put, List.setIfInBounds_toArray, List.set_cons_zero, List.set_cons_succ, i64_w, i32_w]
      rfl
    refine pure_ (i := 19) (N := some 22) (v := ?_) (a' := ?_) #[true, true, true, true, true, true, true, true, true, true, true, true, true, true, true, true, true, true, true, true] rfl rfl (any_of HT_.out (by kernel_rfl)) (fun _ _ _ h => h) (Or.inl ⟨by rfl, ?_⟩) ?_ ?_
    rotate_left
    · intro w'
      go_simp
      with_reducible rfl
    rotate_left
    · simp only [Act.put, List.setIfInBounds_toArray, List.set_cons_zero, List.set_cons_succ, i64_w, i32_w]
      rfl
    refine done_ (done_of HT_.out (by kernel_rfl)) ?_
    try go_wp2
    go_ret
    exact ⟨by first | rfl | (simp [errW_none, errW_some] <;> rfl) | (simp [*, errW_none, errW_some] <;> rfl), by repeat (first | (with_reducible first | exact HB.out | apply qA | apply qN | apply qD | refine qS ?_ GE595.out) | exact HB.out)⟩
  rw [if_pos c7] at H
  have c7b0 : ((t598.length : Int) == (l0_1.length : Int)) = true := beq_iff_eq.mpr c7
  have c7b1 : ((t598.length : Int) != (l0_1.length : Int)) = false := bne_eq_false_iff_eq.mpr c7
  have c7b2 : (t598.length == l0_1.length) = true := by first | simpa using c7 | (simp at c7 ⊢; omega)
  clear c7
  replace H := Option.bind_eq_some_iff.mp H
  obtain ⟨t601, A80, H⟩ := H
  replace H : (some (!t601)) = some r := H
  have A8 := qM A80
  clear A80
  obtain rfl := Option.some.inj H
  go_enter Try.func112, Try.ntmps112
  try go_wp2_with (first | ((with_reducible refine gate_dst (N := 1) rfl ?_); (try (refine gate_guard (by rfl) ?_; dsimp only)); refine box_event ?hg (N := 1) ?hd (cs := #[.int .i64 a0_0, .slice A0_1 l0_1.length c0_1, .int .i64 a0_2]) (t := 87) ?hr ?_; (case hd => rfl); (case hg => rfl); (case hr => first | (go_simp; done) | (go_simp; rfl)); intro gb595 hg w9 hbox hb; have n0_ := qM (qs (by repeat (first | (with_reducible first | exact HB.out | apply qA | apply qN | apply qD) | exact HB.out)) hb); have n1_ := qM (hbox); have n2_ := qM ((by rw [hg]; exact (qz (by repeat (first | (with_reducible first | exact HB.out | apply qA | apply qN | apply qD) | exact HB.out))) : w.heap.size ≤ gb595)); have n3_ := qM ((by rw [hg]; exact (qz (by repeat (first | (with_reducible first | exact HB.out | apply qA | apply qN | apply qD) | exact HB.out))) : w.heap.size ≤ gb595)); clear HB; have HB := n0_; have BK595 := n1_; have GW595 := n2_; have GE595 := n3_; clear n0_ n1_ n2_ n3_; clear hb hbox hg))
  have n0_ := qM (qd BK595.out)
  have n1_ := qM (qD HB.out)
  clear BK595
  clear HB
  have BK595 := n0_
  have HB := n1_
  clear n0_ n1_
  refine start_ (n := 20) (S := fun w' => w'.cell? ⟨gb595, 0, none⟩ = some (.int .i64 a0_0) ∧ w'.cell? ⟨gb595, 1, none⟩ = some (.slice A0_1 l0_1.length c0_1) ∧ w'.cell? ⟨gb595, 2, none⟩ = some (.int .i64 a0_2)) (ds := []) #[false, false, false, false, false, false, false, false, false, false, false, false, false, false, false, false, false, false, false, false] (by kernel_rfl) rfl rfl ⟨(qC BK595.out 0).trans rfl, (qC BK595.out 1).trans rfl, (qC BK595.out 2).trans rfl⟩ (fun hHeld => ?_); refine with_tabW impl_Trace_ok.tab1 impl_Trace_ok.bits1 (fun HT_ HW_ => ?_)
  generalize w9.drew = w10 at BK595 HB hHeld ⊢
  refine pure_ (i := 0) (N := some 3) (v := ?_) (a' := ?_) #[true, false, false, false, false, false, false, false, false, false, false, false, false, false, false, false, false, false, false, false] rfl rfl (any_of HT_.out (by kernel_rfl)) (fun _ _ _ h => h) (Or.inl ⟨by rfl, ?_⟩) ?_ ?_
  rotate_left
  · intro w'
    go_simp
    with_reducible rfl
  rotate_left
  · simp only [Act.put, List.setIfInBounds_toArray, List.set_cons_zero, List.set_cons_succ, i64_w, i32_w]
    rfl
  refine take_ (i := 1) (N := some 4) (v := ?_) (a' := ?_) #[true, true, false, false, false, false, false, false, false, false, false, false, false, false, false, false, false, false, false, false] rfl rfl (take_ofW HT_.out HW_.out (by kernel_rfl)) (fun _ _ _ h => h) (Or.inl ⟨by rfl, ?_⟩) hHeld ?_ ?_
  rotate_left
  · rintro w' ⟨s0, s1, s2⟩
    go_simp
    with_reducible rfl
  rotate_left
  · simp only [Act.put, List.setIfInBounds_toArray, List.set_cons_zero, List.set_cons_succ, i64_w, i32_w]
    rfl
  refine one_ (i := 2) (N := some 5) #[true, true, true, false, false, false, false, false, false, false, false, false, false, false, false, false, false, false, false, false] rfl rfl (one_of HT_.out (by kernel_rfl)) (by decide) (fun K hK => ?_)
  refine goes_ Try.func106 (by kernel_rfl) rfl #[.int .i64 a0_0] (by rfl) rfl rfl (by (try simp only [List.map_toArray, List.map_cons, List.map_nil]); first | done | rfl | (simp only [List.length_drop, List.length_take]; rfl)) ?_
  with_reducible refine (impl_isKey.calls a0_0 true _ A2.out).mono ?_
  rintro e w' ⟨rfl, ⟨nd, rfl⟩⟩
  refine ⟨_, rfl, ?_⟩
  refine hK.out _ _ ⟨(qC BK595.out 0).trans rfl, (qC BK595.out 1).trans rfl, (qC BK595.out 2).trans rfl⟩ (fun hHeld => ?_)
  clear hK K
  refine norm_ (a' := ?_) ?_ ?_
  rotate_left
  · show Act.put _ (some 5) _ = _
    simp only [Act.put, List.setIfInBounds_toArray, List.set_cons_zero, List.set_cons_succ, i64_w, i32_w]
    rfl
  refine pure_ (i := 3) (N := some 6) (v := ?_) (a' := ?_) #[true, true, true, true, false, false, false, false, false, false, false, false, false, false, false, false, false, false, false, false] rfl rfl (any_of HT_.out (by kernel_rfl)) (fun _ _ _ h => h) (Or.inl ⟨by rfl, ?_⟩) ?_ ?_
  rotate_left
  · intro w'
    go_simp
    with_reducible rfl
  rotate_left
  · simp only [Act.put, List.setIfInBounds_toArray, List.set_cons_zero, List.set_cons_succ, i64_w, i32_w]
    rfl
  refine pure_ (i := 4) (N := some 7) (v := ?_) (a' := ?_) #[true, true, true, true, true, false, false, false, false, false, false, false, false, false, false, false, false, false, false, false] rfl rfl (any_of HT_.out (by kernel_rfl)) (fun _ _ _ h => h) (Or.inl ⟨by rfl, ?_⟩) ?_ ?_
  rotate_left
  · intro w'
    go_simp
    with_reducible rfl
  rotate_left
  · simp only [Act.put, List.setIfInBounds_toArray, List.set_cons_zero, List.set_cons_succ, i64_w, i32_w]
    rfl
  refine pure_ (i := 5) (N := some 8) (v := ?_) (a' := ?_) #[true, true, true, true, true, true, false, false, false, false, false, false, false, false, false, false, false, false, false, false] rfl rfl (any_of HT_.out (by kernel_rfl)) (fun _ _ _ h => h) (Or.inl ⟨by rfl, ?_⟩) ?_ ?_
  rotate_left
  · intro w'
    go_simp
    with_reducible rfl
  rotate_left
  · simp only [Act.put, List.setIfInBounds_toArray, List.set_cons_zero, List.set_cons_succ, i64_w, i32_w]
    rfl
  refine take_ (i := 6) (N := some 9) (v := ?_) (a' := ?_) #[true, true, true, true, true, true, true, false, false, false, false, false, false, false, false, false, false, false, false, false] rfl rfl (take_ofW HT_.out HW_.out (by kernel_rfl)) (fun _ _ _ h => h) (Or.inl ⟨by rfl, ?_⟩) hHeld ?_ ?_
  rotate_left
  · rintro w' ⟨s0, s1, s2⟩
    go_simp
    with_reducible rfl
  rotate_left
  · simp only [Act.put, List.setIfInBounds_toArray, List.set_cons_zero, List.set_cons_succ, i64_w, i32_w]
    rfl
  refine one_ (i := 7) (N := some 10) #[true, true, true, true, true, true, true, true, false, false, false, false, false, false, false, false, false, false, false, false] rfl rfl (one_of HT_.out (by kernel_rfl)) (by decide) (fun K hK => ?_)
  refine goes_ Try.func145 (by kernel_rfl) rfl #[.int .i64 a0_2] (by rfl) rfl rfl (by (try simp only [List.map_toArray, List.map_cons, List.map_nil]); first | done | rfl | (simp only [List.length_drop, List.length_take]; rfl)) ?_
  with_reducible refine (impl_isValue.calls a0_2 true _ A4.out).mono ?_
  rintro e w' ⟨rfl, ⟨nd, rfl⟩⟩
  refine ⟨_, rfl, ?_⟩
  refine hK.out _ _ ⟨(qC BK595.out 0).trans rfl, (qC BK595.out 1).trans rfl, (qC BK595.out 2).trans rfl⟩ (fun hHeld => ?_)
  clear hK K
  refine norm_ (a' := ?_) ?_ ?_
  rotate_left
  · show Act.put _ (some 10) _ = _
    simp only [Act.put, List.setIfInBounds_toArray, List.set_cons_zero, List.set_cons_succ, i64_w, i32_w]
    rfl
  refine pure_ (i := 8) (N := some 11) (v := ?_) (a' := ?_) #[true, true, true, true, true, true, true, true, true, false, false, false, false, false, false, false, false, false, false, false] rfl rfl (any_of HT_.out (by kernel_rfl)) (fun _ _ _ h => h) (Or.inl ⟨by rfl, ?_⟩) ?_ ?_
  rotate_left
  · intro w'
    go_simp
    with_reducible rfl
  rotate_left
  · simp only [Act.put, List.setIfInBounds_toArray, List.set_cons_zero, List.set_cons_succ, i64_w, i32_w]
    rfl
  refine pure_ (i := 9) (N := some 12) (v := ?_) (a' := ?_) #[true, true, true, true, true, true, true, true, true, true, false, false, false, false, false, false, false, false, false, false] rfl rfl (any_of HT_.out (by kernel_rfl)) (fun _ _ _ h => h) (Or.inl ⟨by rfl, ?_⟩) ?_ ?_
  rotate_left
  · intro w'
    go_simp
    with_reducible rfl
  rotate_left
  · simp only [Act.put, List.setIfInBounds_toArray, List.set_cons_zero, List.set_cons_succ, i64_w, i32_w]
    rfl
  refine pure_ (i := 10) (N := some 13) (v := ?_) (a' := ?_) #[true, true, true, true, true, true, true, true, true, true, true, false, false, false, false, false, false, false, false, false] rfl rfl (any_of HT_.out (by kernel_rfl)) (fun _ _ _ h => h) (Or.inl ⟨by rfl, ?_⟩) ?_ ?_
  rotate_left
  · intro w'
    go_simp
    with_reducible rfl
  rotate_left
  · simp only [Act.put, List.setIfInBounds_toArray, List.set_cons_zero, List.set_cons_succ, i64_w, i32_w]
    rfl
  refine pure_ (i := 11) (N := some 14) (v := ?_) (a' := ?_) #[true, true, true, true, true, true, true, true, true, true, true, true, false, false, false, false, false, false, false, false] rfl rfl (any_of HT_.out (by kernel_rfl)) (fun _ _ _ h => h) (Or.inl ⟨by rfl, ?_⟩) ?_ ?_
  rotate_left
  · intro w'
    go_simp
    with_reducible rfl
  rotate_left
  · simp only [Act.put, List.setIfInBounds_toArray, List.set_cons_zero, List.set_cons_succ, i64_w, i32_w]
    rfl
  refine pure_ (i := 15) (N := some 18) (v := ?_) (a' := ?_) #[true, true, true, true, true, true, true, true, true, true, true, true, false, false, false, true, false, false, false, false] rfl rfl (any_of HT_.out (by kernel_rfl)) (fun _ _ _ h => h) (Or.inl ⟨by rfl, ?_⟩) ?_ ?_
  rotate_left
  · intro w'
    go_simp
    with_reducible rfl
  rotate_left
  · simp only [Act.put, List.setIfInBounds_toArray, List.set_cons_zero, List.set_cons_succ, i64_w, i32_w]
    rfl
  refine take_ (i := 12) (N := some 15) (v := ?_) (a' := ?_) #[true, true, true, true, true, true, true, true, true, true, true, true, true, false, false, true, false, false, false, false] rfl rfl (take_ofW HT_.out HW_.out (by kernel_rfl)) (fun _ _ _ h => h) (Or.inl ⟨by rfl, ?_⟩) hHeld ?_ ?_
  rotate_left
  · rintro w' ⟨s0, s1, s2⟩
    go_simp
    with_reducible rfl
  rotate_left
  · simp only [Act.put, List.setIfInBounds_toArray, List.set_cons_zero, List.set_cons_succ, i64_w, i32_w]
    rfl
  refine take_ (i := 16) (N := some 19) (v := ?_) (a' := ?_) #[true, true, true, true, true, true, true, true, true, true, true, true, true, false, false, true, true, false, false, false] rfl rfl (take_ofW HT_.out HW_.out (by kernel_rfl)) (fun _ _ _ h => h) (Or.inl ⟨by rfl, ?_⟩) hHeld ?_ ?_
  rotate_left
  · rintro w' ⟨s0, s1, s2⟩
    go_simp
    with_reducible rfl
  rotate_left
  · simp only [Act.put, List.setIfInBounds_toArray, List.set_cons_zero, List.set_cons_succ, i64_w, i32_w]
    rfl
  refine pure_ (i := 17) (N := some 20) (v := ?_) (a' := ?_) #[true, true, true, true, true, true, true, true, true, true, true, true, true, false, false, true, true, true, false, false] rfl rfl (any_of HT_.out (by kernel_rfl)) (fun _ _ _ h => h) (Or.inl ⟨by rfl, ?_⟩) ?_ ?_
  rotate_left
  · intro w'
    go_simp
    with_reducible rfl
  rotate_left
  · simp only [Act.put, List.setIfInBounds_toArray, List.set_cons_zero, List.set_cons_succ, i64_w, i32_w]
    rfl
  refine one_ (i := 13) (N := some 16) #[true, true, true, true, true, true, true, true, true, true, true, true, true, true, false, true, true, true, false, false] rfl rfl (one_of HT_.out (by kernel_rfl)) (by decide) (fun K hK => ?_)
  refine goes_ Try.func80 (by kernel_rfl) rfl #[.slice A0_1 l0_1.length c0_1] (by rfl) rfl rfl (by (try simp only [List.map_toArray, List.map_cons, List.map_nil]); first | done | rfl | (simp only [List.length_drop, List.length_take]; rfl)) ?_
  with_reducible refine (impl_once.calls _ _ l0_1 t598 _ ?side1 ?side2 A6.out).mono ?_
  (case side1 => repeat (first | exact (qB HR0_1.out (by repeat (first | (with_reducible first | exact HB.out | apply qA | apply qN | apply qD | refine qS ?_ GE595.out) | exact HB.out))) | (with_reducible refine qc ?_ _) | (with_reducible refine qe ?_ _) | (with_reducible refine qf ?_)))
  (case side2 => exact HC0_1.out)
  rintro e w11 ⟨v599, rfl, ho0, hb⟩
  refine ⟨_, rfl, ?_⟩
  have n0_ := qM (Kd.R_lower ho0 (qz (by repeat (first | (with_reducible first | exact HB.out | apply qA | apply qN | apply qD | refine qS ?_ GE595.out) | exact HB.out))))
  have n1_ := qM (blk_below (g := gb595) (o := .cells #[.int .i64 a0_0, .slice A0_1 l0_1.length c0_1, .int .i64 a0_2] 87 (0, 0)) (by (with_reducible repeat (first | refine qn ?_ _ | refine qd ?_ | refine qa ?_ _)); exact BK595.out) hb)
  have n2_ := qM (qs (by repeat (first | (with_reducible first | exact HB.out | apply qA | apply qN | apply qD | refine qS ?_ GE595.out) | exact HB.out)) hb)
  clear BK595
  clear HB
  have HO600 := n0_
  have BK595 := n1_
  have HB := n2_
  clear n0_ n1_ n2_
  (try clear hb)
  (try clear hb2)
  (try clear hk)
  (try clear hi)
  (try clear ho0)
  obtain ⟨Ao12, co12, eo12⟩ := Kd.R_slice HO600.out
  (first | subst eo12 | (injection eo12 with f1_ f2_ f3_; have f4_ := f1_.symm; have f5_ := f3_.symm; clear f1_ f2_ f3_; subst f4_; subst f5_))
  refine hK.out _ _ ⟨(qC BK595.out 0).trans rfl, (qC BK595.out 1).trans rfl, (qC BK595.out 2).trans rfl⟩ (fun hHeld => ?_)
  clear hK K
  refine norm_ (a' := ?_) ?_ ?_
  rotate_left
  · show Act.put _ (some 16) _ = _
    simp only [Act.put, List.setIfInBounds_toArray, List.set_cons_zero, List.set_cons_succ, i64_w, i32_w]
    rfl
  refine pure_ (i := 14) (N := some 17) (v := ?_) (a' := ?_) #[true, true, true, true, true, true, true, true, true, true, true, true, true, true, true, true, true, true, false, false] rfl rfl (any_of HT_.out (by kernel_rfl)) (fun _ _ _ h => h) (Or.inl ⟨by rfl, ?_⟩) ?_ ?_
  rotate_left
  · intro w'
    go_simp
    with_reducible rfl
  rotate_left
  · simp only [Act.put, List.setIfInBounds_toArray, List.set_cons_zero, List.set_cons_succ, i64_w, i32_w]
    rfl
  refine pure_ (i := 18) (N := some 21) (v := ?_) (a' := ?_) #[true, true, true, true, true, true, true, true, true, true, true, true, true, true, true, true, true, true, true, false] rfl rfl (any_of HT_.out (by kernel_rfl)) (fun _ _ _ h => h) (Or.inl ⟨by rfl, ?_⟩) ?_ ?_
  rotate_left
  · intro w'
    go_simp
    with_reducible rfl
  rotate_left
  · simp only [Act.put, List.setIfInBounds_toArray, List.set_cons_zero, List.set_cons_succ, i64_w, i32_w]
    rfl
  refine pure_ (i := 19) (N := some 22) (v := ?_) (a' := ?_) #[true, true, true, true, true, true, true, true, true, true, true, true, true, true, true, true, true, true, true, true] rfl rfl (any_of HT_.out (by kernel_rfl)) (fun _ _ _ h => h) (Or.inl ⟨by rfl, ?_⟩) ?_ ?_
  rotate_left
  · intro w'
    go_simp
    with_reducible rfl
  rotate_left
  · simp only [Act.put, List.setIfInBounds_toArray, List.set_cons_zero, List.set_cons_succ, i64_w, i32_w]
    rfl
  refine done_ (done_of HT_.out (by kernel_rfl)) ?_
  have hcz13_0 : w11.cell? ⟨gb595, 0, none⟩ = some (.int .i64 a0_0) := (qC BK595.out 0).trans rfl
  have hcz13_1 : w11.cell? ⟨gb595, 1, none⟩ = some (.slice A0_1 l0_1.length c0_1) := (qC BK595.out 1).trans rfl
  have hcz13_2 : w11.cell? ⟨gb595, 2, none⟩ = some (.int .i64 a0_2) := (qC BK595.out 2).trans rfl
  have hfz13_0 := qF BK595.out 0
  have hfz13_1 := qF BK595.out 1
  have hfz13_2 := qF BK595.out 2
  try go_wp2_with (first | ((with_reducible refine gate_callee (f := 139) rfl ?_); refine goesL_ (some 25) rfl rfl Try.func139 (by kernel_rfl) rfl #[.slice A0_1 l0_1.length c0_1, .func (.func 157) #[] #[]] rfl (by (try simp only [List.map_toArray, List.map_cons, List.map_nil]); first | done | rfl | (simp only [List.length_drop, List.length_take]; rfl)) ?_; (with_reducible refine (impl_Trace_ok_1_any.calls _ _ l0_1  t601 _ ?side1 ?side2 A8.out).mono ?_); (case side1 => repeat (first | exact (qB HR0_1.out HB.out) | (with_reducible refine qc ?_ _) | (with_reducible refine qe ?_ _) | (with_reducible refine qf ?_))); (case side2 => exact HC0_1.out); rintro e w14 ⟨rfl, hb⟩; refine ⟨_, rfl, ?_⟩; have n0_ := qM (Kd.R_below (by (with_reducible repeat (first | apply Kd.R_alloc | apply Kd.R_drewN | apply Kd.R_drew)); exact HO600.out) hb); have n1_ := qM (blk_below (g := gb595) (o := .cells #[.int .i64 a0_0, .slice A0_1 l0_1.length c0_1, .int .i64 a0_2] 87 (0, 0)) (by (with_reducible repeat (first | refine qn ?_ _ | refine qd ?_ | refine qa ?_ _)); exact BK595.out) hb); have n2_ := qM (qs (by repeat (first | (with_reducible first | exact HB.out | apply qA | apply qN | apply qD | refine qS ?_ GE595.out) | exact HB.out)) hb); clear HO600; clear BK595; clear HB; have HO600 := n0_; have BK595 := n1_; have HB := n2_; clear n0_ n1_ n2_; (try clear hb); (try clear hb2); (try clear hk); (try clear hi)))
  go_ret
  exact ⟨by first | rfl | (simp [errW_none, errW_some] <;> rfl) | (simp [*, errW_none, errW_some] <;> rfl), by repeat (first | (with_reducible first | exact HB.out | apply qA | apply qN | apply qD | refine qS ?_ GE595.out) | exact HB.out)⟩
def impl_TracesOk_1.f (a0_0 : Int) (l0_1 : List (S117)) (a0_2 : Int) : Option (Bool) := (impl_Trace_ok.f a0_0 l0_1 a0_2).bind fun t603 => (some (!t603))
set_option maxHeartbeats 8000000 in
set_option maxRecDepth 100000 in
theorem impl_TracesOk_1.calls (a0_0 : Int) (A0_1 : Option Addr) (c0_1 : Nat) (l0_1 : List (S117)) (a0_2 : Int) (r : Bool) (w : World) (hr0_1 : Kd.C k117 w A0_1 l0_1.length l0_1) (hc0_1 : l0_1.length ≤ c0_1) (h : impl_TracesOk_1.f a0_0 l0_1 a0_2 = some r) :
    Calls Try.prog 121 #[.agg #[.int .i64 a0_0, .slice A0_1 l0_1.length c0_1, .int .i64 a0_2]] w fun e w' => e = .returned (.bool r) ∧ Below w.heap.size w w' := by
  have hu87 := Try.underlying87
  have HR0_1 := qM hr0_1
  have HC0_1 := qM hc0_1
  clear hr0_1 hc0_1
  have HB := qM (Below.refl w.heap.size w)
  have H : ((impl_Trace_ok.f a0_0 l0_1 a0_2).bind fun t603 => (some (!t603))) = some r := h
  clear h
  replace H := Option.bind_eq_some_iff.mp H
  obtain ⟨t603, A20, H⟩ := H
  replace H : (some (!t603)) = some r := H
  have A2 := qM A20
  clear A20
  obtain rfl := Option.some.inj H
  go_enter Try.func121, Try.ntmps121
  go_wp2_with (first | ((with_reducible refine gate_dst (N := 1) rfl ?_); refine box_event ?hg (N := 1) ?hd (cs := #[.int .i64 a0_0, .slice A0_1 l0_1.length c0_1, .int .i64 a0_2]) (t := 87) ?hr ?_; (case hd => rfl); (case hg => rfl); (case hr => first | (go_simp; done) | (go_simp; rfl)); intro gb602 hg w3 hbox hb; have n0_ := qM (qs (by repeat (first | (with_reducible first | exact HB.out | apply qA | apply qN | apply qD) | exact HB.out)) hb); have n1_ := qM (hbox); have n2_ := qM ((by rw [hg]; exact (qz (by repeat (first | (with_reducible first | exact HB.out | apply qA | apply qN | apply qD) | exact HB.out))) : w.heap.size ≤ gb602)); have n3_ := qM ((by rw [hg]; exact (qz (by repeat (first | (with_reducible first | exact HB.out | apply qA | apply qN | apply qD) | exact HB.out))) : w.heap.size ≤ gb602)); clear HB; have HB := n0_; have BK602 := n1_; have GW602 := n2_; have GE602 := n3_; clear n0_ n1_ n2_ n3_; clear hb hbox hg; have hcz4_0 : w3.cell? ⟨gb602, 0, none⟩ = some (.int .i64 a0_0) := (qC BK602.out 0).trans rfl; have hcz4_1 : w3.cell? ⟨gb602, 1, none⟩ = some (.slice A0_1 l0_1.length c0_1) := (qC BK602.out 1).trans rfl; have hcz4_2 : w3.cell? ⟨gb602, 2, none⟩ = some (.int .i64 a0_2) := (qC BK602.out 2).trans rfl; have hfz4_0 := qF BK602.out 0; have hfz4_1 := qF BK602.out 1; have hfz4_2 := qF BK602.out 2) | ((with_reducible refine gate_callee (f := 112) rfl ?_); refine goesL_ (some 4) rfl rfl Try.func112 (by kernel_rfl) rfl #[.agg #[.int .i64 a0_0, .slice A0_1 l0_1.length c0_1, .int .i64 a0_2]] rfl (by (try simp only [List.map_toArray, List.map_cons, List.map_nil]); first | done | rfl | (simp only [List.length_drop, List.length_take]; rfl)) ?_; (with_reducible refine (impl_Trace_ok.calls a0_0 _ _ l0_1 a0_2 t603 _ ?side1 ?side2 A2.out).mono ?_); (case side1 => repeat (first | exact (qB HR0_1.out HB.out) | (with_reducible refine qc ?_ _) | (with_reducible refine qe ?_ _) | (with_reducible refine qf ?_))); (case side2 => exact HC0_1.out); rintro e w5 ⟨rfl, hb⟩; refine ⟨_, rfl, ?_⟩; have n0_ := qM (blk_below (g := gb602) (o := .cells #[.int .i64 a0_0, .slice A0_1 l0_1.length c0_1, .int .i64 a0_2] 87 (0, 0)) (by (with_reducible repeat (first | refine qn ?_ _ | refine qd ?_ | refine qa ?_ _)); exact BK602.out) hb); have n1_ := qM (qs (by repeat (first | (with_reducible first | exact HB.out | apply qA | apply qN | apply qD | refine qS ?_ GE602.out) | exact HB.out)) hb); clear BK602; clear HB; have BK602 := n0_; have HB := n1_; clear n0_ n1_; (try clear hb); (try clear hb2); (try clear hk); (try clear hi)))
  go_ret
  exact ⟨by first | rfl | (simp [errW_none, errW_some] <;> rfl) | (simp [*, errW_none, errW_some] <;> rfl), by repeat (first | (with_reducible first | exact HB.out | apply qA | apply qN | apply qD | refine qS ?_ GE602.out) | exact HB.out)⟩
end Go.Proofs.Ytgbjbpjmbghlbaa.G
end
section
namespace Go.Proofs.Ytgbjbpjmbghlbaa.G
open Go.RowKit Go.Proofs.YtgbjbpjmbghlbaaW.PrintWords Go.Proofs.YtgbjbpjmbghlbaaW.PrintLast Go.Proofs.YtgbjbpjmbghlbaaW.PrintMore
set_option linter.unusedVariables false
set_option linter.unusedSimpArgs false
def TellsTrace (c : Nat) (lb : Array Value) (P : S87 → Bool) (w : World) (l : List (S87)) : Prop :=
  ∀ x ∈ l, ∀ (cs : List Value) (W : World), Below w.heap.size w W → k87.K W x cs → Calls Try.prog c (#[.agg cs.toArray] ++ lb) W fun e W' => e = .returned (.bool (P x)) ∧ Below W.heap.size W W'
theorem rd_atTrace (l : List S87) (i : Nat) (h : i < l.length) : rd_T87 l (i : Int) = l[i] := by
  simp only [rd_T87, Int.toNat_natCast, List.getD_eq_getElem?_getD, List.getElem?_eq_getElem h, Option.getD_some]
set_option maxHeartbeats 8000000 in
set_option maxRecDepth 100000 in
theorem indexFuncTrace (c : Nat) (lb : Array Value) (P : S87 → Bool) (A : Option Addr) (cap : Nat) (l : List S87) (w : World) (hr : Kd.C k87 w A l.length l) (hrun : ∀ (args : Array Value) (W : World), (callFunc c args).run Try.prog W = .ok (.enter c args) W) (hT : TellsTrace c lb P w l) :
    Calls Try.prog 146 #[.slice A l.length cap, .func (.func c) #[] lb] w fun e w' => e = .returned (.int .i64 (idxFrom P l 0)) ∧ Below w.heap.size w w' := by
  have hu := Try.underlying87
  have HR := qM hr
  have HT := qM hT
  have hE := hrun
  clear hr hT hrun
  go_enter Try.func146, Try.ntmps146
  go_wp2
  go_loopg [8] l.length (fun kq v8 w' => ∃ i : Nat, v8 = .int .i64 (i : Int) ∧ Aside0 (i + kq = l.length) ∧ Aside0 (idxFrom P l 0 = idxFrom P (l.drop i) i) ∧ Aside0 (Below w.heap.size w w'))
  case atStart => exact ⟨0, by simp, ⟨by omega⟩, ⟨by simp⟩, ⟨Below.refl _ _⟩⟩
  case round =>
    obtain ⟨i, rfl, HI, HP, HB⟩ := hrel
    cases gk with
    | zero =>
      have hi : i = l.length := by have := HI.out; omega
      subst hi
      have hb : decide ((l.length : Int) < (l.length : Int)) = false := decide_eq_false (by omega)
      have hres : idxFrom P l 0 = -1 := by rw [HP.out, List.drop_length]; rfl
      have HRes := qM hres
      clear hres HP
      go_wp2
      go_ret
      exact ⟨by rw [HRes.out]; rfl, HB.out⟩
    | succ gk =>
      have hlt : i < l.length := by have := HI.out; omega
      have hb : decide ((i : Int) < (l.length : Int)) = true := decide_eq_true (by omega)
      obtain ⟨ad, A1, c1, e, hx0, hx1, hx2, hl1, hC1⟩ := at_T87 HR.out (i : Int) (by omega) (by omega)
      cases e
      have hlen := HR.out.2.1
      have hmax : (i : Int) + 1 ≤ 9223372036854775807 := by omega
      have hc0 : wr.cell? (ad.add (i * 3)) = some (.int .i64 (rd_T87 l (i : Int)).f0) := by
        have h1 := (HB.out.cell (qL w _ hx0)).trans hx0
        simpa only [Int.toNat_natCast] using h1
      have hc1 : wr.cell? (⟨(ad.add (i * 3)).block, (ad.add (i * 3)).off + 1, none⟩) = some (.slice A1 (rd_T87 l (i : Int)).f1.length c1) := by
        have h1 := (HB.out.cell (qL w _ hx1)).trans hx1
        simpa only [Int.toNat_natCast] using h1
      have hc2 : wr.cell? (⟨(ad.add (i * 3)).block, (ad.add (i * 3)).off + 2, none⟩) = some (.int .i64 (rd_T87 l (i : Int)).f2) := by
        have h1 := (HB.out.cell (qL w _ hx2)).trans hx2
        simpa only [Int.toNat_natCast] using h1
      have HK := qM (k87_mk wr (rd_T87 l (i : Int)) hl1 (qB hC1 HB.out))
      clear hx0 hx1 hx2
      have p0 : (0 ≤ (i : Int)) = True := eq_true (by omega)
      have q0 : ((i : Int) < (l.length : Int)) = True := eq_true (by omega)
      have hstep : idxFrom P l 0 = if P (rd_T87 l (i : Int)) = true then (i : Int) else idxFrom P (l.drop (i + 1)) (i + 1) := by
        rw [HP.out, List.drop_eq_getElem_cons hlt, idxFrom, rd_atTrace l i hlt]
      have HS := qM hstep
      clear hstep HP
      go_wp2_with fail
      refine (HT.out _ (by rw [rd_atTrace l i hlt]; exact List.getElem_mem hlt) _ wr HB.out HK.out).mono ?_
      rintro e w1 ⟨rfl, hb1⟩
      have HB1 := qM (HB.out.trans (hb1.mono HB.out.size))
      clear hb1 HB hc0 hc1 hc2 HK
      by_cases hP : P (rd_T87 l (i : Int)) = true
      · have HR1 := qM (HS.out.trans (if_pos hP))
        go_wp2
        go_ret
        exact ⟨by rw [HR1.out]; rfl, HB1.out⟩
      · have HR1 := qM (HS.out.trans (if_neg hP))
        have hP' : P (rd_T87 l (i : Int)) = false := by simpa using hP
        clear hP
        go_wp2
        go_roundg gk
        case measure => omega
        case rel => exact ⟨i + 1, by go_num, ⟨by have := HI.out; omega⟩, ⟨HR1.out⟩, HB1⟩
set_option maxHeartbeats 8000000 in
set_option maxRecDepth 100000 in
theorem containsFuncTrace (c : Nat) (lb : Array Value) (P : S87 → Bool) (A : Option Addr) (cap : Nat) (l : List S87) (w : World) (hr : Kd.C k87 w A l.length l) (hrun : ∀ (args : Array Value) (W : World), (callFunc c args).run Try.prog W = .ok (.enter c args) W) (hT : TellsTrace c lb P w l) :
    Calls Try.prog 92 #[.slice A l.length cap, .func (.func c) #[] lb] w fun e w' => e = .returned (.bool (l.any P)) ∧ Below w.heap.size w w' := by
  have HR := qM hr
  have HT := qM hT
  have HE := qM hrun
  clear hr hT hrun
  have hany : decide (0 ≤ idxFrom P l 0) = l.any P := idx_any P l 0
  have HA := qM hany
  clear hany
  generalize hx : l.any P = b at HA ⊢
  clear hx
  go_enter Try.func92, Try.ntmps92
  go_wp2_with (go_at_call 146; refine (indexFuncTrace c lb P A cap l _ HR.out HE.out HT.out).mono ?_; rintro e w1 ⟨rfl, hb1⟩)
  go_ret
  exact ⟨by rw [← HA.out]; rfl, hb1⟩
end Go.Proofs.Ytgbjbpjmbghlbaa.G
end
section
namespace Go.Proofs.Ytgbjbpjmbghlbaa.G
open Go.RowKit Go.Proofs.YtgbjbpjmbghlbaaW.PrintWords Go.Proofs.YtgbjbpjmbghlbaaW.PrintLast Go.Proofs.YtgbjbpjmbghlbaaW.PrintMore
set_option linter.unusedVariables false
set_option linter.unusedSimpArgs false
def impl_TracesOk_1_any.f (l0 : List S87) : Option Bool := if (∀ x ∈ l0, (impl_TracesOk_1.f x.f0 x.f1 x.f2).isSome = true) then some (l0.any fun x => (impl_TracesOk_1.f x.f0 x.f1 x.f2).getD false) else none
theorem impl_TracesOk_1_any.calls (A0 : Option Addr) (c0 : Nat) (l0 : List S87) (r : Bool) (w : World) (hr0 : Kd.C k87 w A0 l0.length l0) (hc0 : l0.length ≤ c0) (h : impl_TracesOk_1_any.f l0 = some r) :
    Calls Try.prog 92 #[.slice A0 l0.length c0, .func (.func 121) #[] #[]] w fun e w' => e = .returned (.bool r) ∧ Below w.heap.size w w' := by
  unfold impl_TracesOk_1_any.f at h
  split at h
  · rename_i hs
    obtain rfl := Option.some.inj h
    refine containsFuncTrace 121 #[] _ A0 c0 l0 w hr0 (enters_fn Try.func121 (by kernel_rfl) rfl) (fun x hx cs W hb hK => ?_)
    obtain ⟨A1, c1, rfl, hl, hC⟩ := k87_open hK
    obtain ⟨b, hb⟩ := Option.isSome_iff_exists.1 (hs x hx)
    rw [hb]
    exact impl_TracesOk_1.calls x.f0 A1 c1 x.f1 x.f2 b W hC hl hb
  · cases h
end Go.Proofs.Ytgbjbpjmbghlbaa.G
end
